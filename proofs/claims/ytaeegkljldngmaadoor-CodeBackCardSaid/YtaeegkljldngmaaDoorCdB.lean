/-
  The size of an opcode (entry.size f41, Size f19, Name f18). No statement of the seat is proved here.
-/
import Derived.Test.YtaeegkljldngmaaDoorCdA
namespace Go.Proofs.YtaeegkljldngmaaDoor
open Go.RowKit

/-- How many bytes operands of that kind take. -/
def cnt3 (h : Int) : Nat → Int
  | 0 => 0
  | 1 => if h = 1 ∨ h = 3 ∨ h = 15 then 1 else 0
  | 2 => if h = 3 ∨ h = 15 then 2 else if h = 1 then 1 else 0
  | _ => if h = 15 then 3 else if h = 3 then 2 else if h = 1 then 1 else 0
def szH (h : Int) : Int := 1 + cnt3 h 3 + if h = 8 ∨ h = 15 then 2 else 0
theorem ent_has (k : Nat) : (ent k).has = 0 ∨ (ent k).has = 1 ∨ (ent k).has = 3 ∨ (ent k).has = 8 ∨ (ent k).has = 15 := by
  by_cases h : k < 26
  · have : ∀ k : Fin 26, (ent k.1).has = 0 ∨ (ent k.1).has = 1 ∨ (ent k.1).has = 3 ∨ (ent k.1).has = 8 ∨ (ent k.1).has = 15 := by decide
    exact this ⟨k, h⟩
  · refine .inl ?_
    unfold ent
    rw [show entL.getD (Int.toNat (k : Int)) En.zero = En.zero from by simp [List.getD, show entL.length ≤ k from by simp [entL]; omega]]
    rfl
theorem idx0 (a b c : Int) (w : World) : (Instr.index 65 (.agg #[.int .i64 a, .int .i64 b, .int .i64 c]) (.int .i64 0)).run Tryd.prog w = .ok (.int .i64 a) w := by kernel_rfl
theorem idx1 (a b c : Int) (w : World) : (Instr.index 65 (.agg #[.int .i64 a, .int .i64 b, .int .i64 c]) (.int .i64 1)).run Tryd.prog w = .ok (.int .i64 b) w := by kernel_rfl
theorem idx2 (a b c : Int) (w : World) : (Instr.index 65 (.agg #[.int .i64 a, .int .i64 b, .int .i64 c]) (.int .i64 2)).run Tryd.prog w = .ok (.int .i64 c) w := by kernel_rfl
set_option maxRecDepth 100000 in
set_option maxHeartbeats 4000000 in
theorem size_ok (e : En) (w : World) (h : e.has = 0 ∨ e.has = 1 ∨ e.has = 3 ∨ e.has = 8 ∨ e.has = 15) :
    Calls Tryd.prog 21 #[e.val] w fun x w' => x = .returned (.int .i64 (szH e.has)) ∧ Below w.heap.size w w' := by
  obtain ⟨nm, has, take, put, ends⟩ := e
  dsimp only at h
  simp only [En.val]
  go_enter Tryd.func21, Tryd.ntmps21
  go_wp2
  go_loopw [3, 7] (fun n i wr => ∃ k : Nat, k ≤ 3 ∧ i = .int .i64 k ∧ n = .int .i64 (1 + cnt3 has k) ∧ wr = w.alloc (.cells #[.string nm, .int .i64 has, .int .i64 take, .int .i64 put, .bool ends] 50)) (fun _ i _ => 3 - (intOf i).toNat)
  case atStart => exact ⟨0, by omega, rfl, rfl, rfl⟩
  case round =>
    obtain ⟨k, hk, rfl, rfl, rfl⟩ := hrel
    obtain rfl | rfl | rfl | rfl : k = 0 ∨ k = 1 ∨ k = 2 ∨ k = 3 := by omega
    all_goals obtain rfl | rfl | rfl | rfl | rfl := h
    all_goals simp only [show ((0 : Nat) : Int) = 0 from rfl, show ((1 : Nat) : Int) = 1 from rfl, show ((2 : Nat) : Int) = 2 from rfl, show ((3 : Nat) : Int) = 3 from rfl]
    all_goals have x0 := idx0
    all_goals have x1 := idx1
    all_goals have x2 := idx2
    all_goals go_wp2
    all_goals first
      | exact ⟨⟨1, by omega, rfl, congrArg (Value.int .i64) (by first | rfl | decide | kernel_rfl | (simp [cnt3, wrap64])), trivial⟩, by decide⟩
      | exact ⟨⟨2, by omega, rfl, congrArg (Value.int .i64) (by first | rfl | decide | kernel_rfl | (simp [cnt3, wrap64])), trivial⟩, by decide⟩
      | exact ⟨⟨3, by omega, rfl, congrArg (Value.int .i64) (by first | rfl | decide | kernel_rfl | (simp [cnt3, wrap64])), trivial⟩, by decide⟩
      | (go_ret; exact ⟨ret_int (by first | rfl | decide | kernel_rfl | (simp [cnt3, szH, wrap64])), (Below.refl _ _).alloc (Nat.le_refl _) _⟩)
      | (trace_state; sorry)
theorem size_any (k : Nat) (w : World) : Calls Tryd.prog 21 #[(ent k).val] w fun x w' => x = .returned (.int .i64 (szH (ent k).has)) ∧ Below w.heap.size w w' := size_ok _ w (ent_has k)
/-- An opcode's bytes; 0: there is none. -/
def szO (op : Int) : Int := if 1 ≤ op ∧ op < 26 then szH (ent op).has else 0
def nmO (op : Int) : ByteArray := if 1 ≤ op ∧ op < 26 then (ent op).nm else ⟨#[]⟩
set_option maxRecDepth 100000 in
set_option maxHeartbeats 4000000 in
theorem Size_any (op : Int) (w : World) : Calls Tryd.prog 58 #[.int .i64 op] w fun x w' => x = .returned (.int .i64 (szO op)) ∧ Below w.heap.size w w' := by
  by_cases h : 1 ≤ op ∧ op < 26
  · obtain ⟨k, rfl⟩ : ∃ k : Nat, op = k := ⟨op.toNat, by omega⟩
    have e1 : ∀ w, Calls Tryd.prog 14 #[.int .i64 (k : Int)] w (fun e w' => e = .returned (.tuple #[.agg #[.string (ent k).nm, .int .i64 (ent k).has, .int .i64 (ent k).take, .int .i64 (ent k).put, .bool (ent k).ends], .bool true]) ∧ Below w.heap.size w w') := fun w => ops_ok k w (by omega) (by omega)
    have e2 : ∀ w, Calls Tryd.prog 21 #[.agg #[.string (ent k).nm, .int .i64 (ent k).has, .int .i64 (ent k).take, .int .i64 (ent k).put, .bool (ent k).ends]] w (fun x w' => x = .returned (.int .i64 (szH (ent k).has)) ∧ Below w.heap.size w w') := fun w => size_any k w
    have e3 : szO (k : Int) = szH (ent k).has := if_pos h
    generalize ent (k : Int) = en at *
    obtain ⟨nm, has, take, put, ends⟩ := en
    dsimp only at e1 e2 e3
    rw [e3]
    clear e3 h
    have z74 : ∀ w : World, (zeroValue 50).run Tryd.prog w = .ok (.agg #[.string ⟨#[]⟩, .int .i64 0, .int .i64 0, .int .i64 0, .bool false]) w := fun w => by kernel_rfl
    have E1 := Lib.hid e1
    have E2 := Lib.hid e2
    clear e1 e2
    go_enter Tryd.func58, Tryd.ntmps58
    go_wp2_with (first | (go_at_call 14; refine (E1.out _).mono ?_; rintro e w1 ⟨rfl, hb⟩) | (go_at_call 21; refine (E2.out _).mono ?_; rintro e w2 ⟨rfl, hb2⟩))
    all_goals (go_ret; exact ⟨rfl, (hb.alloc hb.size _).trans (hb2.mono (by have := hb.size; simp; omega))⟩)
  · rw [show szO op = 0 from if_neg h]
    have z74 : ∀ w : World, (zeroValue 50).run Tryd.prog w = .ok (.agg #[.string ⟨#[]⟩, .int .i64 0, .int .i64 0, .int .i64 0, .bool false]) w := fun w => by kernel_rfl
    have E1 := Lib.hid (show ∀ w, Calls Tryd.prog 14 #[.int .i64 op] w (fun e w' => e = .returned (.tuple #[.agg #[.string ⟨#[]⟩, .int .i64 0, .int .i64 0, .int .i64 0, .bool false], .bool false]) ∧ Below w.heap.size w w') from fun w => ops_no op w (by omega))
    clear h
    go_enter Tryd.func58, Tryd.ntmps58
    go_wp2_with (go_at_call 14; refine (E1.out _).mono ?_; rintro e w1 ⟨rfl, hb⟩)
    all_goals (go_ret; exact ⟨rfl, hb.alloc hb.size _⟩)
end Go.Proofs.YtaeegkljldngmaaDoor
