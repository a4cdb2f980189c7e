/-
  Words of a line: jumps f20, named f39, number f41. No statement of the seat is proved here.
-/
import Derived.Test.YtaeegkljldngmaaDoorTxP
import Derived.Test.YtaeegkljldngmaaDoorShelf
import Derived.Laws.RangeString
import Derived.Laws.RangeAny
import Derived.Lib.OthersKept
import Derived.Lib.SmallJoins
namespace Go.Proofs.YtaeegkljldngmaaDoor
open Go.RowKit

theorem jmp_any (op : Int) (w : World) : Calls Tryd.prog 20 #[.int .i64 op] w fun e w' => e = .returned (.bool (jmpO op)) ∧ w' = w := by
  obtain ⟨b, hb⟩ : ∃ b, jmpO op = b := ⟨_, rfl⟩
  rw [hb]
  have HB := Lib.hid hb
  clear hb
  by_cases h1 : op = 18
  · subst h1
    go_enter Tryd.func20, Tryd.ntmps20
    go_wp2
    go_ret
    exact ⟨ret_bool (by rw [← HB.out]; decide), rfl⟩
  · by_cases h2 : op = 19
    · subst h2
      go_enter Tryd.func20, Tryd.ntmps20
      go_wp2
      go_ret
      exact ⟨ret_bool (by rw [← HB.out]; decide), rfl⟩
    · have t1 : (op == 18) = false := by simpa using h1
      have t2 : (op == 19) = false := by simpa using h2
      have HB2 : Hid ((op == 20) = b) := Lib.hid (by
        have := HB.out
        unfold jmpO at this
        rw [decide_eq_false h1, decide_eq_false h2, Bool.false_or, Bool.false_or] at this
        rw [← this]
        cases h3 : decide (op = 20) with
        | true => simpa using h3
        | false => simpa using h3)
      clear h1 h2 HB
      go_enter Tryd.func20, Tryd.ntmps20
      go_wp2
      go_ret
      exact ⟨ret_bool HB2.out, rfl⟩
theorem names_eq (i j : Fin 26) (h : i ≠ j) : ((ent i.1).nm.toList == (ent j.1).nm.toList) = false := by
  rw [beq_eq_false_iff_ne, ByteArray.toList_eq, ByteArray.toList_eq]
  exact fun e => h (names_one i j e)
set_option maxRecDepth 100000 in
set_option maxHeartbeats 4000000 in
theorem named_any (k : Nat) (h1 : 1 ≤ k) (hk : k < 26) (w : World) : Calls Tryd.prog 39 #[.string (ent k).nm] w fun e w' => e = .returned (.int .i64 (k : Int)) ∧ Below w.heap.size w w' := by
  have HE := Lib.hid fun (i : Nat) (hi : i < 26) (hne : i ≠ k) => names_eq ⟨i, hi⟩ ⟨k, hk⟩ (by simpa using hne)
  obtain ⟨nm, hnm⟩ : ∃ nm, (ent (k : Int)).nm = nm := ⟨_, rfl⟩
  rw [hnm]
  have HN := Lib.hid hnm
  clear hnm
  go_enter Tryd.func39, Tryd.ntmps39
  go_wp2
  go_loopw [3] (fun v wr => ∃ i : Nat, 1 ≤ i ∧ i ≤ k ∧ v = .int .i64 (i : Int) ∧ Below w.heap.size w wr) (fun v _ => k - (intOf v).toNat)
  case atStart => exact ⟨1, by omega, h1, rfl, Below.refl _ _⟩
  case round =>
    obtain ⟨i, hi1, hi2, rfl, hb⟩ := hrel
    have HB := Lib.hid hb
    have H14 := Lib.hid (show ∀ w, Calls Tryd.prog 14 #[.int .i64 (i : Int)] w (fun e w' => e = .returned (.tuple #[.agg #[.string (ent i).nm, .int .i64 (ent i).has, .int .i64 (ent i).take, .int .i64 (ent i).put, .bool (ent i).ends], .bool true]) ∧ Below w.heap.size w w') from fun w => ops_ok i w hi1 (by omega))
    clear hb
    by_cases hik : i = k
    · subst hik
      have t1 : ((ent (i : Int)).nm.toList == nm.toList) = true := by rw [HN.out]; simp
      generalize ent (i : Int) = en at *
      obtain ⟨en1, has, take, put, ends⟩ := en
      dsimp only at H14 t1
      clear HN HE
      go_wp2_with (go_at_call 14; refine (H14.out _).mono ?_; rintro e w1 ⟨rfl, hb1⟩; have HB1 := Lib.hid (HB.out.trans (hb1.mono HB.out.size)); clear hb1)
      go_ret
      exact ⟨rfl, HB1.out.alloc HB1.out.size _⟩
    · have t1 : ((ent (i : Int)).nm.toList == nm.toList) = false := by rw [← HN.out]; exact HE.out i (by omega) hik
      generalize ent (i : Int) = en at *
      obtain ⟨en1, has, take, put, ends⟩ := en
      dsimp only at H14 t1
      clear HN HE
      go_wp2_with (go_at_call 14; refine (H14.out _).mono ?_; rintro e w1 ⟨rfl, hb1⟩; have HB1 := Lib.hid (HB.out.trans (hb1.mono HB.out.size)); clear hb1)
      go_roundw
      case rel => exact ⟨i + 1, by omega, by omega, by go_num, HB1.out.alloc HB1.out.size _⟩
      case measure => simp [intOf]; omega
/-! ## Numbers -/
set_option maxRecDepth 1000000 in
set_option maxHeartbeats 4000000 in
theorem number_g (s d : ByteArray) (n : Int) (w : World) (hs : s.size ≤ 18) (hat : Lib.atoi s.data.toList = some n) (htr : Lib.trimPrefix s.data.toList [45] = d.data.toList) (h0 : 0 < d.size) (hz : (d[0]'h0).toNat ≠ 48)
    (hr : ∀ (i : Nat) (h : i < d.size), 48 ≤ (d[i]'h).toNat ∧ (d[i]'h).toNat ≤ 57) :
    Calls Tryd.prog 41 #[.string s] w fun e w' => e = .returned (.tuple #[.int .i64 n, .bool true]) ∧ Below w.heap.size w w' := by
  have H54 : Hid (∀ w, Calls Tryd.prog 54 #[.string s, .string ⟨#[45]⟩] w fun e w' => e = .returned (.string d) ∧ w = w') := Lib.hid fun w => (Tryd.strings_TrimPrefix s ⟨#[45]⟩ w).mono fun e w' h => by
    rw [show (⟨#[45]⟩ : ByteArray).data.toList = [45] from rfl, htr] at h
    exact ⟨h.1, h.2.symm⟩
  have H55 := Lib.hid fun w => Tryd.strconv_Atoi s n hs hat w
  have HR := Lib.hid hr
  have t1 : (d.toList == []) = false := by
    rw [beq_eq_false_iff_ne, ByteArray.toList_eq]
    intro e
    have h2 : d.data.toList.length = 0 := congrArg List.length e
    have h3 : d.data.toList.length = d.size := Array.length_toList
    omega
  have t2 : (((d[0]'h0).toNat : Int) == 48) = false := by rw [beq_eq_false_iff_ne]; omega
  have l1 : (0 : Int) < (d.size : Int) := by omega
  clear hs hat htr hz hr
  go_enter Tryd.func41, Tryd.ntmps41
  go_wp2_with (go_at_call 54; refine (H54.out _).mono ?_; rintro e w1 ⟨rfl, rfl⟩)
  go_loopw [] (fun w' => ∃ pos : Nat, w' = w.iter d pos) (fun w' => d.size - w'.iterPos w.heap.size)
  case atStart => exact ⟨0, rfl⟩
  case round =>
    obtain ⟨pos, rfl⟩ := hrel
    by_cases hp : pos < d.size
    · have hl := HR.out pos hp
      have hnx : ∀ ty, (Instr.next (.pointer (some ⟨w.heap.size, 0, none⟩)) true ty).run Tryd.prog (w.iter d pos) = _ := fun ty => run_next_ascii w d pos ty hp (by omega)
      generalize hc : ((d[pos]'hp).toNat : Int) = c at hnx
      have q1 : (48 : Int) ≤ c := by omega
      have q2 : c ≤ (57 : Int) := by omega
      clear hl hc t2
      go_wp2
      go_roundw
      case rel => exact ⟨_, rfl⟩
      case measure =>
        simp
        omega
    · have hnx : ∀ ty, (Instr.next (.pointer (some ⟨w.heap.size, 0, none⟩)) true ty).run Tryd.prog (w.iter d pos) = _ := fun ty => run_next_end w d pos ty hp
      have hb1 : Below w.heap.size w (w.iter d pos) := (Below.refl _ w).alloc (Nat.le_refl _) _
      have HB1 := Lib.hid hb1
      clear hb1 t2
      generalize w.iter d pos = W at *
      go_wp2_with (go_at_call 55; refine (H55.out _).mono ?_; rintro e w2 ⟨rfl, t, rfl⟩)
      go_ret2
      exact ⟨rfl, HB1.out.trans ((Joins.below_bytesWorld W.heap.size W 5 t (Nat.le_refl _)).mono HB1.out.size)⟩
set_option maxRecDepth 1000000 in
set_option maxHeartbeats 4000000 in
theorem number_0 (w : World) : Calls Tryd.prog 41 #[.string ⟨#[48]⟩] w fun e w' => e = .returned (.tuple #[.int .i64 0, .bool true]) ∧ Below w.heap.size w w' := by
  have H54 : Hid (∀ w, Calls Tryd.prog 54 #[.string ⟨#[48]⟩, .string ⟨#[45]⟩] w fun e w' => e = .returned (.string ⟨#[48]⟩) ∧ w = w') := Lib.hid fun w => (Tryd.strings_TrimPrefix ⟨#[48]⟩ ⟨#[45]⟩ w).mono fun e w' h => ⟨h.1, h.2.symm⟩
  have H55 := Lib.hid fun w => Tryd.strconv_Atoi ⟨#[48]⟩ 0 (by decide) (by decide) w
  go_enter Tryd.func41, Tryd.ntmps41
  go_wp2_with (go_at_call 54; refine (H54.out _).mono ?_; rintro e w1 ⟨rfl, rfl⟩)
  go_loopw [] (fun w' => ∃ pos : Nat, w' = w.iter ⟨#[48]⟩ pos) (fun w' => 1 - w'.iterPos w.heap.size)
  case atStart => exact ⟨0, rfl⟩
  case round =>
    obtain ⟨pos, rfl⟩ := hrel
    by_cases hp : pos < (⟨#[48]⟩ : ByteArray).size
    · have hp1 : pos < 1 := hp
      obtain rfl : pos = 0 := by omega
      have hnx : ∀ ty, (Instr.next (.pointer (some ⟨w.heap.size, 0, none⟩)) true ty).run Tryd.prog (w.iter ⟨#[48]⟩ 0) = _ := fun ty => run_next_ascii w ⟨#[48]⟩ 0 ty hp (show (48 : UInt8).toNat < 128 by decide)
      rw [show ((((⟨#[48]⟩ : ByteArray)[0]'hp).toNat : Nat) : Int) = 48 from rfl] at hnx
      clear hp hp1
      go_wp2
      go_roundw
      case rel => exact ⟨_, rfl⟩
      case measure => simp
    · have hnx : ∀ ty, (Instr.next (.pointer (some ⟨w.heap.size, 0, none⟩)) true ty).run Tryd.prog (w.iter ⟨#[48]⟩ pos) = _ := fun ty => run_next_end w ⟨#[48]⟩ pos ty hp
      have hb1 : Below w.heap.size w (w.iter ⟨#[48]⟩ pos) := (Below.refl _ w).alloc (Nat.le_refl _) _
      have HB1 := Lib.hid hb1
      clear hb1 hp
      generalize w.iter ⟨#[48]⟩ pos = W at *
      go_wp2_with (go_at_call 55; refine (H55.out _).mono ?_; rintro e w2 ⟨rfl, t, rfl⟩)
      go_ret2
      exact ⟨rfl, HB1.out.trans ((Joins.below_bytesWorld W.heap.size W 5 t (Nat.le_refl _)).mono HB1.out.size)⟩
theorem number_any (n : Int) (w : World) (h1 : -2147483648 ≤ n) (h2 : n ≤ 2147483647) :
    Calls Tryd.prog 41 #[.string ⟨(Lib.itoa n).toArray⟩] w fun e w' => e = .returned (.tuple #[.int .i64 n, .bool true]) ∧ Below w.heap.size w w' := by
  by_cases h0 : n = 0
  · subst h0
    have e : (⟨(Lib.itoa 0).toArray⟩ : ByteArray) = ⟨#[48]⟩ := by
      have : Lib.itoa 0 = [48] := by
        unfold Lib.itoa
        rw [if_neg (by decide), Lib.decDigits_one (by decide)]
        rfl
      rw [this]
    rw [e]
    exact number_0 w
  · obtain ⟨b, r, hd, hb⟩ := digits_head n.natAbs (by omega)
    have hl := (itoa_len h1 h2).1
    refine number_g ⟨(Lib.itoa n).toArray⟩ ⟨(Lib.decDigits n.natAbs).toArray⟩ n w ?_ ?_ ?_ ?_ ?_ ?_
    · show (Lib.itoa n).toArray.size ≤ 18
      rw [List.size_toArray]
      omega
    · show Lib.atoi (Lib.itoa n) = some n
      exact atoi_itoa n
    · show Lib.trimPrefix (Lib.itoa n) [45] = Lib.decDigits n.natAbs
      exact trim_itoa n
    · show 0 < (Lib.decDigits n.natAbs).toArray.size
      rw [hd]
      simp
    · show ((Lib.decDigits n.natAbs).toArray[0]'_).toNat ≠ 48
      simp only [hd, List.getElem_toArray, List.getElem_cons_zero]
      exact hb
    · intro i h
      have := digits_range n.natAbs ((Lib.decDigits n.natAbs)[i]'(by have h2 : i < (Lib.decDigits n.natAbs).toArray.size := h; rwa [List.size_toArray] at h2)) (List.getElem_mem _)
      exact this
end Go.Proofs.YtaeegkljldngmaaDoor
