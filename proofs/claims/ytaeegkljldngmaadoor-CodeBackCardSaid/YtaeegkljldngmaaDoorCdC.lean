/-
  The document's Operands f42 and Size f20; headers: Header f21, the document's f22, Unheader f23. No statement of the seat is proved here.
-/
import Derived.Test.YtaeegkljldngmaaDoorCdB
namespace Go.Proofs.YtaeegkljldngmaaDoor
open Go.RowKit

/-- The operands of an opcode, from what its entry says. -/
def opnH (h : Int) : Int × Bool := if h = 1 then (1, false) else if h = 3 then (2, false) else if h = 8 then (0, true) else if h = 15 then (3, true) else (0, false)
def hasO (op : Int) : Int := if 1 ≤ op ∧ op < 26 then (ent op).has else 0
def opn (op : Int) : Int × Bool := opnH (hasO op)
theorem opn_none (op : Int) (h : ¬ (1 ≤ op ∧ op < 26)) : opn op = (0, false) := by
  unfold opn hasO
  rw [if_neg h]
  rfl
set_option maxRecDepth 100000 in
set_option maxHeartbeats 4000000 in
theorem Operands_any (op : Int) (w : World) : Calls Tryd.prog 27 #[.int .i64 op] w fun x w' => x = .returned (.tuple #[.int .i64 (opn op).1, .bool (opn op).2]) ∧ w' = w := by
  by_cases h : 1 ≤ op ∧ op < 26
  · obtain rfl | rfl | rfl | rfl | rfl | rfl | rfl | rfl | rfl | rfl | rfl | rfl | rfl | rfl | rfl | rfl | rfl | rfl | rfl | rfl | rfl | rfl | rfl | rfl | rfl : op = 1 ∨ op = 2 ∨ op = 3 ∨ op = 4 ∨ op = 5 ∨ op = 6 ∨ op = 7 ∨ op = 8 ∨ op = 9 ∨ op = 10 ∨ op = 11 ∨ op = 12 ∨ op = 13 ∨ op = 14 ∨ op = 15 ∨ op = 16 ∨ op = 17 ∨ op = 18 ∨ op = 19 ∨ op = 20 ∨ op = 21 ∨ op = 22 ∨ op = 23 ∨ op = 24 ∨ op = 25 := by omega
    all_goals clear h
    all_goals go_enter Tryd.func27, Tryd.ntmps27
    all_goals go_wp2
    all_goals (go_ret2; exact ⟨rfl, rfl⟩)
  · rw [opn_none op h]
    have n6 : ¬ op = 6 := by omega
    have n7 : ¬ op = 7 := by omega
    have n8 : ¬ op = 8 := by omega
    have n9 : ¬ op = 9 := by omega
    have n10 : ¬ op = 10 := by omega
    have n11 : ¬ op = 11 := by omega
    have n12 : ¬ op = 12 := by omega
    have n13 : ¬ op = 13 := by omega
    have n16 : ¬ op = 16 := by omega
    have n17 : ¬ op = 17 := by omega
    have n18 : ¬ op = 18 := by omega
    have n19 : ¬ op = 19 := by omega
    have n20 : ¬ op = 20 := by omega
    have n24 : ¬ op = 24 := by omega
    have n25 : ¬ op = 25 := by omega
    clear h
    go_enter Tryd.func27, Tryd.ntmps27
    go_wp2
    go_ret2
    exact ⟨rfl, rfl⟩
theorem szO_opn (op : Int) (h : 1 ≤ op ∧ op < 26) : szO op = (opn op).1 + (if (opn op).2 then 2 else 0) + 1 := by
  obtain rfl | rfl | rfl | rfl | rfl | rfl | rfl | rfl | rfl | rfl | rfl | rfl | rfl | rfl | rfl | rfl | rfl | rfl | rfl | rfl | rfl | rfl | rfl | rfl | rfl : op = 1 ∨ op = 2 ∨ op = 3 ∨ op = 4 ∨ op = 5 ∨ op = 6 ∨ op = 7 ∨ op = 8 ∨ op = 9 ∨ op = 10 ∨ op = 11 ∨ op = 12 ∨ op = 13 ∨ op = 14 ∨ op = 15 ∨ op = 16 ∨ op = 17 ∨ op = 18 ∨ op = 19 ∨ op = 20 ∨ op = 21 ∨ op = 22 ∨ op = 23 ∨ op = 24 ∨ op = 25 := by omega
  all_goals decide
set_option maxRecDepth 100000 in
theorem Rsize_any (op : Int) (w : World) : Calls Tryd.prog 11 #[.int .i64 op] w fun x w' => x = .returned (.int .i64 (szO op)) ∧ w' = w := by
  by_cases h : 1 ≤ op ∧ op < 26
  · have q1 : (decide (op < 1) || decide (25 < op)) = false := by simp; omega
    have q2 : ¬ op < 1 := by omega
    have q3 : ¬ 25 < op := by omega
    rw [szO_opn op h]
    have e1 := Lib.hid (Operands_any op)
    have hb : 0 ≤ (opn op).1 ∧ (opn op).1 ≤ 3 := by unfold opn opnH; split <;> (try split) <;> (try split) <;> (try split) <;> decide
    generalize opn op = p at *
    obtain ⟨n, t⟩ := p
    dsimp only at hb
    obtain ⟨l1, l2⟩ := hb
    clear h
    cases t
    all_goals go_enter Tryd.func11, Tryd.ntmps11
    all_goals go_wp2_with (go_at_call 27; refine (e1.out _).mono ?_; rintro e w1 ⟨rfl, rfl⟩)
    all_goals (go_ret; exact ⟨ret_int (by simp), rfl⟩)
  · rw [show szO op = 0 from if_neg h]
    have q1 : (decide (op < 1) || decide (25 < op)) = true := by simp; omega
    by_cases h1 : op < 1
    all_goals go_enter Tryd.func11, Tryd.ntmps11
    all_goals go_wp2
    all_goals (go_ret; exact ⟨rfl, rfl⟩)
end Go.Proofs.YtaeegkljldngmaaDoor
