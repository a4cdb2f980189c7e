/-
  The document's Moves f16. No statement of the seat is proved here.
-/
import Derived.Test.YtaeegkljldngmaaCvR
import Derived.Test.YtaeegkljldngmaaPlS
namespace Go.Proofs.Ytaeegkljldngmaa
open Go.RowKit

theorem mv_le {x : Ins} (ha : 0 ≤ x.a ∧ x.a ≤ 255) (hb : 0 ≤ x.b ∧ x.b ≤ 255) : 0 ≤ mvT x ∧ mvT x ≤ 300 ∧ 0 ≤ mvP x ∧ mvP x ≤ 2 := by
  unfold mvT mvP
  cases h : inO x.op with
  | false => simp
  | true =>
    have hop := inO_yes h
    have e : ∀ k : Fin 26, 0 ≤ (ent k.1).take ∧ (ent k.1).take ≤ 2 ∧ 0 ≤ (ent k.1).put ∧ (ent k.1).put ≤ 2 := by decide
    have := e ⟨x.op.toNat, by omega⟩
    rw [show ((x.op.toNat : Nat) : Int) = x.op by omega] at this
    unfold takeO putO
    simp only [if_true]
    split
    · omega
    · split <;> omega
set_option maxRecDepth 100000 in
set_option maxHeartbeats 8000000 in
theorem Moves_any (x : Ins) (w : World) (hb : 0 ≤ x.b ∧ x.b ≤ 255) : Calls Try.prog 16 #[x.val] w fun e w' => e = .returned (.tuple #[.int .i64 (mvT x), .int .i64 (mvP x)]) ∧ Below w.heap.size w w' := by
  have HB : Hid (∀ o, Below w.heap.size w (w.alloc o)) := Lib.hid fun o => (Below.refl _ _).alloc (Nat.le_refl _) o
  obtain ⟨op, a, b, c, z⟩ := x
  simp only [Ins.val]
  dsimp only at hb
  cases h : inO op with
  | false =>
    have hT : mvT ⟨op, a, b, c, z⟩ = 0 := by unfold mvT; dsimp only; rw [h]; rfl
    have hP : mvP ⟨op, a, b, c, z⟩ = 1 := by unfold mvP; dsimp only; rw [h]; rfl
    rw [hT, hP]
    have hno := inO_no h
    clear h hT hP
    rcases hno with hno | hno
    all_goals
      go_enter Try.func16, Try.ntmps16
      go_wp2
      go_ret2
      exact ⟨rfl, HB.out _⟩
  | true =>
    have hop := inO_yes h
    have hn : op = 1 ∨ op = 2 ∨ op = 3 ∨ op = 4 ∨ op = 5 ∨ op = 6 ∨ op = 7 ∨ op = 8 ∨ op = 9 ∨ op = 10 ∨ op = 11 ∨ op = 12 ∨ op = 13 ∨ op = 14 ∨ op = 15 ∨ op = 16 ∨ op = 17 ∨ op = 18 ∨ op = 19 ∨ op = 20 ∨ op = 21 ∨ op = 22 ∨ op = 23 ∨ op = 24 ∨ op = 25 := by omega
    clear h hop
    rcases hn with rfl | rfl | rfl | rfl | rfl | rfl | rfl | rfl | rfl | rfl | rfl | rfl | rfl | rfl | rfl | rfl | rfl | rfl | rfl | rfl | rfl | rfl | rfl | rfl | rfl
    all_goals
      as_aux_lemma =>
        go_enter Try.func16, Try.ntmps16
        go_wp2
        go_ret2
        exact ⟨rfl, HB.out _⟩
end Go.Proofs.Ytaeegkljldngmaa
