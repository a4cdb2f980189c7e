/-
  How long a slice that came in is. No statement of the seat is proved here.
-/
import Derived.Test.YtaeegkljldngmaaFrame
namespace Go.Proofs.Ytaeegkljldngmaa
open Go.Joins Go.ChangeShapes Go.WideShapes Go.RowKit Go.Deep

theorem ints_len {H : Type} {enc : TypeId × Value → H} {P : Program} {w : World} {base : Nat} {spare : Nat → Bool} {held : Bool} {t e : TypeId} {k : IntKind} {fuel n c : Nat} {A : Option Addr} {x : DataW H × List MemPlace} (ht : P.underlying t = some (.slice e)) (he : P.underlying e = some (.int k)) (hc : P.cellsOf e = 1)
    (h : DataW.trod enc P w base spare held fuel t [.slice A n c] = some x) : n = 0 ∨ ∃ el sp, x.1 = .slice el sp ∧ el.length = n := by
  rcases open_ints ht he hc h with ⟨hcs, _⟩ | ⟨a, l, c', zs, hcs, _, hl, hm, hz, hx, _, _⟩
  · simp at hcs
    exact .inl hcs.2.1
  · simp only [List.cons.injEq, Value.slice.injEq, and_true] at hcs
    obtain ⟨_, rfl, rfl⟩ := hcs
    have hlz : n ≤ zs.length := by rw [hz]; split <;> omega
    exact .inr ⟨_, _, by rw [hx], by simp [lits]; omega⟩
end Go.Proofs.Ytaeegkljldngmaa
