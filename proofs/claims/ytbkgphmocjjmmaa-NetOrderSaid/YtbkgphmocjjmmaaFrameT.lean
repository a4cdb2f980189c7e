/-
  A slice of texts that came in, and what the form's reach gives. No statement of the seat is proved here.
-/
import Derived.Test.YtbkgphmocjjmmaaFrameU
import Derived.SizedLaws
namespace Go.Proofs.Ytbkgphmocjjmmaa
open Go.Joins Go.ChangeShapes Go.WideShapes Go.RowKit Go.Deep
section
variable {H : Type} {enc : TypeId × Value → H} {P : Program} {w : World} {base : Nat} {spare : Nat → Bool} {held : Bool}
/-- a slice's length, by the reach -/
theorem slice_reach {P : Program} {ts : List TypeId} {ds : List (DataW H)} {j : Nat} {t e : TypeId} {fuel : Nat} {A : Option Addr} {n c : Nat} {x : DataW H × List MemPlace} (ht : P.underlying t = some (.slice e))
    (h : DataW.trod enc P w base spare held fuel t [.slice A n c] = some x) (hw : (DataW.weightsEach P ts ds).all (· ≤ reachBytes) = true) (h1 : ts[j]? = some t) (h2 : ds[j]? = some x.1) : n * P.bytesOf e ≤ reachBytes := by
  rcases DataW.trod_slice ht h with ⟨h0, hy⟩ | ⟨a, len, cap, elems, rest, n', hn', hcs, hy, hba, hlc', hcm, hel, hse, _, _⟩
  · simp only [List.cons.injEq, and_true] at h0
    cases h0
    simp
  · simp only [List.cons.injEq, and_true] at hcs
    cases hcs
    rw [hy] at h2
    have h3 := sized_slice hw h1 h2 ht
    simp only [List.length_map] at h3
    refine Nat.le_trans (Nat.mul_le_mul_right _ ?_) h3
    omega
end
end Go.Proofs.Ytbkgphmocjjmmaa
