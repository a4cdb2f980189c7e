/-
  The splitting in general; the law CodeLess f4. No statement of the seat is proved here.
-/
import Derived.Test.YtaeegkljldngmaaCvH
import Derived.Test.YtaeegkljldngmaaCwK
namespace Go.Proofs.Ytaeegkljldngmaa
open Go.RowKit

theorem splits_all (s : Shp) (l : List Ins) : SplitsOk s l := by
  intro base K D W hs hl hv hB ok h1 h2 h3 h4
  subst hs hl
  rcases Nat.eq_zero_or_pos K.l.length with h0 | h0
  · exact split_nil hv hB (List.eq_nil_of_length_eq_zero h0) h1 h2 h3 h4
  · exact split_any hv hB ok h0 h1 h2 h3 h4
end Go.Proofs.Ytaeegkljldngmaa
