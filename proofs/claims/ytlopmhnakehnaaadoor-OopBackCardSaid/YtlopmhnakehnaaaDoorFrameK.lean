/-
  What OopBack's row's condition gives the walk: the variables spares and uint64pow10. No statement of the seat is proved here.
-/
import Derived.Test.YtlopmhnakehnaaaDoorFrameB
import Derived.Test.YtlopmhnakehnaaaDoorFrameH
import Derived.Test.YtlopmhnakehnaaaDoorLawK
import Derived.Lib.LaidTab
import Derived.Stop.LaidErr
namespace Go.Proofs.YtlopmhnakehnaaaDoor
open Go.ChangeShapes Go.WideShapes Go.ChangeAt Go.RowKit

def laid6 : List (String × DataW Unit) := [("math/bits.deBruijn32tab", Rows.laid_math_bits_deBruijn32tab), ("math/bits.deBruijn64tab", Rows.laid_math_bits_deBruijn64tab), ("internal/strconv.uint64pow10", Rows.laid_internal_strconv_uint64pow10), ("strconv.ErrRange", Rows.laid_strconv_ErrRange), ("strconv.ErrSyntax", Rows.laid_strconv_ErrSyntax), ("effigy/oop.spares", Rows.laid_effigy_oop_spares)]
theorem pow10_data : (Rows.laid_internal_strconv_uint64pow10 : DataW Unit) = Lib.tabData .u64 Lib.pow10Tab := by rfl
theorem tPow10 : (Tryd.prog.globals[3]?).map (·.type) = some 103 := by kernel_rfl
/-- the door's own heap meets the condition -/
theorem door_met6 (os : Os) (args : Array Value) : laidMetH Tryd.prog laid6 ((World.doorLaid Tryd.prog 400 os).forCall (fun _ _ => 0) ⟨#[], args, []⟩).memory :=
  laidMetH_of_parts3 (fuel := 8) (laidMet_of_run' 8 (by kernel_rfl) (by kernel_rfl)) (by kernel_rfl) (by kernel_rfl)
set_option maxRecDepth 100000 in
theorem of_laid6 {W : World} (h : laidMetH Tryd.prog laid6 W) : Spares W ∧ 0 < W.heap.size ∧ Tab W := by
  rw [MakeChecks.laidMetH_plain _ _ _ (by kernel_rfl)] at h
  have h3 := (laidMet.tail (laidMet.tail h))
  have h6 := laidMet.tail (laidMet.tail (laidMet.tail h3))
  have ht : Tab W := by
    rw [pow10_data] at h3
    exact Lib.tabIs_of_head pow10_named tPow10 Tryd.underlying103 Tryd.underlying83 (by kernel_rfl) (by kernel_rfl) h3
  obtain ⟨ps, ⟨g0, t0, cs0, f0, p0, q0, hg0, ht0, hv0, hd0, _, _⟩, _⟩ := h6
  obtain rfl := Option.some.inj (gSpares.symm.trans hg0)
  obtain rfl := Option.some.inj (tSpares.symm.trans ht0)
  have hc := cells_of_bools (zs := [false, false, true, false, false]) (n := 5) Tryd.underlying74 Tryd.underlying4 (by kernel_rfl) (by kernel_rfl) hd0
  have key : Spares W := by
    intro i hi
    have h1 := World.var?_cell hg0 hv0 i
    have h2 := hc i hi
    rw [h1]
    rw [Array.getElem?_toList] at h2
    rw [h2]
    obtain rfl | rfl | rfl | rfl | rfl : i = 0 ∨ i = 1 ∨ i = 2 ∨ i = 3 ∨ i = 4 := by omega
    all_goals rfl
  exact ⟨key, World.block_lt_of_cell? _ _ (key 0 (by omega)), ht⟩
end Go.Proofs.YtlopmhnakehnaaaDoor
