/-
  The walk of kinds. No statement of the seat is proved here.
-/
import Derived.Test.YtjhkfpemcplaaaaClJ
import Derived.Test.YtjhkfpemcplaaaaMapI
namespace Go.Proofs.Ytjhkfpemcplaaaa
open Go.RowKit

def clV (f g : Nat) : Value := .func (.func f) #[.pointer (some ⟨g, 0, none⟩)] #[]
def kF (g : Nat) : List (Int × Value) := [(2, clV 77 g), (4, clV 78 g), (5, clV 79 g), (6, clV 80 g)]
set_option maxRecDepth 20000 in
theorem kinds_any (g : Nat) (w : World) : Calls Try.prog 54 #[.pointer (some ⟨g, 0, none⟩)] w fun e w' => e = .returned (.map (some w.heap.size)) ∧ MapI .i64 w' w.heap.size (kF g) ∧ Below w.heap.size w w' := by
  have h0 := MapI.made w .i64
  have hb0 : Below w.heap.size w (w.alloc (.map #[] 0)) := (Below.refl _ _).alloc (Nat.le_refl _) _
  generalize hw0 : w.alloc (.map #[] 0) = w0 at *
  have put : ∀ {W : World} {f : List (Int × Value)} (_ : MapI .i64 W w.heap.size f) (_ : Below w.heap.size w W) (z : Int) (v : Value), MapI .i64 (mapPut W .i64 w.heap.size f z v) w.heap.size (f ++ [(z, v)]) ∧ Below w.heap.size w (mapPut W .i64 w.heap.size f z v) := fun hm hb z v =>
    ⟨hm.put z v, hb.os, hb.tape, hb.output, by rw [mapPut_size]; exact hb.size, fun k hk => (hm.put_far z v (by omega)).trans (hb.block k hk)⟩
  have hu1 := run_updateI (P := Try.prog) Try.underlying122 Try.underlying36 h0 2 (clV 77 g) rfl
  obtain ⟨h1, hb1⟩ := put h0 hb0 2 (clV 77 g)
  have hu2 := run_updateI (P := Try.prog) Try.underlying122 Try.underlying36 h1 4 (clV 78 g) rfl
  obtain ⟨h2, hb2⟩ := put h1 hb1 4 (clV 78 g)
  have hu3 := run_updateI (P := Try.prog) Try.underlying122 Try.underlying36 h2 5 (clV 79 g) rfl
  obtain ⟨h3, hb3⟩ := put h2 hb2 5 (clV 79 g)
  have hu4 := run_updateI (P := Try.prog) Try.underlying122 Try.underlying36 h3 6 (clV 80 g) rfl
  obtain ⟨h4, hb4⟩ := put h3 hb3 6 (clV 80 g)
  have H4 := Lib.hid h4
  have HB4 := Lib.hid hb4
  generalize hm1 : mapPut w0 .i64 w.heap.size [] 2 (clV 77 g) = m1 at *
  generalize hm2 : mapPut m1 .i64 w.heap.size _ 4 (clV 78 g) = m2 at *
  generalize hm3 : mapPut m2 .i64 w.heap.size _ 5 (clV 79 g) = m3 at *
  generalize hm4 : mapPut m3 .i64 w.heap.size _ 6 (clV 80 g) = m4 at *
  unfold clV at hu1 hu2 hu3 hu4
  clear h0 hb0 h1 hb1 h2 hb2 h3 hb3 h4 hb4 put hm1 hm2 hm3 hm4
  have hmm := @run_makeMap Try.prog
  go_enter Try.func54, Try.ntmps54
  go_wp2
  go_ret
  exact ⟨rfl, H4.out, HB4.out⟩
end Go.Proofs.Ytjhkfpemcplaaaa
