/-
  Deliver where there is no packet at the place.
-/
import Derived.Test.YtbkgphmocjjmmaaNtQ
namespace Go.Proofs.Ytbkgphmocjjmmaa
open Go.RowKit

set_option maxRecDepth 20000 in
set_option maxHeartbeats 2000000 in
theorem take_err2 (p : Option Addr) (z i : Int) (er : Int) (w : World) (he : (er != 0) = true) (h : Calls Try.prog 37 #[.pointer p, .int .i64 z, .slice (some ⟨w.heap.size + 1, 0, none⟩) 1 1] ((w.alloc (.cells #[.int .i64 0, .slice none 0 0] 36)).alloc (.cells #[.int .i64 i] 3)) fun e w' => e = .returned (.tuple #[.pointer none, .int .i64 er]) ∧ ((w.alloc (.cells #[.int .i64 0, .slice none 0 0] 36)).alloc (.cells #[.int .i64 i] 3)) = w') :
    Calls Try.prog 35 #[.pointer p, .int .i64 z, .int .i64 i] w (NoPk w er) := by
  have H := Lib.hid h
  clear h
  go_enter Try.func35, Try.ntmps35
  go_wp2_with fail
  refine H.out.mono ?_
  rintro e w' ⟨rfl, rfl⟩
  go_wp2
  exact bodyPost_ret (v := .tuple #[.pointer none, .agg #[.int .i64 0, .slice none 0 0], .int .i64 er]) (by simp [results, Try.results35, go_sem]) rfl ⟨rfl, ((Below.refl _ _).alloc (Nat.le_refl _) _).alloc (by simp) _⟩
theorem deliver_none (g : Nat) (S : Ns) (v : Bool → Value) (l : Bool → List LP) (s : Bool) (i : Int) (w : World) (h : NetA w g S v l) (hl : 1 ≤ S.limit) (hu : S.up = true) (hi : i < 0 ∨ ((S.u s).length : Int) ≤ i) :
    Calls Try.prog 14 #[.pointer (some ⟨g, 0, none⟩), .int .i64 (sideN s), .int .i64 i] w (NoP w 1) := by
  refine deliver_err _ _ _ 1 w rfl fun W hb => take_err2 _ _ _ 1 W rfl ?_
  have hw : NetA ((W.alloc (.cells #[.int .i64 0, .slice none 0 0] 36)).alloc (.cells #[.int .i64 i] 3)) g S v l := (h.below hb).below (((Below.refl _ _).alloc (Nat.le_refl _) _).alloc (by simp) _)
  obtain ⟨c0, c1, c2⟩ := hw.heads hu s
  obtain ⟨A, c, hv, _, _⟩ := own_form (hw.row s)
  rw [hv] at c2
  have hz : RdZ ((W.alloc (.cells #[.int .i64 0, .slice none 0 0] 36)).alloc (.cells #[.int .i64 i] 3)) (W.heap.size + 1) [i] := fun k z hk => by
    match k with
    | 0 => simp only [List.getElem?_cons_zero, Option.some.injEq] at hk; subst hk; exact (Blk.new' _ 3 _ _ (by simp)).cell 0
    | k + 1 => simp at hk
  refine (at_up g (W.heap.size + 1) 1 S.limit s [i] A (l s).length c _ c0 c1 (by omega) c2 hz (by simp)).mono fun e w' hat => ?_
  have hf : [i].all (inB (l s).length) = false := by
    have := hw.len s
    simp only [List.all_cons, List.all_nil, Bool.and_true, inB, decide_eq_false_iff_not]
    omega
  obtain ⟨rfl, rfl⟩ := hat
  rw [hf]
  exact ⟨rfl, rfl⟩
end Go.Proofs.Ytbkgphmocjjmmaa
