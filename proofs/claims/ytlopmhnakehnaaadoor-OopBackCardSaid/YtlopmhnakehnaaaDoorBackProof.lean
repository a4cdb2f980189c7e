/-
  THE STATEMENT 'OopBack' (effigylaw01.OopBack), its card: whatever the oop, the header and the bytes, the law returns true, and the arguments read behind the call as they read before; where the listed package variables read as the program's text lays them, and the card ties them to that text.
-/
import Derived.Test.YtlopmhnakehnaaaDoorRows
import Derived.Test.YtlopmhnakehnaaaDoorCards
import Derived.Test.YtlopmhnakehnaaaDoorTie
import Derived.Test.YtlopmhnakehnaaaDoorLawK
import Derived.Test.YtlopmhnakehnaaaDoorFrameK
import Derived.SevenTiedAt
import Derived.ProofKit
import Derived.OpenShut
import Derived.ChangeOld
import Derived.Below
namespace Go.Proofs.YtlopmhnakehnaaaDoor
open Go.ChangeShapes Go.WideShapes Go.ChangeAt Go.RowKit

namespace LawBk
set_option maxRecDepth 100000 in
theorem lifted (os : Os) (started : os.Started) (H : Type) (enc : TypeId × Value → H) :
    ReturnsInHanded {} Tryd.checked os 8 .any (fun w args => (Rows.oopBackSpec.pre enc Tryd.prog Tryd.f8 [] false w args ∧ laidMetH Tryd.prog laid6 w) ∧ sizedMet enc Tryd.prog Tryd.f8 (OpenSpec.ofChange Rows.oopBackSpec) false w args)
      (Rows.oopBackSpec.post enc Tryd.prog Tryd.f8 false true false false) := by
  refine returnsInHanded_of_change_and (C := Tryd.checked) (X := fun w _ => laidMetH Tryd.prog laid6 w) (fun _ _ _ hh h => h.of_heap hh) own started (by kernel_rfl) Tryd.func8
    (ChangeSpec.witness_shaped (enc := enc) (C := Tryd.checked) (os := os) (X := fun w _ => laidMetH Tryd.prog laid6 w) false (World.doorLaid Tryd.prog 400 os) #[.int .u32 0, .agg #[.int .i64 0, .int .i64 0, .int .i64 0, .int .u32 0, .int .u32 0], .slice none 0 0] 8 rfl (World.shaped_of_RefB (by kernel_rfl) (by kernel_rfl)) (by kernel_rfl) (by kernel_rfl) (by kernel_rfl) (door_met6 os _)) ?_
  intro W base args ds gs before hval0 hW _ hsz hL _
  have hval : ∀ (j : Nat) t v, Tryd.f8.params[j]? = some t → args[j]? = some v → Value.okWide Tryd.prog W .any base t v := hval0
  have hW' := hW
  obtain ⟨p, q, hA0, hV, rfl, hfz, hnd⟩ := hW
  have hA : DataW.TrodAll enc Tryd.prog W 0 (fun _ => true) true Tryd.f8.params.toList args.toList ds p := hA0
  rw [Tryd.params8] at hA hval
  obtain ⟨v0, vs0, d0, ds0, p0, q0, hargs, rfl, rfl, h0, r0⟩ := trodAll_cons hA
  obtain ⟨v1, vs1, d1, ds1, p1, q1, rfl, rfl, rfl, h1, r1⟩ := trodAll_cons r0
  obtain ⟨v2, vs2, d2, ds2, p2, q2, rfl, rfl, rfl, h2, r2⟩ := trodAll_cons r1
  obtain ⟨rfl, rfl, rfl⟩ := trodAll_nil r2
  obtain rfl : args = #[v0, v1, v2] := by cases args; simp_all
  obtain ⟨rfl, rfl⟩ := trodVars_none hV
  have k0 := h0
  have k1 := h1
  have k2 := h2
  have lt0 : ∀ x ∈ p0, x.block < W.heap.size := by obtain ⟨m, hm⟩ := k0; exact DataW.trod_lt m _ _ _ hm
  have lt1 : ∀ x ∈ p1, x.block < W.heap.size := by obtain ⟨m, hm⟩ := k1; exact DataW.trod_lt m _ _ _ hm
  have lt2 : ∀ x ∈ p2, x.block < W.heap.size := by obtain ⟨m, hm⟩ := k2; exact DataW.trod_lt m _ _ _ hm
  obtain ⟨o, rfl⟩ := okWide_int Tryd.underlying23 (hval 0 23 v0 rfl rfl)
  obtain ⟨fo, go⟩ := h0
  obtain ⟨zo, hzo, _, wfo⟩ := DataW.trod_int Tryd.underlying23 go
  simp only [Value.cells, List.cons.injEq, and_true, Value.int.injEq, true_and] at hzo
  subst hzo
  obtain ⟨ho1, ho2⟩ := u32_of_wf wfo
  obtain ⟨u0, u1, u2, u3, u4, y0, y1, y2, y3, y4, m, rfl, _, _, t0, t1, t2, t3, t4⟩ := open_agg5 Tryd.underlying42 (by kernel_rfl) (by kernel_rfl) (hval 1 42 v1 rfl rfl) h1
  obtain ⟨x0, hx0, _, wf0⟩ := DataW.trod_int Tryd.underlying3 t0
  obtain ⟨x1, hx1, _, wf1⟩ := DataW.trod_int Tryd.underlying40 t1
  obtain ⟨x2, hx2, _, wf2⟩ := DataW.trod_int Tryd.underlying3 t2
  obtain ⟨x3, hx3, _, wf3⟩ := DataW.trod_int Tryd.underlying23 t3
  obtain ⟨x4, hx4, _, wf4⟩ := DataW.trod_int Tryd.underlying22 t4
  simp only [List.cons.injEq, and_true] at hx0 hx1 hx2 hx3 hx4
  subst hx0 hx1 hx2 hx3 hx4
  obtain ⟨A2, n2, c2, rfl⟩ := okWide_slice Tryd.underlying53 (hval 2 53 v2 rfl rfl)
  obtain ⟨f2, g2⟩ := h2
  obtain ⟨A, n, c, bs, hv2, hrd, hb2⟩ := bytes_in Tryd.underlying53 Tryd.underlying5 (by kernel_rfl) g2
  injection hv2 with e1 e2 e3
  subst e1 e2 e3
  have b5 : Tryd.prog.bytesOf 5 = 1 := by kernel_rfl
  have hr2 : n2 ≤ 140737488355328 := by
    rcases hb2 with h | ⟨el, sp, e, hl⟩
    · omega
    · have this : (el.length + sp.length) * Tryd.prog.bytesOf 5 ≤ reachBytes := sized_slice hsz (j := 2) (t := 53) (e := 5) (elems := el) (spare := sp) (by rw [Tryd.params8]; rfl) (by rw [← e]; rfl) Tryd.underlying53
      rw [b5] at this
      have hr : reachBytes = 140737488351232 := rfl
      omega
  obtain rfl : n2 = bs.length := by have h1 := hrd.1; simp only [List.length_map, Nat.mul_one] at h1; exact h1.symm
  clear hA0 hval0
  obtain ⟨hsp, hz, ht⟩ := of_laid6 hL
  refine (lawk o x0 x1 x2 x3 x4 A2 c2 bs W hsp ht hz hrd hr2 ho1 ho2).mono fun e W' ⟨he, bel⟩ => ?_
  subst he
  exact ⟨_, rfl, _, _, _, [], _, [], hW', trodAll_mk1 (shut_bool Tryd.underlying4 _), (trodAll_cons_mk (Below.trod laidOut (by kernel_rfl) (of_decide_eq_true (by kernel_rfl)) k0 bel lt0) (trodAll_cons_mk (Below.trod laidOut (by kernel_rfl) (of_decide_eq_true (by kernel_rfl)) k1 bel lt1) (trodAll_cons_mk (Below.trod laidOut (by kernel_rfl) (of_decide_eq_true (by kernel_rfl)) k2 bel lt2) trodAll_mk0))), rfl, bel.frame _, fun h => by cases h⟩

theorem over : Rows.OopBackSaid :=
  OpenClaim.holds_of_wide 8 Tryd.f8 rfl rfl rfl rfl rfl rfl rfl ⟨rfl, rfl, rfl, rfl, rfl⟩ rfl rfl rfl rfl rfl (by kernel_rfl) Tryd.func8 (by kernel_rfl)
    (of_decide_eq_true (by kernel_rfl)) (by unfold Func.isWrapper; first | (rw [if_pos (by decide +kernel)]; kernel_rfl) | (rw [if_neg (by decide +kernel)]; exact ⟨rfl, rfl⟩))
    (fun os started H enc _ => lifted os started H enc)

end LawBk

/-- the statement: the tied card -/
theorem oopBack_card : Rows.OopBackCardSaid :=
  Claim7.holds_tied_plain_at .later [] [.data, .data, .data, .sentinel, .sentinel, .data] true (true, "42ec64b8dafd8a7d959391dabf49a189e39ef08ad80a9959c292d81a1cbf95b9") true
    LawBk.over (fun _ h => by cases h) (by kernel_rfl) (fun _ h => by cases h) oopBack_row_tie rfl ⟨rfl, rfl⟩ (by kernel_rfl) rfl
    (fun f fn hf hfn => by
      obtain rfl : f = 8 := Option.some.inj ((show Tryd.prog.funcNamed "effigy/effigylaw01.OopBack" = some 8 by kernel_rfl).symm.trans hf) |>.symm
      obtain rfl : fn = Tryd.f8 := (Option.some.inj (Tryd.func8.symm.trans hfn)).symm
      exact ⟨by kernel_rfl, fun j t ht => by
        rw [Tryd.params8] at ht
        have hm : t ∈ [23, 42, 53] := by simpa using Array.mem_of_getElem? ht
        have hall : ([23, 42, 53].all fun u => !Tryd.prog.wantsStandIn u) = true := by kernel_rfl
        exact (show Tryd.prog.wantsStandIn t = false by simpa using List.all_eq_true.1 hall t hm)⟩)
    (by kernel_rfl)
end Go.Proofs.YtlopmhnakehnaaaDoor
