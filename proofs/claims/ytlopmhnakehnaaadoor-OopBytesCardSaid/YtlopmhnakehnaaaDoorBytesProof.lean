/-
  THE STATEMENT 'OopBytes' (effigylaw01.OopBytes), its card: whatever the bytes, the words and the number, the law returns true, and the arguments read behind the call as they read before; where the listed package variables read as the program's text lays them, and the card ties them to that text.
-/
import Derived.Test.YtlopmhnakehnaaaDoorRows
import Derived.Test.YtlopmhnakehnaaaDoorCards
import Derived.Test.YtlopmhnakehnaaaDoorTie
import Derived.Test.YtlopmhnakehnaaaDoorLawB
import Derived.Test.YtlopmhnakehnaaaDoorFrameB
import Derived.SevenTiedAt
import Derived.ProofKit
import Derived.OpenShut
import Derived.ChangeOld
import Derived.Below
namespace Go.Proofs.YtlopmhnakehnaaaDoor
open Go.ChangeShapes Go.WideShapes Go.ChangeAt Go.RowKit

namespace LawBy
set_option maxRecDepth 100000 in
theorem lifted (os : Os) (started : os.Started) (H : Type) (enc : TypeId × Value → H) :
    ReturnsInHanded {} Tryd.checked os 7 .any (fun w args => (Rows.oopBytesSpec.pre enc Tryd.prog Tryd.f7 [] false w args ∧ laidMetH Tryd.prog laid4 w) ∧ sizedMet enc Tryd.prog Tryd.f7 (OpenSpec.ofChange Rows.oopBytesSpec) false w args)
      (Rows.oopBytesSpec.post enc Tryd.prog Tryd.f7 false true false false) := by
  refine returnsInHanded_of_change_and (C := Tryd.checked) (X := fun w _ => laidMetH Tryd.prog laid4 w) (fun _ _ _ hh h => h.of_heap hh) own started (by kernel_rfl) Tryd.func7
    (ChangeSpec.witness_shaped (enc := enc) (C := Tryd.checked) (os := os) (X := fun w _ => laidMetH Tryd.prog laid4 w) false (World.doorLaid Tryd.prog 400 os) #[.slice none 0 0, .slice none 0 0, .int .i64 0] 8 rfl (World.shaped_of_RefB (by kernel_rfl) (by kernel_rfl)) (by kernel_rfl) (by kernel_rfl) (by kernel_rfl) (door_met os _)) ?_
  intro W base args ds gs before hval0 hW _ hsz hL _
  have hval : ∀ (j : Nat) t v, Tryd.f7.params[j]? = some t → args[j]? = some v → Value.okWide Tryd.prog W .any base t v := hval0
  have hW' := hW
  obtain ⟨p, q, hA0, hV, rfl, hfz, hnd⟩ := hW
  have hA : DataW.TrodAll enc Tryd.prog W 0 (fun _ => true) true Tryd.f7.params.toList args.toList ds p := hA0
  rw [Tryd.params7] at hA hval
  obtain ⟨v0, vs0, d0, ds0, p0, q0, hargs, rfl, rfl, h0, r0⟩ := trodAll_cons hA
  obtain ⟨v1, vs1, d1, ds1, p1, q1, rfl, rfl, rfl, h1, r1⟩ := trodAll_cons r0
  obtain ⟨v2, vs2, d2, ds2, p2, q2, rfl, rfl, rfl, h2, r2⟩ := trodAll_cons r1
  obtain ⟨rfl, rfl, rfl⟩ := trodAll_nil r2
  obtain rfl : args = #[v0, v1, v2] := by cases args; simp_all
  obtain ⟨rfl, rfl⟩ := trodVars_none hV
  have k0 := h0
  have k1 := h1
  have k2 := h2
  have lt0 : ∀ x ∈ p0, x.block < W.heap.size := by obtain ⟨m, hm⟩ := k0; exact DataW.trod_lt m _ _ _ hm
  have lt1 : ∀ x ∈ p1, x.block < W.heap.size := by obtain ⟨m, hm⟩ := k1; exact DataW.trod_lt m _ _ _ hm
  have lt2 : ∀ x ∈ p2, x.block < W.heap.size := by obtain ⟨m, hm⟩ := k2; exact DataW.trod_lt m _ _ _ hm
  obtain ⟨A0, n0, c0, rfl⟩ := okWide_slice Tryd.underlying53 (hval 0 53 v0 rfl rfl)
  obtain ⟨A1, n1, c1, rfl⟩ := okWide_slice Tryd.underlying54 (hval 1 54 v1 rfl rfl)
  obtain ⟨x2, rfl⟩ := okWide_int Tryd.underlying3 (hval 2 3 v2 rfl rfl)
  obtain ⟨f0, g0⟩ := h0
  obtain ⟨f1, g1⟩ := h1
  obtain ⟨A, n, c, bs, hv0, hrd, hb0⟩ := bytes_in Tryd.underlying53 Tryd.underlying5 (by kernel_rfl) g0
  obtain ⟨A', n', c', ws, hv1, hrw, hb1, hx32⟩ := words_in Tryd.underlying54 Tryd.underlying22 (by kernel_rfl) g1
  injection hv0 with e1 e2 e3
  subst e1 e2 e3
  injection hv1 with e1 e2 e3
  subst e1 e2 e3
  have b5 : Tryd.prog.bytesOf 5 = 1 := by kernel_rfl
  have b22 : Tryd.prog.bytesOf 22 = 4 := by kernel_rfl
  have hr0 : n0 ≤ 140737488355328 := by
    rcases hb0 with h | ⟨el, sp, e, hl⟩
    · omega
    · have this : (el.length + sp.length) * Tryd.prog.bytesOf 5 ≤ reachBytes := sized_slice hsz (j := 0) (t := 53) (e := 5) (elems := el) (spare := sp) (by rw [Tryd.params7]; rfl) (by rw [← e]; rfl) Tryd.underlying53
      rw [b5] at this
      have hr : reachBytes = 140737488351232 := rfl
      omega
  have hr1 : n1 * 4 ≤ 140737488355328 := by
    rcases hb1 with h | ⟨el, sp, e, hl⟩
    · omega
    · have this : (el.length + sp.length) * Tryd.prog.bytesOf 22 ≤ reachBytes := sized_slice hsz (j := 1) (t := 54) (e := 22) (elems := el) (spare := sp) (by rw [Tryd.params7]; rfl) (by rw [← e]; rfl) Tryd.underlying54
      rw [b22] at this
      have hr : reachBytes = 140737488351232 := rfl
      omega
  clear hA0 hval0
  obtain ⟨hsp, hz⟩ := of_laid hL
  refine (lawb_any A0 A1 n0 c0 n1 c1 bs ws x2 W hsp hz hrd hrw hx32 hr0 hr1).mono fun e W' ⟨he, bel⟩ => ?_
  subst he
  exact ⟨_, rfl, _, _, _, [], _, [], hW', trodAll_mk1 (shut_bool Tryd.underlying4 _), (trodAll_cons_mk (Below.trod laidOut (by kernel_rfl) (of_decide_eq_true (by kernel_rfl)) k0 bel lt0) (trodAll_cons_mk (Below.trod laidOut (by kernel_rfl) (of_decide_eq_true (by kernel_rfl)) k1 bel lt1) (trodAll_cons_mk (Below.trod laidOut (by kernel_rfl) (of_decide_eq_true (by kernel_rfl)) k2 bel lt2) trodAll_mk0))), rfl, bel.frame _, fun h => by cases h⟩

theorem over : Rows.OopBytesSaid :=
  OpenClaim.holds_of_wide 7 Tryd.f7 rfl rfl rfl rfl rfl rfl rfl ⟨rfl, rfl, rfl, rfl, rfl⟩ rfl rfl rfl rfl rfl (by kernel_rfl) Tryd.func7 (by kernel_rfl)
    (of_decide_eq_true (by kernel_rfl)) (by unfold Func.isWrapper; first | (rw [if_pos (by decide +kernel)]; kernel_rfl) | (rw [if_neg (by decide +kernel)]; exact ⟨rfl, rfl⟩))
    (fun os started H enc _ => lifted os started H enc)

end LawBy

/-- the statement: the tied card -/
theorem oopBytes_card : Rows.OopBytesCardSaid :=
  Claim7.holds_tied_plain_at .later [] [.data, .data, .data, .data] true (true, "42ec64b8dafd8a7d959391dabf49a189e39ef08ad80a9959c292d81a1cbf95b9") true
    LawBy.over (fun _ h => by cases h) (by kernel_rfl) (fun _ h => by cases h) oopBytes_row_tie rfl ⟨rfl, rfl⟩ (by kernel_rfl) rfl
    (fun f fn hf hfn => by
      obtain rfl : f = 7 := Option.some.inj ((show Tryd.prog.funcNamed "effigy/effigylaw01.OopBytes" = some 7 by kernel_rfl).symm.trans hf) |>.symm
      obtain rfl : fn = Tryd.f7 := (Option.some.inj (Tryd.func7.symm.trans hfn)).symm
      exact ⟨by kernel_rfl, fun j t ht => by
        rw [Tryd.params7] at ht
        have hm : t ∈ [53, 54, 3] := by simpa using Array.mem_of_getElem? ht
        have hall : ([53, 54, 3].all fun u => !Tryd.prog.wantsStandIn u) = true := by kernel_rfl
        exact (show Tryd.prog.wantsStandIn t = false by simpa using List.all_eq_true.1 hall t hm)⟩)
    (by kernel_rfl)
end Go.Proofs.YtlopmhnakehnaaaDoor
