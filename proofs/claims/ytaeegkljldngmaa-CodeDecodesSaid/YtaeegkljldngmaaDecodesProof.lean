/-
  THE STATEMENT 'CodeDecodes' (effigylaw05.CodeDecodes): whatever the bytes, the law returns true, and they read behind the call as they read before.
-/
import Derived.Test.YtaeegkljldngmaaRows
import Derived.Test.YtaeegkljldngmaaCwJ
import Derived.Test.YtaeegkljldngmaaFrameL
import Derived.WalkKit
import Derived.ProofKit
import Derived.OpenShut
import Derived.ChangeOld
import Derived.ChangeMaps5
import Derived.Below
import Derived.SizedLaws
namespace Go.Proofs.Ytaeegkljldngmaa
open Go.ChangeShapes Go.WideShapes Go.ChangeAt Go.RowKit


namespace LawDc
theorem own : ownKnob Try.prog.godebug = none := by kernel_rfl
theorem laidOut : laidOutB Try.prog = true := by kernel_rfl

set_option maxRecDepth 100000 in
theorem lifted (os : Os) (started : os.Started) (H : Type) (enc : TypeId × Value → H) :
    ReturnsInHanded {} Try.checked os 8 .any (Rows.codeDecodesSpec.pre6 enc Try.prog Try.f8 Rows.codeDecodesRow.domain false) (Rows.codeDecodesSpec.post enc Try.prog Try.f8 false true false false) := by
  refine returnsInHanded_of_change_sized (C := Try.checked) own started (by kernel_rfl) Try.func8
    (ChangeSpec.witness6 (enc := enc) (C := Try.checked) false ⟨#[], #[.slice none 0 0], []⟩ 8 (by kernel_rfl) (by kernel_rfl) (by kernel_rfl) (by kernel_rfl)) ?_
  intro W base args ds gs before hval0 hW hcnd hsz0 _
  have hval : ∀ (j : Nat) t v, Try.f8.params[j]? = some t → args[j]? = some v → Value.okWide Try.prog W .any base t v := hval0
  have hW' := hW
  obtain ⟨p, q, hA0, hV, rfl, hfz, hnd⟩ := hW
  have hA : DataW.TrodAll enc Try.prog W 0 (fun _ => true) true Try.f8.params.toList args.toList ds p := hA0
  rw [Try.params8] at hA hval
  obtain ⟨v0, vs0, d0, ds0, p0, q0, hargs, rfl, rfl, h0, r0⟩ := trodAll_cons hA
  obtain ⟨rfl, rfl, rfl⟩ := trodAll_nil r0
  obtain rfl : args = #[v0] := by cases args; simp_all
  obtain ⟨rfl, rfl⟩ := trodVars_none hV
  have k0 := h0
  have lt0 : ∀ x ∈ p0, x.block < W.heap.size := by obtain ⟨m, hm⟩ := k0; exact DataW.trod_lt m _ _ _ hm
  obtain ⟨A0, n0, c0, rfl⟩ := okWide_slice Try.underlying23 (hval 0 23 v0 rfl rfl)
  obtain ⟨f0, g0⟩ := h0
  obtain ⟨A, n, c, bs, hv0, hc1, hc2, hrd⟩ := bytes_in Try.underlying23 Try.underlying5 (by kernel_rfl) g0
  cases hv0
  have hd := ints_len Try.underlying23 Try.underlying5 (by kernel_rfl) g0
  have hsz : (DataW.weightsEach Try.prog (Try.f8.params.toList ++ Rows.codeDecodesSpec.plain.varTypes Try.prog) ([d0] ++ [])).all (· ≤ reachBytes) = true := hsz0
  have hn : n0 ≤ 140737488351232 := by
    rcases hd with rfl | ⟨el, sp, hx, hl⟩
    · omega
    · have h8 := sized_slice hsz (j := 0) (t := 23) (e := 5) (elems := el) (spare := sp) (by rw [Try.params8]; rfl) (by rw [← hx]; rfl) Try.underlying23
      have hb : Try.prog.bytesOf 5 = 1 := by kernel_rfl
      rw [hb, hl] at h8
      have : reachBytes = 140737488351232 := rfl
      omega
  clear hsz hsz0 hd
  clear hA0 hval0
  refine (decodes_any A0 n0 c0 bs W hrd hn).mono fun e W' ⟨he, bel⟩ => ?_
  subst he
  exact ⟨_, rfl, _, _, _, [], _, [], hW', trodAll_mk1 (shut_bool Try.underlying4 _), (trodAll_cons_mk (Below.trod laidOut (by kernel_rfl) (of_decide_eq_true (by kernel_rfl)) k0 bel lt0) trodAll_mk0), rfl, bel.frame _, fun h => by cases h⟩

theorem over : Rows.codeDecodesRow.holds Try.pinned (OpenSpec.ofChange Rows.codeDecodesSpec) :=
  OpenClaim.holds_of_wide 8 Try.f8 rfl rfl rfl rfl rfl rfl rfl ⟨rfl, rfl, rfl, rfl, rfl⟩ rfl rfl rfl rfl rfl (by kernel_rfl) Try.func8 (by kernel_rfl)
    (of_decide_eq_true (by kernel_rfl)) (by unfold Func.isWrapper; first | (rw [if_pos (by decide +kernel)]; kernel_rfl) | (rw [if_neg (by decide +kernel)]; exact ⟨rfl, rfl⟩))
    (fun os started H enc _ => lifted os started H enc)

end LawDc

/-- the statement -/
theorem codeDecodes_holds : Rows.CodeDecodesSaid := LawDc.over
end Go.Proofs.Ytaeegkljldngmaa
