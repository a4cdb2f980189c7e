/-
  THE STATEMENT 'CodeSafe' (effigylaw05.CodeSafe): whatever the bytes, the shape and the ways, the law returns true, and they read behind the call as they read before.
-/
import Derived.Test.YtaeegkljldngmaaRows
import Derived.Test.YtaeegkljldngmaaCwX
import Derived.Test.YtaeegkljldngmaaFrame
import Derived.Lib.SmallJoins
import Derived.WalkKit
import Derived.ProofKit
import Derived.OpenShut
import Derived.ChangeOld
import Derived.ChangeMaps5
import Derived.Below
namespace Go.Proofs.Ytaeegkljldngmaa
open Go.Joins Go.ChangeShapes Go.WideShapes Go.ChangeAt Go.RowKit


namespace LawSf
theorem own : ownKnob Try.prog.godebug = none := by kernel_rfl
theorem laidOut : laidOutB Try.prog = true := by kernel_rfl

set_option maxRecDepth 100000 in
theorem lifted (os : Os) (started : os.Started) (H : Type) (enc : TypeId × Value → H) :
    ReturnsInHanded {} Try.checked os 9 .any (Rows.codeSafeSpec.pre6 enc Try.prog Try.f9 Rows.codeSafeRow.domain false) (Rows.codeSafeSpec.post enc Try.prog Try.f9 false true false false) := by
  refine returnsInHanded_of_change (C := Try.checked) own started (by kernel_rfl) Try.func9
    (ChangeSpec.witness6 (enc := enc) (C := Try.checked) false ⟨#[], #[.slice none 0 0, .agg #[.int .i64 0, .int .i64 0, .int .i64 0, .slice none 0 0], .slice none 0 0], []⟩ 8 (by kernel_rfl) (by kernel_rfl) (by kernel_rfl) (by kernel_rfl)) ?_
  intro W base args ds gs before hval0 hW hcnd _
  have hval : ∀ (j : Nat) t v, Try.f9.params[j]? = some t → args[j]? = some v → Value.okWide Try.prog W .any base t v := hval0
  have hW' := hW
  obtain ⟨p, q, hA0, hV, rfl, hfz, hnd⟩ := hW
  have hA : DataW.TrodAll enc Try.prog W 0 (fun _ => true) true Try.f9.params.toList args.toList ds p := hA0
  rw [Try.params9] at hA hval
  obtain ⟨v0, vs0, d0, ds0, p0, q0, hargs, rfl, rfl, h0, r0⟩ := trodAll_cons hA
  obtain ⟨v1, vs1, d1, ds1, p1, q1, rfl, rfl, rfl, h1, r1⟩ := trodAll_cons r0
  obtain ⟨v2, vs2, d2, ds2, p2, q2, rfl, rfl, rfl, h2, r2⟩ := trodAll_cons r1
  obtain ⟨rfl, rfl, rfl⟩ := trodAll_nil r2
  obtain rfl : args = #[v0, v1, v2] := by cases args; simp_all
  obtain ⟨rfl, rfl⟩ := trodVars_none hV
  have k0 := h0
  have k1 := h1
  have k2 := h2
  have lt0 : ∀ x ∈ p0, x.block < W.heap.size := by obtain ⟨m, hm⟩ := k0; exact DataW.trod_lt m _ _ _ hm
  have lt1 : ∀ x ∈ p1, x.block < W.heap.size := by obtain ⟨m, hm⟩ := k1; exact DataW.trod_lt m _ _ _ hm
  have lt2 : ∀ x ∈ p2, x.block < W.heap.size := by obtain ⟨m, hm⟩ := k2; exact DataW.trod_lt m _ _ _ hm
  obtain ⟨A0, n0, c0, rfl⟩ := okWide_slice Try.underlying23 (hval 0 23 v0 rfl rfl)
  obtain ⟨f0, g0⟩ := h0
  obtain ⟨A, n, c, bs, hv0, hc1, hc2, hrd⟩ := bytes_in Try.underlying23 Try.underlying5 (by kernel_rfl) g0
  cases hv0
  obtain ⟨u0, u1, u2, u3, y0, y1, y2, y3, m1, rfl, -, -, t0, t1, t2, t3⟩ := open_agg4 Try.underlying35 (by kernel_rfl) (by kernel_rfl) (hval 1 35 v1 rfl rfl) h1
  obtain ⟨za, e0, _, _⟩ := DataW.trod_int Try.underlying3 t0
  obtain ⟨zt, e1, _, _⟩ := DataW.trod_int Try.underlying3 t1
  obtain ⟨zf, e2, _, _⟩ := DataW.trod_int Try.underlying3 t2
  obtain ⟨LA, ln, lc, zs, rfl, _, _, hrl, _⟩ := ints_in Try.underlying33 Try.underlying38 (by kernel_rfl) t3
  simp only [List.cons.injEq, and_true] at e0 e1 e2
  subst e0 e1 e2
  obtain rfl : ln = zs.length := by have := hrl.1; simp at this; omega
  obtain ⟨A2, n2, c2, rfl⟩ := okWide_slice Try.underlying70 (hval 2 70 v2 rfl rfl)
  obtain ⟨f2, g2⟩ := h2
  obtain ⟨WA, wn, wc, ws, hv2, hwn, hws⟩ := bools_in Try.underlying70 Try.underlying4 (by kernel_rfl) g2
  cases hv2
  clear hA0 hval0
  refine (safe_any A0 LA A2 n0 c0 lc n2 c2 bs ⟨za, zt, zf, zs⟩ ws W hrd hrl hws hwn).mono fun e W' ⟨he, bel⟩ => ?_
  subst he
  exact ⟨_, rfl, _, _, _, [], _, [], hW', trodAll_mk1 (shut_bool Try.underlying4 _), (trodAll_cons_mk (Below.trod laidOut (by kernel_rfl) (of_decide_eq_true (by kernel_rfl)) k0 bel lt0) (trodAll_cons_mk (Below.trod laidOut (by kernel_rfl) (of_decide_eq_true (by kernel_rfl)) k1 bel lt1) (trodAll_cons_mk (Below.trod laidOut (by kernel_rfl) (of_decide_eq_true (by kernel_rfl)) k2 bel lt2) trodAll_mk0))), rfl, bel.frame _, fun h => by cases h⟩

theorem over : Rows.codeSafeRow.holds Try.pinned (OpenSpec.ofChange Rows.codeSafeSpec) :=
  OpenClaim.holds_of_wide 9 Try.f9 rfl rfl rfl rfl rfl rfl rfl ⟨rfl, rfl, rfl, rfl, rfl⟩ rfl rfl rfl rfl rfl (by kernel_rfl) Try.func9 (by kernel_rfl)
    (of_decide_eq_true (by kernel_rfl)) (by unfold Func.isWrapper; first | (rw [if_pos (by decide +kernel)]; kernel_rfl) | (rw [if_neg (by decide +kernel)]; exact ⟨rfl, rfl⟩))
    (fun os started H enc _ => lifted os started H enc)

end LawSf

/-- the statement -/
theorem codeSafe_holds : Rows.CodeSafeSaid := LawSf.over
end Go.Proofs.Ytaeegkljldngmaa
