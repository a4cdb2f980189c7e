/-
  THE STATEMENT 'ClientEnds' (effigylaw20.ClientEnds): whatever the nonce, the window, the patience, what the server keeps, and the roads, the law returns true, and the arguments read behind the call as they read before.
-/
import Derived.Test.YtjhkfpemcplaaaaRows
import Derived.Test.YtjhkfpemcplaaaaFrameE
import Derived.WalkKit
import Derived.ProofKit
import Derived.OpenShut
import Derived.ChangeOld
import Derived.ChangeMaps5
import Derived.Below
import Derived.SizedLaws
namespace Go.Proofs.Ytjhkfpemcplaaaa
open Go.Joins Go.ChangeShapes Go.WideShapes Go.ChangeAt Go.RowKit

theorem ends_any (nonce : Nat) (win pat kp : Int) (A : Option Addr) (cc : Nat) (ds : List Rd) (w : World) (hno : nonce < 18446744073709551616) (hd : RsIn w A ds) (hn9 : ds.length ≤ 1760000000000) :
    Calls Try.prog 5 #[.int .u64 (nonce : Int), .int .i64 win, .int .i64 pat, .int .i64 kp, .slice A ds.length cc] w (EndTrueP w) := by
  by_cases h : 1 ≤ nonce ∧ 1 ≤ win ∧ win ≤ 16 ∧ 1 ≤ pat ∧ pat ≤ 1000
  · obtain ⟨h1, h2, h3, h4, h5⟩ := h
    obtain ⟨win, rfl⟩ := Int.eq_ofNat_of_zero_le (show 0 ≤ win by omega)
    obtain ⟨pat, rfl⟩ := Int.eq_ofNat_of_zero_le (show 0 ≤ pat by omega)
    exact ends_yes nonce win pat kp A ds.length cc ds w h1 hno (by omega) (by omega) (by omega) (by omega) hd rfl hn9
  · exact ends_no nonce win pat kp A ds.length cc w h

namespace LawEnds
theorem own : ownKnob Try.prog.godebug = none := by kernel_rfl
theorem laidOut : laidOutB Try.prog = true := by kernel_rfl

set_option maxRecDepth 100000 in
theorem lifted (os : Os) (started : os.Started) (H : Type) (enc : TypeId × Value → H) :
    ReturnsInHanded {} Try.checked os 5 .any (Rows.clientEndsSpec.pre6 enc Try.prog Try.f5 Rows.clientEndsRow.domain false) (Rows.clientEndsSpec.post enc Try.prog Try.f5 false true false false) := by
  refine returnsInHanded_of_change_sized (C := Try.checked) own started (by kernel_rfl) Try.func5
    (ChangeSpec.witness6 (enc := enc) (C := Try.checked) false ⟨#[], #[.int .u64 0, .int .i64 0, .int .i64 0, .int .i64 0, .slice none 0 0], []⟩ 8 (by kernel_rfl) (by kernel_rfl) (by kernel_rfl) (by kernel_rfl)) ?_
  intro W base args ds gs before hval0 hW hcnd hsz0 _
  have hval : ∀ (j : Nat) t v, Try.f5.params[j]? = some t → args[j]? = some v → Value.okWide Try.prog W .any base t v := hval0
  have hW' := hW
  obtain ⟨p, q, hA0, hV, rfl, hfz, hnd⟩ := hW
  have hA : DataW.TrodAll enc Try.prog W 0 (fun _ => true) true Try.f5.params.toList args.toList ds p := hA0
  rw [Try.params5] at hA hval
  obtain ⟨v0, vs0, d0, ds0, p0, q0, hargs, rfl, rfl, h0, r0⟩ := trodAll_cons hA
  obtain ⟨v1, vs1, d1, ds1, p1, q1, rfl, rfl, rfl, h1, r1⟩ := trodAll_cons r0
  obtain ⟨v2, vs2, d2, ds2, p2, q2, rfl, rfl, rfl, h2, r2⟩ := trodAll_cons r1
  obtain ⟨v3, vs3, d3, ds3, p3, q3, rfl, rfl, rfl, h3, r3⟩ := trodAll_cons r2
  obtain ⟨v4, vs4, d4, ds4, p4, q4, rfl, rfl, rfl, h4, r4⟩ := trodAll_cons r3
  obtain ⟨rfl, rfl, rfl⟩ := trodAll_nil r4
  obtain rfl : args = #[v0, v1, v2, v3, v4] := by cases args; simp_all
  obtain ⟨rfl, rfl⟩ := trodVars_none hV
  have k0 := h0
  have k1 := h1
  have k2 := h2
  have k3 := h3
  have k4 := h4
  have lt0 : ∀ x ∈ p0, x.block < W.heap.size := by obtain ⟨m, hm⟩ := k0; exact DataW.trod_lt m _ _ _ hm
  have lt1 : ∀ x ∈ p1, x.block < W.heap.size := by obtain ⟨m, hm⟩ := k1; exact DataW.trod_lt m _ _ _ hm
  have lt2 : ∀ x ∈ p2, x.block < W.heap.size := by obtain ⟨m, hm⟩ := k2; exact DataW.trod_lt m _ _ _ hm
  have lt3 : ∀ x ∈ p3, x.block < W.heap.size := by obtain ⟨m, hm⟩ := k3; exact DataW.trod_lt m _ _ _ hm
  have lt4 : ∀ x ∈ p4, x.block < W.heap.size := by obtain ⟨m, hm⟩ := k4; exact DataW.trod_lt m _ _ _ hm
  obtain ⟨f0, g0⟩ := h0
  obtain ⟨f1, g1⟩ := h1
  obtain ⟨f2, g2⟩ := h2
  obtain ⟨f3, g3⟩ := h3
  obtain ⟨f4, g4⟩ := h4
  obtain ⟨z0, rfl⟩ := okWide_int Try.underlying22 (hval 0 22 v0 rfl rfl)
  obtain ⟨win, rfl⟩ := okWide_int Try.underlying3 (hval 1 3 v1 rfl rfl)
  obtain ⟨pat, rfl⟩ := okWide_int Try.underlying3 (hval 2 3 v2 rfl rfl)
  obtain ⟨kp, rfl⟩ := okWide_int Try.underlying3 (hval 3 3 v3 rfl rfl)
  obtain ⟨A0, l0, c0, rfl⟩ := okWide_slice Try.underlying73 (hval 4 73 v4 rfl rfl)
  obtain ⟨r2, hr2, _, wf2⟩ := DataW.trod_int Try.underlying22 g0
  simp only [Value.cells, List.cons.injEq, and_true, Value.int.injEq, true_and] at hr2
  subst hr2
  obtain ⟨nonce, rfl, hno⟩ := u64_of_wf wf2
  have hsz : (DataW.weightsEach Try.prog (Try.f5.params.toList ++ Rows.clientEndsSpec.plain.varTypes Try.prog) ([d0, d1, d2, d3, d4] ++ [])).all (· ≤ reachBytes) = true := hsz0
  obtain ⟨A, cc, dl, hv, hdi, hdl⟩ := roads_in g4 (wt_each hsz (j := 4) (t := 73) (by rw [Try.params5]; rfl) rfl)
  injection hv with e1 e2 e3
  subst e1 e2 e3
  clear hsz hsz0
  clear hA0 hval0
  refine (ends_any nonce win pat kp A0 c0 dl W hno hdi hdl).mono fun e W' ⟨he, bel⟩ => ?_
  subst he
  exact ⟨_, rfl, _, _, _, [], _, [], hW', trodAll_mk1 (shut_bool Try.underlying4 _), (trodAll_cons_mk (Below.trod laidOut (by kernel_rfl) (of_decide_eq_true (by kernel_rfl)) k0 bel lt0) (trodAll_cons_mk (Below.trod laidOut (by kernel_rfl) (of_decide_eq_true (by kernel_rfl)) k1 bel lt1) (trodAll_cons_mk (Below.trod laidOut (by kernel_rfl) (of_decide_eq_true (by kernel_rfl)) k2 bel lt2) (trodAll_cons_mk (Below.trod laidOut (by kernel_rfl) (of_decide_eq_true (by kernel_rfl)) k3 bel lt3) (trodAll_cons_mk (Below.trod laidOut (by kernel_rfl) (of_decide_eq_true (by kernel_rfl)) k4 bel lt4) trodAll_mk0))))), rfl, bel.frame _, fun h => by cases h⟩

theorem over : Rows.clientEndsRow.holds Try.pinned (OpenSpec.ofChange Rows.clientEndsSpec) :=
  OpenClaim.holds_of_wide 5 Try.f5 rfl rfl rfl rfl rfl rfl rfl ⟨rfl, rfl, rfl, rfl, rfl⟩ rfl rfl rfl rfl rfl (by kernel_rfl) Try.func5 (by kernel_rfl)
    (of_decide_eq_true (by kernel_rfl)) (by unfold Func.isWrapper; first | (rw [if_pos (by decide +kernel)]; kernel_rfl) | (rw [if_neg (by decide +kernel)]; exact ⟨rfl, rfl⟩))
    (fun os started H enc _ => lifted os started H enc)

end LawEnds

/-- the statement -/
theorem clientEnds_holds : Rows.ClientEndsSaid := LawEnds.over
end Go.Proofs.Ytjhkfpemcplaaaa
