/-
  THE STATEMENT 'WireFinds' (effigylaw17.WireFinds), its second form: whatever the packets and the bytes, where together they are of bulk at most 1048576, the law returns true, and the arguments read behind the call as they read before.
-/
import Derived.Test.YtijcnefomgfocaaFindsW
import Derived.Test.YtijcnefomgfocaaFindsF
import Derived.Test.YtijcnefomgfocaaAwake
import Derived.Test.YtijcnefomgfocaaFrameU
import Derived.WalkKit
import Derived.ProofKit
import Derived.OpenShut
import Derived.ChangeOld
import Derived.JoinedCond
import Derived.Below
namespace Go.Proofs.Ytijcnefomgfocaa
open Go.Joins Go.ChangeShapes Go.WideShapes Go.ChangeAt Go.RowKit Go.Deep

namespace LawFi
theorem own : ownKnob Try.prog.godebug = none := by kernel_rfl
theorem laidOut : laidOutB Try.prog = true := by kernel_rfl

set_option maxRecDepth 100000 in
theorem lifted (os : Os) (started : os.Started) (H : Type) (enc : TypeId × Value → H) (F : Stop.Interp) :
    ReturnsInHanded {} Try.checked os 7 .any ((Rows.OpenSpec.upto Rows.wireFindsSpec).pre6 enc Try.prog Try.f7 Rows.wireFindsUptoRow.domain false) (((Rows.OpenSpec.upto Rows.wireFindsSpec).at F).post enc Try.prog Try.f7 false true false false) := by
  refine returnsInHanded_of_cond (C := Try.checked) (s := Rows.OpenSpec.upto Rows.wireFindsSpec) (k := Rows.uptoSmall) rfl own started (by kernel_rfl) Try.func7
    (OpenSpec.witness (enc := enc) (C := Try.checked) (s := Rows.OpenSpec.upto Rows.wireFindsSpec) (k := Rows.uptoSmall) rfl false ⟨#[], #[.slice none 0 0, .slice none 0 0, .slice none 0 0], []⟩ 8 (by kernel_rfl) (by kernel_rfl) (by kernel_rfl)
      (x := ([.nil, .nil, .nil], [], [])) (by kernel_rfl) rfl (by kernel_rfl)) ?_
  intro W base args ds gs before hval0 hW _ hk _
  have hval : ∀ (j : Nat) t v, Try.f7.params[j]? = some t → args[j]? = some v → Value.okWide Try.prog W .any base t v := hval0
  have hW' := hW
  obtain ⟨p, q, hA0, hV, rfl, hfz, hnd⟩ := hW
  have hA : DataW.TrodAll enc Try.prog W 0 (fun _ => true) true Try.f7.params.toList args.toList ds p := hA0
  rw [Try.params7] at hA hval
  obtain ⟨v0, vs0, d0, ds0, p0, q0, hargs, rfl, rfl, h0, r0⟩ := trodAll_cons hA
  obtain ⟨v1, vs1, d1, ds1, p1, q1, rfl, rfl, rfl, h1, r1⟩ := trodAll_cons r0
  obtain ⟨v2, vs2, d2, ds2, p2, q2, rfl, rfl, rfl, h2, r2⟩ := trodAll_cons r1
  obtain ⟨rfl, rfl, rfl⟩ := trodAll_nil r2
  obtain rfl : args = #[v0, v1, v2] := by cases args; simp_all
  obtain ⟨rfl, rfl⟩ := trodVars_none hV
  have k0 := h0
  have k1 := h1
  have k2 := h2
  have lt0 : ∀ x ∈ p0, x.block < W.heap.size := by obtain ⟨m, hm⟩ := k0; exact DataW.trod_lt m _ _ _ hm
  have lt1 : ∀ x ∈ p1, x.block < W.heap.size := by obtain ⟨m, hm⟩ := k1; exact DataW.trod_lt m _ _ _ hm
  have lt2 : ∀ x ∈ p2, x.block < W.heap.size := by obtain ⟨m, hm⟩ := k2; exact DataW.trod_lt m _ _ _ hm
  obtain ⟨A0, n0, c0, rfl⟩ := okWide_slice Try.underlying67 (hval 0 67 v0 rfl rfl)
  obtain ⟨A1, n1, c1, rfl⟩ := okWide_slice Try.underlying24 (hval 1 24 v1 rfl rfl)
  obtain ⟨A2, n2, c2, rfl⟩ := okWide_slice Try.underlying24 (hval 2 24 v2 rfl rfl)
  obtain ⟨f0, g0⟩ := h0
  obtain ⟨f1, g1⟩ := h1
  obtain ⟨f2, g2⟩ := h2
  obtain ⟨A, c, zs, hv0, har⟩ := packets_in Try.underlying67 Try.underlying26 (by kernel_rfl) (by kernel_rfl) Try.underlying22 Try.underlying23 Try.underlying23 Try.underlying23 Try.underlying24 Try.underlying5 (by kernel_rfl) g0
  obtain ⟨An, nn, cn, ns, hv1, _, _, hrn, hbn⟩ := bytes_bulk Try.underlying24 Try.underlying5 (by kernel_rfl) g1
  obtain ⟨Ar, nr, cr, rs, hv2, _, hmr, hrr, hbr⟩ := bytes_bulk Try.underlying24 Try.underlying5 (by kernel_rfl) g2
  injection hv0 with e1 e2 e3
  subst e1 e2 e3
  injection hv1 with e1 e2 e3
  subst e1 e2 e3
  injection hv2 with e1 e2 e3
  subst e1 e2 e3
  clear hA0 hval0
  have hb := bulk_bound hk
  obtain rfl : ns.length = n1 := hrn.len1
  obtain rfl : rs.length = n2 := hrr.len1
  have hu1 : Rows.uptoBulk d1 ≤ Rows.uptoBulkAll ([d0, d1, d2] ++ []) := bulk_mem (by simp)
  dsimp only at hbn hbr
  have key : Calls Try.prog 7 #[.slice A0 zs.length c0, .slice A1 ns.length c1, .slice A2 rs.length c2] W fun e w' => e = .returned (.bool true) ∧ Below W.heap.size W w' := by
    by_cases h50 : zs.length ≤ 50
    · exact finds_any awake_any A0 c0 zs A1 c1 ns A2 c2 rs W har hrn hrr h50 (by omega)
    · exact finds_long awake_any A0 zs.length c0 _ _ W (by omega) ⟨_, _, _, rfl⟩ ⟨_, _, _, rfl⟩
  refine key.mono fun e W' ⟨he, bel⟩ => ?_
  subst he
  exact ⟨_, rfl, _, _, _, [], _, [], hW', trodAll_mk1 (shut_bool Try.underlying4 _), (trodAll_cons_mk (Below.trod laidOut (by kernel_rfl) (of_decide_eq_true (by kernel_rfl)) k0 bel lt0) (trodAll_cons_mk (Below.trod laidOut (by kernel_rfl) (of_decide_eq_true (by kernel_rfl)) k1 bel lt1) (trodAll_cons_mk (Below.trod laidOut (by kernel_rfl) (of_decide_eq_true (by kernel_rfl)) k2 bel lt2) trodAll_mk0))), rfl, bel.frame _, fun h => by cases h⟩

theorem over : Rows.WireFindsUptoSaid :=
  OpenClaim.holds_of_cond 7 Try.f7 rfl rfl rfl rfl rfl rfl rfl ⟨rfl, rfl, rfl, rfl, rfl⟩ rfl rfl rfl rfl rfl (by kernel_rfl) Try.func7 (by kernel_rfl)
    (of_decide_eq_true (by kernel_rfl)) (by unfold Func.isWrapper; first | (rw [if_pos (by decide +kernel)]; kernel_rfl) | (rw [if_neg (by decide +kernel)]; exact ⟨rfl, rfl⟩))
    (fun os started H enc _ F => lifted os started H enc F)

end LawFi

/-- the statement, its second form -/
theorem wireFindsUpto_holds : Rows.WireFindsUptoSaid := LawFi.over
end Go.Proofs.Ytijcnefomgfocaa
