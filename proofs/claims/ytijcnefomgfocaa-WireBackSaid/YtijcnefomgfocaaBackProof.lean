/-
  THE STATEMENT 'WireBack' (effigylaw17.WireBack): whatever the packet, the command, the reply, the place and the change, the law returns true, and the arguments read behind the call as they read before.
-/
import Derived.Test.YtijcnefomgfocaaRows
import Derived.Test.YtijcnefomgfocaaBackW
import Derived.Test.YtijcnefomgfocaaAwake
import Derived.Test.YtijcnefomgfocaaFrameV
import Derived.Test.YtijcnefomgfocaaFrameI
import Derived.WalkKit
import Derived.ProofKit
import Derived.OpenShut
import Derived.ChangeOld
import Derived.Below
namespace Go.Proofs.Ytijcnefomgfocaa
open Go.Joins Go.ChangeShapes Go.WideShapes Go.ChangeAt Go.RowKit

namespace LawB
theorem own : ownKnob Try.prog.godebug = none := by kernel_rfl
theorem laidOut : laidOutB Try.prog = true := by kernel_rfl

theorem u32_of_wf {z : Int} (h : (Lit.int .u32 z).wf = true) : ∃ n : Nat, z = n ∧ n < 4294967296 := by
  simp [Lit.wf, IntKind.min, IntKind.max, IntKind.signed, IntKind.bits] at h
  exact ⟨z.toNat, by omega, by omega⟩

set_option maxRecDepth 100000 in
theorem lifted (os : Os) (started : os.Started) (H : Type) (enc : TypeId × Value → H) :
    ReturnsInHanded {} Try.checked os 10 .any (Rows.wireBackSpec.pre6 enc Try.prog Try.f10 Rows.wireBackRow.domain false) (Rows.wireBackSpec.post enc Try.prog Try.f10 false true false false) := by
  refine returnsInHanded_of_change (C := Try.checked) own started (by kernel_rfl) Try.func10
    (ChangeSpec.witness6 (enc := enc) (C := Try.checked) false ⟨#[], #[.agg #[.int .i64 0, .int .u64 0, .int .u64 0, .int .u64 0, .slice none 0 0], .agg #[.int .i64 0, .int .u64 0, .slice none 0 0, .string ByteArray.empty], .agg #[.int .i64 0, .slice none 0 0, .string ByteArray.empty], .int .i64 0, .int .u32 0], []⟩ 8 (by kernel_rfl) (by kernel_rfl) (by kernel_rfl) (by kernel_rfl)) ?_
  intro W base args ds gs before hval0 hW hcnd _
  have hval : ∀ (j : Nat) t v, Try.f10.params[j]? = some t → args[j]? = some v → Value.okWide Try.prog W .any base t v := hval0
  have hW' := hW
  obtain ⟨p, q, hA0, hV, rfl, hfz, hnd⟩ := hW
  have hA : DataW.TrodAll enc Try.prog W 0 (fun _ => true) true Try.f10.params.toList args.toList ds p := hA0
  rw [Try.params10] at hA hval
  obtain ⟨v0, vs0, d0, ds0, p0, q0, hargs, rfl, rfl, h0, r0⟩ := trodAll_cons hA
  obtain ⟨v1, vs1, d1, ds1, p1, q1, rfl, rfl, rfl, h1, r1⟩ := trodAll_cons r0
  obtain ⟨v2, vs2, d2, ds2, p2, q2, rfl, rfl, rfl, h2, r2⟩ := trodAll_cons r1
  obtain ⟨v3, vs3, d3, ds3, p3, q3, rfl, rfl, rfl, h3, r3⟩ := trodAll_cons r2
  obtain ⟨v4, vs4, d4, ds4, p4, q4, rfl, rfl, rfl, h4, r4⟩ := trodAll_cons r3
  obtain ⟨rfl, rfl, rfl⟩ := trodAll_nil r4
  obtain rfl : args = #[v0, v1, v2, v3, v4] := by cases args; simp_all
  obtain ⟨rfl, rfl⟩ := trodVars_none hV
  have k0 := h0
  have k1 := h1
  have k2 := h2
  have k3 := h3
  have k4 := h4
  have lt0 : ∀ x ∈ p0, x.block < W.heap.size := by obtain ⟨m, hm⟩ := k0; exact DataW.trod_lt m _ _ _ hm
  have lt1 : ∀ x ∈ p1, x.block < W.heap.size := by obtain ⟨m, hm⟩ := k1; exact DataW.trod_lt m _ _ _ hm
  have lt2 : ∀ x ∈ p2, x.block < W.heap.size := by obtain ⟨m, hm⟩ := k2; exact DataW.trod_lt m _ _ _ hm
  have lt3 : ∀ x ∈ p3, x.block < W.heap.size := by obtain ⟨m, hm⟩ := k3; exact DataW.trod_lt m _ _ _ hm
  have lt4 : ∀ x ∈ p4, x.block < W.heap.size := by obtain ⟨m, hm⟩ := k4; exact DataW.trod_lt m _ _ _ hm
  obtain ⟨a0, a1, a2, a3, a4, ya0, ya1, ya2, ya3, ya4, ma, rfl, _, _, ta0, ta1, ta2, ta3, ta4⟩ := open_agg5 Try.underlying26 (by kernel_rfl) (by kernel_rfl) (hval 0 26 v0 rfl rfl) h0
  obtain ⟨b0, b1, b2, b3, yb0, yb1, yb2, yb3, mb, rfl, _, _, tb0, tb1, tb2, tb3⟩ := open_agg4 Try.underlying56 (by kernel_rfl) (by kernel_rfl) (hval 1 56 v1 rfl rfl) h1
  obtain ⟨c0, c1, c2, yc0, yc1, yc2, mc, rfl, _, _, tc0, tc1, tc2⟩ := open_agg3 Try.underlying43 (by kernel_rfl) (by kernel_rfl) (hval 2 43 v2 rfl rfl) h2
  obtain ⟨x0, hx0, _, wf0⟩ := DataW.trod_int Try.underlying22 ta0
  obtain ⟨x1, hx1, _, wf1⟩ := DataW.trod_int Try.underlying23 ta1
  obtain ⟨x2, hx2, _, wf2⟩ := DataW.trod_int Try.underlying23 ta2
  obtain ⟨x3, hx3, _, wf3⟩ := DataW.trod_int Try.underlying23 ta3
  obtain ⟨pA, pn, pc, pbs, rfl, _, _, hp⟩ := bytes_in Try.underlying24 Try.underlying5 (by kernel_rfl) ta4
  obtain ⟨t, rfl, ht⟩ := u64_of_wf wf1
  obtain ⟨s, rfl, hs⟩ := u64_of_wf wf2
  obtain ⟨a, rfl, ha⟩ := u64_of_wf wf3
  obtain ⟨kind, hy0, _, _⟩ := DataW.trod_int Try.underlying53 tb0
  obtain ⟨hd0, hy1, _, wg1⟩ := DataW.trod_int Try.underlying23 tb1
  obtain ⟨hd, rfl, hhd⟩ := u64_of_wf wg1
  obtain ⟨cA, cn, cc, ns, rfl, hcnc, hccm, hc, hns⟩ := ints_in Try.underlying54 Try.underlying3 (by kernel_rfl) tb2
  obtain ⟨cs, hy3, _, _⟩ := DataW.trod_string Try.underlying9 tb3
  obtain ⟨err, hz0, _, wh0⟩ := DataW.trod_int Try.underlying27 tc0
  obtain ⟨rA, rn, rc, vs, rfl, hrnc, hrcm, hr, hvs⟩ := vals_in Try.underlying41 Try.underlying95 (by kernel_rfl) (by kernel_rfl) Try.underlying23 Try.underlying3 tc1
  obtain ⟨rs, hz2, _, _⟩ := DataW.trod_string Try.underlying9 tc2
  obtain ⟨f3, g3⟩ := h3
  obtain ⟨f4, g4⟩ := h4
  obtain ⟨at_, rfl⟩ := okWide_int Try.underlying3 (hval 3 3 v3 rfl rfl)
  obtain ⟨ch0, rfl⟩ := okWide_int Try.underlying35 (hval 4 35 v4 rfl rfl)
  obtain ⟨at2, hw3, _, wf8⟩ := DataW.trod_int Try.underlying3 g3
  obtain ⟨ch2, hw4, _, wf9⟩ := DataW.trod_int Try.underlying35 g4
  simp only [Value.cells, List.cons.injEq, and_true, Value.int.injEq, true_and] at hx0 hx1 hx2 hx3 hy0 hy1 hy3 hz0 hz2 hw3 hw4
  subst hx0 hx1 hx2 hx3 hy0 hy1 hy3 hz0 hz2 hw3 hw4
  obtain ⟨ch, rfl, hch⟩ := u32_of_wf wf9
  clear hA0 hval0
  have hcm : cn ≤ 9223372036854775807 := by have : maxLen ≤ 9223372036854775807 := by decide
                                            omega
  have hrm : rn ≤ 9223372036854775807 := by have : maxLen ≤ 9223372036854775807 := by decide
                                            omega
  refine (back_any awake_any x0 t s a pA pn pc pbs ht hs ha kind hd cA cn cc ns cs hhd hns err rA rn rc vs rs (i64_of_wf wh0) hvs at_ (i64_of_wf wf8) ch hch W hp hc hr hcm hrm).mono fun e W' ⟨he, bel⟩ => ?_
  subst he
  exact ⟨_, rfl, _, _, _, [], _, [], hW', trodAll_mk1 (shut_bool Try.underlying4 _), (trodAll_cons_mk (Below.trod laidOut (by kernel_rfl) (of_decide_eq_true (by kernel_rfl)) k0 bel lt0) (trodAll_cons_mk (Below.trod laidOut (by kernel_rfl) (of_decide_eq_true (by kernel_rfl)) k1 bel lt1) (trodAll_cons_mk (Below.trod laidOut (by kernel_rfl) (of_decide_eq_true (by kernel_rfl)) k2 bel lt2) (trodAll_cons_mk (Below.trod laidOut (by kernel_rfl) (of_decide_eq_true (by kernel_rfl)) k3 bel lt3) (trodAll_cons_mk (Below.trod laidOut (by kernel_rfl) (of_decide_eq_true (by kernel_rfl)) k4 bel lt4) trodAll_mk0))))), rfl, bel.frame _, fun h => by cases h⟩

theorem over : Rows.wireBackRow.holds Try.pinned (OpenSpec.ofChange Rows.wireBackSpec) :=
  OpenClaim.holds_of_wide 10 Try.f10 rfl rfl rfl rfl rfl rfl rfl ⟨rfl, rfl, rfl, rfl, rfl⟩ rfl rfl rfl rfl rfl (by kernel_rfl) Try.func10 (by kernel_rfl)
    (of_decide_eq_true (by kernel_rfl)) (by unfold Func.isWrapper; first | (rw [if_pos (by decide +kernel)]; kernel_rfl) | (rw [if_neg (by decide +kernel)]; exact ⟨rfl, rfl⟩))
    (fun os started H enc _ => lifted os started H enc)

end LawB

/-- the statement -/
theorem wireBack_holds : Rows.WireBackSaid := LawB.over
end Go.Proofs.Ytijcnefomgfocaa
