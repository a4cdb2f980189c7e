/-
  THE STATEMENT 'WirePackets' (effigylaw17.WirePackets): whatever the packet and whatever the bytes, the law returns true, and both arguments read behind the call as they read before.
-/
import Derived.Test.YtijcnefomgfocaaRows
import Derived.Test.YtijcnefomgfocaaLawP
import Derived.Test.YtijcnefomgfocaaAwake
import Derived.Test.YtijcnefomgfocaaFrame
import Derived.WalkKit
import Derived.ProofKit
import Derived.OpenShut
import Derived.ChangeOld
import Derived.Below
namespace Go.Proofs.Ytijcnefomgfocaa
open Go.ChangeShapes Go.WideShapes Go.ChangeAt Go.RowKit

namespace LawP
theorem own : ownKnob Try.prog.godebug = none := by kernel_rfl
theorem laidOut : laidOutB Try.prog = true := by kernel_rfl

theorem walk (k : Int) (t s a : Nat) (A A2 : Option Addr) (n c n2 c2 : Nat) (bs raw : List UInt8) (w : World) (hr : RdB w w.heap.size A n bs) (hr2 : RdB w w.heap.size A2 n2 raw) (hc2 : n2 ≤ c2) (hm2 : n2 ≤ 9223372036854775807)
    (ht : t < 18446744073709551616) (hs : s < 18446744073709551616) (ha : a < 18446744073709551616) :
    Calls Try.prog 3 #[.agg #[.int .i64 k, .int .u64 t, .int .u64 s, .int .u64 a, .slice A n c], .slice A2 n2 c2] w fun e w' => e = .returned (.bool true) ∧ Below w.heap.size w w' := by
  cases hm : mayB k n
  · exact lawp_bad awake_any k t s a A A2 n c n2 c2 bs raw w hr hr2 hc2 hm2 hm
  · exact lawp_ok awake_any k t s a A A2 n c n2 c2 bs raw w hr hr2 hc2 hm2 hm ht hs ha

set_option maxRecDepth 100000 in
theorem lifted (os : Os) (started : os.Started) (H : Type) (enc : TypeId × Value → H) :
    ReturnsInHanded {} Try.checked os 3 .any (Rows.wirePacketsSpec.pre6 enc Try.prog Try.f3 Rows.wirePacketsRow.domain false) (Rows.wirePacketsSpec.post enc Try.prog Try.f3 false true false false) := by
  refine returnsInHanded_of_change (C := Try.checked) own started (by kernel_rfl) Try.func3
    (ChangeSpec.witness6 (enc := enc) (C := Try.checked) false ⟨#[], #[.agg #[.int .i64 0, .int .u64 0, .int .u64 0, .int .u64 0, .slice none 0 0], .slice none 0 0], []⟩ 8 (by kernel_rfl) (by kernel_rfl) (by kernel_rfl) (by kernel_rfl)) ?_
  intro W base args ds gs before hval0 hW hcnd _
  have hval : ∀ (j : Nat) t v, Try.f3.params[j]? = some t → args[j]? = some v → Value.okWide Try.prog W .any base t v := hval0
  have hW' := hW
  obtain ⟨p, q, hA0, hV, rfl, hfz, hnd⟩ := hW
  have hA : DataW.TrodAll enc Try.prog W 0 (fun _ => true) true Try.f3.params.toList args.toList ds p := hA0
  rw [Try.params3] at hA hval
  obtain ⟨v0, vs0, d0, ds0, p0, q0, hargs, rfl, rfl, h0, r0⟩ := trodAll_cons hA
  obtain ⟨v1, vs1, d1, ds1, p1, q1, rfl, rfl, rfl, h1, r1⟩ := trodAll_cons r0
  obtain ⟨rfl, rfl, rfl⟩ := trodAll_nil r1
  obtain rfl : args = #[v0, v1] := by cases args; simp_all
  obtain ⟨rfl, rfl⟩ := trodVars_none hV
  have k0 := h0
  have k1 := h1
  have lt0 : ∀ x ∈ p0, x.block < W.heap.size := by obtain ⟨m, hm⟩ := k0; exact DataW.trod_lt m _ _ _ hm
  have lt1 : ∀ x ∈ p1, x.block < W.heap.size := by obtain ⟨m, hm⟩ := k1; exact DataW.trod_lt m _ _ _ hm
  obtain ⟨u0, u1, u2, u3, u4, y0, y1, y2, y3, y4, m, rfl, _, _, t0, t1, t2, t3, t4⟩ := open_agg5 Try.underlying26 (by kernel_rfl) (by kernel_rfl) (hval 0 26 v0 rfl rfl) h0
  obtain ⟨x0, hx0, _, wf0⟩ := DataW.trod_int Try.underlying22 t0
  obtain ⟨x1, hx1, _, wf1⟩ := DataW.trod_int Try.underlying23 t1
  obtain ⟨x2, hx2, _, wf2⟩ := DataW.trod_int Try.underlying23 t2
  obtain ⟨x3, hx3, _, wf3⟩ := DataW.trod_int Try.underlying23 t3
  obtain ⟨A, n, c, bs, rfl, hnc, hcm, hrd⟩ := bytes_in Try.underlying24 Try.underlying5 (by kernel_rfl) t4
  obtain ⟨A2, n2, c2, raw, rfl, hnc2, hcm2, hrd2⟩ : ∃ (A : Option Addr) (n c : Nat) (bs : List UInt8), v1 = .slice A n c ∧ n ≤ c ∧ c ≤ maxLen ∧ RdB W W.heap.size A n bs := by
    obtain ⟨A2, l2, c2, rfl⟩ := okWide_slice Try.underlying24 (hval 1 24 v1 rfl rfl)
    obtain ⟨fuel, hf⟩ := h1
    obtain ⟨A, n, c, bs, e, h⟩ := bytes_in Try.underlying24 Try.underlying5 (by kernel_rfl) hf
    simp at e
    obtain ⟨rfl, rfl, rfl⟩ := e
    exact ⟨_, _, _, bs, rfl, h⟩
  simp only [List.cons.injEq, and_true] at hx0 hx1 hx2 hx3
  obtain ⟨t, rfl, ht⟩ := u64_of_wf wf1
  obtain ⟨s, rfl, hs⟩ := u64_of_wf wf2
  obtain ⟨a, rfl, ha⟩ := u64_of_wf wf3
  subst hx0 hx1 hx2 hx3
  clear hA0 hval0
  have hm2 : n2 ≤ 9223372036854775807 := by have : maxLen ≤ 9223372036854775807 := by decide
                                            omega
  refine (walk x0 t s a A A2 n c n2 c2 bs raw W hrd hrd2 hnc2 hm2 ht hs ha).mono fun e W' ⟨he, bel⟩ => ?_
  subst he
  exact ⟨_, rfl, _, _, _, [], _, [], hW', trodAll_mk1 (shut_bool Try.underlying4 _), (trodAll_cons_mk (Below.trod laidOut (by kernel_rfl) (of_decide_eq_true (by kernel_rfl)) k0 bel lt0) (trodAll_cons_mk (Below.trod laidOut (by kernel_rfl) (of_decide_eq_true (by kernel_rfl)) k1 bel lt1) trodAll_mk0)), rfl, bel.frame _, fun h => by cases h⟩

theorem over : Rows.wirePacketsRow.holds Try.pinned (OpenSpec.ofChange Rows.wirePacketsSpec) :=
  OpenClaim.holds_of_wide 3 Try.f3 rfl rfl rfl rfl rfl rfl rfl ⟨rfl, rfl, rfl, rfl, rfl⟩ rfl rfl rfl rfl rfl (by kernel_rfl) Try.func3 (by kernel_rfl)
    (of_decide_eq_true (by kernel_rfl)) (by unfold Func.isWrapper; first | (rw [if_pos (by decide +kernel)]; kernel_rfl) | (rw [if_neg (by decide +kernel)]; exact ⟨rfl, rfl⟩))
    (fun os started H enc _ => lifted os started H enc)

end LawP

/-- the statement -/
theorem wirePackets_holds : Rows.WirePacketsSaid := LawP.over
end Go.Proofs.Ytijcnefomgfocaa
