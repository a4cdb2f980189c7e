/-
  THE STATEMENT 'WireCommands' (effigylaw17.WireCommands): whatever the command and whatever the bytes, the law returns true, and both arguments read behind the call as they read before.
-/
import Derived.Test.YtijcnefomgfocaaRows
import Derived.Test.YtijcnefomgfocaaLawC
import Derived.Test.YtijcnefomgfocaaAwake
import Derived.Test.YtijcnefomgfocaaFrameI
import Derived.WalkKit
import Derived.ProofKit
import Derived.OpenShut
import Derived.ChangeOld
import Derived.Below
namespace Go.Proofs.Ytijcnefomgfocaa
open Go.Joins Go.ChangeShapes Go.WideShapes Go.ChangeAt Go.RowKit

namespace LawC
theorem own : ownKnob Try.prog.godebug = none := by kernel_rfl
theorem laidOut : laidOutB Try.prog = true := by kernel_rfl

set_option maxRecDepth 100000 in
theorem lifted (os : Os) (started : os.Started) (H : Type) (enc : TypeId × Value → H) :
    ReturnsInHanded {} Try.checked os 5 .any (Rows.wireCommandsSpec.pre6 enc Try.prog Try.f5 Rows.wireCommandsRow.domain false) (Rows.wireCommandsSpec.post enc Try.prog Try.f5 false true false false) := by
  refine returnsInHanded_of_change (C := Try.checked) own started (by kernel_rfl) Try.func5
    (ChangeSpec.witness6 (enc := enc) (C := Try.checked) false ⟨#[], #[.agg #[.int .i64 0, .int .u64 0, .slice none 0 0, .string ByteArray.empty], .slice none 0 0], []⟩ 8 (by kernel_rfl) (by kernel_rfl) (by kernel_rfl) (by kernel_rfl)) ?_
  intro W base args ds gs before hval0 hW hcnd _
  have hval : ∀ (j : Nat) t v, Try.f5.params[j]? = some t → args[j]? = some v → Value.okWide Try.prog W .any base t v := hval0
  have hW' := hW
  obtain ⟨p, q, hA0, hV, rfl, hfz, hnd⟩ := hW
  have hA : DataW.TrodAll enc Try.prog W 0 (fun _ => true) true Try.f5.params.toList args.toList ds p := hA0
  rw [Try.params5] at hA hval
  obtain ⟨v0, vs0, d0, ds0, p0, q0, hargs, rfl, rfl, h0, r0⟩ := trodAll_cons hA
  obtain ⟨v1, vs1, d1, ds1, p1, q1, rfl, rfl, rfl, h1, r1⟩ := trodAll_cons r0
  obtain ⟨rfl, rfl, rfl⟩ := trodAll_nil r1
  obtain rfl : args = #[v0, v1] := by cases args; simp_all
  obtain ⟨rfl, rfl⟩ := trodVars_none hV
  have k0 := h0
  have k1 := h1
  have lt0 : ∀ x ∈ p0, x.block < W.heap.size := by obtain ⟨m, hm⟩ := k0; exact DataW.trod_lt m _ _ _ hm
  have lt1 : ∀ x ∈ p1, x.block < W.heap.size := by obtain ⟨m, hm⟩ := k1; exact DataW.trod_lt m _ _ _ hm
  obtain ⟨u0, u1, u2, u3, y0, y1, y2, y3, m, rfl, _, _, t0, t1, t2, t3⟩ := open_agg4 Try.underlying56 (by kernel_rfl) (by kernel_rfl) (hval 0 56 v0 rfl rfl) h0
  obtain ⟨kind, hx0, _, wf0⟩ := DataW.trod_int Try.underlying53 t0
  obtain ⟨hd0, hx1, _, wf1⟩ := DataW.trod_int Try.underlying23 t1
  obtain ⟨hd, rfl, hhd⟩ := u64_of_wf wf1
  obtain ⟨A, n, c, ns, rfl, hnc, hcm, hrd, hus⟩ := ints_in Try.underlying54 Try.underlying3 (by kernel_rfl) t2
  obtain ⟨s, hx3, _, _⟩ := DataW.trod_string Try.underlying9 t3
  obtain ⟨A2, n2, c2, raw, rfl, hnc2, hcm2, hrd2⟩ : ∃ (A : Option Addr) (n c : Nat) (bs : List UInt8), v1 = .slice A n c ∧ n ≤ c ∧ c ≤ maxLen ∧ RdB W W.heap.size A n bs := by
    obtain ⟨A2, l2, c2, rfl⟩ := okWide_slice Try.underlying24 (hval 1 24 v1 rfl rfl)
    obtain ⟨fuel, hf⟩ := h1
    obtain ⟨A, n, c, bs, e, h⟩ := bytes_in Try.underlying24 Try.underlying5 (by kernel_rfl) hf
    simp at e
    obtain ⟨rfl, rfl, rfl⟩ := e
    exact ⟨_, _, _, bs, rfl, h⟩
  simp only [List.cons.injEq, and_true] at hx0 hx1 hx3
  subst hx0 hx1 hx3
  clear hA0 hval0
  have hm2 : n2 ≤ 9223372036854775807 := by have : maxLen ≤ 9223372036854775807 := by decide
                                            omega
  refine (lawc_any awake_any kind hd A A2 n c n2 c2 ns s raw W hhd hrd hus hrd2 hnc2 hm2).mono fun e W' ⟨he, bel⟩ => ?_
  subst he
  exact ⟨_, rfl, _, _, _, [], _, [], hW', trodAll_mk1 (shut_bool Try.underlying4 _), (trodAll_cons_mk (Below.trod laidOut (by kernel_rfl) (of_decide_eq_true (by kernel_rfl)) k0 bel lt0) (trodAll_cons_mk (Below.trod laidOut (by kernel_rfl) (of_decide_eq_true (by kernel_rfl)) k1 bel lt1) trodAll_mk0)), rfl, bel.frame _, fun h => by cases h⟩

theorem over : Rows.wireCommandsRow.holds Try.pinned (OpenSpec.ofChange Rows.wireCommandsSpec) :=
  OpenClaim.holds_of_wide 5 Try.f5 rfl rfl rfl rfl rfl rfl rfl ⟨rfl, rfl, rfl, rfl, rfl⟩ rfl rfl rfl rfl rfl (by kernel_rfl) Try.func5 (by kernel_rfl)
    (of_decide_eq_true (by kernel_rfl)) (by unfold Func.isWrapper; first | (rw [if_pos (by decide +kernel)]; kernel_rfl) | (rw [if_neg (by decide +kernel)]; exact ⟨rfl, rfl⟩))
    (fun os started H enc _ => lifted os started H enc)

end LawC

/-- the statement -/
theorem wireCommands_holds : Rows.WireCommandsSaid := LawC.over
end Go.Proofs.Ytijcnefomgfocaa
