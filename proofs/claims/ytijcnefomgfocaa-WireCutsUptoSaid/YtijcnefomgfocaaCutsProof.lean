/-
  THE STATEMENT 'WireCuts' (effigylaw17.WireCuts), its second form: whatever the bytes and the cuts, where together they are of bulk at most 1048576, the law returns true, and the arguments read behind the call as they read before.
-/
import Derived.Test.YtijcnefomgfocaaCutsW
import Derived.Test.YtijcnefomgfocaaAwake
import Derived.Test.YtijcnefomgfocaaFrameU
import Derived.WalkKit
import Derived.ProofKit
import Derived.OpenShut
import Derived.ChangeOld
import Derived.JoinedCond
import Derived.Below
namespace Go.Proofs.Ytijcnefomgfocaa
open Go.Joins Go.ChangeShapes Go.WideShapes Go.ChangeAt Go.RowKit Go.Deep

section
variable {H : Type} {enc : TypeId × Value → H} {P : Program} {w : World} {base : Nat} {spare : Nat → Bool} {held : Bool}
/-- a slice of numbers that came in, and its bulk -/
theorem ints_bulk {t e : TypeId} {fuel : Nat} {v : Value} {x : DataW H × List MemPlace} (ht : P.underlying t = some (.slice e)) (he : P.underlying e = some (.int .i64)) (hc : P.cellsOf e = 1)
    (h : DataW.trod enc P w base spare held fuel t [v] = some x) :
    ∃ (A : Option Addr) (n c : Nat) (ns : List Int), v = .slice A n c ∧ n ≤ c ∧ c ≤ maxLen ∧ RdI w w.heap.size A n ns ∧ (∀ z ∈ ns, I64 z) ∧ n + 1 ≤ Rows.uptoBulk x.1 := by
  obtain ⟨A, n, c, bs, e1, h1, h2, h3, h4⟩ := ints_in ht he hc h
  refine ⟨A, n, c, bs, e1, h1, h2, h3, h4, ?_⟩
  rcases open_slice ht h with ⟨hcs, hx⟩ | ⟨a, len, cap, m, n', D, Pl, hcs, _, _, _, _, hx, _⟩
  · rw [e1] at hcs
    simp at hcs
    obtain ⟨rfl, rfl, rfl⟩ := hcs
    rw [hx, Nat.zero_add]
    exact bulk_one _
  · rw [e1] at hcs
    simp at hcs
    obtain ⟨rfl, rfl, rfl⟩ := hcs
    rw [hx]
    have h4 := bulk_slice ((List.range n).map D) ((List.range (m - n)).map fun j => D (n + j))
    have h5 := bulk_len ((List.range n).map D)
    simp only [List.length_map, List.length_range] at h5
    dsimp only
    omega
end

namespace LawCu
theorem own : ownKnob Try.prog.godebug = none := by kernel_rfl
theorem laidOut : laidOutB Try.prog = true := by kernel_rfl

set_option maxRecDepth 100000 in
theorem lifted (os : Os) (started : os.Started) (H : Type) (enc : TypeId × Value → H) (F : Stop.Interp) :
    ReturnsInHanded {} Try.checked os 6 .any ((Rows.OpenSpec.upto Rows.wireCutsSpec).pre6 enc Try.prog Try.f6 Rows.wireCutsUptoRow.domain false) (((Rows.OpenSpec.upto Rows.wireCutsSpec).at F).post enc Try.prog Try.f6 false true false false) := by
  refine returnsInHanded_of_cond (C := Try.checked) (s := Rows.OpenSpec.upto Rows.wireCutsSpec) (k := Rows.uptoSmall) rfl own started (by kernel_rfl) Try.func6
    (OpenSpec.witness (enc := enc) (C := Try.checked) (s := Rows.OpenSpec.upto Rows.wireCutsSpec) (k := Rows.uptoSmall) rfl false ⟨#[], #[.slice none 0 0, .slice none 0 0], []⟩ 8 (by kernel_rfl) (by kernel_rfl) (by kernel_rfl)
      (x := ([.nil, .nil], [], [])) (by kernel_rfl) rfl (by kernel_rfl)) ?_
  intro W base args ds gs before hval0 hW _ hk _
  have hval : ∀ (j : Nat) t v, Try.f6.params[j]? = some t → args[j]? = some v → Value.okWide Try.prog W .any base t v := hval0
  have hW' := hW
  obtain ⟨p, q, hA0, hV, rfl, hfz, hnd⟩ := hW
  have hA : DataW.TrodAll enc Try.prog W 0 (fun _ => true) true Try.f6.params.toList args.toList ds p := hA0
  rw [Try.params6] at hA hval
  obtain ⟨v0, vs0, d0, ds0, p0, q0, hargs, rfl, rfl, h0, r0⟩ := trodAll_cons hA
  obtain ⟨v1, vs1, d1, ds1, p1, q1, rfl, rfl, rfl, h1, r1⟩ := trodAll_cons r0
  obtain ⟨rfl, rfl, rfl⟩ := trodAll_nil r1
  obtain rfl : args = #[v0, v1] := by cases args; simp_all
  obtain ⟨rfl, rfl⟩ := trodVars_none hV
  have k0 := h0
  have k1 := h1
  have lt0 : ∀ x ∈ p0, x.block < W.heap.size := by obtain ⟨m, hm⟩ := k0; exact DataW.trod_lt m _ _ _ hm
  have lt1 : ∀ x ∈ p1, x.block < W.heap.size := by obtain ⟨m, hm⟩ := k1; exact DataW.trod_lt m _ _ _ hm
  obtain ⟨A0, n0, c0, rfl⟩ := okWide_slice Try.underlying24 (hval 0 24 v0 rfl rfl)
  obtain ⟨A1, n1, c1, rfl⟩ := okWide_slice Try.underlying54 (hval 1 54 v1 rfl rfl)
  obtain ⟨f0, g0⟩ := h0
  obtain ⟨f1, g1⟩ := h1
  obtain ⟨A, n, c, bs, hv0, hnc, hcm, hrd, hbk⟩ := bytes_bulk Try.underlying24 Try.underlying5 (by kernel_rfl) g0
  obtain ⟨Ac, nc, cc, ns, hv1, hcn, hccm, hrc, hI, hbc⟩ := ints_bulk Try.underlying54 Try.underlying3 (by kernel_rfl) g1
  injection hv0 with e1 e2 e3
  subst e1 e2 e3
  injection hv1 with e1 e2 e3
  subst e1 e2 e3
  clear hA0 hval0
  have hb := bulk_bound hk
  have hnl := hrd.len1
  have h2 : Rows.uptoBulk d0 ≤ Rows.uptoBulkAll ([d0, d1] ++ []) := bulk_mem (by simp)
  have h3 : Rows.uptoBulk d1 ≤ Rows.uptoBulkAll ([d0, d1] ++ []) := bulk_mem (by simp)
  dsimp only at hbk hbc
  refine (cuts_any awake_any A0 n0 c0 bs A1 n1 c1 ns W hrd hnc (by omega) hrc (by omega) hI).mono fun e W' ⟨he, bel⟩ => ?_
  subst he
  exact ⟨_, rfl, _, _, _, [], _, [], hW', trodAll_mk1 (shut_bool Try.underlying4 _), (trodAll_cons_mk (Below.trod laidOut (by kernel_rfl) (of_decide_eq_true (by kernel_rfl)) k0 bel lt0) (trodAll_cons_mk (Below.trod laidOut (by kernel_rfl) (of_decide_eq_true (by kernel_rfl)) k1 bel lt1) trodAll_mk0)), rfl, bel.frame _, fun h => by cases h⟩

theorem over : Rows.WireCutsUptoSaid :=
  OpenClaim.holds_of_cond 6 Try.f6 rfl rfl rfl rfl rfl rfl rfl ⟨rfl, rfl, rfl, rfl, rfl⟩ rfl rfl rfl rfl rfl (by kernel_rfl) Try.func6 (by kernel_rfl)
    (of_decide_eq_true (by kernel_rfl)) (by unfold Func.isWrapper; first | (rw [if_pos (by decide +kernel)]; kernel_rfl) | (rw [if_neg (by decide +kernel)]; exact ⟨rfl, rfl⟩))
    (fun os started H enc _ F => lifted os started H enc F)

end LawCu

/-- the statement, its second form -/
theorem wireCutsUpto_holds : Rows.WireCutsUptoSaid := LawCu.over
end Go.Proofs.Ytijcnefomgfocaa
