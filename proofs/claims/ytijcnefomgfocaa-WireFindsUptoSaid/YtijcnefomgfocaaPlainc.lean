/-
  A command that is read is what is written, plain mathematics on lists.
-/
import Derived.Test.YtijcnefomgfocaaPlain
import Derived.Test.YtijcnefomgfocaaGetc
namespace Go.Proofs.Ytijcnefomgfocaa
open Go.RowKit

theorem intsD_enc (k : Nat) : ∀ {l : List UInt8} {b : Bool} {ns : List Int} {l1 : List UInt8}, intsD k l b = (ns, l1, false) → b = false ∧ l = ns.flatMap numB ++ l1 ∧ ns.length = k := by
  induction k with
  | zero =>
    intro l b ns l1 h
    rw [intsD] at h
    injection h with h1 h
    injection h with h2 h3
    subst h1 h2 h3
    exact ⟨rfl, by simp, rfl⟩
  | succ k ih =>
    intro l b ns l1 h
    cases b
    · rw [intsD, if_neg (by decide)] at h
      obtain ⟨⟨m, l2, b2⟩, hv⟩ : ∃ r, cnt l false = r := ⟨_, rfl⟩
      rw [hv] at h
      dsimp only at h
      obtain ⟨⟨us, l3, b3⟩, hu⟩ : ∃ r, intsD k l2 b2 = r := ⟨_, rfl⟩
      rw [hu] at h
      dsimp only at h
      injection h with h1 h
      injection h with h2 h3
      subst h1 h2 h3
      obtain ⟨rfl, e2, hlen⟩ := ih hu
      obtain ⟨_, e1⟩ := cnt_enc hv
      refine ⟨rfl, ?_, by simp [hlen]⟩
      rw [e1, e2]
      simp [numB, zig_unzig]
    · rw [intsD_bad] at h
      injection h with _ h
      injection h with _ h
      cases h
/-- a command that was read is what it is written as -/
theorem cmd_enc {bs : List UInt8} (hf : (cmdTD bs).2.2 = false) (hr : (cmdTD bs).2.1 = []) :
    bs = cmdB (byteV bs) (cmdH bs).1 (cmdN bs).1 (cmdTD bs).1 ∧ (cmdTD bs).1.length ≤ 512 := by
  obtain ⟨⟨m, l1, b1⟩, hc⟩ : ∃ r, cmdH bs = r := ⟨_, rfl⟩
  obtain ⟨⟨ns, l2, b2⟩, hv⟩ : ∃ r, cmdN bs = r := ⟨_, rfl⟩
  obtain ⟨⟨t, l3, b3⟩, ht⟩ : ∃ r, cmdTD bs = r := ⟨_, rfl⟩
  rw [ht] at hf hr
  dsimp only at hf hr
  subst hf hr
  have ht' := ht
  unfold cmdTD at ht
  rw [hv] at ht
  obtain ⟨rfl, e3, h512⟩ := txtD_enc ht
  have hv' := hv
  unfold cmdN at hv
  rw [hc] at hv
  dsimp only at hv
  obtain ⟨hb, e2, hlen⟩ := intsD_enc _ hv
  simp only [Bool.or_eq_false_iff] at hb
  obtain ⟨rfl, hemp⟩ := hb
  have hc' := hc
  unfold cmdH at hc
  obtain ⟨hbe, e1⟩ := cnt_enc hc
  rw [hc', hv', ht']
  refine ⟨?_, h512⟩
  dsimp only
  unfold cmdB
  rw [hlen]
  dsimp only at e3
  rw [e3] at e2
  have e4 := byteV_cons hemp
  rw [e2] at e4
  have e5 := byteV_cons hbe
  rw [e1] at e5
  generalize byteV l1 = q at e4 ⊢
  generalize byteV bs = p at e5 ⊢
  rw [e5, e4]
  simp
/-- the program's rule and the document's are the same -/
theorem cmd_good (bs : List UInt8) : ((cmdT bs).2.2 = false ∧ (cmdT bs).2.1 = [] ∧ goodC (byteV bs) (cmdH bs).1 (cmdN bs).1 (cmdT bs).1) ↔ ((cmdTD bs).2.2 = false ∧ (cmdTD bs).2.1 = [] ∧ bs.length ≤ 1024 ∧ (1 ≤ (byteV bs : Int) ∧ (byteV bs : Int) ≤ 23) ∧ (cmdN bs).1.length ≤ 32) := by
  obtain ⟨h1, h2⟩ := txt_flag (cmdN bs).2.1 (cmdN bs).2.2
  constructor
  · rintro ⟨hf, hr, hg⟩
    have e : cmdT bs = cmdTD bs := h2 (h1.symm.trans hf)
    rw [e] at hf hr hg
    have hb := (cmd_enc hf hr).1
    refine ⟨hf, hr, ?_, ⟨hg.1, hg.2.1⟩, hg.2.2.1⟩
    have := hg.2.2.2.2
    rw [← hb] at this
    exact this
  · rintro ⟨hf, hr, hl, ⟨ha, hb2⟩, h32⟩
    have e : cmdT bs = cmdTD bs := h2 hf
    rw [e]
    obtain ⟨hb, h512⟩ := cmd_enc hf hr
    exact ⟨hf, hr, ha, hb2, h32, h512, by rw [← hb]; exact hl⟩
end Go.Proofs.Ytijcnefomgfocaa
