/-
  What holds while instructions are taken into regions, plain. No statement of the seat is proved here.
-/
import Derived.Test.YtaeegkljldngmaaDoorCvF
namespace Go.Proofs.YtaeegkljldngmaaDoor

theorem rgAt_set {rs : List Rg} {r q : Nat} {x : Rg} (hr : r < rs.length) : rgAt (rs.set r x) q = if q = r then x else rgAt rs q := by
  unfold rgAt
  rw [List.getD_eq_getElem?_getD, List.getElem?_set]
  by_cases e : r = q
  · subst e; simp [hr]
  · rw [if_neg e, if_neg (Ne.symm e), List.getD_eq_getElem?_getD]
theorem rgAt_push {rs : List Rg} {q : Nat} {x : Rg} : rgAt (rs ++ [x]) q = if q = rs.length then x else rgAt rs q := by
  unfold rgAt
  rw [List.getD_eq_getElem?_getD, List.getD_eq_getElem?_getD]
  rcases Nat.lt_trichotomy q rs.length with h | h | h
  · rw [List.getElem?_append_left h, if_neg (by omega)]
  · subst h; rw [List.getElem?_append_right (Nat.le_refl _)]; simp
  · rw [List.getElem?_append_right (by omega), if_neg (by omega), List.getElem?_eq_none (by simp; omega), List.getElem?_eq_none (by omega)]
theorem RgsOk.step {rs : List Rg} (h : RgsOk rs) {r i : Nat} (hr : r < rs.length) : RgsOk (addStep rs r i) := by
  have e1 : ∀ q, (rgAt (addStep rs r i) q).outer = (rgAt rs q).outer := fun q => by
    unfold addStep; rw [rgAt_set hr]; split
    · rename_i e; subst e; rfl
    · rfl
  have e2 : ∀ q, (rgAt (addStep rs r i) q).deep = (rgAt rs q).deep := fun q => by
    unfold addStep; rw [rgAt_set hr]; split
    · rename_i e; subst e; rfl
    · rfl
  have e3 : (addStep rs r i).length = rs.length := by simp [addStep]
  refine ⟨by rw [e3]; exact h.pos, by rw [e2]; exact h.root, fun q hq hl => ?_⟩
  rw [e3] at hl
  obtain ⟨o, h1, h2, h3⟩ := h.out q hq hl
  exact ⟨o, by rw [e1]; exact h1, h2, by rw [e2, e2]; exact h3⟩
theorem RgsOk.push {rs : List Rg} (h : RgsOk rs) {r : Nat} (hr : r < rs.length) (t f : Int) : RgsOk (rs ++ [⟨r, (rgAt rs r).deep + 1, t, f, [], 0⟩]) := by
  have hp := h.pos
  refine ⟨by simp, ?_, fun q hq hl => ?_⟩
  · rw [rgAt_push, if_neg (by omega)]; exact h.root
  · simp only [List.length_append, List.length_cons, List.length_nil] at hl
    rw [rgAt_push]
    by_cases e : q = rs.length
    · rw [if_pos e]
      exact ⟨r, rfl, by omega, by rw [rgAt_push, if_neg (by omega)]⟩
    · rw [if_neg e]
      obtain ⟨o, h1, h2, h3⟩ := h.out q hq (by omega)
      exact ⟨o, h1, h2, by rw [rgAt_push, if_neg (by omega)]; exact h3⟩
theorem climb_le {rs : List Rg} (h : RgsOk rs) {p : Int} (h0 : p ≠ (rgAt rs 0).fin) : ∀ (f r : Nat), r ≤ f → r < rs.length → climb rs p f r ≤ r ∧ p ≠ (rgAt rs (climb rs p f r)).fin
  | 0, r, hf, _ => by
    obtain rfl : r = 0 := by omega
    exact ⟨Nat.le_refl _, h0⟩
  | f + 1, r, hf, hr => by
    unfold climb
    by_cases e : p = (rgAt rs r).fin
    · rw [if_pos e]
      rcases Nat.eq_zero_or_pos r with rfl | hp
      · exact absurd e h0
      · obtain ⟨o, h1, h2, _⟩ := h.out r hp hr
        rw [h1, Int.toNat_natCast]
        have := climb_le h h0 f o (by omega) (by omega)
        exact ⟨by omega, this.2⟩
    · rw [if_neg e]
      exact ⟨Nat.le_refl _, e⟩
/-- the fuel does not matter -/
theorem climb_fuel {rs : List Rg} (h : RgsOk rs) {p : Int} (h0 : p ≠ (rgAt rs 0).fin) : ∀ (f g r : Nat), r ≤ f → r ≤ g → r < rs.length → climb rs p f r = climb rs p g r
  | 0, g, r, hf, hg, hr => by
    obtain rfl : r = 0 := by omega
    cases g with
    | zero => rfl
    | succ g => unfold climb; rw [if_neg h0]
  | f + 1, g, r, hf, hg, hr => by
    cases g with
    | zero =>
      obtain rfl : r = 0 := by omega
      unfold climb; rw [if_neg h0]
    | succ g =>
      unfold climb
      by_cases e : p = (rgAt rs r).fin
      · rw [if_pos e, if_pos e]
        rcases Nat.eq_zero_or_pos r with rfl | hp
        · exact absurd e h0
        · obtain ⟨o, h1, h2, _⟩ := h.out r hp hr
          rw [h1, Int.toNat_natCast]
          exact climb_fuel h h0 f g o (by omega) (by omega) (by omega)
      · rw [if_neg e, if_neg e]
theorem climb_up {rs : List Rg} (h : RgsOk rs) {p : Int} (h0 : p ≠ (rgAt rs 0).fin) {r : Nat} (hr : r < rs.length) (e : p = (rgAt rs r).fin) : ∃ o : Nat, (rgAt rs r).outer = o ∧ o < r ∧ climb rs p o o = climb rs p r r := by
  rcases Nat.eq_zero_or_pos r with rfl | hp
  · exact absurd e h0
  · obtain ⟨o, h1, h2, _⟩ := h.out r hp hr
    refine ⟨o, h1, h2, ?_⟩
    obtain ⟨q, rfl⟩ : ∃ q, r = q + 1 := ⟨r - 1, by omega⟩
    conv => rhs; unfold climb
    rw [if_pos e, h1, Int.toNat_natCast]
    exact climb_fuel h h0 o q o (Nat.le_refl _) (by omega) (by omega)
theorem climb_stay {rs : List Rg} {p : Int} {r : Nat} (e : p ≠ (rgAt rs r).fin) : climb rs p r r = r := by
  cases r with
  | zero => rfl
  | succ r => unfold climb; rw [if_neg e]
structure SpOk (l : List Ins) (i : Nat) (S : Sp) : Prop where
  rok : RgsOk S.rs
  rlt : S.r < S.rs.length
  ofl : S.of.length = i
  bol : S.body.length = i
  fin0 : (rgAt S.rs 0).fin = pl l l.length
  cnt : S.rs.length ≤ i + 1
  stl : ∀ x ∈ S.rs, x.steps.length ≤ i
  ofr : ∀ j, j < i → S.of.getD j 0 < S.rs.length
  stm : ∀ q, q < S.rs.length → ∀ j, j ∈ (rgAt S.rs q).steps ↔ (j < i ∧ S.of.getD j 0 = q)
  ne : ∀ q, q < S.rs.length → (rgAt S.rs q).steps ≠ [] ∨ (q = S.r ∧ (pl l i : Int) < (rgAt S.rs q).fin)
  fle : ∀ q, q < S.rs.length → (rgAt S.rs q).fin ≤ pl l l.length
theorem sp0_ok (s : Shp) (l : List Ins) (hl : 0 < pl l l.length) : SpOk l 0 (sp0 s (pl l l.length)) := by
  refine ⟨⟨by simp [sp0], rfl, fun r h1 h2 => ?_⟩, by simp [sp0], rfl, rfl, rfl, by simp [sp0], fun x hx => ?_, fun j hj => by omega, fun q hq j => ?_, fun q hq => ?_, fun q hq => ?_⟩
  · simp [sp0] at h2; omega
  · simp [sp0] at hx; subst hx; simp
  · simp only [sp0, List.length_cons, List.length_nil] at hq
    obtain rfl : q = 0 := by omega
    simp [sp0, rgAt]
  · simp only [sp0, List.length_cons, List.length_nil] at hq
    obtain rfl : q = 0 := by omega
    refine .inr ⟨rfl, ?_⟩
    simp [sp0, rgAt, pl_zero]
    omega
  · simp only [sp0, List.length_cons, List.length_nil] at hq
    obtain rfl : q = 0 := by omega
    simp [sp0, rgAt]
section
variable {l : List Ins} {i : Nat} {S : Sp}
theorem SpOk.p0 (h : SpOk l i S) (hok : ∀ x ∈ l, x.Ok) (hi : i < l.length) : (pl l i : Int) ≠ (rgAt S.rs 0).fin := by
  rw [h.fin0]
  have := pl_lt hok hi (Nat.le_refl _)
  omega
/-- an instruction is noted in its region -/
theorem SpOk.note (h : SpOk l i S) (hok : ∀ x ∈ l, x.Ok) (hi : i < l.length) {b : Int} : SpOk l (i + 1) ⟨addStep S.rs (climb S.rs (pl l i) S.r S.r) i, S.of ++ [climb S.rs (pl l i) S.r S.r], S.body ++ [b], climb S.rs (pl l i) S.r S.r⟩ ∧ (addStep S.rs (climb S.rs (pl l i) S.r S.r) i).length ≤ i + 1 ∧ ∀ q, q < (addStep S.rs (climb S.rs (pl l i) S.r S.r) i).length → (rgAt (addStep S.rs (climb S.rs (pl l i) S.r S.r) i) q).steps ≠ [] := by
  have hc := climb_le h.rok (h.p0 hok hi) S.r S.r (Nat.le_refl _) h.rlt
  have hst := climb_stay (rs := S.rs) (p := (pl l i : Int)) (r := S.r)
  generalize hr : climb S.rs (pl l i) S.r S.r = r at *
  have hrl : r < S.rs.length := by have := h.rlt; omega
  have e3 : (addStep S.rs r i).length = S.rs.length := by simp [addStep]
  have ef : ∀ q, (rgAt (addStep S.rs r i) q).fin = (rgAt S.rs q).fin := fun q => by
    unfold addStep; rw [rgAt_set hrl]; split
    · rename_i e; subst e; rfl
    · rfl
  have es : ∀ q, (rgAt (addStep S.rs r i) q).steps = if q = r then (rgAt S.rs r).steps ++ [i] else (rgAt S.rs q).steps := fun q => by
    unfold addStep; rw [rgAt_set hrl]; split <;> rfl
  have hof : ∀ j, (S.of ++ [r]).getD j 0 = if j = i then r else S.of.getD j 0 := fun j => by
    rw [List.getD_eq_getElem?_getD, List.getD_eq_getElem?_getD]
    have := h.ofl
    rcases Nat.lt_trichotomy j i with e | e | e
    · rw [List.getElem?_append_left (by omega), if_neg (by omega)]
    · rw [List.getElem?_append_right (by omega), if_pos e, this, e]; simp
    · rw [List.getElem?_append_right (by omega), if_neg (by omega), List.getElem?_eq_none (by simp; omega), List.getElem?_eq_none (by omega)]
  have hne : ∀ q, q < (addStep S.rs r i).length → (rgAt (addStep S.rs r i) q).steps ≠ [] := fun q hq => by
    have hq2 : q < S.rs.length := by rw [← e3]; exact hq
    rw [es]
    split
    · simp
    · rename_i e
      rcases h.ne q hq2 with e1 | ⟨e1, e2⟩
      · exact e1
      · exfalso
        subst e1
        exact e (hst (by omega)).symm
  refine ⟨?_, by rw [e3]; exact h.cnt, hne⟩
  refine ⟨h.rok.step hrl, by show r < (addStep S.rs r i).length; rw [e3]; exact hrl, by simp [h.ofl], by simp [h.bol], by rw [ef]; exact h.fin0, by show (addStep S.rs r i).length ≤ _; rw [e3]; have := h.cnt; omega, ?_, ?_, ?_, ?_, ?_⟩
  · intro x hx
    obtain ⟨q, hq⟩ := List.getElem?_of_mem hx
    have hq1 : q < S.rs.length := by rw [← e3]; exact (List.getElem?_eq_some_iff.1 hq).1
    have : x = rgAt (addStep S.rs r i) q := by
      unfold rgAt; rw [List.getD_eq_getElem?_getD, hq]; rfl
    rw [this, es]
    split
    · have := h.stl _ (List.mem_of_getElem? (rgAt_some hrl))
      simp; omega
    · have := h.stl _ (List.mem_of_getElem? (rgAt_some hq1))
      omega
  · intro j hj
    show (S.of ++ [r]).getD j 0 < (addStep S.rs r i).length
    rw [e3, hof]
    split
    · exact hrl
    · exact h.ofr j (by omega)
  · intro q hq j
    have hq2 : q < S.rs.length := by rw [← e3]; exact hq
    show j ∈ (rgAt (addStep S.rs r i) q).steps ↔ (j < i + 1 ∧ (S.of ++ [r]).getD j 0 = q)
    rw [es, hof]
    have h1 := h.stm q hq2 j
    by_cases e : q = r
    · subst e
      rw [if_pos rfl, List.mem_append, List.mem_singleton, h1]
      by_cases ej : j = i
      · subst ej; simp
      · rw [if_neg ej]
        constructor
        · rintro (⟨a, b⟩ | a)
          · exact ⟨by omega, b⟩
          · exact absurd a ej
        · rintro ⟨a, b⟩
          exact .inl ⟨by omega, b⟩
    · rw [if_neg e, h1]
      by_cases ej : j = i
      · subst ej
        rw [if_pos rfl]
        constructor
        · rintro ⟨a, _⟩; omega
        · rintro ⟨_, b⟩; exact absurd b.symm e
      · rw [if_neg ej]
        constructor
        · rintro ⟨a, b⟩; exact ⟨by omega, b⟩
        · rintro ⟨a, b⟩; exact ⟨by omega, b⟩
  · exact fun q hq => .inl (hne q hq)
  · intro q hq
    have hq2 : q < S.rs.length := by rw [← e3]; exact hq
    show (rgAt (addStep S.rs r i) q).fin ≤ _
    rw [ef]
    exact h.fle q hq2
/-- a block's region is begun -/
theorem SpOk.begin_ (h : SpOk l (i + 1) S) (hcnt : S.rs.length ≤ i + 1) (hne : ∀ q, q < S.rs.length → (rgAt S.rs q).steps ≠ []) {t z : Int} (hz : 1 ≤ z) (hf : (pl l (i + 1) : Int) + z ≤ (rgAt S.rs S.r).fin) {b : Int} : SpOk l (i + 1) ⟨S.rs ++ [⟨S.r, (rgAt S.rs S.r).deep + 1, t, (pl l (i + 1) : Int) + z, [], 0⟩], S.of, S.body.set i b, S.rs.length⟩ := by
  have hp := h.rok.pos
  refine ⟨h.rok.push h.rlt _ _, by simp, h.ofl, by simp [h.bol], by rw [rgAt_push, if_neg (by omega)]; exact h.fin0, ?_, ?_, ?_, ?_, ?_, ?_⟩
  · simp; omega
  · intro x hx
    rcases List.mem_append.1 hx with e | e
    · exact h.stl x e
    · rw [List.mem_singleton] at e; subst e; simp
  · intro j hj
    have := h.ofr j hj
    dsimp only
    rw [List.length_append]
    omega
  · intro q hq j
    dsimp only
    simp only [List.length_append, List.length_cons, List.length_nil] at hq
    rw [rgAt_push]
    by_cases e : q = S.rs.length
    · rw [if_pos e]
      constructor
      · intro hj; cases hj
      · rintro ⟨a, b⟩
        have := h.ofr j a
        omega
    · rw [if_neg e]
      exact h.stm q (by omega) j
  · intro q hq
    dsimp only
    simp only [List.length_append, List.length_cons, List.length_nil] at hq
    rw [rgAt_push]
    by_cases e : q = S.rs.length
    · rw [if_pos e]
      refine .inr ⟨e, ?_⟩
      dsimp only; omega
    · rw [if_neg e]
      exact .inl (hne q (by omega))
  · intro q hq
    dsimp only
    simp only [List.length_append, List.length_cons, List.length_nil] at hq
    rw [rgAt_push]
    split
    · have := h.fle _ h.rlt
      dsimp only; omega
    · exact h.fle q (by omega)
end
end Go.Proofs.YtaeegkljldngmaaDoor
