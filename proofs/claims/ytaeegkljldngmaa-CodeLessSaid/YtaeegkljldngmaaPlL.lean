/-
  What passes passes with more temporaries, fields and literals, plain. No statement of the seat is proved here.
-/
import Derived.Test.YtaeegkljldngmaaPlV
namespace Go.Proofs.Ytaeegkljldngmaa
open Go.RowKit

/-- a shape has at least what another has -/
structure ShLe (s t : Shp) : Prop where
  temps : s.temps ≤ t.temps
  fields : s.fields ≤ t.fields
  lits : ∃ more, t.lits = s.lits ++ more
/-- the first region with other temporaries -/
def bump (T : Int) : List Rg → List Rg
  | [] => []
  | g :: r => { g with temps := T } :: r
theorem bump_len (T : Int) (rs : List Rg) : (bump T rs).length = rs.length := by cases rs <;> rfl
theorem bump_at (T : Int) (rs : List Rg) (q : Nat) : rgAt (bump T rs) q = if q = 0 ∧ rs ≠ [] then { rgAt rs q with temps := T } else rgAt rs q := by
  cases rs with
  | nil => simp [bump, rgAt]
  | cons g r =>
    cases q with
    | zero => simp [bump, rgAt]
    | succ q => simp [bump, rgAt]
theorem bump_same (T : Int) (rs : List Rg) (q : Nat) : (rgAt (bump T rs) q).outer = (rgAt rs q).outer ∧ (rgAt (bump T rs) q).deep = (rgAt rs q).deep ∧ (rgAt (bump T rs) q).fin = (rgAt rs q).fin ∧ (rgAt (bump T rs) q).steps = (rgAt rs q).steps ∧ (rgAt (bump T rs) q).most = (rgAt rs q).most := by
  rw [bump_at]
  split <;> exact ⟨rfl, rfl, rfl, rfl, rfl⟩
theorem bump_temps {T : Int} {rs : List Rg} (h : (rgAt rs 0).temps ≤ T) (q : Nat) : (rgAt rs q).temps ≤ (rgAt (bump T rs) q).temps := by
  rw [bump_at]
  split
  · rename_i e; rw [e.1]; exact h
  · exact Int.le_refl _
theorem bump_climb (T : Int) (rs : List Rg) (p : Int) : ∀ f r, climb (bump T rs) p f r = climb rs p f r
  | 0, r => rfl
  | f + 1, r => by
    unfold climb
    rw [(bump_same T rs r).2.2.1, (bump_same T rs r).1, bump_climb T rs p f]
theorem bump_outs (T : Int) (rs : List Rg) : ∀ k r, outs (bump T rs) k r = outs rs k r
  | 0, r => rfl
  | k + 1, r => by
    unfold outs
    rw [(bump_same T rs r).1, bump_outs T rs k]
theorem bump_tempsO {T : Int} {rs : List Rg} (h : (rgAt rs 0).temps ≤ T) (r : Nat) (out : Int) : tempsO rs r out ≤ tempsO (bump T rs) r out := by
  unfold tempsO
  rw [(bump_same T rs r).2.1, bump_outs]
  split
  · exact Int.le_refl _
  · exact bump_temps h _
theorem bump_step (T : Int) (rs : List Rg) (r i : Nat) : addStep (bump T rs) r i = bump T (addStep rs r i) := by
  unfold addStep
  rw [(bump_same T rs r).2.2.2.1]
  cases rs with
  | nil => rfl
  | cons g l =>
    cases r with
    | zero => rfl
    | succ r => rfl
theorem bump_push {T : Int} {rs : List Rg} (h : rs ≠ []) (x : Rg) : bump T rs ++ [x] = bump T (rs ++ [x]) := by
  cases rs with
  | nil => exact absurd rfl h
  | cons g l => rfl
theorem lit_more {s t : Shp} (h : ShLe s t) {n k : Int} (hn : 0 ≤ n) (hl : litO s n k = true) : litO t n k = true := by
  obtain ⟨more, hm⟩ := h.lits
  unfold litO at hl ⊢
  rw [hm]
  split at hl
  · cases hl
  · rename_i hlt
    rw [if_neg (by rw [List.length_append]; omega)]
    rw [List.getD_eq_getElem?_getD] at hl ⊢
    rw [List.getElem?_append_left (by omega)]
    exact hl
theorem opd_more {s t : Shp} (h : ShLe s t) {T : Int} {rs : List Rg} (hT : (rgAt rs 0).temps ≤ T) {x : Ins} (ha : 0 ≤ x.a) {r : Nat} (ho : opdO s rs x r = true) : opdO t (bump T rs) x r = true := by
  have hd := (bump_same T rs r).2.1
  have ht := bump_tempsO hT r x.a
  have hf := h.fields
  unfold opdO at ho ⊢
  by_cases b1 : x.op = 6
  · rw [if_pos b1] at ho ⊢
    exact lit_more h ha ho
  rw [if_neg b1] at ho ⊢
  by_cases b2 : x.op = 16 ∨ x.op = 17
  · rw [if_pos b2] at ho ⊢
    rw [Bool.and_eq_true] at ho ⊢
    exact ⟨lit_more h ha ho.1, ho.2⟩
  rw [if_neg b2] at ho ⊢
  by_cases b3 : x.op = 10 ∨ x.op = 13
  · rw [if_pos b3] at ho ⊢
    exact lit_more h ha ho
  rw [if_neg b3] at ho ⊢
  by_cases b4 : x.op = 8 ∨ x.op = 11
  · rw [if_pos b4, decide_eq_true_eq] at ho ⊢
    omega
  rw [if_neg b4] at ho ⊢
  by_cases b5 : x.op = 9 ∨ x.op = 12
  · rw [if_pos b5, decide_eq_true_eq] at ho ⊢
    omega
  rw [if_neg b5] at ho ⊢
  rw [hd]
  exact ho
def bumpS (T : Int) (S : Sp) : Sp := ⟨bump T S.rs, S.of, S.body, S.r⟩
theorem sp_more {s t : Shp} (h : ShLe s t) {T : Int} {l : List Ins} {i : Nat} {S S' : Sp} (hne : S.rs ≠ []) (hT : (rgAt S.rs 0).temps ≤ T) (ha : 0 ≤ (insD l i).a) (hs : spStep s l i S = .ok S') : spStep t l i (bumpS T S) = .ok (bumpS T S') ∧ S'.rs ≠ [] ∧ (rgAt S'.rs 0).temps ≤ T := by
  have hal : ∀ r, addStep S.rs r i ≠ [] := fun r e => hne (List.eq_nil_of_length_eq_zero (by rw [← addStep_len S.rs r i, e]; rfl))
  have hat : ∀ r, (rgAt (addStep S.rs r i) 0).temps = (rgAt S.rs 0).temps := fun r => by
    have hp := List.length_pos_iff.2 hne
    by_cases e : r < S.rs.length
    · unfold addStep
      rw [rgAt_set e]
      split
      · rename_i e2; subst e2; rfl
      · rfl
    · unfold addStep
      rw [List.set_eq_of_length_le (by omega)]
  unfold spStep at hs ⊢
  dsimp only [bumpS] at hs ⊢
  rw [bump_climb, bump_step]
  generalize climb S.rs (pl l i) S.r S.r = r at *
  split at hs
  · rename_i ho
    rw [if_pos (opd_more h (by rw [hat]; exact hT) ha ho)]
    by_cases h24 : (insD l i).op = 24
    · rw [if_pos h24] at hs ⊢
      rw [(bump_same T (addStep S.rs r i) r).2.2.1, (bump_same T (addStep S.rs r i) r).2.1, bump_len]
      split at hs
      · cases hs
      · rename_i hb
        injection hs with hs
        subst hs
        rw [if_neg hb, bump_push (hal r)]
        refine ⟨rfl, by simp, ?_⟩
        dsimp only
        rw [rgAt_push, if_neg (by have := List.length_pos_iff.2 (hal r); omega), hat]
        exact hT
    · rw [if_neg h24] at hs ⊢
      injection hs with hs
      subst hs
      exact ⟨rfl, hal r, by rw [hat]; exact hT⟩
  · cases hs
theorem split_more {s t : Shp} (h : ShLe s t) {T : Int} {l : List Ins} (hok : ∀ x ∈ l, x.Ok) : ∀ (f i : Nat) (S S' : Sp), i + f ≤ l.length → S.rs ≠ [] → (rgAt S.rs 0).temps ≤ T → splitF s l f i S = .ok S' → splitF t l f i (bumpS T S) = .ok (bumpS T S')
  | 0, i, S, S', _, _, _, hs => by
    unfold splitF at hs ⊢
    injection hs with hs
    subst hs
    rfl
  | f + 1, i, S, S', hi, hne, hT, hs => by
    unfold splitF at hs ⊢
    cases h1 : spStep s l i S with
    | error e => rw [h1] at hs; cases hs
    | ok S1 =>
      rw [h1] at hs
      obtain ⟨a, b, c⟩ := sp_more h hne hT (hok _ (insD_mem (by omega))).a.1 h1
      rw [a]
      exact split_more h hok f (i + 1) S1 S' (by omega) b c hs
theorem ends_more (T : Int) (l : List Ins) (rs : List Rg) (f : Int) : endsF l (bump T rs) f = endsF l rs f := by
  cases rs with
  | nil => rfl
  | cons g r => rfl
theorem wks_more (T : Int) (l : List Ins) (rs : List Rg) (dp : List Int) (f : Int) : wksF l (bump T rs) dp f = wksF l rs dp f := by
  cases rs with
  | nil => rfl
  | cons g r => rfl
theorem ver_more {s t : Shp} (h : ShLe s t) {l : List Ins} (hok : ∀ x ∈ l, x.Ok) (hv : (verL s l).2.2 = 0) : verL t l = verL s l := by
  unfold verL at hv ⊢
  cases hs : splitF s l l.length 0 (sp0 s (pl l l.length)) with
  | error x =>
    rw [hs] at hv
    exfalso
    have : ∀ (f i : Nat) (S : Sp) (x : Int × Int), splitF s l f i S = .error x → x.2 ≠ 0 := by
      intro f
      induction f with
      | zero => intro i S x h; unfold splitF at h; cases h
      | succ f ih =>
        intro i S x h
        unfold splitF at h
        cases h1 : spStep s l i S with
        | ok S1 => rw [h1] at h; exact ih _ _ _ h
        | error e =>
          rw [h1] at h
          injection h with h
          subst h
          unfold spStep at h1
          dsimp only at h1
          split at h1
          · split at h1
            · split at h1
              · injection h1 with h1; subst h1; exact (by decide : (52 : Int) ≠ 0)
              · cases h1
            · cases h1
          · injection h1 with h1; subst h1; exact (by decide : (51 : Int) ≠ 0)
    exact this _ _ _ _ hs hv
  | ok S =>
    have h2 := split_more h (T := t.temps) hok l.length 0 (sp0 s (pl l l.length)) S (by omega) (by simp [sp0]) h.temps hs
    have e : bumpS t.temps (sp0 s (pl l l.length)) = sp0 t (pl l l.length) := rfl
    rw [e] at h2
    rw [h2]
    dsimp only [bumpS]
    rw [ends_more, wks_more]
end Go.Proofs.Ytaeegkljldngmaa
