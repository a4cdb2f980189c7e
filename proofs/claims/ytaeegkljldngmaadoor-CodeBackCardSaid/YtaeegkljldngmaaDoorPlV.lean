/-
  What holds of instructions that were taken into regions, and are walked, plain. No statement of the seat is proved here.
-/
import Derived.Test.YtaeegkljldngmaaDoorCvW
namespace Go.Proofs.YtaeegkljldngmaaDoor
open Go.RowKit

/-- more of a splitting: which steps a region has, in which order; which region a block's body has -/
structure SpMore (l : List Ins) (i : Nat) (S : Sp) : Prop where
  st : ∀ q, q < S.rs.length → (rgAt S.rs q).steps = (List.range i).filter fun j => S.of.getD j 0 == q
  bd : ∀ j, j < i → (insD l j).op = 24 → ∃ q : Nat, S.body.getD j 0 = q ∧ 0 < q ∧ q < S.rs.length
  mo : ∀ q, q < S.rs.length → (rgAt S.rs q).most = 0
theorem getD_snoc {α : Type} (l : List α) (x d : α) (j : Nat) : (l ++ [x]).getD j d = if j = l.length then x else l.getD j d := by
  rw [List.getD_eq_getElem?_getD, List.getD_eq_getElem?_getD]
  rcases Nat.lt_trichotomy j l.length with e | e | e
  · rw [List.getElem?_append_left e, if_neg (by omega)]
  · rw [List.getElem?_append_right (by omega), if_pos e, e]; simp
  · rw [List.getElem?_append_right (by omega), if_neg (by omega), List.getElem?_eq_none (by simp; omega), List.getElem?_eq_none (by omega)]
theorem sp0_more (s : Shp) (l : List Ins) (n : Nat) : SpMore l 0 (sp0 s n) := by
  refine ⟨fun q hq => ?_, fun j hj => absurd hj (Nat.not_lt_zero _), fun q hq => ?_⟩
  all_goals
    simp only [sp0, List.length_cons, List.length_nil] at hq
    obtain rfl : q = 0 := by omega
    rfl
theorem addStep_steps {rs : List Rg} {r i q : Nat} (h : r < rs.length) : (rgAt (addStep rs r i) q).steps = if q = r then (rgAt rs r).steps ++ [i] else (rgAt rs q).steps := by
  unfold addStep; rw [rgAt_set h]; split <;> rfl
theorem addStep_most {rs : List Rg} {r i q : Nat} (h : r < rs.length) : (rgAt (addStep rs r i) q).most = (rgAt rs q).most := by
  unfold addStep; rw [rgAt_set h]; split
  · rename_i e; subst e; rfl
  · rfl
theorem addStep_len (rs : List Rg) (r i : Nat) : (addStep rs r i).length = rs.length := by simp [addStep]
theorem sp_steps {l : List Ins} {i c : Nat} {S : Sp} (h : SpOk l i S) (hm : SpMore l i S) (hc : c < S.rs.length) {q : Nat} (hq : q < S.rs.length) :
    (rgAt (addStep S.rs c i) q).steps = (List.range (i + 1)).filter fun j => (S.of ++ [c]).getD j 0 == q := by
  have hof := h.ofl
  have e0 : (List.range i).filter (fun j => (S.of ++ [c]).getD j 0 == q) = (List.range i).filter fun j => S.of.getD j 0 == q := by
    refine List.filter_congr fun j hj => ?_
    have := List.mem_range.1 hj
    rw [getD_snoc, if_neg (by omega)]
  rw [addStep_steps hc, List.range_succ, List.filter_append, e0, ← hm.st q hq, List.filter_cons, List.filter_nil, getD_snoc, hof, if_pos rfl]
  by_cases e : q = c
  · subst e
    rw [if_pos rfl, if_pos (by simp)]
  · rw [if_neg e, if_neg (by simpa using Ne.symm e), List.append_nil]
/-- one instruction is taken in -/
theorem spStep_ok {s : Shp} {l : List Ins} {i : Nat} {S S' : Sp} (hok : ∀ x ∈ l, x.Ok) (hi : i < l.length) (h : SpOk l i S) (hm : SpMore l i S) (hs : spStep s l i S = .ok S') : SpOk l (i + 1) S' ∧ SpMore l (i + 1) S' ∧ S.rs.length ≤ S'.rs.length := by
  have hc := climb_le h.rok (h.p0 hok hi) S.r S.r (Nat.le_refl _) h.rlt
  have hn := h.note hok hi (b := -1)
  unfold spStep at hs
  dsimp only at hs
  have hcl : climb S.rs (pl l i) S.r S.r < S.rs.length := by have := h.rlt; omega
  have hst := fun q (hq : q < S.rs.length) => sp_steps h hm hcl hq
  have hmo := fun q (hq : q < S.rs.length) => (addStep_most (rs := S.rs) (i := i) (q := q) hcl).trans (hm.mo q hq)
  have hal := addStep_len S.rs (climb S.rs (pl l i) S.r S.r) i
  generalize climb S.rs (pl l i) S.r S.r = c at *
  have hbl := h.bol
  split at hs
  · by_cases h24 : (insD l i).op = 24
    · rw [if_pos h24] at hs
      split at hs
      · cases hs
      · rename_i hz
        injection hs with hs
        subst hs
        have hbe : beh l i = (pl l (i + 1) : Int) := by
          have e1 := (size_cast (inO_ok (hok _ (insD_mem hi)))).1
          have e2 := pl_succ l i hi
          unfold beh
          omega
        have hb := hn.1.begin_ hn.2.1 hn.2.2 (t := (insD l i).b) (z := (insD l i).z) (by omega) (by dsimp only; rw [← hbe]; omega) (b := ((addStep S.rs c i).length : Int))
        rw [← hbe] at hb
        have e : (S.body ++ [-1]).set i ((addStep S.rs c i).length : Int) = S.body ++ [((addStep S.rs c i).length : Int)] := by
          rw [List.set_append_right _ _ (by omega), show i - S.body.length = 0 by omega]
          rfl
        dsimp only at hb
        rw [e] at hb
        refine ⟨hb, ⟨fun q hq => ?_, fun j hj h24' => ?_, fun q hq => ?_⟩, by simp [hal]⟩
        · simp only [List.length_append, List.length_cons, List.length_nil, hal] at hq
          dsimp only
          rw [rgAt_push, hal]
          by_cases e1 : q = S.rs.length
          · rw [if_pos e1]
            dsimp only
            symm
            rw [List.filter_eq_nil_iff]
            intro j hj
            have hj2 := List.mem_range.1 hj
            rw [getD_snoc, h.ofl]
            split
            · rw [beq_iff_eq]; omega
            · have := h.ofr j (by omega)
              rw [beq_iff_eq]; omega
          · rw [if_neg e1]
            exact hst q (by omega)
        · dsimp only
          rw [getD_snoc, hbl]
          by_cases e1 : j = i
          · rw [if_pos e1]
            have := h.rok.pos
            exact ⟨_, rfl, by omega, by simp⟩
          · rw [if_neg e1]
            obtain ⟨q, a, b, c'⟩ := hm.bd j (by omega) h24'
            exact ⟨q, a, b, by simp [hal]; omega⟩
        · simp only [List.length_append, List.length_cons, List.length_nil, hal] at hq
          dsimp only
          rw [rgAt_push, hal]
          by_cases e1 : q = S.rs.length
          · rw [if_pos e1]
          · rw [if_neg e1]
            exact hmo q (by omega)
    · rw [if_neg h24] at hs
      injection hs with hs
      subst hs
      refine ⟨hn.1, ⟨fun q hq => ?_, fun j hj h24' => ?_, fun q hq => ?_⟩, by simp [hal]⟩
      · rw [hal] at hq
        exact hst q hq
      · dsimp only
        rw [getD_snoc, hbl]
        have e1 : j ≠ i := fun e => by subst e; exact h24 h24'
        rw [if_neg e1]
        obtain ⟨q, a, b, c'⟩ := hm.bd j (by omega) h24'
        exact ⟨q, a, b, by rw [hal]; exact c'⟩
      · rw [hal] at hq
        exact hmo q hq
  · cases hs
theorem splitF_ok {s : Shp} {l : List Ins} (hok : ∀ x ∈ l, x.Ok) : ∀ (f i : Nat) (S S' : Sp), i + f = l.length → SpOk l i S → SpMore l i S → splitF s l f i S = .ok S' → SpOk l l.length S' ∧ SpMore l l.length S'
  | 0, i, S, S', hi, h, hm, hs => by
    obtain rfl : i = l.length := by omega
    unfold splitF at hs
    injection hs with hs
    subst hs
    exact ⟨h, hm⟩
  | f + 1, i, S, S', hi, h, hm, hs => by
    unfold splitF at hs
    cases h1 : spStep s l i S with
    | error e => rw [h1] at hs; cases hs
    | ok S1 =>
      rw [h1] at hs
      obtain ⟨a, b, _⟩ := spStep_ok hok (by omega) h hm h1
      exact splitF_ok hok f (i + 1) S1 S' (by omega) a b hs
theorem split_whole {s : Shp} {l : List Ins} {S : Sp} (hok : ∀ x ∈ l, x.Ok) (hl : 0 < l.length) (hs : splitF s l l.length 0 (sp0 s (pl l l.length)) = .ok S) : SpOk l l.length S ∧ SpMore l l.length S := by
  refine splitF_ok hok l.length 0 _ S (by omega) (sp0_ok s l ?_) (sp0_more _ _ _) hs
  have := pl_lt hok (i := 0) (j := l.length) hl (Nat.le_refl _)
  omega
section
variable {l : List Ins} {S : Sp}
theorem SpOk.steps_ne (h : SpOk l l.length S) {q : Nat} (hq : q < S.rs.length) : (rgAt S.rs q).steps ≠ [] := by
  rcases h.ne q hq with e | ⟨_, e⟩
  · exact e
  · have := h.fle q hq
    omega
theorem rgAt_mem {rs : List Rg} {q : Nat} (h : q < rs.length) : rgAt rs q ∈ rs := List.mem_of_getElem? (rgAt_some h)
theorem mem_rgAt {rs : List Rg} {x : Rg} (h : x ∈ rs) : ∃ q, q < rs.length ∧ rgAt rs q = x := by
  obtain ⟨q, hq⟩ := List.getElem?_of_mem h
  exact ⟨q, (List.getElem?_eq_some_iff.1 hq).1, by unfold rgAt; rw [List.getD_eq_getElem?_getD, hq]; rfl⟩
theorem SpOk.stepsOk (h : SpOk l l.length S) : StepsOk l S.rs := fun x hx => by
  obtain ⟨q, hq, rfl⟩ := mem_rgAt hx
  exact ⟨h.steps_ne hq, fun i hi => ((h.stm q hq i).1 hi).1⟩
/-- no jump goes where it may not -/
theorem jumpsF_none {of : List Nat} : ∀ (f i : Nat), jumpsF l of f i = none → ∀ k, i ≤ k → k < i + f → jBad l of k = false
  | 0, i, _, k, h1, h2 => by omega
  | f + 1, i, h, k, h1, h2 => by
    unfold jumpsF at h
    split at h
    · cases h
    · rename_i hb
      by_cases e : k = i
      · subst e; simpa using hb
      · exact jumpsF_none f (i + 1) h k (by omega) (by omega)
theorem jBad_no {of : List Nat} {i : Nat} (h : jBad l of i = false) (hj : isJ (insD l i).op = true) : ∃ k, ix l (beh l i + (insD l i).z) = some k ∧ k ≠ l.length ∧ of.getD k 0 = of.getD i 0 := by
  unfold jBad at h
  rw [hj, Bool.true_and] at h
  cases hx : ix l (beh l i + (insD l i).z) with
  | none => rw [hx] at h; cases h
  | some k =>
    rw [hx] at h
    simp only [Bool.or_eq_false_iff, beq_eq_false_iff_ne, bne_eq_false_iff_eq] at h
    exact ⟨k, rfl, h.1, h.2⟩
/-- no way leads behind its region -/
theorem lower_pos {f p : Int} (h : 0 ≤ p) : 0 ≤ lower f p := by
  unfold lower
  split <;> omega
theorem endsF_pos : ∀ (rs : List Rg) (f : Int), 0 ≤ f → 0 ≤ endsF l rs f
  | [], f, h => h
  | g :: r, f, h => by
    unfold endsF
    refine endsF_pos r _ ?_
    split
    · exact h
    · exact lower_pos (by omega)
theorem endsF_no : ∀ (rs : List Rg) (f : Int), ¬ 0 ≤ endsF l rs f → ∀ g ∈ rs, (ent (insD l (g.steps.getLastD 0)).op).ends = true
  | [], f, _, g, hg => by cases hg
  | x :: r, f, h, g, hg => by
    unfold endsF at h
    cases he : (ent (insD l (x.steps.getLastD 0)).op).ends with
    | false =>
      rw [he] at h
      exact absurd (endsF_pos r _ (lower_pos (by omega))) h
    | true =>
      rw [he] at h
      rcases List.mem_cons.1 hg with rfl | hg
      · exact he
      · exact endsF_no r _ h g hg
theorem range_filter_nodup (n : Nat) (p : Nat → Bool) : ((List.range n).filter p).Nodup := List.Nodup.sublist List.filter_sublist List.nodup_range
theorem getD_mem {α : Type} {l : List α} {k : Nat} (d : α) (h : k < l.length) : l.getD k d ∈ l := by
  rw [List.getD_eq_getElem?_getD, List.getElem?_eq_getElem h]
  exact List.getElem_mem h
theorem mem_getD {α : Type} {l : List α} {x : α} (d : α) (h : x ∈ l) : ∃ k, k < l.length ∧ l.getD k d = x := by
  obtain ⟨k, hk, e⟩ := List.getElem_of_mem h
  exact ⟨k, hk, by rw [List.getD_eq_getElem?_getD, List.getElem?_eq_getElem hk]; exact e⟩
theorem getLastD_getD {α : Type} (l : List α) (d : α) : l.getLastD d = l.getD (l.length - 1) d := by
  rw [List.getD_eq_getElem?_getD, ← List.getLast?_eq_getElem?, List.getLastD_eq_getLast?]
/-- each region may be walked -/
theorem walkOk_of (h : SpOk l l.length S) (hm : SpMore l l.length S) (hl : l.length ≤ 32767) (hj : jumpsF l S.of l.length 0 = none) (he : ¬ 0 ≤ endsF l S.rs (-1)) {q : Nat} (hq : q < S.rs.length) : WalkOk l (rgAt S.rs q).steps := by
  have hne := h.steps_ne hq
  have hlen := h.stl _ (rgAt_mem hq)
  have hin : ∀ k, k < (rgAt S.rs q).steps.length → (rgAt S.rs q).steps.getD k 0 < l.length ∧ S.of.getD ((rgAt S.rs q).steps.getD k 0) 0 = q := fun k hk => (h.stm q hq _).1 (getD_mem 0 hk)
  refine ⟨by rw [hm.st q hq]; exact range_filter_nodup _ _, List.length_pos_iff.2 hne, by omega, fun k hk => (hin k hk).1, fun k hk hk2 => ?_, fun k hk hk2 => ?_⟩
  · have h1 := endsF_no _ _ he _ (rgAt_mem hq)
    rw [getLastD_getD] at h1
    by_cases e : k + 1 < (rgAt S.rs q).steps.length
    · exact e
    · have : k = (rgAt S.rs q).steps.length - 1 := by omega
      rw [← this, hk2] at h1
      cases h1
  · obtain ⟨g, g1, g2, g3⟩ := jBad_no (jumpsF_none _ _ hj _ (Nat.zero_le _) (by have := (hin k hk).1; omega)) hk2
    have h1 := ix_spec l (beh l ((rgAt S.rs q).steps.getD k 0) + (insD l ((rgAt S.rs q).steps.getD k 0)).z)
    rw [g1] at h1
    dsimp only at h1
    have h2 : g ∈ (rgAt S.rs q).steps := (h.stm q hq g).2 ⟨by omega, by rw [g3]; exact (hin k hk).2⟩
    have h3 : goalO l ((rgAt S.rs q).steps.getD k 0) = g := by unfold goalO; rw [g1]; rfl
    rw [h3]
    exact mem_getD 0 h2
end
/-! ## The depths behind a walk -/
theorem wk0_ok {l : List Ins} {st : List Nat} {dp : List Int} {f : Int} (ho : DpOk dp) (hd : dp.length = l.length) : (wk0 l st dp f).dp.length = l.length ∧ (wk0 l st dp f).wt.length = st.length ∧ DpOk (wk0 l st dp f).dp := by
  unfold wk0
  have := putW_len l (st.getD 0 0) 0 0 ⟨dp, List.replicate st.length false, 0, f⟩
  refine ⟨by rw [this.1]; exact hd, by rw [this.2]; simp, putW_ok (W := ⟨dp, List.replicate st.length false, 0, f⟩) ho (by omega) (by omega)⟩
theorem wkF_ok {l : List Ins} {st : List Nat} (hl : ∀ x ∈ l, x.Ok) (hlt : ∀ k, k < st.length → st.getD k 0 < l.length) : ∀ (f : Nat) (W : Wk), W.dp.length = l.length → W.wt.length = st.length → DpOk W.dp → (wkF l st f W).dp.length = l.length ∧ DpOk (wkF l st f W).dp
  | 0, W, hd, ht, ho => ⟨hd, ho⟩
  | f + 1, W, hd, ht, ho => by
    unfold wkF
    cases hx : W.wt.idxOf? true with
    | none => exact ⟨hd, ho⟩
    | some k =>
      have h2 := (idx_get hx).2
      have hlen := wkStep_len l st k W
      exact wkF_ok hl hlt f _ (by rw [hlen.1, hd]) (by rw [hlen.2, ht]) (wkStep_ok ho (putO_pos (hl _ (insD_mem (hlt k (by omega))))).1)
theorem wkAll_ok {l : List Ins} {st : List Nat} {dp : List Int} {f : Int} (hl : ∀ x ∈ l, x.Ok) (hlt : ∀ k, k < st.length → st.getD k 0 < l.length) (ho : DpOk dp) (hd : dp.length = l.length) : (wkAll l st dp f).dp.length = l.length ∧ DpOk (wkAll l st dp f).dp := by
  obtain ⟨a, b, c⟩ := wk0_ok (st := st) (f := f) ho hd
  exact wkF_ok hl hlt _ _ a b c
theorem dpOk_rep (n : Nat) : DpOk (List.replicate n (-1)) := fun i => by
  rw [List.getD_eq_getElem?_getD, List.getElem?_replicate]
  split <;> simp
end Go.Proofs.YtaeegkljldngmaaDoor
