/-
  How regions lie in one another, what their depths tell, where they may be gone through, plain. No statement of the seat is proved here.
-/
import Derived.Test.YtaeegkljldngmaaPlV
import Derived.Test.YtaeegkljldngmaaCwI
namespace Go.Proofs.Ytaeegkljldngmaa
open Go.RowKit

/-- q is r, or a region round r -/
def Chn (rs : List Rg) (r q : Nat) : Prop := ∃ k, outs rs k r = q
theorem Chn.self (rs : List Rg) (r : Nat) : Chn rs r r := ⟨0, rfl⟩
theorem Chn.up {rs : List Rg} {r o q : Nat} (h : Chn rs o q) (e : (rgAt rs r).outer = (o : Int)) : Chn rs r q := by
  obtain ⟨k, hk⟩ := h
  refine ⟨k + 1, ?_⟩
  unfold outs
  rw [e, Int.toNat_natCast]
  exact hk
theorem Chn.split {rs : List Rg} {r o q : Nat} (h : Chn rs r q) (e : (rgAt rs r).outer = (o : Int)) : q = r ∨ Chn rs o q := by
  obtain ⟨k, hk⟩ := h
  cases k with
  | zero => exact .inl hk.symm
  | succ k =>
    unfold outs at hk
    rw [e, Int.toNat_natCast] at hk
    exact .inr ⟨k, hk⟩
/-- regions, one in the other -/
structure Nest (rs : List Rg) : Prop where
  root : (rgAt rs 0).outer = -1
  nest : ∀ q o : Nat, 0 < q → q < rs.length → (rgAt rs q).outer = (o : Int) → (rgAt rs q).fin ≤ (rgAt rs o).fin
theorem root_outs {rs : List Rg} (h : (rgAt rs 0).outer = -1) : ∀ k, outs rs k 0 = 0
  | 0 => rfl
  | k + 1 => by
    unfold outs
    rw [h]
    exact root_outs h k
theorem Chn.root {rs : List Rg} (h : Nest rs) {q : Nat} (hc : Chn rs 0 q) : q = 0 := by
  obtain ⟨k, hk⟩ := hc
  rw [root_outs h.root] at hk
  exact hk.symm
/-- further out is further on -/
theorem chn_fin {rs : List Rg} (hr : RgsOk rs) (h : Nest rs) : ∀ (r q : Nat), r < rs.length → Chn rs r q → (rgAt rs r).fin ≤ (rgAt rs q).fin ∧ q ≤ r := by
  intro r
  induction r using Nat.strongRecOn with
  | ind r ih =>
    intro q hl hc
    rcases Nat.eq_zero_or_pos r with rfl | hp
    · rw [hc.root h]; exact ⟨Int.le_refl _, Nat.le_refl _⟩
    · obtain ⟨o, h1, h2, _⟩ := hr.out r hp hl
      rcases hc.split h1 with rfl | h3
      · exact ⟨Int.le_refl _, Nat.le_refl _⟩
      · have h4 := ih o h2 q (by omega) h3
        have h5 := h.nest r o hp hl h1
        exact ⟨by omega, by omega⟩
/-- climbing out ends within what is open -/
theorem climb_chn {rs : List Rg} (hr : RgsOk rs) (h : Nest rs) {p : Int} (h0 : p ≠ (rgAt rs 0).fin) : ∀ (r : Nat), r < rs.length → p ≤ (rgAt rs r).fin →
    p < (rgAt rs (climb rs p r r)).fin ∧ (∀ q, Chn rs r q → p < (rgAt rs q).fin → Chn rs (climb rs p r r) q) ∧
    (∀ q o : Nat, Chn rs r q → 0 < q → (rgAt rs q).fin = p → (rgAt rs q).outer = (o : Int) → climb rs p r r = climb rs p o o) := by
  intro r
  induction r using Nat.strongRecOn with
  | ind r ih =>
    intro hl hp
    by_cases e : p = (rgAt rs r).fin
    · obtain ⟨o, h1, h2, h3⟩ := climb_up hr h0 hl e
      have hpos : 0 < r := by
        rcases Nat.eq_zero_or_pos r with rfl | hp
        · exact absurd e h0
        · exact hp
      have h4 := ih o h2 (by omega) (by have := h.nest r o hpos hl h1; omega)
      rw [h3] at h4
      refine ⟨h4.1, fun q hc hq => ?_, fun q o' hc hq hf ho => ?_⟩
      · rcases hc.split h1 with rfl | h5
        · omega
        · exact h4.2.1 q h5 hq
      · rcases hc.split h1 with rfl | h5
        · rw [h1] at ho
          obtain rfl : o = o' := by omega
          exact h3.symm
        · exact h4.2.2 q o' h5 hq hf ho
    · rw [climb_stay e]
      refine ⟨by omega, fun q hc _ => hc, fun q o' hc hq hf ho => ?_⟩
      have := (chn_fin hr h r q hl hc).1
      omega
/-- regions that stay, and others behind them -/
structure Ext (rs rs' : List Rg) : Prop where
  len : rs.length ≤ rs'.length
  out : ∀ q, q < rs.length → (rgAt rs' q).outer = (rgAt rs q).outer
  fin : ∀ q, q < rs.length → (rgAt rs' q).fin = (rgAt rs q).fin
theorem Ext.outs {rs rs' : List Rg} (h : Ext rs rs') (hr : RgsOk rs) (hn : Nest rs) : ∀ k r, r < rs.length → outs rs' k r = outs rs k r
  | 0, r, _ => rfl
  | k + 1, r, hl => by
    unfold Proofs.Ytaeegkljldngmaa.outs
    rw [h.out r hl]
    rcases Nat.eq_zero_or_pos r with rfl | hp
    · rw [hn.root]
      exact h.outs hr hn k 0 hl
    · obtain ⟨o, h1, h2, _⟩ := hr.out r hp hl
      rw [h1, Int.toNat_natCast]
      exact h.outs hr hn k o (by omega)
theorem Ext.chn {rs rs' : List Rg} (h : Ext rs rs') (hr : RgsOk rs) (hn : Nest rs) {r q : Nat} (hl : r < rs.length) (hc : Chn rs r q) : Chn rs' r q := by
  obtain ⟨k, hk⟩ := hc
  exact ⟨k, by rw [h.outs hr hn k r hl]; exact hk⟩
theorem addStep_ext (rs : List Rg) {r : Nat} (i : Nat) (h : r < rs.length) : Ext rs (addStep rs r i) := by
  refine ⟨by rw [addStep_len]; exact Nat.le_refl _, fun q _ => ?_, fun q _ => ?_⟩
  all_goals
    unfold addStep
    rw [rgAt_set h]
    split
    · rename_i e; subst e; rfl
    · rfl
theorem opd_block {s : Shp} {rs : List Rg} {x : Ins} {r : Nat} (h24 : x.op = 24) (h : opdO s rs x r = true) : x.c ≤ 127 := by
  unfold opdO at h
  rw [if_neg (by omega), if_neg (by omega), if_neg (by omega), if_neg (by omega), if_neg (by omega), if_pos h24] at h
  simp only [Bool.and_eq_true, decide_eq_true_eq] at h
  exact h.1.2
/-- what a step of the splitting comes to -/
def StepTo (l : List Ins) (i : Nat) (S S' : Sp) (c : Nat) : Prop :=
  Ext S.rs S'.rs ∧ S'.of = S.of ++ [c] ∧
    (((insD l i).op ≠ 24 ∧ S'.rs.length = S.rs.length ∧ S'.body = S.body ++ [-1] ∧ S'.r = c) ∨
     ((insD l i).op = 24 ∧ S'.rs.length = S.rs.length + 1 ∧ S'.body = S.body ++ [((S.rs.length : Nat) : Int)] ∧ S'.r = S.rs.length ∧ (rgAt S'.rs S.rs.length).outer = ((c : Nat) : Int) ∧
      (rgAt S'.rs S.rs.length).fin = beh l i + (insD l i).z ∧ 1 ≤ (insD l i).z ∧ beh l i + (insD l i).z ≤ (rgAt S.rs c).fin ∧ (ix l (beh l i + (insD l i).z)).isSome = true ∧ (insD l i).c ≤ 127))
theorem spStep_to {s : Shp} {l : List Ins} {i : Nat} {S S' : Sp} (hc : climb S.rs (pl l i) S.r S.r < S.rs.length) (hs : spStep s l i S = .ok S') : StepTo l i S S' (climb S.rs (pl l i) S.r S.r) := by
  unfold spStep at hs
  dsimp only at hs
  generalize climb S.rs (pl l i) S.r S.r = c at *
  have he := addStep_ext S.rs i hc
  have hal := addStep_len S.rs c i
  split at hs
  · rename_i ho
    by_cases h24 : (insD l i).op = 24
    · rw [if_pos h24] at hs
      split at hs
      · cases hs
      · rename_i hz
        injection hs with hs
        subst hs
        have hf := he.fin c hc
        refine ⟨⟨by simp [hal], fun q hq => ?_, fun q hq => ?_⟩, rfl, .inr ⟨h24, by simp [hal], by dsimp only; rw [hal], hal, ?_, ?_, by omega, by omega, ?_, opd_block h24 ho⟩⟩
        · dsimp only
          rw [rgAt_push, if_neg (by omega)]
          exact he.out q hq
        · dsimp only
          rw [rgAt_push, if_neg (by omega)]
          exact he.fin q hq
        · dsimp only
          rw [rgAt_push, if_pos hal.symm]
        · dsimp only
          rw [rgAt_push, if_pos hal.symm]
        · cases hx : ix l (beh l i + (insD l i).z) with
          | none => exfalso; apply hz; rw [hx]; exact .inr (.inr rfl)
          | some k => rfl
    · rw [if_neg h24] at hs
      injection hs with hs
      subst hs
      exact ⟨he, rfl, .inl ⟨h24, hal, rfl, rfl⟩⟩
  · cases hs
/-- how the regions lie while instructions are taken in -/
structure SpNest (l : List Ins) (i : Nat) (S : Sp) : Prop where
  nst : Nest S.rs
  bnd : ∀ q, q < S.rs.length → ∃ k, k ≤ l.length ∧ (rgAt S.rs q).fin = (pl l k : Int)
  opn : ∀ q, q < S.rs.length → (pl l i : Int) ≤ (rgAt S.rs q).fin → Chn S.rs S.r q
  up : (pl l i : Int) ≤ (rgAt S.rs S.r).fin
  inn : ∀ j, j < i → (pl l j : Int) < (rgAt S.rs (S.of.getD j 0)).fin
  cov : ∀ b j q : Nat, b < j → j < i → (insD l b).op = 24 → S.body.getD b 0 = (q : Int) → (pl l j : Int) < (rgAt S.rs q).fin → q ≤ S.of.getD j 0
  own : ∀ b j : Nat, b < i → j < i → (insD l b).op = 24 → S.body.getD b 0 = ((S.of.getD j 0 : Nat) : Int) → b < j
  mono : ∀ a b : Nat, a < b → b < i → (insD l a).op = 24 → (insD l b).op = 24 → S.body.getD a 0 < S.body.getD b 0
  nxt : ∀ j, j + 1 < i → (insD l j).op ≠ 24 → (pl l (j + 1) : Int) < (rgAt S.rs (S.of.getD j 0)).fin → S.of.getD (j + 1) 0 = S.of.getD j 0
  blk : ∀ b, b < i → (insD l b).op = 24 → ∃ q : Nat, S.body.getD b 0 = (q : Int) ∧ 0 < q ∧ q < S.rs.length ∧ (rgAt S.rs q).outer = ((S.of.getD b 0 : Nat) : Int) ∧ (rgAt S.rs q).fin = beh l b + (insD l b).z ∧ 1 ≤ (insD l b).z ∧ S.of.getD b 0 < q ∧ (insD l b).c ≤ 127
  back : ∀ b m q : Nat, b < m → m < i → (insD l b).op = 24 → S.body.getD b 0 = (q : Int) → (pl l m : Int) = (rgAt S.rs q).fin → (rgAt S.rs q).fin < (rgAt S.rs (S.of.getD b 0)).fin → S.of.getD m 0 = S.of.getD b 0
  fst : ∀ b q : Nat, b + 1 < i → (insD l b).op = 24 → S.body.getD b 0 = (q : Int) → S.of.getD (b + 1) 0 = q
  cur : ∀ j, i = j + 1 → if (insD l j).op = 24 then S.body.getD j 0 = ((S.r : Nat) : Int) else S.of.getD j 0 = S.r
  zero : (i = 0 → S.r = 0) ∧ (0 < i → S.of.getD 0 0 = 0)
theorem sp0_nest (s : Shp) (l : List Ins) : SpNest l 0 (sp0 s (pl l l.length)) := by
  have hq : ∀ q, q < (sp0 s (pl l l.length)).rs.length → q = 0 := fun q hq => by
    simp only [sp0, List.length_cons, List.length_nil] at hq; omega
  refine ⟨⟨rfl, fun q o h1 h2 => ?_⟩, fun q h => ?_, fun q h _ => ?_, ?_, fun j h => absurd h (Nat.not_lt_zero _), fun b j q _ h => absurd h (Nat.not_lt_zero _), fun b j h => absurd h (Nat.not_lt_zero _), fun a b _ h => absurd h (Nat.not_lt_zero _), fun j h => absurd h (Nat.not_lt_zero _), fun b h => absurd h (Nat.not_lt_zero _), fun b m q _ h => absurd h (Nat.not_lt_zero _), fun b q h => absurd h (Nat.not_lt_zero _), fun j h => absurd h (by omega), fun _ => rfl, fun h => absurd h (Nat.not_lt_zero _)⟩
  · have := hq q h2; omega
  · rw [hq q h]; exact ⟨l.length, Nat.le_refl _, rfl⟩
  · rw [hq q h]; exact ⟨0, rfl⟩
  · show ((pl l 0 : Nat) : Int) ≤ ((pl l l.length : Nat) : Int)
    have := pl_mono l l.length 0 (Nat.zero_le _)
    omega
theorem getD_snoc_lt {α : Type} (l : List α) (x d : α) {j : Nat} (h : j < l.length) : (l ++ [x]).getD j d = l.getD j d := by rw [getD_snoc, if_neg (by omega)]
theorem getD_snoc_eq {α : Type} (l : List α) (x d : α) {j : Nat} (h : j = l.length) : (l ++ [x]).getD j d = x := by rw [getD_snoc, if_pos h]
theorem nest_step {s : Shp} {l : List Ins} {i : Nat} {S S' : Sp} (hok : ∀ x ∈ l, x.Ok) (hi : i < l.length) (h : SpOk l i S) (hn : SpNest l i S) (hs : spStep s l i S = .ok S') : SpNest l (i + 1) S' := by
  have h0 := h.p0 hok hi
  have hcl := climb_le h.rok h0 S.r S.r (Nat.le_refl _) h.rlt
  have hcc := climb_chn h.rok hn.nst h0 S.r h.rlt hn.up
  have hc : climb S.rs (pl l i) S.r S.r < S.rs.length := by have := h.rlt; omega
  have hst := spStep_to hc hs
  have hstay : (pl l i : Int) ≠ (rgAt S.rs S.r).fin → climb S.rs (pl l i) S.r S.r = S.r := climb_stay
  have hstayo : ∀ o : Nat, (pl l i : Int) ≠ (rgAt S.rs o).fin → climb S.rs (pl l i) o o = o := fun o => climb_stay
  generalize climb S.rs (pl l i) S.r S.r = c at *
  obtain ⟨C1, C2, C3⟩ := hcc
  obtain ⟨he, hof, hcase⟩ := hst
  have hpi : pl l i < pl l (i + 1) := pl_lt hok (by omega) (by omega)
  have hbe : beh l i = (pl l (i + 1) : Int) := by
    have e1 := (size_cast (inO_ok (hok _ (insD_mem hi)))).1
    have e2 := pl_succ l i hi
    unfold beh
    omega
  have hol := h.ofl
  have hbl := h.bol
  have hpos := h.rok.pos
  have of1 : ∀ j, j < i → S'.of.getD j 0 = S.of.getD j 0 := fun j hj => by rw [hof]; exact getD_snoc_lt _ _ _ (by omega)
  have of2 : S'.of.getD i 0 = c := by rw [hof]; exact getD_snoc_eq _ _ _ (by omega)
  have bo1 : ∀ j, j < i → S'.body.getD j 0 = S.body.getD j 0 := fun j hj => by
    rcases hcase with ⟨_, _, e, _⟩ | ⟨_, _, e, _⟩ <;> (rw [e]; exact getD_snoc_lt _ _ _ (by omega))
  have bo2 : (insD l i).op = 24 → S'.body.getD i 0 = ((S.rs.length : Nat) : Int) := fun h24 => by
    rcases hcase with ⟨e, _⟩ | ⟨_, _, e, _⟩
    · exact absurd h24 e
    · rw [e]; exact getD_snoc_eq _ _ _ (by omega)
  have bq : ∀ b q : Nat, b < i → (insD l b).op = 24 → S.body.getD b 0 = (q : Int) → 0 < q ∧ q < S.rs.length ∧ (rgAt S'.rs q).fin = (rgAt S.rs q).fin := fun b q hb h24 e => by
    obtain ⟨q', a1, a2, a3, _⟩ := hn.blk b hb h24
    obtain rfl : q' = q := by omega
    exact ⟨a2, a3, he.fin _ a3⟩
  have ff : ∀ j, j < i → (rgAt S'.rs (S.of.getD j 0)).fin = (rgAt S.rs (S.of.getD j 0)).fin := fun j hj => he.fin _ (h.ofr j hj)
  have fc : (rgAt S'.rs c).fin = (rgAt S.rs c).fin := he.fin c hc
  have nextle : ∀ q, q < S.rs.length → (pl l i : Int) < (rgAt S.rs q).fin → (pl l (i + 1) : Int) ≤ (rgAt S.rs q).fin := fun q hq hlt => by
    obtain ⟨k, hk, e⟩ := hn.bnd q hq
    rw [e] at hlt ⊢
    have : i < k := by
      rcases Nat.lt_or_ge i k with h | h
      · exact h
      · have := pl_mono l i k h; omega
    have := pl_mono l k (i + 1) (by omega)
    omega
  have hlen : S'.rs.length = S.rs.length ∨ ((insD l i).op = 24 ∧ S'.rs.length = S.rs.length + 1) := by
    rcases hcase with ⟨_, e, _⟩ | ⟨e1, e, _⟩
    · exact .inl e
    · exact .inr ⟨e1, e⟩
  refine ⟨⟨?_, fun q o h1 h2 h3 => ?_⟩, fun q hq => ?_, fun q hq hp => ?_, ?_, fun j hj => ?_, fun b j q hb hj h24 hbq hlt => ?_, fun b j hb hj h24 hbq => ?_, fun a b hab hb h24a h24b => ?_, fun j hj h24 hlt => ?_, fun b hb h24 => ?_, fun b m q hbm hm h24 hbq hpl hlt => ?_, fun b q hb h24 hbq => ?_, fun j hj => ?_, fun h0 => absurd h0 (by omega), fun _ => ?_⟩
  · rw [he.out 0 hpos]; exact hn.nst.root
  · by_cases hq : q < S.rs.length
    · rw [he.out q hq] at h3
      rw [he.fin q hq]
      obtain ⟨o', e1, e2, _⟩ := h.rok.out q h1 hq
      obtain rfl : o' = o := by omega
      rw [he.fin o' (by omega)]
      exact hn.nst.nest q o' h1 hq h3
    · rcases hcase with ⟨_, e, _⟩ | ⟨_, e, _, _, e1, e2, _, e3, _⟩
      · omega
      · obtain rfl : q = S.rs.length := by omega
        rw [e1] at h3
        obtain rfl : c = o := by omega
        rw [e2, fc]
        exact e3
  · by_cases hq2 : q < S.rs.length
    · rw [he.fin q hq2]; exact hn.bnd q hq2
    · rcases hcase with ⟨_, e, _⟩ | ⟨_, e, _, _, e1, e2, _, e3, e4, _⟩
      · omega
      · obtain rfl : q = S.rs.length := by omega
        rw [e2]
        obtain ⟨k, hk⟩ := Option.isSome_iff_exists.1 e4
        have h1 := ix_spec l (beh l i + (insD l i).z)
        rw [hk] at h1
        dsimp only at h1
        exact ⟨k, h1.1, by omega⟩
  · by_cases hq2 : q < S.rs.length
    · rw [he.fin q hq2] at hp
      have h1 := C2 q (hn.opn q hq2 (by omega)) (by omega)
      have h2 := he.chn h.rok hn.nst hc h1
      rcases hcase with ⟨_, e, _, e1⟩ | ⟨_, e, _, e0, e1, _⟩
      · rw [e1]; exact h2
      · rw [e0]; exact h2.up e1
    · rcases hcase with ⟨_, e, _⟩ | ⟨_, e, _, e0, _⟩
      · omega
      · obtain rfl : q = S.rs.length := by omega
        rw [e0]; exact Chn.self _ _
  · rcases hcase with ⟨_, e, _, e1⟩ | ⟨_, e, _, e0, e1, e2, e3, _⟩
    · rw [e1, fc]; exact nextle c hc C1
    · rw [e0, e2]; omega
  · by_cases e : j < i
    · rw [of1 j e, ff j e]; exact hn.inn j e
    · obtain rfl : j = i := by omega
      rw [of2, fc]; exact C1
  · have hbi : b < i := by omega
    rw [bo1 b hbi] at hbq
    obtain ⟨q1, q2, q3⟩ := bq b q hbi h24 hbq
    rw [q3] at hlt
    by_cases e : j < i
    · rw [of1 j e]; exact hn.cov b j q hb e h24 hbq hlt
    · obtain rfl : j = i := by omega
      rw [of2]
      exact (chn_fin h.rok hn.nst c q hc (C2 q (hn.opn q q2 (by omega)) hlt)).2
  · by_cases e1 : b < i
    · by_cases e2 : j < i
      · rw [of1 j e2, bo1 b e1] at hbq
        exact hn.own b j e1 e2 h24 hbq
      · omega
    · obtain rfl : b = i := by omega
      rw [bo2 h24] at hbq
      by_cases e2 : j < b
      · rw [of1 j e2] at hbq
        have := h.ofr j e2
        omega
      · obtain rfl : j = b := by omega
        rw [of2] at hbq
        omega
  · have ha : a < i := by omega
    rw [bo1 a ha]
    by_cases e : b < i
    · rw [bo1 b e]; exact hn.mono a b hab e h24a h24b
    · obtain rfl : b = i := by omega
      rw [bo2 h24b]
      obtain ⟨q, a1, a2, a3, _⟩ := hn.blk a ha h24a
      rw [a1]; omega
  · rw [of1 j (by omega)] at hlt ⊢
    rw [ff j (by omega)] at hlt
    by_cases e : j + 1 < i
    · rw [of1 _ e]; exact hn.nxt j e h24 hlt
    · obtain rfl : i = j + 1 := by omega
      rw [of2]
      have h1 := hn.cur j rfl
      rw [if_neg h24] at h1
      rw [h1] at hlt ⊢
      exact hstay (by omega)
  · by_cases e : b < i
    · obtain ⟨q, a1, a2, a3, a4, a5, a6, a7, a8⟩ := hn.blk b e h24
      exact ⟨q, by rw [bo1 b e]; exact a1, a2, by have := he.len; omega, by rw [of1 b e, he.out q a3]; exact a4, by rw [he.fin q a3]; exact a5, a6, by rw [of1 b e]; exact a7, a8⟩
    · obtain rfl : b = i := by omega
      rcases hcase with ⟨e, _⟩ | ⟨_, e, _, e0, e1, e2, e3, e4, e5, e6⟩
      · exact absurd h24 e
      · exact ⟨S.rs.length, bo2 h24, hpos, by omega, by rw [of2]; exact e1, e2, e3, by rw [of2]; exact hc, e6⟩
  · by_cases e0 : b < i
    · rw [bo1 b e0] at hbq
      obtain ⟨q1, q2, q3⟩ := bq b q e0 h24 hbq
      rw [q3] at hpl hlt
      rw [of1 b e0] at hlt ⊢
      rw [ff b e0] at hlt
      by_cases e : m < i
      · rw [of1 m e]; exact hn.back b m q hbm e h24 hbq hpl hlt
      · obtain rfl : m = i := by omega
        rw [of2]
        obtain ⟨q', a1, a2, a3, a4, _⟩ := hn.blk b e0 h24
        obtain rfl : q' = q := by omega
        rw [C3 q' _ (hn.opn q' q2 (by omega)) q1 hpl.symm a4]
        exact hstayo _ (by omega)
    · omega
  · rw [bo1 b (by omega)] at hbq
    by_cases e : b + 1 < i
    · rw [of1 _ e]; exact hn.fst b q e h24 hbq
    · obtain rfl : i = b + 1 := by omega
      rw [of2]
      have h1 := hn.cur b rfl
      rw [if_pos h24, hbq] at h1
      obtain ⟨q', a1, a2, a3, a4, a5, a6, _⟩ := hn.blk b (by omega) h24
      obtain rfl : q' = q := by omega
      obtain rfl : q' = S.r := by omega
      have hb2 : beh l b = (pl l (b + 1) : Int) := by
        have e1 := (size_cast (inO_ok (hok _ (insD_mem (show b < l.length by omega))))).1
        have e2 := pl_succ l b (by omega)
        unfold beh
        omega
      exact hstay (by rw [a5]; omega)
  · obtain rfl : j = i := by omega
    rcases hcase with ⟨e, _, _, e1⟩ | ⟨e, _, _, e0, _⟩
    · rw [if_neg e, of2, e1]
    · rw [if_pos e, bo2 e, e0]
  · rcases Nat.eq_zero_or_pos i with rfl | hp
    · rw [of2]
      have := hn.zero.1 rfl
      omega
    · rw [of1 0 hp]; exact hn.zero.2 hp
theorem splitF_nest {s : Shp} {l : List Ins} (hok : ∀ x ∈ l, x.Ok) : ∀ (f i : Nat) (S S' : Sp), i + f = l.length → SpOk l i S → SpMore l i S → SpNest l i S → splitF s l f i S = .ok S' → SpNest l l.length S'
  | 0, i, S, S', hi, h, hm, hn, hs => by
    obtain rfl : i = l.length := by omega
    unfold splitF at hs
    injection hs with hs
    subst hs
    exact hn
  | f + 1, i, S, S', hi, h, hm, hn, hs => by
    unfold splitF at hs
    cases h1 : spStep s l i S with
    | error e => rw [h1] at hs; cases hs
    | ok S1 =>
      rw [h1] at hs
      obtain ⟨a, b, _⟩ := spStep_ok hok (by omega) h hm h1
      exact splitF_nest hok f (i + 1) S1 S' (by omega) a b (nest_step hok (by omega) h hn h1) hs
theorem split_nest {s : Shp} {l : List Ins} {S : Sp} (hok : ∀ x ∈ l, x.Ok) (hl : 0 < l.length) (hs : splitF s l l.length 0 (sp0 s (pl l l.length)) = .ok S) : SpNest l l.length S := by
  refine splitF_nest hok l.length 0 _ S (by omega) (sp0_ok s l ?_) (sp0_more _ _ _) (sp0_nest _ _) hs
  have := pl_lt hok (i := 0) (j := l.length) hl (Nat.le_refl _)
  omega
end Go.Proofs.Ytaeegkljldngmaa
namespace Go.Proofs.Ytaeegkljldngmaa
open Go.RowKit

/-- a step of a region hands its depth on -/
structure Clo (l : List Ins) (st : List Nat) (M : Int) (dp : List Int) (k : Nat) : Prop where
  t : takeO (insD l (st.getD k 0)) ≤ dp.getD (st.getD k 0) 0
  m : dp.getD (st.getD k 0) 0 - takeO (insD l (st.getD k 0)) + putO (insD l (st.getD k 0)) ≤ M
  n : (ent (insD l (st.getD k 0)).op).ends = false → dp.getD (st.getD (k + 1) 0) 0 = dp.getD (st.getD k 0) 0 - takeO (insD l (st.getD k 0)) + putO (insD l (st.getD k 0))
  j : isJ (insD l (st.getD k 0)).op = true → dp.getD (goalO l (st.getD k 0)) 0 = dp.getD (st.getD k 0) 0 - takeO (insD l (st.getD k 0)) + putO (insD l (st.getD k 0))
/-- what has a depth keeps it -/
def Keep (a b : List Int) : Prop := ∀ j, 0 ≤ a.getD j (-1) → b.getD j (-1) = a.getD j (-1)
theorem getD_of {α : Type} {a : List α} {j : Nat} (h : j < a.length) (d e : α) : a.getD j d = a.getD j e := by
  rw [List.getD_eq_getElem?_getD, List.getD_eq_getElem?_getD, List.getElem?_eq_getElem h]
  rfl
theorem getD_set' {a : List Int} {i j : Nat} {x d : Int} : (a.set i x).getD j d = if i = j ∧ i < a.length then x else a.getD j d := by
  rw [List.getD_eq_getElem?_getD, List.getElem?_set, List.getD_eq_getElem?_getD]
  by_cases e : i = j
  · subst e
    by_cases h : i < a.length
    · rw [if_pos rfl, if_pos h, if_pos ⟨rfl, h⟩]; rfl
    · rw [if_pos rfl, if_neg h, if_neg (fun x => h x.2), List.getElem?_eq_none (by omega)]
  · rw [if_neg e, if_neg (fun x => e x.1)]
theorem getB_set' {a : List Bool} {i j : Nat} {x d : Bool} : (a.set i x).getD j d = if i = j ∧ i < a.length then x else a.getD j d := by
  rw [List.getD_eq_getElem?_getD, List.getElem?_set, List.getD_eq_getElem?_getD]
  by_cases e : i = j
  · subst e
    by_cases h : i < a.length
    · rw [if_pos rfl, if_pos h, if_pos ⟨rfl, h⟩]; rfl
    · rw [if_pos rfl, if_neg h, if_neg (fun x => h x.2), List.getElem?_eq_none (by omega)]
  · rw [if_neg e, if_neg (fun x => e x.1)]
theorem nodup_inj {st : List Nat} (h : st.Nodup) {a b : Nat} (ha : a < st.length) (hb : b < st.length) (e : st.getD a 0 = st.getD b 0) : a = b := by
  rw [List.getD_eq_getElem?_getD, List.getD_eq_getElem?_getD, List.getElem?_eq_getElem ha, List.getElem?_eq_getElem hb] at e
  simp only [Option.getD_some] at e
  rcases Nat.lt_trichotomy a b with h1 | h1 | h1
  · exact absurd e (List.pairwise_iff_getElem.1 h a b ha hb h1)
  · exact h1
  · exact absurd e.symm (List.pairwise_iff_getElem.1 h b a hb ha h1)
/-- what a handing on comes to -/
theorem putW_cases {l : List Ins} {i k : Nat} {d : Int} {W : Wk} (_hi : i < W.dp.length) :
    (putW l i k d W).most = max W.most d ∧
    ((W.dp.getD i 0 < 0 ∧ (putW l i k d W).dp = W.dp.set i d ∧ (putW l i k d W).wt = W.wt.set k true ∧ (putW l i k d W).fault = W.fault) ∨
     (W.dp.getD i 0 = d ∧ (putW l i k d W).dp = W.dp ∧ (putW l i k d W).wt = W.wt ∧ (putW l i k d W).fault = W.fault) ∨
     (0 ≤ (putW l i k d W).fault ∧ (putW l i k d W).dp = W.dp ∧ (putW l i k d W).wt = W.wt)) := by
  refine ⟨putW_most l i k d W, ?_⟩
  unfold putW
  dsimp only
  by_cases h1 : W.dp.getD i 0 < 0
  · rw [if_pos h1]
    exact .inl ⟨h1, rfl, rfl, rfl⟩
  · rw [if_neg h1]
    by_cases h2 : W.dp.getD i 0 = d
    · rw [if_pos h2]
      exact .inr (.inl ⟨h2, rfl, rfl, rfl⟩)
    · rw [if_neg h2]
      exact .inr (.inr ⟨lower_pos (by omega), rfl, rfl⟩)
theorem putW_fault {l : List Ins} {i k : Nat} {d : Int} {W : Wk} (h : 0 ≤ W.fault) : 0 ≤ (putW l i k d W).fault := by
  unfold putW
  dsimp only
  split
  · exact h
  · split
    · exact h
    · exact lower_pos (by omega)
theorem Clo.keep {l : List Ins} {st : List Nat} {M M' : Int} {dp dp' : List Int} {k : Nat} (hl : ∀ x ∈ l, x.Ok) (hw : WalkOk l st) (hk : k < st.length) (_hd : dp.length = l.length) (_hd' : dp'.length = l.length) (h : Clo l st M dp k) (hkp : ∀ j, j < l.length → 0 ≤ dp.getD j 0 → dp'.getD j 0 = dp.getD j 0) (hM : M ≤ M') : Clo l st M' dp' k := by
  have hi := hw.lt k hk
  have t0 := (takeO_le (hl _ (insD_mem hi))).1
  have p0 := (putO_pos (hl _ (insD_mem hi))).1
  have e := hkp _ hi (by have := h.t; omega)
  refine ⟨by rw [e]; exact h.t, by rw [e]; have := h.m; omega, fun he => ?_, fun hj => ?_⟩
  · have h1 := h.n he
    rw [e, ← h1]
    exact hkp _ (hw.lt _ (hw.nxt k hk he)) (by rw [h1]; have := h.t; omega)
  · have h1 := h.j hj
    obtain ⟨j, hj1, hj2⟩ := hw.jmp k hk hj
    rw [e, ← h1]
    exact hkp _ (by rw [← hj2]; exact hw.lt j hj1) (by rw [h1]; have := h.t; omega)
/-- steps that don't wait have handed their depths on, but for one -/
def InvX (l : List Ins) (st : List Nat) (E : Nat → Prop) (W : Wk) : Prop :=
  0 ≤ W.fault ∨ ∀ k, k < st.length → ¬ E k → 0 ≤ W.dp.getD (st.getD k 0) 0 → W.wt.getD k false = false → Clo l st W.most W.dp k
section
variable {l : List Ins} {st : List Nat}
theorem putW_keep {i k : Nat} {d : Int} {W : Wk} (hi : i < W.dp.length) (j : Nat) (h : 0 ≤ W.dp.getD j 0) : (putW l i k d W).dp.getD j 0 = W.dp.getD j 0 := by
  obtain ⟨_, ⟨h1, e, _⟩ | ⟨_, e, _⟩ | ⟨_, e, _⟩⟩ := putW_cases (l := l) (k := k) (d := d) hi
  · rw [e, getD_set', if_neg]
    rintro ⟨rfl, _⟩
    omega
  · rw [e]
  · rw [e]
theorem putW_gets {i k : Nat} {d : Int} {W : Wk} (hi : i < W.dp.length) : 0 ≤ (putW l i k d W).fault ∨ (putW l i k d W).dp.getD i 0 = d := by
  obtain ⟨_, ⟨h1, e, _⟩ | ⟨h, e, _⟩ | ⟨h, _⟩⟩ := putW_cases (l := l) (k := k) (d := d) hi
  · rw [e, getD_set', if_pos ⟨rfl, hi⟩]; exact .inr rfl
  · rw [e]; exact .inr h
  · exact .inl h
theorem InvX.put (hl : ∀ x ∈ l, x.Ok) (hw : WalkOk l st) {E : Nat → Prop} {kk : Nat} {d : Int} {W : Wk} (hkk : kk < st.length) (hd : W.dp.length = l.length) (ht : W.wt.length = st.length) (h : InvX l st E W) : InvX l st E (putW l (st.getD kk 0) kk d W) := by
  have hi := hw.lt kk hkk
  rcases h with h | h
  · exact .inl (putW_fault h)
  · have hlen := putW_len l (st.getD kk 0) kk d W
    have hkeep := fun j => putW_keep (l := l) (k := kk) (d := d) (W := W) (show st.getD kk 0 < W.dp.length by omega) j
    have hca := putW_cases (l := l) (k := kk) (d := d) (W := W) (show st.getD kk 0 < W.dp.length by omega)
    generalize putW l (st.getD kk 0) kk d W = W' at *
    obtain ⟨hm, hca⟩ := hca
    by_cases hf : 0 ≤ W'.fault
    · exact .inl hf
    · refine .inr fun k hk he h0 hwt => ?_
      have old : 0 ≤ W.dp.getD (st.getD k 0) 0 ∧ W.wt.getD k false = false := by
        rcases hca with ⟨h1, e1, e2, _⟩ | ⟨_, e1, e2, _⟩ | ⟨hx, _⟩
        · rw [e2, getB_set'] at hwt
          have hne : kk ≠ k := by
            rintro rfl
            rw [if_pos ⟨rfl, by omega⟩] at hwt
            cases hwt
          rw [if_neg (fun x => hne x.1)] at hwt
          rw [e1, getD_set', if_neg (fun x => hne (nodup_inj hw.nodup hkk hk x.1))] at h0
          exact ⟨h0, hwt⟩
        · rw [e1] at h0; rw [e2] at hwt; exact ⟨h0, hwt⟩
        · exact absurd hx hf
      exact (h k hk he old.1 old.2).keep hl hw hk hd (by rw [hlen.1]; exact hd) (fun j _ hj => hkeep j hj) (by rw [hm]; omega)
/-- a round of the walk -/
theorem InvX.step (hl : ∀ x ∈ l, x.Ok) (hw : WalkOk l st) {k : Nat} {W : Wk} (hk : k < st.length) (hd : W.dp.length = l.length) (ht : W.wt.length = st.length) (h : InvX l st (fun _ => False) W) : InvX l st (fun _ => False) (wkStep l st k W) := by
  have hi := hw.lt k hk
  have t0 := (takeO_le (hl _ (insD_mem hi))).1
  have p0 := (putO_pos (hl _ (insD_mem hi))).1
  by_cases hf : 0 ≤ (wkStep l st k W).fault
  · exact .inl hf
  have hnx := hw.nxt k hk
  have hjm := hw.jmp k hk
  unfold wkStep at hf ⊢
  dsimp only at hf ⊢
  by_cases hb : W.dp.getD (st.getD k 0) 0 < takeO (insD l (st.getD k 0)) ∨ 127 < W.dp.getD (st.getD k 0) 0 - takeO (insD l (st.getD k 0)) + putO (insD l (st.getD k 0))
  · rw [if_pos hb]
    exact .inl (lower_pos (by omega))
  rw [if_neg hb] at hf ⊢
  generalize hdd : W.dp.getD (st.getD k 0) 0 - takeO (insD l (st.getD k 0)) + putO (insD l (st.getD k 0)) = d at *
  have hd0 : 0 ≤ d := by omega
  have h1 : InvX l st (fun j => j = k) { W with wt := W.wt.set k false, most := max W.most d } := by
    rcases h with h | h
    · exact .inl h
    · refine .inr fun j hj he h0 hwt => ?_
      dsimp only at h0 hwt ⊢
      rw [getB_set', if_neg (fun x => he x.1.symm)] at hwt
      exact (h j hj (fun x => x) h0 hwt).keep hl hw hj hd hd (fun _ _ _ => rfl) (by omega)
  have e1 : ({ W with wt := W.wt.set k false, most := max W.most d } : Wk).dp = W.dp := rfl
  have e2 : ({ W with wt := W.wt.set k false, most := max W.most d } : Wk).wt.length = st.length := by simp [ht]
  have e3 : d ≤ ({ W with wt := W.wt.set k false, most := max W.most d } : Wk).most := by dsimp only; omega
  generalize ({ W with wt := W.wt.set k false, most := max W.most d } : Wk) = W1 at *
  -- the next step
  have key : ∀ W2 : Wk, InvX l st (fun j => j = k) W2 → W2.dp.length = l.length → W2.wt.length = st.length → d ≤ W2.most → (∀ j, 0 ≤ W.dp.getD j 0 → W2.dp.getD j 0 = W.dp.getD j 0) → ((ent (insD l (st.getD k 0)).op).ends = false → 0 ≤ W2.fault ∨ W2.dp.getD (st.getD (k + 1) 0) 0 = d) →
      InvX l st (fun _ => False) (if isJ (insD l (st.getD k 0)).op = true then putW l (goalO l (st.getD k 0)) (st.idxOf (goalO l (st.getD k 0))) d W2 else W2) := by
    intro W2 hx hl2 ht2 hm2 hk2 hn2
    have fin : ∀ W3 : Wk, InvX l st (fun j => j = k) W3 → d ≤ W3.most → (∀ j, 0 ≤ W.dp.getD j 0 → W3.dp.getD j 0 = W.dp.getD j 0) → ((ent (insD l (st.getD k 0)).op).ends = false → 0 ≤ W3.fault ∨ W3.dp.getD (st.getD (k + 1) 0) 0 = d) → (isJ (insD l (st.getD k 0)).op = true → 0 ≤ W3.fault ∨ W3.dp.getD (goalO l (st.getD k 0)) 0 = d) → InvX l st (fun _ => False) W3 := by
      intro W3 hx3 hm3 hk3 hn3 hj3
      by_cases hf3 : 0 ≤ W3.fault
      · exact .inl hf3
      rcases hx3 with hx3 | hx3
      · exact .inl hx3
      refine .inr fun j hj _ h0 hwt => ?_
      by_cases e : j = k
      · subst e
        have e0 : W3.dp.getD (st.getD j 0) 0 = W.dp.getD (st.getD j 0) 0 := hk3 _ (by omega)
        refine ⟨by rw [e0]; omega, by rw [e0, hdd]; exact hm3, fun he => ?_, fun hj => ?_⟩
        · rw [e0, hdd]; exact (hn3 he).resolve_left hf3
        · rw [e0, hdd]; exact (hj3 hj).resolve_left hf3
      · exact hx3 j hj e h0 hwt
    by_cases hj : isJ (insD l (st.getD k 0)).op = true
    · rw [if_pos hj]
      obtain ⟨j1, j2⟩ := idx_of (hjm hj)
      have hg : st.getD (st.idxOf (goalO l (st.getD k 0))) 0 < W2.dp.length := by rw [hl2]; exact hw.lt _ j1
      rw [← j2]
      rw [j2]
      have hp := hx.put hl hw (d := d) j1 hl2 ht2
      rw [j2] at hp hg
      refine fin _ hp ?_ (fun j h0 => ?_) (fun he => ?_) (fun _ => putW_gets hg)
      · rw [putW_most]; omega
      · rw [putW_keep hg j (by rw [hk2 j h0]; exact h0)]; exact hk2 j h0
      · rcases hn2 he with h3 | h3
        · exact .inl (putW_fault h3)
        · rw [putW_keep hg _ (by rw [h3]; exact hd0)]; exact .inr h3
    · rw [if_neg hj]
      exact fin W2 hx hm2 hk2 hn2 fun hj' => absurd hj' hj
  by_cases he : (ent (insD l (st.getD k 0)).op).ends = true
  · rw [if_pos he]
    exact key W1 h1 (by rw [e1]; exact hd) e2 e3 (fun j _ => by rw [e1]) fun h' => by rw [he] at h'; cases h'
  · rw [if_neg he]
    have hk1 := hnx (by simpa using he)
    have hg : st.getD (k + 1) 0 < W1.dp.length := by rw [e1, hd]; exact hw.lt _ hk1
    have hlen := putW_len l (st.getD (k + 1) 0) (k + 1) d W1
    refine key _ (h1.put hl hw hk1 (by rw [e1]; exact hd) e2) (by rw [hlen.1, e1]; exact hd) (by rw [hlen.2]; exact e2) (by rw [putW_most]; omega) (fun j h0 => ?_) fun _ => putW_gets hg
    rw [putW_keep hg j (by rw [e1]; exact h0), e1]
/-- nothing but the region's depths is changed; its depths stay -/
theorem putW_out {i k : Nat} {d : Int} {W : Wk} {j : Nat} (h : j ≠ i) : (putW l i k d W).dp.getD j 0 = W.dp.getD j 0 := by
  unfold putW
  dsimp only
  split
  · dsimp only
    rw [getD_set', if_neg (fun x => h x.1.symm)]
  · split <;> rfl
theorem wkStep_more (_hl : ∀ x ∈ l, x.Ok) (hw : WalkOk l st) {k : Nat} {W : Wk} (hk : k < st.length) (hd : W.dp.length = l.length) :
    (∀ j, j ∉ st → (wkStep l st k W).dp.getD j 0 = W.dp.getD j 0) ∧ (∀ j, 0 ≤ W.dp.getD j 0 → (wkStep l st k W).dp.getD j 0 = W.dp.getD j 0) ∧ (W.most ≤ 127 → (wkStep l st k W).most ≤ 127) ∧ (0 ≤ W.fault → 0 ≤ (wkStep l st k W).fault) := by
  have hi := hw.lt k hk
  have hnx := hw.nxt k hk
  have hjm := hw.jmp k hk
  unfold wkStep
  dsimp only
  by_cases hb : W.dp.getD (st.getD k 0) 0 < takeO (insD l (st.getD k 0)) ∨ 127 < W.dp.getD (st.getD k 0) 0 - takeO (insD l (st.getD k 0)) + putO (insD l (st.getD k 0))
  · rw [if_pos hb]
    exact ⟨fun _ _ => rfl, fun _ _ => rfl, fun h => h, fun _ => lower_pos (by omega)⟩
  rw [if_neg hb]
  have hd0 : W.dp.getD (st.getD k 0) 0 - takeO (insD l (st.getD k 0)) + putO (insD l (st.getD k 0)) ≤ 127 := by omega
  generalize W.dp.getD (st.getD k 0) 0 - takeO (insD l (st.getD k 0)) + putO (insD l (st.getD k 0)) = d at *
  have key : ∀ W2 : Wk, W2.dp.length = l.length → (∀ j, j ∉ st → W2.dp.getD j 0 = W.dp.getD j 0) → (∀ j, 0 ≤ W.dp.getD j 0 → W2.dp.getD j 0 = W.dp.getD j 0) → (W.most ≤ 127 → W2.most ≤ 127) → (0 ≤ W.fault → 0 ≤ W2.fault) →
      (∀ j, j ∉ st → (if isJ (insD l (st.getD k 0)).op = true then putW l (goalO l (st.getD k 0)) (st.idxOf (goalO l (st.getD k 0))) d W2 else W2).dp.getD j 0 = W.dp.getD j 0) ∧ (∀ j, 0 ≤ W.dp.getD j 0 → (if isJ (insD l (st.getD k 0)).op = true then putW l (goalO l (st.getD k 0)) (st.idxOf (goalO l (st.getD k 0))) d W2 else W2).dp.getD j 0 = W.dp.getD j 0) ∧ (W.most ≤ 127 → (if isJ (insD l (st.getD k 0)).op = true then putW l (goalO l (st.getD k 0)) (st.idxOf (goalO l (st.getD k 0))) d W2 else W2).most ≤ 127) ∧ (0 ≤ W.fault → 0 ≤ (if isJ (insD l (st.getD k 0)).op = true then putW l (goalO l (st.getD k 0)) (st.idxOf (goalO l (st.getD k 0))) d W2 else W2).fault) := by
    intro W2 a0 a1 a2 a3 a4
    by_cases hj : isJ (insD l (st.getD k 0)).op = true
    · rw [if_pos hj]
      obtain ⟨j1, j2⟩ := idx_of (hjm hj)
      have hm : goalO l (st.getD k 0) ∈ st := by rw [← j2]; exact getD_mem 0 j1
      have hg : goalO l (st.getD k 0) < W2.dp.length := by rw [a0, ← j2]; exact hw.lt _ j1
      refine ⟨fun j hj => ?_, fun j hj => ?_, fun h => ?_, fun h => putW_fault (a4 h)⟩
      · rw [putW_out (fun e => hj (by rw [e]; exact hm))]; exact a1 j hj
      · rw [putW_keep hg j (by rw [a2 j hj]; exact hj)]; exact a2 j hj
      · rw [putW_most]; have := a3 h; omega
    · rw [if_neg hj]
      exact ⟨a1, a2, a3, a4⟩
  by_cases he : (ent (insD l (st.getD k 0)).op).ends = true
  · rw [if_pos he]
    exact key _ hd (fun _ _ => rfl) (fun _ _ => rfl) (fun h => by dsimp only; omega) (fun h => h)
  · rw [if_neg he]
    have hk1 := hnx (by simpa using he)
    have hlen := putW_len l (st.getD (k + 1) 0) (k + 1) d ⟨W.dp, W.wt.set k false, max W.most d, W.fault⟩
    refine key _ (by rw [hlen.1]; exact hd) (fun j hj => putW_out (fun e => hj (by rw [e]; exact getD_mem 0 hk1))) (fun j hj => putW_keep (W := ⟨W.dp, W.wt.set k false, max W.most d, W.fault⟩) (by dsimp only; rw [hd]; exact hw.lt _ hk1) j hj) (fun h => ?_) (fun h => putW_fault h)
    rw [putW_most]
    dsimp only
    omega
/-- the whole walk of a region -/
theorem wkF_all (hl : ∀ x ∈ l, x.Ok) (hw : WalkOk l st) : ∀ (f : Nat) (W : Wk), wkM W ≤ f → W.dp.length = l.length → W.wt.length = st.length → InvX l st (fun _ => False) W →
    (0 ≤ (wkF l st f W).fault ∨ ∀ k, k < st.length → 0 ≤ (wkF l st f W).dp.getD (st.getD k 0) 0 → Clo l st (wkF l st f W).most (wkF l st f W).dp k) ∧ (∀ j, j ∉ st → (wkF l st f W).dp.getD j 0 = W.dp.getD j 0) ∧ (∀ j, 0 ≤ W.dp.getD j 0 → (wkF l st f W).dp.getD j 0 = W.dp.getD j 0) ∧ (W.most ≤ 127 → (wkF l st f W).most ≤ 127) ∧ (0 ≤ W.fault → 0 ≤ (wkF l st f W).fault) ∧ (wkF l st f W).dp.length = l.length := by
  have done : ∀ W : Wk, W.wt.idxOf? true = none → W.wt.length = st.length → InvX l st (fun _ => False) W → (0 ≤ W.fault ∨ ∀ k, k < st.length → 0 ≤ W.dp.getD (st.getD k 0) 0 → Clo l st W.most W.dp k) := by
    intro W hx ht hi
    rcases hi with hi | hi
    · exact .inl hi
    · refine .inr fun k hk h0 => hi k hk (fun x => x) h0 ?_
      cases hb : W.wt.getD k false with
      | false => rfl
      | true =>
        exfalso
        have hm : true ∈ W.wt := by rw [← hb]; exact getD_mem false (by omega)
        rw [List.idxOf?_eq_none_iff] at hx
        exact hx hm
  intro f
  induction f with
  | zero =>
    intro W hf hd ht hi
    have hx : W.wt.idxOf? true = none := idx_zero (by have := wkM_eq W; omega)
    exact ⟨done W hx ht hi, fun _ _ => rfl, fun _ _ => rfl, fun h => h, fun h => h, hd⟩
  | succ f ih =>
    intro W hf hd ht hi
    unfold wkF
    cases hx : W.wt.idxOf? true with
    | none => exact ⟨done W hx ht hi, fun _ _ => rfl, fun _ _ => rfl, fun h => h, fun h => h, hd⟩
    | some k =>
      obtain ⟨h1, h2⟩ := idx_get hx
      have hk : k < st.length := by omega
      have hlt := wkStep_lt l st k W h1 (putO_pos (hl _ (insD_mem (hw.lt k hk)))).1 (fun he => by rw [hd]; exact hw.lt _ (hw.nxt k hk he)) (fun hj => by
        obtain ⟨j, hj1, hj2⟩ := hw.jmp k hk hj
        rw [hd, ← hj2]
        exact hw.lt j hj1)
      have hlen := wkStep_len l st k W
      obtain ⟨a1, a2, a3, a4⟩ := wkStep_more hl hw hk hd
      obtain ⟨b0, b1, b2, b3, b4, b5⟩ := ih (wkStep l st k W) (by omega) (by rw [hlen.1]; exact hd) (by rw [hlen.2]; exact ht) (hi.step hl hw hk hd ht)
      dsimp only
      exact ⟨b0, fun j hj => (b1 j hj).trans (a1 j hj), fun j hj => (b2 j (by rw [a2 j hj]; exact hj)).trans (a2 j hj), fun h => b3 (a3 h), fun h => b4 (a4 h), b5⟩
theorem wkAll_law (hl : ∀ x ∈ l, x.Ok) (hw : WalkOk l st) {dp : List Int} {f : Int} (hd : dp.length = l.length) (hn : ∀ k, k < st.length → dp.getD (st.getD k 0) 0 < 0) :
    (0 ≤ (wkAll l st dp f).fault ∨ ((wkAll l st dp f).dp.getD (st.getD 0 0) 0 = 0 ∧ ∀ k, k < st.length → 0 ≤ (wkAll l st dp f).dp.getD (st.getD k 0) 0 → Clo l st (wkAll l st dp f).most (wkAll l st dp f).dp k)) ∧
    (∀ j, j ∉ st → (wkAll l st dp f).dp.getD j 0 = dp.getD j 0) ∧ (wkAll l st dp f).most ≤ 127 ∧ (0 ≤ f → 0 ≤ (wkAll l st dp f).fault) ∧ (wkAll l st dp f).dp.length = l.length := by
  have h0 := hw.ne
  have hlt := hw.lt 0 h0
  have hlen := putW_len l (st.getD 0 0) 0 0 ⟨dp, List.replicate st.length false, 0, f⟩
  have hi : InvX l st (fun _ => False) ⟨dp, List.replicate st.length false, 0, f⟩ := .inr fun k hk _ hge _ => by
    have := hn k hk
    dsimp only at hge
    omega
  have hp := hi.put hl hw (d := 0) h0 hd (by simp)
  have hge := putW_gets (l := l) (i := st.getD 0 0) (k := 0) (d := 0) (W := ⟨dp, List.replicate st.length false, 0, f⟩) (by dsimp only; rw [hd]; exact hlt)
  obtain ⟨b0, b1, b2, b3, b4, b5⟩ := wkF_all hl hw (wkM (wk0 l st dp f)) (wk0 l st dp f) (Nat.le_refl _) (by unfold wk0; rw [hlen.1]; exact hd) (by unfold wk0; rw [hlen.2]; simp) hp
  refine ⟨?_, fun j hj => ?_, b3 ?_, fun h => b4 (putW_fault h), b5⟩
  · rcases b0 with b0 | b0
    · exact .inl b0
    · rcases hge with hge | hge
      · exact .inl (b4 hge)
      · exact .inr ⟨(b2 _ (by unfold wk0; rw [hge]; exact Int.le_refl _)).trans hge, b0⟩
  · exact (b1 j hj).trans (putW_out (fun e => hj (by rw [e]; exact getD_mem 0 h0)))
  · unfold wk0
    rw [putW_most]
    dsimp only
    omega
end
/-- all regions -/
theorem wksF_law {l : List Ins} (hl : ∀ x ∈ l, x.Ok) : ∀ (rs : List Rg) (dp : List Int) (f : Int), (∀ g ∈ rs, WalkOk l g.steps) → rs.Pairwise (fun a b => ∀ j ∈ b.steps, j ∉ a.steps) → dp.length = l.length → (∀ g ∈ rs, ∀ j ∈ g.steps, dp.getD j 0 < 0) →
    (0 ≤ f → 0 ≤ (wksF l rs dp f).2) ∧ (0 ≤ (wksF l rs dp f).2 ∨ ∀ q, q < rs.length → (wksF l rs dp f).1.getD q 0 ≤ 127 ∧ ∃ d : List Int, d.getD ((rgAt rs q).steps.getD 0 0) 0 = 0 ∧ ∀ k, k < (rgAt rs q).steps.length → 0 ≤ d.getD ((rgAt rs q).steps.getD k 0) 0 → Clo l (rgAt rs q).steps ((wksF l rs dp f).1.getD q 0) d k)
  | [], dp, f, _, _, _, _ => ⟨fun h => h, .inr fun q hq => absurd hq (Nat.not_lt_zero _)⟩
  | g :: rs, dp, f, hw, hp, hd, hn => by
    obtain ⟨a0, a1, a2, a3, a4⟩ := wkAll_law hl (hw g (List.mem_cons_self ..)) (f := f) hd (fun k hk => hn g (List.mem_cons_self ..) _ (getD_mem 0 hk))
    rw [List.pairwise_cons] at hp
    obtain ⟨b0, b1⟩ := wksF_law hl rs (wkAll l g.steps dp f).dp (wkAll l g.steps dp f).fault (fun x hx => hw x (List.mem_cons_of_mem _ hx)) hp.2 a4 (fun x hx j hj => by
      rw [a1 j (hp.1 x hx j hj)]
      exact hn x (List.mem_cons_of_mem _ hx) j hj)
    unfold wksF
    dsimp only
    refine ⟨fun h => b0 (a3 h), ?_⟩
    rcases a0 with a0 | a0
    · exact .inl (b0 a0)
    rcases b1 with b1 | b1
    · exact .inl b1
    refine .inr fun q hq => ?_
    cases q with
    | zero => exact ⟨a2, _, a0⟩
    | succ q => exact b1 q (by simpa using hq)
end Go.Proofs.Ytaeegkljldngmaa
namespace Go.Proofs.Ytaeegkljldngmaa
open Go.RowKit

/-- what holds wherever a region is gone through; P i d: the i-th instruction is reached so deep -/
structure Goes (l : List Ins) (bl : List (Int × Int)) (fr en most : Int) (P : Nat → Int → Prop) : Prop where
  start : ∃ i, (pl l i : Int) = fr ∧ P i 0
  lt : ∀ i d, P i d → i < l.length
  frL : ∀ i d, P i d → fr ≤ (pl l i : Int)
  enL : ∀ i d, P i d → (pl l i : Int) < en
  enE : en ≤ (pl l l.length : Int)
  bl : ∀ i d, P i d → ∀ b ∈ bl, fr < b.1 → b.1 ≤ (pl l i : Int) → (pl l i : Int) < b.1 + b.2 → False
  tk : ∀ i d, P i d → takeO (insD l i) ≤ d
  ms : ∀ i d, P i d → d - takeO (insD l i) + putO (insD l i) ≤ most
  ms' : most ≤ 127
  nxt : ∀ i d, P i d → (ent (insD l i).op).ends = false → (insD l i).op ≠ 24 → ∃ k, (pl l k : Int) = beh l i ∧ P k (d - takeO (insD l i) + putO (insD l i))
  blk : ∀ i d, P i d → (insD l i).op = 24 → ∃ k, (pl l k : Int) = beh l i + (insD l i).z ∧ P k (d - takeO (insD l i) + putO (insD l i))
  jmp : ∀ i d, P i d → isJ (insD l i).op = true → ∃ k, (pl l k : Int) = beh l i + (insD l i).z ∧ P k (d - takeO (insD l i) + putO (insD l i))
theorem range_filter_sorted (n : Nat) (p : Nat → Bool) : ((List.range n).filter p).Pairwise (· < ·) := List.Pairwise.sublist List.filter_sublist List.pairwise_lt_range
theorem sorted_getD {st : List Nat} (h : st.Pairwise (· < ·)) {a b : Nat} (hab : a < b) (hb : b < st.length) : st.getD a 0 < st.getD b 0 := by
  rw [List.getD_eq_getElem?_getD, List.getD_eq_getElem?_getD, List.getElem?_eq_getElem (by omega), List.getElem?_eq_getElem hb]
  exact List.pairwise_iff_getElem.1 h a b (by omega) hb hab
theorem sorted_le {st : List Nat} (h : st.Pairwise (· < ·)) {a b : Nat} (hab : a ≤ b) (hb : b < st.length) : st.getD a 0 ≤ st.getD b 0 := by
  rcases Nat.lt_or_eq_of_le hab with e | e
  · exact Nat.le_of_lt (sorted_getD h e hb)
  · subst e; exact Nat.le_refl _
/-- the next step is the least behind -/
theorem sorted_next {st : List Nat} (h : st.Pairwise (· < ·)) {k m : Nat} (hk : k < st.length) (hm : m ∈ st) (hlt : st.getD k 0 < m) : k + 1 < st.length ∧ st.getD (k + 1) 0 ≤ m := by
  obtain ⟨j, hj, rfl⟩ := mem_getD 0 hm
  have hkj : k < j := by
    rcases Nat.lt_or_ge k j with e | e
    · exact e
    · have := sorted_le h e hk; omega
  exact ⟨by omega, sorted_le h hkj hj⟩
theorem blkN_mem (l : List Ins) : ∀ (n : Nat) (b : Int × Int), b ∈ blkN l n ↔ ∃ k, k < n ∧ (insD l k).op = 24 ∧ b = ((pl l k : Int) + 6, (insD l k).z)
  | 0, b => by simp [blkN]
  | n + 1, b => by
    have ih := blkN_mem l n b
    simp only [blkN, List.mem_append, ih]
    constructor
    · rintro (⟨k, h1, h2, h3⟩ | h)
      · exact ⟨k, by omega, h2, h3⟩
      · split at h
        · rename_i h24
          exact ⟨n, by omega, h24, by simpa using h⟩
        · cases h
    · rintro ⟨k, h1, h2, h3⟩
      by_cases e : k < n
      · exact .inl ⟨k, e, h2, h3⟩
      · obtain rfl : k = n := by omega
        rw [if_pos h2]
        exact .inr (by simp [h3])
theorem size24 : szO 24 = 6 := by decide
theorem beh_block {l : List Ins} {b : Nat} (h : (insD l b).op = 24) : beh l b = (pl l b : Int) + 6 := by
  unfold beh; rw [h, size24]
theorem beh_next {l : List Ins} (hok : ∀ x ∈ l, x.Ok) {i : Nat} (hi : i < l.length) : beh l i = (pl l (i + 1) : Int) := by
  have e1 := (size_cast (inO_ok (hok _ (insD_mem hi)))).1
  have e2 := pl_succ l i hi
  unfold beh
  omega
section
variable {l : List Ins} {S : Sp}
/-- a region, gone through -/
theorem goes_region (hok : ∀ x ∈ l, x.Ok) (h : SpOk l l.length S) (hm : SpMore l l.length S) (hn : SpNest l l.length S) (hl : l.length ≤ 32767) (hj : jumpsF l S.of l.length 0 = none) (he : ¬ 0 ≤ endsF l S.rs (-1))
    {q : Nat} (hq : q < S.rs.length) {M most : Int} (hM : M ≤ most) (h127 : most ≤ 127) {d : List Int} (hd0 : d.getD ((rgAt S.rs q).steps.getD 0 0) 0 = 0) (hd : ∀ k, k < (rgAt S.rs q).steps.length → 0 ≤ d.getD ((rgAt S.rs q).steps.getD k 0) 0 → Clo l (rgAt S.rs q).steps M d k)
    {fi : Nat} (hfi : (rgAt S.rs q).steps.getD 0 0 = fi) (hfr : ∀ b b' : Nat, b < l.length → (insD l b).op = 24 → S.body.getD b 0 = (b' : Int) → fi < b + 1 → q < b') :
    ∃ P, Goes l (blkN l l.length) (pl l fi : Int) (rgAt S.rs q).fin most P := by
  have hw := walkOk_of h hm hl hj he hq
  have hst := hm.st q hq
  have hsort : (rgAt S.rs q).steps.Pairwise (· < ·) := by rw [hst]; exact range_filter_sorted _ _
  have hmem : ∀ j, j ∈ (rgAt S.rs q).steps ↔ (j < l.length ∧ S.of.getD j 0 = q) := fun j => h.stm q hq j
  generalize (rgAt S.rs q).steps = st at *
  have hof : ∀ k, k < st.length → st.getD k 0 < l.length ∧ S.of.getD (st.getD k 0) 0 = q := fun k hk => (hmem _).1 (getD_mem 0 hk)
  refine ⟨fun i x => 0 ≤ x ∧ d.getD i 0 = x ∧ ∃ k, k < st.length ∧ st.getD k 0 = i, ⟨⟨fi, rfl, Int.le_refl _, by rw [← hfi]; exact hd0, 0, hw.ne, hfi⟩, ?_, ?_, ?_, h.fle q hq, ?_, ?_, ?_, h127, ?_, ?_, ?_⟩⟩
  · rintro i x ⟨_, _, k, hk, rfl⟩
    exact (hof k hk).1
  · rintro i x ⟨_, _, k, hk, rfl⟩
    rw [← hfi]
    have := pl_mono l (st.getD k 0) (st.getD 0 0) (sorted_le hsort (Nat.zero_le _) hk)
    omega
  · rintro i x ⟨_, _, k, hk, rfl⟩
    have := hn.inn _ (hof k hk).1
    rw [(hof k hk).2] at this
    exact this
  · rintro i x ⟨_, _, k, hk, rfl⟩ b hb h1 h2 h3
    obtain ⟨b1, hb1, h24, rfl⟩ := (blkN_mem l _ b).1 hb
    dsimp only at h1 h2 h3
    obtain ⟨q1, a1, a2, a3, a4, a5, a6, a7, a8⟩ := hn.blk b1 hb1 h24
    have hbb := beh_block h24
    have hbn := beh_next hok hb1
    rw [hbb] at a5
    have hlt : b1 < st.getD k 0 := by
      rcases Nat.lt_or_ge b1 (st.getD k 0) with e | e
      · exact e
      · have := pl_mono l b1 _ e; omega
    have hc := hn.cov b1 _ q1 hlt (hof k hk).1 h24 a1 (by omega)
    rw [(hof k hk).2] at hc
    have hlt2 : fi < b1 + 1 := by
      rcases Nat.lt_or_ge fi (b1 + 1) with e | e
      · exact e
      · have := pl_mono l fi _ e; omega
    have := hfr b1 q1 hb1 h24 a1 hlt2
    omega
  · rintro i x ⟨h0, rfl, k, hk, rfl⟩
    exact (hd k hk h0).t
  · rintro i x ⟨h0, rfl, k, hk, rfl⟩
    have := (hd k hk h0).m
    omega
  · rintro i x ⟨h0, rfl, k, hk, rfl⟩ hen h24
    have hk1 := hw.nxt k hk hen
    have hc := hd k hk h0
    have hi := (hof k hk).1
    have hp := (putO_pos (hok _ (insD_mem hi))).1
    have hlt := sorted_getD hsort (show k < k + 1 by omega) hk1
    have h2 := hof (k + 1) hk1
    have hin := hn.inn _ h2.1
    rw [h2.2] at hin
    have hle := pl_mono l _ _ (show st.getD k 0 + 1 ≤ st.getD (k + 1) 0 from hlt)
    have hsame := hn.nxt (st.getD k 0) (by omega) h24 (by rw [(hof k hk).2]; omega)
    rw [(hof k hk).2] at hsame
    have hle2 := (sorted_next hsort hk ((hmem (st.getD k 0 + 1)).2 ⟨by omega, hsame⟩) (by omega)).2
    have e : st.getD (k + 1) 0 = st.getD k 0 + 1 := by omega
    refine ⟨st.getD k 0 + 1, (beh_next hok hi).symm, ?_, ?_, k + 1, hk1, e⟩
    · have := hc.t; omega
    · rw [← e]; exact hc.n hen
  · rintro i x ⟨h0, rfl, k, hk, rfl⟩ h24
    have hen : (ent (insD l (st.getD k 0)).op).ends = false := by rw [h24]; decide
    have hk1 := hw.nxt k hk hen
    have hc := hd k hk h0
    have hi := (hof k hk).1
    have hp := (putO_pos (hok _ (insD_mem hi))).1
    have hlt := sorted_getD hsort (show k < k + 1 by omega) hk1
    have h2 := hof (k + 1) hk1
    obtain ⟨q1, a1, a2, a3, a4, a5, a6, a7, a8⟩ := hn.blk _ hi h24
    rw [(hof k hk).2] at a7
    have hbn := beh_next hok hi
    have hge : (rgAt S.rs q1).fin ≤ (pl l (st.getD (k + 1) 0) : Int) := by
      rcases Int.lt_or_le (pl l (st.getD (k + 1) 0) : Int) (rgAt S.rs q1).fin with e | e
      · have := hn.cov _ _ q1 hlt h2.1 h24 a1 e
        rw [h2.2] at this
        omega
      · exact e
    obtain ⟨m, hml, hm2⟩ := hn.bnd q1 a3
    have hin := hn.inn _ h2.1
    rw [h2.2] at hin
    have hml2 : m ≤ st.getD (k + 1) 0 := by
      rcases Nat.lt_or_ge (st.getD (k + 1) 0) m with e | e
      · have := pl_lt hok e hml; omega
      · exact e
    have hml3 : st.getD k 0 < m := by
      rcases Nat.lt_or_ge (st.getD k 0) m with e | e
      · exact e
      · have := pl_mono l _ _ (show m ≤ st.getD k 0 + 1 by omega); omega
    have hback := hn.back _ m q1 hml3 (by omega) h24 a1 hm2.symm (by rw [(hof k hk).2]; omega)
    rw [(hof k hk).2] at hback
    have hle2 := (sorted_next hsort hk ((hmem m).2 ⟨by omega, hback⟩) hml3).2
    have e : st.getD (k + 1) 0 = m := by omega
    refine ⟨m, by rw [← hm2]; exact a5, ?_, ?_, k + 1, hk1, e⟩
    · have := hc.t; omega
    · rw [← e]; exact hc.n hen
  · rintro i x ⟨h0, rfl, k, hk, rfl⟩ hjj
    have hc := hd k hk h0
    have hi := (hof k hk).1
    have hp := (putO_pos (hok _ (insD_mem hi))).1
    obtain ⟨g, g1, _, _⟩ := jBad_no (jumpsF_none _ _ hj _ (Nat.zero_le _) (by omega)) hjj
    have h3 : goalO l (st.getD k 0) = g := by unfold goalO; rw [g1]; rfl
    have h1 := ix_spec l (beh l (st.getD k 0) + (insD l (st.getD k 0)).z)
    rw [g1] at h1
    dsimp only at h1
    obtain ⟨j, hj1, hj2⟩ := hw.jmp k hk hjj
    refine ⟨g, h1.2, ?_, ?_, j, hj1, by rw [hj2, h3]⟩
    · have := hc.t; omega
    · rw [← h3]; exact hc.j hjj
end
/-- the lowest fault stays -/
theorem blksF_no {l : List Ins} {body ms : List Int} : ∀ (n i : Nat) (f : Int), ¬ 0 ≤ blksF l body ms n i f → ¬ 0 ≤ f ∧ ∀ k, i ≤ k → k < i + n → (insD l k).op = 24 → ms.getD (body.getD k 0).toNat 0 ≤ (insD l k).c
  | 0, i, f, h => ⟨h, fun k h1 h2 => by omega⟩
  | n + 1, i, f, h => by
    unfold blksF at h
    obtain ⟨a, b⟩ := blksF_no n (i + 1) _ h
    have hne : ¬ ((insD l i).op = 24 ∧ (insD l i).c < ms.getD (body.getD i 0).toNat 0) := by
      intro e
      rw [if_pos e] at a
      exact a (lower_pos (by omega))
    rw [if_neg hne] at a
    refine ⟨a, fun k h1 h2 h24 => ?_⟩
    by_cases e : k = i
    · subst e
      rcases Int.lt_or_le (insD l k).c (ms.getD (body.getD k 0).toNat 0) with h3 | h3
      · exact absurd ⟨h24, h3⟩ hne
      · exact h3
    · exact b k (by omega) (by omega) h24
/-- what Verify lets pass leads nowhere else -/
theorem ver_goes {s : Shp} {l : List Ins} (hok : ∀ x ∈ l, x.Ok) (hl : l.length ≤ 32767) (hv : (verL s l).2.2 = 0) :
    (∃ P, Goes l (blkN l l.length) 0 (pl l l.length : Int) (verL s l).1 P) ∧
    ∀ b, b < l.length → (insD l b).op = 24 → 1 ≤ (insD l b).z ∧ ∃ P, Goes l (blkN l l.length) ((pl l b : Int) + 6) ((pl l b : Int) + 6 + (insD l b).z) (insD l b).c P := by
  unfold verL at hv ⊢
  cases hs : splitF s l l.length 0 (sp0 s (pl l l.length)) with
  | error x =>
    rw [hs] at hv
    dsimp only at hv
    exact absurd hv (splitF_err _ _ _ hs)
  | ok S =>
    rw [hs] at hv
    dsimp only at hv ⊢
    cases hj : jumpsF l S.of l.length 0 with
    | some i => rw [hj] at hv; exact absurd hv (show (52 : Int) ≠ 0 by decide)
    | none =>
      rw [hj] at hv
      dsimp only at hv ⊢
      by_cases h0 : l.length = 0
      · rw [if_pos h0] at hv; exact absurd hv (show (54 : Int) ≠ 0 by decide)
      rw [if_neg h0] at hv ⊢
      by_cases he : 0 ≤ endsF l S.rs (-1)
      · rw [if_pos he] at hv; exact absurd hv (show (54 : Int) ≠ 0 by decide)
      rw [if_neg he] at hv ⊢
      by_cases hf : 0 ≤ blksF l S.body (wksF l S.rs (List.replicate l.length (-1)) (-1)).1 l.length 0 (wksF l S.rs (List.replicate l.length (-1)) (-1)).2
      · rw [if_pos hf] at hv; exact absurd hv (show (53 : Int) ≠ 0 by decide)
      rw [if_neg hf]
      dsimp only
      clear hv
      obtain ⟨hfk, hcs⟩ := blksF_no _ _ _ hf
      obtain ⟨h, hm⟩ := split_whole hok (by omega) hs
      have hn := split_nest hok (by omega) hs
      have hrep : ∀ j, j < l.length → (List.replicate l.length (-1 : Int)).getD j 0 < 0 := fun j hj => by
        rw [List.getD_eq_getElem?_getD, List.getElem?_replicate, if_pos hj]
        decide
      have hks := (wksF_law hok S.rs (List.replicate l.length (-1)) (-1) (fun g hg => by
        obtain ⟨q, hq, rfl⟩ := mem_rgAt hg
        exact walkOk_of h hm hl hj he hq) (by
        rw [List.pairwise_iff_getElem]
        intro a b ha hb hab j hjb hja
        have e1 : rgAt S.rs a = S.rs[a] := by unfold rgAt; rw [List.getD_eq_getElem?_getD, List.getElem?_eq_getElem ha]; rfl
        have e2 : rgAt S.rs b = S.rs[b] := by unfold rgAt; rw [List.getD_eq_getElem?_getD, List.getElem?_eq_getElem hb]; rfl
        rw [← e1] at hja
        rw [← e2] at hjb
        have h1 := ((h.stm a ha j).1 hja).2
        have h2 := ((h.stm b hb j).1 hjb).2
        omega) (by simp) (fun g hg j hjg => by
        obtain ⟨q, hq, rfl⟩ := mem_rgAt hg
        exact hrep j ((h.stm q hq j).1 hjg).1)).2.resolve_left hfk
      refine ⟨?_, fun b hb h24 => ?_⟩
      · obtain ⟨a1, d, a2, a3⟩ := hks 0 h.rok.pos
        have hw := walkOk_of h hm hl hj he h.rok.pos
        have hz : (rgAt S.rs 0).steps.getD 0 0 = 0 := by
          have hmem : 0 ∈ (rgAt S.rs 0).steps := (h.stm 0 h.rok.pos 0).2 ⟨by omega, hn.zero.2 (by omega)⟩
          obtain ⟨k, hk, e⟩ := mem_getD 0 hmem
          have hsort : (rgAt S.rs 0).steps.Pairwise (· < ·) := by rw [hm.st 0 h.rok.pos]; exact range_filter_sorted _ _
          have := sorted_le hsort (Nat.zero_le k) hk
          omega
        obtain ⟨P, hP⟩ := goes_region hok h hm hn hl hj he h.rok.pos (Int.le_refl _) a1 a2 a3 hz (fun b b' hb h24 e1 _ => by
          obtain ⟨q1, c1, c2, _⟩ := hn.blk b hb h24
          omega)
        refine ⟨P, ?_⟩
        rw [h.fin0, pl_zero] at hP
        exact hP
      · obtain ⟨q, a1, a2, a3, a4, a5, a6, a7, a8⟩ := hn.blk b hb h24
        refine ⟨a6, ?_⟩
        obtain ⟨c1, d, c2, c3⟩ := hks q a3
        have hbb := beh_block h24
        have hbn := beh_next hok hb
        have hlast : b + 1 < l.length := by
          obtain ⟨m, hml, hm2⟩ := hn.bnd q a3
          rcases Nat.lt_or_ge (b + 1) m with e | e
          · omega
          · have := pl_mono l _ _ e; omega
        have hfst := hn.fst b q hlast h24 a1
        have hsort : (rgAt S.rs q).steps.Pairwise (· < ·) := by rw [hm.st q a3]; exact range_filter_sorted _ _
        have hw := walkOk_of h hm hl hj he a3
        have hz : (rgAt S.rs q).steps.getD 0 0 = b + 1 := by
          have hmem : b + 1 ∈ (rgAt S.rs q).steps := (h.stm q a3 _).2 ⟨hlast, hfst⟩
          obtain ⟨k, hk, e⟩ := mem_getD 0 hmem
          have h1 := sorted_le hsort (Nat.zero_le k) hk
          have h2 := (h.stm q a3 _).1 (getD_mem 0 hw.ne)
          have h3 := hn.own b _ hb h2.1 h24 (by rw [h2.2]; exact a1)
          omega
        have hcc := hcs b (Nat.zero_le _) (by omega) h24
        rw [a1, Int.toNat_natCast] at hcc
        obtain ⟨P, hP⟩ := goes_region hok h hm hn hl hj he a3 hcc a8 c2 c3 hz (fun b1 q1 hb1 h24b e1 hlt => by
          have := hn.mono b b1 (by omega) hb1 h24 h24b
          omega)
        refine ⟨P, ?_⟩
        rw [a5, ← hbn, hbb] at hP
        exact hP
end Go.Proofs.Ytaeegkljldngmaa
