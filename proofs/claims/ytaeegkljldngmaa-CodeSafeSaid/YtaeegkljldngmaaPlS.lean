/-
  Straight code, plain: what the verifier tells of it. No statement of the seat is proved here.
-/
import Derived.Test.YtaeegkljldngmaaPlD
import Derived.Test.YtaeegkljldngmaaCvW
namespace Go.Proofs.Ytaeegkljldngmaa
open Go.RowKit

/-- what an instruction takes and puts, by the document -/
def mvT (x : Ins) : Int := if inO x.op then takeO x else 0
def mvP (x : Ins) : Int := if inO x.op then putO x else 1
def opI (op : Int) : Ins := ⟨op, 0, 0, 0, 0⟩
structure StrS where
  l : List Ins
  d : Int
  m : Int
/-- the law's loop -/
def strF : List Int → StrS → StrS
  | [], S => S
  | op :: r, S =>
    if op < 1 ∨ 15 < op ∨ S.d < mvT (opI op) ∨ 9000 < S.l.length then strF r S
    else if 127 < S.d + mvP (opI op) - mvT (opI op) then S
    else strF r ⟨S.l ++ [opI op], S.d + mvP (opI op) - mvT (opI op), max S.m (S.d + mvP (opI op) - mvT (opI op))⟩
def dAt (l : List Ins) : Nat → Int
  | 0 => 0
  | k + 1 => dAt l k - takeO (insD l k) + putO (insD l k)
def mAt (l : List Ins) : Nat → Int
  | 0 => 0
  | k + 1 => max (mAt l k) (dAt l (k + 1))
structure StrOk (S : StrS) : Prop where
  op : ∀ k, k < S.l.length → ∃ op, 1 ≤ op ∧ op ≤ 15 ∧ insD S.l k = opI op
  len : S.l.length ≤ 9001
  d : S.d = dAt S.l S.l.length
  m : S.m = mAt S.l S.l.length
  tk : ∀ k, k < S.l.length → takeO (insD S.l k) ≤ dAt S.l k ∧ dAt S.l (k + 1) ≤ 127
  dp : 0 ≤ S.d ∧ S.d ≤ 127
  mp : 0 ≤ S.m ∧ S.m ≤ 127
theorem insD_app1 {l r : List Ins} {k : Nat} (h : k < l.length) : insD (l ++ r) k = insD l k := by
  unfold insD
  rw [List.getD_eq_getElem?_getD, List.getD_eq_getElem?_getD, List.getElem?_append_left h]
theorem insD_last (l : List Ins) (x : Ins) : insD (l ++ [x]) l.length = x := by
  unfold insD
  rw [List.getD_eq_getElem?_getD, List.getElem?_append_right (Nat.le_refl _)]
  simp
theorem dAt_app {l r : List Ins} : ∀ {k : Nat}, k ≤ l.length → dAt (l ++ r) k = dAt l k
  | 0, _ => rfl
  | k + 1, h => by
    unfold dAt
    rw [dAt_app (by omega), insD_app1 (by omega)]
theorem mAt_app {l r : List Ins} : ∀ {k : Nat}, k ≤ l.length → mAt (l ++ r) k = mAt l k
  | 0, _ => rfl
  | k + 1, h => by
    unfold mAt
    rw [mAt_app (by omega), dAt_app h]
theorem str_move {op : Int} (h1 : 1 ≤ op) (h2 : op ≤ 15) : mvT (opI op) = takeO (opI op) ∧ mvP (opI op) = putO (opI op) ∧ 0 ≤ takeO (opI op) ∧ 0 ≤ putO (opI op) ∧ (ent op).ends = false := by
  have h : inO op = true := by simp [inO]; omega
  unfold mvT mvP
  rw [show (opI op).op = op from rfl, h]
  obtain ⟨k, rfl⟩ : ∃ k : Nat, op = k := ⟨op.toNat, by omega⟩
  have : ∀ k : Fin 16, 0 ≤ takeO (opI k.1) ∧ 0 ≤ putO (opI k.1) ∧ (ent k.1).ends = false := by decide
  have := this ⟨k, by omega⟩
  exact ⟨rfl, rfl, this.1, this.2.1, this.2.2⟩
theorem str0 : StrOk ⟨[], 0, 0⟩ := ⟨fun k h => absurd h (Nat.not_lt_zero _), by simp, rfl, rfl, fun k h => absurd h (Nat.not_lt_zero _), by simp, by simp⟩
theorem StrOk.snoc {S : StrS} (h : StrOk S) {op : Int} (h1 : 1 ≤ op) (h2 : op ≤ 15) (h3 : takeO (opI op) ≤ S.d) (h4 : S.l.length ≤ 9000) (h5 : S.d + putO (opI op) - takeO (opI op) ≤ 127) : StrOk ⟨S.l ++ [opI op], S.d + putO (opI op) - takeO (opI op), max S.m (S.d + putO (opI op) - takeO (opI op))⟩ := by
  have hm := str_move h1 h2
  have hlast : dAt (S.l ++ [opI op]) (S.l.length + 1) = S.d + putO (opI op) - takeO (opI op) := by
    unfold dAt
    rw [dAt_app (Nat.le_refl _), insD_last, ← h.d]
    omega
  have hd := h.dp
  have hmp := h.mp
  refine ⟨fun k hk => ?_, by simp; omega, by simp only [List.length_append, List.length_cons, List.length_nil]; exact hlast.symm, ?_, fun k hk => ?_, by dsimp only; omega, by dsimp only; omega⟩
  · simp only [List.length_append, List.length_cons, List.length_nil] at hk
    by_cases e : k < S.l.length
    · rw [insD_app1 e]; exact h.op k e
    · obtain rfl : k = S.l.length := by omega
      exact ⟨op, h1, h2, insD_last _ _⟩
  · simp only [List.length_append, List.length_cons, List.length_nil]
    unfold mAt
    rw [hlast, mAt_app (Nat.le_refl _), ← h.m]
  · simp only [List.length_append, List.length_cons, List.length_nil] at hk
    by_cases e : k < S.l.length
    · dsimp only
      rw [insD_app1 e, dAt_app (by omega), dAt_app (by omega)]; exact h.tk k e
    · obtain rfl : k = S.l.length := by omega
      dsimp only
      rw [insD_last, dAt_app (Nat.le_refl _), hlast, ← h.d]
      exact ⟨h3, h5⟩
theorem strF_ok : ∀ (ops : List Int) (S : StrS), StrOk S → StrOk (strF ops S)
  | [], S, h => h
  | op :: r, S, h => by
    unfold strF
    split
    · exact strF_ok r S h
    · rename_i hn
      have h1 : 1 ≤ op := by omega
      have h2 : op ≤ 15 := by omega
      have hm := str_move h1 h2
      split
      · exact h
      · rename_i hn2
        rw [hm.1, hm.2.1] at hn2 ⊢
        rw [hm.1] at hn
        exact strF_ok r _ (h.snoc h1 h2 (by omega) (by omega) (by omega))
/-- the whole: a return stands behind -/
def strL (ops : List Int) : List Ins := (strF ops ⟨[], 0, 0⟩).l ++ [opI 22]
def strM (ops : List Int) : Int := (strF ops ⟨[], 0, 0⟩).m
structure FlatOk (L : List Ins) : Prop where
  pos : 0 < L.length
  op : ∀ k, k < L.length → ∃ op, insD L k = opI op ∧ ((k + 1 < L.length ∧ 1 ≤ op ∧ op ≤ 15) ∨ (k + 1 = L.length ∧ op = 22))
  tk : ∀ k, k + 1 < L.length → takeO (insD L k) ≤ dAt L k ∧ dAt L (k + 1) ≤ 127
theorem strL_flat (ops : List Int) : FlatOk (strL ops) ∧ (strL ops).length ≤ 9002 ∧ mAt (strL ops) ((strL ops).length - 1) = strM ops ∧ dAt (strL ops) ((strL ops).length - 1) ≤ 127 ∧ 0 ≤ dAt (strL ops) ((strL ops).length - 1) := by
  have h := strF_ok ops _ str0
  unfold strL strM
  generalize strF ops ⟨[], 0, 0⟩ = S at *
  have hl : (S.l ++ [opI 22]).length = S.l.length + 1 := by simp
  have hd := h.dp
  refine ⟨⟨by omega, fun k hk => ?_, fun k hk => ?_⟩, by have := h.len; omega, ?_, ?_⟩
  · rw [hl] at hk ⊢
    by_cases e : k < S.l.length
    · obtain ⟨op, a, b, c⟩ := h.op k e
      exact ⟨op, by rw [insD_app1 e]; exact c, .inl ⟨by omega, a, b⟩⟩
    · obtain rfl : k = S.l.length := by omega
      exact ⟨22, insD_last _ _, .inr ⟨rfl, rfl⟩⟩
  · rw [hl] at hk
    rw [insD_app1 (by omega), dAt_app (by omega), dAt_app (by omega)]
    exact h.tk k (by omega)
  · rw [hl, Nat.add_sub_cancel, mAt_app (Nat.le_refl _), h.m]
  · rw [hl, Nat.add_sub_cancel, dAt_app (Nat.le_refl _), ← h.d]
    omega
/-- a list by a function of the place -/
def tab {α : Type} (n : Nat) (f : Nat → α) : List α := (List.range n).map f
theorem tab_len {α : Type} (n : Nat) (f : Nat → α) : (tab n f).length = n := by simp [tab]
theorem tab_getD {α : Type} {n k : Nat} (f : Nat → α) (x : α) (h : k < n) : (tab n f).getD k x = f k := by
  simp [tab, List.getD_eq_getElem?_getD, List.getElem?_range h]
theorem tab_set {α : Type} {n k : Nat} (f : Nat → α) (x : α) : (tab n f).set k x = tab n fun j => if j = k then x else f j := by
  apply List.ext_getElem?
  intro j
  simp only [tab, List.getElem?_set, List.getElem?_map, List.length_map, List.length_range]
  by_cases e : k = j
  · subst e
    by_cases hk : k < n
    · simp [hk]
    · rw [if_pos rfl, if_neg hk, List.getElem?_eq_none (by simp; omega)]; rfl
  · rw [if_neg e]
    by_cases hj : j < n
    · rw [List.getElem?_range hj]; simp [Ne.symm e]
    · rw [List.getElem?_eq_none (by simp; omega)]; rfl
theorem tab_ext {α : Type} {n : Nat} {f g : Nat → α} (h : ∀ j, j < n → f j = g j) : tab n f = tab n g := by
  unfold tab
  exact List.map_congr_left fun j hj => h j (List.mem_range.1 hj)
theorem tab_rep {α : Type} (n : Nat) (x : α) : List.replicate n x = tab n fun _ => x := by
  simp [tab, List.map_const']
theorem tab_id (n : Nat) : List.range n = tab n id := by simp [tab]
/-- the depths' state when the k-th instruction waits -/
def wkAt (L : List Ins) (k : Nat) : Wk := ⟨tab L.length fun j => if j ≤ k then dAt L j else -1, tab L.length fun j => j == k, mAt L k, -1⟩
/-- a round in which nothing is blamed -/
theorem wkStep_good {l : List Ins} {st : List Nat} {k i : Nat} {W : Wk} {x : Ins} {dz d : Int} (hi : st.getD k 0 = i) (hx : insD l i = x) (hz : W.dp.getD i 0 = dz) (hd : dz - takeO x + putO x = d) (hn : ¬ (dz < takeO x ∨ 127 < d)) :
    wkStep l st k W = if isJ x.op then putW l (goalO l i) (st.idxOf (goalO l i)) d (if (ent x.op).ends then ⟨W.dp, W.wt.set k false, max W.most d, W.fault⟩ else putW l (st.getD (k + 1) 0) (k + 1) d ⟨W.dp, W.wt.set k false, max W.most d, W.fault⟩) else (if (ent x.op).ends then ⟨W.dp, W.wt.set k false, max W.most d, W.fault⟩ else putW l (st.getD (k + 1) 0) (k + 1) d ⟨W.dp, W.wt.set k false, max W.most d, W.fault⟩) := by
  subst hi hx hz hd
  unfold wkStep
  dsimp only
  rw [if_neg hn]
theorem flat_step {L : List Ins} (h : FlatOk L) {k : Nat} (hk : k + 1 < L.length) : wkStep L (List.range L.length) k (wkAt L k) = wkAt L (k + 1) := by
  obtain ⟨op, ho, ⟨_, o1, o2⟩ | ⟨o1, _⟩⟩ := h.op k (by omega)
  · have hm := str_move o1 o2
    obtain ⟨t1, t2⟩ := h.tk k hk
    have hdk : (wkAt L k).dp.getD k 0 = dAt L k := by
      unfold wkAt
      dsimp only
      rw [tab_getD _ _ (by omega), if_pos (Nat.le_refl _)]
    have hd : dAt L k - takeO (insD L k) + putO (insD L k) = dAt L (k + 1) := rfl
    have hj : isJ op = false := by
      unfold isJ
      simp only [Bool.or_eq_false_iff, beq_eq_false_iff_ne]
      omega
    rw [wkStep_good (i := k) (x := opI op) (dz := dAt L k) (d := dAt L (k + 1)) (by rw [tab_id, tab_getD _ _ (by omega)]; rfl) ho hdk (by rw [← ho]; exact hd) (by rw [← ho]; omega)]
    rw [show (opI op).op = op from rfl, hm.2.2.2.2, hj, tab_id, tab_getD _ _ hk]
    dsimp only [id]
    simp only [Bool.false_eq_true, if_false]
    unfold putW wkAt
    dsimp only
    rw [tab_getD _ _ hk, show (if k + 1 ≤ k then dAt L (k + 1) else (-1 : Int)) = -1 from if_neg (by omega), if_pos (by decide), tab_set, tab_set, tab_set]
    congr 1
    · refine tab_ext fun j hj => ?_
      by_cases e1 : j = k + 1
      · rw [if_pos e1, if_pos (by omega), e1]
      · rw [if_neg e1]
        by_cases e2 : j ≤ k
        · rw [if_pos e2, if_pos (by omega)]
        · rw [if_neg e2, if_neg (by omega)]
    · refine tab_ext fun j hj => ?_
      by_cases e1 : j = k + 1
      · subst e1; simp
      · rw [if_neg e1]
        have : (j == k + 1) = false := by simpa using e1
        rw [this]
        by_cases e2 : j = k
        · rw [if_pos e2]
        · rw [if_neg e2]; simpa using e2
    · show max (max (mAt L k) (dAt L (k + 1))) (dAt L (k + 1)) = max (mAt L k) (dAt L (k + 1))
      omega
  · omega
theorem flat_wait {L : List Ins} {k : Nat} (hk : k < L.length) : (wkAt L k).wt.idxOf? true = some k := by
  refine idx_some ?_ fun j hj => ?_
  · unfold wkAt
    dsimp only
    rw [tab_getD _ _ hk]; simp
  · unfold wkAt
    dsimp only
    rw [tab_getD _ _ (by omega)]
    simp; omega
theorem wkF_done {l : List Ins} {st : List Nat} {W : Wk} (h : W.wt.idxOf? true = none) : ∀ f, wkF l st f W = W
  | 0 => rfl
  | f + 1 => by unfold wkF; rw [h]
theorem flat_last {L : List Ins} (h : FlatOk L) {k : Nat} (hk : k + 1 = L.length) (h0 : 0 ≤ dAt L k) (h1 : dAt L k ≤ 127) (hm : dAt L k ≤ mAt L k) : (wkStep L (List.range L.length) k (wkAt L k)).wt.idxOf? true = none ∧ (wkStep L (List.range L.length) k (wkAt L k)).most = mAt L k ∧ (wkStep L (List.range L.length) k (wkAt L k)).fault = -1 := by
  obtain ⟨op, ho, ⟨_, _, _⟩ | ⟨_, rfl⟩⟩ := h.op k (by omega)
  · omega
  · have hdk : (wkAt L k).dp.getD k 0 = dAt L k := by
      unfold wkAt
      dsimp only
      rw [tab_getD _ _ (by omega), if_pos (Nat.le_refl _)]
    have e1 : takeO (opI 22) = 0 := by decide
    have e2 : putO (opI 22) = 0 := by decide
    have e3 : (ent (opI 22).op).ends = true := by decide
    have e4 : isJ (opI 22).op = false := by decide
    rw [wkStep_good (i := k) (x := opI 22) (dz := dAt L k) (d := dAt L k) (by rw [tab_id, tab_getD _ _ (by omega)]; rfl) ho hdk (by rw [e1, e2]; omega) (by rw [e1]; omega)]
    rw [e3, e4]
    simp only [Bool.false_eq_true, if_false, if_true]
    refine ⟨?_, ?_, rfl⟩
    · refine idx_none fun j hj => ?_
      unfold wkAt
      unfold wkAt at hj
      dsimp only at hj ⊢
      rw [List.length_set, tab_len] at hj
      rw [tab_set, tab_getD _ _ hj]
      by_cases e : j = k
      · rw [if_pos e]
      · rw [if_neg e]; simpa using e
    · show max (mAt L k) _ = _
      omega
theorem dAt_mAt (L : List Ins) : ∀ k, dAt L k ≤ mAt L k
  | 0 => Int.le_refl _
  | k + 1 => by unfold mAt; omega
theorem flat_run {L : List Ins} (h : FlatOk L) (h0 : 0 ≤ dAt L (L.length - 1)) (h1 : dAt L (L.length - 1) ≤ 127) : ∀ (f k : Nat), k < L.length → L.length - k ≤ f → (wkF L (List.range L.length) f (wkAt L k)).most = mAt L (L.length - 1) ∧ (wkF L (List.range L.length) f (wkAt L k)).fault = -1
  | 0, k, hk, hf => by omega
  | f + 1, k, hk, hf => by
    unfold wkF
    rw [flat_wait hk]
    dsimp only
    by_cases e : k + 1 < L.length
    · rw [flat_step h e]
      exact flat_run h h0 h1 f (k + 1) e (by omega)
    · have ek : L.length - 1 = k := by omega
      rw [ek] at h0 h1 ⊢
      obtain ⟨a, b, c⟩ := flat_last h (k := k) (by omega) h0 h1 (dAt_mAt L k)
      rw [wkF_done a]
      exact ⟨b, c⟩
theorem flat_split {s : Shp} {L : List Ins} {N : Int} (hop : ∀ k, k < L.length → (insD L k).op ≠ 24) (hod : ∀ k rs, k < L.length → opdO s rs (insD L k) 0 = true) : ∀ (f i : Nat), i + f = L.length →
    splitF s L f i ⟨[⟨-1, 0, s.temps, N, List.range i, 0⟩], List.replicate i 0, List.replicate i (-1), 0⟩ = .ok ⟨[⟨-1, 0, s.temps, N, List.range L.length, 0⟩], List.replicate L.length 0, List.replicate L.length (-1), 0⟩
  | 0, i, h => by
    obtain rfl : i = L.length := by omega
    rfl
  | f + 1, i, h => by
    unfold splitF spStep
    dsimp only
    have hc : climb [⟨-1, 0, s.temps, N, List.range i, 0⟩] (pl L i) 0 0 = 0 := rfl
    rw [hc, hod i _ (by omega), if_pos rfl, if_neg (hop i (by omega))]
    dsimp only
    have h1 := flat_split (N := N) hop hod f (i + 1) (by omega)
    rw [List.range_succ, List.replicate_succ', List.replicate_succ'] at h1
    exact h1
theorem jumps_none {L : List Ins} {of : List Nat} (h : ∀ k, k < L.length → isJ (insD L k).op = false) : ∀ (f i : Nat), i + f = L.length → jumpsF L of f i = none
  | 0, i, _ => rfl
  | f + 1, i, hi => by
    unfold jumpsF
    have : jBad L of i = false := by
      unfold jBad
      rw [h i (by omega)]
      rfl
    rw [this]
    exact jumps_none h f (i + 1) (by omega)
theorem blks_none {L : List Ins} {body ms : List Int} (h : ∀ k, k < L.length → (insD L k).op ≠ 24) : ∀ (n i : Nat) (f : Int), i + n = L.length → blksF L body ms n i f = f
  | 0, i, f, _ => rfl
  | n + 1, i, f, hi => by
    unfold blksF
    rw [if_neg (fun e => h i (by omega) e.1)]
    exact blks_none h n (i + 1) f (by omega)
def shpS : Shp := ⟨0, 1, 1, [2]⟩
theorem opd_flat {op : Int} (rs : List Rg) (h : (1 ≤ op ∧ op ≤ 15) ∨ op = 22) (h0 : 1 ≤ tempsO rs 0 0) : opdO shpS rs (opI op) 0 = true := by
  have hn : op = 1 ∨ op = 2 ∨ op = 3 ∨ op = 4 ∨ op = 5 ∨ op = 6 ∨ op = 7 ∨ op = 8 ∨ op = 9 ∨ op = 10 ∨ op = 11 ∨ op = 12 ∨ op = 13 ∨ op = 14 ∨ op = 15 ∨ op = 22 := by omega
  unfold opdO opI
  dsimp only
  have ht : decide (0 < tempsO rs 0 0) = true := by simp; omega
  rcases hn with rfl | rfl | rfl | rfl | rfl | rfl | rfl | rfl | rfl | rfl | rfl | rfl | rfl | rfl | rfl | rfl <;> first | rfl | (simp [ht]; done) | (simp [litO, shpS]; done)
theorem verL_flat {L : List Ins} (h : FlatOk L) (h0 : 0 ≤ dAt L (L.length - 1)) (h1 : dAt L (L.length - 1) ≤ 127) : verL shpS L = (mAt L (L.length - 1), 0, 0) := by
  have hop : ∀ k, k < L.length → (insD L k).op ≠ 24 := fun k hk => by
    obtain ⟨op, ho, h2 | h2⟩ := h.op k hk <;> · rw [ho]; show op ≠ 24; omega
  have hj : ∀ k, k < L.length → isJ (insD L k).op = false := fun k hk => by
    obtain ⟨op, ho, h2⟩ := h.op k hk
    rw [ho]
    show isJ op = false
    unfold isJ
    simp only [Bool.or_eq_false_iff, beq_eq_false_iff_ne]
    omega
  have hsp : splitF shpS L L.length 0 (sp0 shpS (pl L L.length)) = .ok ⟨[⟨-1, 0, shpS.temps, (pl L L.length : Int), List.range L.length, 0⟩], List.replicate L.length 0, List.replicate L.length (-1), 0⟩ := by
    have hd : ∀ (f i : Nat), i + f = L.length → splitF shpS L f i ⟨[⟨-1, 0, shpS.temps, (pl L L.length : Int), List.range i, 0⟩], List.replicate i 0, List.replicate i (-1), 0⟩ = .ok ⟨[⟨-1, 0, shpS.temps, (pl L L.length : Int), List.range L.length, 0⟩], List.replicate L.length 0, List.replicate L.length (-1), 0⟩ := by
      intro f
      induction f with
      | zero =>
        intro i hi
        obtain rfl : i = L.length := by omega
        rfl
      | succ f ih =>
        intro i hi
        unfold splitF spStep
        dsimp only
        have hc : climb [⟨-1, 0, shpS.temps, (pl L L.length : Int), List.range i, 0⟩] (pl L i) 0 0 = 0 := rfl
        rw [hc]
        obtain ⟨op, ho, h2⟩ := h.op i (by omega)
        rw [ho, opd_flat _ (by omega) (Int.le_refl _), if_pos rfl, if_neg (by have := hop i (by omega); rw [ho] at this; exact this)]
        dsimp only
        have h1 := ih (i + 1) (by omega)
        rw [List.range_succ, List.replicate_succ', List.replicate_succ'] at h1
        exact h1
    exact hd L.length 0 (by omega)
  unfold verL
  rw [hsp]
  dsimp only
  rw [jumps_none hj _ _ (by omega)]
  dsimp only
  have hpos := h.pos
  rw [if_neg (by omega)]
  have he : endsF L [⟨-1, 0, shpS.temps, (pl L L.length : Int), List.range L.length, 0⟩] (-1) = -1 := by
    unfold endsF endsF
    dsimp only
    have : (List.range L.length).getLastD 0 = L.length - 1 := by
      obtain ⟨m, hm⟩ : ∃ m, L.length = m + 1 := ⟨L.length - 1, by omega⟩
      rw [hm, List.range_succ]
      simp
    rw [this]
    obtain ⟨op, ho, ⟨h2, _⟩ | ⟨_, rfl⟩⟩ := h.op (L.length - 1) (by omega)
    · omega
    · rw [ho, if_pos (by decide)]
  rw [he, if_neg (by decide)]
  have hw0 : wk0 L (List.range L.length) (List.replicate L.length (-1)) (-1) = wkAt L 0 := by
    unfold wk0
    rw [show (List.range L.length).getD 0 0 = 0 by rw [tab_id, tab_getD _ _ hpos]; rfl]
    unfold putW
    dsimp only
    rw [if_pos (by rw [tab_rep, tab_getD _ _ hpos]; decide), tab_rep, tab_rep, List.length_range, tab_set, tab_set]
    unfold wkAt
    congr 1
    · refine tab_ext fun j hj => ?_
      by_cases e : j = 0
      · subst e; rfl
      · rw [if_neg e, if_neg (by omega)]
  have hwk : (wkAll L (List.range L.length) (List.replicate L.length (-1)) (-1)).most = mAt L (L.length - 1) ∧ (wkAll L (List.range L.length) (List.replicate L.length (-1)) (-1)).fault = -1 := by
    unfold wkAll
    rw [hw0]
    refine flat_run h h0 h1 _ 0 hpos ?_
    rw [wkM_eq]
    have c1 : cntN (wkAt L 0).dp + 1 = L.length := by
      have : (wkAt L 0).dp = (List.replicate L.length (-1 : Int)).set 0 0 := by
        rw [tab_rep, tab_set]
        exact tab_ext fun j hj => by
          by_cases e : j = 0
          · subst e; rfl
          · rw [if_neg e, if_neg (by omega)]
      rw [this, cntN_set _ _ _ (by simp; omega) (by rw [tab_rep, tab_getD _ _ hpos]; decide) (by decide)]
      unfold cntN
      rw [List.filter_eq_self.2 (fun a ha => by have := List.eq_of_mem_replicate ha; subst this; decide)]
      simp
    have c2 := cntT_lt (wkAt L 0).wt 0 (by unfold wkAt; dsimp only; rw [tab_getD _ _ hpos]; rfl)
    omega
  unfold wksF wksF
  dsimp only
  rw [blks_none hop _ _ _ (by omega), hwk.2, if_neg (by decide)]
  simp [hwk.1]
theorem verL_str (ops : List Int) : verL shpS (strL ops) = (strM ops, 0, 0) := by
  obtain ⟨h1, h2, h3, h4, h5⟩ := strL_flat ops
  rw [verL_flat h1 h5 h4, h3]
theorem strL_may (ops : List Int) : (∀ x ∈ strL ops, mayE x = 0) ∧ (bytesL (strL ops)).length ≤ 32767 := by
  obtain ⟨h1, h2, _⟩ := strL_flat ops
  have key : ∀ op : Int, (1 ≤ op ∧ op ≤ 15) ∨ op = 22 → mayE (opI op) = 0 ∧ (layI (opI op)).length ≤ 3 := fun op ho => by
    have hn : op = 1 ∨ op = 2 ∨ op = 3 ∨ op = 4 ∨ op = 5 ∨ op = 6 ∨ op = 7 ∨ op = 8 ∨ op = 9 ∨ op = 10 ∨ op = 11 ∨ op = 12 ∨ op = 13 ∨ op = 14 ∨ op = 15 ∨ op = 22 := by omega
    rcases hn with rfl | rfl | rfl | rfl | rfl | rfl | rfl | rfl | rfl | rfl | rfl | rfl | rfl | rfl | rfl | rfl <;> decide
  have all : ∀ x ∈ strL ops, mayE x = 0 ∧ (layI x).length ≤ 3 := fun x hx => by
    obtain ⟨k, hk⟩ := List.getElem?_of_mem hx
    have hl := (List.getElem?_eq_some_iff.1 hk).1
    obtain ⟨op, ho, h2⟩ := h1.op k hl
    have : x = opI op := by rw [← ho]; unfold insD; rw [List.getD_eq_getElem?_getD, hk]; rfl
    rw [this]
    exact key op (by omega)
  refine ⟨fun x hx => (all x hx).1, ?_⟩
  have len : ∀ l : List Ins, (∀ x ∈ l, (layI x).length ≤ 3) → (bytesL l).length ≤ 3 * l.length := by
    intro l
    induction l with
    | nil => intro _; simp [bytesL]
    | cons x r ih =>
      intro h
      have a := h x (by simp)
      have b := ih fun y hy => h y (by simp [hy])
      simp only [bytesL, List.flatMap_cons, List.length_append, List.length_cons] at b ⊢
      omega
  have := len _ fun x hx => (all x hx).2
  omega
end Go.Proofs.Ytaeegkljldngmaa
