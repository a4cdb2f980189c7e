/-
  Parts PsV, PsW, PsX, PsY, PsZ of the proof. No statement of the seat is proved here.
-/
import Derived.Test.YtjhonaglmgmpiaaGreatDoorP02
set_option maxHeartbeats 4000000
namespace Go.Proofs.YtjhonaglmgmpiaaGreatDoor
namespace Ps
open Lx
def P (T : List Tk) (fin i : Nat) : Nat := (T.getD i (0, [], fin)).2.2
structure Lf (T : List Tk) (fin : Nat) (s s' : PS) : Prop where
 at_ : s.at_ ≤ s'.at_
 fl : ∀ x, s.fault = some x → s'.fault = some x
 new : ∀ x, s'.fault = some x → s.fault = some x ∨ ∃ j, s.at_ ≤ j ∧ x.1 = P T fin j ∧ x.2 ≠ 0
theorem lf_rf0 (s : PS) (p e : Nat) : s.at_ ≤ (rf s p e).at_ ∧ ∀ x, s.fault = some x → (rf s p e).fault = some x := ⟨Nat.le_refl _, fun x h => by unfold rf; rw [h]⟩
section
variable {T : List Tk} {fin : Nat}
theorem Lf.refl (s : PS) : Lf T fin s s := ⟨Nat.le_refl _, fun _ h => h, fun _ h => .inl h⟩
theorem Lf.trans {a b c : PS} (h : Lf T fin a b) (k : Lf T fin b c) : Lf T fin a c := ⟨Nat.le_trans h.at_ k.at_, fun x hx => k.fl x (h.fl x hx), fun x hx => by
 rcases k.new x hx with h1 | ⟨j, h1, h2⟩
 ·exact h.new x h1
 ·exact .inr ⟨j, Nat.le_trans h.at_ h1, h2⟩⟩
theorem lf_adv (s : PS) : Lf T fin s (adv s) := ⟨Nat.le_succ _, fun _ h => h, fun _ h => .inl h⟩
theorem lf_rf (s : PS) (p e : Nat) (h : ∃ j, s.at_ ≤ j ∧ p = P T fin j ∧ e ≠ 0 := by exact ⟨_, Nat.le_refl _, rfl, by decide⟩) : Lf T fin s (rf s p e) := ⟨Nat.le_refl _, fun x h => by unfold rf; rw [h], fun x hx => by
 unfold rf at hx
 cases hs : s.fault with
 | none =>
  rw [hs] at hx
  obtain rfl := Option.some.inj hx
  exact .inr h
 | some y => rw [hs] at hx; exact .inl hx⟩
end
section
variable (T : List Tk) (fin : Nat)
theorem lf_odd (s : PS) : Lf T fin s (odd T fin s) := lf_rf _ _ _
theorem lf_want (k : Nat) (x : Txt) (s : PS) : Lf T fin s (want T fin k x s).2 := by
 unfold want
 split
 ·exact lf_odd T fin s
 ·exact lf_adv s
theorem lf_opn (s : PS) : Lf T fin s (opn T fin s) := by
 unfold opn
 have h : Lf T fin s (if s.deep = 100 then rf s (nx T fin s).2.2 125 else s) := by split; exact lf_rf _ _ _; exact Lf.refl s
 exact ⟨Nat.le_trans h.at_ (Nat.le_succ _), h.fl, h.new⟩
theorem lf_cls (x : Txt) (s : PS) : Lf T fin s (cls_ T fin x s) := by
 unfold cls_
 have h := lf_want T fin 7 x { s with deep := s.deep - 1 }
 exact ⟨h.at_, h.fl, h.new⟩
theorem lf_shut (x : Txt) (s : PS) : Lf T fin s (shut T fin x s) := by
 unfold shut
 split
 ·exact lf_cls T fin x s
 ·exact Lf.refl s
theorem lf_wantr (k : Nat) (x : Txt) (e : Nat) (he : e ≠ 0) (c : Bool) (s : PS) (hc : c = true → ok (want T fin k x s).2 = true) : Lf T fin s (if c then rf (want T fin k x s).2 (want T fin k x s).1.2.2 e else (want T fin k x s).2) := by
 have h := lf_want T fin k x s
 cases c
 ·exact h
 ·have hk := hc rfl
  rw [if_pos rfl]
  refine ⟨Nat.le_trans h.at_ (lf_rf0 _ _ _).1, fun f hf => (lf_rf0 _ _ _).2 f (h.fl f hf), fun f hf => ?_⟩
  have hn : (want T fin k x s).2.fault = none := by unfold ok at hk; cases hq : (want T fin k x s).2.fault with
   | none => rfl
   | some y => rw [hq] at hk; cases hk
  unfold rf at hf
  rw [hn] at hf
  obtain rfl := Option.some.inj hf
  refine .inr ⟨s.at_, Nat.le_refl _, ?_, he⟩
  unfold want at hn ⊢
  split at hn
  ·unfold odd rf at hn
   cases hq : s.fault <;> rw [hq] at hn <;> cases hn
  ·rename_i h1
   rw [if_neg h1]; rfl
theorem lf_decl (l : List Txt) (s : PS) : Lf T fin s (decl T fin l s).2 := by
 unfold decl
 exact lf_wantr T fin 1 [] 126 (by decide) _ s (fun h => by simp only [Bool.and_eq_true] at h; exact h.1)
theorem lf_tmpL : ∀ (f : Nat) (l : List Txt) (s : PS), Lf T fin s (tmpL T fin f l s).2
 | 0, _, s => Lf.refl s
 | f + 1, l, s => by
  unfold tmpL
  split
  ·exact (lf_decl T fin l s).trans (lf_tmpL f _ _)
  ·exact Lf.refl s
theorem lf_temps (s : PS) : Lf T fin s (temps T fin s).2 := by
 unfold temps
 split
 ·exact ((lf_adv s).trans (lf_tmpL T fin _ [] (adv s))).trans (lf_adv _)
 ·exact Lf.refl s
theorem lf_simple (s : PS) : Lf T fin s (simple T fin s).2 := by
 unfold simple
 dsimp only
 repeat' split
 all_goals first | exact Lf.refl s | exact lf_adv s | exact (lf_adv s).trans (lf_adv _)
theorem lf_wants (k : Nat) (x : Txt) (n : Nat) (s : PS) : Lf T fin s (if ok (want T fin k x s).2 then smallS (want T fin k x s).1 n (want T fin k x s).2 else (want T fin k x s).2) := by
 have h := lf_wantr T fin k x 123 (by decide) (ok (want T fin k x s).2 && decide (n < small (want T fin k x s).1.2.1 n)) s (fun h => by simp only [Bool.and_eq_true] at h; exact h.1)
 unfold smallS
 cases h1 : ok (want T fin k x s).2 with
 | false => rw [if_neg (by simp)]; rw [h1] at h; exact h
 | true =>
  rw [if_pos rfl]
  rw [h1] at h
  by_cases h2 : n < small (want T fin k x s).1.2.1 n
  ·rw [if_pos h2]; rw [decide_eq_true h2] at h; exact h
  ·rw [if_neg h2]; rw [decide_eq_false h2] at h; exact h
theorem lf_bytL : ∀ (f : Nat) (l : List Tr) (s : PS), Lf T fin s (bytL T fin f l s).2
 | 0, _, s => Lf.refl s
 | f + 1, l, s => by
  unfold bytL
  split
  ·exact (lf_wants T fin 4 [] 255 s).trans (lf_bytL f _ _)
  ·exact Lf.refl s
theorem lf_bytes (s : PS) : Lf T fin s (bytes T fin s).2 := ((lf_opn T fin s).trans (lf_bytL T fin _ [] _)).trans (lf_shut T fin _ _)
theorem lf_unaL : ∀ (f : Nat) (n : Tr) (s : PS), Lf T fin s (unaL T fin f n s).2
 | 0, _, s => Lf.refl s
 | f + 1, n, s => by
  unfold unaL
  split
  ·exact (lf_adv s).trans (lf_unaL f _ _)
  ·exact Lf.refl s
theorem lf_argL : ∀ (f : Nat) (l : List Txt) (s : PS), Lf T fin s (argL T fin f l s).2
 | 0, _, s => Lf.refl s
 | f + 1, l, s => by
  unfold argL
  split
  ·exact ((lf_adv s).trans (lf_decl T fin l _)).trans (lf_argL f _ _)
  ·exact Lf.refl s
structure LfAll (f : Nat) : Prop where
 expr : ∀ s, Lf T fin s (expr T fin f s).2
 casL : ∀ l s, Lf T fin s (casL T fin f l s).2
 msg : ∀ s, Lf T fin s (msg T fin f s).2
 operand : ∀ s, Lf T fin s (operand T fin f s).2
 keyL : ∀ n l s, Lf T fin s (keyL T fin f n l s).2.2
 binL_ : ∀ n s, Lf T fin s (binL_ T fin f n s).2
 keyw : ∀ n s, Lf T fin s (keyw T fin f n s).2
 prim : ∀ s, Lf T fin s (prim T fin f s).2
 arr : ∀ s, Lf T fin s (arr T fin f s).2
 arrL : ∀ l s, Lf T fin s (arrL T fin f l s).2
 lit : ∀ s, Lf T fin s (lit T fin f s).2
 braL : ∀ l s, Lf T fin s (braL T fin f l s).2
 blk : ∀ s, Lf T fin s (blk T fin f s).2
 stL : ∀ m l s, Lf T fin s (stL T fin f m l s).2
theorem lfAll : ∀ f, LfAll T fin f
 | 0 => by
  constructor <;> (intros; first | exact Lf.refl _ | (unfold Ps.expr; exact Lf.refl _) | (unfold Ps.casL; exact Lf.refl _) | (unfold Ps.msg; exact Lf.refl _) | (unfold Ps.operand; exact Lf.refl _) | (unfold Ps.keyL; exact Lf.refl _) | (unfold Ps.binL_; exact Lf.refl _) | (unfold Ps.keyw; exact Lf.refl _) | (unfold Ps.prim; exact Lf.refl _) | (unfold Ps.arr; exact Lf.refl _) | (unfold Ps.arrL; exact Lf.refl _) | (unfold Ps.lit; exact Lf.refl _) | (unfold Ps.braL; exact Lf.refl _) | (unfold Ps.blk; exact Lf.refl _) | (unfold Ps.stL; exact Lf.refl _))
 | f + 1 => by
  have ih := lfAll f
  have two : ∀ s, Lf T fin s (Ps.unaL T fin (T.length + 2) (Ps.prim T fin f s).1 (Ps.prim T fin f s).2).2 := fun s => (ih.prim s).trans (lf_unaL T fin _ _ _)
  have opr : ∀ s, Lf T fin s (Ps.binL_ T fin f (Ps.unaL T fin (T.length + 2) (Ps.prim T fin f s).1 (Ps.prim T fin f s).2).1 (Ps.unaL T fin (T.length + 2) (Ps.prim T fin f s).1 (Ps.prim T fin f s).2).2).2 := fun s => (two s).trans (ih.binL_ _ _)
  constructor
  ·intro s
   unfold Ps.expr
   dsimp only
   split
   ·split
    ·exact lf_rf _ _ _
    ·exact ((lf_adv s).trans (lf_adv _)).trans (ih.expr _)
   ·have h := fun n => (opr s).trans (ih.keyw n _)
    split
    ·exact h _
    ·split
     ·exact (h _).trans (lf_odd T fin _)
     ·exact (h _).trans (ih.casL _ _)
  ·intro l s
   unfold Ps.casL
   split
   ·exact ((lf_adv s).trans (ih.msg _)).trans (ih.casL _ _)
   ·exact Lf.refl s
  ·intro s
   unfold Ps.msg
   dsimp only
   repeat' split
   ·exact lf_adv s
   ·exact (lf_adv s).trans (two _)
   ·exact ih.keyL _ _ _
   ·exact lf_odd T fin s
  ·intro s
   unfold Ps.operand
   exact opr s
  ·intro n l s
   unfold Ps.keyL
   split
   ·exact ((lf_adv s).trans (ih.operand _)).trans (ih.keyL _ _ _)
   ·exact Lf.refl s
  ·intro n s
   unfold Ps.binL_
   dsimp only
   split
   ·exact ((lf_adv s).trans (two _)).trans (ih.binL_ _ _)
   ·exact Lf.refl s
  ·intro n s
   unfold Ps.keyw
   dsimp only
   split
   ·exact Lf.refl s
   ·exact ih.keyL _ _ _
  ·intro s
   unfold Ps.prim
   dsimp only
   split
   ·exact Lf.refl s
   ·split
    ·exact lf_simple T fin s
    ·repeat' split
     ·exact lf_adv s
     ·exact ih.arr s
     ·exact lf_bytes T fin s
     ·exact ((lf_opn T fin s).trans (ih.expr _)).trans (lf_shut T fin _ _)
     ·exact ((lf_opn T fin s).trans (ih.braL _ _)).trans (lf_shut T fin _ _)
     ·exact ih.blk s
     ·exact lf_odd T fin s
  ·intro s
   unfold Ps.arr
   exact ((lf_opn T fin s).trans (ih.arrL _ _)).trans (lf_shut T fin _ _)
  ·intro l s
   unfold Ps.arrL
   split
   ·exact (ih.lit _).trans (ih.arrL _ _)
   ·exact Lf.refl s
  ·intro s
   unfold Ps.lit
   dsimp only
   split
   ·exact lf_simple T fin s
   ·repeat' split
    ·exact lf_adv s
    ·exact lf_adv s
    ·exact ih.arr s
    ·exact lf_bytes T fin s
    ·exact lf_odd T fin s
  ·intro l s
   unfold Ps.braL
   dsimp only
   split
   ·split
    ·exact ih.expr s
    ·exact ((ih.expr s).trans (lf_adv _)).trans (ih.braL _ _)
   ·exact Lf.refl s
  ·intro s
   unfold Ps.blk
   dsimp only
   have h1 := (lf_opn T fin s).trans (lf_argL T fin (T.length + 2) [] _)
   generalize Ps.argL T fin (T.length + 2) [] (opn T fin s) = a at *
   have h2 : Lf T fin s (if (ok a.2 && !a.1.isEmpty) = true then if Ps.is_ T fin a.2 [124] = true then adv a.2 else if Ps.is_ T fin a.2 [93] = true then a.2 else odd T fin a.2 else a.2) := by
    repeat' split
    ·exact h1.trans (lf_adv _)
    ·exact h1
    ·exact h1.trans (lf_odd T fin _)
    ·exact h1
   generalize (if (ok a.2 && !a.1.isEmpty) = true then if Ps.is_ T fin a.2 [124] = true then adv a.2 else if Ps.is_ T fin a.2 [93] = true then a.2 else odd T fin a.2 else a.2) = s1 at *
   have h3 : Lf T fin s (if ok s1 = true then temps T fin s1 else ([], s1)).2 := by
    split
    ·exact h2.trans (lf_temps T fin s1)
    ·exact h2
   exact (h3.trans (ih.stL _ _ _)).trans (lf_shut T fin _ _)
  ·intro m l s
   unfold Ps.stL
   dsimp only
   split
   ·exact Lf.refl s
   ·split
    ·have h := (lf_adv s).trans (ih.expr _)
     generalize Ps.expr T fin f (adv s) = e at *
     have h2 : Lf T fin s (if Ps.is_ T fin e.2 [46] = true then adv e.2 else e.2) := by
      split
      ·exact h.trans (lf_adv _)
      ·exact h
     generalize (if Ps.is_ T fin e.2 [46] = true then adv e.2 else e.2) = s2 at *
     split
     ·exact h2.trans (lf_odd T fin _)
     ·exact h2
    ·have h := ih.expr s
     generalize Ps.expr T fin f s = e at *
     split
     ·exact (h.trans (lf_adv _)).trans (ih.stL _ _ _)
     ·split
      ·exact h.trans (lf_odd T fin _)
      ·exact h
end
end Ps
namespace Ps
open Lx
inductive Sm : Tr → Tr → Prop
 | mk (k : Nat) (n : Txt) (a b : List Txt) (p : Nat) (l l' : List Tr) (x y : Nat) : l.length = l'.length → (∀ (i : Nat) (t t' : Tr), l[i]? = some t → l'[i]? = some t' → Sm t t') → Sm (.mk k n a b l p x) (.mk k n a b l' p y)
def SmL (l l' : List Tr) : Prop := l.length = l'.length ∧ ∀ (i : Nat) (t t' : Tr), l[i]? = some t → l'[i]? = some t' → Sm t t'
theorem Sm.nd {k : Nat} {n : Txt} {l l' : List Tr} (h : SmL l l') (x y : Nat) : Sm (nd k n l x) (nd k n l' y) := .mk _ _ _ _ _ _ _ _ _ h.1 h.2
theorem SmL.nil : SmL [] [] := ⟨rfl, fun i t t' h => by cases h⟩
theorem Sm.zero : Sm Tr.zero Tr.zero := .mk _ _ _ _ _ _ _ _ _ rfl fun i t t' h => by cases h
theorem SmL.cons {a b : Tr} {l l' : List Tr} (h : Sm a b) (k : SmL l l') : SmL (a :: l) (b :: l') := by
 refine ⟨by simp [k.1], fun i t t' h1 h2 => ?_⟩
 cases i with
 | zero =>
  rw [List.getElem?_cons_zero] at h1 h2
  cases h1; cases h2; exact h
 | succ i =>
  rw [List.getElem?_cons_succ] at h1 h2
  exact k.2 i t t' h1 h2
theorem SmL.one {a b : Tr} (h : Sm a b) : SmL [a] [b] := .cons h .nil
theorem SmL.append {l l' m m' : List Tr} (h : SmL l l') (k : SmL m m') : SmL (l ++ m) (l' ++ m') := by
 refine ⟨by simp [h.1, k.1], fun i t t' h1 h2 => ?_⟩
 rcases Nat.lt_or_ge i l.length with hi | hi
 ·rw [List.getElem?_append_left hi] at h1
  rw [List.getElem?_append_left (by rw [← h.1]; exact hi)] at h2
  exact h.2 i t t' h1 h2
 ·rw [List.getElem?_append_right hi] at h1
  rw [List.getElem?_append_right (by rw [← h.1]; exact hi), ← h.1] at h2
  exact k.2 _ t t' h1 h2
theorem SmL.snoc {l l' : List Tr} {a b : Tr} (h : SmL l l') (k : Sm a b) : SmL (l ++ [a]) (l' ++ [b]) := h.append (.one k)
theorem SmL.uncons {a b : Tr} {l l' : List Tr} (h : SmL (a :: l) (b :: l')) : Sm a b ∧ SmL l l' :=
 ⟨h.2 0 a b rfl rfl, by have := h.1; simpa using this, fun i t t' h1 h2 => h.2 (i + 1) t t' (by rw [List.getElem?_cons_succ]; exact h1) (by rw [List.getElem?_cons_succ]; exact h2)⟩
theorem SmL.head {l l' : List Tr} (h : SmL l l') : Sm (l.headD Tr.zero) (l'.headD Tr.zero) := by
 match l, l', h with
 | [], [], _ => exact .zero
 | a :: l, b :: l', h => exact h.uncons.1
 | [], b :: l', h => cases h.1
 | a :: l, [], h => cases h.1
theorem SmL.tail {l l' : List Tr} (h : SmL l l') : SmL l.tail l'.tail := by
 match l, l', h with
 | [], [], _ => exact .nil
 | a :: l, b :: l', h => exact h.uncons.2
 | [], b :: l', h => cases h.1
 | a :: l, [], h => cases h.1
theorem SmL.empty {l l' : List Tr} (h : SmL l l') : l.isEmpty = l'.isEmpty := by
 match l, l', h with
 | [], [], _ => rfl
 | a :: l, b :: l', _ => rfl
 | [], b :: l', h => cases h.1
 | a :: l, [], h => cases h.1
theorem Sm.parts {t t' : Tr} (h : Sm t t') : t.kind = t'.kind ∧ t.name = t'.name ∧ SmL t.nodes t'.nodes := by
 cases h with
 | mk k n a b p l l' x y h1 h2 => exact ⟨rfl, rfl, h1, h2⟩
structure Two (T : List Tk) (fin : Nat) (M : List Tk) (fim K : Nat) (Gd : Nat × Nat → Prop) : Prop where
 eq : ∀ i, i ≤ K → (T.getD i (0, [], fin)).1 = (M.getD i (0, [], fim)).1 ∧ (T.getD i (0, [], fin)).2.1 = (M.getD i (0, [], fim)).2.1
 len : ∀ i, i ≤ K → (i < T.length ↔ i < M.length)
 kT : K ≤ T.length
 kM : K ≤ M.length
 rise : ∀ i j, i < j → j ≤ K → P T fin i < P T fin j ∧ P M fim i < P M fim j
 adj : ∀ i, i + 1 ≤ K → (T.getD i (0, [], fin)).1 = 3 → (T.getD i (0, [], fin)).2.1 = [45] → (T.getD (i + 1) (0, [], fin)).1 = 4 → (P T fin (i + 1) = P T fin i + 1 ↔ P M fim (i + 1) = P M fim i + 1)
 last : ¬ ((T.getD K (0, [], fin)).1 = 3 ∧ (T.getD K (0, [], fin)).2.1 = [45])
 good : ∀ f, Gd f → ∀ j, K < j → f.1 ≠ P T fin j
 err : ∀ f, Gd f → f.2 ≠ 126
section
variable {T : List Tk} {fin : Nat} {M : List Tk} {fim K : Nat} {Gd : Nat × Nat → Prop}
def Far (K : Nat) (Gd : Nat × Nat → Prop) (s : PS) : Prop := (∃ f, s.fault = some f ∧ ¬ Gd f) ∨ (s.fault = none ∧ K < s.at_)
def Fl (T : List Tk) (fin : Nat) (M : List Tk) (fim K : Nat) (s s' : PS) : Prop := ∃ i e, i ≤ K ∧ s.fault = some (P T fin i, e) ∧ s'.fault = some (P M fim i, e)
def Eq_ (K : Nat) (s s' : PS) : Prop := s = s' ∧ s.fault = none ∧ s.at_ ≤ K
def Out (T : List Tk) (fin : Nat) (M : List Tk) (fim K : Nat) (Gd : Nat × Nat → Prop) (s s' : PS) (Q : Prop) : Prop := Far K Gd s ∨ Fl T fin M fim K s s' ∨ (Eq_ K s s' ∧ Q)
theorem Far.le (H : Two T fin M fim K Gd) {s s1 : PS} (h : Far K Gd s) (k : Lf T fin s s1) : Far K Gd s1 := by
 rcases h with ⟨f, h1, h2⟩ | ⟨h1, h2⟩
 ·exact .inl ⟨f, k.fl f h1, h2⟩
 ·cases hs : s1.fault with
  | none => exact .inr ⟨hs, Nat.lt_of_lt_of_le h2 k.at_⟩
  | some f =>
   refine .inl ⟨f, hs, fun hg => ?_⟩
   rcases k.new f hs with h3 | ⟨j, h3, h4, _⟩
   ·rw [h1] at h3; cases h3
   ·exact H.good f hg j (by omega) h4
theorem Fl.le {s s' s1 s1' : PS} (h : Fl T fin M fim K s s') (k : Lf T fin s s1) (k' : Lf M fim s' s1') : Fl T fin M fim K s1 s1' := by
 obtain ⟨i, e, h1, h2, h3⟩ := h
 exact ⟨i, e, h1, k.fl _ h2, k'.fl _ h3⟩
theorem Out.bind (H : Two T fin M fim K Gd) {s s' s1 s1' : PS} {Q Q1 : Prop} (h : Out T fin M fim K Gd s s' Q) (k : Lf T fin s s1) (k' : Lf M fim s' s1') (hn : Eq_ K s s' → Q → Out T fin M fim K Gd s1 s1' Q1) : Out T fin M fim K Gd s1 s1' Q1 := by
 rcases h with h | h | ⟨h, hq⟩
 ·exact .inl (h.le H k)
 ·exact .inr (.inl (h.le k k'))
 ·exact hn h hq
theorem Out.mono {s s' : PS} {Q Q1 : Prop} (h : Out T fin M fim K Gd s s' Q) (hn : Eq_ K s s' → Q → Q1) : Out T fin M fim K Gd s s' Q1 := by
 rcases h with h | h | ⟨h, hq⟩
 ·exact .inl h
 ·exact .inr (.inl h)
 ·exact .inr (.inr ⟨h, hn h hq⟩)
theorem Eq_.nx (H : Two T fin M fim K Gd) {s s' : PS} (h : Eq_ K s s') : (nx M fim s').1 = (nx T fin s).1 ∧ (nx M fim s').2.1 = (nx T fin s).2.1 := by
 obtain ⟨rfl, h1, h2⟩ := h
 exact ⟨(H.eq _ h2).1.symm, (H.eq _ h2).2.symm⟩
theorem Eq_.isM (H : Two T fin M fim K Gd) {s s' : PS} (h : Eq_ K s s') (x : Txt) : isM (Ps.nx M fim s') x = isM (Ps.nx T fin s) x := by
 unfold Ps.isM
 rw [(h.nx H).1, (h.nx H).2]
theorem Eq_.is_ (H : Two T fin M fim K Gd) {s s' : PS} (h : Eq_ K s s') (x : Txt) : is_ M fim s' x = is_ T fin s x := h.isM H x
theorem Eq_.binS (H : Two T fin M fim K Gd) {s s' : PS} (h : Eq_ K s s') : binS (Ps.nx M fim s') = binS (Ps.nx T fin s) := by
 unfold Ps.binS
 rw [h.isM H, (h.nx H).1]
theorem Eq_.ok {s s' : PS} (h : Eq_ K s s') : ok s' = true ∧ ok s = true := by
 obtain ⟨rfl, h1, h2⟩ := h
 unfold Ps.ok
 rw [h1]; exact ⟨rfl, rfl⟩
theorem Eq_.closed (H : Two T fin M fim K Gd) {s s' : PS} (h : Eq_ K s s') (x : Txt) : closed M fim x s' = closed T fin x s := by
 have h0 := h
 obtain ⟨rfl, h1, h2⟩ := h
 unfold Ps.closed
 rw [h0.is_ H]
 have : decide (M.length ≤ s.at_) = decide (T.length ≤ s.at_) := by
  have := H.len _ h2
  by_cases h3 : T.length ≤ s.at_
  ·rw [decide_eq_true h3, decide_eq_true (by omega)]
  ·rw [decide_eq_false h3, decide_eq_false (by omega)]
 rw [this]
theorem out_adv {s s' : PS} (h : Eq_ K s s') : Out T fin M fim K Gd (adv s) (adv s') True := by
 obtain ⟨rfl, h1, h2⟩ := h
 rcases Nat.lt_or_ge s.at_ K with h3 | h3
 ·exact .inr (.inr ⟨⟨rfl, h1, h3⟩, trivial⟩)
 ·exact .inl (.inr ⟨h1, by show K < s.at_ + 1; omega⟩)
theorem fl_rf {s s' : PS} (h : Eq_ K s s') (e : Nat) : Fl T fin M fim K (rf s (nx T fin s).2.2 e) (rf s' (nx M fim s').2.2 e) := by
 obtain ⟨rfl, h1, h2⟩ := h
 refine ⟨s.at_, e, h2, ?_, ?_⟩ <;> (unfold Ps.rf; rw [h1]; rfl)
theorem out_rf {s s' : PS} {Q : Prop} (h : Eq_ K s s') (e : Nat) : Out T fin M fim K Gd (rf s (nx T fin s).2.2 e) (rf s' (nx M fim s').2.2 e) Q := .inr (.inl (fl_rf h e))
theorem out_odd {s s' : PS} {Q : Prop} (h : Eq_ K s s') : Out T fin M fim K Gd (odd T fin s) (odd M fim s') Q := out_rf h 124
theorem out_want (H : Two T fin M fim K Gd) {s s' : PS} (h : Eq_ K s s') (k : Nat) (x : Txt) : Out T fin M fim K Gd (want T fin k x s).2 (want M fim k x s').2 ((want T fin k x s).1 = nx T fin s ∧ (want M fim k x s').1 = nx M fim s') := by
 unfold Ps.want
 rw [(h.nx H).1, (h.nx H).2]
 split
 ·exact out_odd h
 ·exact (out_adv h).mono fun _ _ => ⟨rfl, rfl⟩
theorem out_opn {s s' : PS} (h : Eq_ K s s') : Out T fin M fim K Gd (opn T fin s) (opn M fim s') True := by
 have h0 := h
 obtain ⟨rfl, h1, h2⟩ := h
 unfold Ps.opn
 by_cases hd : s.deep = 100
 ·rw [if_pos hd, if_pos hd]
  obtain ⟨i, e, h3, h4, h5⟩ := fl_rf (T := T) (fin := fin) (M := M) (fim := fim) h0 125
  exact .inr (.inl ⟨i, e, h3, h4, h5⟩)
 ·rw [if_neg hd, if_neg hd]
  exact out_adv (s := { s with deep := s.deep + 1 }) ⟨rfl, h1, h2⟩
theorem out_cls (H : Two T fin M fim K Gd) {s s' : PS} (h : Eq_ K s s') (x : Txt) : Out T fin M fim K Gd (cls_ T fin x s) (cls_ M fim x s') True := by
 obtain ⟨rfl, h1, h2⟩ := h
 unfold Ps.cls_
 exact (out_want H (s := { s with deep := s.deep - 1 }) ⟨rfl, h1, h2⟩ 7 x).mono fun _ _ => trivial
theorem out_shut (H : Two T fin M fim K Gd) {s s' : PS} {Q : Prop} (h : Out T fin M fim K Gd s s' Q) (x : Txt) : Out T fin M fim K Gd (shut T fin x s) (shut M fim x s') Q :=
 h.bind H (lf_shut T fin x s) (lf_shut M fim x s') fun he hq => by
  unfold Ps.shut
  rw [he.ok.1, he.ok.2, if_pos rfl, if_pos rfl]
  exact (out_cls H he x).mono fun _ _ => hq
theorem out_decl (H : Two T fin M fim K Gd) {s s' : PS} (h : Eq_ K s s') (l : List Txt) : Out T fin M fim K Gd (decl T fin l s).2 (decl M fim l s').2 ((decl T fin l s).1 = (decl M fim l s').1 ∧ (decl T fin l s).2.at_ = s.at_ + 1) := by
 have e1 := (h.nx H).1
 have e2 := (h.nx H).2
 have ha := out_adv (T := T) (fin := fin) (M := M) (fim := fim) (Gd := Gd) h
 have h0 := h
 obtain ⟨rfl, h1, h2⟩ := h
 have hk : Ps.ok (adv s) = true := by unfold Ps.ok adv; rw [h1]; rfl
 unfold Ps.decl Ps.want
 rw [e1, e2]
 dsimp only
 by_cases hc : ((nx T fin s).1 != 1 || (!([] : Txt).isEmpty && (nx T fin s).2.1 != [])) = true
 ·rw [if_pos hc, if_pos hc]
  have o1 : Ps.ok (odd T fin s) = false := by unfold Ps.ok odd Ps.rf; rw [h1]; rfl
  have o2 : Ps.ok (odd M fim s) = false := by unfold Ps.ok odd Ps.rf; rw [h1]; rfl
  dsimp only
  rw [o1, o2]
  exact out_odd h0
 ·rw [if_neg hc, if_neg hc]
  dsimp only
  rw [hk, e2]
  split
  ·exact .inr (.inl ⟨s.at_, 126, h2, by unfold Ps.rf adv; rw [h1]; rfl, by unfold Ps.rf adv; rw [h1]; rfl⟩)
  ·exact ha.mono fun _ _ => ⟨rfl, rfl⟩
theorem out_smallS (H : Two T fin M fim K Gd) {s s' : PS} (h : Eq_ K s s') (n : Nat) : Out T fin M fim K Gd (if ok (want T fin 4 [] s).2 then smallS (want T fin 4 [] s).1 n (want T fin 4 [] s).2 else (want T fin 4 [] s).2) (if ok (want M fim 4 [] s').2 then smallS (want M fim 4 [] s').1 n (want M fim 4 [] s').2 else (want M fim 4 [] s').2) ((want T fin 4 [] s).1 = nx T fin s ∧ (want M fim 4 [] s').1 = nx M fim s' ∧ (if ok (want T fin 4 [] s).2 then smallS (want T fin 4 [] s).1 n (want T fin 4 [] s).2 else (want T fin 4 [] s).2).at_ = s.at_ + 1) := by
 have e1 := (h.nx H).1
 have e2 := (h.nx H).2
 have ha := out_adv (T := T) (fin := fin) (M := M) (fim := fim) (Gd := Gd) h
 have h0 := h
 obtain ⟨rfl, h1, h2⟩ := h
 have hk : Ps.ok (adv s) = true := by unfold Ps.ok adv; rw [h1]; rfl
 unfold Ps.want Ps.smallS
 rw [e1, e2]
 by_cases hc : ((nx T fin s).1 != 4 || (!([] : Txt).isEmpty && (nx T fin s).2.1 != [])) = true
 ·rw [if_pos hc, if_pos hc]
  have o1 : Ps.ok (odd T fin s) = false := by unfold Ps.ok odd Ps.rf; rw [h1]; rfl
  have o2 : Ps.ok (odd M fim s) = false := by unfold Ps.ok odd Ps.rf; rw [h1]; rfl
  dsimp only
  rw [o1, o2]
  exact out_odd h0
 ·rw [if_neg hc, if_neg hc]
  dsimp only
  rw [hk, e2, if_pos rfl, if_pos rfl]
  split
  ·exact .inr (.inl ⟨s.at_, 123, h2, by unfold Ps.rf adv; rw [h1]; rfl, by unfold Ps.rf adv; rw [h1]; rfl⟩)
  ·exact ha.mono fun _ _ => ⟨rfl, rfl, rfl⟩
end
end Ps
namespace Ps
open Lx
def Rt (T : List Tk) (fin : Nat) (M : List Tk) (fim K : Nat) (t t' : Tr) : Prop := Sm t t' ∧ (t.kind = 5 → ∃ i, i ≤ K ∧ t.place = P T fin i ∧ t'.place = P M fim i)
section
variable {T : List Tk} {fin : Nat} {M : List Tk} {fim K : Nat} {Gd : Nat × Nat → Prop}
theorem Rt.other {k : Nat} {n : Txt} {l l' : List Tr} (h : SmL l l') (x y : Nat) (hk : k ≠ 5) : Rt T fin M fim K (nd k n l x) (nd k n l' y) := ⟨.nd h x y, fun e => absurd e hk⟩
theorem Rt.send {n : Txt} {l l' : List Tr} (h : SmL l l') {s s' : PS} (he : Eq_ K s s') : Rt T fin M fim K (nd 5 n l (nx T fin s).2.2) (nd 5 n l' (nx M fim s').2.2) := by
 obtain ⟨rfl, _, h2⟩ := he
 exact ⟨.nd h _ _, fun _ => ⟨s.at_, h2, rfl, rfl⟩⟩
theorem Rt.zero : Rt T fin M fim K Tr.zero Tr.zero := ⟨.zero, fun e => by cases e⟩
theorem Rt.sent (H : Two T fin M fim K Gd) {a a' n n' : Tr} (h : Rt T fin M fim K a a') (k : Rt T fin M fim K n n') : sent a' n' = sent a n := by
 unfold Ps.sent
 rw [← h.1.parts.1, ← k.1.parts.1]
 by_cases h5 : n.kind = 5
 ·by_cases h6 : a.kind = 5
  ·obtain ⟨i, i1, i2, i3⟩ := h.2 h6
   obtain ⟨j, j1, j2, j3⟩ := k.2 h5
   rw [i2, i3, j2, j3]
   have : (P M fim i == P M fim j) = (P T fin i == P T fin j) := by
    rcases Nat.lt_trichotomy i j with hl | rfl | hl
    ·have := H.rise i j hl j1
     rw [beq_eq_false_iff_ne.2 (by omega), beq_eq_false_iff_ne.2 (by omega)]
    ·simp
    ·have := H.rise j i hl i1
     rw [beq_eq_false_iff_ne.2 (by omega), beq_eq_false_iff_ne.2 (by omega)]
   rw [this]
  ·have : (a.kind == n.kind) = false := beq_eq_false_iff_ne.2 (fun e => h6 (e.trans h5))
   rw [this]
   simp
 ·have : (n.kind == 5) = false := beq_eq_false_iff_ne.2 h5
  rw [this]
  rfl
theorem out_same {s s' : PS} {Q : Prop} (h : Eq_ K s s') (hq : Q) : Out T fin M fim K Gd s s' Q := .inr (.inr ⟨h, hq⟩)
theorem out_tmpL (H : Two T fin M fim K Gd) : ∀ (f g : Nat) (l : List Txt) (s s' : PS), Eq_ K s s' → T.length < s.at_ + f → M.length < s.at_ + g → Out T fin M fim K Gd (tmpL T fin f l s).2 (tmpL M fim g l s').2 ((tmpL T fin f l s).1 = (tmpL M fim g l s').1)
 | 0, _, _, s, _, h, h1, _ => by have := h.2.2; have := H.kT; omega
 | f + 1, 0, _, s, _, h, _, h2 => by have := h.2.2; have := H.kM; omega
 | f + 1, g + 1, l, s, s', h, h1, h2 => by
  unfold tmpL
  rw [h.ok.1, h.ok.2, h.is_ H]
  split
  ·refine (out_decl H h l).bind H (lf_tmpL T fin _ _ _) (lf_tmpL M fim _ _ _) fun he hq => ?_
   rw [← hq.1]
   have := hq.2
   exact out_tmpL H f g _ _ _ he (by omega) (by omega)
  ·exact out_same h rfl
theorem out_temps (H : Two T fin M fim K Gd) {s s' : PS} (h : Eq_ K s s') : Out T fin M fim K Gd (temps T fin s).2 (temps M fim s').2 ((temps T fin s).1 = (temps M fim s').1) := by
 unfold temps
 rw [h.is_ H]
 split
 ·refine (out_adv h).bind H ((lf_tmpL T fin _ _ _).trans (lf_adv _)) ((lf_tmpL M fim _ _ _).trans (lf_adv _)) fun he _ => ?_
  refine (out_tmpL H (T.length + 2) (M.length + 2) [] _ _ he (by omega) (by omega)).bind H (lf_adv _) (lf_adv _) fun he2 hq => ?_
  exact (out_adv he2).mono fun _ _ => hq
 ·exact out_same h rfl
theorem out_simple (H : Two T fin M fim K Gd) {s s' : PS} (h : Eq_ K s s') :
  (∃ t t', (simple T fin s).1 = some t ∧ (simple M fim s').1 = some t' ∧ Rt T fin M fim K t t' ∧ Out T fin M fim K Gd (simple T fin s).2 (simple M fim s').2 True) ∨ ((simple T fin s).1 = none ∧ (simple M fim s').1 = none) := by
 have e1 := (h.nx H).1
 have e2 := (h.nx H).2
 have ha := out_adv (T := T) (fin := fin) (M := M) (fim := fim) (Gd := Gd) h
 unfold simple
 dsimp only
 rw [e1, e2]
 by_cases c4 : (nx T fin s).1 = 4
 ·rw [c4]
  exact .inl ⟨_, _, rfl, rfl, Rt.other .nil _ _ (by decide), ha⟩
 by_cases c5 : (nx T fin s).1 = 5
 ·rw [c5]
  exact .inl ⟨_, _, rfl, rfl, Rt.other .nil _ _ (by decide), ha⟩
 by_cases c6 : (nx T fin s).1 = 6
 ·rw [c6]
  exact .inl ⟨_, _, rfl, rfl, Rt.other .nil _ _ (by decide), ha⟩
 have b4 : ((nx T fin s).1 == 4) = false := beq_eq_false_iff_ne.2 c4
 have b5 : ((nx T fin s).1 == 5) = false := beq_eq_false_iff_ne.2 c5
 have b6 : ((nx T fin s).1 == 6) = false := beq_eq_false_iff_ne.2 c6
 simp only [b4, b5, b6, Bool.false_eq_true, ↓reduceIte]
 by_cases c3 : (nx T fin s).1 = 3 ∧ (nx T fin s).2.1 = [45]
 ·have h0 := h
  obtain ⟨rfl, h1, h2⟩ := h
  have hK : s.at_ + 1 ≤ K := by
   rcases Nat.lt_or_ge s.at_ K with h3 | h3
   ·exact h3
   ·obtain rfl : s.at_ = K := by omega
    exact absurd c3 H.last
  have hl := H.len _ hK
  have hq := H.eq _ hK
  have hj := H.adj _ hK c3.1 c3.2
  have hd : decide (s.at_ + 1 < M.length) = decide (s.at_ + 1 < T.length) := by
   by_cases h3 : s.at_ + 1 < T.length
   ·rw [decide_eq_true h3, decide_eq_true (hl.1 h3)]
   ·rw [decide_eq_false h3, decide_eq_false (fun e => h3 (hl.2 e))]
  have hm : ((nx T fin s).1 == 3 && (nx T fin s).2.1 == [45]) = true := by rw [c3.1, c3.2]; rfl
  rw [hd, ← hq.1, ← hq.2, hm]
  by_cases h3 : s.at_ + 1 < T.length
  ·rw [decide_eq_true h3]
   by_cases c4' : (T.getD (s.at_ + 1) (0, [], fin)).1 = 4
   rotate_left
   ·have : ((T.getD (s.at_ + 1) (0, [], fin)).1 == 4) = false := beq_eq_false_iff_ne.2 c4'
    rw [this]
    exact .inr ⟨rfl, rfl⟩
   have hb : ((M.getD (s.at_ + 1) (0, [], fim)).2.2 == (nx M fim s).2.2 + 1) = ((T.getD (s.at_ + 1) (0, [], fin)).2.2 == (nx T fin s).2.2 + 1) := by
    by_cases h4 : P T fin (s.at_ + 1) = P T fin s.at_ + 1
    ·have h5 := (hj c4').1 h4
     rw [show ((M.getD (s.at_ + 1) (0, [], fim)).2.2 == (nx M fim s).2.2 + 1) = true from beq_iff_eq.2 h5, show ((T.getD (s.at_ + 1) (0, [], fin)).2.2 == (nx T fin s).2.2 + 1) = true from beq_iff_eq.2 h4]
    ·have h5 := fun e => h4 ((hj c4').2 e)
     rw [show ((M.getD (s.at_ + 1) (0, [], fim)).2.2 == (nx M fim s).2.2 + 1) = false from beq_eq_false_iff_ne.2 h5, show ((T.getD (s.at_ + 1) (0, [], fin)).2.2 == (nx T fin s).2.2 + 1) = false from beq_eq_false_iff_ne.2 h4]
   rw [hb]
   by_cases h6 : ((T.getD (s.at_ + 1) (0, [], fin)).1 == 4 && (T.getD (s.at_ + 1) (0, [], fin)).2.2 == (nx T fin s).2.2 + 1) = true
   ·rw [h6]
    refine .inl ⟨_, _, rfl, rfl, Rt.other .nil _ _ (by decide), ?_⟩
    exact ha.bind H (lf_adv _) (lf_adv _) fun he _ => out_adv he
   ·rw [Bool.not_eq_true] at h6
    rw [h6]
    exact .inr ⟨rfl, rfl⟩
  ·rw [decide_eq_false h3]
   exact .inr ⟨rfl, rfl⟩
 ·have hd : ∀ b : Bool, ((nx T fin s).1 == 3 && (nx T fin s).2.1 == [45] && b) = false := fun b => by
   rw [Bool.eq_false_iff]
   intro e
   simp only [Bool.and_eq_true, beq_iff_eq] at e
   exact c3 e.1
  simp only [hd, Bool.false_eq_true, ↓reduceIte]
  exact .inr ⟨trivial, trivial⟩
theorem out_bytL (H : Two T fin M fim K Gd) : ∀ (f g : Nat) (l l' : List Tr) (s s' : PS), SmL l l' → Eq_ K s s' → T.length < s.at_ + f → M.length < s.at_ + g → Out T fin M fim K Gd (bytL T fin f l s).2 (bytL M fim g l' s').2 (SmL (bytL T fin f l s).1 (bytL M fim g l' s').1)
 | 0, _, _, _, s, _, _, h, h1, _ => by have := h.2.2; have := H.kT; omega
 | f + 1, 0, _, _, s, _, _, h, _, h2 => by have := h.2.2; have := H.kM; omega
 | f + 1, g + 1, l, l', s, s', hl, h, h1, h2 => by
  unfold bytL
  rw [h.ok.1, h.ok.2, h.is_ H]
  split
  ·refine (out_smallS H h 255).bind H (lf_bytL T fin _ _ _) (lf_bytL M fim _ _ _) fun he hq => ?_
   have hx := hq.2.2
   refine out_bytL H f g _ _ _ _ ?_ he (by omega) (by omega)
   rw [hq.1, hq.2.1]
   refine hl.snoc ?_
   rw [(h.nx H).2]
   exact Sm.nd .nil _ _
  ·exact out_same h hl
theorem out_bytes (H : Two T fin M fim K Gd) {s s' : PS} (h : Eq_ K s s') : Out T fin M fim K Gd (bytes T fin s).2 (bytes M fim s').2 (Rt T fin M fim K (bytes T fin s).1 (bytes M fim s').1) := by
 unfold bytes
 refine (out_opn h).bind H ((lf_bytL T fin _ _ _).trans (lf_shut T fin _ _)) ((lf_bytL M fim _ _ _).trans (lf_shut M fim _ _)) fun he _ => ?_
 refine out_shut H ((out_bytL H (T.length + 2) (M.length + 2) [] [] _ _ .nil he (by omega) (by omega)).mono fun _ hq => ?_) [93]
 exact Rt.other hq _ _ (by decide)
theorem out_unaL (H : Two T fin M fim K Gd) : ∀ (f g : Nat) (n n' : Tr) (s s' : PS), Rt T fin M fim K n n' → Eq_ K s s' → T.length < s.at_ + f → M.length < s.at_ + g → Out T fin M fim K Gd (unaL T fin f n s).2 (unaL M fim g n' s').2 (Rt T fin M fim K (unaL T fin f n s).1 (unaL M fim g n' s').1)
 | 0, _, _, _, s, _, _, h, h1, _ => by have := h.2.2; have := H.kT; omega
 | f + 1, 0, _, _, s, _, _, h, _, h2 => by have := h.2.2; have := H.kM; omega
 | f + 1, g + 1, n, n', s, s', hn, h, h1, h2 => by
  unfold unaL
  rw [h.ok.1, h.ok.2, (h.nx H).1, (h.nx H).2]
  split
  ·refine (out_adv h).bind H (lf_unaL T fin _ _ _) (lf_unaL M fim _ _ _) fun he hq => ?_
   exact out_unaL H f g _ _ _ _ (Rt.send (.one hn.1) h) he (by show T.length < s.at_ + 1 + f; omega) (by show M.length < s.at_ + 1 + g; omega)
  ·exact out_same h hn
theorem out_argL (H : Two T fin M fim K Gd) : ∀ (f g : Nat) (l : List Txt) (s s' : PS), Eq_ K s s' → T.length < s.at_ + f → M.length < s.at_ + g → Out T fin M fim K Gd (argL T fin f l s).2 (argL M fim g l s').2 ((argL T fin f l s).1 = (argL M fim g l s').1)
 | 0, _, _, s, _, h, h1, _ => by have := h.2.2; have := H.kT; omega
 | f + 1, 0, _, s, _, h, _, h2 => by have := h.2.2; have := H.kM; omega
 | f + 1, g + 1, l, s, s', h, h1, h2 => by
  unfold argL
  rw [h.ok.1, h.ok.2, h.is_ H]
  split
  ·refine (out_adv h).bind H ((lf_decl T fin _ _).trans (lf_argL T fin _ _ _)) ((lf_decl M fim _ _).trans (lf_argL M fim _ _ _)) fun he _ => ?_
   refine (out_decl H he l).bind H (lf_argL T fin _ _ _) (lf_argL M fim _ _ _) fun he2 hq => ?_
   rw [← hq.1]
   have h3 := hq.2
   have h4 : (adv s).at_ = s.at_ + 1 := rfl
   exact out_argL H f g _ _ _ he2 (by omega) (by omega)
  ·exact out_same h rfl
end
end Ps
namespace Ps
open Lx
def eTail (T : List Tk) (fin f : Nat) (a : Tr) (k : Tr × PS) : Tr × PS :=
 if !ok k.2 || !is_ T fin k.2 [59] then k
 else if !sent a k.1 then (Tr.zero, odd T fin k.2)
 else
  let c := casL T fin f [k.1.nodes.headD Tr.zero, nd 7 k.1.name k.1.nodes.tail k.1.place] k.2
  (nd 6 [] c.1 k.1.place, c.2)
def two (T : List Tk) (fin f : Nat) (s : PS) : Tr × PS := unaL T fin (T.length + 2) (prim T fin f s).1 (prim T fin f s).2
def opr (T : List Tk) (fin f : Nat) (s : PS) : Tr × PS := binL_ T fin f (two T fin f s).1 (two T fin f s).2
def assB (T : List Tk) (fin : Nat) (s : PS) : Bool := (nx T fin s).1 == 1 && decide (s.at_ + 1 < T.length) && isM (T.getD (s.at_ + 1) (0, [], fin)) [58, 61]
section
variable {T : List Tk} {fin : Nat} {M : List Tk} {fim K : Nat} {Gd : Nat × Nat → Prop}
theorem expr_eq (f : Nat) (s : PS) : expr T fin (f + 1) s = if assB T fin s then (if resv (nx T fin s).2.1 then (Tr.zero, rf s (nx T fin s).2.2 126) else (nd 4 (nx T fin s).2.1 [(expr T fin f (adv (adv s))).1] (nx T fin s).2.2, (expr T fin f (adv (adv s))).2))
  else eTail T fin f (prim T fin f s).1 (keyw T fin f (opr T fin f s).1 (opr T fin f s).2) := by
 rw [expr]; rfl
theorem lf_eTail (f : Nat) (a : Tr) (k : Tr × PS) : Lf T fin k.2 (eTail T fin f a k).2 := by
 unfold eTail
 dsimp only
 split
 ·exact Lf.refl _
 ·split
  ·exact lf_odd T fin _
  ·exact (lfAll T fin f).casL _ _
theorem lf_two (f : Nat) (s : PS) : Lf T fin s (two T fin f s).2 := ((lfAll T fin f).prim s).trans (lf_unaL T fin _ _ _)
theorem ok_none {s : PS} (h : s.fault = none) : ok s = true := by unfold ok; rw [h]; rfl
theorem far_two (H : Two T fin M fim K Gd) {s : PS} (h1 : s.fault = none) (h2 : s.at_ = K) (h3 : (nx T fin s).1 = 1) (f : Nat) : Far K Gd (two T fin f s).2 := by
 have hf : Far K Gd (adv s) := .inr ⟨h1, by show K < s.at_ + 1; omega⟩
 unfold two
 cases f with
 | zero =>
  have : prim T fin 0 s = (Tr.zero, s) := by rw [prim]
  rw [this]
  dsimp only
  unfold unaL
  rw [ok_none h1, h3]
  exact hf.le H (lf_unaL T fin _ _ _)
 | succ f =>
  have hs : (simple T fin s).1 = none := by
   unfold simple
   dsimp only
   rw [h3]; rfl
  have : prim T fin (f + 1) s = (nd 8 (nx T fin s).2.1 [] (nx T fin s).2.2, adv s) := by
   rw [prim]
   dsimp only
   rw [ok_none h1, hs, h3]
   rfl
  rw [this]
  exact hf.le H (lf_unaL T fin _ _ _)
structure SimAll2 (T : List Tk) (fin : Nat) (M : List Tk) (fim K : Nat) (Gd : Nat × Nat → Prop) (f : Nat) : Prop where
 expr : ∀ s s', Eq_ K s s' → Out T fin M fim K Gd (expr T fin f s).2 (expr M fim f s').2 (Rt T fin M fim K (expr T fin f s).1 (expr M fim f s').1)
 casL : ∀ l l' s s', SmL l l' → Eq_ K s s' → Out T fin M fim K Gd (casL T fin f l s).2 (casL M fim f l' s').2 (SmL (casL T fin f l s).1 (casL M fim f l' s').1)
 msg : ∀ s s', Eq_ K s s' → Out T fin M fim K Gd (msg T fin f s).2 (msg M fim f s').2 (Sm (msg T fin f s).1 (msg M fim f s').1)
 operand : ∀ s s', Eq_ K s s' → Out T fin M fim K Gd (operand T fin f s).2 (operand M fim f s').2 (Rt T fin M fim K (operand T fin f s).1 (operand M fim f s').1)
 keyL : ∀ n l l' s s', SmL l l' → Eq_ K s s' → Out T fin M fim K Gd (keyL T fin f n l s).2.2 (keyL M fim f n l' s').2.2 ((keyL T fin f n l s).1 = (keyL M fim f n l' s').1 ∧ SmL (keyL T fin f n l s).2.1 (keyL M fim f n l' s').2.1)
 binL_ : ∀ n n' s s', Rt T fin M fim K n n' → Eq_ K s s' → Out T fin M fim K Gd (binL_ T fin f n s).2 (binL_ M fim f n' s').2 (Rt T fin M fim K (binL_ T fin f n s).1 (binL_ M fim f n' s').1)
 keyw : ∀ n n' s s', Rt T fin M fim K n n' → Eq_ K s s' → Out T fin M fim K Gd (keyw T fin f n s).2 (keyw M fim f n' s').2 (Rt T fin M fim K (keyw T fin f n s).1 (keyw M fim f n' s').1)
 prim : ∀ s s', Eq_ K s s' → Out T fin M fim K Gd (prim T fin f s).2 (prim M fim f s').2 (Rt T fin M fim K (prim T fin f s).1 (prim M fim f s').1)
 arr : ∀ s s', Eq_ K s s' → Out T fin M fim K Gd (arr T fin f s).2 (arr M fim f s').2 (Rt T fin M fim K (arr T fin f s).1 (arr M fim f s').1)
 arrL : ∀ l l' s s', SmL l l' → Eq_ K s s' → Out T fin M fim K Gd (arrL T fin f l s).2 (arrL M fim f l' s').2 (SmL (arrL T fin f l s).1 (arrL M fim f l' s').1)
 lit : ∀ s s', Eq_ K s s' → Out T fin M fim K Gd (lit T fin f s).2 (lit M fim f s').2 (Rt T fin M fim K (lit T fin f s).1 (lit M fim f s').1)
 braL : ∀ l l' s s', SmL l l' → Eq_ K s s' → Out T fin M fim K Gd (braL T fin f l s).2 (braL M fim f l' s').2 (SmL (braL T fin f l s).1 (braL M fim f l' s').1)
 blk : ∀ s s', Eq_ K s s' → Out T fin M fim K Gd (blk T fin f s).2 (blk M fim f s').2 (Rt T fin M fim K (blk T fin f s).1 (blk M fim f s').1)
 stL : ∀ m l l' s s', SmL l l' → Eq_ K s s' → Out T fin M fim K Gd (stL T fin f m l s).2 (stL M fim f m l' s').2 (SmL (stL T fin f m l s).1 (stL M fim f m l' s').1)
theorem out_two (H : Two T fin M fim K Gd) {f : Nat} (ih : SimAll2 T fin M fim K Gd f) {s s' : PS} (h : Eq_ K s s') : Out T fin M fim K Gd (two T fin f s).2 (two M fim f s').2 (Rt T fin M fim K (two T fin f s).1 (two M fim f s').1) :=
 (ih.prim s s' h).bind H (lf_unaL T fin _ _ _) (lf_unaL M fim _ _ _) fun he hq => out_unaL H _ _ _ _ _ _ hq he (by omega) (by omega)
theorem out_opr (H : Two T fin M fim K Gd) {f : Nat} (ih : SimAll2 T fin M fim K Gd f) {s s' : PS} (h : Eq_ K s s') : Out T fin M fim K Gd (opr T fin f s).2 (opr M fim f s').2 (Rt T fin M fim K (opr T fin f s).1 (opr M fim f s').1) :=
 (out_two H ih h).bind H ((lfAll T fin f).binL_ _ _) ((lfAll M fim f).binL_ _ _) fun he hq => ih.binL_ _ _ _ _ hq he
theorem out_eTail (H : Two T fin M fim K Gd) {f : Nat} (ih : SimAll2 T fin M fim K Gd f) {a a' : Tr} {k k' : Tr × PS} (ha : Rt T fin M fim K a a') (hk : Rt T fin M fim K k.1 k'.1) (h : Eq_ K k.2 k'.2) : Out T fin M fim K Gd (eTail T fin f a k).2 (eTail M fim f a' k').2 (Rt T fin M fim K (eTail T fin f a k).1 (eTail M fim f a' k').1) := by
 unfold eTail
 dsimp only
 rw [h.ok.1, h.ok.2, h.is_ H, ha.sent H hk]
 split
 ·exact out_same h hk
 ·split
  ·exact out_odd h
  ·have hp := hk.1.parts
   refine (ih.casL _ _ _ _ (.cons hp.2.2.head (.one ?_)) h).mono fun _ hq => Rt.other hq _ _ (by decide)
   rw [← hp.2.1]
   exact Sm.nd hp.2.2.tail _ _
theorem out_assB (H : Two T fin M fim K Gd) {s s' : PS} (h : Eq_ K s s') (hc : s.at_ < K ∨ (nx T fin s).1 ≠ 1) : assB M fim s' = assB T fin s := by
 have e1 := (h.nx H).1
 obtain ⟨rfl, h1, h2⟩ := h
 unfold assB
 rw [e1]
 rcases hc with hc | hc
 ·have hl := H.len (s.at_ + 1) hc
  have hq := H.eq (s.at_ + 1) hc
  have hd : decide (s.at_ + 1 < M.length) = decide (s.at_ + 1 < T.length) := by
   by_cases h3 : s.at_ + 1 < T.length
   ·rw [decide_eq_true h3, decide_eq_true (hl.1 h3)]
   ·rw [decide_eq_false h3, decide_eq_false (fun e => h3 (hl.2 e))]
  unfold isM
  rw [hd, ← hq.1, ← hq.2]
 ·have : ((nx T fin s).1 == 1) = false := beq_eq_false_iff_ne.2 hc
  rw [this]; rfl
theorem out_expr (H : Two T fin M fim K Gd) {f : Nat} (ih : SimAll2 T fin M fim K Gd f) {s s' : PS} (h : Eq_ K s s') : Out T fin M fim K Gd (expr T fin (f + 1) s).2 (expr M fim (f + 1) s').2 (Rt T fin M fim K (expr T fin (f + 1) s).1 (expr M fim (f + 1) s').1) := by
 rw [expr_eq, expr_eq]
 by_cases hc : s.at_ < K ∨ (nx T fin s).1 ≠ 1
 ·rw [out_assB H h hc, (h.nx H).2]
  split
  ·split
   ·exact out_rf h 126
   ·refine (out_adv h).bind H ((lf_adv _).trans ((lfAll T fin f).expr _)) ((lf_adv _).trans ((lfAll M fim f).expr _)) fun he _ => ?_
    refine (out_adv he).bind H ((lfAll T fin f).expr _) ((lfAll M fim f).expr _) fun he2 _ => ?_
    exact (ih.expr _ _ he2).mono fun _ hq => Rt.other (.one hq.1) _ _ (by decide)
  ·refine (ih.prim s s' h).bind H ?_ ?_ fun he hq => ?_
   ·exact ((lf_unaL T fin (T.length + 2) _ _).trans ((lfAll T fin f).binL_ _ _)).trans (((lfAll T fin f).keyw _ _).trans (lf_eTail _ _ _))
   ·exact ((lf_unaL M fim (M.length + 2) _ _).trans ((lfAll M fim f).binL_ _ _)).trans (((lfAll M fim f).keyw _ _).trans (lf_eTail _ _ _))
   ·refine (out_opr H ih h).bind H (((lfAll T fin f).keyw _ _).trans (lf_eTail _ _ _)) (((lfAll M fim f).keyw _ _).trans (lf_eTail _ _ _)) fun he2 hq2 => ?_
    refine (ih.keyw _ _ _ _ hq2 he2).bind H (lf_eTail _ _ _) (lf_eTail _ _ _) fun he3 hq3 => ?_
    exact out_eTail H ih hq hq3 he3
 ·have hn : (nx T fin s).1 = 1 := by
   rcases Decidable.em ((nx T fin s).1 = 1) with h1 | h1
   ·exact h1
   ·exact absurd (.inr h1) hc
  have hk : s.at_ = K := by have := h.2.2; have := fun e => hc (.inl e); omega
  refine .inl ?_
  split
  ·split
   ·refine .inl ⟨((nx T fin s).2.2, 126), ?_, fun e => H.err _ e rfl⟩
    unfold rf
    rw [h.2.1]
   ·exact Far.le H (.inr ⟨h.2.1, by show K < s.at_ + 1 + 1; omega⟩ : Far K Gd (adv (adv s))) ((lfAll T fin f).expr _)
  ·exact (far_two H h.2.1 hk hn f).le H (((lfAll T fin f).binL_ _ _).trans (((lfAll T fin f).keyw _ _).trans (lf_eTail _ _ _)))
end
end Ps
namespace Ps
open Lx
section
variable {T : List Tk} {fin : Nat} {M : List Tk} {fim K : Nat} {Gd : Nat × Nat → Prop}
theorem simAll2 (H : Two T fin M fim K Gd) : ∀ f, SimAll2 T fin M fim K Gd f
 | 0 => by
  constructor
  ·intro s s' h; rw [Ps.expr, Ps.expr]; exact out_same h Rt.zero
  ·intro l l' s s' hl h; rw [Ps.casL, Ps.casL]; exact out_same h hl
  ·intro s s' h; rw [Ps.msg, Ps.msg]; exact out_same h Sm.zero
  ·intro s s' h; rw [Ps.operand, Ps.operand]; exact out_same h Rt.zero
  ·intro n l l' s s' hl h; rw [Ps.keyL, Ps.keyL]; exact out_same h ⟨rfl, hl⟩
  ·intro n n' s s' hn h; rw [Ps.binL_, Ps.binL_]; exact out_same h hn
  ·intro n n' s s' hn h; rw [Ps.keyw, Ps.keyw]; exact out_same h hn
  ·intro s s' h; rw [Ps.prim, Ps.prim]; exact out_same h Rt.zero
  ·intro s s' h; rw [Ps.arr, Ps.arr]; exact out_same h Rt.zero
  ·intro l l' s s' hl h; rw [Ps.arrL, Ps.arrL]; exact out_same h hl
  ·intro s s' h; rw [Ps.lit, Ps.lit]; exact out_same h Rt.zero
  ·intro l l' s s' hl h; rw [Ps.braL, Ps.braL]; exact out_same h hl
  ·intro s s' h; rw [Ps.blk, Ps.blk]; exact out_same h Rt.zero
  ·intro m l l' s s' hl h; rw [Ps.stL, Ps.stL]; exact out_same h hl
 | f + 1 => by
  have ih := simAll2 H f
  have lT := lfAll T fin f
  have lM := lfAll M fim f
  have uT : ∀ s, Lf T fin s (two T fin f s).2 := lf_two f
  have uM : ∀ s, Lf M fim s (two M fim f s).2 := lf_two f
  constructor
  ·intro s s' h; exact out_expr H ih h
  ·intro l l' s s' hl h
   rw [Ps.casL, Ps.casL, h.ok.1, h.ok.2, h.is_ H]
   split
   ·refine (out_adv h).bind H ((lT.msg _).trans (lT.casL _ _)) ((lM.msg _).trans (lM.casL _ _)) fun he _ => ?_
    refine (ih.msg _ _ he).bind H (lT.casL _ _) (lM.casL _ _) fun he2 hq => ?_
    exact ih.casL _ _ _ _ (hl.snoc hq) he2
   ·exact out_same h hl
  ·intro s s' h
   rw [Ps.msg, Ps.msg]
   dsimp only
   rw [(h.nx H).1, (h.nx H).2, h.binS H]
   split
   ·exact (out_adv h).mono fun _ _ => Sm.nd .nil _ _
   split
   ·refine (out_adv h).bind H (uT _) (uM _) fun he _ => ?_
    exact (out_two H ih he).mono fun _ hq => Sm.nd (.one hq.1) _ _
   split
   ·refine (ih.keyL [] _ _ _ _ .nil h).mono fun _ hq => ?_
    rw [hq.1]
    exact Sm.nd hq.2 _ _
   ·exact out_odd h
  ·intro s s' h
   rw [Ps.operand, Ps.operand]
   exact out_opr H ih h
  ·intro n l l' s s' hl h
   rw [Ps.keyL, Ps.keyL, h.ok.1, h.ok.2, (h.nx H).1, (h.nx H).2]
   split
   ·refine (out_adv h).bind H ((lT.operand _).trans (lT.keyL _ _ _)) ((lM.operand _).trans (lM.keyL _ _ _)) fun he _ => ?_
    refine (ih.operand _ _ he).bind H (lT.keyL _ _ _) (lM.keyL _ _ _) fun he2 hq => ?_
    exact ih.keyL _ _ _ _ _ (hl.snoc hq.1) he2
   ·exact out_same h ⟨rfl, hl⟩
  ·intro n n' s s' hn h
   rw [Ps.binL_, Ps.binL_, h.ok.1, h.ok.2, h.binS H]
   dsimp only
   split
   ·refine (out_adv h).bind H ((uT _).trans (lT.binL_ _ _)) ((uM _).trans (lM.binL_ _ _)) fun he _ => ?_
    refine (out_two H ih he).bind H (lT.binL_ _ _) (lM.binL_ _ _) fun he2 hq => ?_
    refine ih.binL_ _ _ _ _ ?_ he2
    rw [(h.nx H).2]
    exact Rt.send (.cons hn.1 (.one hq.1)) h
   ·exact out_same h hn
  ·intro n n' s s' hn h
   rw [Ps.keyw, Ps.keyw, h.ok.1, h.ok.2, (h.nx H).1]
   dsimp only
   split
   ·exact out_same h hn
   ·refine (ih.keyL [] _ _ _ _ (.one hn.1) h).mono fun _ hq => ?_
    rw [hq.1]
    exact Rt.send hq.2 h
  ·intro s s' h
   rw [Ps.prim, Ps.prim]
   dsimp only
   rw [h.ok.1, h.ok.2]
   simp only [Bool.not_true, Bool.false_eq_true, ↓reduceIte]
   rcases out_simple H h with ⟨t, t', h1, h2, h3, h4⟩ | ⟨h1, h2⟩
   ·rw [h1, h2]
    exact h4.mono fun _ _ => h3
   ·rw [h1, h2]
    dsimp only
    rw [(h.nx H).1, h.isM H, h.isM H, h.isM H, h.isM H, h.isM H]
    split
    ·refine (out_adv h).mono fun _ _ => ?_
     rw [(h.nx H).2]
     exact Rt.other .nil _ _ (by decide)
    split
    ·exact ih.arr _ _ h
    split
    ·exact out_bytes H h
    split
    ·refine (out_opn h).bind H ((lT.expr _).trans (lf_shut T fin _ _)) ((lM.expr _).trans (lf_shut M fim _ _)) fun he _ => ?_
     exact out_shut H (ih.expr _ _ he) [41]
    split
    ·refine (out_opn h).bind H ((lT.braL _ _).trans (lf_shut T fin _ _)) ((lM.braL _ _).trans (lf_shut M fim _ _)) fun he _ => ?_
     exact out_shut H ((ih.braL [] [] _ _ .nil he).mono fun _ hq => Rt.other hq _ _ (by decide)) [125]
    split
    ·exact ih.blk _ _ h
    ·exact out_odd h
  ·intro s s' h
   rw [Ps.arr, Ps.arr]
   refine (out_opn h).bind H ((lT.arrL _ _).trans (lf_shut T fin _ _)) ((lM.arrL _ _).trans (lf_shut M fim _ _)) fun he _ => ?_
   exact out_shut H ((ih.arrL [] [] _ _ .nil he).mono fun _ hq => Rt.other hq _ _ (by decide)) [41]
  ·intro l l' s s' hl h
   rw [Ps.arrL, Ps.arrL, h.ok.1, h.ok.2, h.is_ H]
   split
   ·refine (ih.lit _ _ h).bind H (lT.arrL _ _) (lM.arrL _ _) fun he hq => ?_
    exact ih.arrL _ _ _ _ (hl.snoc hq.1) he
   ·exact out_same h hl
  ·intro s s' h
   rw [Ps.lit, Ps.lit]
   rcases out_simple H h with ⟨t, t', h1, h2, h3, h4⟩ | ⟨h1, h2⟩
   ·rw [h1, h2]
    exact h4.mono fun _ _ => h3
   ·rw [h1, h2]
    dsimp only
    rw [(h.nx H).1, (h.nx H).2, h.binS H, h.isM H, h.isM H, h.isM H]
    split
    ·exact (out_adv h).mono fun _ _ => Rt.other .nil _ _ (by decide)
    split
    ·exact (out_adv h).mono fun _ _ => Rt.other .nil _ _ (by decide)
    split
    ·exact ih.arr _ _ h
    split
    ·exact out_bytes H h
    ·exact out_odd h
  ·intro l l' s s' hl h
   rw [Ps.braL, Ps.braL, h.ok.1, h.ok.2, h.is_ H]
   dsimp only
   split
   ·refine (ih.expr _ _ h).bind H ?_ ?_ fun he hq => ?_
    ·split
     ·exact Lf.refl _
     ·exact (lf_adv _).trans (lT.braL _ _)
    ·split
     ·exact Lf.refl _
     ·exact (lf_adv _).trans (lM.braL _ _)
    ·rw [he.ok.1, he.ok.2, he.is_ H]
     split
     ·exact out_same he (hl.snoc hq.1)
     ·refine (out_adv he).bind H (lT.braL _ _) (lM.braL _ _) fun he2 _ => ?_
      exact ih.braL _ _ _ _ (hl.snoc hq.1) he2
   ·exact out_same h hl
  ·intro s s' h
   rw [Ps.blk, Ps.blk]
   dsimp only
   have g1 : ∀ (a : List Txt × PS), Lf T fin a.2 (if (ok a.2 && !a.1.isEmpty) = true then if Ps.is_ T fin a.2 [124] = true then adv a.2 else if Ps.is_ T fin a.2 [93] = true then a.2 else odd T fin a.2 else a.2) := fun a => by
    repeat' split
    ·exact lf_adv _
    ·exact Lf.refl _
    ·exact lf_odd T fin _
    ·exact Lf.refl _
   have g1' : ∀ (a : List Txt × PS), Lf M fim a.2 (if (ok a.2 && !a.1.isEmpty) = true then if Ps.is_ M fim a.2 [124] = true then adv a.2 else if Ps.is_ M fim a.2 [93] = true then a.2 else odd M fim a.2 else a.2) := fun a => by
    repeat' split
    ·exact lf_adv _
    ·exact Lf.refl _
    ·exact lf_odd M fim _
    ·exact Lf.refl _
   have g2 : ∀ s1, Lf T fin s1 (if ok s1 = true then temps T fin s1 else ([], s1)).2 := fun s1 => by
    split
    ·exact lf_temps T fin s1
    ·exact Lf.refl _
   have g2' : ∀ s1, Lf M fim s1 (if ok s1 = true then temps M fim s1 else ([], s1)).2 := fun s1 => by
    split
    ·exact lf_temps M fim s1
    ·exact Lf.refl _
   refine (out_opn h).bind H ((lf_argL T fin _ _ _).trans (((g1 _).trans (g2 _)).trans ((lT.stL _ _ _).trans (lf_shut T fin _ _)))) ((lf_argL M fim _ _ _).trans (((g1' _).trans (g2' _)).trans ((lM.stL _ _ _).trans (lf_shut M fim _ _)))) fun he _ => ?_
   have hA := out_argL H (T.length + 2) (M.length + 2) [] _ _ he (by omega) (by omega)
   generalize argL T fin (T.length + 2) [] (opn T fin s) = a at *
   generalize argL M fim (M.length + 2) [] (opn M fim s') = a' at *
   refine hA.bind H (((g1 a).trans (g2 _)).trans ((lT.stL _ _ _).trans (lf_shut T fin _ _))) (((g1' a').trans (g2' _)).trans ((lM.stL _ _ _).trans (lf_shut M fim _ _))) fun he2 hq => ?_
   have hB : Out T fin M fim K Gd (if (ok a.2 && !a.1.isEmpty) = true then if Ps.is_ T fin a.2 [124] = true then adv a.2 else if Ps.is_ T fin a.2 [93] = true then a.2 else odd T fin a.2 else a.2) (if (ok a'.2 && !a'.1.isEmpty) = true then if Ps.is_ M fim a'.2 [124] = true then adv a'.2 else if Ps.is_ M fim a'.2 [93] = true then a'.2 else odd M fim a'.2 else a'.2) True := by
    rw [he2.ok.1, he2.ok.2, ← hq, he2.is_ H, he2.is_ H]
    split
    ·split
     ·exact out_adv he2
     split
     ·exact out_same he2 trivial
     ·exact out_odd he2
    ·exact out_same he2 trivial
   generalize (if (ok a.2 && !a.1.isEmpty) = true then if Ps.is_ T fin a.2 [124] = true then adv a.2 else if Ps.is_ T fin a.2 [93] = true then a.2 else odd T fin a.2 else a.2) = s1 at *
   generalize (if (ok a'.2 && !a'.1.isEmpty) = true then if Ps.is_ M fim a'.2 [124] = true then adv a'.2 else if Ps.is_ M fim a'.2 [93] = true then a'.2 else odd M fim a'.2 else a'.2) = s1' at *
   refine hB.bind H ((g2 _).trans ((lT.stL _ _ _).trans (lf_shut T fin _ _))) ((g2' _).trans ((lM.stL _ _ _).trans (lf_shut M fim _ _))) fun he3 _ => ?_
   rw [he3.ok.1, he3.ok.2, if_pos rfl, if_pos rfl]
   refine (out_temps H he3).bind H ((lT.stL _ _ _).trans (lf_shut T fin _ _)) ((lM.stL _ _ _).trans (lf_shut M fim _ _)) fun he4 hq4 => ?_
   refine out_shut H ((ih.stL [93] [] [] _ _ .nil he4).mono fun _ hq5 => ?_) [93]
   rw [hq, hq4]
   exact ⟨.mk _ _ _ _ _ _ _ _ _ hq5.1 hq5.2, fun e => by cases e⟩
  ·intro m l l' s s' hl h
   rw [Ps.stL, Ps.stL]
   dsimp only
   rw [h.ok.1, h.ok.2, h.closed H, h.is_ H]
   have g1 : ∀ (s1 : PS), Lf T fin s1 (if (ok s1 && !closed T fin m s1) = true then odd T fin s1 else s1) := fun s1 => by
    split
    ·exact lf_odd T fin _
    ·exact Lf.refl _
   have g1' : ∀ (s1 : PS), Lf M fim s1 (if (ok s1 && !closed M fim m s1) = true then odd M fim s1 else s1) := fun s1 => by
    split
    ·exact lf_odd M fim _
    ·exact Lf.refl _
   have g0 : ∀ {s1 s1' : PS}, Eq_ K s1 s1' → Out T fin M fim K Gd (if (ok s1 && !closed T fin m s1) = true then odd T fin s1 else s1) (if (ok s1' && !closed M fim m s1') = true then odd M fim s1' else s1') True := fun {s1 s1'} he => by
    rw [he.ok.1, he.ok.2, he.closed H]
    split
    ·exact out_odd he
    ·exact out_same he trivial
   split
   ·exact out_same h hl
   split
   ·have g2 : ∀ (s1 : PS), Lf T fin s1 (if is_ T fin s1 [46] = true then adv s1 else s1) := fun s1 => by
     split
     ·exact lf_adv _
     ·exact Lf.refl _
    have g2' : ∀ (s1 : PS), Lf M fim s1 (if is_ M fim s1 [46] = true then adv s1 else s1) := fun s1 => by
     split
     ·exact lf_adv _
     ·exact Lf.refl _
    refine (out_adv h).bind H ((lT.expr _).trans ((g2 _).trans (g1 _))) ((lM.expr _).trans ((g2' _).trans (g1' _))) fun he _ => ?_
    refine (ih.expr _ _ he).bind H ((g2 _).trans (g1 _)) ((g2' _).trans (g1' _)) fun he2 hq => ?_
    have hC : Out T fin M fim K Gd (if is_ T fin (expr T fin f (adv s)).2 [46] = true then adv (expr T fin f (adv s)).2 else (expr T fin f (adv s)).2) (if is_ M fim (expr M fim f (adv s')).2 [46] = true then adv (expr M fim f (adv s')).2 else (expr M fim f (adv s')).2) True := by
     rw [he2.is_ H]
     split
     ·exact out_adv he2
     ·exact out_same he2 trivial
    refine hC.bind H (g1 _) (g1' _) fun he3 _ => ?_
    exact (g0 he3).mono fun _ _ => hl.snoc (Sm.nd (.one hq.1) _ _)
   ·have gT : ∀ e : Tr × PS, Lf T fin e.2 (if (ok e.2 && is_ T fin e.2 [46]) = true then stL T fin f m (l ++ [e.1]) (adv e.2) else (l ++ [e.1], if (ok e.2 && !closed T fin m e.2) = true then odd T fin e.2 else e.2)).2 := fun e => by
     split
     ·exact (lf_adv _).trans (lT.stL _ _ _)
     ·exact g1 _
    have gM : ∀ e : Tr × PS, Lf M fim e.2 (if (ok e.2 && is_ M fim e.2 [46]) = true then stL M fim f m (l' ++ [e.1]) (adv e.2) else (l' ++ [e.1], if (ok e.2 && !closed M fim m e.2) = true then odd M fim e.2 else e.2)).2 := fun e => by
     split
     ·exact (lf_adv _).trans (lM.stL _ _ _)
     ·exact g1' _
    refine (ih.expr _ _ h).bind H (gT _) (gM _) fun he hq => ?_
    have hg := g0 he
    rw [he.ok.1, he.ok.2, he.is_ H]
    rw [he.ok.1, he.ok.2] at hg
    split
    ·refine (out_adv he).bind H (lT.stL _ _ _) (lM.stL _ _ _) fun he2 _ => ?_
     exact ih.stL _ _ _ _ _ (hl.snoc hq.1) he2
    ·exact hg.mono fun _ _ => hl.snoc hq.1
theorem lf_patL : ∀ (f : Nat) (n : Txt) (l : List Txt) (s : PS), Lf T fin s (patL T fin f n l s).2.2
 | 0, _, _, s => Lf.refl s
 | f + 1, n, l, s => by
  unfold patL
  split
  ·exact ((lf_adv s).trans (lf_decl T fin l _)).trans (lf_patL f _ _ _)
  ·exact Lf.refl s
theorem out_patL (H : Two T fin M fim K Gd) : ∀ (f g : Nat) (n : Txt) (l : List Txt) (s s' : PS), Eq_ K s s' → T.length < s.at_ + f → M.length < s.at_ + g → Out T fin M fim K Gd (patL T fin f n l s).2.2 (patL M fim g n l s').2.2 ((patL T fin f n l s).1 = (patL M fim g n l s').1 ∧ (patL T fin f n l s).2.1 = (patL M fim g n l s').2.1)
 | 0, _, _, _, s, _, h, h1, _ => by have := h.2.2; have := H.kT; omega
 | f + 1, 0, _, _, s, _, h, _, h2 => by have := h.2.2; have := H.kM; omega
 | f + 1, g + 1, n, l, s, s', h, h1, h2 => by
  unfold patL
  rw [h.ok.1, h.ok.2, (h.nx H).1, (h.nx H).2]
  split
  ·refine (out_adv h).bind H ((lf_decl T fin _ _).trans (lf_patL _ _ _ _)) ((lf_decl M fim _ _).trans (lf_patL _ _ _ _)) fun he _ => ?_
   refine (out_decl H he l).bind H (lf_patL _ _ _ _) (lf_patL _ _ _ _) fun he2 hq => ?_
   rw [← hq.1]
   have h3 := hq.2
   have h4 : (adv s).at_ = s.at_ + 1 := rfl
   exact out_patL H f g _ _ _ _ he2 (by omega) (by omega)
  ·exact out_same h ⟨rfl, rfl⟩
theorem lf_pat (s : PS) : Lf T fin s (pat T fin s).2.2 := by
 unfold pat
 dsimp only
 repeat' split
 ·exact lf_adv s
 ·exact (lf_adv s).trans (lf_decl T fin _ _)
 ·exact lf_patL _ _ _ _
 ·exact lf_odd T fin s
theorem out_pat (H : Two T fin M fim K Gd) {s s' : PS} (h : Eq_ K s s') : Out T fin M fim K Gd (pat T fin s).2.2 (pat M fim s').2.2 ((pat T fin s).1 = (pat M fim s').1 ∧ (pat T fin s).2.1 = (pat M fim s').2.1) := by
 unfold pat
 dsimp only
 rw [(h.nx H).1, (h.nx H).2, h.binS H]
 split
 ·exact (out_adv h).mono fun _ _ => ⟨rfl, rfl⟩
 split
 ·refine (out_adv h).bind H (lf_decl T fin _ _) (lf_decl M fim _ _) fun he _ => ?_
  exact (out_decl H he []).mono fun _ hq => ⟨rfl, hq.1⟩
 split
 ·exact out_patL H _ _ _ _ _ _ h (by omega) (by omega)
 ·exact out_odd h
theorem smallS_if (k : Nat) (x : Txt) (n : Nat) (s : PS) : smallS (want T fin k x s).1 n (want T fin k x s).2 = if ok (want T fin k x s).2 then smallS (want T fin k x s).1 n (want T fin k x s).2 else (want T fin k x s).2 := by
 split
 ·rfl
 ·rename_i h1
  unfold smallS
  split
  ·unfold ok at h1
   unfold rf
   cases h3 : (want T fin k x s).2.fault with
   | none => rw [h3] at h1; exact absurd rfl h1
   | some x =>
    dsimp only
    rw [← h3]
  ·rfl
theorem lf_prw (x : Txt) (s : PS) : Lf T fin s (want T fin 3 [62] (smallS (want T fin 4 [] (want T fin 2 x s).2).1 255 (want T fin 4 [] (want T fin 2 x s).2).2)).2 := by
 rw [smallS_if]
 exact ((lf_want T fin _ _ s).trans (lf_wants T fin _ _ _ _)).trans (lf_want T fin _ _ _)
theorem lf_primi (s : PS) : Lf T fin s (primi T fin s).2 := by
 unfold primi
 dsimp only
 split
 ·exact (lf_adv s).trans (lf_prw _ _)
 ·exact Lf.refl s
theorem out_prw (H : Two T fin M fim K Gd) (x : Txt) {s s' : PS} (h : Eq_ K s s') : Out T fin M fim K Gd (want T fin 3 [62] (smallS (want T fin 4 [] (want T fin 2 x s).2).1 255 (want T fin 4 [] (want T fin 2 x s).2).2)).2 (want M fim 3 [62] (smallS (want M fim 4 [] (want M fim 2 x s').2).1 255 (want M fim 4 [] (want M fim 2 x s').2).2)).2 (small (want T fin 4 [] (want T fin 2 x s).2).1.2.1 255 = small (want M fim 4 [] (want M fim 2 x s').2).1.2.1 255) := by
 rw [smallS_if (T := T), smallS_if (T := M)]
 have h1 := out_want H h 2 x
 generalize (want T fin 2 x s).2 = s1 at *
 generalize (want M fim 2 x s').2 = s1' at *
 refine h1.bind H ((lf_wants T fin _ _ _ _).trans (lf_want T fin _ _ _)) ((lf_wants M fim _ _ _ _).trans (lf_want M fim _ _ _)) fun he2 _ => ?_
 refine (out_smallS H he2 255).bind H (lf_want T fin _ _ _) (lf_want M fim _ _ _) fun he3 hq => ?_
 refine (out_want H he3 3 _).mono fun _ _ => ?_
 rw [hq.1, hq.2.1, (he2.nx H).2]
theorem out_primi (H : Two T fin M fim K Gd) {s s' : PS} (h : Eq_ K s s') : Out T fin M fim K Gd (primi T fin s).2 (primi M fim s').2 ((primi T fin s).1 = (primi M fim s').1) := by
 unfold primi
 dsimp only
 rw [(h.nx H).1, (h.nx H).2, h.ok.1, h.ok.2]
 split
 ·exact (out_adv h).bind H (lf_prw _ _) (lf_prw _ _) fun he _ => out_prw H _ he
 ·exact out_same h rfl
theorem out_meth (H : Two T fin M fim K Gd) (f : Nat) : Out T fin M fim K Gd (meth T fin f).2 (meth M fim f).2 (Sm (meth T fin f).1 (meth M fim f).1) := by
 have h : Eq_ K (⟨0, 0, none⟩ : PS) ⟨0, 0, none⟩ := ⟨rfl, rfl, Nat.zero_le _⟩
 have lT := (lfAll T fin f).stL
 have lM := (lfAll M fim f).stL
 unfold meth
 dsimp only
 refine (out_pat H h).bind H (((lf_primi _).trans (lf_temps T fin _)).trans (lT _ _ _)) (((lf_primi _).trans (lf_temps M fim _)).trans (lM _ _ _)) fun he hq => ?_
 refine (out_primi H he).bind H ((lf_temps T fin _).trans (lT _ _ _)) ((lf_temps M fim _).trans (lM _ _ _)) fun he2 hq2 => ?_
 refine (out_temps H he2).bind H (lT _ _ _) (lM _ _ _) fun he3 hq3 => ?_
 refine ((simAll2 H f).stL [] [] [] _ _ .nil he3).mono fun _ hq4 => ?_
 rw [hq.1, hq.2, hq2, hq3]
 exact .mk _ _ _ _ _ _ _ _ _ hq4.1 hq4.2
end
end Ps
end Go.Proofs.YtjhonaglmgmpiaaGreatDoor
