/-
  Parts PsB, PsC, Rs, PsD, PsE, RsA of the proof. No statement of the seat is proved here.
-/
import Derived.Test.YtjhonaglmgmpiaaGreatDoorP02
set_option maxHeartbeats 4000000
namespace Go.Proofs.YtjhonaglmgmpiaaGreatDoor
namespace Ps
open Lx
def opnT (x : Txt) : Bool := x == [40] || x == [91] || x == [123] || x == [35, 40] || x == [35, 91]
def clsT_ (x : Txt) : Bool := x == [41] || x == [93] || x == [125]
def wt (t : Tk) : Int := if t.1 != 7 then 0 else if opnT t.2.1 then 1 else if clsT_ t.2.1 then -1 else 0
section
variable (T : List Tk) (fin : Nat)
def W (i : Nat) : Int := ((T.take i).map wt).sum
theorem W_step (i : Nat) : W T (i + 1) = W T i + wt (T.getD i (0, [], fin)) := by
 unfold W
 by_cases h : i < T.length
 ·rw [List.take_succ_eq_append_getElem h, List.map_append, List.sum_append, List.getD_eq_getElem?_getD, List.getElem?_eq_getElem h]
  simp
 ·rw [List.take_of_length_le (by omega), List.take_of_length_le (by omega), List.getD_eq_getElem?_getD, List.getElem?_eq_none (by omega)]
  simp [wt]
def Bal (a b : Nat) : Prop := W T b = W T a ∧ ∀ i, a ≤ i → i ≤ b → W T a ≤ W T i
theorem Bal.refl (a : Nat) : Bal T a a := by
 refine ⟨rfl, fun i h1 h2 => ?_⟩
 obtain rfl : i = a := by omega
 exact Int.le_refl _
theorem Bal.trans {a b c : Nat} (h : Bal T a b) (k : Bal T b c) : Bal T a c := by
 refine ⟨k.1.trans h.1, fun i h1 h2 => ?_⟩
 by_cases hb : i ≤ b
 ·exact h.2 i h1 hb
 ·have := k.2 i (by omega) h2
  have := h.1
  omega
def Grp (a c : Nat) : Prop := a + 1 < c ∧ W T c = W T a ∧ (∀ i, a < i → i < c → W T a < W T i) ∧ (T.getD (c - 1) (0, [], 0)).1 = 7
theorem Grp.bal {a c : Nat} (h : Grp T a c) : Bal T a c := ⟨h.2.1, fun i h1 h2 => by
 rcases Nat.lt_or_ge a i with h3 | h3
 ·rcases Nat.lt_or_ge i c with h4 | h4
  ·exact Int.le_of_lt (h.2.2.1 i h3 h4)
  ·obtain rfl : i = c := by omega
   rw [h.2.1]; exact Int.le_refl _
 ·obtain rfl : i = a := by omega
  exact Int.le_refl _⟩
def B (s s' : PS) : Prop := ok s' = true → s.at_ ≤ T.length → s'.at_ ≤ T.length ∧ Bal T s.at_ s'.at_
variable {T fin}
theorem B.refl (s : PS) : B T s s := fun _ h => ⟨h, Bal.refl T _⟩
theorem B.trans {a b c : PS} (h : B T a b) (l : Le b c) (k : B T b c) : B T a c := fun ho ha =>
 have h1 := h (ok_of l ho) ha
 have h2 := k ho h1.1
 ⟨h2.1, h1.2.trans T h2.2⟩
theorem rf_no (s : PS) (p e : Nat) : ok (rf s p e) = false := by
 unfold ok rf
 cases s.fault <;> rfl
theorem b_rf (a s : PS) (p e : Nat) : B T a (rf s p e) := fun h => by rw [rf_no] at h; cases h
theorem b_odd (a s : PS) : B T a (odd T fin s) := b_rf _ _ _ _
theorem nx_lt {s : PS} (h : (nx T fin s).1 ≠ 0) : s.at_ < T.length := by
 rcases Nat.lt_or_ge s.at_ T.length with h1 | h1
 ·exact h1
 ·exfalso
  apply h
  unfold nx
  rw [List.getD_eq_getElem?_getD, List.getElem?_eq_none h1]
  rfl
theorem bal_step {i : Nat} (h : wt (T.getD i (0, [], fin)) = 0) : Bal T i (i + 1) := by
 have h1 := W_step T fin i
 refine ⟨by omega, fun j h3 h4 => ?_⟩
 obtain rfl | rfl : j = i ∨ j = i + 1 := by omega
 ·exact Int.le_refl _
 ·omega
theorem b_adv {s : PS} (h : wt (nx T fin s) = 0) (h0 : (nx T fin s).1 ≠ 0) : B T s (adv s) := fun _ _ => ⟨nx_lt h0, bal_step h⟩
theorem wt_kind {t : Tk} {k : Nat} (h : (t.1 == k) = true) (hk : k ≠ 7) : wt t = 0 := by
 have : t.1 = k := by simpa using h
 unfold wt
 rw [this, if_pos (by simpa using hk)]
theorem b_kind {s : PS} {k : Nat} (h : ((nx T fin s).1 == k) = true) (hk : k ≠ 7) (hk0 : k ≠ 0) : B T s (adv s) := by
 refine b_adv (wt_kind h hk) ?_
 have e : (nx T fin s).1 = k := by simpa using h
 rw [e]
 exact hk0
theorem isM_kind {t : Tk} {x : Txt} (h : isM t x = true) : t.1 = 7 ∧ t.2.1 = x := by
 unfold isM at h
 simpa using h
theorem wt_mark {t : Tk} {x : Txt} (h : isM t x = true) (h1 : opnT x = false) (h2 : clsT_ x = false) : wt t = 0 := by
 obtain ⟨e1, e2⟩ := isM_kind h
 unfold wt
 rw [e2, h1, h2]
 simp
theorem b_mark {s : PS} {x : Txt} (h : is_ T fin s x = true) (h1 : opnT x = false) (h2 : clsT_ x = false) : B T s (adv s) := b_adv (wt_mark h h1 h2) (by rw [(isM_kind h).1]; decide)
theorem wt_open {t : Tk} {x : Txt} (h : isM t x = true) (h1 : opnT x = true) : wt t = 1 := by
 obtain ⟨e1, e2⟩ := isM_kind h
 unfold wt
 rw [e1, e2, h1]
 simp
theorem wt_close {t : Tk} {x : Txt} (h : isM t x = true) (h1 : opnT x = false) (h2 : clsT_ x = true) : wt t = -1 := by
 obtain ⟨e1, e2⟩ := isM_kind h
 unfold wt
 rw [e1, e2, h1, h2]
 simp
theorem bin_wt {s : PS} (h : binS (nx T fin s) = true) : B T s (adv s) := by
 unfold binS at h
 rw [Bool.or_eq_true] at h
 rcases h with h | h
 ·exact b_kind h (by decide) (by decide)
 ·exact b_mark h (by decide) (by decide)
theorem b_want {k : Nat} {x : Txt} {s : PS} (hk : k ≠ 7) (hk0 : k ≠ 0) : B T s (want T fin k x s).2 := by
 unfold want
 split
 ·exact b_odd _ _
 ·rename_i h
  refine b_kind (fin := fin) (k := k) ?_ hk hk0
  simp only [Bool.or_eq_true, not_or, bne_iff_ne, ne_eq, Decidable.not_not] at h
  simp [h.1]
theorem want_mark {x : Txt} {s : PS} (hx : x ≠ []) (h : ok (want T fin 7 x s).2 = true) : is_ T fin s x = true ∧ (want T fin 7 x s).2 = adv s := by
 unfold want at h ⊢
 split at h
 ·rw [show ok (((0, [], 0) : Tk), odd T fin s).2 = false from rf_no _ _ _] at h; cases h
 ·rename_i hc
  rw [if_neg hc]
  refine ⟨?_, rfl⟩
  simp only [Bool.or_eq_true, not_or, bne_iff_ne, ne_eq, Decidable.not_not, Bool.and_eq_true, not_and, Bool.not_eq_true'] at hc
  have hxe : x.isEmpty = false := by cases x with | nil => exact absurd rfl hx | cons _ _ => rfl
  unfold is_ isM
  rw [hc.1, hc.2 hxe]
  simp
theorem b_decl (l : List Txt) (s : PS) : B T s (decl T fin l s).2 := by
 unfold decl
 dsimp only
 split
 ·exact b_rf _ _ _ _
 ·exact b_want (by decide) (by decide)
theorem want_at {k : Nat} {x : Txt} {s : PS} (hk0 : k ≠ 0) (h : ok (want T fin k x s).2 = true) : (want T fin k x s).2 = adv s ∧ s.at_ < T.length ∧ (nx T fin s).1 = k := by
 unfold want at h ⊢
 split at h
 ·rw [show ok (((0, [], 0) : Tk), odd T fin s).2 = false from rf_no _ _ _] at h; cases h
 ·rename_i hc
  rw [if_neg hc]
  simp only [Bool.or_eq_true, not_or, bne_iff_ne, ne_eq, Decidable.not_not] at hc
  exact ⟨rfl, nx_lt (by rw [hc.1]; exact hk0), hc.1⟩
theorem decl_at {l : List Txt} {s : PS} (h : ok (decl T fin l s).2 = true) : (decl T fin l s).2.at_ = s.at_ + 1 ∧ s.at_ < T.length := by
 unfold decl at h ⊢
 dsimp only at h ⊢
 split at h
 ·rw [rf_no] at h; cases h
 ·rename_i hc
  rw [if_neg hc]
  have := want_at (by decide) h
  exact ⟨by rw [this.1]; rfl, this.2.1⟩
theorem b_tmpL : ∀ (f : Nat) (l : List Txt) (s : PS), B T s (tmpL T fin f l s).2
 | 0, _, s => B.refl s
 | f + 1, l, s => by
  unfold tmpL
  split
  ·exact (b_decl l s).trans (le_tmpL T fin f _ _) (b_tmpL f _ _)
  ·exact B.refl s
theorem tmpL_end : ∀ (f : Nat) (l : List Txt) (s : PS), T.length < s.at_ + f → s.at_ ≤ T.length → ok (tmpL T fin f l s).2 = true → is_ T fin (tmpL T fin f l s).2 [124] = true
 | 0, l, s, h, h0, ho => by omega
 | f + 1, l, s, h, h0, ho => by
  unfold tmpL at ho ⊢
  split at ho
  ·rename_i hc
   rw [if_pos hc]
   have hd := decl_at (ok_of (le_tmpL T fin f _ _) ho)
   exact tmpL_end f _ _ (by omega) (by omega) ho
  ·rename_i hc
   rw [if_neg hc]
   simp only [Bool.and_eq_true, not_and, Bool.not_eq_true', Bool.not_eq_false] at hc
   exact hc ho
theorem b_temps (s : PS) : B T s (temps T fin s).2 := by
 unfold temps
 split
 ·rename_i hc
  intro ho hs
  have h1 := (b_mark hc (by decide) (by decide)).trans (le_tmpL T fin (T.length + 2) [] (adv s)) (b_tmpL _ _ _)
  have ho' : ok (tmpL T fin (T.length + 2) [] (adv s)).2 = true := ho
  have h2 := h1 ho' hs
  have hat : (adv s).at_ ≤ T.length := nx_lt (by rw [(isM_kind hc).1]; decide)
  have h3 := tmpL_end (fin := fin) (T.length + 2) [] (adv s) (by omega) hat ho'
  have h4 := b_mark h3 (by decide) (by decide) ho h2.1
  exact ⟨h4.1, h2.2.trans T h4.2⟩
 ·exact B.refl s
theorem b_smallS {a s : PS} (t : Tk) (n : Nat) (h : B T a s) : B T a (smallS t n s) := by
 unfold smallS
 split
 ·exact b_rf _ _ _ _
 ·exact h
theorem b_simple (s : PS) : B T s (simple T fin s).2 := by
 unfold simple
 dsimp only
 split
 ·rename_i h; exact b_kind h (by decide) (by decide)
 ·split
  ·rename_i h; exact b_kind h (by decide) (by decide)
  ·split
   ·rename_i h; exact b_kind h (by decide) (by decide)
   ·split
    ·rename_i h
     split
     ·rename_i h2
      simp only [Bool.and_eq_true] at h h2
      have h3 : ((nx T fin (adv s)).1 == 4) = true := h2.1
      exact (b_kind (fin := fin) h.1.1 (by decide) (by decide)).trans (le_adv _) (b_kind (fin := fin) h3 (by decide) (by decide))
     ·exact B.refl s
    ·exact B.refl s
theorem b_bytL : ∀ (f : Nat) (l : List Tr) (s : PS), B T s (bytL T fin f l s).2
 | 0, _, s => B.refl s
 | f + 1, l, s => by
  unfold bytL
  split
  ·refine B.trans ?_ (le_bytL T fin f _ _) (b_bytL f _ _)
   split
   ·exact b_smallS _ _ (b_want (by decide) (by decide))
   ·exact b_want (by decide) (by decide)
  ·exact B.refl s
theorem b_unaL : ∀ (f : Nat) (n : Tr) (s : PS), B T s (unaL T fin f n s).2
 | 0, _, s => B.refl s
 | f + 1, n, s => by
  unfold unaL
  split
  ·rename_i h
   rw [Bool.and_eq_true] at h
   exact (b_kind h.2 (by decide) (by decide)).trans (le_unaL T fin f _ _) (b_unaL f _ _)
  ·exact B.refl s
theorem b_argL : ∀ (f : Nat) (l : List Txt) (s : PS), B T s (argL T fin f l s).2
 | 0, _, s => B.refl s
 | f + 1, l, s => by
  unfold argL
  split
  ·rename_i h
   rw [Bool.and_eq_true] at h
   exact ((b_mark h.2 (by decide) (by decide)).trans (le_decl T fin l _) (b_decl l _)).trans (le_argL T fin f _ _) (b_argL f _ _)
  ·exact B.refl s
theorem opn_at (s : PS) : (opn T fin s).at_ = s.at_ + 1 := by
 unfold opn
 show (if s.deep = 100 then rf s (nx T fin s).2.2 125 else s).at_ + 1 = s.at_ + 1
 split <;> rfl
theorem grp_of {s s1 : PS} {x y : Txt} (ho : isM (nx T fin s) x = true) (hx : opnT x = true) (hy : clsT_ y = true) (hyo : opnT y = false) (hyn : y ≠ []) (hb : B T (opn T fin s) s1) (hl : Le (opn T fin s) s1) (hok : ok (shut T fin y s1) = true) :
  (shut T fin y s1).at_ ≤ T.length ∧ Grp T s.at_ (shut T fin y s1).at_ := by
 have h1 : ok s1 = true := ok_of (le_shut T fin y s1) hok
 unfold shut at hok ⊢
 rw [if_pos h1] at hok ⊢
 unfold cls_ at hok ⊢
 obtain ⟨hm, he⟩ := want_mark hyn hok
 rw [he]
 have hm' : isM (nx T fin s1) y = true := hm
 have hlt : s.at_ < T.length := nx_lt (by rw [(isM_kind ho).1]; decide)
 have h2 := hb h1 (by rw [opn_at]; omega)
 rw [opn_at] at h2
 have h3 := W_step T fin s.at_
 rw [show wt (T.getD s.at_ (0, [], fin)) = 1 from wt_open ho hx] at h3
 have h4 := W_step T fin s1.at_
 rw [show wt (T.getD s1.at_ (0, [], fin)) = -1 from wt_close hm' hyo hy] at h4
 have h5 : s1.at_ < T.length := nx_lt (fin := fin) (by rw [(isM_kind hm').1]; decide)
 have h6 := hl.at_
 rw [opn_at] at h6
 have h7 := h2.2.1
 refine ⟨h5, ?_, ?_, fun i h8 h9 => ?_, ?_⟩
 ·show s.at_ + 1 < s1.at_ + 1
  omega
 ·show W T (s1.at_ + 1) = _
  omega
 ·have h10 : i < s1.at_ + 1 := h9
  have := h2.2.2 i (by omega) (by omega)
  omega
 ·show (T.getD (s1.at_ + 1 - 1) (0, [], 0)).1 = 7
  have h11 := (isM_kind hm').1
  unfold nx at h11
  rw [Nat.add_sub_cancel]
  rw [List.getD_eq_getElem?_getD, List.getElem?_eq_getElem h5] at h11 ⊢
  exact h11
theorem b_grp {s s1 : PS} {x y : Txt} (ho : isM (nx T fin s) x = true) (hx : opnT x = true) (hy : clsT_ y = true) (hyo : opnT y = false) (hyn : y ≠ []) (hb : B T (opn T fin s) s1) (hl : Le (opn T fin s) s1) : B T s (shut T fin y s1) := fun hok _ => by
 have h := grp_of ho hx hy hyo hyn hb hl hok
 exact ⟨h.1, h.2.bal T⟩
theorem b_bytes {s : PS} (ho : isM (nx T fin s) [35, 91] = true) : B T s (bytes T fin s).2 := b_grp ho (by decide) (by decide) (by decide) (by decide) (b_bytL _ _ _) (le_bytL T fin _ _ _)
variable (T fin)
structure BalAll (f : Nat) : Prop where
 expr : ∀ s, B T s (expr T fin f s).2
 casL : ∀ l s, B T s (casL T fin f l s).2
 msg : ∀ s, B T s (msg T fin f s).2
 operand : ∀ s, B T s (operand T fin f s).2
 keyL : ∀ n l s, B T s (keyL T fin f n l s).2.2
 binL_ : ∀ n s, B T s (binL_ T fin f n s).2
 keyw : ∀ n s, B T s (keyw T fin f n s).2
 prim : ∀ s, B T s (prim T fin f s).2
 arr : ∀ s, (isM (nx T fin s) [35, 40] || isM (nx T fin s) [40]) = true → B T s (arr T fin f s).2
 arrL : ∀ l s, B T s (arrL T fin f l s).2
 lit : ∀ s, B T s (lit T fin f s).2
 braL : ∀ l s, B T s (braL T fin f l s).2
 blk : ∀ s, isM (nx T fin s) [91] = true → B T s (blk T fin f s).2
 stL : ∀ m l s, B T s (stL T fin f m l s).2
theorem balAll : ∀ f, BalAll T fin f
 | 0 => by
  constructor <;> (intros; first | exact B.refl _ | (unfold Ps.expr; exact B.refl _) | (unfold Ps.casL; exact B.refl _) | (unfold Ps.msg; exact B.refl _) | (unfold Ps.operand; exact B.refl _) | (unfold Ps.keyL; exact B.refl _) | (unfold Ps.binL_; exact B.refl _) | (unfold Ps.keyw; exact B.refl _) | (unfold Ps.prim; exact B.refl _) | (unfold Ps.arr; exact B.refl _) | (unfold Ps.arrL; exact B.refl _) | (unfold Ps.lit; exact B.refl _) | (unfold Ps.braL; exact B.refl _) | (unfold Ps.blk; exact B.refl _) | (unfold Ps.stL; exact B.refl _))
 | f + 1 => by
  have ih := balAll f
  have le := leAll T fin f
  have two : ∀ s, B T s (Ps.unaL T fin (T.length + 2) (Ps.prim T fin f s).1 (Ps.prim T fin f s).2).2 := fun s => (ih.prim s).trans (le_unaL T fin _ _ _) (b_unaL _ _ _)
  have opr : ∀ s, B T s (Ps.binL_ T fin f (Ps.unaL T fin (T.length + 2) (Ps.prim T fin f s).1 (Ps.prim T fin f s).2).1 (Ps.unaL T fin (T.length + 2) (Ps.prim T fin f s).1 (Ps.prim T fin f s).2).2).2 := fun s => (two s).trans (le.binL_ _ _) (ih.binL_ _ _)
  have ltwo : ∀ s, Le s (Ps.unaL T fin (T.length + 2) (Ps.prim T fin f s).1 (Ps.prim T fin f s).2).2 := fun s => (le.prim s).trans (le_unaL T fin _ _ _)
  constructor
  ·intro s
   unfold Ps.expr
   dsimp only
   split
   ·rename_i h
    simp only [Bool.and_eq_true] at h
    split
    ·exact b_rf _ _ _ _
    ·have h2 : is_ T fin (adv s) [58, 61] = true := h.2
     exact ((b_kind (fin := fin) h.1.1 (by decide) (by decide)).trans (le_adv _) (b_mark h2 (by decide) (by decide))).trans (le.expr _) (ih.expr _)
   ·have h := fun n => (opr s).trans (le.keyw n _) (ih.keyw n _)
    split
    ·exact h _
    ·split
     ·exact b_odd _ _
     ·exact (h _).trans (le.casL _ _) (ih.casL _ _)
  ·intro l s
   unfold Ps.casL
   split
   ·rename_i h
    rw [Bool.and_eq_true] at h
    exact ((b_mark h.2 (by decide) (by decide)).trans (le.msg _) (ih.msg _)).trans (le.casL _ _) (ih.casL _ _)
   ·exact B.refl s
  ·intro s
   unfold Ps.msg
   dsimp only
   split
   ·rename_i h; exact b_kind h (by decide) (by decide)
   ·split
    ·rename_i h; exact (bin_wt h).trans (ltwo _) (two _)
    ·split
     ·exact ih.keyL _ _ _
     ·exact b_odd _ _
  ·intro s
   unfold Ps.operand
   exact opr s
  ·intro n l s
   unfold Ps.keyL
   split
   ·rename_i h
    rw [Bool.and_eq_true] at h
    exact ((b_kind h.2 (by decide) (by decide)).trans (le.operand _) (ih.operand _)).trans (le.keyL _ _ _) (ih.keyL _ _ _)
   ·exact B.refl s
  ·intro n s
   unfold Ps.binL_
   dsimp only
   split
   ·rename_i h
    rw [Bool.and_eq_true] at h
    exact ((bin_wt h.2).trans (ltwo _) (two _)).trans (le.binL_ _ _) (ih.binL_ _ _)
   ·exact B.refl s
  ·intro n s
   unfold Ps.keyw
   dsimp only
   split
   ·exact B.refl s
   ·exact ih.keyL _ _ _
  ·intro s
   unfold Ps.prim
   dsimp only
   split
   ·exact B.refl s
   ·split
    ·exact b_simple s
    ·split
     ·rename_i h; exact b_kind h (by decide) (by decide)
     ·split
      ·rename_i h; exact ih.arr s (by rw [h]; rfl)
      ·split
       ·rename_i h; exact b_bytes h
       ·split
        ·rename_i h; exact b_grp h (by decide) (by decide) (by decide) (by decide) (ih.expr _) (le.expr _)
        ·split
         ·rename_i h; exact b_grp h (by decide) (by decide) (by decide) (by decide) (ih.braL _ _) (le.braL _ _)
         ·split
          ·rename_i h; exact ih.blk s h
          ·exact b_odd _ _
  ·intro s h
   unfold Ps.arr
   rw [Bool.or_eq_true] at h
   rcases h with h | h
   ·exact b_grp h (by decide) (by decide) (by decide) (by decide) (ih.arrL _ _) (le.arrL _ _)
   ·exact b_grp h (by decide) (by decide) (by decide) (by decide) (ih.arrL _ _) (le.arrL _ _)
  ·intro l s
   unfold Ps.arrL
   split
   ·exact (ih.lit _).trans (le.arrL _ _) (ih.arrL _ _)
   ·exact B.refl s
  ·intro s
   unfold Ps.lit
   dsimp only
   split
   ·exact b_simple s
   ·split
    ·rename_i h
     rw [Bool.and_eq_true] at h
     exact b_kind h.1 (by decide) (by decide)
    ·split
     ·rename_i h
      simp only [Bool.or_eq_true] at h
      rcases h with (h | h) | h
      ·exact b_kind h (by decide) (by decide)
      ·exact b_kind h (by decide) (by decide)
      ·exact bin_wt h
     ·split
      ·rename_i h; exact ih.arr s h
      ·split
       ·rename_i h; exact b_bytes h
       ·exact b_odd _ _
  ·intro l s
   unfold Ps.braL
   dsimp only
   split
   ·split
    ·exact ih.expr s
    ·rename_i h
     simp only [Bool.or_eq_true, not_or, Bool.not_eq_true', Bool.not_eq_false] at h
     exact ((ih.expr s).trans (le_adv _) (b_mark h.2 (by decide) (by decide))).trans (le.braL _ _) (ih.braL _ _)
   ·exact B.refl s
  ·intro s ho
   unfold Ps.blk
   dsimp only
   have l1 := le_argL T fin (T.length + 2) [] (opn T fin s)
   have h1 := b_argL (T := T) (fin := fin) (T.length + 2) [] (opn T fin s)
   generalize Ps.argL T fin (T.length + 2) [] (opn T fin s) = a at *
   have h2 : B T (opn T fin s) (if (ok a.2 && !a.1.isEmpty) = true then if Ps.is_ T fin a.2 [124] = true then adv a.2 else if Ps.is_ T fin a.2 [93] = true then a.2 else odd T fin a.2 else a.2) ∧ Le (opn T fin s) (if (ok a.2 && !a.1.isEmpty) = true then if Ps.is_ T fin a.2 [124] = true then adv a.2 else if Ps.is_ T fin a.2 [93] = true then a.2 else odd T fin a.2 else a.2) := by
    split
    ·split
     ·rename_i h; exact ⟨h1.trans (le_adv _) (b_mark h (by decide) (by decide)), l1.trans (le_adv _)⟩
     ·split
      ·exact ⟨h1, l1⟩
      ·exact ⟨b_odd _ _, l1.trans (le_odd T fin _)⟩
    ·exact ⟨h1, l1⟩
   generalize (if (ok a.2 && !a.1.isEmpty) = true then if Ps.is_ T fin a.2 [124] = true then adv a.2 else if Ps.is_ T fin a.2 [93] = true then a.2 else odd T fin a.2 else a.2) = s1 at *
   have h3 : B T (opn T fin s) (if ok s1 = true then temps T fin s1 else ([], s1)).2 ∧ Le (opn T fin s) (if ok s1 = true then temps T fin s1 else ([], s1)).2 := by
    split
    ·exact ⟨h2.1.trans (le_temps T fin s1) (b_temps s1), h2.2.trans (le_temps T fin s1)⟩
    ·exact h2
   exact b_grp ho (by decide) (by decide) (by decide) (by decide) (h3.1.trans (le.stL _ _ _) (ih.stL _ _ _)) (h3.2.trans (le.stL _ _ _))
  ·intro m l s
   unfold Ps.stL
   dsimp only
   split
   ·exact B.refl s
   ·split
    ·rename_i h0
     have h := (b_mark h0 (by decide) (by decide)).trans (le.expr _) (ih.expr _)
     generalize Ps.expr T fin f (adv s) = e at *
     have h2 : B T s (if Ps.is_ T fin e.2 [46] = true then adv e.2 else e.2) := by
      split
      ·rename_i h3; exact h.trans (le_adv _) (b_mark h3 (by decide) (by decide))
      ·exact h
     generalize (if Ps.is_ T fin e.2 [46] = true then adv e.2 else e.2) = s2 at *
     split
     ·exact b_odd _ _
     ·exact h2
    ·have h := ih.expr s
     generalize Ps.expr T fin f s = e at *
     split
     ·rename_i h3
      rw [Bool.and_eq_true] at h3
      exact (h.trans (le_adv _) (b_mark h3.2 (by decide) (by decide))).trans (le.stL _ _ _) (ih.stL _ _ _)
     ·split
      ·exact b_odd _ _
      ·exact h
end
end Ps
namespace Ps
open Lx
section
variable {T : List Tk} {fin : Nat}
def Loc (T : List Tk) (a b p : Nat) : Prop := ∃ i, a ≤ i ∧ i < b ∧ i < T.length ∧ p = (T.getD i (0, [], 0)).2.2
theorem Loc.mono {a b c d p : Nat} (h : Loc T a b p) (h1 : c ≤ a) (h2 : b ≤ d) : Loc T c d p := by
 obtain ⟨i, k1, k2, k3, k4⟩ := h
 exact ⟨i, by omega, by omega, k3, k4⟩
theorem nx_place {s : PS} (h : s.at_ < T.length) : (nx T fin s).2.2 = (T.getD s.at_ (0, [], 0)).2.2 := by
 unfold nx
 rw [List.getD_eq_getElem?_getD, List.getD_eq_getElem?_getD, List.getElem?_eq_getElem h]
 rfl
def Msgs (T : List Tk) (n : Tr) (s : PS) (r : Tr × PS) : Prop := r = (n, s) ∨ (s.at_ < r.2.at_ ∧ r.1.kind = 5 ∧ Loc T s.at_ r.2.at_ r.1.place)
theorem Msgs.trans {n : Tr} {s : PS} {r q : Tr × PS} (h : Msgs T n s r) (k : Msgs T r.1 r.2 q) (l1 : Le s r.2) (l2 : Le r.2 q.2) : Msgs T n s q := by
 rcases k with rfl | ⟨k1, k2, k3⟩
 ·exact h
 ·have := l1.at_
  exact .inr ⟨by omega, k2, k3.mono l1.at_ (Nat.le_refl _)⟩
theorem m_unaL : ∀ (f : Nat) (n : Tr) (s : PS), ok (unaL T fin f n s).2 = true → Msgs T n s (unaL T fin f n s)
 | 0, _, _, _ => .inl rfl
 | f + 1, n, s, ho => by
  unfold unaL at ho ⊢
  split at ho
  ·rename_i h
   rw [if_pos h]
   rw [Bool.and_eq_true] at h
   have hlt : s.at_ < T.length := nx_lt (fin := fin) (by have e : (nx T fin s).1 = 1 := (by simpa using h.2); rw [e]; decide)
   have k := m_unaL f _ _ ho
   have l := le_unaL T fin f (nd 5 (nx T fin s).2.1 [n] (nx T fin s).2.2) (adv s)
   have l1 := l.at_
   rcases k with k | ⟨k1, k2, k3⟩
   ·rw [k]
    exact .inr ⟨Nat.lt_succ_self _, rfl, s.at_, Nat.le_refl _, Nat.lt_succ_self _, hlt, nx_place hlt⟩
   ·have e : (adv s).at_ = s.at_ + 1 := rfl
    exact .inr ⟨by omega, k2, k3.mono (by omega) (Nat.le_refl _)⟩
  ·rename_i h
   rw [if_neg h]
   exact .inl rfl
theorem m_binL : ∀ (f : Nat) (n : Tr) (s : PS), ok (binL_ T fin f n s).2 = true → Msgs T n s (binL_ T fin f n s)
 | 0, _, _, _ => .inl (by unfold binL_; rfl)
 | f + 1, n, s, ho => by
  unfold binL_ at ho ⊢
  dsimp only at ho ⊢
  split at ho
  ·rename_i h
   rw [if_pos h]
   rw [Bool.and_eq_true] at h
   have hk : (nx T fin s).1 ≠ 0 := by
    have h2 := h.2
    unfold binS at h2
    rw [Bool.or_eq_true] at h2
    rcases h2 with h2 | h2
    ·have e : (nx T fin s).1 = 3 := by simpa using h2
     rw [e]; decide
    ·rw [(isM_kind h2).1]; decide
   have hlt : s.at_ < T.length := nx_lt (fin := fin) hk
   have k := m_binL f _ _ ho
   have l1 := ((le_adv s).trans ((leAll T fin f).prim (adv s))).trans (le_unaL T fin (T.length + 2) (prim T fin f (adv s)).1 (prim T fin f (adv s)).2)
   have l0 := (((leAll T fin f).prim (adv s))).trans (le_unaL T fin (T.length + 2) (prim T fin f (adv s)).1 (prim T fin f (adv s)).2)
   have e0 := l0.at_
   have e : (adv s).at_ = s.at_ + 1 := rfl
   have l2 := (leAll T fin f).binL_ (nd 5 (nx T fin s).2.1 [n, (unaL T fin (T.length + 2) (prim T fin f (adv s)).1 (prim T fin f (adv s)).2).1] (nx T fin s).2.2) (unaL T fin (T.length + 2) (prim T fin f (adv s)).1 (prim T fin f (adv s)).2).2
   have e2 := l2.at_
   rcases k with k | ⟨k1, k2, k3⟩
   ·rw [k]
    exact .inr ⟨by show _ < (unaL T fin (T.length + 2) (prim T fin f (adv s)).1 (prim T fin f (adv s)).2).2.at_; omega, rfl, s.at_, Nat.le_refl _, by show _ < (unaL T fin (T.length + 2) (prim T fin f (adv s)).1 (prim T fin f (adv s)).2).2.at_; omega, hlt, nx_place hlt⟩
   ·exact .inr ⟨by omega, k2, k3.mono (by omega) (Nat.le_refl _)⟩
  ·rename_i h
   rw [if_neg h]
   exact .inl rfl
theorem m_keyw (f : Nat) (n : Tr) (s : PS) (_ho : ok (keyw T fin (f + 2) n s).2 = true) : Msgs T n s (keyw T fin (f + 2) n s) := by
 unfold keyw
 dsimp only
 split
 ·exact .inl rfl
 ·rename_i h
  simp only [Bool.or_eq_true, not_or, Bool.not_eq_true', Bool.not_eq_false, bne_iff_ne, ne_eq, Decidable.not_not] at h
  have hlt : s.at_ < T.length := nx_lt (fin := fin) (by rw [h.2]; decide)
  have hc : (ok s && (nx T fin s).1 == 2) = true := by rw [h.1, h.2]; rfl
  have l : s.at_ < (keyL T fin (f + 1) [] [n] s).2.2.at_ := by
   unfold keyL
   rw [if_pos hc]
   have l1 := ((leAll T fin f).operand (adv s)).trans ((leAll T fin f).keyL ([] ++ (nx T fin s).2.1) ([n] ++ [(operand T fin f (adv s)).1]) (operand T fin f (adv s)).2)
   have e1 := l1.at_
   have e : (adv s).at_ = s.at_ + 1 := rfl
   omega
  exact .inr ⟨l, rfl, s.at_, Nat.le_refl _, l, hlt, nx_place hlt⟩
def P5 (T : List Tk) (s : PS) (r : Tr × PS) : Prop := r.1.kind = 5 → Loc T s.at_ r.2.at_ r.1.place
theorem P5.no {s : PS} {r : Tr × PS} (h : r.1.kind ≠ 5) : P5 T s r := fun h5 => absurd h5 h
theorem P5.msgs {s s1 : PS} {n : Tr} {q : Tr × PS} (h : P5 T s (n, s1)) (m : Msgs T n s1 q) (l : Le s s1) (l2 : Le s1 q.2) : P5 T s q := by
 rcases m with rfl | ⟨_, _, m⟩
 ·exact h
 ·exact fun _ => m.mono l.at_ (Nat.le_refl _)
theorem simple_kind {s : PS} {n : Tr} (h : (simple T fin s).1 = some n) : n.kind ≠ 5 := by
 unfold simple at h
 dsimp only at h
 repeat' split at h
 all_goals first | (cases h; done) | (injection h with h; subst h; first | exact (show (9:Nat) ≠ 5 by decide) | exact (show (10:Nat) ≠ 5 by decide) | exact (show (11:Nat) ≠ 5 by decide))
theorem p5_both : ∀ (f : Nat), (∀ s : PS, s.at_ ≤ T.length → 10 * (T.length - s.at_) + 8 ≤ f → ok (expr T fin f s).2 = true → P5 T s (expr T fin f s)) ∧ (∀ s : PS, s.at_ ≤ T.length → 10 * (T.length - s.at_) + 5 ≤ f → ok (prim T fin f s).2 = true → P5 T s (prim T fin f s))
 | 0 => ⟨fun s _ h => by omega, fun s _ h => by omega⟩
 | f + 1 => by
  obtain ⟨ihe, ihp⟩ := p5_both f
  have le := leAll T fin f
  refine ⟨fun s hs hf ho => ?_, fun s hs hf ho => ?_⟩
  ·unfold expr at ho ⊢
   dsimp only at ho ⊢
   split
   ·split
    ·exact P5.no (Nat.ne_of_beq_eq_false rfl)
    ·exact P5.no (Nat.ne_of_beq_eq_false rfl)
   ·rename_i h
    rw [if_neg h] at ho
    have two := (le.prim s).trans (le_unaL T fin (T.length + 2) (prim T fin f s).1 (prim T fin f s).2)
    have opr := two.trans (le.binL_ (unaL T fin (T.length + 2) (prim T fin f s).1 (prim T fin f s).2).1 (unaL T fin (T.length + 2) (prim T fin f s).1 (prim T fin f s).2).2)
    have key : ok (keyw T fin f (binL_ T fin f (unaL T fin (T.length + 2) (prim T fin f s).1 (prim T fin f s).2).1 (unaL T fin (T.length + 2) (prim T fin f s).1 (prim T fin f s).2).2).1 (binL_ T fin f (unaL T fin (T.length + 2) (prim T fin f s).1 (prim T fin f s).2).1 (unaL T fin (T.length + 2) (prim T fin f s).1 (prim T fin f s).2).2).2).2 = true → P5 T s (keyw T fin f (binL_ T fin f (unaL T fin (T.length + 2) (prim T fin f s).1 (prim T fin f s).2).1 (unaL T fin (T.length + 2) (prim T fin f s).1 (prim T fin f s).2).2).1 (binL_ T fin f (unaL T fin (T.length + 2) (prim T fin f s).1 (prim T fin f s).2).1 (unaL T fin (T.length + 2) (prim T fin f s).1 (prim T fin f s).2).2).2) := by
     intro hk
     have lk := le.keyw (binL_ T fin f (unaL T fin (T.length + 2) (prim T fin f s).1 (prim T fin f s).2).1 (unaL T fin (T.length + 2) (prim T fin f s).1 (prim T fin f s).2).2).1 (binL_ T fin f (unaL T fin (T.length + 2) (prim T fin f s).1 (prim T fin f s).2).1 (unaL T fin (T.length + 2) (prim T fin f s).1 (prim T fin f s).2).2).2
     have hb := ok_of lk hk
     have hu := ok_of (le.binL_ _ _) hb
     have hp := ok_of (le_unaL T fin _ _ _) hu
     have p1 := ihp s hs (by omega) hp
     have p2 := P5.msgs (s1 := (prim T fin f s).2) p1 (m_unaL _ _ _ hu) (le.prim s) (le_unaL T fin _ _ _)
     have p3 := P5.msgs (s1 := (unaL T fin (T.length + 2) (prim T fin f s).1 (prim T fin f s).2).2) p2 (m_binL _ _ _ hb) two (le.binL_ _ _)
     obtain ⟨g, rfl⟩ : ∃ g, f = g + 2 := ⟨f - 2, by omega⟩
     exact P5.msgs (s1 := (binL_ T fin (g + 2) (unaL T fin (T.length + 2) (prim T fin (g + 2) s).1 (prim T fin (g + 2) s).2).1 (unaL T fin (T.length + 2) (prim T fin (g + 2) s).1 (prim T fin (g + 2) s).2).2).2) p3 (m_keyw _ _ _ hk) opr lk
    split
    ·rename_i h2
     rw [if_pos h2] at ho
     exact key ho
    ·split
     ·exact P5.no (Nat.ne_of_beq_eq_false rfl)
     ·exact P5.no (Nat.ne_of_beq_eq_false rfl)
  ·unfold prim at ho ⊢
   dsimp only at ho ⊢
   split
   ·exact P5.no (Nat.ne_of_beq_eq_false rfl)
   ·rename_i hok
    rw [if_neg hok] at ho
    split
    ·rename_i n hn
     exact P5.no (simple_kind hn)
    ·rename_i hn
     rw [hn] at ho
     dsimp only at ho
     split
     ·exact P5.no (Nat.ne_of_beq_eq_false rfl)
     ·rename_i h1
      rw [if_neg h1] at ho
      split
      ·obtain ⟨g, rfl⟩ : ∃ g, f = g + 1 := ⟨f - 1, by omega⟩
       exact P5.no (by unfold arr; exact Nat.ne_of_beq_eq_false rfl)
      ·rename_i h2
       rw [if_neg h2] at ho
       split
       ·exact P5.no (by unfold bytes; exact Nat.ne_of_beq_eq_false rfl)
       ·rename_i h3
        rw [if_neg h3] at ho
        split
        ·rename_i h4
         rw [if_pos h4] at ho
         have hlt : s.at_ < T.length := nx_lt (fin := fin) (by rw [(isM_kind h4).1]; decide)
         have ls := le_shut T fin [41] (expr T fin f (opn T fin s)).2
         have he := ihe (opn T fin s) (by rw [opn_at]; omega) (by rw [opn_at]; omega) (ok_of ls ho)
         intro h5
         have h6 := he h5
         rw [opn_at] at h6
         exact h6.mono (by omega) ls.at_
        ·rename_i h4
         rw [if_neg h4] at ho
         split
         ·exact P5.no (Nat.ne_of_beq_eq_false rfl)
         ·split
          ·obtain ⟨g, rfl⟩ : ∃ g, f = g + 1 := ⟨f - 1, by omega⟩
           exact P5.no (by unfold blk; exact Nat.ne_of_beq_eq_false rfl)
          ·exact P5.no (Nat.ne_of_beq_eq_false rfl)
end
end Ps
namespace Rs
open Lx Ps
structure RS where
 at_ : Nat
 depth : Int
 wrong : Option (Nat × Nat)
section
variable (L : List Tk)
def tok (s : RS) : Tk := L.getD s.at_ (0, [], 0)
def tok1 (s : RS) : Tk := L.getD (s.at_ + 1) (0, [], 0)
def fail (s : RS) (err place : Nat) : RS := { s with wrong := match s.wrong with | none => some (place, err) | some f => some f }
def bad (s : RS) : Bool := s.wrong.isSome
def is_ (kind : Nat) (text : Txt) (s : RS) : Bool := !bad s && (tok L s).1 == kind && (text.isEmpty || (tok L s).2.1 == text)
def adv (s : RS) : RS := { s with at_ := s.at_ + 1 }
def take (kind : Nat) (text : Txt) (s : RS) : Tk × RS := if is_ L kind text s then (tok L s, adv s) else ((0, [], 0), fail s 124 (tok L s).2.2)
def opn (s : RS) : RS := if s.depth = 100 then fail s 125 (tok L s).2.2 else adv { s with depth := s.depth + 1 }
def shut (x : Txt) (s : RS) : RS := let r := (take L 7 x s).2; { r with depth := r.depth - 1 }
def decl (l : List Txt) (s : RS) : List Txt × RS :=
 let r := take L 1 [] s
 if bad r.2 then (l, r.2) else (l ++ [r.1.2.1], if resv r.1.2.1 || l.contains r.1.2.1 then fail r.2 126 r.1.2.2 else r.2)
def bin (s : RS) : Bool := is_ L 3 [] s || is_ L 7 [124] s
def tmpL : Nat → List Txt → RS → List Txt × RS
 | 0, l, s => (l, s)
 | f + 1, l, s => if !bad s && !is_ L 7 [124] s then tmpL f (decl L l s).1 (decl L l s).2 else (l, s)
def temps (s : RS) : List Txt × RS := if is_ L 7 [124] s then
  let r := tmpL L (L.length + 2) [] (adv s)
  (r.1, if bad r.2 then r.2 else adv r.2)
 else ([], s)
def shuts (close : Txt) (s : RS) : Bool := if close.isEmpty then is_ L 0 [] s else is_ L 7 close s
def grpL : List Tk → Int → Option Bool
 | [], _ => none
 | t :: r, d =>
  if t.1 != 7 then grpL r d
  else
   let d' := if t.2.1 == [40] || t.2.1 == [91] || t.2.1 == [123] || t.2.1 == [35, 40] || t.2.1 == [35, 91] then d + 1 else if t.2.1 == [41] || t.2.1 == [93] || t.2.1 == [125] then d - 1 else d
   if d' = 0 then some r.isEmpty else grpL r d'
def grouped (from_ to_ : Nat) : Bool := if (L.getD from_ (0, [], 0)).1 != 7 || (L.getD from_ (0, [], 0)).2.1 != [40] then false else (grpL ((L.take to_).drop from_) 0).getD false
def neg (s : RS) : Bool := is_ L 3 [45] s && (tok1 L s).1 == 4 && (tok1 L s).2.2 == (tok L s).2.2 + 1
def number (s : RS) : Tr × RS :=
 if neg L s then (nd 9 (if (tok1 L s).2.1 != [48] then 45 :: (tok1 L s).2.1 else (tok1 L s).2.1) [] (tok L s).2.2, adv (adv s)) else (nd 9 (tok L s).2.1 [] (tok L s).2.2, adv s)
def big (t : Txt) : Bool := decide (3 < t.length) || (t.length == 3 && decide ([50, 53, 53] < t))
def bytL : Nat → List Tr → RS → List Tr × RS
 | 0, l, s => (l, s)
 | f + 1, l, s => if !bad s && !is_ L 7 [93] s then
   let r := take L 4 [] s
   if bad r.2 then (l, r.2) else bytL f (l ++ [nd 9 r.1.2.1 [] r.1.2.2]) (if big r.1.2.1 then fail r.2 123 r.1.2.2 else r.2)
  else (l, s)
def bytes (s : RS) : Tr × RS :=
 let r := bytL L (L.length + 2) [] (opn L s)
 (nd 13 [] r.1 (tok L s).2.2, shut L [93] r.2)
def unaL : Nat → Tr → RS → Tr × RS
 | 0, n, s => (n, s)
 | f + 1, n, s => if is_ L 1 [] s then unaL f (nd 5 (tok L s).2.1 [n] (tok L s).2.2) (adv s) else (n, s)
def argL : Nat → List Txt → RS → List Txt × RS
 | 0, l, s => (l, s)
 | f + 1, l, s => if is_ L 7 [58] s then argL f (decl L l (adv s)).1 (decl L l (adv s)).2 else (l, s)
mutual
def expr : Nat → RS → Tr × RS
 | 0, s => (Tr.zero, s)
 | f + 1, s =>
  let t := tok L s
  if is_ L 1 [] s && (tok1 L s).1 == 7 && (tok1 L s).2.1 == [58, 61] then
   let s1 := adv s
   let e := expr f (adv (if resv t.2.1 then fail s1 126 t.2.2 else s1))
   (nd 4 t.2.1 [e.1] t.2.2, e.2)
  else
   let k := keyw f s
   if !is_ L 7 [59] k.2 then k
   else if k.1.kind != 5 || grouped L s.at_ k.2.at_ then (k.1, fail k.2 124 (tok L k.2).2.2)
   else
    let c := casL f [k.1.nodes.headD Tr.zero, nd 7 k.1.name k.1.nodes.tail k.1.place] k.2
    (nd 6 [] c.1 k.1.place, c.2)
def casL : Nat → List Tr → RS → List Tr × RS
 | 0, l, s => (l, s)
 | f + 1, l, s => if is_ L 7 [59] s then casL f (l ++ [(msg f (adv s)).1]) (msg f (adv s)).2 else (l, s)
def msg : Nat → RS → Tr × RS
 | 0, s => (Tr.zero, s)
 | f + 1, s =>
  let t := tok L s
  if is_ L 1 [] s then (nd 7 t.2.1 [] t.2.2, adv s)
  else if bin L s then (nd 7 t.2.1 [(unary f (adv s)).1] t.2.2, (unary f (adv s)).2)
  else if is_ L 2 [] s then
   let k := keyL f [] [] s
   (nd 7 k.1 k.2.1 t.2.2, k.2.2)
  else (nd 7 [] [] t.2.2, fail s 124 t.2.2)
def keyL : Nat → Txt → List Tr → RS → Txt × List Tr × RS
 | 0, n, l, s => (n, l, s)
 | f + 1, n, l, s => if is_ L 2 [] s then keyL f (n ++ (tok L s).2.1) (l ++ [(bins f (adv s)).1]) (bins f (adv s)).2 else (n, l, s)
def keyw : Nat → RS → Tr × RS
 | 0, s => (Tr.zero, s)
 | f + 1, s =>
  let b := bins f s
  if !is_ L 2 [] b.2 then b
  else
   let k := keyL f [] [b.1] b.2
   (nd 5 k.1 k.2.1 (tok L b.2).2.2, k.2.2)
def bins : Nat → RS → Tr × RS
 | 0, s => (Tr.zero, s)
 | f + 1, s => binL_ f (unary f s).1 (unary f s).2
def binL_ : Nat → Tr → RS → Tr × RS
 | 0, n, s => (n, s)
 | f + 1, n, s => if bin L s then
   let u := unary f (adv s)
   binL_ f (nd 5 (tok L s).2.1 [n, u.1] (tok L s).2.2) u.2
  else (n, s)
def unary : Nat → RS → Tr × RS
 | 0, s => (Tr.zero, s)
 | f + 1, s => unaL L (L.length + 2) (prim f s).1 (prim f s).2
def prim : Nat → RS → Tr × RS
 | 0, s => (Tr.zero, s)
 | f + 1, s =>
  let t := tok L s
  if bad s then (Tr.zero, s)
  else if is_ L 1 [] s then (nd 8 t.2.1 [] t.2.2, adv s)
  else if is_ L 4 [] s || neg L s then number L s
  else if is_ L 5 [] s then (nd 10 t.2.1 [] t.2.2, adv s)
  else if is_ L 6 [] s then (nd 11 t.2.1 [] t.2.2, adv s)
  else if is_ L 7 [35, 40] s then arr f s
  else if is_ L 7 [35, 91] s then bytes L s
  else if is_ L 7 [40] s then
   let e := expr f (opn L s)
   (e.1, shut L [41] e.2)
  else if is_ L 7 [123] s then
   let r := braL f [] (opn L s)
   (nd 14 [] r.1 t.2.2, shut L [125] r.2)
  else if is_ L 7 [91] s then blk f s
  else (Tr.zero, fail s 124 t.2.2)
def arr : Nat → RS → Tr × RS
 | 0, s => (Tr.zero, s)
 | f + 1, s =>
  let r := arrL f [] (opn L s)
  (nd 12 [] r.1 (tok L s).2.2, shut L [41] r.2)
def arrL : Nat → List Tr → RS → List Tr × RS
 | 0, l, s => (l, s)
 | f + 1, l, s => if !bad s && !is_ L 7 [41] s then arrL f (l ++ [(lit f s).1]) (lit f s).2 else (l, s)
def lit : Nat → RS → Tr × RS
 | 0, s => (Tr.zero, s)
 | f + 1, s =>
  let t := tok L s
  if is_ L 4 [] s || neg L s then number L s
  else if is_ L 7 [40] s || is_ L 7 [35, 40] s then arr f s
  else if is_ L 7 [35, 91] s then bytes L s
  else if is_ L 5 [] s then (nd 10 t.2.1 [] t.2.2, adv s)
  else if is_ L 1 [] s && (t.2.1 == [116, 114, 117, 101] || t.2.1 == [102, 97, 108, 115, 101] || t.2.1 == [110, 105, 108]) then (nd 8 t.2.1 [] t.2.2, adv s)
  else if is_ L 1 [] s || is_ L 2 [] s || is_ L 3 [] s || is_ L 6 [] s || is_ L 7 [124] s then (nd 11 t.2.1 [] t.2.2, adv s)
  else (Tr.zero, fail s 124 t.2.2)
def braL : Nat → List Tr → RS → List Tr × RS
 | 0, l, s => (l, s)
 | f + 1, l, s => if !bad s && !is_ L 7 [125] s then
   let e := expr f s
   braL f (l ++ [e.1]) (if !is_ L 7 [125] e.2 then (take L 7 [46] e.2).2 else e.2)
  else (l, s)
def blk : Nat → RS → Tr × RS
 | 0, s => (Tr.zero, s)
 | f + 1, s =>
  let a := argL L (L.length + 2) [] (opn L s)
  let s1 := if !a.1.isEmpty && !is_ L 7 [93] a.2 then (take L 7 [124] a.2).2 else a.2
  let v := temps L s1
  let r := stL f [93] [] v.2
  (.mk 2 [] a.1 v.1 r.1 0 (tok L s).2.2, shut L [93] r.2)
def stL : Nat → Txt → List Tr → RS → List Tr × RS
 | 0, _, l, s => (l, s)
 | f + 1, close, l, s =>
  if bad s || shuts L close s then (l, s)
  else
   let last := is_ L 7 [94] s
   let e := expr f (if last then adv s else s)
   let l' := l ++ [if last then nd 3 [] [e.1] (tok L s).2.2 else e.1]
   if bad e.2 || shuts L close e.2 then (l', e.2)
   else
    let s3 := (take L 7 [46] e.2).2
    stL f close l' (if last && !shuts L close s3 then fail s3 124 (tok L s3).2.2 else s3)
end
def patL : Nat → Txt → List Txt → RS → Txt × List Txt × RS
 | 0, n, l, s => (n, l, s)
 | f + 1, n, l, s => if is_ L 2 [] s then patL f (n ++ (tok L s).2.1) (decl L l (adv s)).1 (decl L l (adv s)).2 else (n, l, s)
def pat (s : RS) : Txt × List Txt × RS :=
 let t := tok L s
 if is_ L 1 [] s then (t.2.1, [], adv s)
 else if bin L s then (t.2.1, (decl L [] (adv s)).1, (decl L [] (adv s)).2)
 else if is_ L 2 [] s then patL L (L.length + 2) [] [] s
 else ([], [], fail s 124 t.2.2)
def numL : Txt → Nat → Nat
 | [], n => n
 | b :: r, n => if n ≤ 255 then numL r (n * 10 + (b - 48).toNat) else n
def primi (s : RS) : Nat × RS :=
 if !is_ L 3 [60] s then (0, s)
 else
  let s1 := (take L 2 [112, 114, 105, 109, 105, 116, 105, 118, 101, 58] (adv s)).2
  let r := take L 4 [] s1
  if bad r.2 then (0, r.2)
  else
   let n := numL r.1.2.1 0
   (n, (take L 3 [62] (if 255 < n then fail r.2 123 r.1.2.2 else r.2)).2)
def meth (f : Nat) : Tr × RS :=
 let p := pat L ⟨0, 0, none⟩
 let q := primi L p.2.2
 let v := temps L q.2
 let r := stL L f [] [] v.2
 (.mk 1 p.1 p.2.1 v.1 r.1 q.1 0, r.2)
def doit (fin : Nat) (f : Nat) : Tr × RS :=
 let v := temps L ⟨0, 0, none⟩
 let r := stL L f [] [] v.2
 let l := if r.1.isEmpty then [nd 8 [110, 105, 108] [] fin] else r.1
 let x := l.getLastD Tr.zero
 (.mk 1 [100, 111, 73, 116] [] v.1 (l.dropLast ++ [if x.kind == 3 then x else nd 3 [] [x] x.place]) 0 0, r.2)
end
def finish (r : Tr × RS) : Tr × Nat × Nat := match r.2.wrong with
 | some f => (Tr.zero, f.1, f.2)
 | none => (r.1, 0, 0)
def toks (T : List Tk) (fin : Nat) : List Tk := T ++ [(0, [], fin), (0, [], fin)]
end Rs
namespace Ps
open Lx
section
variable {T : List Tk} {fin : Nat}
theorem grpL_step (t : Tk) (r : List Tk) (d : Int) : Rs.grpL (t :: r) d = if t.1 = 7 ∧ d + wt t = 0 then some r.isEmpty else Rs.grpL r (d + wt t) := by
 rw [Rs.grpL]
 unfold wt opnT clsT_
 by_cases h : t.1 = 7
 ·simp only [h, bne_self_eq_false, Bool.false_eq_true, if_false, true_and]
  generalize (t.2.1 == [40] || t.2.1 == [91] || t.2.1 == [123] || t.2.1 == [35, 40] || t.2.1 == [35, 91]) = a
  generalize (t.2.1 == [41] || t.2.1 == [93] || t.2.1 == [125]) = b
  cases a <;> cases b <;> simp <;> rfl
 ·have h' : (t.1 != 7) = true := by simpa using h
  simp only [h', if_true, Int.add_zero, h, false_and, if_false]
theorem grpL_at {i j m : Nat} (hg : Grp T i j) (hj : j ≤ m) (hm : m ≤ T.length) : ∀ (n k : Nat), j - k = n → i ≤ k → k < j → Rs.grpL ((T.take m).drop k) (W T k - W T i) = some (decide (j = m))
 | 0, k, h1, _, h2 => by omega
 | n + 1, k, h1, h0, h2 => by
  have hk : k < (T.take m).length := by rw [List.length_take]; omega
  rw [List.drop_eq_getElem_cons hk, grpL_step]
  have hkT : k < T.length := by omega
  have e : (T.take m)[k] = T.getD k (0, [], 0) := by rw [List.getElem_take, List.getD_eq_getElem?_getD, List.getElem?_eq_getElem hkT]; rfl
  rw [e]
  have hs := W_step T 0 k
  have hd : W T k - W T i + wt (T.getD k (0, [], 0)) = W T (k + 1) - W T i := by omega
  rw [hd]
  by_cases hl : k + 1 = j
  ·have e7 : (T.getD k (0, [], 0)).1 = 7 := by have := hg.2.2.2; rw [← hl, Nat.add_sub_cancel] at this; exact this
   have hw := hg.2.1
   rw [← hl] at hw
   rw [if_pos ⟨e7, by omega⟩, hl]
   congr 1
   rw [Bool.eq_iff_iff, List.isEmpty_iff, List.drop_eq_nil_iff, List.length_take, decide_eq_true_iff]
   omega
  ·have hw := hg.2.2.1 (k + 1) (by omega) (by omega)
   rw [if_neg (by omega)]
   exact grpL_at hg hj hm n (k + 1) (by omega) (by omega) (by omega)
theorem toks_getD {i : Nat} (h : i < T.length) (d : Tk) : (Rs.toks T fin).getD i d = T.getD i (0, [], fin) := by
 unfold Rs.toks
 rw [List.getD_eq_getElem?_getD, List.getD_eq_getElem?_getD, List.getElem?_append_left h, List.getElem?_eq_getElem h]
 rfl
theorem grouped_at {i j m : Nat} (hg : Grp T i j) (ho : isM (T.getD i (0, [], fin)) [40] = true) (hj : j ≤ m) (hm : m ≤ T.length) : Rs.grouped (Rs.toks T fin) i m = decide (j = m) := by
 have hi := hg.1
 unfold Rs.grouped
 rw [toks_getD (by omega)]
 obtain ⟨e1, e2⟩ := isM_kind ho
 rw [e1, e2]
 rw [if_neg (by decide)]
 have e : (Rs.toks T fin).take m = T.take m := by unfold Rs.toks; rw [List.take_append_of_le_length hm]
 rw [e]
 have := grpL_at hg hj hm (j - i) i rfl (Nat.le_refl _) (by omega)
 rw [Int.sub_self] at this
 rw [this]
 rfl
theorem grouped_no {i m : Nat} (hi : i < T.length) (ho : isM (T.getD i (0, [], fin)) [40] = false) : Rs.grouped (Rs.toks T fin) i m = false := by
 unfold Rs.grouped
 rw [toks_getD hi]
 rw [if_pos]
 unfold isM at ho
 rw [Bool.or_eq_true, bne_iff_ne, bne_iff_ne]
 rw [Bool.and_eq_false_iff] at ho
 rcases ho with h | h
 ·exact .inl (by simpa using h)
 ·exact .inr (by simpa using h)
theorem prim_grp {f : Nat} {s : PS} (ho : isM (nx T fin s) [40] = true) (hok : ok (prim T fin (f + 1) s).2 = true) : (prim T fin (f + 1) s).2.at_ ≤ T.length ∧ Grp T s.at_ (prim T fin (f + 1) s).2.at_ := by
 have h0 : ok s = true := ok_of ((leAll T fin (f + 1)).prim s) hok
 obtain ⟨e1, e2⟩ := isM_kind ho
 have hs : (simple T fin s).1 = none := by
  unfold simple
  dsimp only
  rw [e1, e2]
  rfl
 unfold prim at hok ⊢
 dsimp only at hok ⊢
 rw [if_neg (by rw [h0]; decide)] at hok ⊢
 rw [hs] at hok ⊢
 dsimp only at hok ⊢
 rw [if_neg (by rw [e1]; decide), if_neg (by unfold isM; rw [e2]; simp), if_neg (by unfold isM; rw [e2]; simp), if_pos ho] at hok ⊢
 exact grp_of ho (by decide) (by decide) (by decide) (by decide) ((balAll T fin f).expr _) ((leAll T fin f).expr _) hok
theorem prim_five {f : Nat} {s : PS} (h5 : (prim T fin (f + 2) s).1.kind = 5) : isM (nx T fin s) [40] = true := by
 cases hm : isM (nx T fin s) [40]
 ·exfalso
  revert h5
  unfold prim
  dsimp only
  split
  ·exact Nat.ne_of_beq_eq_false rfl
  ·split
   ·rename_i n hn
    exact simple_kind hn
   ·split
    ·exact Nat.ne_of_beq_eq_false rfl
    ·split
     ·unfold arr; exact Nat.ne_of_beq_eq_false rfl
     ·split
      ·unfold bytes; exact Nat.ne_of_beq_eq_false rfl
      ·rw [if_neg (by rw [hm]; decide)]
       split
       ·exact Nat.ne_of_beq_eq_false rfl
       ·split
        ·unfold blk; exact Nat.ne_of_beq_eq_false rfl
        ·exact Nat.ne_of_beq_eq_false rfl
 ·rfl
end
end Ps
namespace Ps
open Lx
def Rise (T : List Tk) : Prop := ∀ i j, i < j → j < T.length → (T.getD i (0, [], 0)).2.2 < (T.getD j (0, [], 0)).2.2
theorem Loc.lt {T : List Tk} (hr : Rise T) {a b c p q : Nat} (h : Loc T a b p) (k : Loc T b c q) : p < q := by
 obtain ⟨i, h1, h2, h3, rfl⟩ := h
 obtain ⟨j, k1, k2, k3, rfl⟩ := k
 exact hr i j (by omega) k3
section
variable {T : List Tk} {fin : Nat}
theorem sent_grouped (hr : Rise T) {f : Nat} {s : PS} (hs : s.at_ ≤ T.length) (hf : 10 * (T.length - s.at_) + 5 ≤ f) (a u b k : Tr × PS) (ha : a = prim T fin f s) (hu : u = unaL T fin (T.length + 2) a.1 a.2) (hb : b = binL_ T fin f u.1 u.2) (hk : k = keyw T fin f b.1 b.2) (hok : ok k.2 = true) :
  (k.1.kind != 5 || Rs.grouped (Rs.toks T fin) s.at_ k.2.at_) = !sent a.1 k.1 := by
 have le := leAll T fin f
 have bal := balAll T fin f
 have la : Le s a.2 := ha ▸ le.prim s
 have lu : Le a.2 u.2 := hu ▸ le_unaL T fin _ _ _
 have lb : Le u.2 b.2 := hb ▸ le.binL_ _ _
 have lk : Le b.2 k.2 := hk ▸ le.keyw _ _
 have oka : ok a.2 = true := ok_of (lu.trans (lb.trans lk)) hok
 have okb : ok b.2 = true := ok_of lk hok
 have oku : ok u.2 = true := ok_of lb okb
 have Ba : B T s a.2 := ha ▸ bal.prim s
 have Bu : B T a.2 u.2 := hu ▸ b_unaL _ _ _
 have Bb : B T u.2 b.2 := hb ▸ bal.binL_ _ _
 have Bk : B T b.2 k.2 := hk ▸ bal.keyw _ _
 have ea := (Ba oka hs).1
 have eu := (Bu oku ea).1
 have eb := (Bb okb eu).1
 have ek := (Bk hok eb).1
 obtain ⟨g, rfl⟩ : ∃ g, f = g + 2 := ⟨f - 2, by omega⟩
 have mu : Msgs T a.1 a.2 u := hu ▸ m_unaL _ _ _ (hu ▸ oku)
 have mb : Msgs T u.1 u.2 b := hb ▸ m_binL _ _ _ (hb ▸ okb)
 have mk : Msgs T b.1 b.2 k := hk ▸ m_keyw _ _ _ (hk ▸ hok)
 have m : Msgs T a.1 a.2 k := (mu.trans mb lu lb).trans mk (lu.trans lb) lk
 rcases m with rfl | ⟨m1, m2, m3⟩
 ·have hn : sent a.1 a.1 = false := by unfold sent; simp
  show (a.1.kind != 5 || Rs.grouped (Rs.toks T fin) s.at_ a.2.at_) = !sent a.1 a.1
  rw [hn]
  by_cases h5 : a.1.kind = 5
  ·have ho := prim_five (T := T) (fin := fin) (f := g) (s := s) (ha ▸ h5)
   have hg := prim_grp (f := g + 1) ho (ha ▸ oka)
   rw [← ha] at hg
   rw [grouped_at hg.2 ho (Nat.le_refl _) ea, h5]
   simp
  ·have : (a.1.kind != 5) = true := by simpa using h5
   rw [this]
   rfl
 ·have hl := la.at_
  have h5 : sent a.1 k.1 = true := by
   unfold sent
   rw [m2]
   by_cases h : a.1.kind = 5
   ·have p := (p5_both (T := T) (fin := fin) (g + 2)).2 s hs hf (ha ▸ oka) (ha ▸ h)
    rw [← ha] at p
    have := p.lt hr m3
    have e : (a.1.place == k.1.place) = false := by rw [beq_eq_false_iff_ne]; omega
    rw [e]
    rfl
   ·have e : (a.1.kind == 5) = false := by rw [beq_eq_false_iff_ne]; exact h
    rw [e]
    simp
  rw [h5, m2]
  show (false || Rs.grouped (Rs.toks T fin) s.at_ k.2.at_) = false
  rw [Bool.false_or]
  cases hm : isM (T.getD s.at_ (0, [], fin)) [40]
  ·exact grouped_no (by omega) hm
  ·have hg := prim_grp (f := g + 1) (s := s) hm (ha ▸ oka)
   rw [← ha] at hg
   rw [grouped_at hg.2 hm (by omega) ek]
   exact decide_eq_false (by omega)
end
end Ps
namespace Rs
open Lx Ps
def Kp (s s' : RS) : Prop := ∀ x, s.wrong = some x → s'.wrong = some x
theorem Kp.refl (s : RS) : Kp s s := fun _ h => h
theorem Kp.trans {a b c : RS} (h : Kp a b) (k : Kp b c) : Kp a c := fun x hx => k x (h x hx)
theorem kp_adv (s : RS) : Kp s (adv s) := fun _ h => h
theorem kp_fail (s : RS) (e p : Nat) : Kp s (fail s e p) := fun x h => by unfold fail; rw [h]
section
variable (L : List Tk)
theorem kp_take (k : Nat) (x : Txt) (s : RS) : Kp s (take L k x s).2 := by
 unfold take
 split
 ·exact kp_adv s
 ·exact kp_fail _ _ _
theorem kp_opn (s : RS) : Kp s (opn L s) := by
 unfold opn
 split
 ·exact kp_fail _ _ _
 ·exact fun _ h => h
theorem kp_shut (x : Txt) (s : RS) : Kp s (shut L x s) := fun y h => kp_take L 7 x s y h
theorem kp_decl (l : List Txt) (s : RS) : Kp s (decl L l s).2 := by
 unfold decl
 have h := kp_take L 1 [] s
 dsimp only
 repeat' split
 ·exact h
 ·exact h.trans (kp_fail _ _ _)
 ·exact h
theorem kp_tmpL : ∀ (f : Nat) (l : List Txt) (s : RS), Kp s (tmpL L f l s).2
 | 0, _, s => Kp.refl s
 | f + 1, l, s => by
  unfold tmpL
  split
  ·exact (kp_decl L l s).trans (kp_tmpL f _ _)
  ·exact Kp.refl s
theorem kp_temps (s : RS) : Kp s (temps L s).2 := by
 unfold temps
 dsimp only
 split
 ·have h := (kp_adv s).trans (kp_tmpL L (L.length + 2) [] (adv s))
  generalize tmpL L (L.length + 2) [] (adv s) = r at *
  show Kp s (if bad r.2 = true then r.2 else adv r.2)
  split
  ·exact h
  ·exact h.trans (kp_adv _)
 ·exact Kp.refl s
theorem kp_number (s : RS) : Kp s (number L s).2 := by
 unfold number
 split
 ·exact (kp_adv s).trans (kp_adv _)
 ·exact kp_adv s
theorem kp_bytL : ∀ (f : Nat) (l : List Tr) (s : RS), Kp s (bytL L f l s).2
 | 0, _, s => Kp.refl s
 | f + 1, l, s => by
  unfold bytL
  dsimp only
  have h := kp_take L 4 [] s
  split
  ·split
   ·exact h
   ·refine Kp.trans ?_ (kp_bytL f _ _)
    split
    ·exact h.trans (kp_fail _ _ _)
    ·exact h
  ·exact Kp.refl s
theorem kp_bytes (s : RS) : Kp s (bytes L s).2 := ((kp_opn L s).trans (kp_bytL L _ [] _)).trans (kp_shut L _ _)
theorem kp_unaL : ∀ (f : Nat) (n : Tr) (s : RS), Kp s (unaL L f n s).2
 | 0, _, s => Kp.refl s
 | f + 1, n, s => by
  unfold unaL
  split
  ·exact (kp_adv s).trans (kp_unaL f _ _)
  ·exact Kp.refl s
theorem kp_argL : ∀ (f : Nat) (l : List Txt) (s : RS), Kp s (argL L f l s).2
 | 0, _, s => Kp.refl s
 | f + 1, l, s => by
  unfold argL
  split
  ·exact ((kp_adv s).trans (kp_decl L l _)).trans (kp_argL f _ _)
  ·exact Kp.refl s
structure KpAll (f : Nat) : Prop where
 expr : ∀ s, Kp s (expr L f s).2
 casL : ∀ l s, Kp s (casL L f l s).2
 msg : ∀ s, Kp s (msg L f s).2
 keyL : ∀ n l s, Kp s (keyL L f n l s).2.2
 keyw : ∀ s, Kp s (keyw L f s).2
 bins : ∀ s, Kp s (bins L f s).2
 binL_ : ∀ n s, Kp s (binL_ L f n s).2
 unary : ∀ s, Kp s (unary L f s).2
 prim : ∀ s, Kp s (prim L f s).2
 arr : ∀ s, Kp s (arr L f s).2
 arrL : ∀ l s, Kp s (arrL L f l s).2
 lit : ∀ s, Kp s (lit L f s).2
 braL : ∀ l s, Kp s (braL L f l s).2
 blk : ∀ s, Kp s (blk L f s).2
 stL : ∀ m l s, Kp s (stL L f m l s).2
theorem kpAll : ∀ f, KpAll L f
 | 0 => by
  constructor <;> (intros; first | exact Kp.refl _ | (unfold Rs.expr; exact Kp.refl _) | (unfold Rs.casL; exact Kp.refl _) | (unfold Rs.msg; exact Kp.refl _) | (unfold Rs.keyL; exact Kp.refl _) | (unfold Rs.keyw; exact Kp.refl _) | (unfold Rs.bins; exact Kp.refl _) | (unfold Rs.binL_; exact Kp.refl _) | (unfold Rs.unary; exact Kp.refl _) | (unfold Rs.prim; exact Kp.refl _) | (unfold Rs.arr; exact Kp.refl _) | (unfold Rs.arrL; exact Kp.refl _) | (unfold Rs.lit; exact Kp.refl _) | (unfold Rs.braL; exact Kp.refl _) | (unfold Rs.blk; exact Kp.refl _) | (unfold Rs.stL; exact Kp.refl _))
 | f + 1 => by
  have ih := kpAll f
  constructor
  ·intro s
   unfold Rs.expr
   dsimp only
   split
   ·refine Kp.trans ?_ (ih.expr _)
    split
    ·exact ((kp_adv s).trans (kp_fail _ _ _)).trans (kp_adv _)
    ·exact (kp_adv s).trans (kp_adv _)
   ·repeat' split
    ·exact ih.keyw s
    ·exact (ih.keyw s).trans (kp_fail _ _ _)
    ·exact (ih.keyw s).trans (ih.casL _ _)
  ·intro l s
   unfold Rs.casL
   split
   ·exact ((kp_adv s).trans (ih.msg _)).trans (ih.casL _ _)
   ·exact Kp.refl s
  ·intro s
   unfold Rs.msg
   dsimp only
   repeat' split
   ·exact kp_adv s
   ·exact (kp_adv s).trans (ih.unary _)
   ·exact ih.keyL _ _ _
   ·exact kp_fail _ _ _
  ·intro n l s
   unfold Rs.keyL
   split
   ·exact ((kp_adv s).trans (ih.bins _)).trans (ih.keyL _ _ _)
   ·exact Kp.refl s
  ·intro s
   unfold Rs.keyw
   dsimp only
   split
   ·exact ih.bins s
   ·exact (ih.bins s).trans (ih.keyL _ _ _)
  ·intro s
   unfold Rs.bins
   exact (ih.unary s).trans (ih.binL_ _ _)
  ·intro n s
   unfold Rs.binL_
   dsimp only
   split
   ·exact ((kp_adv s).trans (ih.unary _)).trans (ih.binL_ _ _)
   ·exact Kp.refl s
  ·intro s
   unfold Rs.unary
   exact (ih.prim s).trans (kp_unaL L _ _ _)
  ·intro s
   unfold Rs.prim
   dsimp only
   repeat' split
   ·exact Kp.refl s
   ·exact kp_adv s
   ·exact kp_number L s
   ·exact kp_adv s
   ·exact kp_adv s
   ·exact ih.arr s
   ·exact kp_bytes L s
   ·exact ((kp_opn L s).trans (ih.expr _)).trans (kp_shut L _ _)
   ·exact ((kp_opn L s).trans (ih.braL _ _)).trans (kp_shut L _ _)
   ·exact ih.blk s
   ·exact kp_fail _ _ _
  ·intro s
   unfold Rs.arr
   exact ((kp_opn L s).trans (ih.arrL _ _)).trans (kp_shut L _ _)
  ·intro l s
   unfold Rs.arrL
   split
   ·exact (ih.lit _).trans (ih.arrL _ _)
   ·exact Kp.refl s
  ·intro s
   unfold Rs.lit
   dsimp only
   repeat' split
   ·exact kp_number L s
   ·exact ih.arr s
   ·exact kp_bytes L s
   ·exact kp_adv s
   ·exact kp_adv s
   ·exact kp_adv s
   ·exact kp_fail _ _ _
  ·intro l s
   unfold Rs.braL
   dsimp only
   split
   ·refine Kp.trans ?_ (ih.braL _ _)
    split
    ·exact (ih.expr s).trans (kp_take L _ _ _)
    ·exact ih.expr s
   ·exact Kp.refl s
  ·intro s
   unfold Rs.blk
   dsimp only
   have h1 := (kp_opn L s).trans (kp_argL L (L.length + 2) [] _)
   generalize Rs.argL L (L.length + 2) [] (opn L s) = a at *
   refine Kp.trans (Kp.trans (Kp.trans ?_ (kp_temps L _)) (ih.stL _ _ _)) (kp_shut L _ _)
   split
   ·exact h1.trans (kp_take L _ _ _)
   ·exact h1
  ·intro m l s
   unfold Rs.stL
   dsimp only
   split
   ·exact Kp.refl s
   ·have h : Kp s (Rs.expr L f (if Rs.is_ L 7 [94] s = true then adv s else s)).2 := by
     refine Kp.trans ?_ (ih.expr _)
     split
     ·exact kp_adv s
     ·exact Kp.refl s
    generalize Rs.expr L f (if Rs.is_ L 7 [94] s = true then adv s else s) = e at *
    split
    ·exact h
    ·refine Kp.trans (Kp.trans h ?_) (ih.stL _ _ _)
     split
     ·exact (kp_take L _ _ _).trans (kp_fail _ _ _)
     ·exact kp_take L _ _ _
end
end Rs
end Go.Proofs.YtjhonaglmgmpiaaGreatDoor
