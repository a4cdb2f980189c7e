/-
  Parts RsB, PwE, PxA, PxB, PxC of the proof. No statement of the seat is proved here.
-/
import Derived.Test.YtbnlnndeajjenaaGreatP04
import Derived.Test.YtbnlnndeajjenaaGreatP09
set_option maxHeartbeats 4000000
namespace Go.Proofs.YtbnlnndeajjenaaGreat
namespace Rs
open Lx Ps
structure Mv (T : List Tk) (s s' : RS) : Prop where
 at_ : s.at_ ≤ T.length → s.at_ ≤ s'.at_ ∧ s'.at_ ≤ T.length
 bad : bad s = true → bad s' = true
 dep : s'.depth = s.depth ∨ (Rs.bad s = false ∧ Rs.bad s' = true ∧ s'.depth = s.depth - 1)
structure Bd (T : List Tk) (s : RS) : Prop where
 at_ : s.at_ ≤ T.length
 lo : -1 ≤ s.depth
 hi : s.depth ≤ 100
 ok : bad s = false → 0 ≤ s.depth
section
variable {T : List Tk} {fin : Nat} {s s' s1 s2 : RS}
theorem Mv.refl (T : List Tk) (s : RS) : Mv T s s := ⟨fun h => ⟨Nat.le_refl _, h⟩, fun h => h, .inl rfl⟩
theorem Mv.trans (h : Mv T s s1) (k : Mv T s1 s2) : Mv T s s2 := by
 refine ⟨fun ha => ?_, fun hb => k.bad (h.bad hb), ?_⟩
 ·have a := h.at_ ha
  have b := k.at_ a.2
  exact ⟨Nat.le_trans a.1 b.1, b.2⟩
 ·rcases h.dep with e | ⟨e1, e2, e3⟩
  ·rcases k.dep with c | ⟨c1, c2, c3⟩
   ·exact .inl (by rw [c, e])
   ·refine .inr ⟨?_, c2, by rw [c3, e]⟩
    cases hb : Rs.bad s with
    | false => rfl
    | true => rw [h.bad hb] at c1; cases c1
  ·rcases k.dep with c | ⟨c1, _, _⟩
   ·exact .inr ⟨e1, k.bad e2, by rw [c, e3]⟩
   ·rw [e2] at c1; cases c1
theorem Bd.mv (h : Bd T s) (m : Mv T s s') : Bd T s' := by
 refine ⟨(m.at_ h.at_).2, ?_, ?_, fun hk => ?_⟩
 ·have := h.lo
  rcases m.dep with e | ⟨e1, _, e3⟩
  ·omega
  ·have := h.ok e1; omega
 ·have := h.hi
  rcases m.dep with e | ⟨_, _, e3⟩ <;> omega
 ·rcases m.dep with e | ⟨e1, e2, _⟩
  ·rw [e]
   refine h.ok ?_
   cases hb : Rs.bad s with
   | false => rfl
   | true => rw [m.bad hb] at hk; cases hk
  ·rw [e2] at hk; cases hk
theorem bad_fail (s : RS) (e p : Nat) : bad (fail s e p) = true := by
 unfold bad fail
 cases s.wrong <;> rfl
theorem fail_ok (h : bad s = false) (e p : Nat) : fail s e p = { s with wrong := some (p, e) } := by
 unfold bad at h
 unfold fail
 cases hs : s.wrong with
 | none => rfl
 | some x => rw [hs] at h; cases h
theorem fail_bad (h : bad s = true) (e p : Nat) : fail s e p = s := by
 obtain ⟨a, d, w⟩ := s
 cases w with
 | none => cases h
 | some x => rfl
theorem mv_adv (h : s.at_ < T.length) : Mv T s (adv s) := ⟨fun _ => ⟨Nat.le_succ _, h⟩, fun h => h, .inl rfl⟩
theorem mv_fail (T : List Tk) (s : RS) (e p : Nat) : Mv T s (fail s e p) := ⟨fun h => ⟨Nat.le_refl _, h⟩, fun _ => bad_fail s e p, .inl rfl⟩
theorem tok_end (h : T.length ≤ s.at_) : (tok (toks T fin) s).1 = 0 := by
 unfold tok toks
 rw [List.getD_eq_getElem?_getD]
 rcases Nat.lt_or_ge s.at_ (T.length + 2) with h2 | h2
 ·rw [List.getElem?_append_right h]
  have : s.at_ - T.length = 0 ∨ s.at_ - T.length = 1 := by omega
  rcases this with e | e <;> rw [e] <;> rfl
 ·rw [List.getElem?_eq_none (by simp; omega)]; rfl
theorem tok_lt (h : (tok (toks T fin) s).1 ≠ 0) : s.at_ < T.length := by
 rcases Nat.lt_or_ge s.at_ T.length with a | a
 ·exact a
 ·exact absurd (tok_end a) h
theorem tok1_lt (h : (tok1 (toks T fin) s).1 ≠ 0) : s.at_ + 1 < T.length := tok_lt (s := adv s) (T := T) (fin := fin) h
theorem is_split {L : List Tk} {k : Nat} {x : Txt} (h : is_ L k x s = true) : bad s = false ∧ (tok L s).1 = k ∧ (x.isEmpty || (tok L s).2.1 == x) = true := by
 unfold is_ at h
 rw [Bool.and_eq_true, Bool.and_eq_true] at h
 obtain ⟨⟨h1, h2⟩, h3⟩ := h
 exact ⟨by simpa using h1, by simpa using h2, h3⟩
theorem is_lt {k : Nat} {x : Txt} (hk : k ≠ 0) (h : is_ (toks T fin) k x s = true) : s.at_ < T.length := by
 obtain ⟨_, e, _⟩ := is_split h
 exact tok_lt (by rw [e]; exact hk)
theorem is_ok {L : List Tk} {k : Nat} {x : Txt} (h : is_ L k x s = true) : bad s = false := (is_split h).1
theorem is_no {L : List Tk} {k : Nat} {x : Txt} (h : bad s = true) : is_ L k x s = false := by unfold is_; rw [h]; rfl
theorem bin_lt (h : bin (toks T fin) s = true) : s.at_ < T.length ∧ bad s = false := by
 unfold bin at h
 rw [Bool.or_eq_true] at h
 rcases h with h | h
 ·exact ⟨is_lt (by decide) h, is_ok h⟩
 ·exact ⟨is_lt (by decide) h, is_ok h⟩
theorem bin_no {L : List Tk} (h : bad s = true) : bin L s = false := by unfold bin; rw [is_no h, is_no h]; rfl
theorem neg_lt (h : neg (toks T fin) s = true) : s.at_ + 1 < T.length ∧ bad s = false := by
 unfold neg at h
 rw [Bool.and_eq_true, Bool.and_eq_true] at h
 refine ⟨tok1_lt (fin := fin) ?_, is_ok h.1.1⟩
 have : (tok1 (toks T fin) s).1 = 4 := by simpa using h.1.2
 rw [this]
 decide
theorem mv_take {k : Nat} (hk : k ≠ 0) (x : Txt) (s : RS) : Mv T s (take (toks T fin) k x s).2 := by
 unfold take
 split
 ·rename_i h; exact mv_adv (is_lt hk h)
 ·exact mv_fail _ _ _ _
theorem take_adv {k : Nat} {x : Txt} (h : bad (take (toks T fin) k x s).2 = false) : (take (toks T fin) k x s).2 = adv s ∧ is_ (toks T fin) k x s = true := by
 unfold take at h ⊢
 split at h
 ·rename_i hc; rw [if_pos hc]; exact ⟨rfl, hc⟩
 ·rw [bad_fail] at h; cases h
theorem mv_decl (l : List Txt) (s : RS) : Mv T s (decl (toks T fin) l s).2 := by
 unfold decl
 have h := mv_take (T := T) (fin := fin) (k := 1) (by decide) [] s
 dsimp only
 repeat' split
 ·exact h
 ·exact h.trans (mv_fail _ _ _ _)
 ·exact h
theorem decl_adv {l : List Txt} (h : bad (decl (toks T fin) l s).2 = false) : (decl (toks T fin) l s).2.at_ = s.at_ + 1 ∧ s.at_ < T.length ∧ (decl (toks T fin) l s).1.length = l.length + 1 := by
 unfold decl at h ⊢
 dsimp only at h ⊢
 split at h
 ·rename_i hb; rw [hb] at h; cases h
 ·rename_i hb
  rw [if_neg hb]
  have hb' : bad (take (toks T fin) 1 [] s).2 = false := by simpa using hb
  obtain ⟨e1, e2⟩ := take_adv hb'
  split at h
  ·rw [bad_fail] at h; cases h
  ·rename_i hc
   refine ⟨?_, is_lt (by decide) e2, by simp⟩
   dsimp only
   rw [if_neg hc, e1]
   rfl
theorem mv_tmpL : ∀ (f : Nat) (l : List Txt) (s : RS), Mv T s (tmpL (toks T fin) f l s).2
 | 0, _, s => Mv.refl T s
 | f + 1, l, s => by
  unfold tmpL
  split
  ·exact (mv_decl l s).trans (mv_tmpL f _ _)
  ·exact Mv.refl T s
theorem tmpL_stop {L : List Tk} {f : Nat} {l : List Txt} (h : (!bad s && !is_ L 7 [124] s) = false) : tmpL L f l s = (l, s) := by
 cases f with
 | zero => rfl
 | succ f => unfold tmpL; rw [if_neg (by rw [h]; decide)]
theorem tmpL_end : ∀ (f : Nat) (l : List Txt) (s : RS), s.at_ ≤ T.length → T.length < s.at_ + f → bad (tmpL (toks T fin) f l s).2 = false → is_ (toks T fin) 7 [124] (tmpL (toks T fin) f l s).2 = true
 | 0, l, s, h, h1, _ => by omega
 | f + 1, l, s, h, h1, hk => by
  unfold tmpL at hk ⊢
  split at hk
  ·rename_i hc
   rw [if_pos hc]
   by_cases hd : bad (decl (toks T fin) l s).2 = false
   ·have := decl_adv hd
    exact tmpL_end f _ _ (by omega) (by omega) hk
   ·have hd' : bad (decl (toks T fin) l s).2 = true := by simpa using hd
    rw [tmpL_stop (by rw [hd']; rfl)] at hk
    exact absurd hk hd
  ·rename_i hc
   rw [if_neg hc]
   rw [hk] at hc
   simpa using hc
theorem mv_temps (_h : s.at_ ≤ T.length) : Mv T s (temps (toks T fin) s).2 := by
 unfold temps
 dsimp only
 split
 ·rename_i hi
  have hlt := is_lt (by decide) hi
  have h1 := (mv_adv hlt).trans (mv_tmpL (T := T) (fin := fin) ((toks T fin).length + 2) [] (adv s))
  have he := tmpL_end (T := T) (fin := fin) ((toks T fin).length + 2) [] (adv s) hlt (by rw [toks_len]; show T.length < s.at_ + 1 + _; omega)
  generalize tmpL (toks T fin) ((toks T fin).length + 2) [] (adv s) = r at *
  show Mv T s (if bad r.2 = true then r.2 else adv r.2)
  split
  ·exact h1
  ·rename_i hb
   exact h1.trans (mv_adv (is_lt (by decide) (he (by simpa using hb))))
 ·exact Mv.refl T s
theorem mv_number (h : (is_ (toks T fin) 4 [] s || neg (toks T fin) s) = true) : Mv T s (number (toks T fin) s).2 := by
 unfold number
 split
 ·rename_i hn
  have := (neg_lt hn).1
  exact (mv_adv (by omega)).trans (mv_adv this)
 ·rename_i hn
  rw [Bool.or_eq_true] at h
  rcases h with h | h
  ·exact mv_adv (is_lt (by decide) h)
  ·exact absurd h hn
theorem number_adv : s.at_ < (number (toks T fin) s).2.at_ := by
 unfold number
 split
 ·show s.at_ < s.at_ + 1 + 1; omega
 ·exact Nat.lt_succ_self _
theorem mv_bytL : ∀ (f : Nat) (l : List Tr) (s : RS), Mv T s (bytL (toks T fin) f l s).2
 | 0, _, s => Mv.refl T s
 | f + 1, l, s => by
  unfold bytL
  dsimp only
  have h := mv_take (T := T) (fin := fin) (k := 4) (by decide) [] s
  split
  ·split
   ·exact h
   ·refine Mv.trans ?_ (mv_bytL f _ _)
    split
    ·exact h.trans (mv_fail _ _ _ _)
    ·exact h
  ·exact Mv.refl T s
theorem take_dep {L : List Tk} {k : Nat} {x : Txt} : (take L k x s).2.depth = s.depth := by
 unfold take
 split <;> rfl
theorem mv_brk (hk : bad s = false) (hlt : s.at_ < T.length) (h : Mv T (opn (toks T fin) s) s2) (x : Txt) : Mv T s (shut (toks T fin) x s2) := by
 have ht := mv_take (T := T) (fin := fin) (k := 7) (by decide) x s2
 have hd : (take (toks T fin) 7 x s2).2.depth = s2.depth := take_dep
 unfold shut
 dsimp only
 by_cases e : s.depth = 100
 ·have eo : opn (toks T fin) s = fail s 125 (tok (toks T fin) s).2.2 := by unfold opn; rw [if_pos e]
  rw [eo] at h
  have hb2 := h.bad (bad_fail _ _ _)
  refine ⟨fun ha => ?_, fun hb => (by rw [hk] at hb; cases hb), .inr ⟨hk, ht.bad hb2, ?_⟩⟩
  ·have a := h.at_ ha
   have b := ht.at_ a.2
   exact ⟨Nat.le_trans a.1 b.1, b.2⟩
  ·rcases h.dep with c | ⟨c, _, _⟩
   ·show (take (toks T fin) 7 x s2).2.depth - 1 = _
    rw [hd, c]
    rfl
   ·rw [bad_fail] at c; cases c
 ·have eo : opn (toks T fin) s = adv { s with depth := s.depth + 1 } := by unfold opn; rw [if_neg e]
  rw [eo] at h
  refine ⟨fun ha => ?_, fun hb => (by rw [hk] at hb; cases hb), ?_⟩
  ·have a := h.at_ hlt
   have a1 : s.at_ + 1 ≤ s2.at_ := a.1
   have b := ht.at_ a.2
   exact ⟨by show s.at_ ≤ (take (toks T fin) 7 x s2).2.at_; omega, b.2⟩
  ·show (take (toks T fin) 7 x s2).2.depth - 1 = _ ∨ (_ ∧ bad (take (toks T fin) 7 x s2).2 = true ∧ (take (toks T fin) 7 x s2).2.depth - 1 = _)
   rw [hd]
   rcases h.dep with c | ⟨_, c2, c3⟩
   ·left
    have c' : s2.depth = s.depth + 1 := c
    omega
   ·right
    have c' : s2.depth = s.depth + 1 - 1 := c3
    exact ⟨hk, ht.bad c2, by omega⟩
theorem brk_adv (h : Mv T (opn (toks T fin) s) s2) (hlt : s.at_ < T.length) {x : Txt} (hk : bad (shut (toks T fin) x s2) = false) : s.at_ < (shut (toks T fin) x s2).at_ := by
 have ht := mv_take (T := T) (fin := fin) (k := 7) (by decide) x s2
 have hk' : bad (take (toks T fin) 7 x s2).2 = false := hk
 have h2 : bad s2 = false := by
  cases hb : bad s2 with
  | false => rfl
  | true => rw [ht.bad hb] at hk'; cases hk'
 have h3 : bad (opn (toks T fin) s) = false := by
  cases hb : bad (opn (toks T fin) s) with
  | false => rfl
  | true => rw [h.bad hb] at h2; cases h2
 by_cases e : s.depth = 100
 ·have eo : opn (toks T fin) s = fail s 125 (tok (toks T fin) s).2.2 := by unfold opn; rw [if_pos e]
  rw [eo, bad_fail] at h3
  cases h3
 ·have eo : opn (toks T fin) s = adv { s with depth := s.depth + 1 } := by unfold opn; rw [if_neg e]
  rw [eo] at h
  have a := h.at_ hlt
  have b := ht.at_ a.2
  have a1 : s.at_ + 1 ≤ s2.at_ := a.1
  show s.at_ < (take (toks T fin) 7 x s2).2.at_
  omega
theorem mv_bytes (hk : bad s = false) (hlt : s.at_ < T.length) : Mv T s (bytes (toks T fin) s).2 := mv_brk hk hlt (mv_bytL _ [] _) _
theorem mv_unaL : ∀ (f : Nat) (n : Tr) (s : RS), Mv T s (unaL (toks T fin) f n s).2
 | 0, n, s => Mv.refl T s
 | f + 1, n, s => by
  unfold unaL
  split
  ·rename_i h; exact (mv_adv (is_lt (by decide) h)).trans (mv_unaL f _ _)
  ·exact Mv.refl T s
theorem mv_argL : ∀ (f : Nat) (l : List Txt) (s : RS), Mv T s (argL (toks T fin) f l s).2
 | 0, _, s => Mv.refl T s
 | f + 1, l, s => by
  unfold argL
  split
  ·rename_i h; exact ((mv_adv (is_lt (by decide) h)).trans (mv_decl l _)).trans (mv_argL f _ _)
  ·exact Mv.refl T s
structure MvAll (T : List Tk) (fin f : Nat) : Prop where
 expr : ∀ s, s.at_ ≤ T.length → Mv T s (expr (toks T fin) f s).2
 casL : ∀ l s, s.at_ ≤ T.length → Mv T s (casL (toks T fin) f l s).2
 msg : ∀ s, s.at_ ≤ T.length → Mv T s (msg (toks T fin) f s).2
 keyL : ∀ n l s, s.at_ ≤ T.length → Mv T s (keyL (toks T fin) f n l s).2.2
 keyw : ∀ s, s.at_ ≤ T.length → Mv T s (keyw (toks T fin) f s).2
 bins : ∀ s, s.at_ ≤ T.length → Mv T s (bins (toks T fin) f s).2
 binL_ : ∀ n s, s.at_ ≤ T.length → Mv T s (binL_ (toks T fin) f n s).2
 unary : ∀ s, s.at_ ≤ T.length → Mv T s (unary (toks T fin) f s).2
 prim : ∀ s, s.at_ ≤ T.length → Mv T s (prim (toks T fin) f s).2
 arr : ∀ s, bad s = false → s.at_ < T.length → Mv T s (arr (toks T fin) f s).2
 arrL : ∀ l s, s.at_ ≤ T.length → Mv T s (arrL (toks T fin) f l s).2
 lit : ∀ s, s.at_ ≤ T.length → Mv T s (lit (toks T fin) f s).2
 braL : ∀ l s, s.at_ ≤ T.length → Mv T s (braL (toks T fin) f l s).2
 blk : ∀ s, bad s = false → s.at_ < T.length → Mv T s (blk (toks T fin) f s).2
 stL : ∀ m l s, s.at_ ≤ T.length → Mv T s (stL (toks T fin) f m l s).2
theorem opn_le (hlt : s.at_ < T.length) : (opn (toks T fin) s).at_ ≤ T.length := by
 unfold opn
 split
 ·exact Nat.le_of_lt hlt
 ·exact hlt
theorem mvAll : ∀ f, MvAll T fin f
 | 0 => by
  constructor <;> (intros; first | exact Mv.refl _ _ | (unfold Rs.expr; exact Mv.refl _ _) | (unfold Rs.casL; exact Mv.refl _ _) | (unfold Rs.msg; exact Mv.refl _ _) | (unfold Rs.keyL; exact Mv.refl _ _) | (unfold Rs.keyw; exact Mv.refl _ _) | (unfold Rs.bins; exact Mv.refl _ _) | (unfold Rs.binL_; exact Mv.refl _ _) | (unfold Rs.unary; exact Mv.refl _ _) | (unfold Rs.prim; exact Mv.refl _ _) | (unfold Rs.arr; exact Mv.refl _ _) | (unfold Rs.arrL; exact Mv.refl _ _) | (unfold Rs.lit; exact Mv.refl _ _) | (unfold Rs.braL; exact Mv.refl _ _) | (unfold Rs.blk; exact Mv.refl _ _) | (unfold Rs.stL; exact Mv.refl _ _))
 | f + 1 => by
  have ih := mvAll f
  have go : ∀ {a b c : RS}, Mv T a b → a.at_ ≤ T.length → (b.at_ ≤ T.length → Mv T b c) → Mv T a c := fun h ha k => h.trans (k (h.at_ ha).2)
  constructor
  ·intro s hs
   unfold Rs.expr
   dsimp only
   split
   ·rename_i hc
    rw [Bool.and_eq_true, Bool.and_eq_true] at hc
    have h1 := is_lt (by decide) hc.1.1
    have h2 : s.at_ + 1 < T.length := tok1_lt (fin := fin) (by
     have : (tok1 (toks T fin) s).1 = 7 := by simpa using hc.1.2
     rw [this]; decide)
    have ha := mv_adv h1
    split
    ·exact go ((ha.trans (mv_fail _ _ _ _)).trans (mv_adv h2)) hs (ih.expr _)
    ·exact go (ha.trans (mv_adv h2)) hs (ih.expr _)
   ·repeat' split
    ·exact ih.keyw s hs
    ·exact (ih.keyw s hs).trans (mv_fail _ _ _ _)
    ·exact go (ih.keyw s hs) hs (ih.casL _ _)
  ·intro l s hs
   unfold Rs.casL
   split
   ·rename_i h
    exact go (go (mv_adv (is_lt (by decide) h)) hs (ih.msg _)) hs (ih.casL _ _)
   ·exact Mv.refl T s
  ·intro s hs
   unfold Rs.msg
   dsimp only
   split
   ·rename_i h; exact mv_adv (is_lt (by decide) h)
   ·split
    ·rename_i h; exact go (mv_adv (bin_lt h).1) hs (ih.unary _)
    ·split
     ·exact ih.keyL _ _ _ hs
     ·exact mv_fail _ _ _ _
  ·intro n l s hs
   unfold Rs.keyL
   split
   ·rename_i h; exact go (go (mv_adv (is_lt (by decide) h)) hs (ih.bins _)) hs (ih.keyL _ _ _)
   ·exact Mv.refl T s
  ·intro s hs
   unfold Rs.keyw
   dsimp only
   split
   ·exact ih.bins s hs
   ·exact go (ih.bins s hs) hs (ih.keyL _ _ _)
  ·intro s hs
   unfold Rs.bins
   exact go (ih.unary s hs) hs (ih.binL_ _ _)
  ·intro n s hs
   unfold Rs.binL_
   dsimp only
   split
   ·rename_i h; exact go (go (mv_adv (bin_lt h).1) hs (ih.unary _)) hs (ih.binL_ _ _)
   ·exact Mv.refl T s
  ·intro s hs
   unfold Rs.unary
   exact (ih.prim s hs).trans (mv_unaL _ _ _)
  ·intro s hs
   unfold Rs.prim
   dsimp only
   split
   ·exact Mv.refl T s
   ·split
    ·rename_i h; exact mv_adv (is_lt (by decide) h)
    ·split
     ·rename_i h; exact mv_number h
     ·split
      ·rename_i h; exact mv_adv (is_lt (by decide) h)
      ·split
       ·rename_i h; exact mv_adv (is_lt (by decide) h)
       ·split
        ·rename_i h; exact ih.arr s (is_ok h) (is_lt (by decide) h)
        ·split
         ·rename_i h; exact mv_bytes (is_ok h) (is_lt (by decide) h)
         ·split
          ·rename_i h; exact mv_brk (is_ok h) (is_lt (by decide) h) (ih.expr _ (opn_le (is_lt (by decide) h))) _
          ·split
           ·rename_i h; exact mv_brk (is_ok h) (is_lt (by decide) h) (ih.braL _ _ (opn_le (is_lt (by decide) h))) _
           ·split
            ·rename_i h; exact ih.blk s (is_ok h) (is_lt (by decide) h)
            ·exact mv_fail _ _ _ _
  ·intro s hk hlt
   unfold Rs.arr
   exact mv_brk hk hlt (ih.arrL _ _ (opn_le hlt)) _
  ·intro l s hs
   unfold Rs.arrL
   split
   ·exact go (ih.lit _ hs) hs (ih.arrL _ _)
   ·exact Mv.refl T s
  ·intro s hs
   unfold Rs.lit
   dsimp only
   split
   ·rename_i h; exact mv_number h
   ·split
    ·rename_i h
     rw [Bool.or_eq_true] at h
     rcases h with h | h
     ·exact ih.arr s (is_ok h) (is_lt (by decide) h)
     ·exact ih.arr s (is_ok h) (is_lt (by decide) h)
    ·split
     ·rename_i h; exact mv_bytes (is_ok h) (is_lt (by decide) h)
     ·split
      ·rename_i h; exact mv_adv (is_lt (by decide) h)
      ·split
       ·rename_i h
        rw [Bool.and_eq_true] at h
        exact mv_adv (is_lt (by decide) h.1)
       ·split
        ·rename_i h
         simp only [Bool.or_eq_true] at h
         rcases h with (((h | h) | h) | h) | h
         all_goals exact mv_adv (is_lt (by decide) h)
        ·exact mv_fail _ _ _ _
  ·intro l s hs
   unfold Rs.braL
   dsimp only
   split
   ·refine go ?_ hs (ih.braL _ _)
    split
    ·exact (ih.expr s hs).trans (mv_take (by decide) _ _)
    ·exact ih.expr s hs
   ·exact Mv.refl T s
  ·intro s hk hlt
   unfold Rs.blk
   dsimp only
   have ho := opn_le (fin := fin) hlt
   have h1 := mv_argL (T := T) (fin := fin) ((toks T fin).length + 2) [] (opn (toks T fin) s)
   generalize Rs.argL (toks T fin) ((toks T fin).length + 2) [] (opn (toks T fin) s) = a at *
   refine mv_brk hk hlt (go (go (b := if (!a.1.isEmpty && !is_ (toks T fin) 7 [93] a.2) = true then (take (toks T fin) 7 [124] a.2).2 else a.2) ?_ ho mv_temps) ho (ih.stL _ _ _)) _
   split
   ·exact h1.trans (mv_take (by decide) _ _)
   ·exact h1
  ·intro m l s hs
   unfold Rs.stL
   dsimp only
   split
   ·exact Mv.refl T s
   ·have h : Mv T s (Rs.expr (toks T fin) f (if Rs.is_ (toks T fin) 7 [94] s = true then adv s else s)).2 := by
     split
     ·rename_i h; exact go (mv_adv (is_lt (by decide) h)) hs (ih.expr _)
     ·exact ih.expr _ hs
    generalize Rs.expr (toks T fin) f (if Rs.is_ (toks T fin) 7 [94] s = true then adv s else s) = e at *
    split
    ·exact h
    ·refine go (h.trans ?_) hs (ih.stL _ _ _)
     split
     ·exact (mv_take (by decide) _ _).trans (mv_fail _ _ _ _)
     ·exact mv_take (by decide) _ _
theorem prim_adv {f : Nat} (hf : 2 ≤ f) (_hs : s.at_ ≤ T.length) (hk : bad s = false) (h : bad (prim (toks T fin) f s).2 = false) : s.at_ < (prim (toks T fin) f s).2.at_ := by
 obtain ⟨f, rfl⟩ : ∃ n, f = n + 2 := ⟨f - 2, by omega⟩
 have ih1 := mvAll (T := T) (fin := fin) (f + 1)
 have ih := mvAll (T := T) (fin := fin) f
 rw [Rs.prim] at h ⊢
 dsimp only at h ⊢
 rw [hk] at h ⊢
 simp only [Bool.false_eq_true, if_false] at h ⊢
 split at h
 ·rename_i c; rw [if_pos c]; exact Nat.lt_succ_self _
 rename_i c; rw [if_neg c]
 split at h
 ·rename_i c; rw [if_pos c]; exact number_adv
 rename_i c; rw [if_neg c]
 split at h
 ·rename_i c; rw [if_pos c]; exact Nat.lt_succ_self _
 rename_i c; rw [if_neg c]
 split at h
 ·rename_i c; rw [if_pos c]; exact Nat.lt_succ_self _
 rename_i c; rw [if_neg c]
 split at h
 ·rename_i c
  rw [if_pos c]
  rw [Rs.arr] at h ⊢
  have hl := is_lt (by decide) c
  exact brk_adv (ih.arrL _ _ (opn_le hl)) hl h
 rename_i c; rw [if_neg c]
 split at h
 ·rename_i c
  rw [if_pos c]
  have hl := is_lt (by decide) c
  exact brk_adv (mv_bytL _ _ _) hl h
 rename_i c; rw [if_neg c]
 split at h
 ·rename_i c
  rw [if_pos c]
  have hl := is_lt (by decide) c
  exact brk_adv (ih1.expr _ (opn_le hl)) hl h
 rename_i c; rw [if_neg c]
 split at h
 ·rename_i c
  rw [if_pos c]
  have hl := is_lt (by decide) c
  exact brk_adv (ih1.braL _ _ (opn_le hl)) hl h
 rename_i c; rw [if_neg c]
 split at h
 ·rename_i c
  rw [if_pos c]
  have hl := is_lt (by decide) c
  rw [Rs.blk] at h ⊢
  dsimp only at h ⊢
  have ho := opn_le (fin := fin) hl
  have h1 := mv_argL (T := T) (fin := fin) ((toks T fin).length + 2) [] (opn (toks T fin) s)
  generalize Rs.argL (toks T fin) ((toks T fin).length + 2) [] (opn (toks T fin) s) = a at *
  have go : ∀ {a b c : RS}, Mv T a b → a.at_ ≤ T.length → (b.at_ ≤ T.length → Mv T b c) → Mv T a c := fun h ha k => h.trans (k (h.at_ ha).2)
  refine brk_adv (go (go (b := if (!a.1.isEmpty && !is_ (toks T fin) 7 [93] a.2) = true then (take (toks T fin) 7 [124] a.2).2 else a.2) ?_ ho mv_temps) ho (ih.stL _ _ _)) hl h
  split
  ·exact h1.trans (mv_take (by decide) _ _)
  ·exact h1
 rename_i c; rw [if_neg c]
 rw [bad_fail] at h
 cases h
theorem lit_adv {f : Nat} (hf : 2 ≤ f) (h : bad (lit (toks T fin) f s).2 = false) : s.at_ < (lit (toks T fin) f s).2.at_ := by
 obtain ⟨f, rfl⟩ : ∃ n, f = n + 2 := ⟨f - 2, by omega⟩
 have ih := mvAll (T := T) (fin := fin) f
 rw [Rs.lit] at h ⊢
 try dsimp only at h ⊢
 split at h
 ·rename_i c; rw [if_pos c]; exact number_adv
 rename_i c; rw [if_neg c]
 split at h
 ·rename_i c
  rw [if_pos c]
  rw [Rs.arr] at h ⊢
  have hl : s.at_ < T.length := by
   rw [Bool.or_eq_true] at c
   rcases c with c | c <;> exact is_lt (by decide) c
  exact brk_adv (ih.arrL _ _ (opn_le hl)) hl h
 rename_i c; rw [if_neg c]
 split at h
 ·rename_i c
  rw [if_pos c]
  have hl := is_lt (by decide) c
  exact brk_adv (mv_bytL _ _ _) hl h
 rename_i c; rw [if_neg c]
 split at h
 ·rename_i c; rw [if_pos c]; exact Nat.lt_succ_self _
 rename_i c; rw [if_neg c]
 split at h
 ·rename_i c; rw [if_pos c]; exact Nat.lt_succ_self _
 rename_i c; rw [if_neg c]
 split at h
 ·rename_i c; rw [if_pos c]; exact Nat.lt_succ_self _
 rename_i c; rw [if_neg c]
 rw [bad_fail] at h
 cases h
theorem ok_back (m : Mv T s s') (h : bad s' = false) : bad s = false := by
 cases hb : bad s with
 | false => rfl
 | true => rw [m.bad hb] at h; cases h
theorem unary_adv {f : Nat} (hf : 3 ≤ f) (hs : s.at_ ≤ T.length) (h : bad (unary (toks T fin) f s).2 = false) : s.at_ < (unary (toks T fin) f s).2.at_ := by
 obtain ⟨f, rfl⟩ : ∃ n, f = n + 1 := ⟨f - 1, by omega⟩
 have ih := mvAll (T := T) (fin := fin) f
 rw [Rs.unary] at h ⊢
 have m := mv_unaL (T := T) (fin := fin) ((toks T fin).length + 2) (prim (toks T fin) f s).1 (prim (toks T fin) f s).2
 have h1 := ok_back m h
 have mp := ih.prim s hs
 have := prim_adv (f := f) (by omega) hs (ok_back mp h1) h1
 have := (m.at_ (mp.at_ hs).2).1
 omega
theorem bins_adv {f : Nat} (hf : 4 ≤ f) (hs : s.at_ ≤ T.length) (h : bad (bins (toks T fin) f s).2 = false) : s.at_ < (bins (toks T fin) f s).2.at_ := by
 obtain ⟨f, rfl⟩ : ∃ n, f = n + 1 := ⟨f - 1, by omega⟩
 have ih := mvAll (T := T) (fin := fin) f
 rw [Rs.bins] at h ⊢
 have mp := ih.unary s hs
 have m := ih.binL_ (unary (toks T fin) f s).1 (unary (toks T fin) f s).2 (mp.at_ hs).2
 have := unary_adv (f := f) (by omega) hs (ok_back m h)
 have := (m.at_ (mp.at_ hs).2).1
 omega
theorem keyw_adv {f : Nat} (hf : 5 ≤ f) (hs : s.at_ ≤ T.length) (h : bad (keyw (toks T fin) f s).2 = false) : s.at_ < (keyw (toks T fin) f s).2.at_ := by
 obtain ⟨f, rfl⟩ : ∃ n, f = n + 1 := ⟨f - 1, by omega⟩
 have ih := mvAll (T := T) (fin := fin) f
 rw [Rs.keyw] at h ⊢
 dsimp only at h ⊢
 have mp := ih.bins s hs
 split at h
 ·rename_i c
  rw [if_pos c]
  exact bins_adv (by omega) hs h
 ·rename_i c
  rw [if_neg c]
  have m := ih.keyL [] [(bins (toks T fin) f s).1] (bins (toks T fin) f s).2 (mp.at_ hs).2
  have := bins_adv (f := f) (by omega) hs (ok_back m h)
  have := (m.at_ (mp.at_ hs).2).1
  show s.at_ < (keyL (toks T fin) f [] [(bins (toks T fin) f s).1] (bins (toks T fin) f s).2).2.2.at_
  omega
theorem expr_adv {f : Nat} (hf : 6 ≤ f) (hs : s.at_ ≤ T.length) (h : bad (expr (toks T fin) f s).2 = false) : s.at_ < (expr (toks T fin) f s).2.at_ := by
 obtain ⟨f, rfl⟩ : ∃ n, f = n + 1 := ⟨f - 1, by omega⟩
 have ih := mvAll (T := T) (fin := fin) f
 rw [Rs.expr] at h ⊢
 dsimp only at h ⊢
 split at h
 ·rename_i c
  rw [if_pos c]
  have c' := c
  rw [Bool.and_eq_true, Bool.and_eq_true] at c'
  have h2 : s.at_ + 1 < T.length := tok1_lt (fin := fin) (by
   have : (tok1 (toks T fin) s).1 = 7 := by simpa using c'.1.2
   rw [this]; decide)
  have key : ∀ r : RS, r.at_ = s.at_ + 2 → s.at_ < (expr (toks T fin) f r).2.at_ := fun r e => by
   have := ((ih.expr r (by omega)).at_ (by omega)).1
   omega
  refine key _ ?_
  split <;> rfl
 ·rename_i c
  rw [if_neg c]
  have mp := ih.keyw s hs
  have ka : bad (keyw (toks T fin) f s).2 = false → s.at_ < (keyw (toks T fin) f s).2.at_ := fun h => keyw_adv (by omega) hs h
  split at h
  ·rename_i c; rw [if_pos c]; exact ka h
  rename_i c; rw [if_neg c]
  split at h
  ·rw [bad_fail] at h; cases h
  rename_i c; rw [if_neg c]
  generalize Rs.keyw (toks T fin) f s = k at *
  have m := ih.casL [k.1.nodes.headD Tr.zero, nd 7 k.1.name k.1.nodes.tail k.1.place] k.2 (mp.at_ hs).2
  have := (m.at_ (mp.at_ hs).2).1
  show s.at_ < (casL (toks T fin) f _ k.2).2.at_
  have := ka (ok_back m h)
  omega
theorem prim_bad {L : List Tk} {f : Nat} (h : bad s = true) : prim L f s = (Tr.zero, s) := by
 cases f with
 | zero => unfold Rs.prim; rfl
 | succ f => unfold Rs.prim; rw [if_pos h]
theorem unaL_stop {L : List Tk} {f : Nat} {n : Tr} (h : is_ L 1 [] s = false) : unaL L f n s = (n, s) := by
 cases f with
 | zero => rfl
 | succ f => unfold unaL; rw [if_neg (by rw [h]; decide)]
theorem unary_bad {L : List Tk} {f : Nat} (h : bad s = true) : unary L f s = (Tr.zero, s) := by
 cases f with
 | zero => unfold Rs.unary; rfl
 | succ f => unfold Rs.unary; rw [prim_bad h, unaL_stop (is_no h)]
theorem binL_stop {L : List Tk} {f : Nat} {n : Tr} (h : bin L s = false) : binL_ L f n s = (n, s) := by
 cases f with
 | zero => unfold Rs.binL_; rfl
 | succ f => unfold Rs.binL_; rw [if_neg (by rw [h]; decide)]
theorem bins_bad {L : List Tk} {f : Nat} (h : bad s = true) : bins L f s = (Tr.zero, s) := by
 cases f with
 | zero => unfold Rs.bins; rfl
 | succ f => unfold Rs.bins; rw [unary_bad h, binL_stop (bin_no h)]
theorem keyw_bad {L : List Tk} {f : Nat} (h : bad s = true) : keyw L f s = (Tr.zero, s) := by
 cases f with
 | zero => unfold Rs.keyw; rfl
 | succ f => unfold Rs.keyw; dsimp only; rw [bins_bad h, if_pos (by rw [is_no h]; rfl)]
theorem expr_bad {L : List Tk} {f : Nat} (h : bad s = true) : expr L f s = (Tr.zero, s) := by
 cases f with
 | zero => unfold Rs.expr; rfl
 | succ f =>
  unfold Rs.expr
  dsimp only
  rw [if_neg (by rw [is_no h]; simp), keyw_bad h, if_pos (by rw [is_no h]; rfl)]
theorem stL_bad {L : List Tk} {f : Nat} {m : Txt} {l : List Tr} (h : bad s = true) : stL L f m l s = (l, s) := by
 cases f with
 | zero => unfold Rs.stL; rfl
 | succ f => unfold Rs.stL; rw [if_pos (by rw [h]; rfl)]
def rem (T : List Tk) (s : RS) : Nat := 10 * (T.length - s.at_)
theorem rem_adv (h : s.at_ < s'.at_) (hlt : s.at_ < T.length) : rem T s' + 10 ≤ rem T s := by unfold rem; omega
theorem rem_le (h : s.at_ ≤ s'.at_) : rem T s' ≤ rem T s := by unfold rem; omega
end
end Rs
end Go.Proofs.YtbnlnndeajjenaaGreat
namespace Go.Proofs.YtbnlnndeajjenaaGreat
open Go.RowKit
theorem ret26x {fn : Func} {p u1 u2 : Tmp} (h : fn.results = #[.cell p 26, .tmp u1, .tmp u2]) (tmps : Array Value) (w : World) {k : Nat} {x0 x1 x2 x3 x4 x5 x6 : Value} (hp : tmps.getD p undef = .pointer (some ⟨k, 0, none⟩)) (hb : Blk w k 26 #[x0, x1, x2, x3, x4, x5, x6]) :
  (results fn tmps).run Tryz.prog w = .ok (.tuple #[.agg #[x0, x1, x2, x3, x4, x5, x6], tmps.getD u1 undef, tmps.getD u2 undef]) w := by
 have hp' : tmps[p]?.getD undef = .pointer (some ⟨k, 0, none⟩) := by simpa using hp
 simp [results, h, hp', asAddr, run_loadVar_row w k 26 26 _ (0, 0) _ hb Tryz.underlying26 rfl (by kernel_rfl)]
theorem PA.flt {w : World} {g c fin : Nat} {A : Option Addr} {T : List Lx.Tk} {s : Ps.PS} (h : PA w g A c T fin s) {x : Nat × Nat} (hs : s.fault = some x) : ∃ k, k ≠ g ∧ k < w.heap.size ∧ w.cell? ⟨g, 4, none⟩ = some (.pointer (some ⟨k, 0, none⟩)) ∧ w.cell? ⟨k, 0, none⟩ = some (.int .i64 (x.1 : Int)) ∧ w.cell? ⟨k, 1, none⟩ = some (.int .i64 (x.2 : Int)) ∧ Blk w k 72 #[.int .i64 (x.1 : Int), .int .i64 (x.2 : Int)] := by
 obtain ⟨fv, hb, hf⟩ := h.ex
 rw [hs] at hf
 obtain ⟨k, e, hk⟩ := hf
 exact ⟨k, Blk.ne_ hk hb (by decide), hk.lt, by rw [hb.cell 4]; show some fv = _; rw [e], hk.cell 0, hk.cell 1, hk⟩
def FinP (w : World) (f : Option (Nat × Nat)) (cs : List Value) (e : Ending) (w' : World) : Prop := Below w.heap.size w w' ∧ e = .returned (.tuple (match f with
   | none => #[.agg cs.toArray, .int .i64 0, .int .i64 0]
   | some x => #[.agg #[.int .i64 0, .string ⟨#[]⟩, .slice none 0 0, .slice none 0 0, .slice none 0 0, .int .i64 0, .int .i64 0], .int .i64 (x.1 : Int), .int .i64 (x.2 : Int)]))
set_option maxRecDepth 20000 in
theorem pfin_any {w : World} {g c fin : Nat} {A : Option Addr} {T : List Lx.Tk} {s : Ps.PS} (h : PA w g A c T fin s) {cs : List Value} {tr : Ps.Tr} {S : Nat → Prop} (ht : TrIn w S cs tr) :
  Calls Tryz.prog 20 #[.pointer (some ⟨g, 0, none⟩), .agg cs.toArray] w (FinP w s.fault cs) := by
 obtain ⟨q0, q1, A1, n1, c1, A2, n2, c2, A3, n3, c3, q5, q6, rfl, -⟩ := ht.seven
 clear ht
 have E0 := ((Env.start h).box 26 [.int .i64 (q0 : Int), .string ⟨q1.toArray⟩, .slice A1 n1 c1, .slice A2 n2 c2, .slice A3 n3 c3, .int .i64 (q5 : Int), .int .i64 (q6 : Int)] (by decide)).boxk (w.heap.size + 1) (by simp) 26 [.int .i64 0, .string ⟨#[]⟩, .slice none 0 0, .slice none 0 0, .slice none 0 0, .int .i64 0, .int .i64 0] (by decide)
 have HB0 : Below w.heap.size w _ := (new_below w (.cells #[.int .i64 (q0 : Int), .string ⟨q1.toArray⟩, .slice A1 n1 c1, .slice A2 n2 c2, .slice A3 n3 c3, .int .i64 (q5 : Int), .int .i64 (q6 : Int)] 26)).trans ((new_below _ (.cells #[.int .i64 0, .string ⟨#[]⟩, .slice none 0 0, .slice none 0 0, .slice none 0 0, .int .i64 0, .int .i64 0] 26)).mono (by simp))
 clear h
 go_enter Tryz.func20, Tryz.ntmps20
 go_upto_region 1 with fail
 refine wp_env2 E0 (fun W => Below w.heap.size w W) HB0 fun w1 E1 hb1 => ?_
 have HB1 := Hd hb1
 clear E0 HB0 hb1
 have hg := E1.pa.lt
 obtain ⟨a, a0, a1, a2, a3, a4, a5, a6⟩ := E1.c7 1 rfl
 obtain ⟨b, b0, b1, b2, b3, b4, b5, b6⟩ := E1.c7 0 rfl
 have f := E1.fz 0 rfl
 have lo := E1.lo 0 rfl
 have hgl := E1.gl
 cases hs : s.fault with
 | none =>
  have k4 := E1.pa.okc (by unfold Ps.ok; rw [hs]; rfl)
  have HSF := Hd hs
  clear hs
  go_wp2
  have E4 := E1.put7 0 rfl (.int .i64 (q0 : Int)) (.string ⟨q1.toArray⟩) (.slice A1 n1 c1) (.slice A2 n2 c2) (.slice A3 n3 c3) (.int .i64 (q5 : Int)) (.int .i64 (q6 : Int))
  refine bodyPost_ret (ret26x rfl _ _ rfl (E4.blk 0 rfl)) rfl ⟨?_, by rw [HSF.out]; rfl⟩
  exact below_set7 HB1.out lo _ _ _ _ _ _ _
 | some x =>
  obtain ⟨kq, hkg, hkl, k4, kp, ke, hkb⟩ := E1.pa.flt hs
  have HSF := Hd hs
  clear hs
  have n1 : w.heap.size + 1 ≠ g := by omega
  have n2 : w.heap.size + 1 ≠ kq := Ne.symm (Blk.ne_ hkb (E1.blk 0 rfl) (by decide))
  clear hkb
  have HE1 := Hd E1
  have LO := Hd lo
  clear a a0 a1 a2 a3 a4 a5 a6 E1 lo hgl
  go_upto_region 2 with fail
  go_region_held3 (fun W => W.cell? ⟨g, 4, none⟩ = some (.pointer (some ⟨kq, 0, none⟩)) ∧ W.cell? ⟨kq, 0, none⟩ = some (.int .i64 (x.1 : Int)) ∧ W.cell? ⟨kq, 1, none⟩ = some (.int .i64 (x.2 : Int))) (first | go_keep) ((first | fail))
  all_goals
   go_wp2
   have E4 := (HE1.out.put7 0 rfl (.int .i64 0) (.string ⟨#[]⟩) (.slice none 0 0) (.slice none 0 0) (.slice none 0 0) (.int .i64 0) (.int .i64 0)).drew
   refine bodyPost_ret (ret26x rfl _ _ rfl (E4.blk 0 rfl)) rfl ⟨?_, by rw [HSF.out]; rfl⟩
   exact (below_set7 HB1.out LO.out _ _ _ _ _ _ _).drew
structure Bd (T : List Lx.Tk) (s : Ps.PS) : Prop where
 at_ : s.at_ ≤ T.length + 1
 ok : Ps.ok s = true → s.at_ ≤ T.length ∧ -(s.at_ : Int) ≤ s.deep ∧ s.deep ≤ (s.at_ : Int)
section
variable {T : List Lx.Tk} {fin : Nat} {s : Ps.PS}
theorem Bd.adv (h : Bd T s) (hlt : s.at_ < T.length) : Bd T (Ps.adv s) := ⟨by show s.at_ + 1 ≤ _; omega, fun hk => by
 have := h.ok hk
 refine ⟨hlt, ?_, ?_⟩
 ·show -((s.at_ + 1 : Nat) : Int) ≤ s.deep; omega
 ·show s.deep ≤ ((s.at_ + 1 : Nat) : Int); omega⟩
theorem Bd.bad (h : s.at_ ≤ T.length + 1) (hk : Ps.ok s = false) : Bd T s := ⟨h, fun hk' => by rw [hk] at hk'; cases hk'⟩
theorem Bd.rf (h : Bd T s) (p e : Nat) : Bd T (Ps.rf s p e) := Bd.bad h.at_ (Ps.rf_no _ _ _)
theorem Bd.want (h : Bd T s) {k : Nat} (hk : k ≠ 0) (x : Lx.Txt) : Bd T (Ps.want T fin k x s).2 := by
 unfold Ps.want
 split
 ·exact h.rf _ _
 ·rename_i hc
  have e : (Ps.nx T fin s).1 = k := by
   by_cases h1 : (Ps.nx T fin s).1 = k
   ·exact h1
   ·exact absurd (by simp [h1]) hc
  exact h.adv (Ps.nx_lt (fin := fin) (by rw [e]; exact hk))
theorem Bd.opn (h : Bd T s) (hk : Ps.ok s = true) (hlt : s.at_ < T.length) : Bd T (Ps.opn T fin s) := by
 have := h.ok hk
 unfold Ps.opn
 split
 ·exact Bd.bad (by show s.at_ + 1 ≤ _; omega) (Ps.rf_no _ _ _)
 ·refine ⟨by show s.at_ + 1 ≤ _; omega, fun _ => ⟨hlt, ?_, ?_⟩⟩
  ·show -((s.at_ + 1 : Nat) : Int) ≤ s.deep + 1; omega
  ·show s.deep + 1 ≤ ((s.at_ + 1 : Nat) : Int); omega
theorem Bd.cls (h : Bd T s) (hk : Ps.ok s = true) (x : Lx.Txt) : Bd T (Ps.cls_ T fin x s) := by
 have h1 := h.ok hk
 have h0 := h.at_
 unfold Ps.cls_ Ps.want
 split
 ·exact Bd.bad h0 (Ps.rf_no _ _ _)
 ·rename_i hc
  have e : (Ps.nx T fin { s with deep := s.deep - 1 }).1 = 7 := by
   by_cases h1 : (Ps.nx T fin { s with deep := s.deep - 1 }).1 = 7
   ·exact h1
   ·exact absurd (by simp [h1]) hc
  have hlt : s.at_ < T.length := Ps.nx_lt (fin := fin) (s := { s with deep := s.deep - 1 }) (by rw [e]; decide)
  refine ⟨by show s.at_ + 1 ≤ _; omega, fun _ => ⟨hlt, ?_, ?_⟩⟩
  ·show -((s.at_ + 1 : Nat) : Int) ≤ s.deep - 1; omega
  ·show s.deep - 1 ≤ ((s.at_ + 1 : Nat) : Int); omega
theorem Bd.shut (h : Bd T s) (x : Lx.Txt) : Bd T (Ps.shut T fin x s) := by
 unfold Ps.shut
 split
 ·rename_i hk; exact h.cls hk x
 ·exact h
theorem Bd.decl (h : Bd T s) (l : List Lx.Txt) : Bd T (Ps.decl T fin l s).2 := by
 unfold Ps.decl
 dsimp only
 split
 ·exact (h.want (by decide) _).rf _ _
 ·exact h.want (by decide) _
theorem tmpL_le : ∀ (f : Nat) (l : List Lx.Txt) (s : Ps.PS), s.at_ ≤ T.length → (Ps.tmpL T fin f l s).2.at_ ≤ T.length
 | 0, _, _, h => h
 | f + 1, l, s, h => by
  unfold Ps.tmpL
  split
  ·exact tmpL_le f _ _ (decl_at' h).1
  ·exact h
theorem tmpL_bd : ∀ (f : Nat) (l : List Lx.Txt) (s : Ps.PS), Bd T s → Bd T (Ps.tmpL T fin f l s).2
 | 0, _, _, h => h
 | f + 1, l, s, h => by
  unfold Ps.tmpL
  split
  ·exact tmpL_bd f _ _ (h.decl _)
  ·exact h
theorem tmpL_end : ∀ (f : Nat) (l : List Lx.Txt) (s : Ps.PS), s.at_ ≤ T.length → T.length < s.at_ + f → Ps.ok (Ps.tmpL T fin f l s).2 = true → Ps.is_ T fin (Ps.tmpL T fin f l s).2 [124] = true
 | 0, l, s, h, h1, _ => by omega
 | f + 1, l, s, h, h1, hk => by
  unfold Ps.tmpL at hk ⊢
  split at hk
  ·rename_i hc
   rw [if_pos hc]
   by_cases hd : Ps.ok (Ps.decl T fin l s).2 = true
   ·have := decl_at' (fin := fin) (l := l) h
    exact tmpL_end f _ _ this.1 (by have := this.2.2 hd; omega) hk
   ·have hd' : Ps.ok (Ps.decl T fin l s).2 = false := by simpa using hd
    rw [tmpL_stop (by rw [hd']; rfl)] at hk
    exact absurd hk hd
  ·rename_i hc
   rw [if_neg hc]
   rw [hk] at hc
   simpa using hc
theorem Bd.temps (h : Bd T s) : Bd T (Ps.temps T fin s).2 := by
 unfold Ps.temps
 split
 ·rename_i hi
  have hlt := Ps.mark_lt (fin := fin) hi
  have hb := tmpL_bd (fin := fin) (T.length + 2) [] _ (h.adv hlt)
  have hl := tmpL_le (T := T) (fin := fin) (T.length + 2) [] (Ps.adv s) hlt
  have he := tmpL_end (T := T) (fin := fin) (T.length + 2) [] (Ps.adv s) hlt (by show T.length < s.at_ + 1 + _; omega)
  generalize (Ps.tmpL T fin (T.length + 2) [] (Ps.adv s)).2 = s' at *
  by_cases hk : Ps.ok s' = true
  ·exact hb.adv (Ps.mark_lt (he hk))
  ·exact Bd.bad (by show s'.at_ + 1 ≤ _; omega) (by show Ps.ok s' = false; simpa using hk)
 ·exact h
theorem Bd.smallS (h : Bd T s) (t : Lx.Tk) (n : Nat) : Bd T (Ps.smallS t n s) := by
 unfold Ps.smallS
 split
 ·exact h.rf _ _
 ·exact h
theorem Bd.lt (h : Bd T s) (hT : T.length ≤ 65536) : s.at_ ≤ 100000 := by have := h.at_; omega
end
def NdP (w : World) (g : Nat) (A : Option Addr) (c : Nat) (T : List Lx.Tk) (fin base : Nat) (r : Ps.Tr × Ps.PS) (e : Ending) (w' : World) : Prop := ∃ cs, e = .returned (.agg cs.toArray) ∧ PP w g A c T fin r.2 w' ∧ Bd T r.2 ∧ TrM w' base (fun _ => False) cs r.1
theorem unaL_stop {T : List Lx.Tk} {fin f : Nat} {n : Ps.Tr} {s : Ps.PS} (h : (Ps.ok s && (Ps.nx T fin s).1 == 1) = false) : Ps.unaL T fin f n s = (n, s) := by
 cases f with
 | zero => rfl
 | succ f => unfold Ps.unaL; rw [if_neg (by rw [h]; decide)]
structure UnS (w : World) (g : Nat) (A : Option Addr) (c : Nat) (T : List Lx.Tk) (fin base t3 t4 : Nat) (s' : Ps.PS) (n' : Ps.Tr) (cs' : List Value) (wr : World) : Prop where
 env : Env w g A c T fin s' [⟨t4, 26, [.int .i64 0, .string ⟨#[]⟩, .slice none 0 0, .slice none 0 0, .slice none 0 0, .int .i64 0, .int .i64 0]⟩, ⟨t3, 26, cs'⟩] wr
 tr : TrM wr base (fun k => k = t3 ∨ k = t4) cs' n'
 bd : Bd T s'
section
variable {w wr w1 : World} {g c fin base t3 t4 : Nat} {A : Option Addr} {T : List Lx.Tk} {s' s1 : Ps.PS} {n' : Ps.Tr} {cs' : List Value} {R : Ps.Tr × Ps.PS}
theorem UnS.below (h : UnS w g A c T fin base t3 t4 s' n' cs' wr) (hb : Below wr.heap.size wr w1) : UnS w g A c T fin base t3 t4 s' n' cs' w1 := ⟨h.env.below hb, h.tr.below hb, h.bd⟩
theorem UnS.call (h : UnS w g A c T fin base t3 t4 s' n' cs' wr) (hp : PP wr g A c T fin s1 w1) (hb : Bd T s1) (hgb : g < base) : UnS w g A c T fin base t3 t4 s1 n' cs' w1 := ⟨h.env.call hp, h.tr.call hp.1 hgb, hb⟩
theorem UnS.turn {x0 x1 x2 x3 x4 x5 x6 : Value} (h : UnS w g A c T fin base t3 t4 s' n' [x0, x1, x2, x3, x4, x5, x6] wr) (hbw : base ≤ w.heap.size) (nm : Lx.Txt) (place : Nat) :
  UnS w g A c T fin base t3 t4 s' (Ps.nd 5 nm [n'] place) [.int .i64 5, .string ⟨nm.toArray⟩, .slice none 0 0, .slice none 0 0, .slice (some ⟨wr.heap.size, 0, none⟩) 1 1, .int .i64 0, .int .i64 (place : Int)]
   ((((((((wr.setCell ⟨t3, 0, none⟩ (.int .i64 5)).setCell ⟨t3, 1, none⟩ (.string ⟨nm.toArray⟩)).setCell ⟨t3, 2, none⟩ (.slice none 0 0)).setCell ⟨t3, 3, none⟩ (.slice none 0 0)).setCell ⟨t3, 4, none⟩ (.slice (some ⟨wr.heap.size, 0, none⟩) 1 1)).setCell ⟨t3, 5, none⟩ (.int .i64 0)).setCell ⟨t3, 6, none⟩ (.int .i64 (place : Int))).alloc (.cells #[x0, x1, x2, x3, x4, x5, x6] 26)) := by
 have l3 := (h.env.blk 1 rfl).lt
 have l4 := (h.env.blk 0 rfl).lt
 have hs := h.env.size
 rw [set7_alloc _ _ _ _ _ _ _ _ _ _ l3]
 refine ⟨(h.env.alloc _).put7 1 rfl _ _ _ _ _ _ _, ?_, h.bd⟩
 have h1 : TsM (wr.alloc (.cells #[x0, x1, x2, x3, x4, x5, x6] 26)) base (fun k => k = t3 ∨ k = t4) (.slice (some ⟨wr.heap.size, 0, none⟩) 1 1) [n'] := TsM.one h.tr (by omega) (by omega)
 exact (TrM.nd (l := [n']) 5 nm place h1).store (chg_set7 _ _ _ _ _ _ _ _ _) fun k e => .inl e
theorem UnS.done {x0 x1 x2 x3 x4 x5 x6 : Value} (h : UnS w g A c T fin base t3 t4 s' n' [x0, x1, x2, x3, x4, x5, x6] wr) (hR : R = (n', s')) :
  Blk (((((((wr.setCell ⟨t4, 0, none⟩ x0).setCell ⟨t4, 1, none⟩ x1).setCell ⟨t4, 2, none⟩ x2).setCell ⟨t4, 3, none⟩ x3).setCell ⟨t4, 4, none⟩ x4).setCell ⟨t4, 5, none⟩ x5).setCell ⟨t4, 6, none⟩ x6) t4 26 #[x0, x1, x2, x3, x4, x5, x6] ∧
  NdP w g A c T fin base R (.returned (.agg #[x0, x1, x2, x3, x4, x5, x6])) (((((((wr.setCell ⟨t4, 0, none⟩ x0).setCell ⟨t4, 1, none⟩ x1).setCell ⟨t4, 2, none⟩ x2).setCell ⟨t4, 3, none⟩ x3).setCell ⟨t4, 4, none⟩ x4).setCell ⟨t4, 5, none⟩ x5).setCell ⟨t4, 6, none⟩ x6) := by
 subst hR
 have E4 := h.env.put7 0 rfl x0 x1 x2 x3 x4 x5 x6
 refine ⟨E4.blk 0 rfl, _, rfl, E4.pp, h.bd, ?_⟩
 exact TrM.swap (h.tr.store (chg_set7 _ _ _ _ _ _ _ _ _) fun k e => .inr e) (fun k _ _ e => e.elim)
end
set_option maxRecDepth 20000 in
theorem punar_any {w : World} {g c fin : Nat} {A : Option Addr} {T : List Lx.Tk} {s : Ps.PS} {base : Nat} {cs : List Value} {n : Ps.Tr} (h : PA w g A c T fin s) (hb : Bd T s) (hT : T.length ≤ 65536) (hn : TrM w base (fun _ => False) cs n) (hgb : g < base) (hbw : base ≤ w.heap.size) :
  Calls Tryz.prog 51 #[.pointer (some ⟨g, 0, none⟩), .agg cs.toArray] w (NdP w g A c T fin base (Ps.unaL T fin (T.length + 2) n s)) := by
 have E0 := ((Env.start h).box 26 cs (by decide)).boxk (w.heap.size + 1) (by simp) 26 [.int .i64 0, .string ⟨#[]⟩, .slice none 0 0, .slice none 0 0, .slice none 0 0, .int .i64 0, .int .i64 0] (by decide)
 have ht0 : TrM ((w.alloc (.cells cs.toArray 26)).alloc (.cells #[.int .i64 0, .string ⟨#[]⟩, .slice none 0 0, .slice none 0 0, .slice none 0 0, .int .i64 0, .int .i64 0] 26)) base (fun k => k = w.heap.size ∨ k = w.heap.size + 1) cs n := ((TrM.swap hn (X' := fun k => k = w.heap.size ∨ k = w.heap.size + 1) (fun k _ hk e => by omega)).below (new_below _ _)).below (new_below _ _)
 have HU := Hd (UnS.mk E0 ht0 hb)
 obtain ⟨R, hR⟩ : ∃ R, Ps.unaL T fin (T.length + 2) n s = R := ⟨_, rfl⟩
 have HR := Hd hR
 have HFU : Hid (Ps.ok s = true → T.length < s.at_ + (T.length + 2)) := Hd fun _ => by omega
 rw [hR]
 obtain ⟨q0, q1, A1, n1, c1, A2, n2, c2, A3, n3, c3, q5, q6, rfl, -⟩ := TrIn.seven hn
 clear h hb hn E0 ht0 hR
 go_enter Tryz.func51, Tryz.ntmps51
 go_upto_block 0 with fail
 refine wp_world (fun W => UnS w g A c T fin base w.heap.size (w.heap.size + 1) s n _ W) HU.out fun w1 hu => ?_
 have HU1 := Hd hu
 clear HU hu
 go_wp2
 go_loopg [] (T.length + 2) (fun f wr => ∃ (s' : Ps.PS) (n' : Ps.Tr) (cs' : List Value), UnS w g A c T fin base w.heap.size (w.heap.size + 1) s' n' cs' wr ∧ (Ps.ok s' = true → T.length < s'.at_ + f) ∧ Ps.unaL T fin f n' s' = R)
 case atStart => exact ⟨s, n, _, HU1.out, HFU.out, HR.out⟩
 case round =>
  obtain ⟨s', n', cs', hu, hok, hR⟩ := hrel
  obtain ⟨r0, r1, B1, m1, d1, B2, m2, d2, B3, m3, d3, r5, r6, rfl, -⟩ := TrIn.seven hu.tr
  have HU := Hd hu
  have HR2 := Hd hR
  have HOK := Hd hok
  have hg := hu.env.pa.lt
  clear hu hR hok HU1 HR HFU
  obtain ⟨t, ht⟩ : ∃ t, Ps.nx T fin s' = t := ⟨_, rfl⟩
  cases hk : Ps.ok s' with
  | false =>
   have HE : Hid (R = (n', s')) := Hd (by rw [← HR2.out]; exact unaL_stop (by rw [hk]; rfl))
   obtain ⟨kq, k4⟩ := HU.out.env.pa.noc hk
   obtain ⟨a, a0, a1, a2, a3, a4, a5, a6⟩ := HU.out.env.c7 1 rfl
   obtain ⟨b, b0, b1, b2, b3, b4, b5, b6⟩ := HU.out.env.c7 0 rfl
   have f := HU.out.env.fz 0 rfl
   clear hk
   go_wp2
   obtain ⟨hb4, hnd⟩ := HU.out.done HE.out
   exact bodyPost_ret (ret26 rfl _ _ rfl hb4) rfl hnd
  | true =>
   have k4 := HU.out.env.pa.okc hk
   have HN := Hd (pnext_any HU.out.env.pa)
   rw [ht] at HN
   have hf0 := fld0 (.int .i64 (t.1 : Int)) (.string ⟨t.2.1.toArray⟩) (.int .i64 (t.2.2 : Int))
   by_cases h1 : t.1 = 1
   ·have d1 : ((t.1 : Int) == 1) = true := by simp [h1]
    have hlt : s'.at_ < T.length := Ps.nx_lt (fin := fin) (by rw [ht, h1]; decide)
    have hfu := HOK.out hk
    obtain ⟨f, rfl⟩ : ∃ f, gk = f + 1 := ⟨gk - 1, by have := (HU.out.bd.ok hk).1; omega⟩
    have HR3 : Hid (Ps.unaL T fin f (Ps.nd 5 t.2.1 [n'] t.2.2) (Ps.adv s') = R) := Hd (by rw [← HR2.out, Ps.unaL, ht, if_pos (by rw [hk, h1]; rfl)])
    have HT := Hd ht
    clear hk h1 ht
    go_upto_region 3 with (first
     | (go_at_call 11; refine HN.out.mono ?_; rintro e w4 ⟨rfl, hb⟩; have HU4 := Hd (HU.out.below hb); clear hb)
     | (go_at_call 12; refine (ptake_any HU4.out.env.pa (by omega)).mono ?_; rw [HT.out]; rintro e w5 ⟨rfl, hp⟩; have HU5 := Hd (HU4.out.call hp (HU4.out.bd.adv hlt) hgb); clear hp))
    refine wp_world (fun W => UnS w g A c T fin base w.heap.size (w.heap.size + 1) (Ps.adv s') n' _ W ∧ Blk W w5.heap.size 40 _) ⟨HU5.out.below (new_below _ _), Blk.new _ _ _⟩ fun w6 h6 => ?_
    have HU6 := Hd h6.1
    have HB6 := Hd h6.2
    clear h6 HU5 HU4 HU hg k4 HN hf0 d1 HR2 HOK
    obtain ⟨a, a0, a1, a2, a3, a4, a5, a6⟩ := HU6.out.env.c7 1 rfl
    have f3 := HU6.out.env.fz 1 rfl
    have b := HB6.out.lt
    have b1 := HB6.out.cell 1
    have b2 := HB6.out.cell 2
    go_wp2
    go_roundg f
    case measure => omega
    case rel => exact ⟨_, _, _, HU6.out.turn hbw t.2.1 t.2.2, fun _ => by show T.length < s'.at_ + 1 + f; omega, HR3.out⟩
   ·have d1 : ((t.1 : Int) == 1) = false := natInt (by omega)
    have HE : Hid (R = (n', s')) := Hd (by rw [← HR2.out]; exact unaL_stop (by rw [ht, hk]; simpa using h1))
    clear hk h1 ht
    go_upto_region 4 with (go_at_call 11; refine HN.out.mono ?_; rintro e w4 ⟨rfl, hb⟩; have HU4 := Hd (HU.out.below hb); clear hb)
    clear HU HN hf0 k4
    obtain ⟨a, a0, a1, a2, a3, a4, a5, a6⟩ := HU4.out.env.c7 1 rfl
    obtain ⟨b, b0, b1, b2, b3, b4, b5, b6⟩ := HU4.out.env.c7 0 rfl
    have f := HU4.out.env.fz 0 rfl
    go_wp2
    obtain ⟨hb4, hnd⟩ := HU4.out.done HE.out
    exact bodyPost_ret (ret26 rfl _ _ rfl hb4) rfl hnd
def TsP (w : World) (g : Nat) (A : Option Addr) (c : Nat) (T : List Lx.Tk) (fin : Nat) (r : List Ps.Tr × Ps.PS) (e : Ending) (w' : World) : Prop := ∃ v, e = .returned v ∧ PP w g A c T fin r.2 w' ∧ Bd T r.2 ∧ TsM w' w.heap.size (fun _ => False) v r.1
structure WAll (g : Nat) (A : Option Addr) (c : Nat) (T : List Lx.Tk) (fin f : Nat) : Prop where
 expr : ∀ s w, PA w g A c T fin s → Bd T s → Ps.rem T s + 8 ≤ f → Calls Tryz.prog 35 #[.pointer (some ⟨g, 0, none⟩)] w (NdP w g A c T fin w.heap.size (Ps.expr T fin f s))
 msg : ∀ s w, PA w g A c T fin s → Bd T s → Ps.rem T s + 6 ≤ f → Calls Tryz.prog 53 #[.pointer (some ⟨g, 0, none⟩)] w (NdP w g A c T fin w.heap.size (Ps.msg T fin f s))
 binL : ∀ base cs n s w, PA w g A c T fin s → Bd T s → TrM w base (fun _ => False) cs n → g < base → base ≤ w.heap.size → Ps.rem T s + 1 ≤ f → Calls Tryz.prog 50 #[.pointer (some ⟨g, 0, none⟩), .agg cs.toArray] w (NdP w g A c T fin base (Ps.binL_ T fin f n s))
 keyw : ∀ base cs n s w, PA w g A c T fin s → Bd T s → TrM w base (fun _ => False) cs n → g < base → base ≤ w.heap.size → Ps.rem T s + 2 ≤ f → Calls Tryz.prog 49 #[.pointer (some ⟨g, 0, none⟩), .agg cs.toArray] w (NdP w g A c T fin base (Ps.keyw T fin f n s))
 prim : ∀ s w, PA w g A c T fin s → Bd T s → Ps.rem T s + 5 ≤ f → Calls Tryz.prog 48 #[.pointer (some ⟨g, 0, none⟩)] w (NdP w g A c T fin w.heap.size (Ps.prim T fin f s))
 arr : ∀ s w, PA w g A c T fin s → Bd T s → Ps.ok s = true → s.at_ < T.length → Ps.rem T s + 2 ≤ f → Calls Tryz.prog 77 #[.pointer (some ⟨g, 0, none⟩)] w (NdP w g A c T fin w.heap.size (Ps.arr T fin f s))
 lit : ∀ s w, PA w g A c T fin s → Bd T s → Ps.ok s = true → Ps.rem T s + 5 ≤ f → Calls Tryz.prog 93 #[.pointer (some ⟨g, 0, none⟩)] w (NdP w g A c T fin w.heap.size (Ps.lit T fin f s))
 bra : ∀ s w, PA w g A c T fin s → Bd T s → Ps.ok s = true → s.at_ < T.length → Ps.rem T s + 2 ≤ f → Calls Tryz.prog 81 #[.pointer (some ⟨g, 0, none⟩)] w (NdP w g A c T fin w.heap.size (Ps.nd 14 [] (Ps.braL T fin f [] (Ps.opn T fin s)).1 (Ps.nx T fin s).2.2, Ps.shut T fin [125] (Ps.braL T fin f [] (Ps.opn T fin s)).2))
 blk : ∀ s w, PA w g A c T fin s → Bd T s → Ps.ok s = true → s.at_ < T.length → Ps.rem T s + 2 ≤ f → Calls Tryz.prog 82 #[.pointer (some ⟨g, 0, none⟩)] w (NdP w g A c T fin w.heap.size (Ps.blk T fin f s))
 stL : ∀ m s w, PA w g A c T fin s → Bd T s → Ps.rem T s + 9 ≤ f → Calls Tryz.prog 19 #[.pointer (some ⟨g, 0, none⟩), .string ⟨m.toArray⟩] w (TsP w g A c T fin (Ps.stL T fin f m [] s))
theorem binL_stop {T : List Lx.Tk} {fin f : Nat} {n : Ps.Tr} {s : Ps.PS} (h : (Ps.ok s && Ps.binS (Ps.nx T fin s)) = false) : Ps.binL_ T fin f n s = (n, s) := by
 cases f with
 | zero => unfold Ps.binL_; rfl
 | succ f => unfold Ps.binL_; rw [if_neg (by rw [h]; decide)]
theorem TrM.form {w : World} {base : Nat} {X : Nat → Prop} {cs : List Value} {t : Ps.Tr} (h : TrM w base X cs t) : ∃ (k : Nat) (nm : Lx.Txt) (A1 : Option Addr) (n1 c1 : Nat) (A2 : Option Addr) (n2 c2 : Nat) (A3 : Option Addr) (n3 c3 : Nat) (p pl : Nat),
  cs = [.int .i64 (k : Int), .string ⟨nm.toArray⟩, .slice A1 n1 c1, .slice A2 n2 c2, .slice A3 n3 c3, .int .i64 (p : Int), .int .i64 (pl : Int)] := by
 obtain ⟨q0, q1, A1, n1, c1, A2, n2, c2, A3, n3, c3, q5, q6, rfl, -⟩ := TrIn.seven h
 exact ⟨q0, q1, A1, n1, c1, A2, n2, c2, A3, n3, c3, q5, q6, rfl⟩
theorem UnS.turn2 {w wr : World} {g c fin base t3 t4 : Nat} {A : Option Addr} {T : List Lx.Tk} {s' : Ps.PS} {n' a' : Ps.Tr} {x0 x1 x2 x3 x4 x5 x6 y0 y1 y2 y3 y4 y5 y6 : Value} (h : UnS w g A c T fin base t3 t4 s' n' [x0, x1, x2, x3, x4, x5, x6] wr) (ha : TrM wr base (fun k => k = t3 ∨ k = t4) [y0, y1, y2, y3, y4, y5, y6] a') (hbw : base ≤ w.heap.size) (nm : Lx.Txt) (place : Nat) :
  UnS w g A c T fin base t3 t4 s' (Ps.nd 5 nm [n', a'] place) [.int .i64 5, .string ⟨nm.toArray⟩, .slice none 0 0, .slice none 0 0, .slice (some ⟨wr.heap.size, 0, none⟩) 2 2, .int .i64 0, .int .i64 (place : Int)]
   ((((((((wr.setCell ⟨t3, 0, none⟩ (.int .i64 5)).setCell ⟨t3, 1, none⟩ (.string ⟨nm.toArray⟩)).setCell ⟨t3, 2, none⟩ (.slice none 0 0)).setCell ⟨t3, 3, none⟩ (.slice none 0 0)).setCell ⟨t3, 4, none⟩ (.slice (some ⟨wr.heap.size, 0, none⟩) 2 2)).setCell ⟨t3, 5, none⟩ (.int .i64 0)).setCell ⟨t3, 6, none⟩ (.int .i64 (place : Int))).alloc (.cells #[x0, x1, x2, x3, x4, x5, x6, y0, y1, y2, y3, y4, y5, y6] 26)) := by
 have l3 := (h.env.blk 1 rfl).lt
 have l4 := (h.env.blk 0 rfl).lt
 have hs := h.env.size
 rw [set7_alloc _ _ _ _ _ _ _ _ _ _ l3]
 refine ⟨(h.env.alloc _).put7 1 rfl _ _ _ _ _ _ _, ?_, h.bd⟩
 have h1 : TsM (wr.alloc (.cells #[x0, x1, x2, x3, x4, x5, x6, y0, y1, y2, y3, y4, y5, y6] 26)) base (fun k => k = t3 ∨ k = t4) (.slice (some ⟨wr.heap.size, 0, none⟩) 2 2) [n', a'] := TsM.two h.tr ha (by omega) (by omega)
 exact (TrM.nd (l := [n', a']) 5 nm place h1).store (chg_set7 _ _ _ _ _ _ _ _ _) fun k e => .inl e
set_option maxRecDepth 20000 in
theorem pbins_any {g c fin F : Nat} {A : Option Addr} {T : List Lx.Tk} (hT : T.length ≤ 65536) (ih : ∀ f, f < F → WAll g A c T fin f) (base : Nat) (cs : List Value) (n : Ps.Tr) (s : Ps.PS) (w : World) (h : PA w g A c T fin s) (hb : Bd T s) (hn : TrM w base (fun _ => False) cs n) (hgb : g < base) (hbw : base ≤ w.heap.size) (hf : Ps.rem T s + 1 ≤ F) :
  Calls Tryz.prog 50 #[.pointer (some ⟨g, 0, none⟩), .agg cs.toArray] w (NdP w g A c T fin base (Ps.binL_ T fin F n s)) := by
 have E0 := ((Env.start h).box 26 cs (by decide)).boxk (w.heap.size + 1) (by simp) 26 [.int .i64 0, .string ⟨#[]⟩, .slice none 0 0, .slice none 0 0, .slice none 0 0, .int .i64 0, .int .i64 0] (by decide)
 have ht0 : TrM ((w.alloc (.cells cs.toArray 26)).alloc (.cells #[.int .i64 0, .string ⟨#[]⟩, .slice none 0 0, .slice none 0 0, .slice none 0 0, .int .i64 0, .int .i64 0] 26)) base (fun k => k = w.heap.size ∨ k = w.heap.size + 1) cs n := ((TrM.swap hn (X' := fun k => k = w.heap.size ∨ k = w.heap.size + 1) (fun k _ hk e => by omega)).below (new_below _ _)).below (new_below _ _)
 have HU := Hd (UnS.mk E0 ht0 hb)
 obtain ⟨R, hR⟩ : ∃ R, Ps.binL_ T fin F n s = R := ⟨_, rfl⟩
 have HR := Hd hR
 have IH := Hd ih
 rw [hR]
 obtain ⟨q0, q1, A1, n1, c1, A2, n2, c2, A3, n3, c3, q5, q6, rfl⟩ := hn.form
 clear h hb hn E0 ht0 hR ih
 go_enter Tryz.func50, Tryz.ntmps50
 go_upto_block 0 with fail
 refine wp_world (fun W => UnS w g A c T fin base w.heap.size (w.heap.size + 1) s n _ W) HU.out fun w1 hu => ?_
 have HU1 := Hd hu
 clear HU hu
 go_wp2
 go_loopg [] F (fun f wr => ∃ (s' : Ps.PS) (n' : Ps.Tr) (cs' : List Value), f ≤ F ∧ UnS w g A c T fin base w.heap.size (w.heap.size + 1) s' n' cs' wr ∧ Ps.rem T s' + 1 ≤ f ∧ Ps.binL_ T fin f n' s' = R)
 case atStart => exact ⟨s, n, _, Nat.le_refl _, HU1.out, hf, HR.out⟩
 case round =>
  obtain ⟨s', n', cs', hfF, hu, hrm, hR⟩ := hrel
  obtain ⟨r0, r1, B1, m1, d1, B2, m2, d2, B3, m3, d3, r5, r6, rfl⟩ := hu.tr.form
  have HU := Hd hu
  have HR2 := Hd hR
  have hg := hu.env.pa.lt
  clear hu hR HU1 HR
  obtain ⟨t, ht⟩ : ∃ t, Ps.nx T fin s' = t := ⟨_, rfl⟩
  obtain ⟨a, a0, a1, a2, a3, a4, a5, a6⟩ := HU.out.env.c7 1 rfl
  obtain ⟨b, b0, b1, b2, b3, b4, b5, b6⟩ := HU.out.env.c7 0 rfl
  have fz := HU.out.env.fz 0 rfl
  cases hk : Ps.ok s' with
  | false =>
   have HE : Hid (R = (n', s')) := Hd (by rw [← HR2.out]; exact binL_stop (by rw [hk]; rfl))
   obtain ⟨kq, k4⟩ := HU.out.env.pa.noc hk
   clear hk
   go_wp2
   obtain ⟨hb4, hnd⟩ := HU.out.done HE.out
   exact bodyPost_ret (ret26 rfl _ _ rfl hb4) rfl hnd
  | true =>
   have k4 := HU.out.env.pa.okc hk
   have HN := Hd (pnext_any HU.out.env.pa)
   rw [ht] at HN
   have HBI := Hd fun w => pbin_any t w
   clear a a0 a1 a2 a3 a4 a5 a6 b b0 b1 b2 b3 b4 b5 b6 fz
   cases h1 : Ps.binS t with
   | true =>
    have hlt : s'.at_ < T.length := Ps.bin_lt (fin := fin) (by rw [ht]; exact h1)
    obtain ⟨f, rfl⟩ : ∃ f, gk = f + 1 := ⟨gk - 1, by omega⟩
    have hra := Ps.rem_adv (T := T) (s := s') (s' := Ps.adv s') (Nat.lt_succ_self _) hlt
    obtain ⟨a, ha⟩ : ∃ a, Ps.prim T fin f (Ps.adv s') = a := ⟨_, rfl⟩
    obtain ⟨u, hu⟩ : ∃ u, Ps.unaL T fin (T.length + 2) a.1 a.2 = u := ⟨_, rfl⟩
    have hle : Ps.rem T u.2 ≤ Ps.rem T (Ps.adv s') := Ps.rem_le (by rw [← hu, ← ha]; exact (((Ps.leAll T fin f).prim _).trans (Ps.le_unaL T fin _ _ _)).at_)
    have HR3 : Hid (Ps.binL_ T fin f (Ps.nd 5 t.2.1 [n', u.1] t.2.2) u.2 = R) := Hd (by rw [← HR2.out, Ps.binL_, ht, if_pos (by rw [hk, h1]; rfl)]; dsimp only; rw [ha, hu])
    have HT := Hd ht
    have HPR := Hd fun w5 (hp : PA w5 g A c T fin (Ps.adv s')) (hb : Bd T (Ps.adv s')) => (IH.out f (by omega)).prim (Ps.adv s') w5 hp hb (by omega)
    rw [ha] at HPR
    have HUN := Hd fun w6 (base' : Nat) (cs6 : List Value) (hp : PA w6 g A c T fin a.2) (hb : Bd T a.2) (ht6 : TrM w6 base' (fun _ => False) cs6 a.1) (h7 : g < base') (h8 : base' ≤ w6.heap.size) => punar_any hp hb hT ht6 h7 h8
    rw [hu] at HUN
    rw [h1] at HBI
    clear hk h1 ht ha hu
    go_upto_region 3 with (first
     | (go_at_call 11; refine HN.out.mono ?_; rintro e w4 ⟨rfl, hb⟩; have HU4 := Hd (HU.out.below hb); clear hb)
     | (go_at_call 13; refine (HBI.out _).mono ?_; rintro e w4b ⟨rfl, hb⟩; have HU4b := Hd (HU4.out.below hb); clear hb)
     | (go_at_call 12; refine (ptake_any HU4b.out.env.pa (by omega)).mono ?_; rw [HT.out]; rintro e w5 ⟨rfl, hp⟩; have HU5 := Hd (HU4b.out.call hp (HU4b.out.bd.adv hlt) hgb); clear hp))
    refine wp_world (fun W => UnS w g A c T fin base w.heap.size (w.heap.size + 1) (Ps.adv s') n' _ W ∧ Blk W w5.heap.size 40 _) ⟨HU5.out.below (new_below _ _), Blk.new _ _ _⟩ fun w6 h6 => ?_
    have HU6 := Hd h6.1
    have HB6 := Hd h6.2
    have hn5 : w.heap.size ≤ w5.heap.size := HU5.out.env.size
    have hgw := HU5.out.env.gl
    have hs6 := HU6.out.env.size
    have l3 := (HU6.out.env.blk 1 rfl).lt
    have l4 := (HU6.out.env.blk 0 rfl).lt
    clear h6 HU5 HU4 HU4b HU hg k4 HN HBI HR2
    go_upto_region 4 with (first
     | (go_at_call 48; refine (HPR.out _ HU6.out.env.pa HU6.out.bd).mono ?_; rintro e w7 ⟨cs7, rfl, hp7, hb7, ht7⟩; have hz7 := hp7.1.size; have HU7 := Hd (HU6.out.call hp7 hb7 hgb); have HB7 := Hd (hp7.1.blk HB6.out (by omega)); have HT7 := Hd ht7; clear hp7 hb7 ht7)
     | (go_at_call 51; refine (HUN.out _ _ _ HU7.out.env.pa HU7.out.bd HT7.out (by omega) hz7).mono ?_; rintro e w8 ⟨cs8, rfl, hp8, hb8, ht8⟩; have hz8 := hp8.1.size; have HU8 := Hd (HU7.out.call hp8 hb8 hgb); have HB8 := Hd (hp8.1.blk HB7.out (by omega)); have HT8 := Hd ht8; obtain ⟨p0, p1, C1, o1, e1, C2, o2, e2, C3, o3, e3, p5, p6, rfl⟩ := ht8.form; clear hp8 hb8 ht8))
    have HTX := Hd (TrM.below (TrM.low (TrM.swap HT8.out (X' := fun k => k = w.heap.size ∨ k = w.heap.size + 1) (fun k h1 _ e => by omega)) (b' := base) (by omega)) (new_below w8 (.cells #[.int .i64 (p0 : Int), .string ⟨p1.toArray⟩, .slice C1 o1 e1, .slice C2 o2 e2, .slice C3 o3 e3, .int .i64 (p5 : Int), .int .i64 (p6 : Int)] 26)))
    refine wp_world (fun W => UnS w g A c T fin base w.heap.size (w.heap.size + 1) u.2 n' _ W ∧ Blk W w5.heap.size 40 _ ∧ Blk W w8.heap.size 26 _ ∧ TrM W base (fun k => k = w.heap.size ∨ k = w.heap.size + 1) _ u.1) ⟨HU8.out.below (new_below _ _), HB8.out.alloc _, Blk.new _ _ _, HTX.out⟩ fun w9 h9 => ?_
    have HU9 := Hd h9.1
    have HB9 := Hd h9.2.1
    have HC9 := Hd h9.2.2.1
    have HT9 := Hd h9.2.2.2
    clear h9 HU8 HU7 HU6 HB6 HB7 HB8 HT7 HT8 HTX HPR HUN
    obtain ⟨a, a0, a1, a2, a3, a4, a5, a6⟩ := HU9.out.env.c7 1 rfl
    have f3 := HU9.out.env.fz 1 rfl
    have b := HB9.out.lt
    have b1 := HB9.out.cell 1
    have b2 := HB9.out.cell 2
    have y := HC9.out.lt
    have y0 := HC9.out.cell 0
    have y1 := HC9.out.cell 1
    have y2 := HC9.out.cell 2
    have y3 := HC9.out.cell 3
    have y4 := HC9.out.cell 4
    have y5 := HC9.out.cell 5
    have y6 := HC9.out.cell 6
    go_wp2
    go_roundg f
    case measure => omega
    case rel => exact ⟨_, _, _, by omega, HU9.out.turn2 HT9.out hbw t.2.1 t.2.2, by omega, HR3.out⟩
   | false =>
    have HE : Hid (R = (n', s')) := Hd (by rw [← HR2.out]; exact binL_stop (by rw [ht, hk, h1]; rfl))
    rw [h1] at HBI
    clear hk h1 ht
    go_upto_region 5 with (first
     | (go_at_call 11; refine HN.out.mono ?_; rintro e w4 ⟨rfl, hb⟩; have HU4 := Hd (HU.out.below hb); clear hb)
     | (go_at_call 13; refine (HBI.out _).mono ?_; rintro e w4b ⟨rfl, hb⟩; have HU4b := Hd (HU4.out.below hb); clear hb))
    clear HU HU4 HN HBI k4
    obtain ⟨a, a0, a1, a2, a3, a4, a5, a6⟩ := HU4b.out.env.c7 1 rfl
    obtain ⟨b, b0, b1, b2, b3, b4, b5, b6⟩ := HU4b.out.env.c7 0 rfl
    have f := HU4b.out.env.fz 0 rfl
    go_wp2
    obtain ⟨hb4, hnd⟩ := HU4b.out.done HE.out
    exact bodyPost_ret (ret26 rfl _ _ rfl hb4) rfl hnd
end Go.Proofs.YtbnlnndeajjenaaGreat
