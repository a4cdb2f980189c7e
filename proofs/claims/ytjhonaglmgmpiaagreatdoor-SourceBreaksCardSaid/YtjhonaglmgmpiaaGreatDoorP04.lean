/-
  Parts PsF, PsG, PsP, PsQ, PsR, PsS, LxN, LxM, LxS, PsT, PsH of the proof. No statement of the seat is proved here.
-/
import Derived.Test.YtjhonaglmgmpiaaGreatDoorP03
import Derived.Test.YtjhonaglmgmpiaaGreatDoorP01
set_option maxHeartbeats 4000000
namespace Go.Proofs.YtjhonaglmgmpiaaGreatDoor
namespace Ps
open Lx
structure Rel (T : List Tk) (s : PS) (r : Rs.RS) : Prop where
 at_ : r.at_ = s.at_
 dep : r.depth = s.deep
 nf : s.fault = none
 nw : r.wrong = none
 le : s.at_ ≤ T.length
def Flt (s : PS) (r : Rs.RS) : Prop := ∃ x, s.fault = some x ∧ r.wrong = some x
def Sim {A : Type} (T : List Tk) (p : A × PS) (q : A × Rs.RS) : Prop := (Rel T p.2 q.2 ∧ p.1 = q.1) ∨ Flt p.2 q.2
theorem Flt.go {s s' : PS} {r r' : Rs.RS} (h : Flt s r) (l : Le s s') (k : Rs.Kp r r') : Flt s' r' := by
 obtain ⟨x, h1, h2⟩ := h
 exact ⟨x, l.fl x h1, k x h2⟩
theorem Sim.bind {A B : Type} {T : List Tk} {p : A × PS} {q : A × Rs.RS} {p' : B × PS} {q' : B × Rs.RS} (h : Sim T p q) (l : Le p.2 p'.2) (k : Rs.Kp q.2 q'.2) (c : Rel T p.2 q.2 → p.1 = q.1 → Sim T p' q') : Sim T p' q' := by
 rcases h with ⟨h1, h2⟩ | h
 ·exact c h1 h2
 ·exact .inr (h.go l k)
section
variable {T : List Tk} {fin : Nat}
theorem toks_len : (Rs.toks T fin).length = T.length + 2 := by unfold Rs.toks; simp
theorem toks_at {i : Nat} (h : i ≤ T.length + 1) : (Rs.toks T fin).getD i (0, [], 0) = T.getD i (0, [], fin) := by
 by_cases h1 : i < T.length
 ·exact toks_getD h1 _
 ·unfold Rs.toks
  rw [List.getD_eq_getElem?_getD, List.getD_eq_getElem?_getD, List.getElem?_append_right (by omega), List.getElem?_eq_none (l := T) (by omega)]
  obtain h2 | h2 : i - T.length = 0 ∨ i - T.length = 1 := by omega
  ·rw [h2]; rfl
  ·rw [h2]; rfl
namespace Rel
variable {s : PS} {r : Rs.RS}
theorem tok (h : Rel T s r) : Rs.tok (Rs.toks T fin) r = nx T fin s := by
 unfold Rs.tok nx
 rw [h.at_, toks_at (by have := h.le; omega)]
theorem tok1 (h : Rel T s r) : Rs.tok1 (Rs.toks T fin) r = T.getD (s.at_ + 1) (0, [], fin) := by
 unfold Rs.tok1
 rw [h.at_, toks_at (by have := h.le; omega)]
theorem ok (h : Rel T s r) : Ps.ok s = true := by unfold Ps.ok; rw [h.nf]; rfl
theorem bad (h : Rel T s r) : Rs.bad r = false := by unfold Rs.bad; rw [h.nw]; rfl
theorem kd (h : Rel T s r) (k : Nat) : Rs.is_ (Rs.toks T fin) k [] r = ((nx T fin s).1 == k) := by
 unfold Rs.is_
 rw [h.tok, h.bad]
 simp
theorem mk_ (h : Rel T s r) {k : Nat} {x : Txt} (hx : x ≠ []) : Rs.is_ (Rs.toks T fin) k x r = ((nx T fin s).1 == k && (nx T fin s).2.1 == x) := by
 unfold Rs.is_
 rw [h.tok, h.bad]
 have : x.isEmpty = false := by cases x with | nil => exact absurd rfl hx | cons _ _ => rfl
 rw [this]
 simp
theorem mark (h : Rel T s r) {x : Txt} (hx : x ≠ []) : Rs.is_ (Rs.toks T fin) 7 x r = Ps.is_ T fin s x := by
 rw [h.mk_ hx]
 rfl
theorem bin (h : Rel T s r) : Rs.bin (Rs.toks T fin) r = binS (nx T fin s) := by
 unfold Rs.bin
 rw [h.kd, h.mark (by decide)]
 rfl
theorem adv (h : Rel T s r) (hlt : s.at_ < T.length) : Rel T (Ps.adv s) (Rs.adv r) := ⟨by show r.at_ + 1 = s.at_ + 1; rw [h.at_], h.dep, h.nf, h.nw, hlt⟩
theorem rf (h : Rel T s r) (p e : Nat) : Flt (Ps.rf s p e) (Rs.fail r e p) := ⟨(p, e), by unfold Ps.rf; rw [h.nf], by unfold Rs.fail; rw [h.nw]⟩
end Rel
theorem sim_want {s : PS} {r : Rs.RS} (h : Rel T s r) {k : Nat} (hk : k ≠ 0) (x : Txt) : Sim T (want T fin k x s) (Rs.take (Rs.toks T fin) k x r) := by
 unfold want Rs.take Rs.is_
 rw [h.tok (fin := fin), h.bad]
 by_cases h1 : (nx T fin s).1 = k
 ·have hlt : s.at_ < T.length := nx_lt (by rw [h1]; exact hk)
  by_cases h2 : x.isEmpty = true ∨ (nx T fin s).2.1 = x
  ·rw [if_neg, if_pos]
   ·exact .inl ⟨h.adv hlt, rfl⟩
   ·simpa [h1] using h2
   ·simp only [h1, bne_self_eq_false, Bool.false_or, Bool.and_eq_true, Bool.not_eq_true', bne_iff_ne, ne_eq, not_and, Decidable.not_not]
    intro h3
    rcases h2 with h2 | h2
    ·rw [h2] at h3; cases h3
    ·exact h2
  ·rw [not_or] at h2
   rw [if_pos, if_neg]
   ·exact .inr (h.rf _ _)
   ·simpa [h1] using h2
   ·simpa [h1] using h2
 ·rw [if_pos, if_neg]
  ·exact .inr (h.rf _ _)
  ·simp [h1]
  ·simp [h1]
theorem sim_opn {s : PS} {r : Rs.RS} (h : Rel T s r) (hlt : s.at_ < T.length) : Sim T ((), opn T fin s) ((), Rs.opn (Rs.toks T fin) r) := by
 unfold opn Rs.opn
 rw [h.dep]
 by_cases hd : s.deep = 100
 ·rw [if_pos hd, if_pos hd, h.tok (fin := fin)]
  obtain ⟨x, h1, h2⟩ := h.rf (nx T fin s).2.2 125
  exact .inr ⟨x, h1, h2⟩
 ·rw [if_neg hd, if_neg hd]
  exact .inl ⟨⟨by show r.at_ + 1 = s.at_ + 1; rw [h.at_], rfl, h.nf, h.nw, hlt⟩, rfl⟩
theorem sim_shut {s : PS} {r : Rs.RS} (h : Rel T s r) (x : Txt) : Sim T ((), shut T fin x s) ((), Rs.shut (Rs.toks T fin) x r) := by
 unfold shut
 rw [if_pos h.ok]
 unfold cls_ Rs.shut
 have h0 : Rel T { s with deep := s.deep - 1 } { r with depth := r.depth - 1 } := ⟨h.at_, by show r.depth - 1 = s.deep - 1; rw [h.dep], h.nf, h.nw, h.le⟩
 have e : (Rs.take (Rs.toks T fin) 7 x { r with depth := r.depth - 1 }).2 = { (Rs.take (Rs.toks T fin) 7 x r).2 with depth := (Rs.take (Rs.toks T fin) 7 x r).2.depth - 1 } := by
  unfold Rs.take
  have : Rs.is_ (Rs.toks T fin) 7 x { r with depth := r.depth - 1 } = Rs.is_ (Rs.toks T fin) 7 x r := rfl
  rw [this]
  split <;> rfl
 have hw := sim_want h0 (fin := fin) (k := 7) (by decide) x
 dsimp only
 rw [← e]
 rcases hw with ⟨h1, _⟩ | h1
 ·exact .inl ⟨h1, rfl⟩
 ·exact .inr h1
theorem sim_decl {s : PS} {r : Rs.RS} (h : Rel T s r) (l : List Txt) : Sim T (decl T fin l s) (Rs.decl (Rs.toks T fin) l r) := by
 refine (sim_want h (fin := fin) (k := 1) (by decide) []).bind ?_ ?_ ?_
 ·unfold decl
  dsimp only
  split
  ·exact le_rf _ _ _
  ·exact Le.refl _
 ·unfold Rs.decl
  dsimp only
  repeat' split
  ·exact Rs.Kp.refl _
  ·exact Rs.kp_fail _ _ _
  ·exact Rs.Kp.refl _
 ·intro h1 h2
  unfold decl Rs.decl
  dsimp only
  rw [h1.ok, h1.bad, ← h2, Bool.true_and]
  show Sim T _ (l ++ [(want T fin 1 [] s).1.2.1], _)
  split
  ·exact .inr (h1.rf _ _)
  ·exact .inl ⟨h1, rfl⟩
theorem sim_tmpL : ∀ (f g : Nat) (l : List Txt) (s : PS) (r : Rs.RS), Rel T s r → T.length < s.at_ + f → T.length < s.at_ + g → Sim T (tmpL T fin f l s) (Rs.tmpL (Rs.toks T fin) g l r)
 | 0, _, _, s, _, h, h1, _ => by have := h.le; omega
 | _ + 1, 0, _, s, _, h, _, h1 => by have := h.le; omega
 | f + 1, g + 1, l, s, r, h, h1, h2 => by
  unfold tmpL Rs.tmpL
  rw [h.ok, h.bad, h.mark (by decide), Bool.not_false]
  by_cases hc : (true && !Ps.is_ T fin s [124]) = true
  ·rw [if_pos hc, if_pos hc]
   refine (sim_decl h (fin := fin) l).bind (le_tmpL T fin _ _ _) (Rs.kp_tmpL _ _ _ _) fun k1 k2 => ?_
   have := (decl_at (l := l) (fin := fin) k1.ok).1
   rw [← k2]
   exact sim_tmpL f g _ _ _ k1 (by omega) (by omega)
  ·rw [if_neg hc, if_neg hc]
   exact .inl ⟨h, rfl⟩
theorem sim_temps {s : PS} {r : Rs.RS} (h : Rel T s r) : Sim T (temps T fin s) (Rs.temps (Rs.toks T fin) r) := by
 unfold temps Rs.temps
 rw [h.mark (by decide)]
 by_cases hc : Ps.is_ T fin s [124] = true
 ·rw [if_pos hc, if_pos hc]
  have hlt : s.at_ < T.length := nx_lt (fin := fin) (by rw [(isM_kind hc).1]; decide)
  have hs := sim_tmpL (fin := fin) (T.length + 2) ((Rs.toks T fin).length + 2) [] _ _ (h.adv hlt) (by omega) (by rw [toks_len]; omega)
  refine hs.bind (le_adv _) ?_ fun k1 k2 => ?_
  ·dsimp only
   split
   ·exact Rs.Kp.refl _
   ·exact Rs.kp_adv _
  ·dsimp only
   rw [if_neg (by rw [k1.bad]; decide)]
   have h3 := tmpL_end (fin := fin) (T.length + 2) [] (adv s) (by omega) hlt k1.ok
   exact .inl ⟨k1.adv (nx_lt (fin := fin) (by rw [(isM_kind h3).1]; decide)), k2⟩
 ·rw [if_neg hc, if_neg hc]
  exact .inl ⟨h, rfl⟩
theorem sim_unaL : ∀ (f g : Nat) (n : Tr) (s : PS) (r : Rs.RS), Rel T s r → T.length < s.at_ + f → T.length < s.at_ + g → Sim T (unaL T fin f n s) (Rs.unaL (Rs.toks T fin) g n r)
 | 0, _, _, s, _, h, h1, _ => by have := h.le; omega
 | _ + 1, 0, _, s, _, h, _, h1 => by have := h.le; omega
 | f + 1, g + 1, n, s, r, h, h1, h2 => by
  unfold unaL Rs.unaL
  rw [h.ok, h.kd, h.tok (fin := fin)]
  by_cases hc : ((nx T fin s).1 == 1) = true
  ·rw [if_pos (by rw [hc]; rfl), if_pos hc]
   have hlt : s.at_ < T.length := nx_lt (fin := fin) (by have e : (nx T fin s).1 = 1 := (by simpa using hc); rw [e]; decide)
   have e : (adv s).at_ = s.at_ + 1 := rfl
   exact sim_unaL f g _ _ _ (h.adv hlt) (by omega) (by omega)
  ·rw [if_neg (by rw [Bool.true_and]; exact hc), if_neg hc]
   exact .inl ⟨h, rfl⟩
theorem sim_argL : ∀ (f g : Nat) (l : List Txt) (s : PS) (r : Rs.RS), Rel T s r → T.length < s.at_ + f → T.length < s.at_ + g → Sim T (argL T fin f l s) (Rs.argL (Rs.toks T fin) g l r)
 | 0, _, _, s, _, h, h1, _ => by have := h.le; omega
 | _ + 1, 0, _, s, _, h, _, h1 => by have := h.le; omega
 | f + 1, g + 1, l, s, r, h, h1, h2 => by
  unfold argL Rs.argL
  rw [h.ok, h.mark (by decide), Bool.true_and]
  by_cases hc : Ps.is_ T fin s [58] = true
  ·rw [if_pos hc, if_pos hc]
   have hlt : s.at_ < T.length := nx_lt (fin := fin) (by rw [(isM_kind hc).1]; decide)
   refine (sim_decl (h.adv hlt) (fin := fin) l).bind (le_argL T fin _ _ _) (Rs.kp_argL _ _ _ _) fun k1 k2 => ?_
   have := (decl_at (l := l) (fin := fin) k1.ok).1
   have e : (adv s).at_ = s.at_ + 1 := rfl
   rw [← k2]
   exact sim_argL f g _ _ _ k1 (by omega) (by omega)
  ·rw [if_neg hc, if_neg hc]
   exact .inl ⟨h, rfl⟩
end
end Ps
namespace Ps
open Lx
structure Good (T : List Tk) : Prop where
 rise : Rise T
 kind : ∀ t, t ∈ T → t.1 ≠ 0
 big : ∀ t, t ∈ T → t.1 = 4 → decide (255 < small t.2.1 255) = Rs.big t.2.1
 num : ∀ t, t ∈ T → t.1 = 4 → (small t.2.1 255 ≤ 255 → Rs.numL t.2.1 0 = small t.2.1 255) ∧ (255 < small t.2.1 255 → 255 < Rs.numL t.2.1 0)
section
variable {T : List Tk} {fin : Nat}
theorem nx_mem {s : PS} (h : s.at_ < T.length) : nx T fin s ∈ T := by
 unfold nx
 rw [List.getD_eq_getElem?_getD, List.getElem?_eq_getElem h]
 exact List.getElem_mem h
theorem want_tok {k : Nat} {x : Txt} {s : PS} (h : ok (want T fin k x s).2 = true) : (want T fin k x s).1 = nx T fin s := by
 unfold want at h ⊢
 split at h
 ·rw [show ok (((0, [], 0) : Tk), odd T fin s).2 = false from rf_no _ _ _] at h; cases h
 ·rename_i hc
  rw [if_neg hc]
theorem sim_bytL (G : Good T) : ∀ (f g : Nat) (l : List Tr) (s : PS) (r : Rs.RS), Rel T s r → T.length < s.at_ + f → T.length < s.at_ + g → Sim T (bytL T fin f l s) (Rs.bytL (Rs.toks T fin) g l r)
 | 0, _, _, s, _, h, h1, _ => by have := h.le; omega
 | _ + 1, 0, _, s, _, h, _, h1 => by have := h.le; omega
 | f + 1, g + 1, l, s, r, h, h1, h2 => by
  unfold bytL Rs.bytL
  rw [h.ok, h.bad, h.mark (by decide), Bool.not_false]
  by_cases hc : (true && !Ps.is_ T fin s [93]) = true
  ·rw [if_pos hc, if_pos hc]
   refine (sim_want h (fin := fin) (k := 4) (by decide) []).bind ?_ ?_ fun k1 k2 => ?_
   ·refine Le.trans ?_ (le_bytL T fin _ _ _)
    split
    ·exact le_smallS _ _ _
    ·exact Le.refl _
   ·dsimp only
    split
    ·exact Rs.Kp.refl _
    ·refine Rs.Kp.trans ?_ (Rs.kp_bytL _ _ _ _)
     split
     ·exact Rs.kp_fail _ _ _
     ·exact Rs.Kp.refl _
   ·obtain ⟨e1, e2, e3⟩ := want_at (by decide) k1.ok
    have e4 := want_tok k1.ok
    dsimp only
    rw [k1.ok, k1.bad, if_pos rfl, if_neg (by decide), ← k2]
    unfold smallS
    have hb := G.big _ (nx_mem (fin := fin) e2) e3
    rw [← e4] at hb
    have ea : (want T fin 4 [] s).2.at_ = s.at_ + 1 := by rw [e1]; rfl
    by_cases hq : 255 < small (want T fin 4 [] s).1.2.1 255
    ·have hb' : Rs.big (want T fin 4 [] s).1.2.1 = true := hb ▸ decide_eq_true hq
     rw [if_pos hq, if_pos hb']
     have hf : Flt (rf (want T fin 4 [] s).2 (want T fin 4 [] s).1.2.2 123) (Rs.fail (Rs.take (Rs.toks T fin) 4 [] r).2 123 (want T fin 4 [] s).1.2.2) := k1.rf _ _
     exact .inr (hf.go (le_bytL T fin _ _ _) (Rs.kp_bytL _ _ _ _))
    ·have hb' : Rs.big (want T fin 4 [] s).1.2.1 = false := hb ▸ decide_eq_false hq
     rw [if_neg hq, if_neg (by rw [hb']; decide)]
     exact sim_bytL G f g _ _ _ k1 (by omega) (by omega)
  ·rw [if_neg hc, if_neg hc]
   exact .inl ⟨h, rfl⟩
theorem sim_grp {A B : Type} {s : PS} {r : Rs.RS} (h : Rel T s r) (hlt : s.at_ < T.length) (p : PS → A × PS) (q : Rs.RS → A × Rs.RS) (x : Txt) (F : A → B) (lp : ∀ s, Le s (p s).2) (kq : ∀ r, Rs.Kp r (q r).2) (c : ∀ s' r', Rel T s' r' → s'.at_ = s.at_ + 1 → Sim T (p s') (q r')) : Sim T (F (p (opn T fin s)).1, shut T fin x (p (opn T fin s)).2) (F (q (Rs.opn (Rs.toks T fin) r)).1, Rs.shut (Rs.toks T fin) x (q (Rs.opn (Rs.toks T fin) r)).2) := by
 rcases sim_opn h (fin := fin) hlt with ⟨h1, _⟩ | h1
 ·rcases c _ _ h1 (opn_at s) with ⟨h2, h3⟩ | h2
  ·rw [h3]
   rcases sim_shut h2 (fin := fin) x with ⟨h4, _⟩ | h4
   ·exact .inl ⟨h4, rfl⟩
   ·exact .inr h4
  ·exact .inr (Flt.go h2 (le_shut T fin _ _) (Rs.kp_shut _ _ _))
 ·exact .inr (Flt.go (Flt.go h1 (lp _) (kq _)) (le_shut T fin _ _) (Rs.kp_shut _ _ _))
theorem sim_bytes (G : Good T) {s : PS} {r : Rs.RS} (h : Rel T s r) (hlt : s.at_ < T.length) : Sim T (bytes T fin s) (Rs.bytes (Rs.toks T fin) r) := by
 unfold bytes Rs.bytes
 rw [h.tok (fin := fin)]
 exact sim_grp h hlt (bytL T fin (T.length + 2) []) (Rs.bytL (Rs.toks T fin) ((Rs.toks T fin).length + 2) []) [93] (fun l => nd 13 [] l (nx T fin s).2.2) (le_bytL T fin _ _) (Rs.kp_bytL _ _ _) fun s' r' k1 k2 => sim_bytL G _ _ _ _ _ k1 (by omega) (by rw [toks_len]; omega)
theorem neg_eq {s : PS} {r : Rs.RS} (h : Rel T s r) : Rs.neg (Rs.toks T fin) r = ((nx T fin s).1 == 3 && (nx T fin s).2.1 == [45] && ((T.getD (s.at_ + 1) (0, [], fin)).1 == 4 && (T.getD (s.at_ + 1) (0, [], fin)).2.2 == (nx T fin s).2.2 + 1)) := by
 unfold Rs.neg
 rw [h.mk_ (by decide), h.tok1 (fin := fin), h.tok (fin := fin)]
 rw [Bool.and_assoc]
theorem sim_number {s : PS} {r : Rs.RS} (h : Rel T s r) (hc : (Rs.is_ (Rs.toks T fin) 4 [] r || Rs.neg (Rs.toks T fin) r) = true) : ∃ n, (simple T fin s).1 = some n ∧ Sim T (n, (simple T fin s).2) (Rs.number (Rs.toks T fin) r) := by
 rw [h.kd, neg_eq h] at hc
 unfold simple Rs.number
 rw [neg_eq h, h.tok (fin := fin), h.tok1 (fin := fin)]
 dsimp only
 by_cases h4 : ((nx T fin s).1 == 4) = true
 ·have e4 : (nx T fin s).1 = 4 := by simpa using h4
  have hlt : s.at_ < T.length := nx_lt (fin := fin) (by rw [e4]; decide)
  rw [if_pos h4, if_neg (by rw [e4]; simp)]
  exact ⟨_, rfl, .inl ⟨h.adv hlt, rfl⟩⟩
 ·rw [Bool.or_eq_true] at hc
  have hn := hc.resolve_left h4
  have hn' := hn
  simp only [Bool.and_eq_true, beq_iff_eq] at hn'
  obtain ⟨⟨e3, e45⟩, n4, np⟩ := hn'
  have hl2 : s.at_ + 1 < T.length := by
   have : (nx T fin (adv s)).1 ≠ 0 := by
    show (T.getD (s.at_ + 1) (0, [], fin)).1 ≠ 0
    rw [n4]; decide
   exact nx_lt (s := adv s) this
  have hr : Rel T (adv (adv s)) (Rs.adv (Rs.adv r)) := (h.adv (by omega)).adv (s := adv s) hl2
  rw [if_pos hn, if_neg h4, if_neg (by rw [e3]; decide), if_neg (by rw [e3]; decide), if_pos (by rw [e3, e45, decide_eq_true hl2]; rfl), if_pos (by rw [n4, np]; simp)]
  generalize T.getD (s.at_ + 1) (0, [], fin) = q at *
  by_cases h48 : q.2.1 = [48]
  ·exact ⟨_, rfl, .inl ⟨hr, by simp [h48]⟩⟩
  ·exact ⟨_, rfl, .inl ⟨hr, by simp [h48]⟩⟩
theorem simple_none {s : PS} {r : Rs.RS} (h : Rel T s r) (hc : (Rs.is_ (Rs.toks T fin) 4 [] r || Rs.neg (Rs.toks T fin) r) = false) (h5 : ((nx T fin s).1 == 5) = false) (h6 : ((nx T fin s).1 == 6) = false) : simple T fin s = (none, s) := by
 rw [h.kd, neg_eq h, Bool.or_eq_false_iff] at hc
 unfold simple
 dsimp only
 rw [hc.1, h5, h6]
 rw [if_neg (by decide), if_neg (by decide), if_neg (by decide)]
 split
 ·rename_i h1
  rw [Bool.and_eq_true] at h1
  have := hc.2
  rw [h1.1, Bool.true_and] at this
  rw [this]
  rfl
 ·rfl
end
end Ps
namespace Ps
open Lx
def val (l : Txt) (n : Nat) : Nat := l.foldl (fun n b => 10 * n + (b - 48).toNat) n
theorem val_cons (b : UInt8) (l : Txt) (n : Nat) : val (b :: l) n = val l (10 * n + (b - 48).toNat) := rfl
theorem val_ge : ∀ (l : Txt) (n : Nat), n ≤ val l n
 | [], n => Nat.le_refl n
 | b :: l, n => by
  have := val_ge l (10 * n + (b - 48).toNat)
  rw [val_cons]
  omega
theorem small_from (m : Nat) : ∀ (l : Txt) (k n : Nat), k = min n (m + 1) → l.foldl (fun n b => min (10 * n + (b - 48).toNat) (m + 1)) k = min (val l n) (m + 1)
 | [], _, _, h => h
 | b :: l, k, n, h => by
  rw [List.foldl_cons, val_cons]
  exact small_from m l _ _ (by omega)
theorem small_eq (l : Txt) (m : Nat) : small l m = min (val l 0) (m + 1) := small_from m l 0 0 (by omega)
theorem numL_val : ∀ (l : Txt) (n : Nat), (val l n ≤ 255 → Rs.numL l n = val l n) ∧ (255 < val l n → 255 < Rs.numL l n)
 | [], _ => ⟨fun _ => rfl, fun h => h⟩
 | b :: l, n => by
  have ih := numL_val l (n * 10 + (b - 48).toNat)
  have hg := val_ge (b :: l) n
  have e : val (b :: l) n = val l (n * 10 + (b - 48).toNat) := by rw [val_cons, Nat.mul_comm]
  unfold Rs.numL
  by_cases h : n ≤ 255
  ·rw [if_pos h, e]
   exact ih
  ·rw [if_neg h]
   exact ⟨fun h2 => by omega, fun _ => by omega⟩
theorem good_num (l : Txt) : (small l 255 ≤ 255 → Rs.numL l 0 = small l 255) ∧ (255 < small l 255 → 255 < Rs.numL l 0) := by
 have h := small_eq l 255
 obtain ⟨h1, h2⟩ := numL_val l 0
 refine ⟨fun k => ?_, fun k => h2 (by omega)⟩
 rw [h1 (by omega)]
 omega
def Canon (t : Txt) : Prop := t ≠ [] ∧ (∀ b, b ∈ t → 48 ≤ b.toNat ∧ b.toNat ≤ 57) ∧ (t.length = 1 ∨ t.head? ≠ some 48)
theorem dig {b : UInt8} (h : 48 ≤ b.toNat ∧ b.toNat ≤ 57) : (b - 48).toNat = b.toNat - 48 := by
 rw [UInt8.toNat_sub_of_le]
 ·rfl
 ·exact h.1
theorem good_big {t : Txt} (h : Canon t) : decide (255 < small t 255) = Rs.big t := by
 obtain ⟨h0, h1, h2⟩ := h
 rw [small_eq]
 unfold Rs.big
 match t, h0, h1, h2 with
 | [a], _, h1, _ =>
  have ha := h1 a (by simp)
  have e : val [a] 0 = a.toNat - 48 := by unfold val; simp [dig ha]
  rw [e]
  simp
  omega
 | [a, b], _, h1, _ =>
  have ha := h1 a (by simp)
  have hb := h1 b (by simp)
  have e : val [a, b] 0 = 10 * (a.toNat - 48) + (b.toNat - 48) := by unfold val; simp [dig ha, dig hb]
  rw [e]
  simp
  omega
 | [a, b, c], _, h1, _ =>
  have ha := h1 a (by simp)
  have hb := h1 b (by simp)
  have hc := h1 c (by simp)
  have e : val [a, b, c] 0 = 10 * (10 * (a.toNat - 48) + (b.toNat - 48)) + (c.toNat - 48) := by unfold val; simp [dig ha, dig hb, dig hc]
  rw [e]
  simp only [List.length_cons, List.length_nil, Nat.zero_add, Nat.reduceAdd, Nat.lt_irrefl, decide_false, Bool.false_or, BEq.rfl, Bool.true_and]
  rw [Bool.eq_iff_iff, decide_eq_true_eq, decide_eq_true_eq]
  simp only [List.cons_lt_cons_iff, UInt8.lt_iff_toNat_lt, ← UInt8.toNat_inj, List.not_lt_nil, and_false, or_false]
  simp
  omega
 | a :: b :: c :: d :: r, _, h1, h2 =>
  have ha := h1 a (by simp)
  have h3 : a ≠ 48 := by
   rcases h2 with h2 | h2
   ·simp at h2
   ·intro e; rw [e] at h2; exact h2 rfl
  have h4 : a.toNat ≠ 48 := fun e => h3 (UInt8.toNat_inj.1 e)
  have g := val_ge r (10 * (10 * (10 * (10 * 0 + (a - 48).toNat) + (b - 48).toNat) + (c - 48).toNat) + (d - 48).toNat)
  rw [val_cons, val_cons, val_cons, val_cons]
  rw [dig ha] at g ⊢
  rw [decide_eq_true (by omega)]
  simp
end Ps
namespace Ps
open Lx
theorem lexF_kind (l : Txt) : ∀ (f i : Nat) (acc : List Tk), (∀ t, t ∈ acc → t.1 ≠ 0) → ∀ t, t ∈ (lexF l f i acc).1 → t.1 ≠ 0
 | 0, _, _, h => h
 | f + 1, i, acc, h => by
  unfold lexF
  split
  ·split
   ·refine lexF_kind l f _ _ ?_
    split
    ·exact h
    ·rename_i hk
     intro t ht
     rw [List.mem_append] at ht
     rcases ht with ht | ht
     ·exact h t ht
     ·rw [List.mem_singleton] at ht
      rw [ht]
      exact hk
   ·intro t ht
    cases ht
  ·exact h
end Ps
namespace Ps
open Lx
def Top (n : List Nat) : Prop := (∀ d, d ∈ n → d ≤ 9) ∧ n.getLast? ≠ some 0
theorem co_top {d : Nat} (h : d < 100) : Top (co d) := by
 unfold co
 split
 ·exact ⟨by simp, by simp⟩
 ·split
  ·exact ⟨by simp; omega, by simp; omega⟩
  ·refine ⟨?_, by simp; omega⟩
   intro x hx
   simp at hx
   rcases hx with rfl | rfl
   ·omega
   ·omega
theorem growF_top {base : Nat} (hb : 2 ≤ base) (hb2 : base ≤ 36) : ∀ (n : List Nat) (d : Nat), d ≤ 35 → Top n → Top (growF base n d)
 | [], d, hd, _ => co_top (by omega)
 | x :: t, d, hd, h => by
  obtain ⟨h1, h2⟩ := h
  have hx := h1 x (by simp)
  have m1 : x * base ≤ 9 * base := Nat.mul_le_mul_right _ hx
  have ht : Top t := ⟨fun d hd => h1 d (List.mem_cons_of_mem _ hd), by
   cases t with
   | nil => simp
   | cons y t => rw [List.getLast?_cons_cons] at h2; exact h2⟩
  have ih := growF_top hb hb2 t ((x * base + d) / 10) (by omega) ht
  unfold growF
  refine ⟨?_, ?_⟩
  ·intro y hy
   rw [List.mem_cons] at hy
   rcases hy with rfl | hy
   ·omega
   ·exact ih.1 y hy
  ·cases hg : growF base t ((x * base + d) / 10) with
   | nil =>
    have hn : t = [] := by
     cases t with
     | nil => rfl
     | cons y t => unfold growF at hg; cases hg
    subst hn
    have hx0 : x ≠ 0 := by intro e; rw [e] at h2; exact h2 rfl
    have m2 : 1 * base ≤ x * base := Nat.mul_le_mul_right _ (by omega)
    have hq : (x * base + d) / 10 = 0 := by
     unfold growF co at hg
     split at hg
     ·assumption
     ·split at hg <;> cases hg
    simp
    omega
   | cons y l =>
    rw [List.getLast?_cons_cons, ← hg]
    exact ih.2
theorem canon_txt {n : List Nat} (h : Top n) (h0 : n ≠ []) : Canon (txtN n) := by
 obtain ⟨h1, h2⟩ := h
 unfold txtN
 refine ⟨by simpa using h0, ?_, ?_⟩
 ·intro b hb
  rw [List.mem_map] at hb
  obtain ⟨d, hd, rfl⟩ := hb
  have := h1 d (by simpa using hd)
  rw [UInt8.toNat_ofNat_of_lt' (by show 48 + d < 256; omega)]
  omega
 ·right
  rw [List.head?_map, List.head?_reverse]
  intro e
  rw [Option.map_eq_some_iff] at e
  obtain ⟨d, hd, e⟩ := e
  have h9 := h1 d (List.mem_of_getLast? hd)
  have e2 := congrArg UInt8.toNat e
  rw [UInt8.toNat_ofNat_of_lt' (by show 48 + d < 256; omega)] at e2
  have e3 : (48 : UInt8).toNat = 48 := rfl
  have : d = 0 := by omega
  rw [this] at hd
  exact h2 hd
theorem decN_top {base : Nat} (hb : 2 ≤ base) (hb2 : base ≤ 36) : ∀ (t : Txt) (n m : List Nat), Top n → decN base n t = some m → Top m
 | [], n, m, h, e => by
  unfold decN at e
  injection e with e
  rw [← e]
  exact h
 | x :: t, n, m, h, e => by
  unfold decN at e
  split at e
  ·exact decN_top hb hb2 t _ m (growF_top hb hb2 n _ (by omega) h) e
  ·cases e
theorem decF_canon {base : Nat} {ds t : Txt} (h : decF base ds = some t) : Canon t := by
 unfold decF at h
 split at h
 ·cases h
 ·rename_i hc
  split at h
  ·cases h
  ·rename_i n hn
   split at h
   ·cases h
   ·injection h with h
    have ht := decN_top (by omega) (by omega) ds [] n ⟨by simp, by simp⟩ hn
    by_cases h0 : n = []
    ·rw [if_pos h0] at h
     rw [← h]
     exact ⟨by simp, by simp, .inl rfl⟩
    ·rw [if_neg h0] at h
     rw [← h]
     exact canon_txt ht h0
end Ps
namespace Ps
open Lx
theorem numF_canon {l : Txt} {i : Nat} {r : Txt × Nat} (h : numF l i = some r) : Canon r.1 := by
 unfold numF at h
 dsimp only at h
 split at h
 ·split at h
  ·cases h
  ·rw [Option.map_eq_some_iff] at h
   obtain ⟨t, ht, rfl⟩ := h
   exact decF_canon ht
 ·rw [Option.map_eq_some_iff] at h
  obtain ⟨t, ht, rfl⟩ := h
  exact decF_canon ht
theorem symF_4 (l : Txt) (i : Nat) : (symF l i).kind ≠ 4 := by
 unfold symF
 repeat' split
 all_goals first | exact (show (6 : Nat) ≠ 4 by decide) | exact (show (7 : Nat) ≠ 4 by decide) | exact (show (0 : Nat) ≠ 4 by decide)
theorem stepF_canon {l : Txt} {i : Nat} (h : (stepF l i).kind = 4) : Canon (stepF l i).text := by
 revert h
 unfold stepF
 repeat' split
 all_goals first | (intro h; exact absurd h (show (0 : Nat) ≠ 4 by decide)) | (intro h; exact absurd h (show (1 : Nat) ≠ 4 by decide)) | (intro h; exact absurd h (show (2 : Nat) ≠ 4 by decide)) | (intro h; exact absurd h (show (3 : Nat) ≠ 4 by decide)) | (intro h; exact absurd h (show (5 : Nat) ≠ 4 by decide)) | (intro h; exact absurd h (show (7 : Nat) ≠ 4 by decide)) | (intro h; exact absurd h (symF_4 _ _)) | (rename_i hn; intro _; exact numF_canon hn)
theorem lexF_canon (l : Txt) : ∀ (f i : Nat) (acc : List Tk), (∀ t, t ∈ acc → t.1 = 4 → Canon t.2.1) → ∀ t, t ∈ (lexF l f i acc).1 → t.1 = 4 → Canon t.2.1
 | 0, _, _, h => h
 | f + 1, i, acc, h => by
  unfold lexF
  split
  ·split
   ·refine lexF_canon l f _ _ ?_
    split
    ·exact h
    ·intro t ht
     rw [List.mem_append] at ht
     rcases ht with ht | ht
     ·exact h t ht
     ·rw [List.mem_singleton] at ht
      rw [ht]
      exact fun h4 => stepF_canon h4
   ·intro t ht
    cases ht
  ·exact h
end Ps
namespace Lx
theorem co_zero : co 0 = [] := by simp [co]
theorem co_step {c : Nat} (h0 : 0 < c) (h1 : c < 100) : co c = (c % 10) :: co (c / 10) := by
 unfold co
 rw [if_neg (by omega)]
 by_cases h : c < 10
 ·rw [if_pos h, if_pos (by omega), Nat.mod_eq_of_lt h]
 ·rw [if_neg h, if_neg (show ¬ c / 10 = 0 by omega), if_pos (by omega)]
theorem co_lt {c : Nat} (h1 : c < 100) : ∀ x ∈ co c, x < 10 := by
 unfold co
 intro x hx
 split at hx
 ·cases hx
 ·split at hx
  ·simp at hx; omega
  ·simp at hx; omega
theorem co_len (c : Nat) : (co c).length ≤ 2 := by
 unfold co
 split
 ·simp
 ·split <;> simp
def Dg (m : List Nat) : Prop := ∀ x ∈ m, x < 10
theorem carry_lt {base x d : Nat} (hx : x < 10) (hd : d < base) : (x * base + d) / 10 < base := by
 have : x * base ≤ 9 * base := Nat.mul_le_mul_right _ (by omega)
 omega
theorem growF_dg {base : Nat} (hb : base ≤ 36) : ∀ (m : List Nat) (d : Nat), Dg m → d < base → Dg (growF base m d)
 | [], d, _, hd => co_lt (by omega)
 | x :: t, d, hm, hd => by
  intro y hy
  rcases List.mem_cons.1 hy with rfl | hy
  ·omega
  ·exact growF_dg hb t _ (fun z hz => hm z (List.mem_cons_of_mem _ hz)) (carry_lt (hm x (by simp)) hd) y hy
theorem growF_len (base : Nat) : ∀ (m : List Nat) (d : Nat), (growF base m d).length ≤ m.length + 2
 | [], d => by have := co_len d; simp [growF]; omega
 | x :: t, d => by have := growF_len base t ((x * base + d) / 10); simp [growF]; omega
theorem growF_ne {base d : Nat} {m : List Nat} (h : m ≠ []) : growF base m d ≠ [] := by
 cases m with
 | nil => exact absurd rfl h
 | cons x t => simp [growF]
def fixN (n : List Nat) : List Nat := if n = [] then [0] else n
theorem grow_fix {base d : Nat} (n : List Nat) (hd : d < 100) : fixN (growF base n d) = growF base (fixN n) d := by
 by_cases hn : n = []
 ·subst hn
  by_cases h0 : d = 0
  ·subst h0; simp [fixN, growF, co]
  ·have e1 : growF base [] d = (d % 10) :: co (d / 10) := co_step (by omega) hd
   have e2 : growF base (fixN []) d = (0 * base + d) % 10 :: co ((0 * base + d) / 10) := rfl
   rw [e1, e2]
   simp [fixN]
 ·unfold fixN
  rw [if_neg hn, if_neg (growF_ne hn)]
theorem fixN_len (n : List Nat) : (1000 < (fixN n).length) = (1000 < n.length) := by
 unfold fixN
 split
 ·rename_i h; subst h; simp
 ·rfl
theorem fixN_txt (n : List Nat) : (if n = [] then ([48] : Txt) else txtN n) = txtN (fixN n) := by
 unfold fixN
 split
 ·rfl
 ·rfl
theorem fixN_dg {n : List Nat} (h : Dg n) : Dg (fixN n) := by
 unfold fixN
 split
 ·intro x hx; simp at hx; omega
 ·exact h
theorem fixN_pos (n : List Nat) : 0 < (fixN n).length := by
 unfold fixN
 split
 ·simp
 ·rename_i h; exact List.length_pos_iff.2 h
theorem decN_some {base : Nat} {n : List Nat} {l : Txt} {k : Nat} {x : UInt8} (h : l[k]? = some x) (hx : valF x < base) : decN base n (l.drop k) = decN base (growF base n (valF x)) (l.drop (k + 1)) := by
 rw [drop_at h]
 simp only [decN, if_pos hx]
theorem decN_none {base : Nat} {n : List Nat} {l : Txt} {k : Nat} {x : UInt8} (h : l[k]? = some x) (hx : ¬ valF x < base) : decN base n (l.drop k) = none := by
 rw [drop_at h]
 simp only [decN, if_neg hx]
theorem decN_end {base : Nat} {n : List Nat} {l : Txt} {k : Nat} (h : l.length ≤ k) : decN base n (l.drop k) = some n := by
 rw [List.drop_eq_nil_of_le h]
 rfl
theorem decF_bad {base : Nat} {l : Txt} (h : base < 2 ∨ 36 < base ∨ 1000 < l.length) : decF base l = none := by unfold decF; rw [if_pos h]
theorem decF_none {base : Nat} {l : Txt} (h : decN base [] l = none) : decF base l = none := by
 unfold decF
 rw [h]
 split <;> rfl
theorem decF_long {base : Nat} {l : Txt} {n : List Nat} (h : decN base [] l = some n) (h2 : 1000 < (fixN n).length) : decF base l = none := by
 unfold decF
 rw [h]
 split
 ·rfl
 ·show (if 1000 < n.length then none else some _) = none
  rw [fixN_len] at h2
  rw [if_pos h2]
theorem decF_some {base : Nat} {l : Txt} {n : List Nat} (h0 : ¬ (base < 2 ∨ 36 < base ∨ 1000 < l.length)) (h : decN base [] l = some n) (h2 : ¬ 1000 < (fixN n).length) : decF base l = some (txtN (fixN n)) := by
 unfold decF
 rw [if_neg h0, h]
 show (if 1000 < n.length then none else some _) = _
 rw [fixN_len] at h2
 rw [if_neg h2, fixN_txt]
def dgB (m : List Nat) : Txt := m.map UInt8.ofNat
theorem dgB_len (m : List Nat) : (dgB m).length = m.length := by simp [dgB]
theorem dgB_set (m : List Nat) (i d : Nat) : (dgB m).set i (UInt8.ofNat d) = dgB (m.set i d) := by simp [dgB]
theorem valF_cap {x : UInt8} (h : capB x = true) : valF x = x.toNat - 55 ∧ 65 ≤ x.toNat ∧ x.toNat ≤ 90 := by
 unfold valF
 rw [if_pos h]
 unfold capB at h
 simp at h
 exact ⟨rfl, h⟩
theorem valF_dig {x : UInt8} (h : capB x = false) : valF x = x.toNat - 48 := by
 unfold valF
 rw [if_neg (by simp [h])]
set_option maxRecDepth 100000 in
theorem figB_ge {x : UInt8} (h : figB x = true) : 48 ≤ x.toNat := by
 have := all_u8 (p := fun x => !figB x || decide (48 ≤ x.toNat)) (by decide) x
 simp [h] at this
 exact this
def letK (m : List Nat) (k : Nat) : Txt := (txtN m).take k ++ (dgB m).reverse.drop k
theorem txtN_len (m : List Nat) : (txtN m).length = m.length := by simp [txtN]
theorem letK_zero (m : List Nat) : letK m 0 = (dgB m).reverse := by simp [letK]
theorem letK_len (m : List Nat) (k : Nat) (hk : k ≤ m.length) : (letK m k).length = m.length := by
 simp only [letK, List.length_append, List.length_take, List.length_drop, List.length_reverse, txtN_len, dgB_len]
 omega
theorem letK_all (m : List Nat) : letK m m.length = txtN m := by
 unfold letK
 rw [List.take_of_length_le (by rw [txtN_len]; exact Nat.le_refl _), List.drop_eq_nil_of_le (by simp [dgB_len])]
 simp
theorem letK_get {m : List Nat} (h : Dg m) {k : Nat} (hk : k < m.length) : ((letK m k).getD k 0).toNat = m.reverse.getD k 0 ∧ m.reverse.getD k 0 < 10 := by
 have hr : k < m.reverse.length := by simpa using hk
 have h1 : m.reverse[k] < 10 := h _ (by have := List.getElem_mem hr; simp)
 have e : m.reverse.getD k 0 = m.reverse[k] := by rw [List.getD, List.getElem?_eq_getElem hr]; rfl
 rw [e]
 refine ⟨?_, h1⟩
 have e2 : (letK m k)[k]? = some (UInt8.ofNat m.reverse[k]) := by
  unfold letK
  rw [List.getElem?_append_right (by simp [txtN_len]; omega)]
  have e3 : k - ((txtN m).take k).length = 0 := by simp [txtN_len]; omega
  rw [e3, List.getElem?_drop, dgB, ← List.map_reverse, List.getElem?_map, Nat.add_zero, List.getElem?_eq_getElem hr]
  rfl
 rw [List.getD, e2]
 show (UInt8.ofNat m.reverse[k]).toNat = _
 rw [UInt8.toNat_ofNat']
 omega
theorem letK_set {m : List Nat} {k : Nat} (hk : k < m.length) : (letK m k).set k (UInt8.ofNat (48 + m.reverse.getD k 0)) = letK m (k + 1) := by
 have hr : k < m.reverse.length := by simpa using hk
 have e : m.reverse.getD k 0 = m.reverse[k] := by rw [List.getD, List.getElem?_eq_getElem hr]; rfl
 have ht : k < (txtN m).length := by rw [txtN_len]; exact hk
 have hd : k < (dgB m).reverse.length := by simpa [dgB_len] using hk
 have el : ((txtN m).take k).length = k := by simp [txtN_len]; omega
 unfold letK
 rw [List.set_append_right _ _ (by omega), el, Nat.sub_self, List.drop_eq_getElem_cons hd, List.set_cons_zero, List.take_succ_eq_append_getElem ht, List.append_assoc]
 congr 1
 simp only [List.singleton_append, List.cons.injEq, and_true]
 rw [e]
 simp [txtN]
end Lx
namespace Lx
theorem cut_run (p : UInt8 → Bool) (l : Txt) (i : Nat) : cut l i (runF p l i) = (l.drop i).takeWhile p := by
 unfold cut runF
 rw [List.drop_take]
 have : i + ((l.drop i).takeWhile p).length - i = ((l.drop i).takeWhile p).length := by omega
 rw [this]
 have h := List.takeWhile_prefix (p := p) (l := l.drop i)
 exact (List.prefix_iff_eq_take.1 h).symm
theorem mem_takeWhile_imp {p : UInt8 → Bool} : ∀ {l : Txt} {x : UInt8}, x ∈ l.takeWhile p → p x = true
 | [], x, h => by simp at h
 | a :: l, x, h => by
  by_cases ha : p a = true
  ·rw [List.takeWhile_cons_of_pos ha] at h
   rcases List.mem_cons.1 h with rfl | h
   ·exact ha
   ·exact mem_takeWhile_imp h
  ·rw [List.takeWhile_cons_of_neg ha] at h; cases h
theorem cut_run_all (p : UInt8 → Bool) (l : Txt) (i : Nat) : ∀ x ∈ cut l i (runF p l i), p x = true := by
 intro x hx
 rw [cut_run] at hx
 exact mem_takeWhile_imp hx
theorem cut_len (l : Txt) (a b : Nat) (h : b ≤ l.length) : (cut l a b).length = b - a := by
 simp [cut]; omega
def numS (l : Txt) (i : Nat) : Stp := match numF l i with
 | none => bad i 123
 | some r => tok 4 r.1 r.2
def rB (l : Txt) (j : Nat) : Bool := isAt l j 114 && (l[j + 1]?.map figB).getD false
theorem numF_r {l : Txt} {i : Nat} (h : rB l (runF digB l i) = true) (h2 : ¬ 2 < runF digB l i - i) :
  numF l i = (decF (baseN (cut l i (runF digB l i)) 0) (cut l (runF digB l i + 1) (runF figB l (runF digB l i + 1)))).map fun t => (t, runF figB l (runF digB l i + 1)) := by
 unfold numF
 unfold rB at h
 simp only [h, if_true, if_neg h2]
theorem numF_r2 {l : Txt} {i : Nat} (h : rB l (runF digB l i) = true) (h2 : 2 < runF digB l i - i) : numF l i = none := by
 unfold numF
 unfold rB at h
 simp only [h, if_true, if_pos h2]
theorem numF_n {l : Txt} {i : Nat} (h : rB l (runF digB l i) = false) : numF l i = (decF 10 (cut l i (runF digB l i))).map fun t => (t, runF digB l i) := by
 unfold numF
 unfold rB at h
 simp [h]
set_option maxRecDepth 100000 in
theorem baseN_le {l : Txt} (h : ∀ x ∈ l, digB x = true) (h2 : l.length ≤ 2) : baseN l 0 ≤ 99 := by
 have key : ∀ x : UInt8, digB x = true → x.toNat - 48 ≤ 9 := by
  intro x hx
  have := all_u8 (p := fun x => !digB x || decide (x.toNat - 48 ≤ 9)) (by decide) x
  simp [hx] at this
  omega
 match l, h2 with
 | [], _ => simp [baseN]
 | [a], _ => have := key a (h a (by simp)); simp [baseN]; omega
 | [a, b], _ => have := key a (h a (by simp)); have := key b (h b (by simp)); simp [baseN]; omega
theorem digB_fig {x : UInt8} (h : digB x = true) : figB x = true := by unfold figB; rw [h]; rfl
set_option maxRecDepth 100000 in
theorem digB_range {x : UInt8} (h : digB x = true) : 48 ≤ x.toNat ∧ x.toNat ≤ 57 := by
 have := all_u8 (p := fun x => !digB x || (decide (48 ≤ x.toNat) && decide (x.toNat ≤ 57))) (by decide) x
 simp [h] at this
 omega
theorem baseN_snoc (l : Txt) (b : Nat) (x : UInt8) : baseN (l ++ [x]) b = 10 * baseN l b + (x.toNat - 48) := by
 induction l generalizing b with
 | nil => rfl
 | cons a l ih => simp only [List.cons_append, baseN, ih]
end Lx
namespace Lx
theorem get_lt {l : Txt} {i : Nat} {x : UInt8} (h : l[i]? = some x) : i < l.length := by
 rcases Nat.lt_or_ge i l.length with h1 | h1
 ·exact h1
 ·rw [List.getElem?_eq_none h1] at h; cases h
theorem isAt_lt {l : Txt} {i : Nat} {b : UInt8} (h : isAt l i b = true) : i < l.length := by
 unfold isAt at h
 have : l[i]? = some b := by simpa using h
 exact get_lt this
def Fine (l : Txt) (i : Nat) (st : Stp) : Prop := st.err = 0 → i < st.next ∧ st.next ≤ l.length
theorem fine_bad {l : Txt} {i p e : Nat} (he : ¬ e = 0) : Fine l i (bad p e) := fun h => absurd h he
theorem fine_tok {l : Txt} {i k n : Nat} {t : Txt} (h1 : i < n) (h2 : n ≤ l.length) : Fine l i (tok k t n) := fun _ => ⟨h1, h2⟩
theorem fine_ite {c : Prop} [Decidable c] {l : Txt} {i : Nat} {a b : Stp} (ha : c → Fine l i a) (hb : ¬ c → Fine l i b) : Fine l i (if c then a else b) := by
 split
 ·exact ha ‹_›
 ·exact hb ‹_›
theorem run_pos {p : UInt8 → Bool} {l : Txt} {i : Nat} {x : UInt8} (h : l[i]? = some x) (hp : p x = true) : i + 1 ≤ runF p l i := by
 rw [← runF_step h hp]
 exact runF_ge p l (i + 1)
theorem symF_fine {l : Txt} {i : Nat} : Fine l i (symF l i) := by
 unfold symF
 cases h : l[i + 1]? with
 | none => exact fine_bad (by decide)
 | some b =>
  have h1 := get_lt h
  dsimp only
  refine fine_ite (fun hc => ?_) (fun _ => fine_ite (fun hc => ?_) (fun _ => fine_ite (fun hc => ?_) (fun _ => fine_ite (fun hc => ?_) (fun _ => fine_ite (fun hc => ?_) (fun _ => fine_bad (by decide))))))
  ·exact fine_tok (by have := runF_ge symB l (i + 1); omega) (runF_le _ _ _ (by omega))
  ·exact fine_tok (by have := binF_ge l (i + 2); omega) (binF_le _ _ (by omega))
  ·exact fine_tok (by omega) (by omega)
  ·cases hq : qF l (i + 1) with
   | none => exact fine_bad (by decide)
   | some r => have := qF_le hq h1; exact fine_tok (by omega) (by omega)
  ·exact fine_tok (by omega) (by omega)
theorem numF_fine {l : Txt} {i : Nat} {x : UInt8} (h : l[i]? = some x) (hx : digB x = true) {r : Txt × Nat} (hr : numF l i = some r) : i < r.2 ∧ r.2 ≤ l.length := by
 have h1 := get_lt h
 have hj := run_pos h hx
 have hj2 := runF_le digB l i (by omega)
 unfold numF at hr
 dsimp only at hr
 split at hr
 ·rename_i hc
  simp only [Bool.and_eq_true] at hc
  have h3 := isAt_lt hc.1
  split at hr
  ·cases hr
  ·obtain ⟨t, _, rfl⟩ := Option.map_eq_some_iff.1 hr
   exact ⟨by have := runF_ge figB l (runF digB l i + 1); dsimp only; omega, runF_le _ _ _ (by omega)⟩
 ·obtain ⟨t, _, rfl⟩ := Option.map_eq_some_iff.1 hr
  exact ⟨by dsimp only; omega, hj2⟩
theorem stepF_fine {l : Txt} {i : Nat} (hi : i < l.length) : Fine l i (stepF l i) := by
 unfold stepF
 rw [List.getElem?_eq_getElem hi]
 have h := List.getElem?_eq_getElem hi
 generalize l[i] = b at h
 dsimp only
 refine fine_ite (fun hc => ?_) (fun _ => fine_ite (fun hc => ?_) (fun _ => fine_ite (fun hc => ?_) (fun _ => fine_ite (fun hc => ?_) (fun _ => fine_ite (fun hc => ?_) (fun _ => fine_ite (fun hc => ?_) (fun _ => fine_ite (fun hc => ?_) (fun _ => fine_ite (fun hc => ?_) (fun _ => fine_bad (by decide)))))))))
 ·exact fine_tok (by omega) (by omega)
 ·have h2 := run_pos (p := ldB) h (by unfold ldB letB; rw [hc]; rfl)
  refine fine_ite (fun hq => ?_) (fun _ => ?_)
  ·simp only [Bool.and_eq_true] at hq
   have := isAt_lt hq.1
   exact fine_tok (by omega) (by omega)
  ·exact fine_tok (by omega) (runF_le _ _ _ (by omega))
 ·cases hn : numF l i with
  | none => exact fine_bad (by decide)
  | some r => have := numF_fine h (by unfold digB; rw [hc]; rfl) hn; exact fine_tok this.1 this.2
 ·exact fine_tok (by have := binF_ge l (i + 1); omega) (binF_le _ _ (by omega))
 ·refine fine_ite (fun hq => ?_) (fun _ => fine_tok (by omega) (by omega))
  have := isAt_lt hq.2
  exact fine_tok (by omega) (by omega)
 ·refine fine_ite (fun hq => ?_) (fun _ => fine_bad (by decide))
  exact fine_tok (by have := runF_ge (fun x => x != 34) l (i + 1); omega) (by omega)
 ·cases hn : qF l i with
  | none => exact fine_bad (by decide)
  | some r => have := qF_le hn hi; exact fine_tok (by omega) (by omega)
 ·exact symF_fine
def lexT (l : Txt) : List Tk × Nat × Nat := if 65536 < l.length then ([], 0, 2) else lexF l l.length 0 []
theorem lexF_end {l : Txt} {f i : Nat} {acc : List Tk} (h : l.length ≤ i) : lexF l f i acc = (acc, 0, 0) := by
 cases f with
 | zero => rfl
 | succ f => simp only [lexF, if_neg (Nat.not_lt.2 h)]
theorem lexF_bad {l : Txt} {f i : Nat} {acc : List Tk} (h : i < l.length) (he : ¬ (stepF l i).err = 0) : lexF l (f + 1) i acc = ([], (stepF l i).place, (stepF l i).err) := by
 simp only [lexF, if_pos h, if_neg he]
theorem lexF_good {l : Txt} {f i : Nat} {acc : List Tk} (h : i < l.length) (he : (stepF l i).err = 0) :
  lexF l (f + 1) i acc = lexF l f (stepF l i).next (if (stepF l i).kind = 0 then acc else acc ++ [((stepF l i).kind, (stepF l i).text, i)]) := by
 simp only [lexF, if_pos h, if_pos he]
theorem acc_len {l : Txt} {i : Nat} {acc : List Tk} (h : acc.length ≤ i) (hn : i < (stepF l i).next) : (if (stepF l i).kind = 0 then acc else acc ++ [((stepF l i).kind, (stepF l i).text, i)]).length ≤ (stepF l i).next := by
 split
 ·omega
 ·simp; omega
end Lx
namespace Ps
open Lx
structure Fits (n : Nat) (T : List Tk) : Prop where
 rise : Rise T
 len : T.length ≤ n
 place : ∀ t, t ∈ T → t.2.2 < n
 txt : ∀ t, t ∈ T → t.2.1.length ≤ 65536
theorem Fits.nil (n : Nat) : Fits n [] := ⟨fun i j _ h => by simp at h, Nat.zero_le _, fun t h => (by cases h), fun t h => (by cases h)⟩
theorem Fits.snoc {i m : Nat} {T : List Tk} (h : Fits i T) {t : Tk} (ht : t.2.2 = i) (hl : t.2.1.length ≤ 65536) (him : i < m) : Fits m (T ++ [t]) := by
 refine ⟨fun a b hab hb => ?_, by simp; have := h.len; omega, fun u hu => ?_, fun u hu => ?_⟩
 ·simp only [List.length_append, List.length_singleton] at hb
  rw [List.getD_eq_getElem?_getD, List.getD_eq_getElem?_getD]
  have ha : a < T.length := by omega
  rw [List.getElem?_append_left ha]
  by_cases hbt : b < T.length
  ·rw [List.getElem?_append_left hbt]
   have := h.rise a b hab hbt
   rwa [List.getD_eq_getElem?_getD, List.getD_eq_getElem?_getD] at this
  ·rw [List.getElem?_append_right (by omega), show b - T.length = 0 by omega, List.getElem?_eq_getElem ha]
   have := h.place _ (List.getElem_mem ha)
   simp only [Option.getD_some, List.getElem?_cons_zero]
   omega
 ·rw [List.mem_append, List.mem_singleton] at hu
  rcases hu with hu | hu
  ·have := h.place u hu; omega
  ·rw [hu]; omega
 ·rw [List.mem_append, List.mem_singleton] at hu
  rcases hu with hu | hu
  ·exact h.txt u hu
  ·rw [hu]; exact hl
theorem Fits.more {i m : Nat} {T : List Tk} (h : Fits i T) (him : i ≤ m) : Fits m T := ⟨h.rise, by have := h.len; omega, fun t ht => by have := h.place t ht; omega, h.txt⟩
theorem cut_len (l : Txt) (a b : Nat) : (cut l a b).length ≤ l.length := by unfold cut; simp; omega
theorem decF_len {b : Nat} {ds t : Txt} (h : decF b ds = some t) : t.length ≤ 1000 := by
 unfold decF at h
 split at h
 ·cases h
 ·split at h
  ·cases h
  ·split at h
   ·cases h
   ·injection h with h
    rw [← h]
    split
    ·simp
    ·unfold txtN; simp; omega
theorem numF_len {l : Txt} {i : Nat} {r : Txt × Nat} (h : numF l i = some r) : r.1.length ≤ 1000 := by
 unfold numF at h
 dsimp only at h
 split at h
 ·split at h
  ·cases h
  ·obtain ⟨t, ht, rfl⟩ := Option.map_eq_some_iff.1 h
   exact decF_len ht
 ·obtain ⟨t, ht, rfl⟩ := Option.map_eq_some_iff.1 h
  exact decF_len ht
theorem symF_len {l : Txt} {i : Nat} (hl : l.length ≤ 65536) : (symF l i).text.length ≤ 65536 := by
 unfold symF
 have hc := fun a b => Nat.le_trans (cut_len l a b) hl
 cases h : l[i + 1]? with
 | none => exact Nat.zero_le _
 | some b =>
  dsimp only
  repeat' split
  all_goals first
   | exact hc _ _
   | exact Nat.zero_le _
   | (show (1 : Nat) ≤ 65536; decide)
   | (rename_i hq; have := (qF_le hq (get_lt h)).2.2; show _ ≤ 65536; dsimp only [tok]; omega)
theorem stepF_len {l : Txt} {i : Nat} (hi : i < l.length) (hl : l.length ≤ 65536) : (stepF l i).text.length ≤ 65536 := by
 unfold stepF
 have hc := fun a b => Nat.le_trans (cut_len l a b) hl
 repeat' split
 all_goals first
  | exact hc _ _
  | exact symF_len hl
  | exact Nat.zero_le _
  | (rename_i hn; exact Nat.le_trans (numF_len hn) (by decide))
  | (rename_i hq; have := (qF_le hq hi).2.2; show _ ≤ 65536; dsimp only [tok]; omega)
theorem lexF_fits {l : Txt} (hl : l.length ≤ 65536) : ∀ (f i : Nat) (acc : List Tk), i ≤ l.length → Fits i acc → Fits l.length (lexF l f i acc).1
 | 0, i, acc, hi, h => h.more hi
 | f + 1, i, acc, hi, h => by
  unfold lexF
  split
  ·rename_i hlt
   split
   ·rename_i he
    have hn := stepF_fine hlt he
    refine lexF_fits hl f _ _ hn.2 ?_
    split
    ·exact h.more (Nat.le_of_lt hn.1)
    ·exact h.snoc rfl (stepF_len hlt hl) hn.1
   ·exact Fits.nil _
  ·exact h.more hi
theorem lexT_fits (l : Txt) : Fits 65536 (lexT l).1 := by
 unfold lexT
 split
 ·exact Fits.nil _
 ·exact (lexF_fits (by omega) _ _ _ (Nat.zero_le _) (Fits.nil _)).more (by omega)
theorem lexT_good (l : Txt) : Good (lexT l).1 := by
 refine ⟨(lexT_fits l).rise, ?_, fun t ht h4 => good_big ?_, fun t _ _ => good_num t.2.1⟩
 ·unfold lexT
  split
  ·intro t ht; cases ht
  ·exact lexF_kind l _ _ _ (fun t ht => by cases ht)
 ·revert t ht h4
  unfold lexT
  split
  ·intro t ht; cases ht
  ·exact lexF_canon l _ _ _ (fun t ht => by cases ht)
end Ps
namespace Ps
open Lx
section
variable (T : List Tk) (fin : Nat)
def rem (s : PS) : Nat := 10 * (T.length - s.at_)
def SimB (p : List Tr × PS) (q : List Tr × Rs.RS) : Prop := Sim T p q ∨ (p.2.fault = none ∧ is_ T fin p.2 [125] = false ∧ q.2.wrong = some ((nx T fin p.2).2.2, 124))
structure SimAll (f : Nat) : Prop where
 expr : ∀ g s r, Rel T s r → rem T s + 8 ≤ f → rem T s + 9 ≤ g → Sim T (expr T fin f s) (Rs.expr (Rs.toks T fin) g r)
 casL : ∀ g l s r, Rel T s r → rem T s + 1 ≤ f → rem T s + 1 ≤ g → Sim T (casL T fin f l s) (Rs.casL (Rs.toks T fin) g l r)
 msg : ∀ g s r, Rel T s r → rem T s + 6 ≤ f → rem T s + 7 ≤ g → Sim T (msg T fin f s) (Rs.msg (Rs.toks T fin) g r)
 operand : ∀ g s r, Rel T s r → rem T s + 6 ≤ f → rem T s + 7 ≤ g → Sim T (operand T fin f s) (Rs.bins (Rs.toks T fin) g r)
 keyL : ∀ g n l s r, Rel T s r → rem T s + 1 ≤ f → rem T s + 1 ≤ g → Sim T ((((keyL T fin f n l s).1, (keyL T fin f n l s).2.1), (keyL T fin f n l s).2.2) : (Txt × List Tr) × PS) (((Rs.keyL (Rs.toks T fin) g n l r).1, (Rs.keyL (Rs.toks T fin) g n l r).2.1), (Rs.keyL (Rs.toks T fin) g n l r).2.2)
 binL_ : ∀ g n s r, Rel T s r → rem T s + 1 ≤ f → rem T s + 1 ≤ g → Sim T (binL_ T fin f n s) (Rs.binL_ (Rs.toks T fin) g n r)
 prim : ∀ g s r, Rel T s r → rem T s + 5 ≤ f → rem T s + 5 ≤ g → Sim T (prim T fin f s) (Rs.prim (Rs.toks T fin) g r)
 arr : ∀ g s r, Rel T s r → s.at_ < T.length → rem T s + 2 ≤ f → rem T s + 2 ≤ g → Sim T (arr T fin f s) (Rs.arr (Rs.toks T fin) g r)
 arrL : ∀ g l s r, Rel T s r → rem T s + 6 ≤ f → rem T s + 6 ≤ g → Sim T (arrL T fin f l s) (Rs.arrL (Rs.toks T fin) g l r)
 lit : ∀ g s r, Rel T s r → rem T s + 5 ≤ f → rem T s + 5 ≤ g → Sim T (lit T fin f s) (Rs.lit (Rs.toks T fin) g r)
 braL : ∀ g l s r, Rel T s r → rem T s + 9 ≤ f → rem T s + 10 ≤ g → SimB T fin (braL T fin f l s) (Rs.braL (Rs.toks T fin) g l r)
 blk : ∀ g s r, Rel T s r → s.at_ < T.length → rem T s + 2 ≤ f → rem T s + 2 ≤ g → Sim T (blk T fin f s) (Rs.blk (Rs.toks T fin) g r)
 stL : ∀ g m l s r, m ≠ [46] → Rel T s r → rem T s + 9 ≤ f → rem T s + 10 ≤ g → Sim T (stL T fin f m l s) (Rs.stL (Rs.toks T fin) g m l r)
variable {T fin}
theorem rem_le {s s' : PS} (h : s.at_ ≤ s'.at_) : rem T s' ≤ rem T s := by unfold rem; omega
theorem rem_adv {s s' : PS} (h : s.at_ < s'.at_) (k : s.at_ < T.length) : rem T s' + 10 ≤ rem T s := by unfold rem; omega
theorem mark_lt {s : PS} {x : Txt} (h : is_ T fin s x = true) : s.at_ < T.length := nx_lt (fin := fin) (by rw [(isM_kind h).1]; decide)
theorem kind_lt {s : PS} {k : Nat} (h : ((nx T fin s).1 == k) = true) (hk : k ≠ 0) : s.at_ < T.length := by
 have e : (nx T fin s).1 = k := by simpa using h
 exact nx_lt (fin := fin) (by rw [e]; exact hk)
theorem bin_lt {s : PS} (h : binS (nx T fin s) = true) : s.at_ < T.length := by
 unfold binS at h
 rw [Bool.or_eq_true] at h
 rcases h with h | h
 ·exact kind_lt h (by decide)
 ·exact mark_lt (x := [124]) h
theorem simB_shut {p : List Tr × PS} {q : List Tr × Rs.RS} (h : SimB T fin p q) (F : List Tr → Tr) : Sim T (F p.1, shut T fin [125] p.2) (F q.1, Rs.shut (Rs.toks T fin) [125] q.2) := by
 rcases h with (⟨h2, h3⟩ | h2) | ⟨b1, b2, b3⟩
 ·rw [h3]
  rcases sim_shut h2 (fin := fin) [125] with ⟨h4, _⟩ | h4
  ·exact .inl ⟨h4, rfl⟩
  ·exact .inr h4
 ·exact .inr (Flt.go h2 (le_shut T fin _ _) (Rs.kp_shut _ _ _))
 ·refine .inr ⟨_, ?_, Rs.kp_shut _ _ _ _ b3⟩
  show (shut T fin [125] p.2).fault = _
  unfold shut
  rw [if_pos (by unfold ok; rw [b1]; rfl)]
  unfold cls_ want
  have e : nx T fin { p.2 with deep := p.2.deep - 1 } = nx T fin p.2 := rfl
  rw [e, if_pos]
  ·show (rf _ _ _).fault = _
   unfold rf
   dsimp only
   rw [b1]
   rfl
  ·unfold is_ isM at b2
   rw [Bool.and_eq_false_iff] at b2
   rw [Bool.or_eq_true]
   rcases b2 with b2 | b2
   ·exact .inl (by rw [bne, b2]; rfl)
   ·exact .inr (by rw [bne, b2]; rfl)
theorem sim_two {f : Nat} (ih : SimAll T fin f) {g : Nat} {s : PS} {r : Rs.RS} (h : Rel T s r) (hf : rem T s + 5 ≤ f) (hg : rem T s + 6 ≤ g) : Sim T (unaL T fin (T.length + 2) (prim T fin f s).1 (prim T fin f s).2) (Rs.unary (Rs.toks T fin) g r) := by
 obtain ⟨g, rfl⟩ : ∃ n, g = n + 1 := ⟨g - 1, by omega⟩
 unfold Rs.unary
 refine (ih.prim g s r h hf (by omega)).bind (le_unaL T fin _ _ _) (Rs.kp_unaL _ _ _ _) fun k1 k2 => ?_
 rw [← k2]
 exact sim_unaL _ _ _ _ _ k1 (by omega) (by rw [toks_len]; omega)
theorem sim_opr {f : Nat} (ih : SimAll T fin f) {g : Nat} {s : PS} {r : Rs.RS} (h : Rel T s r) (hf : rem T s + 5 ≤ f) (hg : rem T s + 7 ≤ g) : Sim T (binL_ T fin f (unaL T fin (T.length + 2) (prim T fin f s).1 (prim T fin f s).2).1 (unaL T fin (T.length + 2) (prim T fin f s).1 (prim T fin f s).2).2) (Rs.bins (Rs.toks T fin) g r) := by
 obtain ⟨g, rfl⟩ : ∃ n, g = n + 1 := ⟨g - 1, by omega⟩
 unfold Rs.bins
 refine (sim_two ih h hf (g := g) (by omega)).bind ((leAll T fin f).binL_ _ _) ((Rs.kpAll _ g).binL_ _ _) fun k1 k2 => ?_
 have l := rem_le (T := T) (((leAll T fin f).prim s).trans (le_unaL T fin (T.length + 2) (prim T fin f s).1 (prim T fin f s).2)).at_
 rw [← k2]
 exact ih.binL_ _ _ _ _ k1 (by omega) (by omega)
theorem sim_keyw {f : Nat} (ih : SimAll T fin f) {g : Nat} {n : Tr} {s : PS} {r : Rs.RS} (h : Rel T s r) (hf : rem T s + 1 ≤ f) (hg : rem T s + 1 ≤ g) : Sim T (keyw T fin (f + 1) n s) (if (!Rs.is_ (Rs.toks T fin) 2 [] r) = true then (n, r) else (nd 5 (Rs.keyL (Rs.toks T fin) g [] [n] r).1 (Rs.keyL (Rs.toks T fin) g [] [n] r).2.1 (Rs.tok (Rs.toks T fin) r).2.2, (Rs.keyL (Rs.toks T fin) g [] [n] r).2.2)) := by
 unfold keyw
 rw [h.kd, h.ok, h.tok (fin := fin)]
 by_cases hc : ((nx T fin s).1 == 2) = true
 ·rw [if_neg (by rw [bne, hc]; decide), if_neg (by rw [hc]; decide)]
  rcases ih.keyL g [] [n] s r h hf hg with ⟨k1, k2⟩ | k
  ·injection k2 with e1 e2
   exact .inl ⟨k1, by show nd 5 _ _ _ = nd 5 _ _ _; rw [e1, e2]⟩
  ·exact .inr k
 ·rw [if_pos (by simp only [Bool.not_true, Bool.false_or, bne, Bool.not_eq_true', Bool.eq_false_iff]; exact hc), if_pos (by rw [Bool.not_eq_true', Bool.eq_false_iff]; exact hc)]
  exact .inl ⟨h, rfl⟩
theorem simAll_expr (G : Good T) {f : Nat} (ih : SimAll T fin f) (ih' : ∀ n, n + 1 = f → SimAll T fin n) (g : Nat) (s : PS) (r : Rs.RS) (h : Rel T s r) (hf : rem T s + 8 ≤ f + 1) (hg : rem T s + 9 ≤ g) : Sim T (expr T fin (f + 1) s) (Rs.expr (Rs.toks T fin) g r) := by
 obtain ⟨g, rfl⟩ : ∃ n, g = n + 2 := ⟨g - 2, by omega⟩
 obtain ⟨f, rfl⟩ : ∃ n, f = n + 1 := ⟨f - 1, by omega⟩
 have le := leAll T fin (f + 1)
 have kp := Rs.kpAll (Rs.toks T fin)
 unfold expr Rs.expr
 rw [h.kd, h.tok1 (fin := fin), h.tok (fin := fin)]
 dsimp only
 have hq : ((nx T fin s).1 == 1 && decide (s.at_ + 1 < T.length) && isM (T.getD (s.at_ + 1) (0, [], fin)) [58, 61]) = ((nx T fin s).1 == 1 && (T.getD (s.at_ + 1) (0, [], fin)).1 == 7 && (T.getD (s.at_ + 1) (0, [], fin)).2.1 == [58, 61]) := by
  by_cases hl : s.at_ + 1 < T.length
  ·rw [decide_eq_true hl, Bool.and_true, Bool.and_assoc]
   rfl
  ·rw [List.getD_eq_getElem?_getD, List.getElem?_eq_none (by omega)]
   simp [hl]
 rw [hq]
 by_cases hc : ((nx T fin s).1 == 1 && (T.getD (s.at_ + 1) (0, [], fin)).1 == 7 && (T.getD (s.at_ + 1) (0, [], fin)).2.1 == [58, 61]) = true
 ·rw [if_pos hc, if_pos hc]
  rw [← hq] at hc
  simp only [Bool.and_eq_true, decide_eq_true_eq] at hc
  have h1 := h.adv (by have := hc.1.2; omega)
  by_cases hr : resv (nx T fin s).2.1 = true
  ·rw [if_pos hr, if_pos hr]
   have hF : Flt (rf s (nx T fin s).2.2 126) (Rs.fail (Rs.adv r) 126 (nx T fin s).2.2) := h.rf _ _
   exact .inr (hF.go (Le.refl _) ((Rs.kp_adv _).trans ((kp (g + 1)).expr _)))
  ·rw [if_neg hr, if_neg hr]
   have h2 := h1.adv (s := adv s) hc.1.2
   have l := rem_adv (T := T) (s := s) (s' := adv (adv s)) (by show s.at_ < s.at_ + 1 + 1; omega) (by have := hc.1.2; omega)
   rcases ih.expr (g + 1) _ _ h2 (by omega) (by omega) with ⟨k1, k2⟩ | k
   ·exact .inl ⟨k1, by show nd 4 _ _ _ = nd 4 _ _ _; rw [k2]⟩
   ·exact .inr k
 ·rw [if_neg hc, if_neg hc]
  have hop := sim_opr ih h (g := g) (by omega) (by omega)
  have lb := (((le.prim s).trans (le_unaL T fin (T.length + 2) (prim T fin (f + 1) s).1 _)).trans (le.binL_ (unaL T fin (T.length + 2) (prim T fin (f + 1) s).1 (prim T fin (f + 1) s).2).1 _)).at_
  have sg := fun hok => sent_grouped G.rise (T := T) (fin := fin) (f := f + 1) (s := s) h.le (by unfold rem at hf; omega) _ _ _ _ rfl rfl rfl rfl hok
  have hk : Sim T (keyw T fin (f + 1) (binL_ T fin (f + 1) (unaL T fin (T.length + 2) (prim T fin (f + 1) s).1 (prim T fin (f + 1) s).2).1 (unaL T fin (T.length + 2) (prim T fin (f + 1) s).1 (prim T fin (f + 1) s).2).2).1 (binL_ T fin (f + 1) (unaL T fin (T.length + 2) (prim T fin (f + 1) s).1 (prim T fin (f + 1) s).2).1 (unaL T fin (T.length + 2) (prim T fin (f + 1) s).1 (prim T fin (f + 1) s).2).2).2) (Rs.keyw (Rs.toks T fin) (g + 1) r) := by
   unfold Rs.keyw
   dsimp only
   refine hop.bind (le.keyw _ _) ?_ fun k1 k2 => ?_
   ·split
    ·exact Rs.Kp.refl _
    ·exact (kp g).keyL _ _ _
   ·have hl := rem_le (T := T) lb
    have := sim_keyw (ih' f rfl) (g := g) (n := (binL_ T fin (f + 1) (unaL T fin (T.length + 2) (prim T fin (f + 1) s).1 (prim T fin (f + 1) s).2).1 (unaL T fin (T.length + 2) (prim T fin (f + 1) s).1 (prim T fin (f + 1) s).2).2).1) k1 (by omega) (by omega)
    rw [k2] at this ⊢
    exact this
  have lk : Le s (keyw T fin (f + 1) (binL_ T fin (f + 1) (unaL T fin (T.length + 2) (prim T fin (f + 1) s).1 (prim T fin (f + 1) s).2).1 (unaL T fin (T.length + 2) (prim T fin (f + 1) s).1 (prim T fin (f + 1) s).2).2).1 (binL_ T fin (f + 1) (unaL T fin (T.length + 2) (prim T fin (f + 1) s).1 (prim T fin (f + 1) s).2).1 (unaL T fin (T.length + 2) (prim T fin (f + 1) s).1 (prim T fin (f + 1) s).2).2).2).2 := (((le.prim s).trans (le_unaL T fin (T.length + 2) (prim T fin (f + 1) s).1 _)).trans (le.binL_ _ _)).trans (le.keyw _ _)
  generalize keyw T fin (f + 1) _ _ = k at *
  generalize (prim T fin (f + 1) s).1 = a at *
  generalize Rs.keyw (Rs.toks T fin) (g + 1) r = q at *
  refine hk.bind ?_ ?_ fun k1 k2 => ?_
  ·repeat' split
   ·exact Le.refl _
   ·exact le_odd T fin _
   ·exact le.casL _ _
  ·repeat' split
   ·exact Rs.Kp.refl _
   ·exact Rs.kp_fail _ _ _
   ·exact (kp (g + 1)).casL _ _
  ·rw [k1.ok, k1.mark (by decide), Bool.not_true, Bool.false_or]
   by_cases h59 : (!is_ T fin k.2 [59]) = true
   ·rw [if_pos h59, if_pos h59]
    exact .inl ⟨k1, k2⟩
   ·rw [if_neg h59, if_neg h59, h.at_, k1.at_, ← k2, sg k1.ok]
    by_cases hs : (!sent a k.1) = true
    ·rw [if_pos hs, if_pos hs, k1.tok (fin := fin)]
     exact .inr (k1.rf _ _)
    ·rw [if_neg hs, if_neg hs]
     have hl := rem_le (T := T) lk.at_
     rcases ih.casL (g + 1) [k.1.nodes.headD Tr.zero, nd 7 k.1.name k.1.nodes.tail k.1.place] k.2 q.2 k1 (by omega) (by omega) with ⟨c1, c2⟩ | c
     ·exact .inl ⟨c1, by show nd 6 _ _ _ = nd 6 _ _ _; rw [c2]⟩
     ·exact .inr c
end
end Ps
end Go.Proofs.YtjhonaglmgmpiaaGreatDoor
