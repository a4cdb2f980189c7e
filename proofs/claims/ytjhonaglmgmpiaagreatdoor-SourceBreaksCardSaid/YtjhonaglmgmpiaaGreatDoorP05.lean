/-
  Parts PsI, PsJ, PsK, PsL, PsM, PsN, PsO of the proof. No statement of the seat is proved here.
-/
import Derived.Test.YtjhonaglmgmpiaaGreatDoorP04
set_option maxHeartbeats 4000000
namespace Go.Proofs.YtjhonaglmgmpiaaGreatDoor
namespace Ps
open Lx
section
variable {T : List Tk} {fin : Nat}
theorem simAll_casL {f : Nat} (ih : SimAll T fin f) (g : Nat) (l : List Tr) (s : PS) (r : Rs.RS) (h : Rel T s r) (hf : rem T s + 1 ≤ f + 1) (hg : rem T s + 1 ≤ g) : Sim T (casL T fin (f + 1) l s) (Rs.casL (Rs.toks T fin) g l r) := by
 obtain ⟨g, rfl⟩ : ∃ n, g = n + 1 := ⟨g - 1, by omega⟩
 unfold casL Rs.casL
 rw [h.ok, h.mark (by decide), Bool.true_and]
 by_cases hc : is_ T fin s [59] = true
 ·rw [if_pos hc, if_pos hc]
  have hl := rem_adv (T := T) (s := s) (s' := adv s) (Nat.lt_succ_self _) (mark_lt hc)
  refine (ih.msg g _ _ (h.adv (mark_lt hc)) (by omega) (by omega)).bind ((leAll T fin f).casL _ _) ((Rs.kpAll _ g).casL _ _) fun k1 k2 => ?_
  have l2 := rem_le (T := T) ((leAll T fin f).msg (adv s)).at_
  rw [← k2]
  exact ih.casL _ _ _ _ k1 (by omega) (by omega)
 ·rw [if_neg hc, if_neg hc]
  exact .inl ⟨h, rfl⟩
theorem simAll_msg {f : Nat} (ih : SimAll T fin f) (g : Nat) (s : PS) (r : Rs.RS) (h : Rel T s r) (hf : rem T s + 6 ≤ f + 1) (hg : rem T s + 7 ≤ g) : Sim T (msg T fin (f + 1) s) (Rs.msg (Rs.toks T fin) g r) := by
 obtain ⟨g, rfl⟩ : ∃ n, g = n + 1 := ⟨g - 1, by omega⟩
 unfold msg Rs.msg
 rw [h.kd, h.kd, h.bin, h.tok (fin := fin)]
 dsimp only
 by_cases h1 : ((nx T fin s).1 == 1) = true
 ·rw [if_pos h1, if_pos h1]
  exact .inl ⟨h.adv (kind_lt h1 (by decide)), rfl⟩
 ·rw [if_neg h1, if_neg h1]
  by_cases h2 : binS (nx T fin s) = true
  ·rw [if_pos h2, if_pos h2]
   have hl := rem_adv (T := T) (s := s) (s' := adv s) (Nat.lt_succ_self _) (bin_lt h2)
   rcases sim_two ih (h.adv (bin_lt h2)) (g := g) (by omega) (by omega) with ⟨k1, k2⟩ | k
   ·exact .inl ⟨k1, by show nd 7 _ _ _ = nd 7 _ _ _; rw [k2]⟩
   ·exact .inr k
  ·rw [if_neg h2, if_neg h2]
   by_cases h3 : ((nx T fin s).1 == 2) = true
   ·rw [if_pos h3, if_pos h3]
    rcases ih.keyL g [] [] s r h (by omega) (by omega) with ⟨k1, k2⟩ | k
    ·injection k2 with e1 e2
     exact .inl ⟨k1, by show nd 7 _ _ _ = nd 7 _ _ _; rw [e1, e2]⟩
    ·exact .inr k
   ·rw [if_neg h3, if_neg h3]
    exact .inr (h.rf _ _)
theorem simAll_operand {f : Nat} (ih : SimAll T fin f) (g : Nat) (s : PS) (r : Rs.RS) (h : Rel T s r) (hf : rem T s + 6 ≤ f + 1) (hg : rem T s + 7 ≤ g) : Sim T (operand T fin (f + 1) s) (Rs.bins (Rs.toks T fin) g r) := by
 unfold operand
 exact sim_opr ih h (by omega) hg
theorem simAll_keyL {f : Nat} (ih : SimAll T fin f) (g : Nat) (n : Txt) (l : List Tr) (s : PS) (r : Rs.RS) (h : Rel T s r) (hf : rem T s + 1 ≤ f + 1) (hg : rem T s + 1 ≤ g) : Sim T ((((keyL T fin (f + 1) n l s).1, (keyL T fin (f + 1) n l s).2.1), (keyL T fin (f + 1) n l s).2.2) : (Txt × List Tr) × PS) (((Rs.keyL (Rs.toks T fin) g n l r).1, (Rs.keyL (Rs.toks T fin) g n l r).2.1), (Rs.keyL (Rs.toks T fin) g n l r).2.2) := by
 obtain ⟨g, rfl⟩ : ∃ n, g = n + 1 := ⟨g - 1, by omega⟩
 unfold keyL Rs.keyL
 rw [h.ok, h.kd, h.tok (fin := fin), Bool.true_and]
 by_cases hc : ((nx T fin s).1 == 2) = true
 ·rw [if_pos hc, if_pos hc]
  have hlt := kind_lt hc (by decide)
  have hl := rem_adv (T := T) (s := s) (s' := adv s) (Nat.lt_succ_self _) hlt
  refine (ih.operand g _ _ (h.adv hlt) (by omega) (by omega)).bind ((leAll T fin f).keyL _ _ _) ((Rs.kpAll _ g).keyL _ _ _) fun k1 k2 => ?_
  have l2 := rem_le (T := T) ((leAll T fin f).operand (adv s)).at_
  rw [← k2]
  exact ih.keyL _ _ _ _ _ k1 (by omega) (by omega)
 ·rw [if_neg hc, if_neg hc]
  exact .inl ⟨h, rfl⟩
theorem simAll_binL {f : Nat} (ih : SimAll T fin f) (g : Nat) (n : Tr) (s : PS) (r : Rs.RS) (h : Rel T s r) (hf : rem T s + 1 ≤ f + 1) (hg : rem T s + 1 ≤ g) : Sim T (binL_ T fin (f + 1) n s) (Rs.binL_ (Rs.toks T fin) g n r) := by
 obtain ⟨g, rfl⟩ : ∃ n, g = n + 1 := ⟨g - 1, by omega⟩
 unfold binL_ Rs.binL_
 rw [h.ok, h.bin, h.tok (fin := fin), Bool.true_and]
 dsimp only
 by_cases hc : binS (nx T fin s) = true
 ·rw [if_pos hc, if_pos hc]
  have hlt := bin_lt hc
  have hl := rem_adv (T := T) (s := s) (s' := adv s) (Nat.lt_succ_self _) hlt
  refine (sim_two ih (h.adv hlt) (g := g) (by omega) (by omega)).bind ((leAll T fin f).binL_ _ _) ((Rs.kpAll _ g).binL_ _ _) fun k1 k2 => ?_
  have l2 := rem_le (T := T) (((leAll T fin f).prim (adv s)).trans (le_unaL T fin (T.length + 2) (prim T fin f (adv s)).1 (prim T fin f (adv s)).2)).at_
  rw [← k2]
  exact ih.binL_ _ _ _ _ k1 (by omega) (by omega)
 ·rw [if_neg hc, if_neg hc]
  exact .inl ⟨h, rfl⟩
theorem simAll_arr {f : Nat} (ih : SimAll T fin f) (g : Nat) (s : PS) (r : Rs.RS) (h : Rel T s r) (hlt : s.at_ < T.length) (hf : rem T s + 2 ≤ f + 1) (hg : rem T s + 2 ≤ g) : Sim T (arr T fin (f + 1) s) (Rs.arr (Rs.toks T fin) g r) := by
 obtain ⟨g, rfl⟩ : ∃ n, g = n + 1 := ⟨g - 1, by omega⟩
 unfold arr Rs.arr
 rw [h.tok (fin := fin)]
 refine sim_grp h hlt (arrL T fin f []) (Rs.arrL (Rs.toks T fin) g []) [41] (fun l => nd 12 [] l (nx T fin s).2.2) ((leAll T fin f).arrL _) ((Rs.kpAll _ g).arrL _) fun s' r' k1 k2 => ?_
 have hl := rem_adv (T := T) (s := s) (s' := s') (by omega) hlt
 exact ih.arrL _ _ _ _ k1 (by omega) (by omega)
theorem simAll_prim (G : Good T) {f : Nat} (ih : SimAll T fin f) (g : Nat) (s : PS) (r : Rs.RS) (h : Rel T s r) (hf : rem T s + 5 ≤ f + 1) (hg : rem T s + 5 ≤ g) : Sim T (prim T fin (f + 1) s) (Rs.prim (Rs.toks T fin) g r) := by
 obtain ⟨g, rfl⟩ : ∃ n, g = n + 1 := ⟨g - 1, by omega⟩
 unfold prim Rs.prim
 dsimp only
 rw [h.ok, h.bad]
 simp only [Bool.not_true, Bool.false_eq_true, if_false]
 rw [h.kd, h.kd (k := 5), h.kd (k := 6), h.mark (by decide), h.mark (by decide), h.mark (by decide), h.mark (by decide), h.mark (by decide), h.tok (fin := fin)]
 by_cases h1 : ((nx T fin s).1 == 1) = true
 ·have e1 : (nx T fin s).1 = 1 := by simpa using h1
  have hs : simple T fin s = (none, s) := by
   unfold simple
   dsimp only
   rw [e1]
   rfl
  rw [hs, if_pos h1]
  dsimp only
  rw [if_pos h1]
  exact .inl ⟨h.adv (kind_lt h1 (by decide)), rfl⟩
 ·simp only [if_neg h1]
  by_cases h4 : (((nx T fin s).1 == 4) || Rs.neg (Rs.toks T fin) r) = true
  ·rw [h.kd, if_pos h4]
   obtain ⟨n, hn1, hn2⟩ := sim_number h (by rw [h.kd]; exact h4)
   rw [hn1]
   exact hn2
  ·rw [h.kd, if_neg h4]
   have h4' : (Rs.is_ (Rs.toks T fin) 4 [] r || Rs.neg (Rs.toks T fin) r) = false := by rw [h.kd]; exact Bool.eq_false_iff.2 h4
   by_cases h5 : ((nx T fin s).1 == 5) = true
   ·have e5 : (nx T fin s).1 = 5 := by simpa using h5
    have hs : simple T fin s = (some (nd 10 (nx T fin s).2.1 [] (nx T fin s).2.2), adv s) := by
     unfold simple
     dsimp only
     rw [e5]
     rfl
    rw [hs, if_pos h5]
    exact .inl ⟨h.adv (kind_lt h5 (by decide)), rfl⟩
   ·rw [if_neg h5]
    by_cases h6 : ((nx T fin s).1 == 6) = true
    ·have e6 : (nx T fin s).1 = 6 := by simpa using h6
     have hs : simple T fin s = (some (nd 11 (nx T fin s).2.1 [] (nx T fin s).2.2), adv s) := by
      unfold simple
      dsimp only
      rw [e6]
      rfl
     rw [hs, if_pos h6]
     exact .inl ⟨h.adv (kind_lt h6 (by decide)), rfl⟩
    ·rw [if_neg h6, simple_none h h4' (Bool.eq_false_iff.2 h5) (Bool.eq_false_iff.2 h6)]
     dsimp only
     unfold is_
     by_cases m1 : isM (nx T fin s) [35, 40] = true
     ·rw [if_pos m1, if_pos m1]
      exact ih.arr g s r h (mark_lt m1) (by omega) (by omega)
     ·rw [if_neg m1, if_neg m1]
      by_cases m2 : isM (nx T fin s) [35, 91] = true
      ·rw [if_pos m2, if_pos m2]
       exact sim_bytes G h (mark_lt m2)
      ·rw [if_neg m2, if_neg m2]
       by_cases m3 : isM (nx T fin s) [40] = true
       ·rw [if_pos m3, if_pos m3]
        refine sim_grp h (mark_lt m3) (expr T fin f) (Rs.expr (Rs.toks T fin) g) [41] (fun e => e) ((leAll T fin f).expr) ((Rs.kpAll _ g).expr) fun s' r' k1 k2 => ?_
        have hl := rem_adv (T := T) (s := s) (s' := s') (by omega) (mark_lt m3)
        exact ih.expr _ _ _ k1 (by omega) (by omega)
       ·rw [if_neg m3, if_neg m3]
        by_cases m4 : isM (nx T fin s) [123] = true
        ·rw [if_pos m4, if_pos m4]
         rcases sim_opn h (fin := fin) (mark_lt m4) with ⟨k1, _⟩ | k1
         ·have hl := rem_adv (T := T) (s := s) (s' := opn T fin s) (by rw [opn_at]; omega) (mark_lt m4)
          exact simB_shut (ih.braL g [] (opn T fin s) (Rs.opn (Rs.toks T fin) r) k1 (by omega) (by omega)) (fun l => nd 14 [] l (nx T fin s).2.2)
         ·exact .inr (Flt.go (Flt.go k1 ((leAll T fin f).braL _ _) ((Rs.kpAll _ g).braL _ _)) (le_shut T fin _ _) (Rs.kp_shut _ _ _))
        ·rw [if_neg m4, if_neg m4]
         by_cases m5 : isM (nx T fin s) [91] = true
         ·rw [if_pos m5, if_pos m5]
          exact ih.blk g s r h (mark_lt m5) (by omega) (by omega)
         ·rw [if_neg m5, if_neg m5]
          exact .inr (h.rf _ _)
end
end Ps
namespace Ps
open Lx
section
variable {T : List Tk} {fin : Nat}
theorem simAll_lit (G : Good T) {f : Nat} (ih : SimAll T fin f) (g : Nat) (s : PS) (r : Rs.RS) (h : Rel T s r) (hf : rem T s + 5 ≤ f + 1) (hg : rem T s + 5 ≤ g) : Sim T (lit T fin (f + 1) s) (Rs.lit (Rs.toks T fin) g r) := by
 obtain ⟨g, rfl⟩ : ∃ n, g = n + 1 := ⟨g - 1, by omega⟩
 unfold lit Rs.lit
 dsimp only
 by_cases h4 : (Rs.is_ (Rs.toks T fin) 4 [] r || Rs.neg (Rs.toks T fin) r) = true
 ·rw [if_pos h4]
  obtain ⟨n, hn1, hn2⟩ := sim_number h h4
  rw [hn1]
  exact hn2
 ·rw [if_neg h4]
  have h4' := Bool.eq_false_iff.2 h4
  rw [h.kd, h.kd, h.kd, h.kd, h.kd, h.mark (by decide), h.mark (by decide), h.mark (by decide), h.mark (by decide), h.tok (fin := fin)]
  by_cases h5 : ((nx T fin s).1 == 5) = true
  ·have e5 : (nx T fin s).1 = 5 := by simpa using h5
   have hs : simple T fin s = (some (nd 10 (nx T fin s).2.1 [] (nx T fin s).2.2), adv s) := by
    unfold simple
    dsimp only
    rw [e5]
    rfl
   have hm : ∀ x, Ps.is_ T fin s x = false := fun x => by unfold is_ isM; rw [e5]; rfl
   rw [hs, hm, hm, hm, e5]
   exact .inl ⟨h.adv (kind_lt h5 (by decide)), rfl⟩
  ·by_cases h6 : ((nx T fin s).1 == 6) = true
   ·have e6 : (nx T fin s).1 = 6 := by simpa using h6
    have hs : simple T fin s = (some (nd 11 (nx T fin s).2.1 [] (nx T fin s).2.2), adv s) := by
     unfold simple
     dsimp only
     rw [e6]
     rfl
    have hm : ∀ x, Ps.is_ T fin s x = false := fun x => by unfold is_ isM; rw [e6]; rfl
    rw [hs, hm, hm, hm, hm, e6]
    exact .inl ⟨h.adv (kind_lt h6 (by decide)), rfl⟩
   ·rw [simple_none h h4' (Bool.eq_false_iff.2 h5) (Bool.eq_false_iff.2 h6)]
    dsimp only
    have e5 := Bool.eq_false_iff.2 h5
    have e6 := Bool.eq_false_iff.2 h6
    rw [e5, e6]
    by_cases h1 : ((nx T fin s).1 == 1) = true
    ·have e1 : (nx T fin s).1 = 1 := by simpa using h1
     have hm : ∀ x, Ps.is_ T fin s x = false := fun x => by unfold is_ isM; rw [e1]; rfl
     have hm' : ∀ x, isM (nx T fin s) x = false := hm
     simp only [hm, hm', h1, Bool.true_and, Bool.true_or, Bool.or_self, Bool.false_eq_true, if_false, if_true]
     split
     ·exact .inl ⟨h.adv (kind_lt h1 (by decide)), rfl⟩
     ·exact .inl ⟨h.adv (kind_lt h1 (by decide)), rfl⟩
    ·have e1 := Bool.eq_false_iff.2 h1
     have hb : binS (nx T fin s) = ((nx T fin s).1 == 3 || is_ T fin s [124]) := rfl
     rw [hb, e1]
     simp only [Bool.false_and, Bool.false_or, Bool.or_false, Bool.false_eq_true, if_false]
     by_cases h2 : ((nx T fin s).1 == 2 || ((nx T fin s).1 == 3 || is_ T fin s [124])) = true
     ·have hlt : s.at_ < T.length := by
       simp only [Bool.or_eq_true] at h2
       rcases h2 with h2 | h2 | h2
       ·exact kind_lt h2 (by decide)
       ·exact kind_lt h2 (by decide)
       ·exact mark_lt h2
      have hm : ∀ x : Txt, x ≠ [124] → Ps.is_ T fin s x = false := fun x hx => by
       cases hq : Ps.is_ T fin s x
       ·rfl
       ·exfalso
        obtain ⟨q1, q2⟩ := isM_kind hq
        unfold is_ isM at h2
        rw [q1, q2] at h2
        simp at h2
        exact hx h2
      rw [hm [40] (by decide), hm [35, 40] (by decide), hm [35, 91] (by decide)]
      simp only [Bool.false_or, Bool.false_eq_true, if_false]
      rw [if_pos h2, if_pos (by rw [Bool.or_assoc]; exact h2)]
      exact .inl ⟨h.adv hlt, rfl⟩
     ·rw [if_neg h2]
      have h2' : ¬((nx T fin s).1 == 2 || (nx T fin s).1 == 3 || is_ T fin s [124]) = true := by rw [Bool.or_assoc]; exact h2
      rw [if_neg h2']
      rw [Bool.or_comm (is_ T fin s [40])]
      show Sim T (if (is_ T fin s [35, 40] || is_ T fin s [40]) = true then _ else if is_ T fin s [35, 91] = true then _ else _) _
      by_cases m1 : (is_ T fin s [35, 40] || is_ T fin s [40]) = true
      ·rw [if_pos m1, if_pos m1]
       refine ih.arr g s r h ?_ (by omega) (by omega)
       rw [Bool.or_eq_true] at m1
       rcases m1 with m1 | m1
       ·exact mark_lt m1
       ·exact mark_lt m1
      ·rw [if_neg m1, if_neg m1]
       by_cases m2 : is_ T fin s [35, 91] = true
       ·rw [if_pos m2, if_pos m2]
        exact sim_bytes G h (mark_lt m2)
       ·rw [if_neg m2, if_neg m2]
        exact .inr (h.rf _ _)
theorem simAll_braL {f : Nat} (ih : SimAll T fin f) (g : Nat) (l : List Tr) (s : PS) (r : Rs.RS) (h : Rel T s r) (hf : rem T s + 9 ≤ f + 1) (hg : rem T s + 10 ≤ g) : SimB T fin (braL T fin (f + 1) l s) (Rs.braL (Rs.toks T fin) g l r) := by
 obtain ⟨g, rfl⟩ : ∃ n, g = n + 2 := ⟨g - 2, by omega⟩
 unfold braL Rs.braL
 rw [h.ok, h.bad, h.mark (by decide), Bool.not_false, Bool.true_and]
 dsimp only
 by_cases hc : (!is_ T fin s [125]) = true
 ·rw [if_pos hc, if_pos hc]
  rcases ih.expr (g + 1) s r h (by omega) (by omega) with ⟨k1, k2⟩ | k
  ·have le := ((leAll T fin f).expr s).at_
   generalize expr T fin f s = e at *
   generalize Rs.expr (Rs.toks T fin) (g + 1) r = q at *
   rw [k1.ok, k1.mark (by decide), Bool.not_true, Bool.false_or, ← k2]
   by_cases m : is_ T fin e.2 [46] = true
   ·have hn : is_ T fin e.2 [125] = false := by
     unfold is_ isM at m ⊢
     rw [Bool.and_eq_true, beq_iff_eq, beq_iff_eq] at m
     rw [m.1, m.2]
     rfl
    rw [if_neg (by rw [m]; decide), hn]
    have ht : Rs.take (Rs.toks T fin) 7 [46] q.2 = (nx T fin e.2, Rs.adv q.2) := by
     unfold Rs.take
     rw [k1.mark (by decide), if_pos m, k1.tok]
    rw [ht]
    have hl := rem_adv (T := T) (s := e.2) (s' := adv e.2) (Nat.lt_succ_self _) (mark_lt m)
    have hl2 := rem_le (T := T) le
    exact ih.braL _ _ _ _ (k1.adv (mark_lt m)) (by omega) (by omega)
   ·rw [if_pos (by simpa using m)]
    by_cases m2 : is_ T fin e.2 [125] = true
    ·rw [if_neg (by rw [m2]; decide)]
     unfold Rs.braL
     rw [k1.mark (by decide), m2, if_neg (by simp)]
     exact .inl (.inl ⟨k1, rfl⟩)
    ·have m2' := Bool.eq_false_iff.2 m2
     rw [if_pos (by rw [m2']; rfl)]
     refine .inr ⟨k1.nf, m2', ?_⟩
     refine (Rs.kpAll (Rs.toks T fin) (g + 1)).braL _ _ _ ?_
     unfold Rs.take
     rw [k1.mark (by decide), if_neg m, k1.tok (fin := fin)]
     show (Rs.fail _ _ _).wrong = _
     unfold Rs.fail
     rw [k1.nw]
  ·refine .inl (.inr (Flt.go k ?_ ?_))
   ·split
    ·exact Le.refl _
    ·exact (le_adv _).trans ((leAll T fin f).braL _ _)
   ·refine Rs.Kp.trans ?_ ((Rs.kpAll _ (g + 1)).braL _ _)
    split
    ·exact Rs.kp_take _ _ _ _
    ·exact Rs.Kp.refl _
 ·rw [if_neg hc, if_neg hc]
  exact .inl (.inl ⟨h, rfl⟩)
end
end Ps
namespace Ps
open Lx
section
variable {T : List Tk} {fin : Nat}
theorem Rel.shuts (G : Good T) {s : PS} {r : Rs.RS} (h : Rel T s r) (m : Txt) : Rs.shuts (Rs.toks T fin) m r = closed T fin m s := by
 unfold Rs.shuts closed
 by_cases hm : m.isEmpty = true
 ·rw [if_pos hm, if_pos hm, h.kd]
  rw [Bool.eq_iff_iff, beq_iff_eq, decide_eq_true_eq]
  constructor
  ·intro h0
   rcases Nat.lt_or_ge s.at_ T.length with hl | hl
   ·exact absurd h0 (G.kind _ (nx_mem hl))
   ·exact hl
  ·intro hl
   unfold nx
   rw [List.getD_eq_getElem?_getD, List.getElem?_eq_none hl]
   rfl
 ·rw [if_neg hm, if_neg hm]
  exact h.mark (by intro e; rw [e] at hm; exact hm rfl)
theorem take_mark {s : PS} {r : Rs.RS} (h : Rel T s r) {x : Txt} (hx : x ≠ []) (m : is_ T fin s x = true) : Rs.take (Rs.toks T fin) 7 x r = (nx T fin s, Rs.adv r) := by
 unfold Rs.take
 rw [h.mark hx, if_pos m, h.tok]
theorem take_no {s : PS} {r : Rs.RS} (h : Rel T s r) {x : Txt} (hx : x ≠ []) (m : is_ T fin s x = false) : (Rs.take (Rs.toks T fin) 7 x r).2 = Rs.fail r 124 (nx T fin s).2.2 := by
 unfold Rs.take
 rw [h.mark hx, if_neg (by rw [m]; decide), h.tok]
theorem closed_no {s : PS} {m : Txt} (h : is_ T fin s [46] = true) (hm : m ≠ [46]) : closed T fin m s = false := by
 unfold closed
 by_cases he : m.isEmpty = true
 ·rw [if_pos he]
  exact decide_eq_false (by have := mark_lt h; omega)
 ·rw [if_neg he]
  unfold is_ isM at h ⊢
  rw [Bool.and_eq_true, beq_iff_eq, beq_iff_eq] at h
  rw [h.1, h.2, Bool.and_eq_false_iff]
  exact .inr (beq_eq_false_iff_ne.2 (Ne.symm hm))
theorem simAll_stL (G : Good T) {f : Nat} (ih : SimAll T fin f) (g : Nat) (m : Txt) (l : List Tr) (s : PS) (r : Rs.RS) (hm : m ≠ [46]) (h : Rel T s r) (hf : rem T s + 9 ≤ f + 1) (hg : rem T s + 10 ≤ g) : Sim T (stL T fin (f + 1) m l s) (Rs.stL (Rs.toks T fin) g m l r) := by
 obtain ⟨g, rfl⟩ : ∃ n, g = n + 2 := ⟨g - 2, by omega⟩
 have kpx : ∀ (b c : Bool) (q : List Tr) (e : Tr × Rs.RS), Rs.Kp e.2 (if b = true then ((q, e.2) : List Tr × Rs.RS) else Rs.stL (Rs.toks T fin) (g + 1) m q (if (c && !Rs.shuts (Rs.toks T fin) m (Rs.take (Rs.toks T fin) 7 [46] e.2).2) = true then Rs.fail (Rs.take (Rs.toks T fin) 7 [46] e.2).2 124 (Rs.tok (Rs.toks T fin) (Rs.take (Rs.toks T fin) 7 [46] e.2).2).2.2 else (Rs.take (Rs.toks T fin) 7 [46] e.2).2)).2 := by
  intro b c q e
  split
  ·exact Rs.Kp.refl _
  ·refine Rs.Kp.trans ?_ ((Rs.kpAll _ (g + 1)).stL _ _ _)
   split
   ·exact (Rs.kp_take _ _ _ _).trans (Rs.kp_fail _ _ _)
   ·exact Rs.kp_take _ _ _ _
 unfold stL
 rw [Rs.stL]
 rw [h.ok, h.bad, h.shuts G, h.mark (by decide), h.tok (fin := fin), Bool.not_true, Bool.false_or]
 dsimp only
 by_cases hc : closed T fin m s = true
 ·rw [if_pos hc, if_pos hc]
  exact .inl ⟨h, rfl⟩
 ·rw [if_neg hc, if_neg hc]
  by_cases h94 : is_ T fin s [94] = true
  ·rw [h94]
   simp only [if_true]
   have hl := rem_adv (T := T) (s := s) (s' := adv s) (Nat.lt_succ_self _) (mark_lt h94)
   have he := ih.expr (g + 1) (adv s) (Rs.adv r) (h.adv (mark_lt h94)) (by omega) (by omega)
   generalize expr T fin f (adv s) = e at *
   generalize Rs.expr (Rs.toks T fin) (g + 1) (Rs.adv r) = q at *
   refine he.bind ?_ (kpx _ true _ q) fun k1 k2 => ?_
   ·have h2 : Le e.2 (if is_ T fin e.2 [46] = true then adv e.2 else e.2) := by
     split
     ·exact le_adv _
     ·exact Le.refl _
    generalize (if is_ T fin e.2 [46] = true then adv e.2 else e.2) = s2 at *
    show Le e.2 (if (ok s2 && !closed T fin m s2) = true then odd T fin s2 else s2)
    split
    ·exact h2.trans (le_odd T fin _)
    ·exact h2
   ·rw [k1.bad, k1.shuts G, ← k2, Bool.false_or, Bool.true_and]
    by_cases m46 : is_ T fin e.2 [46] = true
    ·have hr := k1.adv (mark_lt m46)
     rw [closed_no m46 hm, if_pos m46, hr.ok, take_mark k1 (by decide) m46]
     simp only [Bool.true_and, Bool.false_eq_true, if_false]
     rw [hr.shuts G]
     by_cases hc2 : closed T fin m (adv e.2) = true
     ·simp only [hc2, Bool.not_true, Bool.false_eq_true, if_false]
      rw [Rs.stL, hr.bad, hr.shuts G, hc2]
      exact .inl ⟨hr, rfl⟩
     ·have hc3 := Bool.eq_false_iff.2 hc2
      simp only [hc3, Bool.not_false, if_true]
      rw [hr.tok (fin := fin)]
      have hF : Flt (odd T fin (adv e.2)) (Rs.fail (Rs.adv q.2) 124 (nx T fin (adv e.2)).2.2) := hr.rf _ _
      exact .inr (hF.go (Le.refl _) ((Rs.kpAll _ (g + 1)).stL _ _ _))
    ·have m46' := Bool.eq_false_iff.2 m46
     rw [if_neg m46, k1.ok, Bool.true_and, take_no k1 (by decide) m46']
     by_cases hc2 : closed T fin m e.2 = true
     ·rw [hc2, if_neg (by decide), if_pos rfl]
      exact .inl ⟨k1, rfl⟩
     ·rw [Bool.eq_false_iff.2 hc2, if_pos (by decide), if_neg (by decide)]
      have hF : Flt (odd T fin e.2) (Rs.fail q.2 124 (nx T fin e.2).2.2) := k1.rf _ _
      refine .inr (hF.go (Le.refl _) (Rs.Kp.trans ?_ ((Rs.kpAll _ (g + 1)).stL _ _ _)))
      split
      ·exact Rs.kp_fail _ _ _
      ·exact Rs.Kp.refl _
  ·rw [if_neg h94, Bool.eq_false_iff.2 h94]
   simp only [Bool.false_eq_true, if_false, Bool.false_and]
   have he := ih.expr (g + 1) s r h (by omega) (by omega)
   have le := ((leAll T fin f).expr s).at_
   generalize expr T fin f s = e at *
   generalize Rs.expr (Rs.toks T fin) (g + 1) r = q at *
   refine he.bind ?_ ?_ fun k1 k2 => ?_
   ·split
    ·exact (le_adv _).trans ((leAll T fin f).stL _ _ _)
    ·dsimp only
     split
     ·exact le_odd T fin _
     ·exact Le.refl _
   ·have := kpx (Rs.bad q.2 || Rs.shuts (Rs.toks T fin) m q.2) false (l ++ [q.1]) q
    simpa only [Bool.false_and, Bool.false_eq_true, if_false] using this
   ·rw [k1.ok, k1.bad, k1.shuts G, ← k2, Bool.false_or, Bool.true_and, Bool.true_and]
    by_cases m46 : is_ T fin e.2 [46] = true
    ·have hr := k1.adv (mark_lt m46)
     rw [closed_no m46 hm, if_pos m46, take_mark k1 (by decide) m46, if_neg (by decide)]
     have hl := rem_adv (T := T) (s := e.2) (s' := adv e.2) (Nat.lt_succ_self _) (mark_lt m46)
     have hl2 := rem_le (T := T) le
     exact ih.stL _ _ _ _ _ hm hr (by omega) (by omega)
    ·have m46' := Bool.eq_false_iff.2 m46
     rw [if_neg m46, take_no k1 (by decide) m46']
     by_cases hc2 : closed T fin m e.2 = true
     ·rw [hc2, if_neg (by decide), if_pos rfl]
      exact .inl ⟨k1, rfl⟩
     ·rw [Bool.eq_false_iff.2 hc2, if_pos (by decide), if_neg (by decide)]
      have hF : Flt (odd T fin e.2) (Rs.fail q.2 124 (nx T fin e.2).2.2) := k1.rf _ _
      exact .inr (hF.go (Le.refl _) ((Rs.kpAll _ (g + 1)).stL _ _ _))
end
end Ps
namespace Ps
open Lx
section
variable {T : List Tk} {fin : Nat}
theorem simAll_blk {f : Nat} (ih : SimAll T fin f) (g : Nat) (s : PS) (r : Rs.RS) (h : Rel T s r) (hlt : s.at_ < T.length) (hf : rem T s + 2 ≤ f + 1) (hg : rem T s + 2 ≤ g) : Sim T (blk T fin (f + 1) s) (Rs.blk (Rs.toks T fin) g r) := by
 obtain ⟨g, rfl⟩ : ∃ n, g = n + 1 := ⟨g - 1, by omega⟩
 unfold blk Rs.blk
 rw [h.tok (fin := fin)]
 dsimp only
 rcases sim_opn h (fin := fin) hlt with ⟨h1, _⟩ | h1
 ·have h1 : Rel T (opn T fin s) (Rs.opn (Rs.toks T fin) r) := h1
  have ha := sim_argL (fin := fin) (T.length + 2) ((Rs.toks T fin).length + 2) [] _ _ h1 (by omega) (by rw [toks_len]; omega)
  have la := (le_argL T fin (T.length + 2) [] (opn T fin s)).at_
  rw [opn_at] at la
  generalize argL T fin (T.length + 2) [] (opn T fin s) = a at *
  generalize Rs.argL (Rs.toks T fin) ((Rs.toks T fin).length + 2) [] (Rs.opn (Rs.toks T fin) r) = q at *
  have hs : Sim T (a.1, if (ok a.2 && !a.1.isEmpty) = true then if is_ T fin a.2 [124] = true then adv a.2 else if is_ T fin a.2 [93] = true then a.2 else odd T fin a.2 else a.2) (q.1, if (!q.1.isEmpty && !Rs.is_ (Rs.toks T fin) 7 [93] q.2) = true then (Rs.take (Rs.toks T fin) 7 [124] q.2).2 else q.2) := by
   refine ha.bind ?_ ?_ fun k1 k2 => ?_
   ·dsimp only
    repeat' split
    ·exact le_adv _
    ·exact Le.refl _
    ·exact le_odd T fin _
    ·exact Le.refl _
   ·dsimp only
    split
    ·exact Rs.kp_take _ _ _ _
    ·exact Rs.Kp.refl _
   ·rw [k1.ok, ← k2, k1.mark (by decide), Bool.true_and]
    cases he : a.1.isEmpty
    ·simp only [Bool.not_false, if_true, Bool.true_and]
     by_cases m1 : is_ T fin a.2 [124] = true
     ·have m2 : is_ T fin a.2 [93] = false := by
       unfold is_ isM at m1 ⊢
       rw [Bool.and_eq_true, beq_iff_eq, beq_iff_eq] at m1
       rw [m1.1, m1.2]
       rfl
      rw [if_pos m1, m2, take_mark k1 (by decide) m1]
      exact .inl ⟨k1.adv (mark_lt m1), rfl⟩
     ·rw [if_neg m1]
      by_cases m2 : is_ T fin a.2 [93] = true
      ·simp only [m2, if_true, Bool.not_true, Bool.false_eq_true, if_false]
       exact .inl ⟨k1, rfl⟩
      ·have m3 := Bool.eq_false_iff.2 m2
       simp only [m3, Bool.not_false, if_true, Bool.false_eq_true, if_false]
       rw [take_no k1 (by decide) (Bool.eq_false_iff.2 m1)]
       exact .inr (k1.rf _ _)
    ·simp only [Bool.not_true, Bool.false_and, Bool.false_eq_true, if_false]
     exact .inl ⟨k1, rfl⟩
  have ls : a.2.at_ ≤ (if (ok a.2 && !a.1.isEmpty) = true then if is_ T fin a.2 [124] = true then adv a.2 else if is_ T fin a.2 [93] = true then a.2 else odd T fin a.2 else a.2).at_ := by
   repeat' split
   ·exact (le_adv _).at_
   ·exact Nat.le_refl _
   ·exact (le_odd T fin _).at_
   ·exact Nat.le_refl _
  generalize (if (ok a.2 && !a.1.isEmpty) = true then if is_ T fin a.2 [124] = true then adv a.2 else if is_ T fin a.2 [93] = true then a.2 else odd T fin a.2 else a.2) = s1 at *
  generalize (if (!q.1.isEmpty && !Rs.is_ (Rs.toks T fin) 7 [93] q.2) = true then (Rs.take (Rs.toks T fin) 7 [124] q.2).2 else q.2) = r1 at *
  have hv : Sim T ((a.1, (if ok s1 = true then temps T fin s1 else ([], s1)).1), (if ok s1 = true then temps T fin s1 else ([], s1)).2) ((q.1, (Rs.temps (Rs.toks T fin) r1).1), (Rs.temps (Rs.toks T fin) r1).2) := by
   refine hs.bind ?_ (Rs.kp_temps _ _) fun k1 k2 => ?_
   ·dsimp only
    split
    ·exact le_temps T fin _
    ·exact Le.refl _
   ·have k1 : Rel T s1 r1 := k1
    rw [k1.ok, if_pos rfl]
    rcases sim_temps k1 (fin := fin) with ⟨t1, t2⟩ | t
    ·exact .inl ⟨t1, by rw [show a.1 = q.1 from k2, t2]⟩
    ·exact .inr t
  have lv : s1.at_ ≤ (if ok s1 = true then temps T fin s1 else ([], s1)).2.at_ := by
   split
   ·exact (le_temps T fin _).at_
   ·exact Nat.le_refl _
  generalize (if ok s1 = true then temps T fin s1 else ([], s1)) = v at *
  generalize Rs.temps (Rs.toks T fin) r1 = v' at *
  rcases hv with ⟨k1, k2⟩ | hv
  ·have k1 : Rel T v.2 v'.2 := k1
   have hl := rem_adv (T := T) (s := s) (s' := v.2) (by omega) hlt
   injection k2 with e1 e2
   rcases ih.stL g [93] [] v.2 v'.2 (by decide) k1 (by omega) (by omega) with ⟨c1, c2⟩ | c
   ·rcases sim_shut c1 (fin := fin) [93] with ⟨d1, _⟩ | d
    ·exact .inl ⟨d1, by show Tr.mk 2 [] a.1 v.1 _ 0 _ = Tr.mk 2 [] q.1 v'.1 _ 0 _; rw [e1, e2, c2]⟩
    ·exact .inr d
   ·exact .inr (Flt.go c (le_shut T fin _ _) (Rs.kp_shut _ _ _))
  ·exact .inr (Flt.go (Flt.go hv ((leAll T fin f).stL _ _ _) ((Rs.kpAll _ g).stL _ _ _)) (le_shut T fin _ _) (Rs.kp_shut _ _ _))
 ·refine .inr (Flt.go h1 ?_ ?_)
  ·have h1 := le_argL T fin (T.length + 2) [] (opn T fin s)
   dsimp only
   generalize argL T fin (T.length + 2) [] (opn T fin s) = a at *
   generalize opn T fin s = s0 at *
   have h2 : Le s0 (if (ok a.2 && !a.1.isEmpty) = true then if is_ T fin a.2 [124] = true then adv a.2 else if is_ T fin a.2 [93] = true then a.2 else odd T fin a.2 else a.2) := by
    repeat' split
    ·exact h1.trans (le_adv _)
    ·exact h1
    ·exact h1.trans (le_odd T fin _)
    ·exact h1
   generalize (if (ok a.2 && !a.1.isEmpty) = true then if is_ T fin a.2 [124] = true then adv a.2 else if is_ T fin a.2 [93] = true then a.2 else odd T fin a.2 else a.2) = s1 at *
   have h3 : Le s0 (if ok s1 = true then temps T fin s1 else ([], s1)).2 := by
    split
    ·exact h2.trans (le_temps T fin s1)
    ·exact h2
   exact (h3.trans ((leAll T fin f).stL _ _ _)).trans (le_shut T fin _ _)
  ·have h1 := Rs.kp_argL (Rs.toks T fin) ((Rs.toks T fin).length + 2) [] (Rs.opn (Rs.toks T fin) r)
   dsimp only
   generalize Rs.argL (Rs.toks T fin) ((Rs.toks T fin).length + 2) [] (Rs.opn (Rs.toks T fin) r) = a at *
   refine Rs.Kp.trans (Rs.Kp.trans (Rs.Kp.trans ?_ (Rs.kp_temps _ _)) ((Rs.kpAll _ g).stL _ _ _)) (Rs.kp_shut _ _ _)
   split
   ·exact h1.trans (Rs.kp_take _ _ _ _)
   ·exact h1
theorem simAll_arrL {f : Nat} (ih : SimAll T fin f) (adv_lit : ∀ s : PS, ok (lit T fin f s).2 = true → rem T s + 5 ≤ f → s.at_ < (lit T fin f s).2.at_ ∧ s.at_ < T.length) (g : Nat) (l : List Tr) (s : PS) (r : Rs.RS) (h : Rel T s r) (hf : rem T s + 6 ≤ f + 1) (hg : rem T s + 6 ≤ g) : Sim T (arrL T fin (f + 1) l s) (Rs.arrL (Rs.toks T fin) g l r) := by
 obtain ⟨g, rfl⟩ : ∃ n, g = n + 1 := ⟨g - 1, by omega⟩
 unfold arrL Rs.arrL
 rw [h.ok, h.bad, h.mark (by decide), Bool.not_false, Bool.true_and]
 by_cases hc : (!is_ T fin s [41]) = true
 ·rw [if_pos hc, if_pos hc]
  refine (ih.lit g s r h (by omega) (by omega)).bind ((leAll T fin f).arrL _ _) ((Rs.kpAll _ g).arrL _ _) fun k1 k2 => ?_
  obtain ⟨a1, a2⟩ := adv_lit s k1.ok (by omega)
  have hl := rem_adv (T := T) (s := s) (s' := (lit T fin f s).2) a1 a2
  rw [← k2]
  exact ih.arrL _ _ _ _ k1 (by omega) (by omega)
 ·rw [if_neg hc, if_neg hc]
  exact .inl ⟨h, rfl⟩
end
end Ps
namespace Ps
open Lx
section
variable {T : List Tk} {fin : Nat}
theorem simple_adv {s : PS} {n : Tr} (h : (simple T fin s).1 = some n) : s.at_ < (simple T fin s).2.at_ ∧ s.at_ < T.length := by
 unfold simple at h ⊢
 dsimp only at h ⊢
 split at h
 ·rename_i c; rw [if_pos c]; exact ⟨Nat.lt_succ_self _, kind_lt c (by decide)⟩
 ·rename_i c4
  rw [if_neg c4]
  split at h
  ·rename_i c; rw [if_pos c]; exact ⟨Nat.lt_succ_self _, kind_lt c (by decide)⟩
  ·rename_i c5
   rw [if_neg c5]
   split at h
   ·rename_i c; rw [if_pos c]; exact ⟨Nat.lt_succ_self _, kind_lt c (by decide)⟩
   ·rename_i c6
    rw [if_neg c6]
    split at h
    ·rename_i c
     rw [if_pos c]
     split at h
     ·rename_i d
      rw [if_pos d]
      simp only [Bool.and_eq_true, decide_eq_true_eq] at c
      exact ⟨by show s.at_ < s.at_ + 1 + 1; omega, by omega⟩
     ·cases h
    ·cases h
theorem grp_adv {s s1 : PS} {x : Txt} (l : Le (opn T fin s) s1) : s.at_ < (shut T fin x s1).at_ := by
 have h1 := l.at_
 have h2 := (le_shut T fin x s1).at_
 rw [opn_at] at h1
 omega
theorem lit_adv {f : Nat} (s : PS) (hok : ok (lit T fin f s).2 = true) (hf : rem T s + 5 ≤ f) : s.at_ < (lit T fin f s).2.at_ ∧ s.at_ < T.length := by
 obtain ⟨f, rfl⟩ : ∃ n, f = n + 2 := ⟨f - 2, by omega⟩
 unfold lit at hok ⊢
 dsimp only at hok ⊢
 split at hok
 ·rename_i n hn
  exact simple_adv hn
 ·rename_i hn
  split at hok
  ·rename_i c
   rw [if_pos c]
   rw [Bool.and_eq_true] at c
   exact ⟨Nat.lt_succ_self _, kind_lt c.1 (by decide)⟩
  ·rename_i c
   rw [if_neg c]
   split at hok
   ·rename_i c2
    rw [if_pos c2]
    simp only [Bool.or_eq_true] at c2
    refine ⟨Nat.lt_succ_self _, ?_⟩
    rcases c2 with (c2 | c2) | c2
    ·exact kind_lt c2 (by decide)
    ·exact kind_lt c2 (by decide)
    ·exact bin_lt c2
   ·rename_i c2
    rw [if_neg c2]
    split at hok
    ·rename_i c3
     rw [if_pos c3]
     rw [Bool.or_eq_true] at c3
     refine ⟨by unfold arr; exact grp_adv ((leAll T fin f).arrL _ _), ?_⟩
     rcases c3 with c3 | c3
     ·exact mark_lt c3
     ·exact mark_lt c3
    ·rename_i c3
     rw [if_neg c3]
     split at hok
     ·rename_i c4
      rw [if_pos c4]
      exact ⟨by unfold bytes; exact grp_adv (le_bytL T fin _ _ _), mark_lt c4⟩
     ·rw [show ok (Tr.zero, odd T fin s).2 = false from rf_no _ _ _] at hok
      cases hok
theorem simAll (G : Good T) : ∀ f, SimAll T fin f ∧ ∀ n, n + 1 = f → SimAll T fin n
 | 0 => ⟨by constructor <;> (intros; omega), fun n h => by omega⟩
 | f + 1 => by
  obtain ⟨ih, ih'⟩ := simAll G f
  refine ⟨⟨simAll_expr G ih ih', simAll_casL ih, simAll_msg ih, simAll_operand ih, simAll_keyL ih, simAll_binL ih, simAll_prim G ih, simAll_arr ih, simAll_arrL ih lit_adv, simAll_lit G ih, simAll_braL ih, simAll_blk ih, simAll_stL G ih⟩, fun n h => ?_⟩
  injection h with h
  subst h
  exact ih
end
end Ps
namespace Ps
open Lx
section
variable {T : List Tk} {fin : Nat}
theorem le_patL : ∀ (f : Nat) (n : Txt) (l : List Txt) (s : PS), Le s (patL T fin f n l s).2.2
 | 0, _, _, s => Le.refl s
 | f + 1, n, l, s => by
  unfold patL
  split
  ·exact ((le_adv s).trans (le_decl T fin l _)).trans (le_patL f _ _ _)
  ·exact Le.refl s
theorem kp_patL (L : List Tk) : ∀ (f : Nat) (n : Txt) (l : List Txt) (s : Rs.RS), Rs.Kp s (Rs.patL L f n l s).2.2
 | 0, _, _, s => Rs.Kp.refl s
 | f + 1, n, l, s => by
  unfold Rs.patL
  split
  ·exact ((Rs.kp_adv s).trans (Rs.kp_decl L l _)).trans (kp_patL L f _ _ _)
  ·exact Rs.Kp.refl s
theorem sim_patL : ∀ (f g : Nat) (n : Txt) (l : List Txt) (s : PS) (r : Rs.RS), Rel T s r → T.length < s.at_ + f → T.length < s.at_ + g → Sim T ((((patL T fin f n l s).1, (patL T fin f n l s).2.1), (patL T fin f n l s).2.2) : (Txt × List Txt) × PS) (((Rs.patL (Rs.toks T fin) g n l r).1, (Rs.patL (Rs.toks T fin) g n l r).2.1), (Rs.patL (Rs.toks T fin) g n l r).2.2)
 | 0, _, _, _, s, _, h, h1, _ => by have := h.le; omega
 | _ + 1, 0, _, _, s, _, h, _, h1 => by have := h.le; omega
 | f + 1, g + 1, n, l, s, r, h, h1, h2 => by
  unfold patL Rs.patL
  rw [h.ok, h.kd, h.tok (fin := fin), Bool.true_and]
  by_cases hc : ((nx T fin s).1 == 2) = true
  ·rw [if_pos hc, if_pos hc]
   have hlt := kind_lt hc (by decide)
   refine (sim_decl (h.adv hlt) (fin := fin) l).bind (le_patL _ _ _ _) (kp_patL _ _ _ _ _) fun k1 k2 => ?_
   have := (decl_at (l := l) (fin := fin) k1.ok).1
   have e : (adv s).at_ = s.at_ + 1 := rfl
   rw [← k2]
   exact sim_patL f g _ _ _ _ k1 (by omega) (by omega)
  ·rw [if_neg hc, if_neg hc]
   exact .inl ⟨h, rfl⟩
theorem sim_pat {s : PS} {r : Rs.RS} (h : Rel T s r) : Sim T ((((pat T fin s).1, (pat T fin s).2.1), (pat T fin s).2.2) : (Txt × List Txt) × PS) (((Rs.pat (Rs.toks T fin) r).1, (Rs.pat (Rs.toks T fin) r).2.1), (Rs.pat (Rs.toks T fin) r).2.2) := by
 unfold pat Rs.pat
 rw [h.kd, h.kd, h.bin, h.tok (fin := fin)]
 dsimp only
 by_cases h1 : ((nx T fin s).1 == 1) = true
 ·rw [if_pos h1, if_pos h1]
  exact .inl ⟨h.adv (kind_lt h1 (by decide)), rfl⟩
 ·rw [if_neg h1, if_neg h1]
  by_cases h2 : binS (nx T fin s) = true
  ·rw [if_pos h2, if_pos h2]
   rcases sim_decl (h.adv (bin_lt h2)) (fin := fin) [] with ⟨k1, k2⟩ | k
   ·exact .inl ⟨k1, by show ((nx T fin s).2.1, _) = ((nx T fin s).2.1, _); rw [k2]⟩
   ·exact .inr k
  ·rw [if_neg h2, if_neg h2]
   by_cases h3 : ((nx T fin s).1 == 2) = true
   ·rw [if_pos h3, if_pos h3]
    exact sim_patL _ _ _ _ _ _ h (by omega) (by rw [toks_len]; omega)
   ·rw [if_neg h3, if_neg h3]
    exact .inr (h.rf _ _)
theorem sim_primi (G : Good T) {s : PS} {r : Rs.RS} (h : Rel T s r) : Sim T (primi T fin s) (Rs.primi (Rs.toks T fin) r) := by
 unfold primi Rs.primi
 rw [h.ok, h.mk_ (by decide)]
 dsimp only
 rw [Bool.true_and]
 by_cases hc : ((nx T fin s).1 == 3 && (nx T fin s).2.1 == [60]) = true
 ·rw [if_pos hc, if_neg (by rw [hc]; decide)]
  have hlt : s.at_ < T.length := kind_lt (k := 3) (by rw [Bool.and_eq_true] at hc; exact hc.1) (by decide)
  have lp : ∀ (t : Tk × PS), Le t.2 (want T fin 3 [62] (smallS t.1 255 t.2)).2 := fun t => (le_smallS _ _ _).trans (le_want T fin _ _ _)
  have kq : ∀ (t : Tk × Rs.RS), Rs.Kp t.2 (if Rs.bad t.2 = true then ((0, t.2) : Nat × Rs.RS) else (Rs.numL t.1.2.1 0, (Rs.take (Rs.toks T fin) 3 [62] (if 255 < Rs.numL t.1.2.1 0 then Rs.fail t.2 123 t.1.2.2 else t.2)).2)).2 := by
   intro t
   split
   ·exact Rs.Kp.refl _
   ·refine Rs.Kp.trans ?_ (Rs.kp_take _ _ _ _)
    split
    ·exact Rs.kp_fail _ _ _
    ·exact Rs.Kp.refl _
  refine (sim_want (h.adv hlt) (fin := fin) (k := 2) (by decide) [112, 114, 105, 109, 105, 116, 105, 118, 101, 58]).bind ((le_want T fin _ _ _).trans (lp _)) ((Rs.kp_take _ _ _ _).trans (kq _)) fun k1 _ => ?_
  refine (sim_want k1 (fin := fin) (k := 4) (by decide) []).bind (lp _) (kq _) fun k2 k3 => ?_
  obtain ⟨e1, e2, e3⟩ := want_at (by decide) k2.ok
  have e4 := want_tok k2.ok
  have gn := G.num _ (nx_mem (fin := fin) e2) e3
  rw [← e4] at gn
  rw [k2.bad, ← k3]
  simp only [Bool.false_eq_true, if_false]
  unfold smallS
  by_cases hq : 255 < small (want T fin 4 [] (want T fin 2 [112, 114, 105, 109, 105, 116, 105, 118, 101, 58] (adv s)).2).1.2.1 255
  ·rw [if_pos hq, if_pos (gn.2 hq)]
   exact .inr (Flt.go (k2.rf _ _) (le_want T fin _ _ _) (Rs.kp_take _ _ _ _))
  ·have en := gn.1 (by omega)
   rw [if_neg hq, en, if_neg hq]
   rcases sim_want k2 (fin := fin) (k := 3) (by decide) [62] with ⟨w1, _⟩ | w
   ·exact .inl ⟨w1, rfl⟩
   ·exact .inr w
 ·rw [if_neg hc, if_pos (by rw [Bool.eq_false_iff.2 hc]; rfl)]
  exact .inl ⟨h, rfl⟩
theorem Sim.finish {p : Tr × PS} {q : Tr × Rs.RS} (h : Sim T p q) : Ps.finish p = Rs.finish q := by
 unfold Ps.finish Rs.finish
 rcases h with ⟨h1, h2⟩ | ⟨x, h1, h2⟩
 ·rw [h1.nf, h1.nw, h2]
 ·rw [h1, h2]
end
end Ps
namespace Ps
open Lx
section
variable {T : List Tk} {fin : Nat}
theorem rel0 : Rel T ⟨0, 0, none⟩ ⟨0, 0, none⟩ := ⟨rfl, rfl, rfl, rfl, Nat.zero_le _⟩
theorem sim_meth (G : Good T) (f g : Nat) (hf : 10 * T.length + 9 ≤ f) (hg : 10 * T.length + 10 ≤ g) : Sim T (meth T fin f) (Rs.meth (Rs.toks T fin) g) := by
 have hr : ∀ s : PS, rem T s ≤ 10 * T.length := fun s => by unfold rem; omega
 unfold meth Rs.meth
 dsimp only
 have hp := sim_pat (fin := fin) (rel0 (T := T))
 generalize pat T fin ⟨0, 0, none⟩ = p at *
 generalize Rs.pat (Rs.toks T fin) ⟨0, 0, none⟩ = p' at *
 have hq : Sim T ((p.1, p.2.1, (primi T fin p.2.2).1), (primi T fin p.2.2).2) ((p'.1, p'.2.1, (Rs.primi (Rs.toks T fin) p'.2.2).1), (Rs.primi (Rs.toks T fin) p'.2.2).2) := by
  refine hp.bind ?_ ?_ fun k1 k2 => ?_
  ·unfold primi
   dsimp only
   split
   ·exact ((((le_adv _).trans (le_want T fin _ _ _)).trans (le_want T fin _ _ _)).trans (le_smallS _ _ _)).trans (le_want T fin _ _ _)
   ·exact Le.refl _
  ·unfold Rs.primi
   dsimp only
   split
   ·exact Rs.Kp.refl _
   ·have h1 := ((Rs.kp_adv p'.2.2).trans (Rs.kp_take (Rs.toks T fin) 2 [112, 114, 105, 109, 105, 116, 105, 118, 101, 58] _)).trans (Rs.kp_take (Rs.toks T fin) 4 [] _)
    split
    ·exact h1
    ·refine Rs.Kp.trans (Rs.Kp.trans h1 ?_) (Rs.kp_take _ _ _ _)
     split
     ·exact Rs.kp_fail _ _ _
     ·exact Rs.Kp.refl _
  ·injection k2 with e1 e2
   rcases sim_primi G k1 (fin := fin) with ⟨q1, q2⟩ | q
   ·exact .inl ⟨q1, by show (p.1, p.2.1, _) = (p'.1, p'.2.1, _); rw [e1, e2, q2]⟩
   ·exact .inr q
 generalize primi T fin p.2.2 = q at *
 generalize Rs.primi (Rs.toks T fin) p'.2.2 = q' at *
 have hv : Sim T ((p.1, p.2.1, q.1, (temps T fin q.2).1), (temps T fin q.2).2) ((p'.1, p'.2.1, q'.1, (Rs.temps (Rs.toks T fin) q'.2).1), (Rs.temps (Rs.toks T fin) q'.2).2) := by
  refine hq.bind (le_temps T fin _) (Rs.kp_temps _ _) fun k1 k2 => ?_
  injection k2 with e1 e2
  injection e2 with e2 e3
  rcases sim_temps k1 (fin := fin) with ⟨q1, q2⟩ | q
  ·exact .inl ⟨q1, by show (p.1, p.2.1, q.1, _) = (p'.1, p'.2.1, q'.1, _); rw [e1, e2, e3, q2]⟩
  ·exact .inr q
 generalize temps T fin q.2 = v at *
 generalize Rs.temps (Rs.toks T fin) q'.2 = v' at *
 refine hv.bind ((leAll T fin f).stL _ _ _) ((Rs.kpAll _ g).stL _ _ _) fun k1 k2 => ?_
 injection k2 with e1 e2
 injection e2 with e2 e3
 injection e3 with e3 e4
 have := hr v.2
 rcases (simAll G f).1.stL g [] [] v.2 v'.2 (by decide) k1 (by omega) (by omega) with ⟨c1, c2⟩ | c
 ·exact .inl ⟨c1, by show Tr.mk 1 p.1 p.2.1 v.1 _ q.1 0 = Tr.mk 1 p'.1 p'.2.1 v'.1 _ q'.1 0; rw [e1, e2, e3, e4, c2]⟩
 ·exact .inr c
theorem meth_alike (G : Good T) {f g : Nat} (hf : 10 * T.length + 9 ≤ f) (hg : 10 * T.length + 10 ≤ g) : finish (meth T fin f) = Rs.finish (Rs.meth (Rs.toks T fin) g) := (sim_meth G f g hf hg).finish
end
end Ps
end Go.Proofs.YtjhonaglmgmpiaaGreatDoor
