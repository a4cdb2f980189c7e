/-
  Parts LcA, LcB, LcC, LcD, LcE, LcF, PsZa, RefB of the proof. No statement of the seat is proved here.
-/
import Derived.Test.YtjhonaglmgmpiaaGreatDoorP04
import Derived.Test.YtjhonaglmgmpiaaGreatDoorP22
import Derived.Test.YtjhonaglmgmpiaaGreatDoorP05
import Derived.Test.YtjhonaglmgmpiaaGreatDoorP11
import Derived.Laws.MakeOwn
set_option maxHeartbeats 4000000
namespace Go.Proofs.YtjhonaglmgmpiaaGreatDoor
namespace Lx
def Stp.up (s : Stp) (i : Nat) : Stp := if s.err = 0 then ⟨s.kind, s.text, i + s.next, s.place, s.err⟩ else ⟨s.kind, s.text, s.next, i + s.place, s.err⟩
theorem up_tok (k : Nat) (t : Txt) (n i : Nat) : (tok k t n).up i = tok k t (i + n) := rfl
theorem up_ite {c : Prop} [Decidable c] {a b : Stp} {i : Nat} : (if c then a else b).up i = if c then a.up i else b.up i := by split <;> rfl
theorem runF_drop (p : UInt8 → Bool) (l : Txt) (i k : Nat) : runF p l (i + k) = i + runF p (l.drop i) k := by
 unfold runF
 rw [List.drop_drop]; omega
theorem binF_drop (l : Txt) (i k : Nat) : binF l (i + k) = i + binF (l.drop i) k := by
 unfold binF
 rw [List.drop_drop]; omega
theorem cut_drop (l : Txt) (i a b : Nat) : cut l (i + a) (i + b) = cut (l.drop i) a b := by
 unfold cut
 rw [← List.drop_drop, List.take_drop]
theorem isAt_drop (l : Txt) (i k : Nat) (b : UInt8) : isAt l (i + k) b = isAt (l.drop i) k b := by
 unfold isAt
 rw [List.getElem?_drop]
theorem qF_drop (l : Txt) (i k : Nat) : qF l (i + k) = (qF (l.drop i) k).map fun r => (r.1, i + r.2) := by
 unfold qF qOn
 rw [List.drop_drop, ← Nat.add_assoc]
 cases qt (l.drop (i + k + 1)) with
 | none => rfl
 | some r => simp; omega
theorem numF_drop (l : Txt) (i : Nat) : numF l i = (numF (l.drop i) 0).map fun r => (r.1, i + r.2) := by
 have h0 : runF digB l i = i + runF digB (l.drop i) 0 := runF_drop digB l i 0
 unfold numF
 dsimp only
 rw [h0]
 generalize hj : runF digB (l.drop i) 0 = j
 rw [isAt_drop, show i + j + 1 = i + (j + 1) by omega, runF_drop, cut_drop, ← List.getElem?_drop]
 have h1 : cut l i (i + j) = cut (l.drop i) 0 j := cut_drop l i 0 j
 rw [h1, show i + j - i = j - 0 by omega]
 split
 ·split
  ·rfl
  ·cases decF _ _ <;> rfl
 ·cases decF _ _ <;> rfl
theorem symF_drop (l : Txt) (i : Nat) : symF l i = (symF (l.drop i) 0).up i := by
 have e1 : l[i + 1]? = (l.drop i)[0 + 1]? := by rw [List.getElem?_drop, Nat.zero_add]
 unfold symF
 rw [e1]
 cases (l.drop i)[0 + 1]? with
 | none => rfl
 | some b =>
  dsimp only
  rw [runF_drop, binF_drop, cut_drop, cut_drop, qF_drop, show cut l i (i + 2) = cut (l.drop i) 0 2 from cut_drop l i 0 2]
  simp only [up_ite, up_tok, Nat.zero_add]
  cases qF (l.drop i) 1 <;> rfl
theorem step_drop (l : Txt) (i : Nat) (h : i < l.length) : stepF l i = (stepF (l.drop i) 0).up i := by
 have e0 : l[i]? = (l.drop i)[0]? := by rw [List.getElem?_drop, Nat.add_zero]
 have r0 : ∀ p, runF p l i = i + runF p (l.drop i) 0 := fun p => runF_drop p l i 0
 have c0 : ∀ b, cut l i (i + b) = cut (l.drop i) 0 b := fun b => cut_drop l i 0 b
 have q0 : qF l i = (qF (l.drop i) 0).map fun r => (r.1, i + r.2) := qF_drop l i 0
 have s0 := symF_drop l i
 have n0 := numF_drop l i
 unfold stepF
 rw [e0, s0, n0, q0]
 cases hb : (l.drop i)[0]? with
 | none => rw [← e0, List.getElem?_eq_getElem h] at hb; cases hb
 | some b =>
  dsimp only
  have hl : ∀ k, (i + k < l.length ↔ k < (l.drop i).length) := fun k => by rw [List.length_drop]; omega
  simp only [up_ite, up_tok, Nat.zero_add, r0, Nat.add_assoc, isAt_drop, runF_drop, binF_drop, c0, hl]
  have u1 : ∀ e, (bad 0 (e + 1)).up i = bad i (e + 1) := fun e => rfl
  cases qF (l.drop i) 0 <;> cases numF (l.drop i) 0 <;> simp only [Option.map_none, Option.map_some, up_tok, u1 119, u1 120, u1 121, u1 122]
end Lx
namespace Lx
def hd (p : UInt8 → Bool) (v : Txt) : Bool := (v.head?.map p).getD false
def kwd (v : Txt) : Bool := isAt v 0 58 && !isAt v 1 61
def rad (v : Txt) : Bool := isAt v 0 114 && (v[1]?.map figB).getD false
structure Calm (v v' : Txt) : Prop where
 ld : hd ldB v' = true → hd ldB v = true
 dg : hd digB v' = true → hd digB v = true
 sy : hd symB v' = true → hd symB v = true
 fg : hd figB v' = true → hd figB v = true
 q : hd (fun x => x == 39) v' = true → hd (fun x => x == 39) v = true
 eq : isAt v' 0 61 = true → isAt v 0 61 = true
 kw : kwd v' = true → kwd v = true
 rd : rad v' = true → rad v = true
 bg : binGo v' 0 = true → binGo v 0 = true
theorem Calm.refl (v : Txt) : Calm v v := ⟨id, id, id, id, id, id, id, id, id⟩
def soft (v : Txt) : Bool := match v with
 | [] => true
 | b :: _ => cls b == 1 || b == 34
theorem soft_u8 (b : UInt8) : (!(cls b == 1 || b == 34) || (!ldB b && !digB b && !symB b && !figB b && !(b == 39) && !(b == 61) && !(b == 58) && !(b == 114) && !binB b)) = true :=
 all_u8 (p := fun b => (!(cls b == 1 || b == 34) || (!ldB b && !digB b && !symB b && !figB b && !(b == 39) && !(b == 61) && !(b == 58) && !(b == 114) && !binB b))) (by decide +kernel) b
theorem Calm.soft {v v' : Txt} (h : Lx.soft v' = true) : Calm v v' := by
 cases v' with
 | nil => constructor <;> (intro e; cases e)
 | cons b r =>
  have hb : (cls b == 1 || b == 34) = true := h
  have k := soft_u8 b
  rw [hb] at k
  simp only [Bool.not_true, Bool.false_or, Bool.and_eq_true, Bool.not_eq_true'] at k
  obtain ⟨⟨⟨⟨⟨⟨⟨⟨k1, k2⟩, k3⟩, k4⟩, k5⟩, k6⟩, k7⟩, k8⟩, k9⟩ := k
  have e1 : ∀ p, hd p (b :: r) = p b := fun p => rfl
  have e2 : ∀ c, isAt (b :: r) 0 c = (b == c) := fun c => by simp [isAt]
  have e3 : binGo (b :: r) 0 = (binB b && !(b == 45 && ((b :: r)[0 + 1]?.map digB).getD false)) := rfl
  constructor
  all_goals first | rw [e1, k1] | rw [e1, k2] | rw [e1, k3] | rw [e1, k4] | rw [e1, k5] | rw [e2, k6] | (unfold kwd; rw [e2, k7]) | (unfold rad; rw [e2, k8]) | rw [e3, k9]
  all_goals (intro e; cases e)
theorem Calm.two {v v' : Txt} (h0 : v[0]? = v'[0]?) (h1 : v[1]? = v'[1]?) : Calm v v' := by
 have e1 : ∀ p, hd p v' = hd p v := fun p => by unfold hd; rw [List.head?_eq_getElem?, List.head?_eq_getElem?, h0]
 have e2 : ∀ c, isAt v' 0 c = isAt v 0 c := fun c => by unfold isAt; rw [h0]
 have e3 : ∀ c, isAt v' 1 c = isAt v 1 c := fun c => by unfold isAt; rw [h1]
 constructor
 all_goals first | (rw [e1]; exact id) | (rw [e2]; exact id) | (unfold kwd; rw [e2, e3]; exact id) | (unfold rad; rw [e2, h1]; exact id) | (unfold binGo; rw [h0, show v[0 + 1]? = v'[0 + 1]? from h1]; exact id)
theorem Calm.one {c : UInt8} {r r' : Txt} (h : Lx.soft r' = true) (h1 : c ≠ 45) (h2 : c = 58 → isAt r 0 61 = false) : Calm (c :: r) (c :: r') := by
 have c' := Calm.soft (v := []) h
 have e1 : ∀ p, hd p (c :: r') = hd p (c :: r) := fun p => rfl
 have e2 : ∀ x, isAt (c :: r') 0 x = isAt (c :: r) 0 x := fun x => rfl
 have hc : (c == 45) = false := beq_eq_false_iff_ne.2 h1
 constructor
 all_goals first | (rw [e1]; exact id) | (rw [e2]; exact id) | skip
 ·unfold kwd
  rw [e2]
  intro e
  simp only [Bool.and_eq_true] at e
  have h58 : c = 58 := by simpa [isAt] using e.1
  have h3 := h2 h58
  rw [e.1]
  have : isAt (c :: r) 1 61 = isAt r 0 61 := rfl
  rw [this, h3]; rfl
 ·unfold rad
  intro e
  simp only [Bool.and_eq_true] at e
  have h3 : hd figB r' = true := by unfold hd; rw [List.head?_eq_getElem?]; exact e.2
  have := c'.fg h3
  cases this
 ·unfold binGo
  intro e
  simp only [List.getElem?_cons_zero, hc, Bool.false_and, Bool.not_false, Bool.and_true] at e ⊢
  exact e
theorem hd_take {p : UInt8 → Bool} {v : Txt} (h : hd p v = false) : v.takeWhile p = [] := by
 cases v with
 | nil => rfl
 | cons b r =>
  have : p b = false := h
  rw [List.takeWhile_cons, this]; rfl
theorem take_hd {p : UInt8 → Bool} {v : Txt} (h : (v.takeWhile p).length = 0) : hd p v = false := by
 cases v with
 | nil => rfl
 | cons b r =>
  show p b = false
  rw [List.takeWhile_cons] at h
  cases hp : p b with
  | false => rfl
  | true => rw [hp] at h; simp at h
theorem run_same {p : UInt8 → Bool} {u v v' : Txt} {k : Nat} (hk : k ≤ u.length) (h : runF p (u ++ v) k ≤ u.length) (c : hd p v' = true → hd p v = true) : runF p (u ++ v') k = runF p (u ++ v) k := by
 unfold runF at *
 rw [List.drop_append_of_le_length hk] at *
 rw [List.drop_append_of_le_length hk]
 rw [List.takeWhile_append] at *
 rw [List.takeWhile_append]
 split at h
 ·rename_i h1
  rw [if_pos h1, if_pos h1]
  rw [List.length_append, List.length_drop] at h
  have h2 := take_hd (p := p) (v := v) (by omega)
  have h3 : hd p v' = false := by
   cases h4 : hd p v' with
   | false => rfl
   | true => rw [c h4] at h2; cases h2
  rw [hd_take h2, hd_take h3]
 ·rename_i h1
  rw [if_neg h1, if_neg h1]
theorem binL_zero {v : Txt} (h : binL v = 0) : binGo v 0 = false := by
 cases v with
 | nil => rfl
 | cons c t =>
  unfold binGo
  simp only [List.getElem?_cons_zero]
  have e : (c :: t)[0 + 1]? = t.head? := by rw [List.head?_eq_getElem?]; rfl
  rw [e]
  simp only [binL] at h
  split at h
  ·omega
  ·rename_i h1
   simpa using h1
theorem zero_binL {v : Txt} (h : binGo v 0 = false) : binL v = 0 := by
 have := binF_stop h
 unfold binF at this
 rw [List.drop_zero] at this
 omega
theorem binL_same {v v' : Txt} (c1 : binGo v' 0 = true → binGo v 0 = true) (c2 : hd digB v' = true → hd digB v = true) : ∀ w : Txt, binL (w ++ v) = w.length → binL (w ++ v') = w.length
 | [], h => by
  have h1 := binL_zero (v := v) h
  refine zero_binL (v := v') ?_
  cases h2 : binGo v' 0 with
  | false => rfl
  | true => rw [c1 h2] at h1; cases h1
 | [d], h => by
  have e : ∀ z : Txt, [d] ++ z = d :: z := fun z => rfl
  rw [e] at h ⊢
  simp only [binL, List.length_cons, List.length_nil] at h ⊢
  split at h
  ·rename_i h1
   have h2 : binL v = 0 := by omega
   have h3 := binL_same c1 c2 [] h2
   have h4 : (binB d && !(d == 45 && (v'.head?.map digB).getD false)) = true := by
    simp only [Bool.and_eq_true, Bool.not_eq_true', Bool.and_eq_false_iff] at h1 ⊢
    refine ⟨h1.1, ?_⟩
    rcases h1.2 with h5 | h5
    ·exact .inl h5
    ·refine .inr ?_
     cases h6 : (v'.head?.map digB).getD false with
     | false => rfl
     | true => have h7 := c2 h6; unfold hd at h7; rw [h7] at h5; cases h5
   rw [if_pos h4, show binL v' = 0 from h3]
  ·omega
 | d :: d2 :: w, h => by
  have e : ∀ z : Txt, (d :: d2 :: w) ++ z = d :: ((d2 :: w) ++ z) := fun z => rfl
  rw [e] at h ⊢
  have eh : ∀ z : Txt, ((d2 :: w) ++ z).head? = some d2 := fun z => rfl
  rw [binL, eh] at h ⊢
  split at h
  ·rename_i h1
   rw [if_pos h1, binL_same c1 c2 (d2 :: w) (by simp only [List.length_cons] at h ⊢; omega)]
   rfl
  ·simp only [List.length_cons] at h; omega
theorem bin_same {u v v' : Txt} {k : Nat} (hk : k ≤ u.length) (h : binF (u ++ v) k = u.length) (c : Calm v v') : binF (u ++ v') k = u.length := by
 unfold binF at *
 rw [List.drop_append_of_le_length hk] at h ⊢
 have := binL_same c.bg c.dg (u.drop k) (by rw [List.length_drop]; omega)
 rw [this, List.length_drop]; omega
theorem qt_same {v v' : Txt} (c : hd (fun x => x == 39) v' = true → hd (fun x => x == 39) v = true) : ∀ (n : Nat) (w : Txt), w.length ≤ n → ∀ t, qt (w ++ v) = some (t, w.length) → qt (w ++ v') = some (t, w.length)
 | n, [], _, t, h => by
  have := qt_len _ _ (Nat.le_refl _) _ h
  simp at this
 | n, [x], _, t, h => by
  have e : ∀ z : Txt, [x] ++ z = x :: z := fun z => rfl
  rw [e] at h ⊢
  by_cases hx : x = 39
  ·subst hx
   by_cases hv : v.head? = some 39
   ·cases v with
    | nil => cases hv
    | cons y r =>
     obtain rfl : y = 39 := Option.some.inj hv
     rw [qt_twice] at h
     obtain ⟨r', h1, h2⟩ := Option.map_eq_some_iff.1 h
     have := congrArg Prod.snd h2
     simp at this
   ·rw [qt_end _ hv] at h
    have hv' : v'.head? ≠ some 39 := fun e2 => by
     have : hd (fun x => x == 39) v' = true := by unfold hd; rw [e2]; rfl
     have := c this
     unfold hd at this
     cases hh : v.head? with
     | none => rw [hh] at this; cases this
     | some y =>
      rw [hh] at this
      have : y = 39 := by simpa using this
      exact hv (by rw [hh, this])
    rw [qt_end _ hv']
    exact h
  ·rw [qt_plain _ _ hx] at h
   obtain ⟨r', h1, h2⟩ := Option.map_eq_some_iff.1 h
   have := qt_len _ _ (Nat.le_refl _) _ h1
   have h3 := congrArg Prod.snd h2
   simp at h3
   omega
 | 0, x :: y :: w, hn, t, h => by simp at hn
 | n + 1, x :: y :: w, hn, t, h => by
  have e : ∀ z : Txt, (x :: y :: w) ++ z = x :: y :: (w ++ z) := fun z => rfl
  rw [e] at h ⊢
  by_cases hx : x = 39
  ·subst hx
   by_cases hy : y = 39
   ·subst hy
    rw [qt_twice] at h ⊢
    obtain ⟨r', h1, h2⟩ := Option.map_eq_some_iff.1 h
    have h3 : r'.2 = w.length := by have := congrArg Prod.snd h2; simp at this; omega
    have h4 := qt_same c n w (by simp at hn; omega) r'.1 (by rw [h1, ← h3])
    rw [h4, ← h2, ← h3]
    rfl
   ·rw [qt_end _ (fun e2 => hy (by simpa using e2))] at h
    have := congrArg Prod.snd (Option.some.inj h)
    simp at this
  ·rw [qt_plain _ _ hx] at h ⊢
   obtain ⟨r', h1, h2⟩ := Option.map_eq_some_iff.1 h
   have h3 : r'.2 = (y :: w).length := by have := congrArg Prod.snd h2; simp at this ⊢; omega
   have h4 := qt_same c n (y :: w) (by simp at hn ⊢; omega) r'.1 (by
    have e3 : (y :: w) ++ v = y :: (w ++ v) := rfl
    rw [e3, h1, ← h3])
   have e4 : (y :: w) ++ v' = y :: (w ++ v') := rfl
   rw [e4] at h4
   rw [h4, ← h2, ← h3]
   rfl
theorem cut_same {u v v' : Txt} {a b : Nat} (hb : b ≤ u.length) : cut (u ++ v') a b = cut (u ++ v) a b := by
 unfold cut
 rw [List.take_append_of_le_length hb, List.take_append_of_le_length hb]
theorem get_same {u v v' : Txt} {k : Nat} (hk : k < u.length) : (u ++ v')[k]? = (u ++ v)[k]? := by
 rw [List.getElem?_append_left hk, List.getElem?_append_left hk]
theorem get_behind {u v : Txt} {k : Nat} : (u ++ v)[u.length + k]? = v[k]? := by
 rw [List.getElem?_append_right (by omega)]
 congr 1; omega
theorem tok_inj {k n k' n' : Nat} {t t' : Txt} (h : tok k t n = tok k' t' n') : k = k' ∧ t = t' ∧ n = n' := ⟨congrArg Stp.kind h, congrArg Stp.text h, congrArg Stp.next h⟩
end Lx
namespace Lx
theorem bad_tok {p e k n : Nat} {t : Txt} (h : bad p e = tok k t n) (hn : n ≠ 0) : False := hn (congrArg Stp.next h).symm
theorem kwd_of {u v : Txt} {j : Nat} (hj : j = u.length) : (isAt (u ++ v) j 58 && !isAt (u ++ v) (j + 1) 61) = kwd v := by
 subst hj
 have e : ∀ x, isAt (u ++ v) u.length x = isAt v 0 x := fun x => by unfold isAt; rw [show u.length = u.length + 0 from rfl, get_behind]
 have e2 : ∀ x, isAt (u ++ v) (u.length + 1) x = isAt v 1 x := fun x => by unfold isAt; rw [get_behind]
 rw [e, e2]; rfl
theorem num_same {u v v' : Txt} {t : Txt} (hu : u ≠ []) (h : numF (u ++ v) 0 = some (t, u.length)) (c : Calm v v') : numF (u ++ v') 0 = some (t, u.length) := by
 have hl : 0 < u.length := List.length_pos_iff.2 hu
 unfold numF at h ⊢
 dsimp only at h ⊢
 have hj0 : runF digB (u ++ v) 0 ≤ u.length := by
  split at h
  ·rename_i hc
   split at h
   ·cases h
   ·obtain ⟨r, h1, h2⟩ := Option.map_eq_some_iff.1 h
    have h3 := congrArg Prod.snd h2
    have h4 := runF_ge figB (u ++ v) (runF digB (u ++ v) 0 + 1)
    dsimp only at h3
    omega
  ·obtain ⟨r, h1, h2⟩ := Option.map_eq_some_iff.1 h
   have h3 := congrArg Prod.snd h2
   dsimp only at h3
   omega
 have hj := run_same (v' := v') (Nat.zero_le _) hj0 c.dg
 rw [hj]
 generalize runF digB (u ++ v) 0 = j at *
 rcases Nat.lt_or_ge j u.length with hlt | hge
 ·have ei : isAt (u ++ v') j 114 = isAt (u ++ v) j 114 := by unfold isAt; rw [get_same hlt]
  rw [ei]
  by_cases hlt2 : j + 1 < u.length
  ·rw [get_same hlt2]
   split at h
   ·rename_i hc
    rw [if_pos hc]
    split at h
    ·cases h
    ·rename_i h2
     rw [if_neg h2]
     obtain ⟨r, h1, h3⟩ := Option.map_eq_some_iff.1 h
     have h4 := congrArg Prod.snd h3
     dsimp only at h4
     have hk := run_same (p := figB) (u := u) (v := v) (v' := v') (k := j + 1) (by omega) (by rw [h4]; exact Nat.le_refl _) c.fg
     have e5 : cut (u ++ v') 0 j = cut (u ++ v) 0 j := cut_same (by omega)
     have e6 : cut (u ++ v') (j + 1) (runF figB (u ++ v) (j + 1)) = cut (u ++ v) (j + 1) (runF figB (u ++ v) (j + 1)) := cut_same (by omega)
     rw [hk, e5, e6, h1]
     exact congrArg some h3
   ·rename_i hc
    rw [if_neg hc]
    obtain ⟨r, h1, h3⟩ := Option.map_eq_some_iff.1 h
    have h4 := congrArg Prod.snd h3
    dsimp only at h4
    omega
  ·have hju : j + 1 = u.length := by omega
   split at h
   ·rename_i hc
    split at h
    ·cases h
    ·simp only [Bool.and_eq_true] at hc
     obtain ⟨r, h1, h3⟩ := Option.map_eq_some_iff.1 h
     have h4 := congrArg Prod.snd h3
     dsimp only at h4
     exfalso
     cases hx : (u ++ v)[j + 1]? with
     | none => rw [hx] at hc; cases hc.2
     | some x =>
      have hf : figB x = true := by have := hc.2; rw [hx] at this; exact this
      have := run_pos (p := figB) hx hf
      omega
   ·obtain ⟨r, h1, h3⟩ := Option.map_eq_some_iff.1 h
    have h4 := congrArg Prod.snd h3
    dsimp only at h4
    omega
 ·have hju : j = u.length := by omega
  have er : ∀ z : Txt, (isAt (u ++ z) j 114 && ((u ++ z)[j + 1]?.map figB).getD false) = rad z := fun z => by
   subst hju
   have e : isAt (u ++ z) u.length 114 = isAt z 0 114 := by unfold isAt; rw [show u.length = u.length + 0 from rfl, get_behind]
   rw [e, get_behind]; rfl
  rw [er] at h ⊢
  split at h
  ·split at h
   ·cases h
   ·obtain ⟨r, h1, h3⟩ := Option.map_eq_some_iff.1 h
    have h4 := congrArg Prod.snd h3
    have h5 := runF_ge figB (u ++ v) (j + 1)
    dsimp only at h4
    omega
  ·rename_i hc
   rw [if_neg (fun e => hc (c.rd e)), show cut (u ++ v') 0 j = cut (u ++ v) 0 j from cut_same (by omega)]
   exact h
theorem sym_same {u v v' : Txt} {t : Txt} {k : Nat} (hu : u ≠ []) (h : symF (u ++ v) 0 = tok k t u.length) (c : Calm v v') : symF (u ++ v') 0 = tok k t u.length := by
 have hl : u.length ≠ 0 := by have := List.length_pos_iff.2 hu; omega
 unfold symF at h ⊢
 have h2 : 2 ≤ u.length := by
  cases hx : (u ++ v)[0 + 1]? with
  | none => rw [hx] at h; exact (bad_tok h hl).elim
  | some b =>
   have hb := get_lt hx
   rw [hx] at h
   dsimp only at h
   split at h
   ·rename_i hc
    have := (tok_inj h).2.2
    have h3 := run_pos (p := symB) hx (by unfold symB letB; rw [hc]; rfl)
    omega
   split at h
   ·have := (tok_inj h).2.2
    have h3 := binF_ge (u ++ v) (0 + 2)
    omega
   split at h
   ·have := (tok_inj h).2.2; omega
   split at h
   ·cases hq : qF (u ++ v) (0 + 1) with
    | none => rw [hq] at h; exact (bad_tok h hl).elim
    | some r =>
     rw [hq] at h
     have h3 := (tok_inj h).2.2
     have := qF_le hq hb
     omega
   split at h
   ·have := (tok_inj h).2.2; omega
   ·exact (bad_tok h hl).elim
 rw [get_same (v := v) (v' := v') (k := 0 + 1) (by omega)]
 cases hx : (u ++ v)[0 + 1]? with
 | none => rw [hx] at h; exact (bad_tok h hl).elim
 | some b =>
  rw [hx] at h
  dsimp only at h ⊢
  split at h
  ·rename_i hc
   rw [if_pos hc]
   obtain ⟨e1, e2, e3⟩ := tok_inj h
   rw [run_same (p := symB) (v' := v') (k := 0 + 1) (by omega) (by omega) c.sy, cut_same (by omega)]
   exact h
  rename_i hc1
  rw [if_neg hc1]
  split at h
  ·rename_i hc
   rw [if_pos hc]
   obtain ⟨e1, e2, e3⟩ := tok_inj h
   rw [bin_same (k := 0 + 2) (by omega) e3 c, cut_same (v := v) (Nat.le_refl _), ← e1, ← e2, e3]
  rename_i hc2
  rw [if_neg hc2]
  split at h
  ·rename_i hc
   rw [if_pos hc]
   exact h
  rename_i hc3
  rw [if_neg hc3]
  split at h
  ·rename_i hc
   rw [if_pos hc]
   cases hq : qF (u ++ v) (0 + 1) with
   | none => rw [hq] at h; exact (bad_tok h hl).elim
   | some r =>
    rw [hq] at h
    obtain ⟨e1, e2, e3⟩ := tok_inj h
    unfold qF at hq ⊢
    rw [List.drop_append_of_le_length (by omega)] at hq ⊢
    unfold qOn at hq ⊢
    obtain ⟨r', h3, h4⟩ := Option.map_eq_some_iff.1 hq
    have h5 : r'.2 + (0 + 1 + 1) = r.2 := congrArg Prod.snd h4
    have h6 := qt_same c.q _ (u.drop (0 + 1 + 1)) (Nat.le_refl _) r'.1 (by rw [h3, List.length_drop]; congr 1; ext1 <;> simp; omega)
    rw [h6]
    dsimp only [Option.map_some]
    rw [← h4] at e2
    rw [e1, ← e2, List.length_drop, show u.length - (0 + 1 + 1) + (0 + 1 + 1) = u.length by omega]
  rename_i hc4
  rw [if_neg hc4]
  split at h
  ·rename_i hc
   rw [if_pos hc, cut_same (by omega)]
   exact h
  ·exact (bad_tok h hl).elim
theorem step_calm {u v v' : Txt} {t : Txt} {k : Nat} (hu : u ≠ []) (h : stepF (u ++ v) 0 = tok k t u.length) (c : Calm v v') : stepF (u ++ v') 0 = tok k t u.length := by
 have hl : u.length ≠ 0 := by have := List.length_pos_iff.2 hu; omega
 unfold stepF at h ⊢
 rw [get_same (v := v) (v' := v') (k := 0) (by omega)]
 cases hx : (u ++ v)[0]? with
 | none => rw [List.getElem?_append_left (by omega), List.getElem?_eq_getElem (by omega)] at hx; cases hx
 | some b =>
  rw [hx] at h
  dsimp only at h ⊢
  split at h
  ·rename_i hc
   rw [if_pos hc]; exact h
  rename_i hc1
  rw [if_neg hc1]
  split at h
  ·rename_i hc
   rw [if_pos hc]
   have hle : runF ldB (u ++ v) 0 ≤ u.length := by
    split at h
    ·have := (tok_inj h).2.2; omega
    ·have := (tok_inj h).2.2; omega
   rw [run_same (p := ldB) (v' := v') (Nat.zero_le _) hle c.ld]
   generalize hj : runF ldB (u ++ v) 0 = j at *
   rcases Nat.lt_or_ge j u.length with hlt | hge
   ·have e1 : isAt (u ++ v') j 58 = isAt (u ++ v) j 58 := by unfold isAt; rw [get_same hlt]
    split at h
    ·rename_i hk
     have h3 := (tok_inj h).2.2
     have e2 : ∀ z : Txt, isAt (u ++ z) (j + 1) 61 = isAt z 0 61 := fun z => by unfold isAt; rw [h3, show u.length = u.length + 0 from rfl, get_behind]
     rw [e2] at hk
     simp only [Bool.and_eq_true, Bool.not_eq_true'] at hk
     have h4 : isAt v' 0 61 = false := by
      cases h5 : isAt v' 0 61 with
      | false => rfl
      | true => rw [c.eq h5] at hk; cases hk.2
     rw [e1, e2, hk.1, h4, cut_same (by omega)]
     exact h
    ·have h3 := (tok_inj h).2.2
     omega
   ·have hju : j = u.length := by omega
    rw [kwd_of hju] at h ⊢
    split at h
    ·have h3 := (tok_inj h).2.2
     omega
    ·rename_i hk
     rw [if_neg (fun e => hk (c.kw e)), cut_same (by omega)]
     exact h
  rename_i hc2
  rw [if_neg hc2]
  split at h
  ·rename_i hc
   rw [if_pos hc]
   cases hn : numF (u ++ v) 0 with
   | none => rw [hn] at h; exact (bad_tok h hl).elim
   | some r =>
    rw [hn] at h
    obtain ⟨e1, e2, e3⟩ := tok_inj h
    rw [num_same hu (t := r.1) (by rw [hn, ← e3]) c]
    dsimp only
    rw [e1, e2]
  rename_i hc3
  rw [if_neg hc3]
  split at h
  ·rename_i hc
   rw [if_pos hc]
   obtain ⟨e1, e2, e3⟩ := tok_inj h
   rw [bin_same (k := 0 + 1) (by omega) e3 c, cut_same (v := v) (Nat.le_refl _), ← e1, ← e2, e3]
  rename_i hc4
  rw [if_neg hc4]
  split at h
  ·rename_i hc
   rw [if_pos hc]
   split at h
   ·rename_i hm
    have h3 := (tok_inj h).2.2
    have e1 : isAt (u ++ v') (0 + 1) 61 = isAt (u ++ v) (0 + 1) 61 := by unfold isAt; rw [get_same (by omega)]
    rw [e1, if_pos hm, cut_same (by omega)]
    exact h
   ·rename_i hm
    have h3 := (tok_inj h).2.2
    have e2 : ∀ z : Txt, isAt (u ++ z) (0 + 1) 61 = isAt z 0 61 := fun z => by unfold isAt; rw [h3, show u.length = u.length + 0 from rfl, get_behind]
    rw [e2] at hm ⊢
    rw [if_neg (fun e => hm ⟨e.1, c.eq e.2⟩), cut_same (by omega)]
    exact h
  rename_i hc5
  rw [if_neg hc5]
  split at h
  ·rename_i hc
   rw [if_pos hc]
   split at h
   ·rename_i hm
    obtain ⟨e1, e2, e3⟩ := tok_inj h
    have hr : runF (fun x => x != 34) (u ++ v') (0 + 1) = runF (fun x => x != 34) (u ++ v) (0 + 1) := by
     unfold runF at e3 ⊢
     rw [List.drop_append_of_le_length (by omega)] at e3 ⊢
     rw [List.takeWhile_append] at e3
     rw [List.drop_append_of_le_length (by omega), List.takeWhile_append, List.takeWhile_append]
     split at e3
     ·rw [List.length_append, List.length_drop] at e3
      omega
     ·rename_i h4
      rw [if_neg h4, if_neg h4]
    rw [hr, if_pos (by rw [List.length_append]; omega)]
    exact h
   ·exact (bad_tok h hl).elim
  rename_i hc6
  rw [if_neg hc6]
  split at h
  ·rename_i hc
   rw [if_pos hc]
   cases hq : qF (u ++ v) 0 with
   | none => rw [hq] at h; exact (bad_tok h hl).elim
   | some r =>
    rw [hq] at h
    obtain ⟨e1, e2, e3⟩ := tok_inj h
    unfold qF at hq ⊢
    rw [List.drop_append_of_le_length (by omega)] at hq ⊢
    unfold qOn at hq ⊢
    obtain ⟨r', h3, h4⟩ := Option.map_eq_some_iff.1 hq
    have h5 : r'.2 + (0 + 1) = r.2 := congrArg Prod.snd h4
    have h6 := qt_same c.q _ (u.drop (0 + 1)) (Nat.le_refl _) r'.1 (by rw [h3, List.length_drop]; congr 1; ext1 <;> simp; omega)
    rw [h6]
    dsimp only [Option.map_some]
    rw [← h4] at e2
    rw [e1, ← e2, List.length_drop, show u.length - (0 + 1) + (0 + 1) = u.length by omega]
  rename_i hc7
  rw [if_neg hc7]
  split at h
  ·rename_i hc
   rw [if_pos hc]
   exact sym_same hu h c
  ·exact (bad_tok h hl).elim
end Lx
namespace Lx
theorem step_gap {u v : Txt} (hu : u ≠ []) (h : stepF (u ++ v) 0 = tok 0 [] u.length) (v' : Txt) : stepF (u ++ v') 0 = tok 0 [] u.length := by
 have hl : u.length ≠ 0 := by have := List.length_pos_iff.2 hu; omega
 unfold stepF at h ⊢
 rw [get_same (v := v) (v' := v') (k := 0) (by omega)]
 cases hx : (u ++ v)[0]? with
 | none => rw [List.getElem?_append_left (by omega), List.getElem?_eq_getElem (by omega)] at hx; cases hx
 | some b =>
  rw [hx] at h
  dsimp only at h ⊢
  split at h
  ·rename_i hc
   rw [if_pos hc]; exact h
  rename_i hc1
  rw [if_neg hc1]
  split at h
  ·split at h
   ·exact absurd (tok_inj h).1 (by decide)
   ·exact absurd (tok_inj h).1 (by decide)
  rename_i hc2
  rw [if_neg hc2]
  split at h
  ·split at h
   ·exact (bad_tok h hl).elim
   ·exact absurd (tok_inj h).1 (by decide)
  rename_i hc3
  rw [if_neg hc3]
  split at h
  ·exact absurd (tok_inj h).1 (by decide)
  rename_i hc4
  rw [if_neg hc4]
  split at h
  ·split at h
   ·exact absurd (tok_inj h).1 (by decide)
   ·exact absurd (tok_inj h).1 (by decide)
  rename_i hc5
  rw [if_neg hc5]
  split at h
  ·rename_i hc
   rw [if_pos hc]
   split at h
   ·obtain ⟨e1, e2, e3⟩ := tok_inj h
    have hr : runF (fun x => x != 34) (u ++ v') (0 + 1) = runF (fun x => x != 34) (u ++ v) (0 + 1) := by
     unfold runF at e3 ⊢
     rw [List.drop_append_of_le_length (by omega)] at e3 ⊢
     rw [List.takeWhile_append] at e3
     rw [List.drop_append_of_le_length (by omega), List.takeWhile_append, List.takeWhile_append]
     split at e3
     ·rw [List.length_append, List.length_drop] at e3
      omega
     ·rename_i h4
      rw [if_neg h4, if_neg h4]
    rw [hr, if_pos (by rw [List.length_append]; omega)]
    exact h
   ·exact (bad_tok h hl).elim
  rename_i hc6
  rw [if_neg hc6]
  split at h
  ·split at h
   ·exact (bad_tok h hl).elim
   ·exact absurd (tok_inj h).1 (by decide)
  rename_i hc7
  rw [if_neg hc7]
  split at h
  ·unfold symF at h
   split at h
   ·exact (bad_tok h hl).elim
   ·repeat' split at h
    all_goals first | exact absurd (tok_inj h).1 (by decide) | exact (bad_tok h hl).elim
  ·exact (bad_tok h hl).elim
theorem gap_soft {u v : Txt} (hu : u ≠ []) (h : stepF (u ++ v) 0 = tok 0 [] u.length) (w : Txt) : soft (u ++ w) = true := by
 have hl : u.length ≠ 0 := by have := List.length_pos_iff.2 hu; omega
 cases u with
 | nil => exact absurd rfl hu
 | cons b r =>
  show (cls b == 1 || b == 34) = true
  unfold stepF at h
  rw [show ((b :: r) ++ v)[0]? = some b from rfl] at h
  dsimp only at h
  split at h
  ·rename_i hc; rw [hc]; rfl
  split at h
  ·split at h
   ·exact absurd (tok_inj h).1 (by decide)
   ·exact absurd (tok_inj h).1 (by decide)
  split at h
  ·split at h
   ·exact (bad_tok h hl).elim
   ·exact absurd (tok_inj h).1 (by decide)
  split at h
  ·exact absurd (tok_inj h).1 (by decide)
  split at h
  ·split at h
   ·exact absurd (tok_inj h).1 (by decide)
   ·exact absurd (tok_inj h).1 (by decide)
  split at h
  ·rename_i hc; rw [hc]; simp
  split at h
  ·split at h
   ·exact (bad_tok h hl).elim
   ·exact absurd (tok_inj h).1 (by decide)
  split at h
  ·unfold symF at h
   split at h
   ·exact (bad_tok h hl).elim
   ·repeat' split at h
    all_goals first | exact absurd (tok_inj h).1 (by decide) | exact (bad_tok h hl).elim
  ·exact (bad_tok h hl).elim
def Form (s : Stp) : Prop := s.err = 0 → ∃ k t n, s = tok k t n ∧ (k = 0 → t = [])
theorem form_bad {p e : Nat} (h : e ≠ 0) : Form (bad p e) := fun he => absurd he h
theorem form_tok {k n : Nat} {t : Txt} (h : k = 0 → t = []) : Form (tok k t n) := fun _ => ⟨k, t, n, rfl, h⟩
theorem form_tk {k n : Nat} {t : Txt} (h : k ≠ 0) : Form (tok k t n) := form_tok fun e => absurd e h
theorem form_ite {c : Prop} [Decidable c] {a b : Stp} (ha : Form a) (hb : Form b) : Form (if c then a else b) := by split <;> assumption
theorem form_sym (s : Txt) : Form (symF s 0) := by
 unfold symF
 cases s[0 + 1]? with
 | none => exact form_bad (by decide)
 | some b =>
  dsimp only
  refine form_ite (form_tk (by decide)) (form_ite (form_tk (by decide)) (form_ite (form_tk (by decide)) (form_ite ?_ (form_ite (form_tk (by decide)) (form_bad (by decide))))))
  cases qF s (0 + 1) with
  | none => exact form_bad (by decide)
  | some r => exact form_tk (by decide)
theorem form_step {s : Txt} (hs : s ≠ []) : Form (stepF s 0) := by
 unfold stepF
 cases hb : s[0]? with
 | none => cases s with
  | nil => exact absurd rfl hs
  | cons b r => cases hb
 | some b =>
  dsimp only
  refine form_ite (form_tok (fun _ => rfl)) (form_ite (form_ite (form_tk (by decide)) (form_tk (by decide))) (form_ite ?_ (form_ite (form_tk (by decide)) (form_ite (form_ite (form_tk (by decide)) (form_tk (by decide))) (form_ite (form_ite (form_tok (fun _ => rfl)) (form_bad (by decide))) (form_ite ?_ (form_ite (form_sym s) (form_bad (by decide)))))))))
  ·cases numF s 0 with
   | none => exact form_bad (by decide)
   | some r => exact form_tk (by decide)
  ·cases qF s 0 with
   | none => exact form_bad (by decide)
   | some r => exact form_tk (by decide)
inductive Gap : Txt → Prop
 | nil : Gap []
 | cons (u g : Txt) : u ≠ [] → (∀ v, stepF (u ++ v) 0 = tok 0 [] u.length) → Gap g → Gap (u ++ g)
theorem Gap.append {g g' : Txt} (h : Gap g) (k : Gap g') : Gap (g ++ g') := by
 induction h with
 | nil => exact k
 | cons u g hu hs _ ih => rw [List.append_assoc]; exact .cons _ _ hu hs ih
theorem Gap.soft {g : Txt} (h : Gap g) (hg : g ≠ []) (w : Txt) : soft (g ++ w) = true := by
 cases h with
 | nil => exact absurd rfl hg
 | cons u g hu hs _ => rw [List.append_assoc]; exact gap_soft hu (hs []) (g ++ w)
theorem Gap.byte {b : UInt8} (h : cls b = 1) {g : Txt} (k : Gap g) : Gap (b :: g) :=
 .cons [b] g (by simp) (fun v => by
  unfold stepF
  rw [show ([b] ++ v)[0]? = some b from rfl]
  dsimp only
  rw [if_pos h]; rfl) k
inductive Pcs : Nat → Txt → List Tk → Prop
 | nil (i : Nat) : Pcs i [] []
 | cons (i k : Nat) (t u g r : Txt) (T : List Tk) : u ≠ [] → k ≠ 0 → stepF (u ++ (g ++ r)) 0 = tok k t u.length → Gap g → Pcs (i + u.length + g.length) r T → Pcs i (u ++ (g ++ r)) ((k, t, i) :: T)
def Lexes (i : Nat) (s : Txt) (T : List Tk) : Prop := ∃ g r, s = g ++ r ∧ Gap g ∧ Pcs (i + g.length) r T
theorem Lexes.gap {i : Nat} {u v : Txt} {T : List Tk} (hu : u ≠ []) (hs : ∀ v, stepF (u ++ v) 0 = tok 0 [] u.length) (h : Lexes (i + u.length) v T) : Lexes i (u ++ v) T := by
 obtain ⟨g, r, rfl, hg, hp⟩ := h
 refine ⟨u ++ g, r, (List.append_assoc _ _ _).symm, .cons _ _ hu hs hg, ?_⟩
 rw [List.length_append, ← Nat.add_assoc]; exact hp
theorem Lexes.tok {i k : Nat} {t u v : Txt} {T : List Tk} (hu : u ≠ []) (hk : k ≠ 0) (hs : stepF (u ++ v) 0 = tok k t u.length) (h : Lexes (i + u.length) v T) : Lexes i (u ++ v) ((k, t, i) :: T) := by
 obtain ⟨g, r, rfl, hg, hp⟩ := h
 exact ⟨[], _, rfl, .nil, .cons _ _ _ _ _ _ _ hu hk hs hg hp⟩
theorem lexF_lexes {l : Txt} : ∀ (f i : Nat) (acc R : List Tk) (p : Nat), i ≤ l.length → l.length ≤ i + f → lexF l f i acc = (R, p, 0) → p = 0 ∧ ∃ T, R = acc ++ T ∧ Lexes i (l.drop i) T
 | 0, i, acc, R, p, h1, h2, h => by
  have e : lexF l 0 i acc = (acc, 0, 0) := rfl
  rw [e] at h
  cases h
  exact ⟨rfl, [], by simp, [], [], by rw [List.drop_eq_nil_of_le (by omega)]; rfl, .nil, .nil _⟩
 | f + 1, i, acc, R, p, h1, h2, h => by
  rcases Nat.lt_or_ge i l.length with hi | hi
  ·by_cases he : (stepF l i).err = 0
   ·rw [lexF_good hi he] at h
    have hd := step_drop l i hi
    have hs : l.drop i ≠ [] := by intro e; have := congrArg List.length e; rw [List.length_drop] at this; simp at this; omega
    have hf := form_step hs
    have he2 : (stepF (l.drop i) 0).err = 0 := by
     rw [hd] at he
     unfold Stp.up at he
     split at he
     ·assumption
     ·exact he
    obtain ⟨k, t, n, hst, hkt⟩ := hf he2
    rw [hst, up_tok] at hd
    have hfine := stepF_fine hi he
    rw [hd] at h hfine
    have hn : i < i + n ∧ i + n ≤ l.length := hfine
    have ht : (tok k t (i + n)).next = i + n := rfl
    have hu : ((l.drop i).take n).length = n := by rw [List.length_take, List.length_drop]; omega
    have hv : (l.drop i).take n ++ l.drop (i + n) = l.drop i := by rw [← List.drop_drop]; exact List.take_append_drop _ _
    have hne : (l.drop i).take n ≠ [] := by intro e; rw [e] at hu; simp at hu; omega
    rw [ht] at h
    obtain ⟨e1, T, e2, e3⟩ := lexF_lexes f (i + n) _ R p hn.2 (by omega) h
    refine ⟨e1, ?_⟩
    have e4 : Lexes (i + ((l.drop i).take n).length) (l.drop (i + n)) T := by rw [hu]; exact e3
    by_cases hk : k = 0
    ·subst hk
     obtain rfl := hkt rfl
     refine ⟨T, e2, ?_⟩
     rw [← hv]
     exact Lexes.gap hne (step_gap hne (v := l.drop (i + n)) (by rw [hv, hst, hu])) e4
    ·rw [if_neg (show ¬ (Lx.tok k t (i + n)).kind = 0 from hk)] at e2
     refine ⟨(k, t, i) :: T, by rw [e2]; simp [Lx.tok], ?_⟩
     rw [← hv]
     exact Lexes.tok hne hk (by rw [hv, hst, hu]) e4
   ·rw [lexF_bad hi he] at h
    exact absurd (congrArg (fun x => x.2.2) h) he
  ·rw [lexF_end hi] at h
   cases h
   exact ⟨rfl, [], by simp, [], [], by rw [List.drop_eq_nil_of_le hi]; rfl, .nil, .nil _⟩
theorem lexT_lexes {l : Txt} (h : (lexT l).2.2 = 0) : l.length ≤ 65536 ∧ (lexT l).2.1 = 0 ∧ Lexes 0 l (lexT l).1 := by
 unfold lexT at h ⊢
 split at h
 ·cases h
 ·rename_i hl
  rw [if_neg hl]
  have hq : lexF l l.length 0 [] = ((lexF l l.length 0 []).1, (lexF l l.length 0 []).2.1, 0) := Prod.ext rfl (Prod.ext rfl h)
  obtain ⟨e1, T, e2, e3⟩ := lexF_lexes (l := l) l.length 0 [] _ _ (by omega) (by omega) hq
  refine ⟨by omega, e1, ?_⟩
  rw [e2]
  exact e3
end Lx
namespace Lx
theorem take_all {p : UInt8 → Bool} : ∀ {w : Txt}, (∀ x ∈ w, p x = true) → w.takeWhile p = w
 | [], _ => rfl
 | x :: w, h => by rw [List.takeWhile_cons, h x (by simp), if_pos rfl, take_all fun y hy => h y (List.mem_cons_of_mem _ hy)]
def glued (t : Tk) (T : List Tk) : Bool := match T with
 | [] => false
 | t2 :: _ => t.1 == 3 && t.2.1 == [45] && t2.1 == 4
def placeOr (T : List Tk) (fin : Nat) : Nat := match T with
 | [] => fin
 | t :: _ => t.2.2
def looseF (l : Txt) (bl : Nat → Txt) : Nat → List Tk → Txt
 | _, [] => []
 | j, t :: T => cut l t.2.2 (placeOr T l.length) ++ ((if glued t T then [] else bl (j + 1)) ++ looseF l bl (j + 1) T)
structure Mt (T T' : List Tk) : Prop where
 len : T.length = T'.length
 eq : ∀ (i : Nat) (t t' : Tk), T[i]? = some t → T'[i]? = some t' → t.1 = t'.1 ∧ t.2.1 = t'.2.1
 adj : ∀ (i : Nat) (t s t' s' : Tk), T[i]? = some t → T[i + 1]? = some s → T'[i]? = some t' → T'[i + 1]? = some s' → t.1 = 3 → t.2.1 = [45] → s.1 = 4 → (s.2.2 = t.2.2 + 1 ↔ s'.2.2 = t'.2.2 + 1)
theorem Mt.nil : Mt [] [] := ⟨rfl, fun i t t' h => by simp at h, fun i t s t' s' h => by simp at h⟩
theorem Mt.cons {t t' : Tk} {T T' : List Tk} (h : Mt T T') (h1 : t.1 = t'.1 ∧ t.2.1 = t'.2.1) (h2 : ∀ s s', T[0]? = some s → T'[0]? = some s' → t.1 = 3 → t.2.1 = [45] → s.1 = 4 → (s.2.2 = t.2.2 + 1 ↔ s'.2.2 = t'.2.2 + 1)) : Mt (t :: T) (t' :: T') := by
 refine ⟨by simp [h.len], fun i x x' e e' => ?_, fun i x s x' s' e1 e2 e3 e4 => ?_⟩
 ·cases i with
  | zero =>
   simp only [List.getElem?_cons_zero, Option.some.injEq] at e e'
   subst e; subst e'; exact h1
  | succ i => exact h.eq i x x' (by simpa using e) (by simpa using e')
 ·cases i with
  | zero =>
   simp only [List.getElem?_cons_zero, Option.some.injEq] at e1 e3
   subst e1; subst e3
   exact h2 s s' (by simpa using e2) (by simpa using e4)
  | succ i => exact h.adj i x s x' s' (by simpa using e1) (by simpa using e2) (by simpa using e3) (by simpa using e4)
theorem Pcs.head {i : Nat} {s : Txt} {T : List Tk} {t : Tk} (h : Pcs i s T) (e : T[0]? = some t) : t.2.2 = i := by
 cases h with
 | nil => cases e
 | cons i k tx u g r T => simp only [List.getElem?_cons_zero, Option.some.injEq] at e; subst e; rfl
theorem Pcs.ends {i : Nat} {s : Txt} {T : List Tk} (h : Pcs i s T) (fin : Nat) (hf : i + s.length = fin) : placeOr T fin = i := by
 cases h with
 | nil => simp at hf; exact hf.symm
 | cons i k tx u g r T => rfl
end Lx
namespace Lx
theorem app_inj {a b c d : Txt} (h : a ++ b = c ++ d) (hl : a.length = c.length) : a = c ∧ b = d := by
 have := List.append_inj h hl
 exact this
theorem Lexes.strip1 {i : Nat} {u z : Txt} {M : List Tk} (hu : u ≠ []) (hs : stepF (u ++ z) 0 = Lx.tok 0 [] u.length) (h : Lexes i (u ++ z) M) : Lexes (i + u.length) z M := by
 obtain ⟨g, r, h1, h2, h3⟩ := h
 cases h2 with
 | nil =>
  rw [List.nil_append] at h1
  rw [h1] at hs
  cases h3 with
  | nil => exact absurd (List.append_eq_nil_iff.1 h1).1 hu
  | cons i' k t u' g' r' T hu' hk hs' hg' hp' =>
   rw [hs'] at hs
   exact absurd (tok_inj hs).1 hk
 | cons u1 g1 hu1 hs1 hg1 =>
  rw [List.append_assoc] at h1
  have h4 := hs1 (g1 ++ r)
  rw [← h1, hs] at h4
  have h5 := (tok_inj h4).2.2
  obtain ⟨rfl, h6⟩ := app_inj h1 h5
  refine ⟨g1, r, h6, hg1, ?_⟩
  rw [List.length_append] at h3
  rw [Nat.add_assoc]
  exact h3
theorem Lexes.strip {g : Txt} (hg : Gap g) : ∀ {i : Nat} {z : Txt} {M : List Tk}, Lexes i (g ++ z) M → Lexes (i + g.length) z M := by
 induction hg with
 | nil => intro i z M h; exact h
 | cons u g hu hs _ ih =>
  intro i z M h
  rw [List.append_assoc] at h
  have := ih (h.strip1 hu (hs _))
  rw [List.length_append, ← Nat.add_assoc]
  exact this
theorem Lexes.strip_tok {i k : Nat} {t u z : Txt} {M : List Tk} (hu : u ≠ []) (hk : k ≠ 0) (hs : stepF (u ++ z) 0 = Lx.tok k t u.length) (h : Lexes i (u ++ z) M) : ∃ M', M = (k, t, i) :: M' ∧ Lexes (i + u.length) z M' := by
 obtain ⟨g, r, h1, h2, h3⟩ := h
 cases h2 with
 | nil =>
  rw [List.nil_append] at h1
  rw [h1] at hs
  cases h3 with
  | nil => exact absurd (List.append_eq_nil_iff.1 h1).1 hu
  | cons i' k' t' u' g' r' T hu' hk' hs' hg' hp' =>
   rw [hs'] at hs
   obtain ⟨rfl, rfl, h4⟩ := tok_inj hs
   obtain ⟨rfl, h5⟩ := app_inj h1 h4.symm
   exact ⟨T, rfl, g', r', h5, hg', hp'⟩
 | cons u1 g1 hu1 hs1 hg1 =>
  rw [List.append_assoc] at h1
  have h4 := hs1 (g1 ++ r)
  rw [← h1, hs] at h4
  exact absurd (tok_inj h4).1 hk
theorem one_byte {c : UInt8} {r t : Txt} {k : Nat} (h : stepF (c :: r) 0 = tok k t 1) (ht : t ≠ [45]) : c ≠ 45 ∧ (c = 58 → isAt r 0 61 = false) := by
 refine ⟨fun e => ?_, fun e => ?_⟩
 ·subst e
  have : stepF (45 :: r) 0 = tok 3 (cut (45 :: r) 0 (binF (45 :: r) (0 + 1))) (binF (45 :: r) (0 + 1)) := rfl
  rw [this] at h
  obtain ⟨_, e2, e3⟩ := tok_inj h
  rw [e3] at e2
  exact ht e2.symm
 ·subst e
  cases he : isAt r 0 61 with
  | false => rfl
  | true =>
   have hq : isAt (58 :: r) (0 + 1) 61 = true := he
   have : stepF (58 :: r) 0 = tok 7 (cut (58 :: r) 0 (0 + 2)) (0 + 2) := by
    unfold stepF
    rw [show (58 :: r : Txt)[0]? = some (58 : UInt8) from rfl]
    dsimp only
    rw [if_neg (by decide +kernel), if_neg (by decide +kernel), if_neg (by decide +kernel), if_neg (by decide +kernel), if_pos (by decide +kernel), if_pos ⟨rfl, hq⟩]
   rw [this] at h
   have := (tok_inj h).2.2
   omega
theorem pcs_break {i : Nat} {s : Txt} {T : List Tk} (h : Pcs i s T) : ∀ (n : Nat) (t : Tk), T[n]? = some t → t.2.1 ≠ [45] → ∃ p r, s = p ++ r ∧ placeOr (T.drop (n + 1)) (i + s.length) = i + p.length ∧ p ≠ [] ∧ (∀ c, p = [c] → c ≠ 45 ∧ (c = 58 → isAt r 0 61 = false)) ∧
  ∀ (y : Txt) (M : List Tk), Lexes i (p ++ 32 :: y) M → M[n]? = some t → ∀ j, j ≤ n → M[j]? = T[j]? := by
 induction h with
 | nil i => intro n t h; simp at h
 | cons i k tx u g r T hu hk hs hg hp ih =>
  intro n t ht hne
  cases n with
  | zero =>
   simp only [List.getElem?_cons_zero, Option.some.injEq] at ht
   subst ht
   refine ⟨u ++ g, r, (List.append_assoc _ _ _).symm, ?_, fun e => hu (List.append_eq_nil_iff.1 e).1, fun c hc => ?_, fun y M hM h0 j hj => ?_⟩
   ·have := hp.ends (i + (u ++ (g ++ r)).length) (by simp only [List.length_append]; omega)
    rw [show ((k, tx, i) :: T).drop (0 + 1) = T from rfl, this, List.length_append]; omega
   ·have hl : 0 < u.length := List.length_pos_iff.2 hu
    have hlen := congrArg List.length hc
    rw [List.length_append] at hlen
    simp only [List.length_singleton] at hlen
    have hg0 : g = [] := List.eq_nil_of_length_eq_zero (by omega)
    subst hg0
    rw [List.append_nil] at hc
    subst hc
    exact one_byte hs hne
   ·obtain rfl : j = 0 := by omega
    rw [h0]; rfl
  | succ n =>
   obtain ⟨p, r', h1, h2, h3, h4, h5⟩ := ih n t (by simpa using ht) hne
   refine ⟨u ++ (g ++ p), r', by rw [h1]; simp, ?_, fun e => hu (List.append_eq_nil_iff.1 e).1, fun c hc => ?_, fun y M hM hn j hj => ?_⟩
   ·have e : ((k, tx, i) :: T).drop (n + 1 + 1) = T.drop (n + 1) := rfl
    rw [e, show i + (u ++ (g ++ r)).length = i + u.length + g.length + r.length by simp only [List.length_append]; omega, h2]
    simp only [List.length_append]; omega
   ·have hl : 0 < u.length := List.length_pos_iff.2 hu
    have hl2 : 0 < p.length := List.length_pos_iff.2 h3
    have hlen := congrArg List.length hc
    simp only [List.length_append, List.length_singleton] at hlen
    omega
   ·subst h1
    have ec : Calm (g ++ (p ++ r')) (g ++ (p ++ 32 :: y)) := by
     by_cases hgn : g = []
     ·subst hgn
      rw [List.nil_append, List.nil_append]
      cases p with
      | nil => exact absurd rfl h3
      | cons c p =>
       cases p with
       | nil =>
        obtain ⟨k1, k2⟩ := h4 c rfl
        exact Calm.one (show (cls 32 == 1 || (32 : UInt8) == 34) = true by decide +kernel) k1 k2
       | cons d p => exact Calm.two rfl rfl
     ·exact Calm.soft (hg.soft hgn _)
    rw [List.append_assoc, List.append_assoc] at hM
    obtain ⟨M', rfl, hM'⟩ := hM.strip_tok hu hk (step_calm hu hs ec)
    have hM2 := hM'.strip hg
    cases j with
    | zero => rfl
    | succ j => exact h5 y M' hM2 (by simpa using hn) j (by omega)
theorem lexT_break {x y : Txt} {n : Nat} {t : Tk} (hx : (lexT x).2.2 = 0) (ht : (lexT x).1[n]? = some t) (hne : t.2.1 ≠ [45])
  (hm : (lexT (x.take (placeOr ((lexT x).1.drop (n + 1)) x.length) ++ 32 :: y)).2.2 = 0) (hM : (lexT (x.take (placeOr ((lexT x).1.drop (n + 1)) x.length) ++ 32 :: y)).1[n]? = some t) :
  ∀ j, j ≤ n → (lexT (x.take (placeOr ((lexT x).1.drop (n + 1)) x.length) ++ 32 :: y)).1[j]? = (lexT x).1[j]? := by
 obtain ⟨_, _, g, r, h1, h2, h3⟩ := lexT_lexes hx
 obtain ⟨_, _, h4⟩ := lexT_lexes hm
 generalize (lexT x).1 = T at *
 obtain ⟨p, q, h5, h6, _, _, h7⟩ := pcs_break h3 n t ht hne
 rw [show 0 + g.length + r.length = x.length by rw [h1, List.length_append]; omega] at h6
 have h8 : x.take (placeOr (T.drop (n + 1)) x.length) = g ++ p := by
  rw [h6, h1, h5, ← List.append_assoc, List.take_append_of_le_length (by simp)]
  exact List.take_of_length_le (by simp)
 rw [h8] at hM h4 ⊢
 generalize (lexT (g ++ p ++ 32 :: y)).1 = M at *
 rw [List.append_assoc] at h4
 exact h7 y M (h4.strip h2) hM
end Lx
namespace Ps
open Lx
theorem fuel_free {T : List Tk} {fin : Nat} (G : Good T) {f g : Nat} (hf : 10 * T.length + 9 ≤ f) (hg : 10 * T.length + 9 ≤ g) : finish (meth T fin f) = finish (meth T fin g) :=
 (meth_alike G hf (Nat.le_refl _)).trans (meth_alike G hg (Nat.le_refl _)).symm
def rd (x : Txt) : Tr × Nat × Nat := finish (meth (lexT x).1 x.length (10 * (lexT x).1.length + 9))
theorem rd_fuel (x : Txt) {f : Nat} (hf : 10 * (lexT x).1.length + 9 ≤ f) : rd x = finish (meth (lexT x).1 x.length f) := fuel_free (lexT_good x) (Nat.le_refl _) hf
theorem lexT_fin {x : Txt} (h : (lexT x).2.2 = 0) : Fits x.length (lexT x).1 := by
 unfold lexT at h ⊢
 split at h
 ·cases h
 ·rename_i hl
  rw [if_neg hl]
  exact lexF_fits (by omega) _ _ _ (Nat.zero_le _) (Fits.nil _)
theorem getD_of {T : List Tk} {i : Nat} {t d : Tk} (h : T[i]? = some t) : T.getD i d = t := by rw [List.getD_eq_getElem?_getD, h]; rfl
theorem getD_end {T : List Tk} {i : Nat} {d : Tk} (h : T.length ≤ i) : T.getD i d = d := by rw [List.getD_eq_getElem?_getD, List.getElem?_eq_none h]; rfl
theorem P_rise {n : Nat} {T : List Tk} (h : Fits n T) {i j : Nat} (hij : i < j) (hj : j ≤ T.length) : P T n i < P T n j := by
 unfold P
 rcases Nat.lt_or_ge j T.length with hl | hl
 ·have := h.rise i j hij hl
  have e : ∀ k, k < T.length → T.getD k (0, [], 0) = T.getD k (0, [], n) := fun k hk => by rw [getD_of (List.getElem?_eq_getElem hk), getD_of (List.getElem?_eq_getElem hk)]
  rwa [e i (by omega), e j hl] at this
 ·rw [getD_end hl, getD_of (List.getElem?_eq_getElem (show i < T.length by omega))]
  exact h.place _ (List.getElem_mem _)
theorem meth_new (T : List Tk) (fin f : Nat) : Lf T fin ⟨0, 0, none⟩ (meth T fin f).2 := by
 unfold meth
 exact ((lf_pat _).trans (lf_primi _)).trans ((lf_temps T fin _).trans ((lfAll T fin f).stL _ _ _))
theorem le_of_lf {T : List Tk} {fin : Nat} {s s' : PS} (h : Lf T fin s s') : Le s s' := ⟨h.at_, h.fl⟩
theorem b_patL {T : List Tk} {fin : Nat} : ∀ (f : Nat) (n : Txt) (l : List Txt) (s : PS), B T s (patL T fin f n l s).2.2
 | 0, _, _, s => B.refl s
 | f + 1, n, l, s => by
  unfold patL
  split
  ·rename_i h
   simp only [Bool.and_eq_true] at h
   exact ((b_kind h.2 (by decide) (by decide)).trans (le_decl T fin l _) (b_decl l _)).trans (le_of_lf (lf_patL f _ _ _)) (b_patL f _ _ _)
  ·exact B.refl s
theorem breaks_at {x : Txt} {p e : Nat} (h : (rd x).2 = (p, e)) (he : e ≠ 0) : (∃ t, t ∈ (lexT x).1 ∧ t.2.2 = p) ∨ p = x.length := by
 unfold rd finish at h
 cases hf : (meth (lexT x).1 x.length (10 * (lexT x).1.length + 9)).2.fault with
 | none => rw [hf] at h; exact absurd (congrArg Prod.snd h).symm he
 | some f =>
  rw [hf] at h
  obtain ⟨rfl, rfl⟩ : f.1 = p ∧ f.2 = e := ⟨congrArg Prod.fst h, congrArg Prod.snd h⟩
  rcases (meth_new _ _ _).new f hf with h1 | ⟨j, _, h2, _⟩
  ·cases h1
  ·rcases Nat.lt_or_ge j (lexT x).1.length with hl | hl
   ·refine .inl ⟨_, List.getElem_mem hl, ?_⟩
    rw [h2]; unfold P
    rw [getD_of (List.getElem?_eq_getElem hl)]
   ·refine .inr ?_
    rw [h2]; unfold P
    rw [getD_end hl]
theorem breaks_same {x y : Txt} {n p : Nat} {t : Tk} (hx : (lexT x).2.2 = 0) (h : (rd x).2 = (p, 124)) (ht : (lexT x).1[n]? = some t) (hp : t.2.2 = p) (hne : t.2.1 ≠ [45])
  (hm : (lexT (x.take (placeOr ((lexT x).1.drop (n + 1)) x.length) ++ 32 :: y)).2.2 = 0) (hM : (lexT (x.take (placeOr ((lexT x).1.drop (n + 1)) x.length) ++ 32 :: y)).1[n]? = some t) :
  (rd (x.take (placeOr ((lexT x).1.drop (n + 1)) x.length) ++ 32 :: y)).2 = (p, 124) := by
 have hs := lexT_break hx ht hne hm hM
 have fx := lexT_fin hx
 have fz := lexT_fin hm
 generalize x.take (placeOr ((lexT x).1.drop (n + 1)) x.length) ++ 32 :: y = z at *
 have hnT := (List.getElem?_eq_some_iff.1 ht).1
 have hnM := (List.getElem?_eq_some_iff.1 hM).1
 have eqi : ∀ i, i ≤ n → (lexT x).1.getD i (0, [], x.length) = (lexT z).1.getD i (0, [], z.length) := fun i hi => by
  have := hs i hi
  rw [List.getElem?_eq_getElem (show i < (lexT x).1.length by omega)] at this
  rw [getD_of this, getD_of (List.getElem?_eq_getElem (show i < (lexT x).1.length by omega))]
 have H : Two (lexT x).1 x.length (lexT z).1 z.length n (· = (p, 124)) := by
  refine ⟨fun i hi => by rw [eqi i hi]; exact ⟨rfl, rfl⟩, fun i hi => by omega, by omega, by omega, fun i j hij hj => ⟨P_rise fx hij (by omega), P_rise fz hij (by omega)⟩, fun i hi _ _ _ => by unfold P; rw [eqi i (by omega), eqi (i + 1) hi], fun e => ?_, fun f hf j hj => ?_, fun f hf => ?_⟩
  ·rw [getD_of ht] at e; exact hne e.2
  ·subst hf
   have hpn : P (lexT x).1 x.length n = p := by unfold P; rw [getD_of ht, hp]
   rcases Nat.lt_or_ge (lexT x).1.length j with h1 | h1
   ·have h2 := P_rise fx (show n < (lexT x).1.length by omega) (Nat.le_refl _)
    have h3 : P (lexT x).1 x.length j = P (lexT x).1 x.length (lexT x).1.length := by unfold P; rw [getD_end (by omega), getD_end (Nat.le_refl _)]
    dsimp only
    omega
   ·have h2 := P_rise fx hj h1
    dsimp only
    omega
  ·subst hf; exact (by decide : (124 : Nat) ≠ 126)
 obtain ⟨f, hf⟩ : ∃ f, f = 10 * (lexT x).1.length + 9 + (10 * (lexT z).1.length + 9) := ⟨_, rfl⟩
 rw [rd_fuel x (f := f) (by omega)] at h
 rw [rd_fuel z (f := f) (by omega)]
 have ho := out_meth H f
 unfold finish at h ⊢
 generalize (meth (lexT x).1 x.length f).2 = s at *
 cases hq : s.fault with
 | none => rw [hq] at h; exact absurd (congrArg Prod.snd h) (show (0 : Nat) ≠ 124 by decide)
 | some g =>
  rw [hq] at h
  have hg : g = (p, 124) := h
  rcases ho with ho | ho | ho
  ·rcases ho with ⟨g', h1, h2⟩ | ⟨h1, _⟩
   ·rw [hq] at h1
    obtain rfl := Option.some.inj h1
    exact absurd hg h2
   ·rw [hq] at h1; cases h1
  ·obtain ⟨i, e, h1, h2, h3⟩ := ho
   rw [hq] at h2
   obtain rfl := Option.some.inj h2
   rw [h3]
   dsimp only
   have e1 : P (lexT x).1 x.length i = p := congrArg Prod.fst hg
   have e2 : e = 124 := congrArg Prod.snd hg
   have e3 : P (lexT z).1 z.length i = P (lexT x).1 x.length i := by unfold P; rw [eqi i h1]
   rw [e3, e1, e2]
  ·rw [ho.1.2.1] at hq; cases hq
end Ps
end Go.Proofs.YtjhonaglmgmpiaaGreatDoor
namespace Go.Proofs.YtjhonaglmgmpiaaGreatDoor
open Go.RowKit
theorem made_own (w : World) (n : Nat) (hn : n ≤ 1000000) : OwnB 5 (w.alloc (.cells (madeCells #[.int .u8 0] n) 5)) w.heap.size (.slice (some ⟨w.heap.size, 0, none⟩) n n) (List.replicate n 0) := by
 have h := World.ownsRow_lit (base := w.heap.size) (e := 5) (size := 1) w (madeCells #[.int .u8 0] n) n (Nat.le_refl _) (by simp only [maxLen]; omega) (by simp [madeCells])
 rw [toList_madeCells_one] at h
 show World.ownsRow _ _ _ _ _ (List.replicate n (0 : UInt8)).length ((List.replicate n (0 : UInt8)).map bv)
 rw [List.length_replicate, List.map_replicate]
 exact h
def GrowP (m : List Nat) (w : World) (e : Ending) (w' : World) : Prop := ∃ v', e = .returned v' ∧ OwnG w' w.heap.size v' m ∧ Below w.heap.size w w'
theorem mid_set0 {done : List Nat} {k d : Nat} : (done ++ List.replicate (k + 1) 0).set done.length d = (done ++ [d]) ++ List.replicate k 0 := by
 rw [List.replicate_succ]; exact mid_set
set_option maxRecDepth 20000 in
theorem grown_any (A : Option Addr) (cp base d : Nat) (m : List Nat) (w : World) (h : RdB w w.heap.size A m.length (Lx.dgB m)) (hm : Lx.Dg m) (hl : m.length ≤ 100000) (h36 : base ≤ 36) (hd : d < base) :
  Calls Tryz.prog 79 #[.slice A m.length cp, .int .i64 (base : Int), .int .i64 (d : Int)] w (GrowP (Lx.growF base m d) w) := by
 obtain ⟨i0, hi, hz0, hz1, hz2⟩ := info_parts info5'
 have hmk := fun (w : World) => run_make_rowN (P := Tryz.prog) 47 5 i0 (.int .u8 0) Tryz.underlying47 hi hz0 .i64 .i64 m.length m.length (Nat.le_refl _) (by rw [hz2]; omega) (by omega) w
 simp only [hz1, Nat.mul_one, Value.cells] at hmk
 have HMO := Hd (made_own w m.length (by omega))
 have H := Hd h
 have HDM := Hd hm
 have HD := Hd hd
 clear h hm hi hz0 hz1 hz2 hd
 go_enter Tryz.func79, Tryz.ntmps79
 go_wp2
 clear hmk
 go_loopw [2, 8] (fun s2 s8 wx => ∃ (j c : Nat) (done : List Nat), j ≤ m.length ∧ s8 = .int .i64 j ∧ s2 = .int .i64 c ∧ c < base ∧ done.length = j ∧ Lx.Dg done ∧ done ++ Lx.growF base (m.drop j) c = Lx.growF base m d ∧
  OwnG wx w.heap.size (.slice (some ⟨w.heap.size, 0, none⟩) m.length m.length) (done ++ List.replicate (m.length - j) 0) ∧ Below w.heap.size w wx) (fun _ s8 _ => m.length - (intOf s8).toNat)
 case atStart => exact ⟨0, d, [], Nat.zero_le _, rfl, rfl, HD.out, rfl, (fun x hx => by cases hx), rfl, by have h := HMO.out; show OwnB _ _ _ _ _; simp only [List.nil_append, Nat.sub_zero]; rw [show Lx.dgB (List.replicate m.length 0) = List.replicate m.length 0 from by simp [Lx.dgB]]; exact h, (Below.refl _ _).alloc (Nat.le_refl _) _⟩
 case round =>
  obtain ⟨j, c, done, hj, rfl, rfl, hcb, hdl, hdd, hgr, hown, hb⟩ := hrel
  have HO2 := Hd hown
  have HB2 := Hd hb
  have HGR := Hd hgr
  have HDD := Hd hdd
  have HDL := Hd hdl
  clear hown hb hgr hdd hdl
  by_cases hjl : j < m.length
  ·have hy10 : m[j] < 10 := HDM.out _ (List.getElem_mem hjl)
   have HDJ := Hd (drop_get hjl)
   obtain ⟨ad, x, rfl, hb1, hx, hc⟩ := (H.out.below HB2.out).byte hjl
   have hxv : (x.toNat : Int) = (m[j] : Nat) := by
    have e : x = UInt8.ofNat m[j] := by
     rw [Lx.dgB, List.getElem?_map, List.getElem?_eq_getElem hjl] at hx
     exact (Option.some.inj hx).symm
    rw [e]; exact ofNat_val (by omega)
   rw [hxv] at hc
   obtain ⟨y, hy⟩ : ∃ y, m[j] = y := ⟨_, rfl⟩
   rw [hy] at HDJ hy10 hc
   rw [HDJ.out] at HGR
   have hk : m.length - j = (m.length - (j + 1)) + 1 := by omega
   rw [hk] at HO2
   have HLL : Hid ((done ++ List.replicate ((m.length - (j + 1)) + 1) 0).length = m.length) := Hd (by simp [HDL.out]; omega)
   have c1 := (OwnG.at_ HO2.out HLL.out (i := j) (y := 0) (by rw [← HDL.out, List.replicate_succ]; exact mid_get) (by omega)).1
   have f1 := (OwnG.at_ HO2.out HLL.out (i := j) (y := 0) (by rw [← HDL.out, List.replicate_succ]; exact mid_get) (by omega)).2
   have HST := Hd (OwnG.stored HO2.out HLL.out done.length ((y * base + c) % 10) (by omega))
   rw [mid_set0, HDL.out] at HST
   have HQ0 : Hid ((((y * base + c) % 10 : Nat) : Int) = ((y : Int) * (base : Int) + (c : Int)) % 10) := Hd (by rw [Int.natCast_emod, Int.natCast_add, Int.natCast_mul]; rfl)
   have HQ : Hid ((((y * base + c) / 10 : Nat) : Int) = ((y : Int) * (base : Int) + (c : Int)) / 10) := Hd (by rw [Int.natCast_ediv, Int.natCast_add, Int.natCast_mul]; rfl)
   rw [HQ0.out] at HST
   have p1 : (0 : Int) ≤ (y : Int) * (base : Int) := Int.mul_nonneg (by omega) (by omega)
   have p2 : (y : Int) * (base : Int) ≤ 9 * 36 := Int.mul_le_mul (by omega) (by omega) (by omega) (by omega)
   have HCL := Hd (Lx.carry_lt hy10 hcb)
   clear hx hxv hy hk hb1
   go_wp2
   go_roundw
   case rel => exact ⟨j + 1, (y * base + c) / 10, done ++ [(y * base + c) % 10], hjl, by go_num, by rw [HQ.out], HCL.out, by simp [HDL.out], (fun z hz => by
    rcases List.mem_append.1 hz with hz | hz
    ·exact HDD.out z hz
    ·simp at hz; omega), by rw [← HGR.out]; simp [Lx.growF], HST.out, HB2.out.setCell (Nat.le_refl _) _⟩
   case measure => simp [intOf]; omega
  ·obtain rfl : j = m.length := by omega
   have HO3 : Hid (OwnG wr w.heap.size (.slice (some ⟨w.heap.size, 0, none⟩) m.length m.length) done) := Hd (by have := HO2.out; rwa [Nat.sub_self, List.replicate_zero, List.append_nil] at this)
   have HG3 : Hid (done ++ Lx.co c = Lx.growF base m d) := Hd (by have := HGR.out; rwa [List.drop_length] at this)
   have HGL := Hd (Lx.growF_len base m d)
   clear HO2 HGR hj hjl H HMO
   obtain ⟨wi, rfl⟩ : ∃ wi : World, wi = wr := ⟨_, rfl⟩
   go_wp2
   go_loopw [2, 7] (fun s2 v wx => ∃ (c : Nat) (cur : List Nat), s2 = .int .i64 c ∧ c < 100 ∧ cur ++ Lx.co c = Lx.growF base m d ∧ OwnG wx w.heap.size v cur ∧ Below w.heap.size w wx) (fun s2 _ _ => (intOf s2).toNat)
   case atStart => exact ⟨c, done, rfl, by omega, HG3.out, HO3.out, HB2.out⟩
   case round =>
    obtain ⟨c1, cur, rfl, hc100, hg4, hown, hb⟩ := hrel
    have HO4 := Hd hown
    have HB4 := Hd hb
    have HG4 := Hd hg4
    clear hown hb hg4
    by_cases h0 : 0 < c1
    ·have HCO := Hd (Lx.co_step h0 hc100)
     have HCL : Hid (cur.length ≤ m.length + 2) := Hd (by
      have h1 := HGL.out
      rw [← HG4.out, List.length_append] at h1
      omega)
     have HRD : Hid (RdB (wr.alloc (.cells #[.int .u8 ((c1 : Int) % 10)] 5)) (wr.heap.size + 1) (some ⟨wr.heap.size, 0, none⟩) 1 [UInt8.ofNat (c1 % 10)]) := Hd (by
      have h1 := read_one8 wr (UInt8.ofNat (c1 % 10))
      rw [ofNat_val (by omega), Int.natCast_emod] at h1
      exact h1)
     have HLD : Hid ((Lx.dgB cur).length + 1 ≤ 140737488355328) := Hd (by rw [Lx.dgB_len]; have := HCL.out; omega)
     go_wp2_with (at_builtin; refine wpList_app rfl (.tmp 38) (.tmp 42) 47 rfl w.heap.size 5 info5' Tryz.underlying47 _ (Lx.dgB cur) rfl (HO4.out.alloc _) _ _ _ _ [UInt8.ofNat (c1 % 10)] rfl HRD.out HLD.out (by have := HB4.out.size; simp; omega) ?_; intro v1 w1 hown1 happ1; have HO5 := Hd hown1; have HA5 := Hd happ1; clear hown1 happ1)
     go_roundw
     case rel => exact ⟨c1 / 10, cur ++ [c1 % 10], by rw [Int.natCast_ediv]; rfl, by omega, by rw [← HG4.out, HCO.out]; simp, by have h := HO5.out; rw [show Lx.dgB cur ++ [UInt8.ofNat (c1 % 10)] = Lx.dgB (cur ++ [c1 % 10]) from by simp [Lx.dgB]] at h; exact h, bapp HB4.out HO4.out HA5.out⟩
     case measure => simp [intOf]; omega
    ·obtain rfl : c1 = 0 := by omega
     have HE2 : Hid (cur = Lx.growF base m d) := Hd (by have := HG4.out; rwa [Lx.co_zero, List.append_nil] at this)
     go_wp2
     go_ret
     exact ⟨_, rfl, by rw [← HE2.out]; exact HO4.out, HB4.out⟩
end Go.Proofs.YtjhonaglmgmpiaaGreatDoor
