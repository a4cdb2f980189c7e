/-
  The law's book of what was sent, held against the net's state: plain.
-/
import Derived.Test.YtbkgphmocjjmmaaNuC
namespace Go.Proofs.Ytbkgphmocjjmmaa
open Go.RowKit

structure Wp where
  b : List UInt8
  side : Int
  epoch : Int
  gone : Bool
def Wp.off (x : Wp) : Wp := { x with gone := true }
structure Book (S : Ns) (ws : List Wp) : Prop where
  len : S.number = ws.length
  num : ∀ s, ∀ p ∈ S.u s, ∃ i : Nat, p.num = (i : Int) + 1 ∧ ws[i]? = some ⟨p.bytes, sideN s, S.epoch, false⟩
  one : ∀ s, (S.u s).Pairwise fun p q => p.num ≠ q.num
  two : ∀ s, ∀ p ∈ S.u s, ∀ q ∈ S.u (!s), p.num ≠ q.num
  down : S.up = false → ∀ s, S.u s = []
  cnt : ∀ s, (S.c s).sent + (S.c s).doubled = (S.c s).delivered + (S.c s).dropped + (S.c s).lost + (S.u s).length
theorem Book.new (limit : Int) : Book (Ns.new limit) [] :=
  ⟨rfl, fun s p hp => (by cases hp), fun s => List.Pairwise.nil, fun s p hp => (by cases hp), fun _ s => rfl, fun s => rfl⟩
theorem upd_mem {f : Bool → List Pk} {s : Bool} {us : List Pk} {t : Bool} {p : Pk} (h : p ∈ upd f s us t) : (t = s ∧ p ∈ us) ∨ (t ≠ s ∧ p ∈ f t) := by
  unfold upd at h
  split at h
  · exact .inl ⟨‹_›, h⟩
  · exact .inr ⟨‹_›, h⟩
theorem bool_not {s t : Bool} (h : t ≠ s) : t = !s := by cases s <;> cases t <;> simp_all
theorem pair_erase {l : List Pk} {i : Nat} {q r : Pk} (hl : l.Pairwise fun p q => p.num ≠ q.num) (hq : l[i]? = some q) (hr : r ∈ l.eraseIdx i) : r.num ≠ q.num := by
  induction l generalizing i with
  | nil => cases hr
  | cons x t ih =>
    rw [List.pairwise_cons] at hl
    cases i with
    | zero =>
      simp only [List.getElem?_cons_zero, Option.some.injEq] at hq
      subst hq
      simp only [List.eraseIdx_cons_zero] at hr
      exact Ne.symm (hl.1 r hr)
    | succ i =>
      rw [List.getElem?_cons_succ] at hq
      simp only [List.eraseIdx_cons_succ, List.mem_cons] at hr
      rcases hr with e | hr
      · subst e; exact hl.1 q (List.mem_of_getElem? hq)
      · exact ih hl.2 hq hr
section
variable {S : Ns} {ws : List Wp}
theorem Book.at_ (h : Book S ws) {s : Bool} {i : Nat} {q : Pk} (hq : (S.u s)[i]? = some q) : ∃ k : Nat, q.num = (k : Int) + 1 ∧ ws[k]? = some ⟨q.bytes, sideN s, S.epoch, false⟩ := h.num s q (List.mem_of_getElem? hq)
theorem Book.conn (h : Book S ws) (hu : S.up = false) : Book S.conn ws :=
  ⟨h.len, fun s p hp => (by rw [show S.conn.u s = S.u s from rfl, h.down hu s] at hp; cases hp), h.one, h.two, fun e => (by cases e), h.cnt⟩
theorem Book.cut (h : Book S ws) : Book S.cut (ws.map Wp.off) := by
  have hu : ∀ s, S.cut.u s = [] := fun s => by cases s <;> rfl
  refine ⟨by rw [List.length_map]; exact h.len, fun s p hp => (by rw [hu] at hp; cases hp), fun s => by rw [hu]; exact List.Pairwise.nil, fun s p hp => (by rw [hu] at hp; cases hp), fun _ s => hu s, fun s => ?_⟩
  have h0 := h.cnt false
  have h1 := h.cnt true
  cases s
  · simp [Ns.cut, Ns.down, Ns.lose, Cn.put, Cn.get, upd]; omega
  · simp [Ns.cut, Ns.down, Ns.lose, Cn.put, Cn.get, upd]; omega
theorem Book.put (h : Book S ws) (s : Bool) (b : List UInt8) (k : Nat) (hk : k = 0 ∨ k = 1) (hu : S.up = true) : Book ((S.add s k 1).put s b) (ws ++ [⟨b, sideN s, S.epoch, false⟩]) := by
  have old : ∀ t, ∀ p ∈ S.u t, p.num ≤ S.number := fun t p hp => by
    obtain ⟨i, e, hi⟩ := h.num t p hp
    have := (List.getElem?_eq_some_iff.1 hi).1
    rw [h.len]; omega
  have keep : ∀ t, ∀ p ∈ S.u t, ∃ i : Nat, p.num = (i : Int) + 1 ∧ (ws ++ [(⟨b, sideN s, S.epoch, false⟩ : Wp)])[i]? = some ⟨p.bytes, sideN t, S.epoch, false⟩ := fun t p hp => by
    obtain ⟨i, e, hi⟩ := h.num t p hp
    exact ⟨i, e, by rw [List.getElem?_append_left (List.getElem?_eq_some_iff.1 hi).1]; exact hi⟩
  have hmem : ∀ t, ∀ p, p ∈ ((S.add s k 1).put s b).u t → p ∈ S.u t ∨ (t = s ∧ p = ⟨S.number + 1, b⟩) := fun t p hp => by
    rcases upd_mem hp with ⟨e, h1⟩ | ⟨e, h1⟩
    · rcases List.mem_append.1 h1 with h2 | h2
      · subst e; exact .inl h2
      · rw [List.mem_singleton] at h2; exact .inr ⟨e, h2⟩
    · exact .inl h1
  refine ⟨?_, fun t p hp => ?_, fun t => ?_, fun t p hp q hq => ?_, fun e => ?_, fun t => ?_⟩
  · show S.number + 1 = _
    rw [h.len]; simp
  · rcases hmem t p hp with h1 | ⟨e, h1⟩
    · exact keep t p h1
    · subst e h1
      exact ⟨ws.length, by rw [← h.len], by simp; rfl⟩
  · show (upd S.u s (S.u s ++ [⟨S.number + 1, b⟩]) t).Pairwise _
    by_cases ht : t = s
    · subst ht
      rw [upd_at, List.pairwise_append]
      refine ⟨h.one t, List.pairwise_singleton _ _, fun p hp q hq => ?_⟩
      rw [List.mem_singleton] at hq
      subst hq
      have := old t p hp
      show p.num ≠ S.number + 1
      omega
    · have : upd S.u s (S.u s ++ [⟨S.number + 1, b⟩]) t = S.u t := by simp [upd, ht]
      rw [this]; exact h.one t
  · rcases hmem t p hp with h1 | ⟨e, h1⟩
    · rcases hmem (!t) q hq with h2 | ⟨e2, h2⟩
      · exact h.two t p h1 q h2
      · subst h2
        have := old t p h1
        show p.num ≠ S.number + 1
        omega
    · rcases hmem (!t) q hq with h2 | ⟨e2, h2⟩
      · subst h1
        have := old _ q h2
        show S.number + 1 ≠ q.num
        omega
      · subst e; cases t <;> cases e2
  · rw [show ((S.add s k 1).put s b).up = S.up from rfl, hu] at e; cases e
  · have h0 := h.cnt t
    by_cases ht : t = s
    · subst ht
      rcases hk with rfl | rfl <;> simp [Ns.put, Ns.add, Cn.put, Cn.get, upd] <;> omega
    · have e1 : upd S.u s (S.u s ++ [⟨S.number + 1, b⟩]) t = S.u t := by simp [upd, ht]
      have e2 : ((S.add s k 1).put s b).c t = S.c t := by simp [Ns.put, Ns.add, upd, ht]
      rw [e2]
      show _ = _ + ((upd S.u s (S.u s ++ [⟨S.number + 1, b⟩]) t).length : Int)
      rw [e1]; exact h0
theorem Book.take (h : Book S ws) {s : Bool} {i k : Nat} {q : Pk} (c : Nat) (hc : c = 2 ∨ c = 3) (hq : (S.u s)[i]? = some q) (hk : q.num = (k : Int) + 1) (x : Wp) (hu : S.up = true) : Book ((S.take s i).add s c 1) (ws.set k x.off) := by
  have hmem : ∀ t, ∀ p, p ∈ ((S.take s i).add s c 1).u t → p ∈ S.u t ∧ p.num ≠ q.num := fun t p hp => by
    rcases upd_mem (f := S.u) (s := s) (us := (S.u s).eraseIdx i) hp with ⟨e, h1⟩ | ⟨e, h1⟩
    · subst e; exact ⟨List.mem_of_mem_eraseIdx h1, pair_erase (h.one t) hq h1⟩
    · have := bool_not e; subst this
      exact ⟨h1, Ne.symm (h.two s q (List.mem_of_getElem? hq) p h1)⟩
  have hi : i < (S.u s).length := (List.getElem?_eq_some_iff.1 hq).1
  refine ⟨by rw [List.length_set]; exact h.len, fun t p hp => ?_, fun t => ?_, fun t p hp r hr => h.two t p (hmem t p hp).1 r (hmem _ r hr).1, fun e => ?_, fun t => ?_⟩
  · obtain ⟨h1, h2⟩ := hmem t p hp
    obtain ⟨j, e, hj⟩ := h.num t p h1
    exact ⟨j, e, by rw [List.getElem?_set_ne (by omega)]; exact hj⟩
  · show (upd S.u s ((S.u s).eraseIdx i) t).Pairwise _
    by_cases ht : t = s
    · subst ht; rw [upd_at]; exact (h.one t).sublist (List.eraseIdx_sublist _ _)
    · have : upd S.u s ((S.u s).eraseIdx i) t = S.u t := by simp [upd, ht]
      rw [this]; exact h.one t
  · rw [show ((S.take s i).add s c 1).up = S.up from rfl, hu] at e; cases e
  · have h0 := h.cnt t
    by_cases ht : t = s
    · subst ht
      have hl : ((S.u t).eraseIdx i).length + 1 = (S.u t).length := by rw [List.length_eraseIdx_of_lt hi]; omega
      rcases hc with rfl | rfl <;> simp [Ns.take, Ns.add, Cn.put, Cn.get, upd] <;> omega
    · have e1 : upd S.u s ((S.u s).eraseIdx i) t = S.u t := by simp [upd, ht]
      have e2 : ((S.take s i).add s c 1).c t = S.c t := by simp [Ns.take, Ns.add, upd, ht]
      rw [e2]
      show _ = _ + ((upd S.u s ((S.u s).eraseIdx i) t).length : Int)
      rw [e1]; exact h0
theorem Book.move (h : Book S ws) {s : Bool} {i j : Nat} {q : Pk} (hq : (S.u s)[i]? = some q) (hu : S.up = true) : Book ((S.move s i j q).add s 5 1) ws := by
  have hp := moved_perm hq j
  have hmem : ∀ t, ∀ p, p ∈ ((S.move s i j q).add s 5 1).u t → p ∈ S.u t := fun t p hp' => by
    rcases upd_mem (f := S.u) (s := s) (us := moved (S.u s) i j q) hp' with ⟨e, h1⟩ | ⟨e, h1⟩
    · subst e; exact hp.mem_iff.1 h1
    · exact h1
  refine ⟨h.len, fun t p h1 => h.num t p (hmem t p h1), fun t => ?_, fun t p h1 r hr => h.two t p (hmem t p h1) r (hmem _ r hr), fun e => ?_, fun t => ?_⟩
  · show (upd S.u s (moved (S.u s) i j q) t).Pairwise _
    by_cases ht : t = s
    · subst ht; rw [upd_at]; exact (List.Perm.pairwise_iff (fun h => Ne.symm h) hp).2 (h.one t)
    · have : upd S.u s (moved (S.u s) i j q) t = S.u t := by simp [upd, ht]
      rw [this]; exact h.one t
  · rw [show ((S.move s i j q).add s 5 1).up = S.up from rfl, hu] at e; cases e
  · have h0 := h.cnt t
    by_cases ht : t = s
    · subst ht
      have hl := hp.length_eq
      simp [Ns.move, Ns.setU, Ns.add, Cn.put, Cn.get, upd, hl]; omega
    · have e1 : upd S.u s (moved (S.u s) i j q) t = S.u t := by simp [upd, ht]
      have e2 : ((S.move s i j q).add s 5 1).c t = S.c t := by simp [Ns.move, Ns.setU, Ns.add, upd, ht]
      rw [e2]
      show _ = _ + ((upd S.u s (moved (S.u s) i j q) t).length : Int)
      rw [e1]; exact h0
theorem pair_set {l : List Pk} {i : Nat} {q q' : Pk} (hl : l.Pairwise fun p q => p.num ≠ q.num) (hq : l[i]? = some q) (hn : q'.num = q.num) : (l.set i q').Pairwise fun p q => p.num ≠ q.num := by
  have : ((l.set i q').map Pk.num).Pairwise (· ≠ ·) := by
    have e : (l.set i q').map Pk.num = l.map Pk.num := by
      apply List.ext_getElem?
      intro j
      simp only [List.getElem?_map, List.getElem?_set]
      split
      · rename_i e; subst e
        split
        · rw [hq]; simp [hn]
        · rw [List.getElem?_eq_none (by omega)]
      · rfl
    rw [e]
    exact List.pairwise_map.2 hl
  exact List.pairwise_map.1 this
theorem Book.flip (h : Book S ws) {s : Bool} {i j k : Nat} {q : Pk} (x : UInt8) (hq : (S.u s)[i]? = some q) (hk : q.num = (k : Int) + 1) (hx : ws[k]? = some ⟨q.bytes, sideN s, S.epoch, false⟩) (hu : S.up = true) : Book ((S.flip s i (q.flip j x)).add s 6 1) (ws.set k ⟨q.bytes.set j x, sideN s, S.epoch, false⟩) := by
  have hkl := (List.getElem?_eq_some_iff.1 hx).1
  have hmem : ∀ t, ∀ p, p ∈ ((S.flip s i (q.flip j x)).add s 6 1).u t → (t = s ∧ p = q.flip j x) ∨ (p ∈ S.u t ∧ p.num ≠ q.num) ∨ (t = s ∧ p = q) := fun t p hp => by
    rcases upd_mem (f := S.u) (s := s) (us := (S.u s).set i (q.flip j x)) hp with ⟨e, h1⟩ | ⟨e, h1⟩
    · subst e
      obtain ⟨m, hm⟩ := List.getElem?_of_mem h1
      rw [List.getElem?_set] at hm
      split at hm
      · split at hm
        · injection hm with hm; exact .inl ⟨rfl, hm.symm⟩
        · cases hm
      · rename_i hne
        refine .inr (.inl ⟨List.mem_of_getElem? hm, fun e => ?_⟩)
        have hpw := h.one t
        rw [List.pairwise_iff_getElem] at hpw
        have hm1 := (List.getElem?_eq_some_iff.1 hm)
        have hi1 := (List.getElem?_eq_some_iff.1 hq)
        rcases Nat.lt_or_gt_of_ne hne with h2 | h2
        · have := hpw i m hi1.1 hm1.1 h2
          rw [hi1.2, hm1.2] at this
          exact this e.symm
        · have := hpw m i hm1.1 hi1.1 h2
          rw [hi1.2, hm1.2] at this
          exact this e
    · have := bool_not e; subst this
      exact .inr (.inl ⟨h1, Ne.symm (h.two s q (List.mem_of_getElem? hq) p h1)⟩)
  have hqm := List.mem_of_getElem? hq
  have hns : ∀ t, ∀ p, p ∈ ((S.flip s i (q.flip j x)).add s 6 1).u t → ∃ p0 ∈ S.u t, p0.num = p.num := fun t p hp => by
    rcases hmem t p hp with ⟨e, h1⟩ | ⟨h1, _⟩ | ⟨e, h1⟩
    · subst e h1; exact ⟨q, hqm, rfl⟩
    · exact ⟨p, h1, rfl⟩
    · subst e h1; exact ⟨p, hqm, rfl⟩
  refine ⟨by rw [List.length_set]; exact h.len, fun t p hp => ?_, fun t => ?_, fun t p hp r hr => ?_, fun e => ?_, fun t => ?_⟩
  · rcases upd_mem (f := S.u) (s := s) (us := (S.u s).set i (q.flip j x)) hp with ⟨e, h1⟩ | ⟨e, h1⟩
    · rcases hmem t p hp with ⟨_, h2⟩ | ⟨h2, h3⟩ | ⟨_, h2⟩
      · subst e h2
        exact ⟨k, hk, by rw [List.getElem?_set_self hkl]; rfl⟩
      · obtain ⟨m, e', hm⟩ := h.num t p h2
        exact ⟨m, e', by rw [List.getElem?_set_ne (by omega)]; exact hm⟩
      · -- the elder packet itself is not there any more, unless it is the new one
        subst e h2
        obtain ⟨m, hm⟩ := List.getElem?_of_mem h1
        rw [List.getElem?_set] at hm
        split at hm
        · split at hm
          · injection hm with hm
            refine ⟨k, hk, ?_⟩
            have e2 : p.bytes.set j x = p.bytes := congrArg Pk.bytes hm
            rw [List.getElem?_set_self hkl, e2]; rfl
          · cases hm
        · rename_i hne
          have hpw := h.one t
          rw [List.pairwise_iff_getElem] at hpw
          have hm1 := (List.getElem?_eq_some_iff.1 hm)
          have hi1 := (List.getElem?_eq_some_iff.1 hq)
          rcases Nat.lt_or_gt_of_ne hne with h2 | h2
          · have := hpw i m hi1.1 hm1.1 h2
            rw [hi1.2, hm1.2] at this
            exact absurd rfl this
          · have := hpw m i hm1.1 hi1.1 h2
            rw [hi1.2, hm1.2] at this
            exact absurd rfl this
    · have := bool_not e; subst this
      obtain ⟨m, e', hm⟩ := h.num _ p h1
      have hne := h.two s q hqm p h1
      exact ⟨m, e', by rw [List.getElem?_set_ne (by omega)]; exact hm⟩
  · show (upd S.u s ((S.u s).set i (q.flip j x)) t).Pairwise _
    by_cases ht : t = s
    · subst ht; rw [upd_at]; exact pair_set (h.one t) hq rfl
    · have : upd S.u s ((S.u s).set i (q.flip j x)) t = S.u t := by simp [upd, ht]
      rw [this]; exact h.one t
  · obtain ⟨p0, hp0, e0⟩ := hns t p hp
    obtain ⟨r0, hr0, e1⟩ := hns _ r hr
    rw [← e0, ← e1]
    exact h.two t p0 hp0 r0 hr0
  · rw [show ((S.flip s i (q.flip j x)).add s 6 1).up = S.up from rfl, hu] at e; cases e
  · have h0 := h.cnt t
    by_cases ht : t = s
    · subst ht
      simp [Ns.flip, Ns.add, Cn.put, Cn.get, upd]; omega
    · have e1 : upd S.u s ((S.u s).set i (q.flip j x)) t = S.u t := by simp [upd, ht]
      have e2 : ((S.flip s i (q.flip j x)).add s 6 1).c t = S.c t := by simp [Ns.flip, Ns.add, upd, ht]
      rw [e2]
      show _ = _ + ((upd S.u s ((S.u s).set i (q.flip j x)) t).length : Int)
      rw [e1]; exact h0
end
end Go.Proofs.Ytbkgphmocjjmmaa
