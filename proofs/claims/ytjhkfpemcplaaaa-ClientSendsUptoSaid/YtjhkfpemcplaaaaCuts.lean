/-
  A reader's plain laws: bytes in two chunks, what is kept is no whole frame, all bytes are told in packets, kept or dropped.
-/
import Derived.Test.YtjhkfpemcplaaaaFeed
import Derived.Test.YtjhkfpemcplaaaaBack
namespace Go.Proofs.Ytjhkfpemcplaaaa
open Go.RowKit

theorem getD_app {x y : List UInt8} {k : Nat} (h : k < x.length) : (x ++ y).getD k 0 = x.getD k 0 := by
  rw [List.getD, List.getElem?_append_left h, List.getD]
theorem lenOf_app {x y : List UInt8} (h : 4 ≤ x.length) : lenOf (x ++ y) = lenOf x := by
  unfold lenOf
  rw [getD_app (by omega), getD_app (by omega)]
theorem stepB_head' {b : List UInt8} (h0 : ¬ b.length = 0) (h : b.getD 0 0 ≠ 239 ∨ (1 < b.length ∧ b.getD 1 0 ≠ 30)) : stepB b = .drop := by unfold stepB; rw [if_neg h0, if_pos h]
theorem stepB_drop_app {x : List UInt8} (y : List UInt8) (h : stepB x = .drop) : stepB (x ++ y) = .drop := by
  unfold stepB at h
  split at h
  · cases h
  · rename_i h0
    split at h
    · rename_i h1
      refine stepB_head' (by rw [List.length_append]; omega) ?_
      rcases h1 with h1 | ⟨h1, h2⟩
      · exact .inl (by rw [getD_app (by omega)]; exact h1)
      · exact .inr ⟨by rw [List.length_append]; omega, by rw [getD_app h1]; exact h2⟩
    · rename_i h1
      split at h
      · cases h
      · rename_i h4
        have e0 : (x ++ y).getD 0 0 = x.getD 0 0 := getD_app (by omega)
        have e1 : (x ++ y).getD 1 0 = x.getD 1 0 := getD_app (by omega)
        have eL : lenOf (x ++ y) = lenOf x := lenOf_app (by omega)
        have hh : ¬ ((x ++ y).getD 0 0 ≠ 239 ∨ (1 < (x ++ y).length ∧ (x ++ y).getD 1 0 ≠ 30)) := by
          rw [e0, e1]
          rintro (q | ⟨_, q⟩)
          · exact h1 (.inl q)
          · exact h1 (.inr ⟨by omega, q⟩)
        unfold stepB
        rw [if_neg (by rw [List.length_append]; omega), if_neg hh, if_neg (by rw [List.length_append]; omega), eL]
        split at h
        · rename_i h5
          rw [if_pos h5]
        · rename_i h5
          rw [if_neg h5]
          split at h
          · cases h
          · rename_i h6
            rw [if_neg (by rw [List.length_append]; omega), List.take_append_of_le_length (by omega)]
            split at h
            · cases h
            · rename_i h7
              rw [if_neg h7]
theorem stepB_take_app {x : List UInt8} (y : List UInt8) {p : Pk} {k : Nat} (h : stepB x = .take p k) : stepB (x ++ y) = .take p k := by
  obtain ⟨k8, kl, k1088, hk, h4, hu⟩ := stepB_take h
  unfold stepB at h
  split at h
  · cases h
  · rename_i h0
    split at h
    · cases h
    · rename_i h1
      have e0 : (x ++ y).getD 0 0 = x.getD 0 0 := getD_app (by omega)
      have e1 : (x ++ y).getD 1 0 = x.getD 1 0 := getD_app (by omega)
      have eL : lenOf (x ++ y) = lenOf x := lenOf_app (by omega)
      have hh : ¬ ((x ++ y).getD 0 0 ≠ 239 ∨ (1 < (x ++ y).length ∧ (x ++ y).getD 1 0 ≠ 30)) := by
        rw [e0, e1]
        rintro (q | ⟨_, q⟩)
        · exact h1 (.inl q)
        · exact h1 (.inr ⟨by omega, q⟩)
      unfold stepB
      rw [if_neg (by rw [List.length_append]; omega), if_neg hh, if_neg (by rw [List.length_append]; omega), eL, if_neg (by omega), if_neg (by rw [List.length_append]; omega), List.take_append_of_le_length (by omega), ← hk, hu, if_pos rfl]
/-- bytes in two chunks -/
theorem feed_app : ∀ (n : Nat) (x y : List UInt8), x.length ≤ n → feed (x ++ y) = ((feed x).1 ++ (feed ((feed x).2.1 ++ y)).1, (feed ((feed x).2.1 ++ y)).2.1, (feed x).2.2 + (feed ((feed x).2.1 ++ y)).2.2) := by
  intro n
  induction n with
  | zero =>
    intro x y hx
    rw [feed_done (stepB_nil (b := x) (by omega))]
    simp
  | succ n ih =>
    intro x y hx
    cases hs : stepB x with
    | done => rw [feed_done hs]; simp
    | drop =>
      have h0 : 0 < x.length := by
        rcases Nat.eq_zero_or_pos x.length with h0 | h0
        · rw [stepB_nil h0] at hs; cases hs
        · exact h0
      have e : (x ++ y).tail = x.tail ++ y := by
        cases x with
        | nil => simp at h0
        | cons a l => rfl
      rw [feed_drop (stepB_drop_app y hs), feed_drop hs, e, ih x.tail y (by rw [List.length_tail]; omega)]
      simp only [Prod.mk.injEq, true_and]
      omega
    | take p k =>
      have hk := stepB_take hs
      have e : (x ++ y).drop k = x.drop k ++ y := List.drop_append_of_le_length (by omega)
      rw [feed_take (stepB_take_app y hs), feed_take hs, e, ih (x.drop k) y (by rw [List.length_drop]; omega)]
      simp
theorem feed_cut (x y : List UInt8) : feed (x ++ y) = ((feed x).1 ++ (feed ((feed x).2.1 ++ y)).1, (feed ((feed x).2.1 ++ y)).2.1, (feed x).2.2 + (feed ((feed x).2.1 ++ y)).2.2) := feed_app x.length x y (Nat.le_refl _)
theorem done_lt {b : List UInt8} (h : stepB b = .done) : b.length < 1088 := by
  unfold stepB at h
  split at h
  · omega
  · split at h
    · cases h
    · split at h
      · omega
      · split at h
        · cases h
        · split at h
          · omega
          · split at h <;> cases h
theorem feed_kept (b : List UInt8) : stepB (feed b).2.1 = .done := by
  have key : ∀ (n : Nat) (b : List UInt8), b.length ≤ n → stepB (feed b).2.1 = .done := by
    intro n
    induction n with
    | zero =>
      intro b hb
      rw [feed_done (stepB_nil (b := b) (by omega))]
      exact stepB_nil (b := b) (by omega)
    | succ n ih =>
      intro b hb
      cases hs : stepB b with
      | done => rw [feed_done hs]; exact hs
      | drop =>
        rw [feed_drop hs]
        have h0 : 0 < b.length := by
          rcases Nat.eq_zero_or_pos b.length with h0 | h0
          · rw [stepB_nil h0] at hs; cases hs
          · exact h0
        exact ih b.tail (by rw [List.length_tail]; omega)
      | take p k =>
        rw [feed_take hs]
        have hk := stepB_take hs
        exact ih (b.drop k) (by rw [List.length_drop]; omega)
  exact key b.length b (Nat.le_refl _)
theorem feed_lt (b : List UInt8) : (feed b).2.1.length < 1088 := done_lt (feed_kept b)

/-- a frame that was taken is what its packet is written as -/
theorem parse_enc {l : List UInt8} {p : Pk} (h : parse l = (p, false)) : l = innerB p.kind p.tok p.seq p.ack p.body ∧ p.tok < 18446744073709551616 ∧ p.seq < 18446744073709551616 ∧ p.ack < 18446744073709551616 := by
  unfold parse at h
  obtain ⟨⟨m1, l1, b1⟩, h1⟩ : ∃ r, cnt l.tail l.isEmpty = r := ⟨_, rfl⟩
  obtain ⟨⟨m2, l2, b2⟩, h2⟩ : ∃ r, cnt l1 b1 = r := ⟨_, rfl⟩
  obtain ⟨⟨m3, l3, b3⟩, h3⟩ : ∃ r, cnt l2 b2 = r := ⟨_, rfl⟩
  have t1 := cnt_lt l.tail l.isEmpty
  have t2 := cnt_lt l1 b1
  have t3 := cnt_lt l2 b2
  rw [h1] at t1
  rw [h2] at t2
  rw [h3] at t3
  simp only [h1, h2, h3, Prod.mk.injEq] at h
  obtain ⟨rfl, rfl⟩ := h
  obtain ⟨rfl, e3⟩ := cnt_enc h3
  obtain ⟨rfl, e2⟩ := cnt_enc h2
  obtain ⟨he, e1⟩ := cnt_enc h1
  refine ⟨?_, t1, t2, t3⟩
  have e0 := byteV_cons he
  rw [e1, e2, e3] at e0
  unfold innerB
  dsimp only
  generalize byteV l = q at e0 ⊢
  rw [e0]
  simp
theorem list8 {l : List UInt8} (h : 8 ≤ l.length) : l = [l.getD 0 0, l.getD 1 0, l.getD 2 0, l.getD 3 0] ++ midB l ++ l.drop (l.length - 4) := by
  match l, h with
  | a :: b :: c :: d :: r, h =>
    have e : midB (a :: b :: c :: d :: r) = r.take (r.length - 4) := by
      unfold midB
      rw [show (a :: b :: c :: d :: r).length - 4 = (r.length - 4) + 4 from by simp at h ⊢; omega]
      simp
    have e2 : (a :: b :: c :: d :: r).drop ((a :: b :: c :: d :: r).length - 4) = r.drop (r.length - 4) := by
      rw [show (a :: b :: c :: d :: r).length - 4 = (r.length - 4) + 4 from by simp at h ⊢; omega]
      simp
    rw [e, e2]
    simp
theorem unp_enc {f : List UInt8} {p : Pk} (h : unp f = (0, p)) : f = packB p.kind p.tok p.seq p.ack p.body ∧ mayB p.kind p.body.length = true ∧ p.tok < 18446744073709551616 ∧ p.seq < 18446744073709551616 ∧ p.ack < 18446744073709551616 := by
  unfold unp at h
  split at h
  · cases h
  · rename_i h1
    split at h
    · cases h
    · rename_i h2
      split at h
      · cases h
      · rename_i h3
        injection h with _ h
        have h8 : 8 ≤ f.length := by
          by_cases q : f.length < 8
          · exact absurd (.inl q) h1
          · omega
        have g0 : f.getD 0 0 = 239 := Classical.not_not.1 fun q => h1 (.inr (.inl q))
        have g1 : f.getD 1 0 = 30 := Classical.not_not.1 fun q => h1 (.inr (.inr (.inl q)))
        have g2 : f.length = lenOf f + 8 := Classical.not_not.1 fun q => h1 (.inr (.inr (.inr q)))
        have g3 : f.drop (f.length - 4) = le4 (crc (f.take (f.length - 4))) := Classical.not_not.1 h2
        have hb : (parse (midB f)).2 = false := by
          cases q : (parse (midB f)).2
          · rfl
          · exact absurd (.inl q) h3
        have hm : mayB (parse (midB f)).1.kind (parse (midB f)).1.body.length = true := by
          cases q : mayB (parse (midB f)).1.kind (parse (midB f)).1.body.length
          · exact absurd (.inr q) h3
          · rfl
        have hp : parse (midB f) = (p, false) := by rw [← h, ← hb]
        obtain ⟨e, t1, t2, t3⟩ := parse_enc hp
        rw [h] at hm
        refine ⟨?_, hm, t1, t2, t3⟩
        have hml : (midB f).length = f.length - 8 := by
          unfold midB
          rw [List.length_drop, List.length_take]
          omega
        have e8 := list8 h8
        have hd : headB (midB f).length = [f.getD 0 0, f.getD 1 0, f.getD 2 0, f.getD 3 0] := by
          have b2 := u8_lt (f.getD 2 0)
          have b3 := u8_lt (f.getD 3 0)
          have hL : (midB f).length = (f.getD 2 0).toNat + 256 * (f.getD 3 0).toNat := by
            rw [hml, g2]
            show lenOf f + 8 - 8 = lenOf f
            omega
          unfold headB
          rw [g0, g1, hL]
          have c2 : UInt8.ofNat ((f.getD 2 0).toNat + 256 * (f.getD 3 0).toNat) = f.getD 2 0 := by
            apply UInt8.toNat_inj.1
            rw [UInt8.toNat_ofNat']
            omega
          have c3 : UInt8.ofNat (((f.getD 2 0).toNat + 256 * (f.getD 3 0).toNat) / 256) = f.getD 3 0 := by
            apply UInt8.toNat_inj.1
            rw [UInt8.toNat_ofNat']
            omega
          rw [c2, c3]
        have ht : f.take (f.length - 4) = headB (midB f).length ++ midB f := by
          have : (f.take (f.length - 4)) ++ f.drop (f.length - 4) = (headB (midB f).length ++ midB f) ++ f.drop (f.length - 4) := by
            rw [List.take_append_drop, hd]
            exact e8
          exact List.append_cancel_right this
        unfold packB frameB
        rw [← e]
        rw [ht] at g3
        rw [← g3, ← ht, List.take_append_drop]
def packLen (p : Pk) : Nat := (packB p.kind p.tok p.seq p.ack p.body).length
def okPk (p : Pk) : Prop := mayB p.kind p.body.length = true ∧ p.tok < 18446744073709551616 ∧ p.seq < 18446744073709551616 ∧ p.ack < 18446744073709551616
theorem feed_all (b : List UInt8) : ((feed b).1.map packLen).sum + (feed b).2.1.length + (feed b).2.2 = b.length ∧ ∀ p ∈ (feed b).1, okPk p := by
  have key : ∀ (n : Nat) (b : List UInt8), b.length ≤ n → ((feed b).1.map packLen).sum + (feed b).2.1.length + (feed b).2.2 = b.length ∧ ∀ p ∈ (feed b).1, okPk p := by
    intro n
    induction n with
    | zero => intro b hb; rw [feed_done (stepB_nil (b := b) (by omega))]; exact ⟨by simp, fun p hp => by cases hp⟩
    | succ n ih =>
      intro b hb
      cases hs : stepB b with
      | done => rw [feed_done hs]; exact ⟨by simp, fun p hp => by cases hp⟩
      | drop =>
        rw [feed_drop hs]
        have h0 : 0 < b.length := by
          rcases Nat.eq_zero_or_pos b.length with h0 | h0
          · rw [stepB_nil h0] at hs; cases hs
          · exact h0
        have := ih b.tail (by rw [List.length_tail]; omega)
        rw [List.length_tail] at this
        exact ⟨by dsimp only; omega, this.2⟩
      | take p k =>
        rw [feed_take hs]
        obtain ⟨k8, kl, _, _, _, hu⟩ := stepB_take hs
        have := ih (b.drop k) (by rw [List.length_drop]; omega)
        rw [List.length_drop] at this
        obtain ⟨he, hok⟩ := unp_enc hu
        have hlen : packLen p = k := by
          unfold packLen
          rw [← he, List.length_take]
          omega
        refine ⟨?_, fun q hq => ?_⟩
        · simp only [List.map_cons, List.sum_cons, hlen]
          omega
        · rcases List.mem_cons.1 hq with rfl | hq
          · exact hok
          · exact this.2 q hq
  exact key b.length b (Nat.le_refl _)
end Go.Proofs.Ytjhkfpemcplaaaa
