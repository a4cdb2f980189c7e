/-
  Merged: Back, Cuts, Finds, FeedW, Pks, RfeedW.
-/
import Derived.Test.YtjhkfpemcplaaaaPt
import Derived.Test.YtjhkfpemcplaaaaPu
import Derived.WalkMore
import Derived.StillTailTactics
import Derived.IntWalk
namespace Go.Proofs.Ytjhkfpemcplaaaa
open Go.RowKit

theorem u8_toNat_ofNat {n : Nat} (h : n < 256) : (UInt8.ofNat n).toNat = n := by simp [UInt8.toNat_ofNat']; omega
theorem cntS_dec (f : Nat) : ∀ (i n v : Nat) (rest : List UInt8), f + 1 + i = 10 → v < 2 * 128 ^ f → (0 < i → 0 < v) → cntS (f + 1) i n (encF f v ++ rest) false = (n + v * 2 ^ (7 * i), rest, false) := by
  induction f with
  | zero =>
    intro i n v rest hi hv h0
    have : i = 9 := by omega
    subst this
    have hv2 : v < 2 := by simpa using hv
    have h0 := h0 (by omega)
    obtain rfl : v = 1 := by omega
    simp [encF, cntS, byteV]
  | succ f ih =>
    intro i n v rest hi hv h0
    rw [encF_succ]
    by_cases hs : v < 128
    · rw [if_pos hs]
      have e : byteV (UInt8.ofNat v :: rest) = v := u8_toNat_ofNat (by omega)
      have h9 : (i == 9) = false := by simp; omega
      have hz : (decide (0 < i) && (v == 0)) = false := by
        by_cases hp : 0 < i
        · have := h0 hp; simp; omega
        · simp [hp]
      rw [List.singleton_append, cntS_end (by rw [e, h9, hz]; rfl) (by rw [e]; exact hs), e, Nat.mod_eq_of_lt hs]
      rfl
    · rw [if_neg hs]
      have e : byteV (UInt8.ofNat (v % 128 + 128) :: (encF f (v / 128) ++ rest)) = v % 128 + 128 := u8_toNat_ofNat (by omega)
      have h9 : (i == 9) = false := by simp; omega
      have hz : (decide (0 < i) && (v % 128 + 128 == 0)) = false := by simp
      rw [List.cons_append, cntS_on (by rw [e, h9, hz]; rfl) (by rw [e]; omega), e]
      have hd : v / 128 < 2 * 128 ^ f := by
        rw [Nat.pow_succ] at hv
        exact Nat.div_lt_of_lt_mul (by omega)
      show cntS (f + 1) (i + 1) _ (encF f (v / 128) ++ rest) false = _
      rw [ih (i + 1) _ (v / 128) rest (by omega) hd (fun _ => by omega), pow7_succ]
      have h1 : (v % 128 + 128) % 128 = v % 128 := by omega
      have h2 : v = v % 128 + 128 * (v / 128) := by omega
      rw [h1]
      congr 1
      conv => rhs; rw [h2, Nat.add_mul]
      rw [Nat.add_assoc, Nat.mul_assoc 128, Nat.mul_left_comm 128]
theorem cnt_dec {v : Nat} (rest : List UInt8) (h : v < 18446744073709551616) : cnt (enc v ++ rest) false = (v, rest, false) := by
  have := cntS_dec 9 0 0 v rest rfl (by omega) (fun h => by omega)
  simpa [cnt, enc] using this
theorem unzig_zig {z : Int} : unzig (zig z) = z := by
  unfold zig
  split
  · unfold unzig; rw [if_pos (by omega)]; omega
  · unfold unzig; rw [if_neg (by omega)]; omega
theorem zig_lt' {z : Int} (h : I64 z) : zig z < 18446744073709551616 := zig_lt h
theorem valsD_dec (vs : List (Nat × Int)) : ∀ (rest : List UInt8), (∀ v ∈ vs, v.1 < 18446744073709551616 ∧ I64 v.2) → okV vs → valsD vs.length (vs.flatMap valB ++ rest) false = (vs, rest, false) := by
  induction vs with
  | nil => intro rest _ _; rfl
  | cons v l ih =>
    intro rest h hok
    obtain ⟨hv1, hv2⟩ := h v (by simp)
    have ho := hok v (by simp)
    have hrec := ih rest (fun y hy => h y (by simp [hy])) (fun y hy => hok y (by simp [hy]))
    have e : ((v :: l).flatMap valB ++ rest) = enc v.1 ++ ((if v.1 = 0 then enc (zig v.2) else []) ++ (l.flatMap valB ++ rest)) := by simp [valB]
    have hv : valD ((v :: l).flatMap valB ++ rest) false = (v, l.flatMap valB ++ rest, false) := by
      obtain ⟨h1, h2⟩ := v
      dsimp only at e ho hv1 hv2
      rw [e]
      unfold valD
      rw [cnt_dec _ hv1]
      dsimp only
      by_cases h0 : h1 = 0
      · subst h0
        rw [if_pos rfl, if_pos rfl, cnt_dec _ (zig_lt' hv2)]
        dsimp only
        rw [unzig_zig]
      · rw [if_neg h0, if_neg h0]
        have : h2 = 0 := by rcases ho with h | h <;> first | exact absurd h h0 | exact h
        subst this
        rfl
    rw [List.length_cons, valsD, if_neg (by decide), hv]
    dsimp only
    rw [hrec]
theorem txtP_dec (t : List UInt8) (h : t.length ≤ 512) : txtP (enc t.length ++ t) false = (t, [], false) := by
  unfold txtP
  rw [cnt_dec _ (by omega)]
  dsimp only
  rw [if_neg (by omega), if_pos (Nat.le_refl _)]
  simp
/-- a reply that may be is read as it was written -/
theorem rep_dec (err : Int) (vs : List (Nat × Int)) (text : List UInt8) (he : I64 err) (hv : ∀ v ∈ vs, v.1 < 18446744073709551616 ∧ I64 v.2) (hg : goodR err vs text) :
    unzig (cnt (replyB err vs text) false).1 = err ∧ (repV (replyB err vs text)).1 = vs ∧ repT (replyB err vs text) = (text, [], false) := by
  obtain ⟨h32, h512, hok, _⟩ := hg
  have e : replyB err vs text = enc (zig err) ++ (UInt8.ofNat vs.length :: (vs.flatMap valB ++ (enc text.length ++ text))) := by simp [replyB]
  have eC : cnt (replyB err vs text) false = (zig err, UInt8.ofNat vs.length :: (vs.flatMap valB ++ (enc text.length ++ text)), false) := by
    rw [e]
    exact cnt_dec _ (zig_lt' he)
  have eV : repV (replyB err vs text) = (vs, enc text.length ++ text, false) := by
    unfold repV
    rw [eC]
    dsimp only
    have : byteV (UInt8.ofNat vs.length :: (vs.flatMap valB ++ (enc text.length ++ text))) = vs.length := u8_toNat_ofNat (by omega)
    rw [this]
    exact valsD_dec vs _ hv hok
  refine ⟨by rw [eC]; exact unzig_zig, by rw [eV], ?_⟩
  unfold repT
  rw [eV]
  exact txtP_dec text h512

theorem le4_len (s : Nat) : (le4 s).length = 4 := rfl
theorem head_len (m : Nat) : (headB m).length = 4 := rfl
theorem frame_len (inner : List UInt8) : (frameB inner).length = inner.length + 8 := by simp [frameB, le4_len, head_len]; omega
theorem inner_len (k : Int) (t s a : Nat) (body : List UInt8) (h : body.length ≤ 1024) : 4 ≤ (innerB k t s a body).length ∧ (innerB k t s a body).length ≤ 1080 := by
  have h1 := enc_pos t
  have h2 := enc_pos s
  have h3 := enc_pos a
  have g1 := enc_le t
  have g2 := enc_le s
  have g3 := enc_le a
  unfold innerB
  simp only [List.length_cons, List.length_append]
  omega
theorem frame_take (inner : List UInt8) : (frameB inner).take ((frameB inner).length - 4) = headB inner.length ++ inner := by
  have : (frameB inner).length - 4 = (headB inner.length ++ inner).length := by rw [frame_len, List.length_append, head_len]; omega
  rw [this]
  unfold frameB
  exact List.take_left
theorem frame_drop (inner : List UInt8) : (frameB inner).drop ((frameB inner).length - 4) = le4 (crc (headB inner.length ++ inner)) := by
  have : (frameB inner).length - 4 = (headB inner.length ++ inner).length := by rw [frame_len, List.length_append, head_len]; omega
  rw [this]
  unfold frameB
  exact List.drop_left
theorem frame_head (inner : List UInt8) (h : inner.length < 65536) : (frameB inner).getD 0 0 = 239 ∧ (frameB inner).getD 1 0 = 30 ∧ lenOf (frameB inner) = inner.length := by
  have e : frameB inner = 239 :: 30 :: UInt8.ofNat inner.length :: UInt8.ofNat (inner.length / 256) :: (inner ++ le4 (crc (headB inner.length ++ inner))) := by simp [frameB, headB]
  refine ⟨by rw [e]; rfl, by rw [e]; rfl, ?_⟩
  unfold lenOf
  rw [e]
  show (UInt8.ofNat inner.length).toNat + 256 * (UInt8.ofNat (inner.length / 256)).toNat = _
  rw [u8_toNat_ofNat (n := inner.length / 256) (by omega), UInt8.toNat_ofNat']
  omega
theorem frame_mid (inner : List UInt8) : midB (frameB inner) = inner := by
  unfold midB
  rw [frame_take]
  rfl
/-- a packet that may be is read as it was written -/
theorem unp_dec (k : Int) (t s a : Nat) (body : List UInt8) (ht : t < 18446744073709551616) (hs : s < 18446744073709551616) (ha : a < 18446744073709551616) (hm : mayB k body.length = true) :
    unp (packB k t s a body) = (0, ⟨k.toNat, t, s, a, body⟩) := by
  obtain ⟨k1, k7, hb⟩ := mayB_no hm
  obtain ⟨i4, i1080⟩ := inner_len k t s a body hb
  have hp : parse (innerB k t s a body) = (⟨k.toNat, t, s, a, body⟩, false) := by
    have e : innerB k t s a body = UInt8.ofNat k.toNat :: (enc t ++ (enc s ++ (enc a ++ body))) := by simp [innerB]
    rw [e]
    unfold parse
    simp only [List.tail_cons, List.isEmpty_cons]
    rw [cnt_dec _ ht]
    dsimp only
    rw [cnt_dec _ hs]
    dsimp only
    rw [cnt_dec _ ha]
    have : byteV (UInt8.ofNat k.toNat :: (enc t ++ (enc s ++ (enc a ++ body)))) = k.toNat := u8_toNat_ofNat (by omega)
    rw [this]
  unfold packB unp
  obtain ⟨f0, f1, f2⟩ := frame_head (innerB k t s a body) (by omega)
  rw [if_neg (by
    rw [frame_len, f0, f1, f2]
    rintro (h | h | h | h)
    · omega
    · exact h rfl
    · exact h rfl
    · exact h rfl)]
  rw [if_neg (by rw [frame_drop, frame_take]; exact fun h => h rfl), frame_mid, hp]
  have hk : ((k.toNat : Nat) : Int) = k := by omega
  rw [if_neg (by
    dsimp only
    rw [hk, hm]
    rintro (h | h) <;> cases h)]
end Go.Proofs.Ytjhkfpemcplaaaa
namespace Go.Proofs.Ytjhkfpemcplaaaa
open Go.RowKit

theorem getD_app {x y : List UInt8} {k : Nat} (h : k < x.length) : (x ++ y).getD k 0 = x.getD k 0 := by
  rw [List.getD, List.getElem?_append_left h, List.getD]
theorem lenOf_app {x y : List UInt8} (h : 4 ≤ x.length) : lenOf (x ++ y) = lenOf x := by
  unfold lenOf
  rw [getD_app (by omega), getD_app (by omega)]
theorem stepB_head' {b : List UInt8} (h0 : ¬ b.length = 0) (h : b.getD 0 0 ≠ 239 ∨ (1 < b.length ∧ b.getD 1 0 ≠ 30)) : stepB b = .drop := by unfold stepB; rw [if_neg h0, if_pos h]
theorem stepB_drop_app {x : List UInt8} (y : List UInt8) (h : stepB x = .drop) : stepB (x ++ y) = .drop := by
  unfold stepB at h
  split at h
  · cases h
  · rename_i h0
    split at h
    · rename_i h1
      refine stepB_head' (by rw [List.length_append]; omega) ?_
      rcases h1 with h1 | ⟨h1, h2⟩
      · exact .inl (by rw [getD_app (by omega)]; exact h1)
      · exact .inr ⟨by rw [List.length_append]; omega, by rw [getD_app h1]; exact h2⟩
    · rename_i h1
      split at h
      · cases h
      · rename_i h4
        have e0 : (x ++ y).getD 0 0 = x.getD 0 0 := getD_app (by omega)
        have e1 : (x ++ y).getD 1 0 = x.getD 1 0 := getD_app (by omega)
        have eL : lenOf (x ++ y) = lenOf x := lenOf_app (by omega)
        have hh : ¬ ((x ++ y).getD 0 0 ≠ 239 ∨ (1 < (x ++ y).length ∧ (x ++ y).getD 1 0 ≠ 30)) := by
          rw [e0, e1]
          rintro (q | ⟨_, q⟩)
          · exact h1 (.inl q)
          · exact h1 (.inr ⟨by omega, q⟩)
        unfold stepB
        rw [if_neg (by rw [List.length_append]; omega), if_neg hh, if_neg (by rw [List.length_append]; omega), eL]
        split at h
        · rename_i h5
          rw [if_pos h5]
        · rename_i h5
          rw [if_neg h5]
          split at h
          · cases h
          · rename_i h6
            rw [if_neg (by rw [List.length_append]; omega), List.take_append_of_le_length (by omega)]
            split at h
            · cases h
            · rename_i h7
              rw [if_neg h7]
theorem stepB_take_app {x : List UInt8} (y : List UInt8) {p : Pk} {k : Nat} (h : stepB x = .take p k) : stepB (x ++ y) = .take p k := by
  obtain ⟨k8, kl, k1088, hk, h4, hu⟩ := stepB_take h
  unfold stepB at h
  split at h
  · cases h
  · rename_i h0
    split at h
    · cases h
    · rename_i h1
      have e0 : (x ++ y).getD 0 0 = x.getD 0 0 := getD_app (by omega)
      have e1 : (x ++ y).getD 1 0 = x.getD 1 0 := getD_app (by omega)
      have eL : lenOf (x ++ y) = lenOf x := lenOf_app (by omega)
      have hh : ¬ ((x ++ y).getD 0 0 ≠ 239 ∨ (1 < (x ++ y).length ∧ (x ++ y).getD 1 0 ≠ 30)) := by
        rw [e0, e1]
        rintro (q | ⟨_, q⟩)
        · exact h1 (.inl q)
        · exact h1 (.inr ⟨by omega, q⟩)
      unfold stepB
      rw [if_neg (by rw [List.length_append]; omega), if_neg hh, if_neg (by rw [List.length_append]; omega), eL, if_neg (by omega), if_neg (by rw [List.length_append]; omega), List.take_append_of_le_length (by omega), ← hk, hu, if_pos rfl]
/-- bytes in two chunks -/
theorem feed_app : ∀ (n : Nat) (x y : List UInt8), x.length ≤ n → feed (x ++ y) = ((feed x).1 ++ (feed ((feed x).2.1 ++ y)).1, (feed ((feed x).2.1 ++ y)).2.1, (feed x).2.2 + (feed ((feed x).2.1 ++ y)).2.2) := by
  intro n
  induction n with
  | zero =>
    intro x y hx
    rw [feed_done (stepB_nil (b := x) (by omega))]
    simp
  | succ n ih =>
    intro x y hx
    cases hs : stepB x with
    | done => rw [feed_done hs]; simp
    | drop =>
      have h0 : 0 < x.length := by
        rcases Nat.eq_zero_or_pos x.length with h0 | h0
        · rw [stepB_nil h0] at hs; cases hs
        · exact h0
      have e : (x ++ y).tail = x.tail ++ y := by
        cases x with
        | nil => simp at h0
        | cons a l => rfl
      rw [feed_drop (stepB_drop_app y hs), feed_drop hs, e, ih x.tail y (by rw [List.length_tail]; omega)]
      simp only [Prod.mk.injEq, true_and]
      omega
    | take p k =>
      have hk := stepB_take hs
      have e : (x ++ y).drop k = x.drop k ++ y := List.drop_append_of_le_length (by omega)
      rw [feed_take (stepB_take_app y hs), feed_take hs, e, ih (x.drop k) y (by rw [List.length_drop]; omega)]
      simp
theorem feed_cut (x y : List UInt8) : feed (x ++ y) = ((feed x).1 ++ (feed ((feed x).2.1 ++ y)).1, (feed ((feed x).2.1 ++ y)).2.1, (feed x).2.2 + (feed ((feed x).2.1 ++ y)).2.2) := feed_app x.length x y (Nat.le_refl _)
theorem done_lt {b : List UInt8} (h : stepB b = .done) : b.length < 1088 := by
  unfold stepB at h
  split at h
  · omega
  · split at h
    · cases h
    · split at h
      · omega
      · split at h
        · cases h
        · split at h
          · omega
          · split at h <;> cases h
theorem feed_kept (b : List UInt8) : stepB (feed b).2.1 = .done := by
  have key : ∀ (n : Nat) (b : List UInt8), b.length ≤ n → stepB (feed b).2.1 = .done := by
    intro n
    induction n with
    | zero =>
      intro b hb
      rw [feed_done (stepB_nil (b := b) (by omega))]
      exact stepB_nil (b := b) (by omega)
    | succ n ih =>
      intro b hb
      cases hs : stepB b with
      | done => rw [feed_done hs]; exact hs
      | drop =>
        rw [feed_drop hs]
        have h0 : 0 < b.length := by
          rcases Nat.eq_zero_or_pos b.length with h0 | h0
          · rw [stepB_nil h0] at hs; cases hs
          · exact h0
        exact ih b.tail (by rw [List.length_tail]; omega)
      | take p k =>
        rw [feed_take hs]
        have hk := stepB_take hs
        exact ih (b.drop k) (by rw [List.length_drop]; omega)
  exact key b.length b (Nat.le_refl _)
theorem feed_lt (b : List UInt8) : (feed b).2.1.length < 1088 := done_lt (feed_kept b)

/-- a frame that was taken is what its packet is written as -/
theorem parse_enc {l : List UInt8} {p : Pk} (h : parse l = (p, false)) : l = innerB p.kind p.tok p.seq p.ack p.body ∧ p.tok < 18446744073709551616 ∧ p.seq < 18446744073709551616 ∧ p.ack < 18446744073709551616 := by
  unfold parse at h
  obtain ⟨⟨m1, l1, b1⟩, h1⟩ : ∃ r, cnt l.tail l.isEmpty = r := ⟨_, rfl⟩
  obtain ⟨⟨m2, l2, b2⟩, h2⟩ : ∃ r, cnt l1 b1 = r := ⟨_, rfl⟩
  obtain ⟨⟨m3, l3, b3⟩, h3⟩ : ∃ r, cnt l2 b2 = r := ⟨_, rfl⟩
  have t1 := cnt_lt l.tail l.isEmpty
  have t2 := cnt_lt l1 b1
  have t3 := cnt_lt l2 b2
  rw [h1] at t1
  rw [h2] at t2
  rw [h3] at t3
  simp only [h1, h2, h3, Prod.mk.injEq] at h
  obtain ⟨rfl, rfl⟩ := h
  obtain ⟨rfl, e3⟩ := cnt_enc h3
  obtain ⟨rfl, e2⟩ := cnt_enc h2
  obtain ⟨he, e1⟩ := cnt_enc h1
  refine ⟨?_, t1, t2, t3⟩
  have e0 := byteV_cons he
  rw [e1, e2, e3] at e0
  unfold innerB
  dsimp only
  generalize byteV l = q at e0 ⊢
  rw [e0]
  simp
theorem list8 {l : List UInt8} (h : 8 ≤ l.length) : l = [l.getD 0 0, l.getD 1 0, l.getD 2 0, l.getD 3 0] ++ midB l ++ l.drop (l.length - 4) := by
  match l, h with
  | a :: b :: c :: d :: r, h =>
    have e : midB (a :: b :: c :: d :: r) = r.take (r.length - 4) := by
      unfold midB
      rw [show (a :: b :: c :: d :: r).length - 4 = (r.length - 4) + 4 from by simp at h ⊢; omega]
      simp
    have e2 : (a :: b :: c :: d :: r).drop ((a :: b :: c :: d :: r).length - 4) = r.drop (r.length - 4) := by
      rw [show (a :: b :: c :: d :: r).length - 4 = (r.length - 4) + 4 from by simp at h ⊢; omega]
      simp
    rw [e, e2]
    simp
theorem unp_enc {f : List UInt8} {p : Pk} (h : unp f = (0, p)) : f = packB p.kind p.tok p.seq p.ack p.body ∧ mayB p.kind p.body.length = true ∧ p.tok < 18446744073709551616 ∧ p.seq < 18446744073709551616 ∧ p.ack < 18446744073709551616 := by
  unfold unp at h
  split at h
  · cases h
  · rename_i h1
    split at h
    · cases h
    · rename_i h2
      split at h
      · cases h
      · rename_i h3
        injection h with _ h
        have h8 : 8 ≤ f.length := by
          by_cases q : f.length < 8
          · exact absurd (.inl q) h1
          · omega
        have g0 : f.getD 0 0 = 239 := Classical.not_not.1 fun q => h1 (.inr (.inl q))
        have g1 : f.getD 1 0 = 30 := Classical.not_not.1 fun q => h1 (.inr (.inr (.inl q)))
        have g2 : f.length = lenOf f + 8 := Classical.not_not.1 fun q => h1 (.inr (.inr (.inr q)))
        have g3 : f.drop (f.length - 4) = le4 (crc (f.take (f.length - 4))) := Classical.not_not.1 h2
        have hb : (parse (midB f)).2 = false := by
          cases q : (parse (midB f)).2
          · rfl
          · exact absurd (.inl q) h3
        have hm : mayB (parse (midB f)).1.kind (parse (midB f)).1.body.length = true := by
          cases q : mayB (parse (midB f)).1.kind (parse (midB f)).1.body.length
          · exact absurd (.inr q) h3
          · rfl
        have hp : parse (midB f) = (p, false) := by rw [← h, ← hb]
        obtain ⟨e, t1, t2, t3⟩ := parse_enc hp
        rw [h] at hm
        refine ⟨?_, hm, t1, t2, t3⟩
        have hml : (midB f).length = f.length - 8 := by
          unfold midB
          rw [List.length_drop, List.length_take]
          omega
        have e8 := list8 h8
        have hd : headB (midB f).length = [f.getD 0 0, f.getD 1 0, f.getD 2 0, f.getD 3 0] := by
          have b2 := u8_lt (f.getD 2 0)
          have b3 := u8_lt (f.getD 3 0)
          have hL : (midB f).length = (f.getD 2 0).toNat + 256 * (f.getD 3 0).toNat := by
            rw [hml, g2]
            show lenOf f + 8 - 8 = lenOf f
            omega
          unfold headB
          rw [g0, g1, hL]
          have c2 : UInt8.ofNat ((f.getD 2 0).toNat + 256 * (f.getD 3 0).toNat) = f.getD 2 0 := by
            apply UInt8.toNat_inj.1
            rw [UInt8.toNat_ofNat']
            omega
          have c3 : UInt8.ofNat (((f.getD 2 0).toNat + 256 * (f.getD 3 0).toNat) / 256) = f.getD 3 0 := by
            apply UInt8.toNat_inj.1
            rw [UInt8.toNat_ofNat']
            omega
          rw [c2, c3]
        have ht : f.take (f.length - 4) = headB (midB f).length ++ midB f := by
          have : (f.take (f.length - 4)) ++ f.drop (f.length - 4) = (headB (midB f).length ++ midB f) ++ f.drop (f.length - 4) := by
            rw [List.take_append_drop, hd]
            exact e8
          exact List.append_cancel_right this
        unfold packB frameB
        rw [← e]
        rw [ht] at g3
        rw [← g3, ← ht, List.take_append_drop]
def packLen (p : Pk) : Nat := (packB p.kind p.tok p.seq p.ack p.body).length
def okPk (p : Pk) : Prop := mayB p.kind p.body.length = true ∧ p.tok < 18446744073709551616 ∧ p.seq < 18446744073709551616 ∧ p.ack < 18446744073709551616
theorem feed_all (b : List UInt8) : ((feed b).1.map packLen).sum + (feed b).2.1.length + (feed b).2.2 = b.length ∧ ∀ p ∈ (feed b).1, okPk p := by
  have key : ∀ (n : Nat) (b : List UInt8), b.length ≤ n → ((feed b).1.map packLen).sum + (feed b).2.1.length + (feed b).2.2 = b.length ∧ ∀ p ∈ (feed b).1, okPk p := by
    intro n
    induction n with
    | zero => intro b hb; rw [feed_done (stepB_nil (b := b) (by omega))]; exact ⟨by simp, fun p hp => by cases hp⟩
    | succ n ih =>
      intro b hb
      cases hs : stepB b with
      | done => rw [feed_done hs]; exact ⟨by simp, fun p hp => by cases hp⟩
      | drop =>
        rw [feed_drop hs]
        have h0 : 0 < b.length := by
          rcases Nat.eq_zero_or_pos b.length with h0 | h0
          · rw [stepB_nil h0] at hs; cases hs
          · exact h0
        have := ih b.tail (by rw [List.length_tail]; omega)
        rw [List.length_tail] at this
        exact ⟨by dsimp only; omega, this.2⟩
      | take p k =>
        rw [feed_take hs]
        obtain ⟨k8, kl, _, _, _, hu⟩ := stepB_take hs
        have := ih (b.drop k) (by rw [List.length_drop]; omega)
        rw [List.length_drop] at this
        obtain ⟨he, hok⟩ := unp_enc hu
        have hlen : packLen p = k := by
          unfold packLen
          rw [← he, List.length_take]
          omega
        refine ⟨?_, fun q hq => ?_⟩
        · simp only [List.map_cons, List.sum_cons, hlen]
          omega
        · rcases List.mem_cons.1 hq with rfl | hq
          · exact hok
          · exact this.2 q hq
  exact key b.length b (Nat.le_refl _)
end Go.Proofs.Ytjhkfpemcplaaaa
namespace Go.Proofs.Ytjhkfpemcplaaaa
open Go.RowKit

theorem feed_nil : feed [] = ([], [], 0) := rfl
theorem feed_quiet : ∀ (q : List UInt8), (∀ y ∈ q, y ≠ 239) → feed q = ([], [], q.length) := by
  intro q
  induction q with
  | nil => intro _; exact feed_done (stepB_nil rfl)
  | cons a q ih =>
    intro h
    have hs : stepB (a :: q) = .drop := stepB_head' (by simp) (.inl (h a (List.mem_cons_self ..)))
    rw [feed_drop hs, List.tail_cons, ih fun y hy => h y (List.mem_cons_of_mem _ hy)]
    rfl
/-- the frame of a packet that may be -/
def frm (p : Pk) : List UInt8 := packB p.kind p.tok p.seq p.ack p.body
theorem step_frame {p : Pk} (h : okPk p) : stepB (frm p) = .take p (frm p).length := by
  obtain ⟨hm, h1, h2, h3⟩ := h
  have hb := (mayB_no hm).2.2
  obtain ⟨i4, i1080⟩ := inner_len p.kind p.tok p.seq p.ack p.body hb
  obtain ⟨f0, f1, f2⟩ := frame_head (innerB p.kind p.tok p.seq p.ack p.body) (by omega)
  have hl := frame_len (innerB p.kind p.tok p.seq p.ack p.body)
  have hu := unp_dec p.kind p.tok p.seq p.ack p.body h1 h2 h3 hm
  have e : (frm p).take (lenOf (frm p) + 8) = frm p := by
    unfold frm packB
    rw [f2, ← hl]
    exact List.take_length
  have hlen : lenOf (frm p) + 8 = (frm p).length := by
    unfold frm packB
    rw [f2, hl]
  have hk : ((p.kind : Nat) : Int).toNat = p.kind := Int.toNat_natCast _
  unfold stepB
  rw [e, hlen]
  have hu' : unp (frm p) = (0, p) := by
    unfold frm
    rw [hu, hk]
  rw [hu', if_neg (by unfold frm packB; rw [hl]; omega), if_neg (by unfold frm packB; rw [f0, f1]; simp), if_neg (by unfold frm packB; rw [hl]; omega), if_neg (by unfold frm packB; rw [f2]; omega), if_neg (by omega), if_pos rfl]
theorem feed_frame {p : Pk} (h : okPk p) : feed (frm p) = ([p], [], 0) := by
  rw [feed_take (step_frame h), List.drop_length, feed_nil]
/-- quiet bytes and a frame behind what left nothing waiting -/
theorem feed_round {x q : List UInt8} {p : Pk} (hx : (feed x).2.1 = []) (hq : ∀ y ∈ q, y ≠ 239) (h : okPk p) : feed (x ++ q ++ frm p) = ((feed x).1 ++ [p], [], (feed x).2.2 + q.length) := by
  have h1 : feed (x ++ q) = ((feed x).1, [], (feed x).2.2 + q.length) := by
    rw [feed_cut x q, hx, List.nil_append, feed_quiet q hq]
    simp
  rw [feed_cut (x ++ q), h1]
  simp only [List.nil_append, feed_frame h]
  simp
theorem feed_some {p : Pk} (h : okPk p) {Z : List UInt8} (hZ : 1088 ≤ Z.length) : ∀ k : List UInt8, (feed (k ++ (frm p ++ Z))).1 ≠ [] := by
  intro k
  induction k with
  | nil =>
    rw [List.nil_append, feed_take (stepB_take_app Z (step_frame h))]
    simp
  | cons a k ih =>
    cases hs : stepB (a :: k ++ (frm p ++ Z)) with
    | done =>
      have := done_lt hs
      simp only [List.length_append, List.length_cons] at this
      omega
    | drop =>
      rw [feed_drop hs]
      exact ih
    | take p' n =>
      rw [feed_take hs]
      simp
theorem sum_pos {l : List Pk} (h : l ≠ []) : 0 < (l.map packLen).sum := by
  cases l with
  | nil => exact absurd rfl h
  | cons p l =>
    have : 1 ≤ packLen p := by unfold packLen packB; rw [frame_len]; omega
    simp only [List.map_cons, List.sum_cons]
    omega
theorem finds_more {p : Pk} (h : okPk p) {x Z : List UInt8} (hZ : 1088 ≤ Z.length) : ((feed x).1.map packLen).sum < ((feed (x ++ frm p ++ Z)).1.map packLen).sum := by
  rw [List.append_assoc, feed_cut x (frm p ++ Z)]
  have := sum_pos (feed_some h hZ (feed x).2.1)
  simp only [List.map_append, List.sum_append]
  omega
end Go.Proofs.Ytjhkfpemcplaaaa
namespace Go.Proofs.Ytjhkfpemcplaaaa
open Go.RowKit

/-- as w, but for block g, the block of K and what is new -/
def Grown2 (w w' : World) (g : Nat) (K : Value) : Prop := w'.os = w.os ∧ w'.tape = w.tape ∧ w'.output = w.output ∧ w.heap.size ≤ w'.heap.size ∧ ∀ k, k < w.heap.size → k ≠ g → K.ownBlock ≠ some k → w'.heap[k]? = w.heap[k]?
def FeedPost (w : World) (g : Nat) (K : Value) (d : Int) (r : List Pk × List UInt8 × Nat) (e : Ending) (w' : World) : Prop :=
  ∃ V qs K', e = .returned V ∧ qs.map (·.1) = r.1 ∧ PkRow w' w.heap.size V qs ∧ Blk w' g 136 #[.bool true, K', .int .i64 (d + (r.2.2 : Nat))] ∧ OwnB 5 w' w.heap.size K' r.2.1 ∧ Grown2 w w' g K
/-- the same, and where what is kept lies: behind the bodies -/
def FeedPostS (w : World) (g : Nat) (K : Value) (d : Int) (r : List Pk × List UInt8 × Nat) (e : Ending) (w' : World) : Prop :=
  ∃ V qs K' M, e = .returned V ∧ qs.map (·.1) = r.1 ∧ PkRow w' w.heap.size V qs ∧ Blk w' g 136 #[.bool true, K', .int .i64 (d + (r.2.2 : Nat))] ∧ OwnB 5 w' M K' r.2.1 ∧ w.heap.size ≤ M ∧ M ≤ w'.heap.size ∧
    (∀ q ∈ qs, ∀ k, (Value.slice q.2.1 q.1.body.length q.2.2).ownBlock = some k → k < M) ∧ Grown2 w w' g K
theorem rd_keep {w wr : World} {B g n : Nat} {A : Option Addr} {b : List UInt8} (hr : RdB w B A n b) (hne : ∀ ad, A = some ad → ad.block ≠ g) (hB : B ≤ w.heap.size) (hg : w.grownBy wr (some g)) : RdB wr wr.heap.size A n b := by
  refine ⟨hr.1, fun hn => ?_⟩
  obtain ⟨ad, e, hlt, hc⟩ := hr.2 hn
  have hs := hg.size
  exact ⟨ad, e, by omega, fun j u hu => by rw [← hc j u hu]; exact World.cell?_of_block (hg.block _ (by rw [block_of_add]; omega) (fun h => hne ad e (by injection h with h; rw [← h, block_of_add])))⟩
theorem grown_two {a b c : World} {row : Option Nat} (h : a.grownBy b row) (k : b.grownBy c none) : a.grownBy c row :=
  ⟨k.os.trans h.os, k.tape.trans h.tape, k.output.trans h.output, Nat.le_trans h.size k.size, fun i hi hr => (k.block i (Nat.lt_of_lt_of_le hi h.size) (by simp)).trans (h.block i hi hr)⟩
theorem own_base {w : World} {base base' : Nat} {e : TypeId} {size n : Nat} {v : Value} {xs : List Value} (h : w.ownsRow base e size v n xs) (hb : base' ≤ base) : w.ownsRow base' e size v n xs := by
  refine ⟨h.1, ?_⟩
  rcases h.2 with h | ⟨g, cap, cur, h1, h2, h3⟩
  · exact .inl h
  · exact .inr ⟨g, cap, cur, h1, by omega, h3⟩
theorem PkRow.base {w : World} {base base' : Nat} {V : Value} {qs : List (Pk × Option Addr × Nat)} (h : PkRow w base V qs) (hb : base' ≤ base) : PkRow w base' V qs := ⟨own_base h.1 hb, fun q hq => own_base (h.2 q hq) hb⟩

/-- between two jumps: w1 the world behind the append, b what is left, qs what is told, m how many were dropped -/
def LK (w1 : World) (g : Nat) (K : Value) (d : Int) (all : List UInt8) (Ab : Option Addr) (cb : Nat) (qs : List (Pk × Option Addr × Nat)) (m : Nat) (b : List UInt8) (V : Value) (wr : World) : Prop :=
  b.length ≤ cb ∧ RdB w1 w1.heap.size Ab b.length b ∧ (∀ ad, Ab = some ad → ad.block ≠ g) ∧ w1.grownBy wr (some g) ∧ Blk wr g 136 #[.bool true, K, .int .i64 (d + (m : Nat))] ∧ PkRow wr w1.heap.size V qs ∧
    feed all = (qs.map (·.1) ++ (feed b).1, (feed b).2.1, m + (feed b).2.2) ∧ 8 * qs.length + b.length + m ≤ all.length
section
variable {w1 wr w' : World} {g : Nat} {K V : Value} {d : Int} {all b : List UInt8} {Ab : Option Addr} {cb m : Nat} {qs : List (Pk × Option Addr × Nat)}
theorem LK.rd (h : LK w1 g K d all Ab cb qs m b V wr) : RdB wr wr.heap.size Ab b.length b := rd_keep h.2.1 h.2.2.1 (Nat.le_refl _) h.2.2.2.1
theorem LK.grown0 (h : LK w1 g K d all Ab cb qs m b V wr) (hg : wr.grownBy w' none) : LK w1 g K d all Ab cb qs m b V w' :=
  ⟨h.1, h.2.1, h.2.2.1, grown_two h.2.2.2.1 hg, h.2.2.2.2.1.grown hg (by simp), h.2.2.2.2.2.1.kept hg, h.2.2.2.2.2.2⟩
theorem LK.drewN (h : LK w1 g K d all Ab cb qs m b V wr) (k : Nat) : LK w1 g K d all Ab cb qs m b V (wr.drewN k) := h.grown0 (only_drewN (World.grownBy.refl wr none) k)
theorem cut_ne {k : Nat} (h : ∀ ad, Ab = some ad → ad.block ≠ g) : ∀ ad, (if cb = k then Ab else Ab.map (·.add k)) = some ad → ad.block ≠ g := by
  intro ad e
  split at e
  · exact h ad e
  · cases Ab with
    | none => cases e
    | some a =>
      simp only [Option.map_some, Option.some.injEq] at e
      rw [← e, block_of_add]
      exact h a rfl
theorem cut_rd {w : World} {B n k : Nat} (h : RdB w B Ab n b) (hk : k ≤ n) (hc : n ≤ cb) : RdB w B (if cb = k then Ab else Ab.map (·.add k)) (n - k) (b.drop k) := by
  have := Reads.cut h (cap := cb) hk hc
  show Reads w B 1 _ _ ((b.drop k).map bv)
  rw [List.map_drop]
  simpa using this
/-- one byte dropped -/
theorem LK.dropped (h : LK w1 g K d all Ab cb qs m b V wr) (hs : stepB b = .drop) (A' : Option Addr) (c' : Nat) (v : Int) (hA : A' = if cb = 1 then Ab else Ab.map (·.add 1)) (hc : c' = cb - 1) (hv : v = d + (m : Int) + 1) :
    LK w1 g K d all A' c' qs (m + 1) b.tail V (wr.setCell ⟨g, 2, none⟩ (.int .i64 v)) := by
  subst hA hc hv
  obtain ⟨h1, h2, h3, h4, h5, h6, h7, h8⟩ := h
  have h0 : 0 < b.length := by
    rcases Nat.eq_zero_or_pos b.length with h0 | h0
    · rw [stepB_nil h0] at hs; cases hs
    · exact h0
  have hgc : wr.grownBy (wr.setCell ⟨g, 2, none⟩ (.int .i64 (d + (m : Int) + 1))) (some g) := only_setCell (p := ⟨g, 2, none⟩) (World.grownBy.refl wr (some g)) (.inl rfl) _
  have hset := h5.set_ 2 (.int .i64 (d + (m : Int) + 1))
  have hcut := cut_rd h2 (k := 1) (by omega) h1
  refine ⟨by rw [List.length_tail]; omega, by rw [List.length_tail, ← List.drop_one]; exact hcut, cut_ne h3, h4.trans hgc, ?_, h6.far h5 (by decide) (by decide) hgc, ?_, by rw [List.length_tail]; omega⟩
  · simp at hset
    rw [show d + ((m + 1 : Nat) : Int) = d + (m : Int) + 1 from by omega]
    exact hset
  · rw [h7, feed_drop hs]
    simp only [Prod.mk.injEq, true_and]
    omega
theorem LK.rd_app {w2 w3 : World} (h : LK w1 g K d all Ab cb qs m b V wr) (hg : wr.grownBy w2 none) (hg3 : w2.grownBy w3 V.ownBlock) : RdB w3 w3.heap.size Ab b.length b := by
  obtain ⟨h1, h2, h3, h4, h5, h6, h7, h8⟩ := h
  have hlt := (h6.kept hg).1.lt
  refine rd_keep h2 h3 (Nat.le_refl _) ?_
  have h42 := grown_two h4 hg
  refine ⟨hg3.os.trans h42.os, hg3.tape.trans h42.tape, hg3.output.trans h42.output, Nat.le_trans h42.size hg3.size, fun i hi hr => (hg3.block i (Nat.lt_of_lt_of_le hi h42.size) (fun e => ?_)).trans (h42.block i hi hr)⟩
  have := (hlt i e.symm).1
  omega
/-- the end -/
theorem LK.done {w2 : World} {A3 : Option Addr} {n3 c3 : Nat} (h : LK w1 g K d all Ab cb qs m b V wr) (ha : App (wr.alloc (.cells #[] 5)) (.slice (some ⟨wr.heap.size, 0, none⟩) 0 0) w2 (.slice A3 n3 c3)) :
    w1.grownBy w2 (some g) ∧ Blk w2 g 136 #[.bool true, K, .int .i64 (d + (m : Nat))] ∧ PkRow w2 w1.heap.size V qs := by
  have hs := h.2.2.2.1.size
  have hg : wr.grownBy w2 none := by
    have h1 := ha.1
    exact ⟨h1.os, h1.tape, h1.output, by have := h1.size; simp at this; omega, fun k hk _ => by
      rw [h1.block k (by simp; omega) (by simp [Value.ownBlock]; omega)]
      exact Below.heap_alloc wr _ k hk⟩
  have h2 := h.grown0 hg
  exact ⟨h2.2.2.2.1, h2.2.2.2.2.1, h2.2.2.2.2.2.1⟩
/-- a frame taken -/
theorem LK.taken {w2 w3 : World} {p : Pk} {k : Nat} (h : LK w1 g K d all Ab cb qs m b V wr) (hs : stepB b = .take p k) {A2 : Option Addr} {c2 : Nat} (hg : wr.grownBy w2 none) (hq : OwnB 5 w2 w1.heap.size (.slice A2 p.body.length c2) p.body)
    (hg3 : w2.grownBy w3 V.ownBlock) {V' : Value} (ho : w3.ownsRow w1.heap.size 39 5 V' (qs.length + 1) (qs.flatMap pqCells ++ pqCells (p, A2, c2))) (A' : Option Addr) (c' : Nat) (hA : A' = if cb = k then Ab else Ab.map (·.add k)) (hc : c' = cb - k) :
    LK w1 g K d all A' c' (qs ++ [(p, A2, c2)]) m (b.drop k) V' w3 := by
  subst hA hc
  obtain ⟨h1, h2, h3, h4, h5, h6, h7, h8⟩ := h
  obtain ⟨k8, kl, _, _, _, _⟩ := stepB_take hs
  have hcut := cut_rd h2 (k := k) (by omega) h1
  have h6' := h6.kept hg
  have hlt := h6'.1.lt
  have hb2 := h5.grown hg (by simp)
  have hgg : w1.grownBy w3 (some g) := by
    have h42 := grown_two h4 hg
    refine ⟨hg3.os.trans h42.os, hg3.tape.trans h42.tape, hg3.output.trans h42.output, Nat.le_trans h42.size hg3.size, fun i hi hr => (hg3.block i (Nat.lt_of_lt_of_le hi h42.size) (fun e => ?_)).trans (h42.block i hi hr)⟩
    have := (hlt i e.symm).1
    omega
  refine ⟨by rw [List.length_drop]; omega, by rw [List.length_drop]; exact hcut, cut_ne h3, hgg, hb2.grown hg3 (fun e => own_blk_ne h6'.1 hb2 (by decide) e.symm), h6'.snoc hq hg3 ho, ?_, by rw [List.length_drop, List.length_append, List.length_singleton]; omega⟩
  rw [h7, feed_take hs]
  simp
end
theorem len_draw {w : World} {B n c : Nat} {A : Option Addr} {b : List UInt8} (h : RdB w B A n b) (hn : 4 ≤ n) (k : Nat) :
    Calls Try.prog 75 #[.slice A n c] (w.drewN k) fun e w' => e = .returned (.int .i64 (lenOf b : Nat)) ∧ ∃ k', w.drewN k' = w' :=
  (length_any A n c B b (w.drewN k) (h.drewN k) hn).mono fun _ _ ⟨he, k', hw⟩ => ⟨he, k + k', by rw [hw, World.drewN_drewN]⟩
theorem len_draw0 {w : World} {B n c : Nat} {A : Option Addr} {b : List UInt8} (h : RdB w B A n b) (hn : 4 ≤ n) :
    Calls Try.prog 75 #[.slice A n c] w fun e w' => e = .returned (.int .i64 (lenOf b : Nat)) ∧ ∃ k', w.drewN k' = w' :=
  (length_any A n c B b w h hn).mono fun _ _ ⟨he, k', hw⟩ => ⟨he, k', hw.symm⟩
theorem unp_draw {w : World} {n c : Nat} {A : Option Addr} {b : List UInt8} {er : Nat} {p : Pk} (h : RdB w w.heap.size A n b) (hc : n ≤ c) (hu : unp b = (er, p)) (k : Nat) :
    Calls Try.prog 76 #[.slice A n c] (w.drewN k) (UnpPost w (er, p)) := by
  have := unp_any A n c b (w.drewN k) (h.drewN k) hc
  rw [hu] at this
  exact this.mono fun e w' ⟨A2, c2, he, ho, hb⟩ => ⟨A2, c2, he, ho, ⟨hb.os, hb.tape, hb.output, hb.size, hb.block⟩⟩
theorem feed_room {n m q a : Nat} (h : 8 * q + n + m ≤ a) (ha : a ≤ 1099511627776) : q + 1 ≤ 9223372036854775807 ∧ (q + 1) * 56 ≤ 140737488355328 ∧ m ≤ 1099511627776 ∧ n ≤ 1099511627776 := by omega
theorem feed_end {w w1 wr w2 : World} {g : Nat} {K V : Value} {d : Int} {all b : List UInt8} {Ab : Option Addr} {cb m : Nat} {qs : List (Pk × Option Addr × Nat)} {A3 : Option Addr} {c3 : Nat}
    (hsz : w.heap.size ≤ w1.heap.size) (hg2 : Grown2 w w1 g K) (h : LK w1 g K d all Ab cb qs m b V wr) (hs : stepB b = .done) (h1 : w1.grownBy w2 (some g)) (h2 : Blk w2 g 136 #[.bool true, K, .int .i64 (d + (m : Nat))]) (h3 : PkRow w2 w1.heap.size V qs)
    (ho : OwnB 5 w2 wr.heap.size (.slice A3 b.length c3) b) (hs2 : wr.heap.size ≤ w2.heap.size) : FeedPostS w g K d (feed all) (.returned V) (w2.setCell ⟨g, 1, none⟩ (.slice A3 b.length c3)) := by
  have hf := h.2.2.2.2.2.2.1
  rw [feed_done hs] at hf
  rw [hf]
  have hgc : w2.grownBy (w2.setCell ⟨g, 1, none⟩ (.slice A3 b.length c3)) (some g) := only_setCell (p := ⟨g, 1, none⟩) (World.grownBy.refl w2 (some g)) (.inl rfl) _
  have hset := h2.set_ 1 (.slice A3 b.length c3)
  have h12 := h1.trans hgc
  obtain ⟨g1, g2, g3, g4, g5⟩ := hg2
  have hs1 := h.2.2.2.1.size
  refine ⟨V, qs, .slice A3 b.length c3, wr.heap.size, rfl, by simp, (h3.far h2 (by decide) (by decide) hgc).base hsz, by simpa using hset, OwnB.far ho h2 (by decide) 1 _, by omega, by simpa using hs2, fun q hq k hk => ((h.2.2.2.2.2.1.2 q hq).lt k hk).2, h12.os.trans g1, h12.tape.trans g2, h12.output.trans g3, Nat.le_trans g4 h12.size, fun k hk hne hK => ?_⟩
  rw [h12.block k (by omega) (fun e => hne (by injection e with e)), g5 k hk hne hK]
theorem Exit.jumps_ret {J : Nat → Act → World → Prop} {Q : Exit → Act → World → Prop} {a : Act} {w : World} : Exit.jumps J Q .ret a w = Q .ret a w := rfl
def slLen : Value → Nat
  | .slice _ n _ => n
  | _ => 0
theorem drop_wrap {d : Int} {m n : Nat} (h0 : 0 ≤ d) (h1 : d ≤ 1152921504606846976) (hm : m ≤ n) (hn : n ≤ 1099511627776) : wrap64 (d + (m : Int) + 1) = d + (m : Int) + 1 := by unfold wrap64; omega
theorem info39 : (Try.prog.info? 39).map (fun i => (i.zero, i.size, i.bytes)) = some (some (.agg #[.int .i64 0, .int .u64 0, .int .u64 0, .int .u64 0, .slice none 0 0]), 5, 56) := by kernel_rfl
def FJ (w1 : World) (g : Nat) (K : Value) (d : Int) (all : List UInt8) (A : Option Addr) (nc c : Nat) (l : Nat) (a : Act) (wr : World) : Prop :=
  ∃ (Ab : Option Addr) (cb : Nat) (qs : List (Pk × Option Addr × Nat)) (m : Nat) (b : List UInt8) (V : Value) (u7 u8 u9 u10 u11 u12 u13 u14 u15 u16 u17 u18 u19 u20 u21 u22 u23 u24 u25 u26 u27 u28 u29 u30 u31 u32 u33 u34 u35 u36 u37 u38 u39 u40 u41 u42 u43 u44 u45 u46 u47 u48 u49 u50 u51 u52 u53 u54 u55 u56 u57 u58 u59 u60 u61 u62 u63 u64 u65 u66 u67 u68 u69 u70 u71 u72 u73 u74 u75 u76 u77 u78 u79 u80 u81 u82 u83 u84 u85 u86 u87 u88 u89 u90 u91 u92 u93 u94 u95 u96 u97 : Value),
    (l = 2 ∨ (l = 1 ∧ stepB b = .drop) ∨ (l = 0 ∧ stepB b = .done)) ∧ a = ⟨#[.pointer (some ⟨g, 0, none⟩), .slice A nc c, undef, undef, .slice none 0 0, .slice Ab b.length cb, V, u7, u8, u9, u10, u11, u12, u13, u14, u15, u16, u17, u18, u19, u20, u21, u22, u23, u24, u25, u26, u27, u28, u29, u30, u31, u32, u33, u34, u35, u36, u37, u38, u39, u40, u41, u42, u43, u44, u45, u46, u47, u48, u49, u50, u51, u52, u53, u54, u55, u56, u57, u58, u59, u60, u61, u62, u63, u64, u65, u66, u67, u68, u69, u70, u71, u72, u73, u74, u75, u76, u77, u78, u79, u80, u81, u82, u83, u84, u85, u86, u87, u88, u89, u90, u91, u92, u93, u94, u95, u96, u97], []⟩ ∧ LK w1 g K d all Ab cb qs m b V wr
theorem feed_start {base g cb : Nat} {K : Value} {d : Int} {all : List UInt8} {Ab : Option Addr} {w1 : World} (hown : w1.ownsRow base 5 1 (.slice Ab all.length cb) all.length (all.map bv)) (hb : Blk w1 g 136 #[.bool true, K, .int .i64 d]) (hcb : all.length ≤ cb) :
    LK w1 g K d all Ab cb [] 0 all (.slice none 0 0) w1 := by
  refine ⟨hcb, Reads.of_own hown, fun ad e he => ?_, World.grownBy.refl w1 _, by simpa using hb, PkRow.nil _ _, by simp, by simp⟩
  subst e
  exact own_blk_ne hown hb (by decide) (by simp [Value.ownBlock, he])
section
variable {b : List UInt8}
theorem stepB_head (h0 : ¬ b.length = 0) (h : b.getD 0 0 ≠ 239 ∨ (1 < b.length ∧ b.getD 1 0 ≠ 30)) : stepB b = .drop := by unfold stepB; rw [if_neg h0, if_pos h]
theorem stepB_short (h0 : ¬ b.length = 0) (h1 : b.getD 0 0 = 239) (h2 : ¬ 1 < b.length ∨ b.getD 1 0 = 30) (h4 : b.length < 4) : stepB b = .done := by
  unfold stepB
  rw [if_neg h0, if_neg (by rintro (h | ⟨h, h'⟩) <;> rcases h2 with h2 | h2 <;> first | exact h h1 | exact h2 h | exact h' h2), if_pos h4]
theorem stepB_long (h0 : ¬ b.length = 0) (h1 : b.getD 0 0 = 239) (h2 : ¬ 1 < b.length ∨ b.getD 1 0 = 30) (h4 : ¬ b.length < 4) (h5 : 1080 < lenOf b) : stepB b = .drop := by
  unfold stepB
  rw [if_neg h0, if_neg (by rintro (h | ⟨h, h'⟩) <;> rcases h2 with h2 | h2 <;> first | exact h h1 | exact h2 h | exact h' h2), if_neg h4, if_pos h5]
theorem stepB_wait (h0 : ¬ b.length = 0) (h1 : b.getD 0 0 = 239) (h2 : ¬ 1 < b.length ∨ b.getD 1 0 = 30) (h4 : ¬ b.length < 4) (h5 : ¬ 1080 < lenOf b) (h6 : b.length < lenOf b + 8) : stepB b = .done := by
  unfold stepB
  rw [if_neg h0, if_neg (by rintro (h | ⟨h, h'⟩) <;> rcases h2 with h2 | h2 <;> first | exact h h1 | exact h2 h | exact h' h2), if_neg h4, if_neg h5, if_pos h6]
theorem stepB_whole {er : Nat} {p : Pk} (h0 : ¬ b.length = 0) (h1 : b.getD 0 0 = 239) (h2 : ¬ 1 < b.length ∨ b.getD 1 0 = 30) (h4 : ¬ b.length < 4) (h5 : ¬ 1080 < lenOf b) (h6 : ¬ b.length < lenOf b + 8) (hu : unp (b.take (lenOf b + 8)) = (er, p)) :
    stepB b = if er = 0 then .take p (lenOf b + 8) else .drop := by
  unfold stepB
  rw [if_neg h0, if_neg (by rintro (h | ⟨h, h'⟩) <;> rcases h2 with h2 | h2 <;> first | exact h h1 | exact h2 h | exact h' h2), if_neg h4, if_neg h5, if_neg h6, hu]
end
def FM (l : Nat) (a : Act) (_ : World) : Nat := 3 * slLen (a.tmps.getD 5 undef) + l

set_option maxRecDepth 20000 in
set_option maxHeartbeats 4000000 in
theorem feeds_any (g base B : Nat) (K : Value) (kept : List UInt8) (d : Int) (A : Option Addr) (nc c : Nat) (chunk : List UInt8) (w : World) (hb : Blk w g 136 #[.bool true, K, .int .i64 d]) (hK : OwnB 5 w base K kept) (hbase : base ≤ w.heap.size)
    (hr : RdB w B A nc chunk) (hlen : kept.length + nc ≤ 1099511627776) (hd0 : 0 ≤ d) (hd1 : d ≤ 1152921504606846976) :
    Calls Try.prog 53 #[.pointer (some ⟨g, 0, none⟩), .slice A nc c] w (FeedPostS w g K d (feed (kept ++ chunk))) := by
  have c0 := hb.cell 0
  have c1 := hb.cell 1
  have c2 := hb.cell 2
  simp at c0 c1 c2
  have hcl := hr.len1
  have HB := Lib.hid hb
  have HK := Lib.hid hK
  have HR := Lib.hid hr
  have HCL := Lib.hid hcl
  have HALL : Hid ((kept ++ chunk).length ≤ 1099511627776) := Lib.hid (by rw [List.length_append]; omega)
  have HAP : Hid (kept.length + chunk.length ≤ 140737488355328) := Lib.hid (by omega)
  clear hb hK hr hcl hlen
  go_enter Try.func53, Try.ntmps53
  go_wp2
  obtain ⟨all, HAL⟩ : ∃ all, Hid (kept ++ chunk = all) := ⟨_, rfl⟩
  rw [HAL.out] at HALL
  have HPOST : Hid (∀ e w', FeedPostS w g K d (feed all) e w' → FeedPostS w g K d (feed (kept ++ chunk)) e w') := Lib.hid fun e w' h => by rw [HAL.out]; exact h
  refine wp_scope_labels (fun l a' w' => ∃ w1 : World, FJ w1 g K d all A nc c l a' w' ∧ w.heap.size ≤ w1.heap.size ∧ Grown2 w w1 g K) FM ?_ ?_
  · go_wp2_with (at_builtin; refine wpList_app rfl _ _ _ rfl base 5 info5 Try.underlying37 K kept rfl HK.out B A nc c chunk rfl HR.out HAP.out hbase ?_; intro v' w1 hown happ)
    obtain ⟨Ab, cb, rfl, hcb, hcm⟩ := OwnB.form hown
    rw [HAL.out] at hown hcb ⊢
    have hnb := own_blk_ne HK.out HB.out (by decide)
    have hblk1 : Blk w1 g 136 #[.bool true, K, .int .i64 d] := happ.blk HB.out hnb
    have HSZ := Lib.hid happ.1.size
    have HG2 : Hid (Grown2 w w1 g K) := Lib.hid ⟨happ.1.os, happ.1.tape, happ.1.output, happ.1.size, fun k hk _ hne => happ.1.block k hk (fun e => hne e.symm)⟩
    obtain ⟨qs, m, b, hLK, hbe⟩ : ∃ qs m b, LK w1 g K d all Ab cb qs m b (.slice none 0 0) w1 ∧ all.length = b.length :=
      ⟨[], 0, all, feed_start hown hblk1 hcb, rfl⟩
    rw [hbe]
    clear hown happ hnb hblk1 hcb hcm c0 c1 c2 hbe
    go_step3
    have hrd := hLK.rd
    have hbl := hLK.2.2.2.2.2.2.2
    have hbc := hLK.1
    have hblk := hLK.2.2.2.2.1
    have HLK := Lib.hid hLK
    clear hLK
    by_cases h0 : b.length = 0
    · have HS := Lib.hid (stepB_nil h0)
      have e0 : ((b.length : Int) == 0) = true := by rw [beq_iff_eq]; omega
      clear h0 hblk hrd
      go_wp2_with fail
      go_step3
      exact ⟨w1, ⟨_, _, _, _, _, _, _, _, _, _, _, _, _, _, _, _, _, _, _, _, _, _, _, _, _, _, _, _, _, _, _, _, _, _, _, _, _, _, _, _, _, _, _, _, _, _, _, _, _, _, _, _, _, _, _, _, _, _, _, _, _, _, _, _, _, _, _, _, _, _, _, _, _, _, _, _, _, _, _, _, _, _, _, _, _, _, _, _, _, _, _, _, _, _, _, _, _, .inr (.inr ⟨rfl, HS.out⟩), rfl, HLK.out⟩, HSZ.out, HG2.out⟩
    · have e0 : ((b.length : Int) == 0) = false := by rw [beq_eq_false_iff_ne]; omega
      have HPOS : Hid (0 < b.length) := Lib.hid (by omega)
      have hi0 : 0 < b.length := by omega
      have H0 := Lib.hid h0
      clear h0
      obtain ⟨bk, off, rfl, k0⟩ := byte_getD hrd (k := 0) (by have := HPOS.out; omega)
      by_cases h1 : b.getD 0 0 = 239
      · rw [h1] at k0
        have q0 : w1.cell? ⟨bk, off, none⟩ = some (.int .u8 239) := by simpa using k0
        clear k0
        by_cases h2 : 1 < b.length
        · have d2 : decide ((1 : Int) < (b.length : Int)) = true := by simp; omega
          have hi1 : (1 : Int) < (b.length : Int) := by omega
          obtain ⟨bk', off', e', k1⟩ := byte_getD hrd (k := 1) h2
          injection e' with e'
          injection e' with e1 e2
          subst e1 e2
          by_cases h3 : b.getD 1 0 = 30
          · rw [h3] at k1
            have q1 : w1.cell? ⟨bk, off + 1, none⟩ = some (.int .u8 30) := by simpa using k1
            clear k1
            by_cases h4 : b.length < 4
            · have d4 : decide ((b.length : Int) < 4) = true := by simp; omega
              have HS : Hid (stepB b = .done) := Lib.hid (stepB_short H0.out h1 (.inr h3) h4)
              clear h1 h2 h3 h4 hblk hrd
              go_wp2_with fail
              go_step3
              exact ⟨w1, ⟨_, _, _, _, _, _, _, _, _, _, _, _, _, _, _, _, _, _, _, _, _, _, _, _, _, _, _, _, _, _, _, _, _, _, _, _, _, _, _, _, _, _, _, _, _, _, _, _, _, _, _, _, _, _, _, _, _, _, _, _, _, _, _, _, _, _, _, _, _, _, _, _, _, _, _, _, _, _, _, _, _, _, _, _, _, _, _, _, _, _, _, _, _, _, _, _, _, .inr (.inr ⟨rfl, HS.out⟩), rfl, HLK.out⟩, HSZ.out, HG2.out⟩
            · have d4 : decide ((b.length : Int) < 4) = false := by simp; omega
              have HL0 := Lib.hid (len_draw0 (c := cb) hrd (by omega : 4 ≤ b.length))
              have HL := Lib.hid fun k => len_draw (c := cb) hrd (by omega : 4 ≤ b.length) k
              have hL := lenOf_lt b
              by_cases h5 : 1080 < lenOf b
              · have d5 : decide ((1080 : Int) < (lenOf b : Int)) = true := by simp; omega
                have HS : Hid (stepB b = .drop) := Lib.hid (stepB_long H0.out h1 (.inr h3) h4 h5)
                clear h1 h2 h3 h4 h5 hblk hrd
                go_wp2_with fail
                refine HL0.out.mono ?_
                rintro e wx ⟨rfl, kx, rfl⟩
                have HLK := Lib.hid (HLK.out.drewN kx)
                go_wp2_with fail
                go_step3
                exact ⟨w1, ⟨_, _, _, _, _, _, _, _, _, _, _, _, _, _, _, _, _, _, _, _, _, _, _, _, _, _, _, _, _, _, _, _, _, _, _, _, _, _, _, _, _, _, _, _, _, _, _, _, _, _, _, _, _, _, _, _, _, _, _, _, _, _, _, _, _, _, _, _, _, _, _, _, _, _, _, _, _, _, _, _, _, _, _, _, _, _, _, _, _, _, _, _, _, _, _, _, _, .inr (.inl ⟨rfl, HS.out⟩), rfl, HLK.out⟩, HSZ.out, HG2.out⟩
              · have d5 : decide ((1080 : Int) < (lenOf b : Int)) = false := by simp; omega
                by_cases h6 : b.length < lenOf b + 8
                · have d6 : decide ((b.length : Int) < (lenOf b : Int) + 4 + 4) = true := by simp; omega
                  have HS : Hid (stepB b = .done) := Lib.hid (stepB_wait H0.out h1 (.inr h3) h4 h5 h6)
                  clear h1 h2 h3 h4 h5 h6 hblk hrd
                  go_wp2_with fail
                  refine HL0.out.mono ?_
                  rintro e wx ⟨rfl, kx, rfl⟩
                  go_wp2_with fail
                  refine (HL.out kx).mono ?_
                  rintro e wx ⟨rfl, ky, rfl⟩
                  have HLK := Lib.hid (HLK.out.drewN ky)
                  go_wp2_with fail
                  go_step3
                  exact ⟨w1, ⟨_, _, _, _, _, _, _, _, _, _, _, _, _, _, _, _, _, _, _, _, _, _, _, _, _, _, _, _, _, _, _, _, _, _, _, _, _, _, _, _, _, _, _, _, _, _, _, _, _, _, _, _, _, _, _, _, _, _, _, _, _, _, _, _, _, _, _, _, _, _, _, _, _, _, _, _, _, _, _, _, _, _, _, _, _, _, _, _, _, _, _, _, _, _, _, _, _, .inr (.inr ⟨rfl, HS.out⟩), rfl, HLK.out⟩, HSZ.out, HG2.out⟩
                · have d6 : decide ((b.length : Int) < (lenOf b : Int) + 4 + 4) = false := by simp; omega
                  obtain ⟨⟨er, p⟩, hu⟩ : ∃ r, unp (b.take (lenOf b + 8)) = r := ⟨_, rfl⟩
                  have HU := Lib.hid fun k => unp_draw (c := cb) (hrd.first (by omega : lenOf b + 8 ≤ b.length)) (by omega) hu k
                  have HS := Lib.hid (stepB_whole H0.out h1 (.inr h3) h4 h5 h6 hu)
                  have HB6 := Lib.hid (by omega : lenOf b + 8 ≤ b.length)
                  have HBC := Lib.hid hbc
                  have l6 : (0 : Int) ≤ (lenOf b : Int) + 4 + 4 := by omega
                  have l7 : (lenOf b : Int) + 4 + 4 ≤ (cb : Int) := by omega
                  have l9 : (lenOf b : Int) + 4 + 4 ≤ (b.length : Int) := by omega
                  have l8 : ((lenOf b : Int) + 4 + 4).toNat = lenOf b + 8 := by omega
                  clear h1 h2 h3 h4 h5 h6 hblk hu hbc
                  generalize hLb : lenOf b = L at *
                  have HLB := Lib.hid hLb
                  clear hLb
                  go_wp2_with fail
                  refine HL0.out.mono ?_
                  rintro e wx ⟨rfl, kx, rfl⟩
                  go_wp2_with fail
                  refine (HL.out kx).mono ?_
                  rintro e wx ⟨rfl, ky, rfl⟩
                  go_wp2_with fail
                  refine (HL.out ky).mono ?_
                  rintro e wx ⟨rfl, kz, rfl⟩
                  go_wp2_with fail
                  refine (HU.out kz).mono ?_
                  rintro e w2 ⟨A2, c2, rfl, ho2, hb2⟩
                  dsimp only at ho2 ⊢
                  have HS0 := HS
                  go_upto_region 11 with fail
                  have hbx := Blk.new w2 39 #[.int .i64 p.kind, .int .u64 p.tok, .int .u64 p.seq, .int .u64 p.ack, .slice A2 p.body.length c2]
                  have hgx : w1.grownBy (w2.alloc (.cells #[.int .i64 p.kind, .int .u64 p.tok, .int .u64 p.seq, .int .u64 p.ack, .slice A2 p.body.length c2] 39)) none := only_alloc (only_of_below hb2 none) _
                  have ho3 := World.ownsRow.alloc ho2 (.cells #[.int .i64 p.kind, .int .u64 p.tok, .int .u64 p.seq, .int .u64 p.ack, .slice A2 p.body.length c2] 39)
                  have HLKd := Lib.hid (HLK.out.grown0 hgx)
                  generalize w2.alloc (.cells #[.int .i64 p.kind, .int .u64 p.tok, .int .u64 p.seq, .int .u64 p.ack, .slice A2 p.body.length c2] 39) = w3 at hbx hgx ho3 HLKd ⊢
                  generalize w2.heap.size = gx at hbx ⊢
                  clear ho2 hb2 w2 HU HL HL0
                  by_cases he : er = 0
                  · subst he
                    have HST : Hid (stepB b = .take p (L + 8)) := Lib.hid (by have := HS.out; rwa [if_pos rfl] at this)
                    clear HS HS0
                    have x0 := hbx.cell 0
                    have x1 := hbx.cell 1
                    have x2 := hbx.cell 2
                    have x3 := hbx.cell 3
                    have x4 := hbx.cell 4
                    simp at x0 x1 x2 x3 x4
                    have hpk := (World.ownsRow.alloc HLKd.out.2.2.2.2.2.1.1 (.cells #[.int .i64 p.kind, .int .u64 p.tok, .int .u64 p.seq, .int .u64 p.ack, .slice A2 p.body.length c2] 39))
                    have hr5 := Reads.ofBlk (size := 5) (n := 1) (cs := [.int .i64 p.kind, .int .u64 p.tok, .int .u64 p.seq, .int .u64 p.ack, .slice A2 p.body.length c2]) (Blk.new w3 39 #[.int .i64 p.kind, .int .u64 p.tok, .int .u64 p.seq, .int .u64 p.ack, .slice A2 p.body.length c2]) rfl
                    have HRM := Lib.hid (feed_room HLKd.out.2.2.2.2.2.2.2 HALL.out)
                    have hs13 := HLKd.out.2.2.2.1.size
                    have hbs : w1.heap.size ≤ (w3.alloc (.cells #[.int .i64 p.kind, .int .u64 p.tok, .int .u64 p.seq, .int .u64 p.ack, .slice A2 p.body.length c2] 39)).heap.size := by simp; omega
                    have HOQ := Lib.hid (own_base (World.ownsRow.alloc ho3 (.cells #[.int .i64 p.kind, .int .u64 p.tok, .int .u64 p.seq, .int .u64 p.ack, .slice A2 p.body.length c2] 39)) (HLK.out.2.2.2.1.size))
                    clear hbx ho3 hs13
                    go_wp2_with (at_builtin; refine wpList_appE rfl _ _ _ rfl w1.heap.size 39 _ 5 56 info39 Try.underlying119 rfl (by decide) _ _ _ rfl hpk _ _ _ _ _ rfl hr5 (by simp [Value.oneCell']) (by have := HRM.out.1; simp only [maxLen]; omega) (by have := HRM.out.2.1; omega) hbs ?_; intro V2 w5 hown5 hg5; obtain ⟨A5, c5, rfl⟩ := own_form hown5)
                    have hg35 := (World.grownBy_alloc w3 (.cells #[.int .i64 p.kind, .int .u64 p.tok, .int .u64 p.seq, .int .u64 p.ack, .slice A2 p.body.length c2] 39) none)
                    have HTK := Lib.hid fun A' c' hA hc => HLK.out.taken HST.out (grown_two hgx hg35) HOQ.out hg5 hown5 A' c' hA hc
                    have hrd5 := HLK.out.rd_app (grown_two hgx hg35) hg5
                    have HL5 := Lib.hid (len_draw0 (c := cb) hrd5 (by have := HB6.out; omega : 4 ≤ b.length))
                    rw [HLB.out] at HL5
                    clear hrd5 hown5 hg5 hg35 hgx hpk hr5 x0 x1 x2 x3 x4 hbs q0 q1 HLKd HLK HOQ
                    go_wp2_with fail
                    refine HL5.out.mono ?_
                    rintro e w6 ⟨rfl, kw, rfl⟩
                    by_cases hcb : cb = L + 8
                    · subst hcb
                      have HD := Lib.hid ((HTK.out _ 0 (by rw [if_pos rfl]) (by omega)).drewN kw)
                      clear HTK HL5
                      go_wp2_with fail
                      rw [show b.length - (L + 8) = (b.drop (L + 8)).length from (List.length_drop ..).symm]
                      go_step3
                      exact ⟨w1, ⟨_, _, _, _, _, _, _, _, _, _, _, _, _, _, _, _, _, _, _, _, _, _, _, _, _, _, _, _, _, _, _, _, _, _, _, _, _, _, _, _, _, _, _, _, _, _, _, _, _, _, _, _, _, _, _, _, _, _, _, _, _, _, _, _, _, _, _, _, _, _, _, _, _, _, _, _, _, _, _, _, _, _, _, _, _, _, _, _, _, _, _, _, _, _, _, _, _, .inl rfl, rfl, HD.out⟩, HSZ.out, HG2.out⟩
                    · have HD := Lib.hid ((HTK.out _ (cb - (L + 8)) (by rw [if_neg hcb]) rfl).drewN kw)
                      clear HTK HL5
                      go_wp2_with fail
                      rw [show b.length - (L + 8) = (b.drop (L + 8)).length from (List.length_drop ..).symm]
                      go_step3
                      exact ⟨w1, ⟨_, _, _, _, _, _, _, _, _, _, _, _, _, _, _, _, _, _, _, _, _, _, _, _, _, _, _, _, _, _, _, _, _, _, _, _, _, _, _, _, _, _, _, _, _, _, _, _, _, _, _, _, _, _, _, _, _, _, _, _, _, _, _, _, _, _, _, _, _, _, _, _, _, _, _, _, _, _, _, _, _, _, _, _, _, _, _, _, _, _, _, _, _, _, _, _, _, .inl rfl, rfl, HD.out⟩, HSZ.out, HG2.out⟩
                  · have t3 : ((er : Int) == 0) = false := by rw [beq_eq_false_iff_ne]; omega
                    have HS : Hid (stepB b = .drop) := Lib.hid (by have := HS0.out; rwa [if_neg he] at this)
                    have hcb : ¬ cb = 1 := by omega
                    clear HS0 he hbx hgx ho3
                    go_wp2_with fail
                    go_step3
                    have hblk2 := HLKd.out.2.2.2.2.1
                    have g2 := hblk2.cell 2
                    have gf2 := hblk2.frozen 2
                    simp at g2
                    have l1 : wrap64 (d + (m : Int) + 1) = d + (m : Int) + 1 := drop_wrap hd0 hd1 (feed_room HLKd.out.2.2.2.2.2.2.2 HALL.out).2.2.1 (Nat.le_refl _)
                    clear hblk2
                    have HD := Lib.hid (HLKd.out.dropped HS.out _ (cb - 1) _ (by rw [if_neg hcb]) rfl rfl)
                    go_wp2_with fail
                    rw [show b.length - 1 = b.tail.length from (List.length_tail ..).symm]
                    go_step3
                    exact ⟨w1, ⟨_, _, _, _, _, _, _, _, _, _, _, _, _, _, _, _, _, _, _, _, _, _, _, _, _, _, _, _, _, _, _, _, _, _, _, _, _, _, _, _, _, _, _, _, _, _, _, _, _, _, _, _, _, _, _, _, _, _, _, _, _, _, _, _, _, _, _, _, _, _, _, _, _, _, _, _, _, _, _, _, _, _, _, _, _, _, _, _, _, _, _, _, _, _, _, _, _, .inl rfl, rfl, HD.out⟩, HSZ.out, HG2.out⟩
          · have t1 : (((b.getD 1 0).toNat : Int) == 30) = false := getD_ne h3
            have HS : Hid (stepB b = .drop) := Lib.hid (stepB_head H0.out (.inr ⟨h2, h3⟩))
            clear h1 h2 h3 hblk hrd
            have t2 : (((b.getD 1 0).toNat : Int) != 30) = true := by rw [bne, t1]; rfl
            generalize b.getD 1 0 = x1 at k1 t1 t2
            go_wp2_with fail
            go_step3
            exact ⟨w1, ⟨_, _, _, _, _, _, _, _, _, _, _, _, _, _, _, _, _, _, _, _, _, _, _, _, _, _, _, _, _, _, _, _, _, _, _, _, _, _, _, _, _, _, _, _, _, _, _, _, _, _, _, _, _, _, _, _, _, _, _, _, _, _, _, _, _, _, _, _, _, _, _, _, _, _, _, _, _, _, _, _, _, _, _, _, _, _, _, _, _, _, _, _, _, _, _, _, _, .inr (.inl ⟨rfl, HS.out⟩), rfl, HLK.out⟩, HSZ.out, HG2.out⟩
        · have d2 : decide ((1 : Int) < (b.length : Int)) = false := by simp; omega
          have d4 : decide ((b.length : Int) < 4) = true := by simp; omega
          have HS : Hid (stepB b = .done) := Lib.hid (stepB_short H0.out h1 (.inl h2) (by omega))
          clear h1 h2 hblk hrd
          go_wp2_with fail
          go_step3
          exact ⟨w1, ⟨_, _, _, _, _, _, _, _, _, _, _, _, _, _, _, _, _, _, _, _, _, _, _, _, _, _, _, _, _, _, _, _, _, _, _, _, _, _, _, _, _, _, _, _, _, _, _, _, _, _, _, _, _, _, _, _, _, _, _, _, _, _, _, _, _, _, _, _, _, _, _, _, _, _, _, _, _, _, _, _, _, _, _, _, _, _, _, _, _, _, _, _, _, _, _, _, _, .inr (.inr ⟨rfl, HS.out⟩), rfl, HLK.out⟩, HSZ.out, HG2.out⟩
      · have t0 : (((b.getD 0 0).toNat : Int) == 239) = false := getD_ne h1
        have q0 : w1.cell? ⟨bk, off, none⟩ = some (.int .u8 ((b.getD 0 0).toNat : Int)) := by simpa using k0
        have HS : Hid (stepB b = .drop) := Lib.hid (stepB_head H0.out (.inl h1))
        have t2 : (((b.getD 0 0).toNat : Int) != 239) = true := by rw [bne, t0]; rfl
        clear h1 hblk hrd k0
        generalize b.getD 0 0 = x1 at q0 t0 t2
        go_wp2_with fail
        go_step3
        exact ⟨w1, ⟨_, _, _, _, _, _, _, _, _, _, _, _, _, _, _, _, _, _, _, _, _, _, _, _, _, _, _, _, _, _, _, _, _, _, _, _, _, _, _, _, _, _, _, _, _, _, _, _, _, _, _, _, _, _, _, _, _, _, _, _, _, _, _, _, _, _, _, _, _, _, _, _, _, _, _, _, _, _, _, _, _, _, _, _, _, _, _, _, _, _, _, _, _, _, _, _, _, .inr (.inl ⟨rfl, HS.out⟩), rfl, HLK.out⟩, HSZ.out, HG2.out⟩
  · rintro l a wr ⟨w1, hJ, hsz, hg2⟩
    have HSZ := Lib.hid hsz
    have HG2 := Lib.hid hg2
    clear hsz hg2 c0 c1 c2
    obtain ⟨Ab, hJ⟩ := hJ
    obtain ⟨cb, hJ⟩ := hJ
    obtain ⟨qs, hJ⟩ := hJ
    obtain ⟨m, hJ⟩ := hJ
    obtain ⟨b, hJ⟩ := hJ
    obtain ⟨V, hJ⟩ := hJ
    obtain ⟨u7, hJ⟩ := hJ
    obtain ⟨u8, hJ⟩ := hJ
    obtain ⟨u9, hJ⟩ := hJ
    obtain ⟨u10, hJ⟩ := hJ
    obtain ⟨u11, hJ⟩ := hJ
    obtain ⟨u12, hJ⟩ := hJ
    obtain ⟨u13, hJ⟩ := hJ
    obtain ⟨u14, hJ⟩ := hJ
    obtain ⟨u15, hJ⟩ := hJ
    obtain ⟨u16, hJ⟩ := hJ
    obtain ⟨u17, hJ⟩ := hJ
    obtain ⟨u18, hJ⟩ := hJ
    obtain ⟨u19, hJ⟩ := hJ
    obtain ⟨u20, hJ⟩ := hJ
    obtain ⟨u21, hJ⟩ := hJ
    obtain ⟨u22, hJ⟩ := hJ
    obtain ⟨u23, hJ⟩ := hJ
    obtain ⟨u24, hJ⟩ := hJ
    obtain ⟨u25, hJ⟩ := hJ
    obtain ⟨u26, hJ⟩ := hJ
    obtain ⟨u27, hJ⟩ := hJ
    obtain ⟨u28, hJ⟩ := hJ
    obtain ⟨u29, hJ⟩ := hJ
    obtain ⟨u30, hJ⟩ := hJ
    obtain ⟨u31, hJ⟩ := hJ
    obtain ⟨u32, hJ⟩ := hJ
    obtain ⟨u33, hJ⟩ := hJ
    obtain ⟨u34, hJ⟩ := hJ
    obtain ⟨u35, hJ⟩ := hJ
    obtain ⟨u36, hJ⟩ := hJ
    obtain ⟨u37, hJ⟩ := hJ
    obtain ⟨u38, hJ⟩ := hJ
    obtain ⟨u39, hJ⟩ := hJ
    obtain ⟨u40, hJ⟩ := hJ
    obtain ⟨u41, hJ⟩ := hJ
    obtain ⟨u42, hJ⟩ := hJ
    obtain ⟨u43, hJ⟩ := hJ
    obtain ⟨u44, hJ⟩ := hJ
    obtain ⟨u45, hJ⟩ := hJ
    obtain ⟨u46, hJ⟩ := hJ
    obtain ⟨u47, hJ⟩ := hJ
    obtain ⟨u48, hJ⟩ := hJ
    obtain ⟨u49, hJ⟩ := hJ
    obtain ⟨u50, hJ⟩ := hJ
    obtain ⟨u51, hJ⟩ := hJ
    obtain ⟨u52, hJ⟩ := hJ
    obtain ⟨u53, hJ⟩ := hJ
    obtain ⟨u54, hJ⟩ := hJ
    obtain ⟨u55, hJ⟩ := hJ
    obtain ⟨u56, hJ⟩ := hJ
    obtain ⟨u57, hJ⟩ := hJ
    obtain ⟨u58, hJ⟩ := hJ
    obtain ⟨u59, hJ⟩ := hJ
    obtain ⟨u60, hJ⟩ := hJ
    obtain ⟨u61, hJ⟩ := hJ
    obtain ⟨u62, hJ⟩ := hJ
    obtain ⟨u63, hJ⟩ := hJ
    obtain ⟨u64, hJ⟩ := hJ
    obtain ⟨u65, hJ⟩ := hJ
    obtain ⟨u66, hJ⟩ := hJ
    obtain ⟨u67, hJ⟩ := hJ
    obtain ⟨u68, hJ⟩ := hJ
    obtain ⟨u69, hJ⟩ := hJ
    obtain ⟨u70, hJ⟩ := hJ
    obtain ⟨u71, hJ⟩ := hJ
    obtain ⟨u72, hJ⟩ := hJ
    obtain ⟨u73, hJ⟩ := hJ
    obtain ⟨u74, hJ⟩ := hJ
    obtain ⟨u75, hJ⟩ := hJ
    obtain ⟨u76, hJ⟩ := hJ
    obtain ⟨u77, hJ⟩ := hJ
    obtain ⟨u78, hJ⟩ := hJ
    obtain ⟨u79, hJ⟩ := hJ
    obtain ⟨u80, hJ⟩ := hJ
    obtain ⟨u81, hJ⟩ := hJ
    obtain ⟨u82, hJ⟩ := hJ
    obtain ⟨u83, hJ⟩ := hJ
    obtain ⟨u84, hJ⟩ := hJ
    obtain ⟨u85, hJ⟩ := hJ
    obtain ⟨u86, hJ⟩ := hJ
    obtain ⟨u87, hJ⟩ := hJ
    obtain ⟨u88, hJ⟩ := hJ
    obtain ⟨u89, hJ⟩ := hJ
    obtain ⟨u90, hJ⟩ := hJ
    obtain ⟨u91, hJ⟩ := hJ
    obtain ⟨u92, hJ⟩ := hJ
    obtain ⟨u93, hJ⟩ := hJ
    obtain ⟨u94, hJ⟩ := hJ
    obtain ⟨u95, hJ⟩ := hJ
    obtain ⟨u96, hJ⟩ := hJ
    obtain ⟨u97, hJ⟩ := hJ
    obtain ⟨hl, rfl, hLK⟩ := hJ
    rcases hl with rfl | ⟨rfl, hs⟩ | ⟨rfl, hs⟩
    · refine ⟨_, rfl, ?_⟩
      have hrd := hLK.rd
      have hbl := hLK.2.2.2.2.2.2.2
      have hbc := hLK.1
      have hblk := hLK.2.2.2.2.1
      have HLK := Lib.hid hLK
      clear hLK
      by_cases h0 : b.length = 0
      · have HS := Lib.hid (stepB_nil h0)
        have e0 : ((b.length : Int) == 0) = true := by rw [beq_iff_eq]; omega
        clear h0 hblk hrd
        go_wp2_with fail
        go_step3
        exact ⟨⟨w1, ⟨_, _, _, _, _, _, _, _, _, _, _, _, _, _, _, _, _, _, _, _, _, _, _, _, _, _, _, _, _, _, _, _, _, _, _, _, _, _, _, _, _, _, _, _, _, _, _, _, _, _, _, _, _, _, _, _, _, _, _, _, _, _, _, _, _, _, _, _, _, _, _, _, _, _, _, _, _, _, _, _, _, _, _, _, _, _, _, _, _, _, _, _, _, _, _, _, _, .inr (.inr ⟨rfl, HS.out⟩), rfl, HLK.out⟩, HSZ.out, HG2.out⟩, by show 3 * b.length + 0 < 3 * b.length + 2; omega⟩
      · have e0 : ((b.length : Int) == 0) = false := by rw [beq_eq_false_iff_ne]; omega
        have HPOS : Hid (0 < b.length) := Lib.hid (by omega)
        have hi0 : 0 < b.length := by omega
        have H0 := Lib.hid h0
        clear h0
        obtain ⟨bk, off, rfl, k0⟩ := byte_getD hrd (k := 0) (by have := HPOS.out; omega)
        by_cases h1 : b.getD 0 0 = 239
        · rw [h1] at k0
          have q0 : wr.cell? ⟨bk, off, none⟩ = some (.int .u8 239) := by simpa using k0
          clear k0
          by_cases h2 : 1 < b.length
          · have d2 : decide ((1 : Int) < (b.length : Int)) = true := by simp; omega
            have hi1 : (1 : Int) < (b.length : Int) := by omega
            obtain ⟨bk', off', e', k1⟩ := byte_getD hrd (k := 1) h2
            injection e' with e'
            injection e' with e1 e2
            subst e1 e2
            by_cases h3 : b.getD 1 0 = 30
            · rw [h3] at k1
              have q1 : wr.cell? ⟨bk, off + 1, none⟩ = some (.int .u8 30) := by simpa using k1
              clear k1
              by_cases h4 : b.length < 4
              · have d4 : decide ((b.length : Int) < 4) = true := by simp; omega
                have HS : Hid (stepB b = .done) := Lib.hid (stepB_short H0.out h1 (.inr h3) h4)
                clear h1 h2 h3 h4 hblk hrd
                go_wp2_with fail
                go_step3
                exact ⟨⟨w1, ⟨_, _, _, _, _, _, _, _, _, _, _, _, _, _, _, _, _, _, _, _, _, _, _, _, _, _, _, _, _, _, _, _, _, _, _, _, _, _, _, _, _, _, _, _, _, _, _, _, _, _, _, _, _, _, _, _, _, _, _, _, _, _, _, _, _, _, _, _, _, _, _, _, _, _, _, _, _, _, _, _, _, _, _, _, _, _, _, _, _, _, _, _, _, _, _, _, _, .inr (.inr ⟨rfl, HS.out⟩), rfl, HLK.out⟩, HSZ.out, HG2.out⟩, by show 3 * b.length + 0 < 3 * b.length + 2; omega⟩
              · have d4 : decide ((b.length : Int) < 4) = false := by simp; omega
                have HL0 := Lib.hid (len_draw0 (c := cb) hrd (by omega : 4 ≤ b.length))
                have HL := Lib.hid fun k => len_draw (c := cb) hrd (by omega : 4 ≤ b.length) k
                have hL := lenOf_lt b
                by_cases h5 : 1080 < lenOf b
                · have d5 : decide ((1080 : Int) < (lenOf b : Int)) = true := by simp; omega
                  have HS : Hid (stepB b = .drop) := Lib.hid (stepB_long H0.out h1 (.inr h3) h4 h5)
                  clear h1 h2 h3 h4 h5 hblk hrd
                  go_wp2_with fail
                  refine HL0.out.mono ?_
                  rintro e wx ⟨rfl, kx, rfl⟩
                  have HLK := Lib.hid (HLK.out.drewN kx)
                  go_wp2_with fail
                  go_step3
                  exact ⟨⟨w1, ⟨_, _, _, _, _, _, _, _, _, _, _, _, _, _, _, _, _, _, _, _, _, _, _, _, _, _, _, _, _, _, _, _, _, _, _, _, _, _, _, _, _, _, _, _, _, _, _, _, _, _, _, _, _, _, _, _, _, _, _, _, _, _, _, _, _, _, _, _, _, _, _, _, _, _, _, _, _, _, _, _, _, _, _, _, _, _, _, _, _, _, _, _, _, _, _, _, _, .inr (.inl ⟨rfl, HS.out⟩), rfl, HLK.out⟩, HSZ.out, HG2.out⟩, by show 3 * b.length + 1 < 3 * b.length + 2; omega⟩
                · have d5 : decide ((1080 : Int) < (lenOf b : Int)) = false := by simp; omega
                  by_cases h6 : b.length < lenOf b + 8
                  · have d6 : decide ((b.length : Int) < (lenOf b : Int) + 4 + 4) = true := by simp; omega
                    have HS : Hid (stepB b = .done) := Lib.hid (stepB_wait H0.out h1 (.inr h3) h4 h5 h6)
                    clear h1 h2 h3 h4 h5 h6 hblk hrd
                    go_wp2_with fail
                    refine HL0.out.mono ?_
                    rintro e wx ⟨rfl, kx, rfl⟩
                    go_wp2_with fail
                    refine (HL.out kx).mono ?_
                    rintro e wx ⟨rfl, ky, rfl⟩
                    have HLK := Lib.hid (HLK.out.drewN ky)
                    go_wp2_with fail
                    go_step3
                    exact ⟨⟨w1, ⟨_, _, _, _, _, _, _, _, _, _, _, _, _, _, _, _, _, _, _, _, _, _, _, _, _, _, _, _, _, _, _, _, _, _, _, _, _, _, _, _, _, _, _, _, _, _, _, _, _, _, _, _, _, _, _, _, _, _, _, _, _, _, _, _, _, _, _, _, _, _, _, _, _, _, _, _, _, _, _, _, _, _, _, _, _, _, _, _, _, _, _, _, _, _, _, _, _, .inr (.inr ⟨rfl, HS.out⟩), rfl, HLK.out⟩, HSZ.out, HG2.out⟩, by show 3 * b.length + 0 < 3 * b.length + 2; omega⟩
                  · have d6 : decide ((b.length : Int) < (lenOf b : Int) + 4 + 4) = false := by simp; omega
                    obtain ⟨⟨er, p⟩, hu⟩ : ∃ r, unp (b.take (lenOf b + 8)) = r := ⟨_, rfl⟩
                    have HU := Lib.hid fun k => unp_draw (c := cb) (hrd.first (by omega : lenOf b + 8 ≤ b.length)) (by omega) hu k
                    have HS := Lib.hid (stepB_whole H0.out h1 (.inr h3) h4 h5 h6 hu)
                    have HB6 := Lib.hid (by omega : lenOf b + 8 ≤ b.length)
                    have HBC := Lib.hid hbc
                    have l6 : (0 : Int) ≤ (lenOf b : Int) + 4 + 4 := by omega
                    have l7 : (lenOf b : Int) + 4 + 4 ≤ (cb : Int) := by omega
                    have l9 : (lenOf b : Int) + 4 + 4 ≤ (b.length : Int) := by omega
                    have l8 : ((lenOf b : Int) + 4 + 4).toNat = lenOf b + 8 := by omega
                    clear h1 h2 h3 h4 h5 h6 hblk hu hbc
                    generalize hLb : lenOf b = L at *
                    have HLB := Lib.hid hLb
                    clear hLb
                    go_wp2_with fail
                    refine HL0.out.mono ?_
                    rintro e wx ⟨rfl, kx, rfl⟩
                    go_wp2_with fail
                    refine (HL.out kx).mono ?_
                    rintro e wx ⟨rfl, ky, rfl⟩
                    go_wp2_with fail
                    refine (HL.out ky).mono ?_
                    rintro e wx ⟨rfl, kz, rfl⟩
                    go_wp2_with fail
                    refine (HU.out kz).mono ?_
                    rintro e w2 ⟨A2, c2, rfl, ho2, hb2⟩
                    dsimp only at ho2 ⊢
                    have HS0 := HS
                    go_upto_region 11 with fail
                    have hbx := Blk.new w2 39 #[.int .i64 p.kind, .int .u64 p.tok, .int .u64 p.seq, .int .u64 p.ack, .slice A2 p.body.length c2]
                    have hgx : wr.grownBy (w2.alloc (.cells #[.int .i64 p.kind, .int .u64 p.tok, .int .u64 p.seq, .int .u64 p.ack, .slice A2 p.body.length c2] 39)) none := only_alloc (only_of_below hb2 none) _
                    have ho3 := World.ownsRow.alloc ho2 (.cells #[.int .i64 p.kind, .int .u64 p.tok, .int .u64 p.seq, .int .u64 p.ack, .slice A2 p.body.length c2] 39)
                    have HLKd := Lib.hid (HLK.out.grown0 hgx)
                    generalize w2.alloc (.cells #[.int .i64 p.kind, .int .u64 p.tok, .int .u64 p.seq, .int .u64 p.ack, .slice A2 p.body.length c2] 39) = w3 at hbx hgx ho3 HLKd ⊢
                    generalize w2.heap.size = gx at hbx ⊢
                    clear ho2 hb2 w2 HU HL HL0
                    by_cases he : er = 0
                    · subst he
                      have HST : Hid (stepB b = .take p (L + 8)) := Lib.hid (by have := HS.out; rwa [if_pos rfl] at this)
                      clear HS HS0
                      have x0 := hbx.cell 0
                      have x1 := hbx.cell 1
                      have x2 := hbx.cell 2
                      have x3 := hbx.cell 3
                      have x4 := hbx.cell 4
                      simp at x0 x1 x2 x3 x4
                      have hpk := (World.ownsRow.alloc HLKd.out.2.2.2.2.2.1.1 (.cells #[.int .i64 p.kind, .int .u64 p.tok, .int .u64 p.seq, .int .u64 p.ack, .slice A2 p.body.length c2] 39))
                      have hr5 := Reads.ofBlk (size := 5) (n := 1) (cs := [.int .i64 p.kind, .int .u64 p.tok, .int .u64 p.seq, .int .u64 p.ack, .slice A2 p.body.length c2]) (Blk.new w3 39 #[.int .i64 p.kind, .int .u64 p.tok, .int .u64 p.seq, .int .u64 p.ack, .slice A2 p.body.length c2]) rfl
                      have HRM := Lib.hid (feed_room HLKd.out.2.2.2.2.2.2.2 HALL.out)
                      have hs13 := HLKd.out.2.2.2.1.size
                      have hbs : w1.heap.size ≤ (w3.alloc (.cells #[.int .i64 p.kind, .int .u64 p.tok, .int .u64 p.seq, .int .u64 p.ack, .slice A2 p.body.length c2] 39)).heap.size := by simp; omega
                      have HOQ := Lib.hid (own_base (World.ownsRow.alloc ho3 (.cells #[.int .i64 p.kind, .int .u64 p.tok, .int .u64 p.seq, .int .u64 p.ack, .slice A2 p.body.length c2] 39)) (HLK.out.2.2.2.1.size))
                      clear hbx ho3 hs13
                      go_wp2_with (at_builtin; refine wpList_appE rfl _ _ _ rfl w1.heap.size 39 _ 5 56 info39 Try.underlying119 rfl (by decide) _ _ _ rfl hpk _ _ _ _ _ rfl hr5 (by simp [Value.oneCell']) (by have := HRM.out.1; simp only [maxLen]; omega) (by have := HRM.out.2.1; omega) hbs ?_; intro V2 w5 hown5 hg5; obtain ⟨A5, c5, rfl⟩ := own_form hown5)
                      have hg35 := (World.grownBy_alloc w3 (.cells #[.int .i64 p.kind, .int .u64 p.tok, .int .u64 p.seq, .int .u64 p.ack, .slice A2 p.body.length c2] 39) none)
                      have HTK := Lib.hid fun A' c' hA hc => HLK.out.taken HST.out (grown_two hgx hg35) HOQ.out hg5 hown5 A' c' hA hc
                      have hrd5 := HLK.out.rd_app (grown_two hgx hg35) hg5
                      have HL5 := Lib.hid (len_draw0 (c := cb) hrd5 (by have := HB6.out; omega : 4 ≤ b.length))
                      rw [HLB.out] at HL5
                      clear hrd5 hown5 hg5 hg35 hgx hpk hr5 x0 x1 x2 x3 x4 hbs q0 q1 HLKd HLK HOQ
                      go_wp2_with fail
                      refine HL5.out.mono ?_
                      rintro e w6 ⟨rfl, kw, rfl⟩
                      by_cases hcb : cb = L + 8
                      · subst hcb
                        have HD := Lib.hid ((HTK.out _ 0 (by rw [if_pos rfl]) (by omega)).drewN kw)
                        clear HTK HL5
                        go_wp2_with fail
                        rw [show b.length - (L + 8) = (b.drop (L + 8)).length from (List.length_drop ..).symm]
                        go_step3
                        exact ⟨⟨w1, ⟨_, _, _, _, _, _, _, _, _, _, _, _, _, _, _, _, _, _, _, _, _, _, _, _, _, _, _, _, _, _, _, _, _, _, _, _, _, _, _, _, _, _, _, _, _, _, _, _, _, _, _, _, _, _, _, _, _, _, _, _, _, _, _, _, _, _, _, _, _, _, _, _, _, _, _, _, _, _, _, _, _, _, _, _, _, _, _, _, _, _, _, _, _, _, _, _, _, .inl rfl, rfl, HD.out⟩, HSZ.out, HG2.out⟩, by show 3 * (b.drop (L + 8)).length + 2 < 3 * b.length + 2; rw [List.length_drop]; have := HPOS.out; omega⟩
                      · have HD := Lib.hid ((HTK.out _ (cb - (L + 8)) (by rw [if_neg hcb]) rfl).drewN kw)
                        clear HTK HL5
                        go_wp2_with fail
                        rw [show b.length - (L + 8) = (b.drop (L + 8)).length from (List.length_drop ..).symm]
                        go_step3
                        exact ⟨⟨w1, ⟨_, _, _, _, _, _, _, _, _, _, _, _, _, _, _, _, _, _, _, _, _, _, _, _, _, _, _, _, _, _, _, _, _, _, _, _, _, _, _, _, _, _, _, _, _, _, _, _, _, _, _, _, _, _, _, _, _, _, _, _, _, _, _, _, _, _, _, _, _, _, _, _, _, _, _, _, _, _, _, _, _, _, _, _, _, _, _, _, _, _, _, _, _, _, _, _, _, .inl rfl, rfl, HD.out⟩, HSZ.out, HG2.out⟩, by show 3 * (b.drop (L + 8)).length + 2 < 3 * b.length + 2; rw [List.length_drop]; have := HPOS.out; omega⟩
                    · have t3 : ((er : Int) == 0) = false := by rw [beq_eq_false_iff_ne]; omega
                      have HS : Hid (stepB b = .drop) := Lib.hid (by have := HS0.out; rwa [if_neg he] at this)
                      have hcb : ¬ cb = 1 := by omega
                      clear HS0 he hbx hgx ho3
                      go_wp2_with fail
                      go_step3
                      have hblk2 := HLKd.out.2.2.2.2.1
                      have g2 := hblk2.cell 2
                      have gf2 := hblk2.frozen 2
                      simp at g2
                      have l1 : wrap64 (d + (m : Int) + 1) = d + (m : Int) + 1 := drop_wrap hd0 hd1 (feed_room HLKd.out.2.2.2.2.2.2.2 HALL.out).2.2.1 (Nat.le_refl _)
                      clear hblk2
                      have HD := Lib.hid (HLKd.out.dropped HS.out _ (cb - 1) _ (by rw [if_neg hcb]) rfl rfl)
                      go_wp2_with fail
                      rw [show b.length - 1 = b.tail.length from (List.length_tail ..).symm]
                      go_step3
                      exact ⟨⟨w1, ⟨_, _, _, _, _, _, _, _, _, _, _, _, _, _, _, _, _, _, _, _, _, _, _, _, _, _, _, _, _, _, _, _, _, _, _, _, _, _, _, _, _, _, _, _, _, _, _, _, _, _, _, _, _, _, _, _, _, _, _, _, _, _, _, _, _, _, _, _, _, _, _, _, _, _, _, _, _, _, _, _, _, _, _, _, _, _, _, _, _, _, _, _, _, _, _, _, _, .inl rfl, rfl, HD.out⟩, HSZ.out, HG2.out⟩, by show 3 * b.tail.length + 2 < 3 * b.length + 2; rw [List.length_tail]; have := HPOS.out; omega⟩
            · have t1 : (((b.getD 1 0).toNat : Int) == 30) = false := getD_ne h3
              have HS : Hid (stepB b = .drop) := Lib.hid (stepB_head H0.out (.inr ⟨h2, h3⟩))
              clear h1 h2 h3 hblk hrd
              have t2 : (((b.getD 1 0).toNat : Int) != 30) = true := by rw [bne, t1]; rfl
              generalize b.getD 1 0 = x1 at k1 t1 t2
              go_wp2_with fail
              go_step3
              exact ⟨⟨w1, ⟨_, _, _, _, _, _, _, _, _, _, _, _, _, _, _, _, _, _, _, _, _, _, _, _, _, _, _, _, _, _, _, _, _, _, _, _, _, _, _, _, _, _, _, _, _, _, _, _, _, _, _, _, _, _, _, _, _, _, _, _, _, _, _, _, _, _, _, _, _, _, _, _, _, _, _, _, _, _, _, _, _, _, _, _, _, _, _, _, _, _, _, _, _, _, _, _, _, .inr (.inl ⟨rfl, HS.out⟩), rfl, HLK.out⟩, HSZ.out, HG2.out⟩, by show 3 * b.length + 1 < 3 * b.length + 2; omega⟩
          · have d2 : decide ((1 : Int) < (b.length : Int)) = false := by simp; omega
            have d4 : decide ((b.length : Int) < 4) = true := by simp; omega
            have HS : Hid (stepB b = .done) := Lib.hid (stepB_short H0.out h1 (.inl h2) (by omega))
            clear h1 h2 hblk hrd
            go_wp2_with fail
            go_step3
            exact ⟨⟨w1, ⟨_, _, _, _, _, _, _, _, _, _, _, _, _, _, _, _, _, _, _, _, _, _, _, _, _, _, _, _, _, _, _, _, _, _, _, _, _, _, _, _, _, _, _, _, _, _, _, _, _, _, _, _, _, _, _, _, _, _, _, _, _, _, _, _, _, _, _, _, _, _, _, _, _, _, _, _, _, _, _, _, _, _, _, _, _, _, _, _, _, _, _, _, _, _, _, _, _, .inr (.inr ⟨rfl, HS.out⟩), rfl, HLK.out⟩, HSZ.out, HG2.out⟩, by show 3 * b.length + 0 < 3 * b.length + 2; omega⟩
        · have t0 : (((b.getD 0 0).toNat : Int) == 239) = false := getD_ne h1
          have q0 : wr.cell? ⟨bk, off, none⟩ = some (.int .u8 ((b.getD 0 0).toNat : Int)) := by simpa using k0
          have HS : Hid (stepB b = .drop) := Lib.hid (stepB_head H0.out (.inl h1))
          have t2 : (((b.getD 0 0).toNat : Int) != 239) = true := by rw [bne, t0]; rfl
          clear h1 hblk hrd k0
          generalize b.getD 0 0 = x1 at q0 t0 t2
          go_wp2_with fail
          go_step3
          exact ⟨⟨w1, ⟨_, _, _, _, _, _, _, _, _, _, _, _, _, _, _, _, _, _, _, _, _, _, _, _, _, _, _, _, _, _, _, _, _, _, _, _, _, _, _, _, _, _, _, _, _, _, _, _, _, _, _, _, _, _, _, _, _, _, _, _, _, _, _, _, _, _, _, _, _, _, _, _, _, _, _, _, _, _, _, _, _, _, _, _, _, _, _, _, _, _, _, _, _, _, _, _, _, .inr (.inl ⟨rfl, HS.out⟩), rfl, HLK.out⟩, HSZ.out, HG2.out⟩, by show 3 * b.length + 1 < 3 * b.length + 2; omega⟩
    · refine ⟨_, rfl, ?_⟩
      have HS := Lib.hid hs
      have HPOS : Hid (0 < b.length) := Lib.hid (Nat.pos_of_ne_zero fun h0 => by rw [stepB_nil h0] at hs; cases hs)
      obtain ⟨bk, off, rfl, k0⟩ := byte_getD hLK.rd (k := 0) (by have := HPOS.out; omega)
      have hi0 : (1 : Int) ≤ (b.length : Int) := by have := HPOS.out; omega
      have HLKd := Lib.hid hLK
      clear hs k0 hLK
      have hblk2 := HLKd.out.2.2.2.2.1
      have g2 := hblk2.cell 2
      have gf2 := hblk2.frozen 2
      simp at g2
      have l1 : wrap64 (d + (m : Int) + 1) = d + (m : Int) + 1 := drop_wrap hd0 hd1 (feed_room HLKd.out.2.2.2.2.2.2.2 HALL.out).2.2.1 (Nat.le_refl _)
      clear hblk2
      by_cases hcb : cb = 1
      · subst hcb
        have HD := Lib.hid (HLKd.out.dropped HS.out _ 0 _ (by rw [if_pos rfl]) rfl rfl)
        go_wp2_with fail
        rw [show b.length - 1 = b.tail.length from (List.length_tail ..).symm]
        go_step3
        exact ⟨⟨w1, ⟨_, _, _, _, _, _, _, _, _, _, _, _, _, _, _, _, _, _, _, _, _, _, _, _, _, _, _, _, _, _, _, _, _, _, _, _, _, _, _, _, _, _, _, _, _, _, _, _, _, _, _, _, _, _, _, _, _, _, _, _, _, _, _, _, _, _, _, _, _, _, _, _, _, _, _, _, _, _, _, _, _, _, _, _, _, _, _, _, _, _, _, _, _, _, _, _, _, .inl rfl, rfl, HD.out⟩, HSZ.out, HG2.out⟩, by show 3 * b.tail.length + 2 < 3 * b.length + 1; rw [List.length_tail]; have := HPOS.out; omega⟩
      · have HD := Lib.hid (HLKd.out.dropped HS.out _ (cb - 1) _ (by rw [if_neg hcb]) rfl rfl)
        go_wp2_with fail
        rw [show b.length - 1 = b.tail.length from (List.length_tail ..).symm]
        go_step3
        exact ⟨⟨w1, ⟨_, _, _, _, _, _, _, _, _, _, _, _, _, _, _, _, _, _, _, _, _, _, _, _, _, _, _, _, _, _, _, _, _, _, _, _, _, _, _, _, _, _, _, _, _, _, _, _, _, _, _, _, _, _, _, _, _, _, _, _, _, _, _, _, _, _, _, _, _, _, _, _, _, _, _, _, _, _, _, _, _, _, _, _, _, _, _, _, _, _, _, _, _, _, _, _, _, .inl rfl, rfl, HD.out⟩, HSZ.out, HG2.out⟩, by show 3 * b.tail.length + 2 < 3 * b.length + 1; rw [List.length_tail]; have := HPOS.out; omega⟩
    · refine ⟨_, rfl, ?_⟩
      have hs13 := hLK.2.2.2.1.size
      have hrd := hLK.rd.alloc (Nat.le_refl _) (.cells #[] 5)
      have hown0 := OwnB.built 5 wr wr.heap.size #[] [] (Nat.le_refl _) (by simp) rfl
      have hfr := hLK.2.2.2.2.1.frozen 1
      have HLK := Lib.hid hLK
      have HS := Lib.hid hs
      have HAPB : Hid (([] : List UInt8).length + b.length ≤ 140737488355328) := Lib.hid (by have := (feed_room hLK.2.2.2.2.2.2.2 HALL.out).2.2.2; simp; omega)
      clear hLK hs hs13
      have hbw2 : wr.heap.size ≤ (wr.alloc (.cells #[] 5)).heap.size := by simp
      go_wp2_with (at_builtin; refine wpList_app rfl _ _ _ rfl wr.heap.size 5 info5 Try.underlying37 _ [] rfl hown0 _ _ _ _ b rfl hrd HAPB.out hbw2 ?_; intro v' w2 hown happ; rw [List.nil_append] at hown; obtain ⟨A3, c3, rfl, -⟩ := OwnB.form hown; have hlk2 := LK.done HLK.out happ; have HOWN := Lib.hid hown; have HSI : Hid (wr.heap.size ≤ w2.heap.size) := Lib.hid (by have := happ.size; simp at this; omega); have hf2 := hlk2.2.1.frozen 1; have hc2 := hlk2.2.1.cell 1; simp at hc2; have HL2 := Lib.hid hlk2; clear hlk2 hown happ)
      have HEND := Lib.hid (feed_end HSZ.out HG2.out HLK.out HS.out HL2.out.1 HL2.out.2.1 HL2.out.2.2 HOWN.out HSI.out)
      rw [Exit.jumps_ret]
      go_ret
      exact HPOST.out _ _ HEND.out
theorem FeedPostS.weak {w w' : World} {g : Nat} {K : Value} {d : Int} {r : List Pk × List UInt8 × Nat} {e : Ending} (h : FeedPostS w g K d r e w') : FeedPost w g K d r e w' := by
  obtain ⟨V, qs, K', M, h1, h2, h3, h4, h5, h6, _, _, h8⟩ := h
  exact ⟨V, qs, K', h1, h2, h3, h4, own_base h5 h6, h8⟩
theorem feedw_any (g base B : Nat) (K : Value) (kept : List UInt8) (d : Int) (A : Option Addr) (nc c : Nat) (chunk : List UInt8) (w : World) (hb : Blk w g 136 #[.bool true, K, .int .i64 d]) (hK : OwnB 5 w base K kept) (hbase : base ≤ w.heap.size)
    (hr : RdB w B A nc chunk) (hlen : kept.length + nc ≤ 1099511627776) (hd0 : 0 ≤ d) (hd1 : d ≤ 1152921504606846976) :
    Calls Try.prog 53 #[.pointer (some ⟨g, 0, none⟩), .slice A nc c] w (FeedPost w g K d (feed (kept ++ chunk))) :=
  (feeds_any g base B K kept d A nc c chunk w hb hK hbase hr hlen hd0 hd1).mono fun _ _ h => h.weak
end Go.Proofs.Ytjhkfpemcplaaaa
namespace Go.Proofs.Ytjhkfpemcplaaaa
open Go.RowKit

/-- a row of packets that reads -/
def PRd (w : World) (A : Option Addr) (qs : List (Pk × Option Addr × Nat)) : Prop :=
  Reads w w.heap.size 5 A qs.length (qs.flatMap pqCells) ∧ ∀ q ∈ qs, RdB w w.heap.size q.2.1 q.1.body.length q.1.body
theorem PRd.below {w w' : World} {A : Option Addr} {qs : List (Pk × Option Addr × Nat)} (h : PRd w A qs) (hb : Below w.heap.size w w') : PRd w' A qs :=
  ⟨(h.1.below hb).more hb.size, fun q hq => ((h.2 q hq).below hb).more hb.size⟩
theorem PRd.nil (w : World) (A : Option Addr) : PRd w A [] := ⟨⟨by simp, fun h => by simp at h⟩, fun q hq => by cases hq⟩
theorem PkRow.prd {w : World} {base : Nat} {A : Option Addr} {n c : Nat} {qs : List (Pk × Option Addr × Nat)} (h : PkRow w base (.slice A n c) qs) : n = qs.length ∧ PRd w A qs := by
  obtain ⟨A', c', e, _⟩ := h.len
  injection e with e1 e2 e3
  subst e1 e2 e3
  exact ⟨rfl, Reads.of_own h.1, fun q hq => OwnB.reads (h.2 q hq) rfl⟩
theorem pq_at (qs : List (Pk × Option Addr × Nat)) : ∀ (j : Nat) (q : Pk × Option Addr × Nat) (i : Nat), i < 5 → qs[j]? = some q → (qs.flatMap pqCells)[j * 5 + i]? = (pqCells q)[i]? := by
  induction qs with
  | nil => intro j q i _ h; simp at h
  | cons x l ih =>
    intro j q i hi h
    have hl : (pqCells x).length = 5 := rfl
    rw [List.flatMap_cons]
    cases j with
    | zero =>
      simp at h
      subst h
      rw [List.getElem?_append_left (by omega)]
      simp
    | succ j =>
      rw [List.getElem?_append_right (by omega), hl, show (j + 1) * 5 + i - 5 = j * 5 + i from by omega]
      exact ih j q i hi (by simpa using h)
theorem PRd.at5 {w : World} {A : Option Addr} {qs : List (Pk × Option Addr × Nat)} {j : Nat} (h : PRd w A qs) (hj : j < qs.length) :
    ∃ b off q, A = some ⟨b, off, none⟩ ∧ qs[j]? = some q ∧ w.cell? ⟨b, off + j * 5, none⟩ = some (.int .i64 q.1.kind) ∧ w.cell? ⟨b, off + j * 5 + 1, none⟩ = some (.int .u64 q.1.tok) ∧ w.cell? ⟨b, off + j * 5 + 2, none⟩ = some (.int .u64 q.1.seq) ∧
      w.cell? ⟨b, off + j * 5 + 3, none⟩ = some (.int .u64 q.1.ack) ∧ w.cell? ⟨b, off + j * 5 + 4, none⟩ = some (.slice q.2.1 q.1.body.length q.2.2) := by
  obtain ⟨⟨b, off, spot⟩, e, _, hc⟩ := h.1.2 (by omega)
  obtain ⟨q, hq⟩ : ∃ q, qs[j]? = some q := ⟨_, List.getElem?_eq_getElem hj⟩
  obtain ⟨q0, hq0⟩ : ∃ q, qs[0]? = some q := ⟨_, List.getElem?_eq_getElem (by omega)⟩
  have h0 := hc 0 _ ((pq_at qs 0 q0 0 (by omega) hq0).trans rfl)
  have hspot : spot = none := by simpa [Addr.add] using World.cell?_spot h0
  subst hspot
  have key : ∀ i u, i < 5 → (pqCells q)[i]? = some u → w.cell? ⟨b, off + j * 5 + i, none⟩ = some u := fun i u hi hu => by
    have := hc (j * 5 + i) u ((pq_at qs j q i hi hq).trans hu)
    rw [← this]
    congr 1
    unfold Addr.add
    split <;> simp <;> omega
  exact ⟨b, off, q, e, hq, by simpa using key 0 _ (by omega) rfl, key 1 _ (by omega) rfl, key 2 _ (by omega) rfl, key 3 _ (by omega) rfl, key 4 _ (by omega) rfl⟩

set_option maxRecDepth 20000 in
theorem newr_any (w : World) : Calls Try.prog 40 #[] w fun e w' => e = .returned (.pointer (some ⟨w.heap.size, 0, none⟩)) ∧ w.alloc (.cells #[.bool true, .slice none 0 0, .int .i64 0] 136) = w' := by
  go_enter Try.func40, Try.ntmps40
  go_wp2
  go_ret
  exact ⟨rfl, rfl⟩
set_option maxRecDepth 20000 in
set_option maxHeartbeats 1000000 in
theorem reset_any (g : Nat) (A : Option Addr) (n c : Nat) (d : Int) (w : World) (h : Blk w g 136 #[.bool true, .slice A n c, .int .i64 d]) (h1 : 0 ≤ d ∧ d ≤ 2305843009213693952) (h2 : n ≤ 2305843009213693952) :
    Calls Try.prog 71 #[.pointer (some ⟨g, 0, none⟩)] w fun e w' => e = .returned (.tuple #[]) ∧ ((w.setCell ⟨g, 2, none⟩ (.int .i64 (d + n))).setCell ⟨g, 1, none⟩ (.slice none 0 0)).drew = w' := by
  have c0 := h.cell 0
  have c1 := h.cell 1
  have c2 := h.cell 2
  have f1 := h.frozen 1
  have f2 := h.frozen 2
  simp at c0 c1 c2
  have l1 : IntKind.i64.wrap (d + (n : Int)) = d + (n : Int) := IntWalk.i64_in _ (by omega)
  go_enter Try.func71, Try.ntmps71
  go_upto_region 1 with fail
  go_still_tail 12, (by kernel_rfl)
  change wpList _ _ _ _ _ w.drew
  go_wp2_with fail
  refine Go.bodyPost_end (v := .tuple #[]) ?_ rfl ?_
  · simp [results, Try.results71, go_sem]
  exact ⟨rfl, rfl⟩
end Go.Proofs.Ytjhkfpemcplaaaa
namespace Go.Proofs.Ytjhkfpemcplaaaa
open Go.RowKit

/-- what the document's reader is: what is kept lies from block N on -/
def XRd (w : World) (g N : Nat) (A : Option Addr) (c : Nat) (kept : List UInt8) (d : Int) : Prop :=
  Blk w g 77 #[.slice A kept.length c, .int .i64 d] ∧ RdB w w.heap.size A kept.length kept ∧ kept.length ≤ c ∧ (∀ ad, A = some ad → N ≤ ad.block)
def RFeedPost (w : World) (g : Nat) (d : Int) (r : List Pk × List UInt8 × Nat) (e : Ending) (w' : World) : Prop :=
  ∃ V qs A' c', e = .returned V ∧ qs.map (·.1) = r.1 ∧ PkRow w' w.heap.size V qs ∧ XRd w' g w.heap.size A' c' r.2.1 (d + (r.2.2 : Nat)) ∧ w.grownBy w' (some g)
/-- between two rounds -/
def LX (w1 : World) (g N : Nat) (d : Int) (all : List UInt8) (Ab : Option Addr) (cb : Nat) (qs : List (Pk × Option Addr × Nat)) (m : Nat) (b : List UInt8) (V : Value) (wr : World) : Prop :=
  b.length ≤ cb ∧ RdB w1 w1.heap.size Ab b.length b ∧ (∀ ad, Ab = some ad → N ≤ ad.block) ∧ w1.grownBy wr (some g) ∧ Blk wr g 77 #[.slice Ab b.length cb, .int .i64 (d + (m : Nat))] ∧ PkRow wr w1.heap.size V qs ∧
    feed all = (qs.map (·.1) ++ (feed b).1, (feed b).2.1, m + (feed b).2.2) ∧ 8 * qs.length + b.length + m ≤ all.length ∧ g < N
section
variable {w1 wr w' : World} {g N : Nat} {V : Value} {d : Int} {all b : List UInt8} {Ab : Option Addr} {cb m : Nat} {qs : List (Pk × Option Addr × Nat)}
theorem LX.ne (h : LX w1 g N d all Ab cb qs m b V wr) : ∀ ad, Ab = some ad → ad.block ≠ g := fun ad e => by
  have h1 := h.2.2.1 ad e
  have h2 := h.2.2.2.2.2.2.2.2
  omega
theorem LX.rd (h : LX w1 g N d all Ab cb qs m b V wr) : RdB wr wr.heap.size Ab b.length b := rd_keep h.2.1 h.ne (Nat.le_refl _) h.2.2.2.1
theorem LX.grown0 (h : LX w1 g N d all Ab cb qs m b V wr) (hg : wr.grownBy w' none) : LX w1 g N d all Ab cb qs m b V w' :=
  ⟨h.1, h.2.1, h.2.2.1, grown_two h.2.2.2.1 hg, h.2.2.2.2.1.grown hg (by simp), h.2.2.2.2.2.1.kept hg, h.2.2.2.2.2.2⟩
theorem LX.drewN (h : LX w1 g N d all Ab cb qs m b V wr) (k : Nat) : LX w1 g N d all Ab cb qs m b V (wr.drewN k) := h.grown0 (only_drewN (World.grownBy.refl wr none) k)
theorem cut_ge {k : Nat} (h : ∀ ad, Ab = some ad → N ≤ ad.block) : ∀ ad, (if cb = k then Ab else Ab.map (·.add k)) = some ad → N ≤ ad.block := by
  intro ad e
  split at e
  · exact h ad e
  · cases Ab with
    | none => cases e
    | some a =>
      simp only [Option.map_some, Option.some.injEq] at e
      rw [← e, block_of_add]
      exact h a rfl
theorem LX.dropped (h : LX w1 g N d all Ab cb qs m b V wr) (hs : stepB b = .drop) (A' : Option Addr) (n' c' : Nat) (v : Int) (hA : A' = if cb = 1 then Ab else Ab.map (·.add 1)) (hn : n' = b.length - 1) (hc : c' = cb - 1) (hv : v = d + (m : Int) + 1) :
    LX w1 g N d all A' c' qs (m + 1) b.tail V ((wr.setCell ⟨g, 0, none⟩ (.slice A' n' c')).setCell ⟨g, 1, none⟩ (.int .i64 v)) := by
  obtain ⟨h1, h2, h3, h4, h5, h6, h7, h8, h9⟩ := h
  have h0 : 0 < b.length := by
    rcases Nat.eq_zero_or_pos b.length with h0 | h0
    · rw [stepB_nil h0] at hs; cases hs
    · exact h0
  have hn2 : n' = b.tail.length := by rw [hn, List.length_tail]
  subst hn2 hv
  have hg1 : wr.grownBy (wr.setCell ⟨g, 0, none⟩ (.slice A' b.tail.length c')) (some g) := only_setCell (p := ⟨g, 0, none⟩) (World.grownBy.refl wr (some g)) (.inl rfl) _
  have hgc : wr.grownBy ((wr.setCell ⟨g, 0, none⟩ (.slice A' b.tail.length c')).setCell ⟨g, 1, none⟩ (.int .i64 (d + (m : Int) + 1))) (some g) := only_setCell (p := ⟨g, 1, none⟩) hg1 (.inl rfl) _
  have hset := (h5.set_ 0 (.slice A' b.tail.length c')).set_ 1 (.int .i64 (d + (m : Int) + 1))
  have hcut := cut_rd h2 (k := 1) (by omega) h1
  rw [List.drop_one] at hcut
  refine ⟨by rw [List.length_tail]; omega, by rw [hA, List.length_tail]; exact hcut, by rw [hA]; exact cut_ge h3, h4.trans hgc, ?_, h6.far h5 (by decide) (by decide) hgc, ?_, by rw [List.length_tail]; omega, h9⟩
  · simp at hset
    rw [show d + ((m + 1 : Nat) : Int) = d + (m : Int) + 1 from by omega]
    simpa using hset
  · rw [h7, feed_drop hs]
    simp only [Prod.mk.injEq, true_and]
    omega
theorem LX.app_grown {w2 w3 : World} (h : LX w1 g N d all Ab cb qs m b V wr) (hg : wr.grownBy w2 none) (hg3 : w2.grownBy w3 V.ownBlock) : w1.grownBy w3 (some g) := by
  have hlt := (h.2.2.2.2.2.1.kept hg).1.lt
  have h42 := grown_two h.2.2.2.1 hg
  refine ⟨hg3.os.trans h42.os, hg3.tape.trans h42.tape, hg3.output.trans h42.output, Nat.le_trans h42.size hg3.size, fun i hi hr => (hg3.block i (Nat.lt_of_lt_of_le hi h42.size) (fun e => ?_)).trans (h42.block i hi hr)⟩
  have := (hlt i e.symm).1
  omega
/-- a frame taken: the row grown -/
theorem LX.row {w2 w3 : World} (h : LX w1 g N d all Ab cb qs m b V wr) (hg : wr.grownBy w2 none) (hg3 : w2.grownBy w3 V.ownBlock) : Blk w3 g 77 #[.slice Ab b.length cb, .int .i64 (d + (m : Nat))] ∧ RdB w3 w3.heap.size Ab b.length b :=
  ⟨(h.2.2.2.2.1.grown hg (by simp)).grown hg3 (fun e => own_blk_ne (h.2.2.2.2.2.1.kept hg).1 (h.2.2.2.2.1.grown hg (by simp)) (by decide) e.symm), rd_keep h.2.1 h.ne (Nat.le_refl _) (h.app_grown hg hg3)⟩
theorem LX.taken {w2 w3 : World} {p : Pk} {k : Nat} (h : LX w1 g N d all Ab cb qs m b V wr) (hs : stepB b = .take p k) {A2 : Option Addr} {c2 : Nat} (hg : wr.grownBy w2 none) (hq : OwnB 5 w2 w1.heap.size (.slice A2 p.body.length c2) p.body)
    (hg3 : w2.grownBy w3 V.ownBlock) {V' : Value} (ho : w3.ownsRow w1.heap.size 39 5 V' (qs.length + 1) (qs.flatMap pqCells ++ pqCells (p, A2, c2))) (A' : Option Addr) (n' c' : Nat) (hA : A' = if cb = k then Ab else Ab.map (·.add k)) (hn : n' = b.length - k) (hc : c' = cb - k) :
    LX w1 g N d all A' c' (qs ++ [(p, A2, c2)]) m (b.drop k) V' (w3.setCell ⟨g, 0, none⟩ (.slice A' n' c')) := by
  have hgg := h.app_grown hg hg3
  have hrow := h.row hg hg3
  obtain ⟨h1, h2, h3, h4, h5, h6, h7, h8, h9⟩ := h
  have hn2 : n' = (b.drop k).length := by rw [hn, List.length_drop]
  subst hn2
  obtain ⟨k8, kl, _, _, _, _⟩ := stepB_take hs
  have hcut := cut_rd h2 (k := k) (by omega) h1
  have h6' := (h6.kept hg).snoc hq hg3 ho
  have hgs : w3.grownBy (w3.setCell ⟨g, 0, none⟩ (.slice A' (b.drop k).length c')) (some g) := only_setCell (p := ⟨g, 0, none⟩) (World.grownBy.refl w3 (some g)) (.inl rfl) _
  have hset := hrow.1.set_ 0 (.slice A' (b.drop k).length c')
  refine ⟨by rw [List.length_drop]; omega, by rw [hA, List.length_drop]; exact hcut, by rw [hA]; exact cut_ge h3, hgg.trans hgs, by simpa using hset, h6'.far hrow.1 (by decide) (by decide) hgs, ?_, by rw [List.length_drop, List.length_append, List.length_singleton]; omega, h9⟩
  rw [h7, feed_take hs]
  simp
end
theorem LX.mu {w1 wr : World} {g N : Nat} {V : Value} {d : Int} {all b : List UInt8} {Ab : Option Addr} {cb m : Nat} {qs : List (Pk × Option Addr × Nat)} (h : LX w1 g N d all Ab cb qs m b V wr) : slLen ((wr.cell? ⟨g, 0, none⟩).getD undef) = b.length := by
  have := h.2.2.2.2.1.cell 0
  rw [this]
  rfl
theorem mu_lt {x y a b : Nat} (h1 : x = a) (h2 : y = b) (h : a < b) : x < y := by omega
theorem own_eq {e : TypeId} {w : World} {base : Nat} {v : Value} {xs ys : List UInt8} (h : OwnB e w base v xs) (he : xs = ys) : OwnB e w base v ys := he ▸ h
theorem rfeed_end {w w1 wr : World} {g : Nat} {V : Value} {d : Int} {all b : List UInt8} {Ab : Option Addr} {cb m : Nat} {qs : List (Pk × Option Addr × Nat)} (hg : w.grownBy w1 (some g)) (hsz : w.heap.size ≤ w1.heap.size) (h : LX w1 g w.heap.size d all Ab cb qs m b V wr)
    (hs : stepB b = .done) : RFeedPost w g d (feed all) (.returned V) wr := by
  have hf := h.2.2.2.2.2.2.1
  rw [feed_done hs] at hf
  rw [hf]
  exact ⟨V, qs, Ab, cb, rfl, by simp, h.2.2.2.2.2.1.base hsz, ⟨by simpa using h.2.2.2.2.1, h.rd, h.1, h.2.2.1⟩, hg.trans h.2.2.2.1⟩
theorem unp_drawR {w : World} {n c : Nat} {A : Option Addr} {b : List UInt8} {er : Nat} {p : Pk} (h : RdB w w.heap.size A n b) (hc : n ≤ c) (hm : n ≤ 9223372036854775807) (hu : unp b = (er, p)) (k : Nat) :
    Calls Try.prog 17 #[.slice A n c] (w.drewN k) (UnpPost w (er, p)) := by
  have := runp_any A n c b (w.drewN k) (h.drewN k) hc hm
  rw [hu] at this
  exact this.mono fun e w' ⟨A2, c2, he, ho, hb⟩ => ⟨A2, c2, he, ho, ⟨hb.os, hb.tape, hb.output, hb.size, hb.block⟩⟩
theorem rfeed_two {w wa wb : World} {g : Nat} {cs : Array Value} {v1 v2 : Value} {xs : List UInt8} (hb : Blk w g 77 cs) (hown : OwnB 5 wa w.heap.size v1 xs) (h1 : App w (.slice none 0 0) wa v1) (h2 : App wa v1 wb v2) : Blk wb g 77 cs ∧ w.grownBy wb none := by
  have hg : w.grownBy wb none := by
    have a1 := h1.1
    have a2 := h2.1
    exact ⟨a2.os.trans a1.os, a2.tape.trans a1.tape, a2.output.trans a1.output, Nat.le_trans a1.size a2.size, fun k hk _ => (a2.block k (Nat.lt_of_lt_of_le hk a1.size) (fun e => by have := (hown.lt k e.symm).1; omega)).trans (a1.block k hk (by simp [Value.ownBlock]))⟩
  exact ⟨hb.grown hg (by simp), hg⟩
theorem rfeed_start {wx : World} {base g N cb : Nat} {d : Int} {all : List UInt8} {Ab : Option Addr} {A : Option Addr} {n c : Nat} (hown : wx.ownsRow base 5 1 (.slice Ab all.length cb) all.length (all.map bv)) (hb : Blk wx g 77 #[.slice A n c, .int .i64 d]) (hcb : all.length ≤ cb) (hN : g < N)
    (hNb : N ≤ base) : LX (wx.setCell ⟨g, 0, none⟩ (.slice Ab all.length cb)) g N d all Ab cb [] 0 all (.slice none 0 0) (wx.setCell ⟨g, 0, none⟩ (.slice Ab all.length cb)) := by
  have h1 := OwnB.far (bs := all) hown hb (by decide) 0 (.slice Ab all.length cb)
  have hset := hb.set_ 0 (.slice Ab all.length cb)
  refine ⟨hcb, Reads.of_own h1, fun ad e => ?_, World.grownBy.refl _ _, by simpa using hset, PkRow.nil _ _, by simp, by simp, hN⟩
  subst e
  have := (hown.lt ad.block (by simp [Value.ownBlock])).1
  omega

set_option maxRecDepth 20000 in
set_option maxHeartbeats 4000000 in
theorem rfeed_any (g N B : Nat) (Ak : Option Addr) (ck : Nat) (kept : List UInt8) (d : Int) (A : Option Addr) (nc c : Nat) (chunk : List UInt8) (w : World) (hX : XRd w g N Ak ck kept d)
    (hr : RdB w B A nc chunk) (hB : B ≤ w.heap.size) (hlen : kept.length + nc ≤ 1099511627776) (hd0 : 0 ≤ d) (hd1 : d ≤ 1152921504606846976) :
    Calls Try.prog 63 #[.pointer (some ⟨g, 0, none⟩), .slice A nc c] w (RFeedPost w g d (feed (kept ++ chunk))) := by
  obtain ⟨hb, hk, hkc, hkb⟩ := hX
  have c0 := hb.cell 0
  simp at c0
  have hcl := hr.len1
  have HB := Lib.hid hb
  have HK := Lib.hid hk
  have HR := Lib.hid hr
  have HALL : Hid ((kept ++ chunk).length ≤ 1099511627776) := Lib.hid (by rw [List.length_append]; omega)
  have HAP : Hid (kept.length + chunk.length ≤ 140737488355328) := Lib.hid (by omega)
  have HAP0 : Hid (([] : List UInt8).length + kept.length ≤ 140737488355328) := Lib.hid (by simp; omega)
  obtain ⟨all, HAL⟩ : ∃ all, Hid (kept ++ chunk = all) := ⟨_, rfl⟩
  rw [HAL.out] at HALL
  have HPOST : Hid (∀ e w', RFeedPost w g d (feed all) e w' → RFeedPost w g d (feed (kept ++ chunk)) e w') := Lib.hid fun e w' h => by rw [HAL.out]; exact h
  clear hb hk hr hcl hlen hkc hkb
  go_enter Try.func63, Try.ntmps63
  go_wp2_with (first | (at_builtin; refine wpList_app rfl (.const (.slice none 0 0)) (.tmp 14) 37 rfl w.heap.size 5 info5 Try.underlying37 _ [] rfl (OwnB.nil 5 w _) _ Ak kept.length ck kept rfl HK.out HAP0.out (Nat.le_refl _) ?_; intro v1 w1 hown1 happ1; have hr1 := HR.out.grown happ1.1 hB (fun k hk => nomatch hk); have hs1 := happ1.size) | (at_builtin; refine wpList_app rfl (.tmp 15) (.tmp 16) 37 rfl w.heap.size 5 info5 Try.underlying37 v1 kept rfl hown1 B A nc c chunk rfl hr1 HAP.out hs1 ?_; intro v2 w2 hown2 happ2; have hown3 := own_eq hown2 HAL.out; clear hown2; obtain ⟨Ab, cb, rfl, hcb, hcm⟩ := OwnB.form hown3; have hw2 := rfeed_two HB.out hown1 happ1 happ2; have cf2 := hw2.1.frozen 0; have cc2 := hw2.1.cell 0; simp at cc2; clear c0 hr1 hs1 happ1 happ2 hown1 hcm))
  have h0 := rfeed_start hown3 hw2.1 hcb HB.out.lt (Nat.le_refl _)
  have HG1 : Hid (w.grownBy (w2.setCell ⟨g, 0, none⟩ (.slice Ab all.length cb)) (some g)) := Lib.hid (only_setCell (p := ⟨g, 0, none⟩) ⟨hw2.2.os, hw2.2.tape, hw2.2.output, hw2.2.size, fun k hk _ => hw2.2.block k hk (by simp)⟩ (.inl rfl) _)
  have HSZ : Hid (w.heap.size ≤ (w2.setCell ⟨g, 0, none⟩ (.slice Ab all.length cb)).heap.size) := Lib.hid HG1.out.size
  generalize w2.setCell ⟨g, 0, none⟩ (.slice Ab all.length cb) = w1 at h0 HG1 HSZ ⊢
  clear hown3 hw2 cf2 cc2 hcb
  go_loopw [5] (fun V wr => ∃ Ab cb qs m b, LX w1 g w.heap.size d all Ab cb qs m b V wr) (fun _ wr => slLen ((wr.cell? ⟨g, 0, none⟩).getD undef))
  case atStart => exact ⟨_, _, _, _, _, h0⟩
  case round =>
    rename_i V wr
    obtain ⟨Ab, cb, qs, m, b, hLK⟩ := hrel
    clear h0
    have hrd := hLK.rd
    have hbl := hLK.2.2.2.2.2.2.2.1
    have hbc := hLK.1
    have hblk := hLK.2.2.2.2.1
    have g0 := hblk.cell 0
    simp at g0
    have HLK := Lib.hid hLK
    clear hLK
    by_cases h0 : b.length = 0
    · have HEND := Lib.hid (rfeed_end HG1.out HSZ.out HLK.out (stepB_nil h0))
      have e0 : decide (0 < b.length) = false := by rw [decide_eq_false_iff_not]; omega
      clear h0 hblk hrd
      go_wp2_with fail
      go_ret
      exact HPOST.out _ _ HEND.out
    · have e0 : decide (0 < b.length) = true := by simp; omega
      have HPOS : Hid (0 < b.length) := Lib.hid (by omega)
      have hi0 : 0 < b.length := by omega
      have H0 := Lib.hid h0
      clear h0
      obtain ⟨bk, off, rfl, k0⟩ := byte_getD hrd (k := 0) (by have := HPOS.out; omega)
      by_cases h1 : b.getD 0 0 = 239
      · rw [h1] at k0
        have q0 : wr.cell? ⟨bk, off, none⟩ = some (.int .u8 239) := by simpa using k0
        clear k0
        by_cases h2 : 1 < b.length
        · have d2 : decide ((1 : Int) < (b.length : Int)) = true := by simp; omega
          have hi1 : (1 : Int) < (b.length : Int) := by omega
          obtain ⟨bk', off', e', k1⟩ := byte_getD hrd (k := 1) h2
          injection e' with e'
          injection e' with e1 e2
          subst e1 e2
          by_cases h3 : b.getD 1 0 = 30
          · rw [h3] at k1
            have q1 : wr.cell? ⟨bk, off + 1, none⟩ = some (.int .u8 30) := by simpa using k1
            clear k1
            by_cases h4 : b.length < 4
            · have d4 : decide ((b.length : Int) < 4) = true := by simp; omega
              have HEND := Lib.hid (rfeed_end HG1.out HSZ.out HLK.out (stepB_short H0.out h1 (.inr h3) h4))
              clear h1 h2 h3 h4 hblk hrd
              go_wp2_with fail
              go_ret
              exact HPOST.out _ _ HEND.out
            · have d4 : decide ((b.length : Int) < 4) = false := by simp; omega
              have hi2 : (2 : Int) < (b.length : Int) := by omega
              have hi3 : (3 : Int) < (b.length : Int) := by omega
              obtain ⟨bk', off', e', k2⟩ := byte_getD hrd (k := 2) (by omega)
              injection e' with e'
              injection e' with e1 e2
              subst e1 e2
              obtain ⟨bk', off', e', k3⟩ := byte_getD hrd (k := 3) (by omega)
              injection e' with e'
              injection e' with e1 e2
              subst e1 e2
              have b2 := u8_lt (b.getD 2 0)
              have b3 := u8_lt (b.getD 3 0)
              have hLb : lenOf b = (b.getD 2 0).toNat + 256 * (b.getD 3 0).toNat := rfl
              by_cases h5 : 1080 < lenOf b
              · have d5 : decide ((1088 : Int) < ((b.getD 2 0).toNat : Int) + 256 * ((b.getD 3 0).toNat : Int) + 8) = true := by simp only [decide_eq_true_eq]; omega
                have HS : Hid (stepB b = .drop) := Lib.hid (stepB_long H0.out h1 (.inr h3) h4 h5)
                have hcb : ¬ cb = 1 := by omega
                clear h1 h2 h3 h4 h5 hblk hrd hLb
                generalize (b.getD 2 0).toNat = x2 at *
                generalize (b.getD 3 0).toNat = x3 at *
                go_wp2_with fail
                go_quiet (fail)
                have HLKd := Lib.hid (HLK.out.drewN nq)
                have hblk2 := HLKd.out.2.2.2.2.1
                have g0 := hblk2.cell 0
                have gf0 := hblk2.frozen 0
                have g1 := hblk2.cell 1
                have gf1 := hblk2.frozen 1
                simp at g0 g1
                have l1 : wrap64 (d + (m : Int) + 1) = d + (m : Int) + 1 := drop_wrap hd0 hd1 (feed_room HLKd.out.2.2.2.2.2.2.2.1 HALL.out).2.2.1 (Nat.le_refl _)
                clear hblk2
                have HD := Lib.hid (HLKd.out.dropped HS.out _ (b.length - 1) (cb - 1) _ (by rw [if_neg hcb]) rfl rfl rfl)
                clear HLKd
                go_wp2_with fail
                go_roundw
                case rel => exact ⟨_, _, _, _, b.tail, HD.out⟩
                case measure => exact mu_lt HD.out.mu HLK.out.mu (by rw [List.length_tail]; have := HPOS.out; omega)
              · have d5 : decide ((1088 : Int) < ((b.getD 2 0).toNat : Int) + 256 * ((b.getD 3 0).toNat : Int) + 8) = false := by simp only [decide_eq_false_iff_not]; omega
                by_cases h6 : b.length < lenOf b + 8
                · have d6 : decide ((b.length : Int) < ((b.getD 2 0).toNat : Int) + 256 * ((b.getD 3 0).toNat : Int) + 8) = true := by simp only [decide_eq_true_eq]; omega
                  have HEND := Lib.hid fun k => rfeed_end HG1.out HSZ.out (HLK.out.drewN k) (stepB_wait H0.out h1 (.inr h3) h4 h5 h6)
                  clear h1 h2 h3 h4 h5 h6 hblk hrd hLb
                  generalize (b.getD 2 0).toNat = x2 at *
                  generalize (b.getD 3 0).toNat = x3 at *
                  go_wp2_with fail
                  go_quiet (fail)
                  go_wp2_with fail
                  go_ret
                  exact HPOST.out _ _ (HEND.out _)
                · have d6 : decide ((b.length : Int) < ((b.getD 2 0).toNat : Int) + 256 * ((b.getD 3 0).toNat : Int) + 8) = false := by simp only [decide_eq_false_iff_not]; omega
                  obtain ⟨⟨er, p⟩, hu⟩ : ∃ r, unp (b.take (lenOf b + 8)) = r := ⟨_, rfl⟩
                  have HU := Lib.hid fun k => unp_drawR (c := cb) (hrd.first (by omega : lenOf b + 8 ≤ b.length)) (by omega) (by omega) hu k
                  have HS := Lib.hid (stepB_whole H0.out h1 (.inr h3) h4 h5 h6 hu)
                  have HB6 := Lib.hid (by omega : lenOf b + 8 ≤ b.length)
                  have l6 : (0 : Int) ≤ ((b.getD 2 0).toNat : Int) + 256 * ((b.getD 3 0).toNat : Int) + 8 := by omega
                  have l7 : ((b.getD 2 0).toNat : Int) + 256 * ((b.getD 3 0).toNat : Int) + 8 ≤ (cb : Int) := by omega
                  have l9 : ((b.getD 2 0).toNat : Int) + 256 * ((b.getD 3 0).toNat : Int) + 8 ≤ (b.length : Int) := by omega
                  have l8 : (((b.getD 2 0).toNat : Int) + 256 * ((b.getD 3 0).toNat : Int) + 8).toNat = lenOf b + 8 := by omega
                  have hcb1 : ¬ cb = 1 := by omega
                  clear h1 h2 h3 h4 h5 h6 hblk hu hLb hrd
                  generalize lenOf b = L at *
                  generalize (b.getD 2 0).toNat = x2 at *
                  generalize (b.getD 3 0).toNat = x3 at *
                  go_wp2_with fail
                  go_quiet (fail)
                  go_wp2_with fail
                  refine (HU.out nq).mono ?_
                  rintro e w2 ⟨A2, c2, rfl, ho2, hb2⟩
                  dsimp only at ho2 ⊢
                  have HS0 := HS
                  go_upto_region 17 with fail
                  have hbx := Blk.new w2 39 #[.int .i64 p.kind, .int .u64 p.tok, .int .u64 p.seq, .int .u64 p.ack, .slice A2 p.body.length c2]
                  have hgx : wr.grownBy (w2.alloc (.cells #[.int .i64 p.kind, .int .u64 p.tok, .int .u64 p.seq, .int .u64 p.ack, .slice A2 p.body.length c2] 39)) none := only_alloc (only_of_below hb2 none) _
                  have ho3 := World.ownsRow.alloc ho2 (.cells #[.int .i64 p.kind, .int .u64 p.tok, .int .u64 p.seq, .int .u64 p.ack, .slice A2 p.body.length c2] 39)
                  have HLKd := Lib.hid (HLK.out.grown0 hgx)
                  generalize w2.alloc (.cells #[.int .i64 p.kind, .int .u64 p.tok, .int .u64 p.seq, .int .u64 p.ack, .slice A2 p.body.length c2] 39) = w3 at hbx hgx ho3 HLKd ⊢
                  generalize w2.heap.size = gx at hbx ⊢
                  clear ho2 hb2 w2 HU
                  by_cases he : er = 0
                  · subst he
                    have HST : Hid (stepB b = .take p (L + 8)) := Lib.hid (by have := HS.out; rwa [if_pos rfl] at this)
                    clear HS HS0
                    have x0 := hbx.cell 0
                    have x1 := hbx.cell 1
                    have y2 := hbx.cell 2
                    have y3 := hbx.cell 3
                    have x4 := hbx.cell 4
                    simp at x0 x1 y2 y3 x4
                    have hpk := (World.ownsRow.alloc HLKd.out.2.2.2.2.2.1.1 (.cells #[.int .i64 p.kind, .int .u64 p.tok, .int .u64 p.seq, .int .u64 p.ack, .slice A2 p.body.length c2] 39))
                    have hr5 := Reads.ofBlk (size := 5) (n := 1) (cs := [.int .i64 p.kind, .int .u64 p.tok, .int .u64 p.seq, .int .u64 p.ack, .slice A2 p.body.length c2]) (Blk.new w3 39 #[.int .i64 p.kind, .int .u64 p.tok, .int .u64 p.seq, .int .u64 p.ack, .slice A2 p.body.length c2]) rfl
                    have HRM := Lib.hid (feed_room HLKd.out.2.2.2.2.2.2.2.1 HALL.out)
                    have hs13 := HLKd.out.2.2.2.1.size
                    have hbs : w1.heap.size ≤ (w3.alloc (.cells #[.int .i64 p.kind, .int .u64 p.tok, .int .u64 p.seq, .int .u64 p.ack, .slice A2 p.body.length c2] 39)).heap.size := by simp; omega
                    have HOQ := Lib.hid (own_base (World.ownsRow.alloc ho3 (.cells #[.int .i64 p.kind, .int .u64 p.tok, .int .u64 p.seq, .int .u64 p.ack, .slice A2 p.body.length c2] 39)) (HLK.out.2.2.2.1.size))
                    clear hbx ho3 hs13
                    go_wp2_with (at_builtin; refine wpList_appE rfl _ _ _ rfl w1.heap.size 39 _ 5 56 info39 Try.underlying119 rfl (by decide) _ _ _ rfl hpk _ _ _ _ _ rfl hr5 (by simp [Value.oneCell']) (by have := HRM.out.1; simp only [maxLen]; omega) (by have := HRM.out.2.1; omega) hbs ?_; intro V2 w5 hown5 hg5; obtain ⟨A5, c5, rfl⟩ := own_form hown5; have hg35 := World.grownBy_alloc w3 (.cells #[.int .i64 p.kind, .int .u64 p.tok, .int .u64 p.seq, .int .u64 p.ack, .slice A2 p.body.length c2] 39) none; have HTK := Lib.hid fun A' n' c' hA hn hc => HLK.out.taken HST.out (grown_two hgx hg35) HOQ.out hg5 hown5 A' n' c' hA hn hc; have hrow := (HLK.out.row (grown_two hgx hg35) hg5).1; have gf5 := hrow.frozen 0; have gc5 := hrow.cell 0; simp at gc5; clear hrow hown5 hg5 hg35 hpk hr5 x0 x1 y2 y3 x4 hbs)
                    have HD := Lib.hid (HTK (if cb = L + 8 then some ⟨bk, off, none⟩ else some ⟨bk, off + (L + 8), none⟩) (b.length - (L + 8)) (cb - (L + 8)) (by split <;> rfl) rfl rfl)
                    go_roundw
                    case rel => exact ⟨_, _, _, _, _, HD.out⟩
                    case measure => exact mu_lt HD.out.mu HLK.out.mu (by rw [List.length_drop]; have := HPOS.out; omega)
                  · have t3 : ((er : Int) != 0) = true := by rw [bne_iff_ne]; omega
                    have HS : Hid (stepB b = .drop) := Lib.hid (by have := HS0.out; rwa [if_neg he] at this)
                    clear HS0 he hbx hgx ho3 q0 q1
                    have hcb := hcb1
                    have hblk2 := HLKd.out.2.2.2.2.1
                    have g0 := hblk2.cell 0
                    have gf0 := hblk2.frozen 0
                    have g1 := hblk2.cell 1
                    have gf1 := hblk2.frozen 1
                    simp at g0 g1
                    have l1 : wrap64 (d + (m : Int) + 1) = d + (m : Int) + 1 := drop_wrap hd0 hd1 (feed_room HLKd.out.2.2.2.2.2.2.2.1 HALL.out).2.2.1 (Nat.le_refl _)
                    clear hblk2
                    have HD := Lib.hid (HLKd.out.dropped HS.out _ (b.length - 1) (cb - 1) _ (by rw [if_neg hcb]) rfl rfl rfl)
                    clear HLKd
                    go_wp2_with fail
                    go_roundw
                    case rel => exact ⟨_, _, _, _, b.tail, HD.out⟩
                    case measure => exact mu_lt HD.out.mu HLK.out.mu (by rw [List.length_tail]; have := HPOS.out; omega)
          · have t1 : (((b.getD 1 0).toNat : Int) == 30) = false := getD_ne h3
            have HS : Hid (stepB b = .drop) := Lib.hid (stepB_head H0.out (.inr ⟨h2, h3⟩))
            have hcb : ¬ cb = 1 := by omega
            clear h1 h2 h3 hblk hrd
            have t2 : (((b.getD 1 0).toNat : Int) != 30) = true := by rw [bne, t1]; rfl
            generalize b.getD 1 0 = x1 at k1 t1 t2
            have HLKd := HLK
            have hblk2 := HLKd.out.2.2.2.2.1
            have g0 := hblk2.cell 0
            have gf0 := hblk2.frozen 0
            have g1 := hblk2.cell 1
            have gf1 := hblk2.frozen 1
            simp at g0 g1
            have l1 : wrap64 (d + (m : Int) + 1) = d + (m : Int) + 1 := drop_wrap hd0 hd1 (feed_room HLKd.out.2.2.2.2.2.2.2.1 HALL.out).2.2.1 (Nat.le_refl _)
            clear hblk2
            have HD := Lib.hid (HLKd.out.dropped HS.out _ (b.length - 1) (cb - 1) _ (by rw [if_neg hcb]) rfl rfl rfl)
            clear HLKd
            go_wp2_with fail
            go_roundw
            case rel => exact ⟨_, _, _, _, b.tail, HD.out⟩
            case measure => exact mu_lt HD.out.mu HLK.out.mu (by rw [List.length_tail]; have := HPOS.out; omega)
        · have d2 : decide ((1 : Int) < (b.length : Int)) = false := by simp; omega
          have d4 : decide ((b.length : Int) < 4) = true := by simp; omega
          have HEND := Lib.hid (rfeed_end HG1.out HSZ.out HLK.out (stepB_short H0.out h1 (.inl h2) (by omega)))
          clear h1 h2 hblk hrd
          go_wp2_with fail
          go_ret
          exact HPOST.out _ _ HEND.out
      · have t0 : (((b.getD 0 0).toNat : Int) == 239) = false := getD_ne h1
        have q0 : wr.cell? ⟨bk, off, none⟩ = some (.int .u8 ((b.getD 0 0).toNat : Int)) := by simpa using k0
        have HS : Hid (stepB b = .drop) := Lib.hid (stepB_head H0.out (.inl h1))
        have t2 : (((b.getD 0 0).toNat : Int) != 239) = true := by rw [bne, t0]; rfl
        clear h1 hblk hrd k0 hbc
        generalize b.getD 0 0 = x1 at q0 t0 t2
        have HLKd := HLK
        have hblk2 := HLKd.out.2.2.2.2.1
        have g0 := hblk2.cell 0
        have gf0 := hblk2.frozen 0
        have g1 := hblk2.cell 1
        have gf1 := hblk2.frozen 1
        simp at g0 g1
        have l1 : wrap64 (d + (m : Int) + 1) = d + (m : Int) + 1 := drop_wrap hd0 hd1 (feed_room HLKd.out.2.2.2.2.2.2.2.1 HALL.out).2.2.1 (Nat.le_refl _)
        clear hblk2
        by_cases hcb : cb = 1
        · subst hcb
          have HD := Lib.hid (HLKd.out.dropped HS.out _ (b.length - 1) 0 _ (by rw [if_pos rfl]) rfl rfl rfl)
          clear HLKd
          go_wp2_with fail
          go_roundw
          case rel => exact ⟨_, _, _, _, b.tail, HD.out⟩
          case measure => exact mu_lt HD.out.mu HLK.out.mu (by rw [List.length_tail]; have := HPOS.out; omega)
        · have HD := Lib.hid (HLKd.out.dropped HS.out _ (b.length - 1) (cb - 1) _ (by rw [if_neg hcb]) rfl rfl rfl)
          clear HLKd
          go_wp2_with fail
          go_roundw
          case rel => exact ⟨_, _, _, _, b.tail, HD.out⟩
          case measure => exact mu_lt HD.out.mu HLK.out.mu (by rw [List.length_tail]; have := HPOS.out; omega)
end Go.Proofs.Ytjhkfpemcplaaaa
