/-
  What was written is read back, plain mathematics on lists: counts, numbers, values, texts, commands, replies, packets.
-/
import Derived.Test.YtjhkfpemcplaaaaPlain
import Derived.Test.YtjhkfpemcplaaaaUnp
namespace Go.Proofs.Ytjhkfpemcplaaaa
open Go.RowKit

theorem u8_toNat_ofNat {n : Nat} (h : n < 256) : (UInt8.ofNat n).toNat = n := by simp [UInt8.toNat_ofNat']; omega
theorem cntS_dec (f : Nat) : ∀ (i n v : Nat) (rest : List UInt8), f + 1 + i = 10 → v < 2 * 128 ^ f → (0 < i → 0 < v) → cntS (f + 1) i n (encF f v ++ rest) false = (n + v * 2 ^ (7 * i), rest, false) := by
  induction f with
  | zero =>
    intro i n v rest hi hv h0
    have : i = 9 := by omega
    subst this
    have hv2 : v < 2 := by simpa using hv
    have h0 := h0 (by omega)
    obtain rfl : v = 1 := by omega
    simp [encF, cntS, byteV]
  | succ f ih =>
    intro i n v rest hi hv h0
    rw [encF_succ]
    by_cases hs : v < 128
    · rw [if_pos hs]
      have e : byteV (UInt8.ofNat v :: rest) = v := u8_toNat_ofNat (by omega)
      have h9 : (i == 9) = false := by simp; omega
      have hz : (decide (0 < i) && (v == 0)) = false := by
        by_cases hp : 0 < i
        · have := h0 hp; simp; omega
        · simp [hp]
      rw [List.singleton_append, cntS_end (by rw [e, h9, hz]; rfl) (by rw [e]; exact hs), e, Nat.mod_eq_of_lt hs]
      rfl
    · rw [if_neg hs]
      have e : byteV (UInt8.ofNat (v % 128 + 128) :: (encF f (v / 128) ++ rest)) = v % 128 + 128 := u8_toNat_ofNat (by omega)
      have h9 : (i == 9) = false := by simp; omega
      have hz : (decide (0 < i) && (v % 128 + 128 == 0)) = false := by simp
      rw [List.cons_append, cntS_on (by rw [e, h9, hz]; rfl) (by rw [e]; omega), e]
      have hd : v / 128 < 2 * 128 ^ f := by
        rw [Nat.pow_succ] at hv
        exact Nat.div_lt_of_lt_mul (by omega)
      show cntS (f + 1) (i + 1) _ (encF f (v / 128) ++ rest) false = _
      rw [ih (i + 1) _ (v / 128) rest (by omega) hd (fun _ => by omega), pow7_succ]
      have h1 : (v % 128 + 128) % 128 = v % 128 := by omega
      have h2 : v = v % 128 + 128 * (v / 128) := by omega
      rw [h1]
      congr 1
      conv => rhs; rw [h2, Nat.add_mul]
      rw [Nat.add_assoc, Nat.mul_assoc 128, Nat.mul_left_comm 128]
theorem cnt_dec {v : Nat} (rest : List UInt8) (h : v < 18446744073709551616) : cnt (enc v ++ rest) false = (v, rest, false) := by
  have := cntS_dec 9 0 0 v rest rfl (by omega) (fun h => by omega)
  simpa [cnt, enc] using this
theorem unzig_zig {z : Int} : unzig (zig z) = z := by
  unfold zig
  split
  · unfold unzig; rw [if_pos (by omega)]; omega
  · unfold unzig; rw [if_neg (by omega)]; omega
theorem zig_lt' {z : Int} (h : I64 z) : zig z < 18446744073709551616 := zig_lt h
theorem valsD_dec (vs : List (Nat × Int)) : ∀ (rest : List UInt8), (∀ v ∈ vs, v.1 < 18446744073709551616 ∧ I64 v.2) → okV vs → valsD vs.length (vs.flatMap valB ++ rest) false = (vs, rest, false) := by
  induction vs with
  | nil => intro rest _ _; rfl
  | cons v l ih =>
    intro rest h hok
    obtain ⟨hv1, hv2⟩ := h v (by simp)
    have ho := hok v (by simp)
    have hrec := ih rest (fun y hy => h y (by simp [hy])) (fun y hy => hok y (by simp [hy]))
    have e : ((v :: l).flatMap valB ++ rest) = enc v.1 ++ ((if v.1 = 0 then enc (zig v.2) else []) ++ (l.flatMap valB ++ rest)) := by simp [valB]
    have hv : valD ((v :: l).flatMap valB ++ rest) false = (v, l.flatMap valB ++ rest, false) := by
      obtain ⟨h1, h2⟩ := v
      dsimp only at e ho hv1 hv2
      rw [e]
      unfold valD
      rw [cnt_dec _ hv1]
      dsimp only
      by_cases h0 : h1 = 0
      · subst h0
        rw [if_pos rfl, if_pos rfl, cnt_dec _ (zig_lt' hv2)]
        dsimp only
        rw [unzig_zig]
      · rw [if_neg h0, if_neg h0]
        have : h2 = 0 := by rcases ho with h | h <;> first | exact absurd h h0 | exact h
        subst this
        rfl
    rw [List.length_cons, valsD, if_neg (by decide), hv]
    dsimp only
    rw [hrec]
theorem txtP_dec (t : List UInt8) (h : t.length ≤ 512) : txtP (enc t.length ++ t) false = (t, [], false) := by
  unfold txtP
  rw [cnt_dec _ (by omega)]
  dsimp only
  rw [if_neg (by omega), if_pos (Nat.le_refl _)]
  simp
/-- a reply that may be is read as it was written -/
theorem rep_dec (err : Int) (vs : List (Nat × Int)) (text : List UInt8) (he : I64 err) (hv : ∀ v ∈ vs, v.1 < 18446744073709551616 ∧ I64 v.2) (hg : goodR err vs text) :
    unzig (cnt (replyB err vs text) false).1 = err ∧ (repV (replyB err vs text)).1 = vs ∧ repT (replyB err vs text) = (text, [], false) := by
  obtain ⟨h32, h512, hok, _⟩ := hg
  have e : replyB err vs text = enc (zig err) ++ (UInt8.ofNat vs.length :: (vs.flatMap valB ++ (enc text.length ++ text))) := by simp [replyB]
  have eC : cnt (replyB err vs text) false = (zig err, UInt8.ofNat vs.length :: (vs.flatMap valB ++ (enc text.length ++ text)), false) := by
    rw [e]
    exact cnt_dec _ (zig_lt' he)
  have eV : repV (replyB err vs text) = (vs, enc text.length ++ text, false) := by
    unfold repV
    rw [eC]
    dsimp only
    have : byteV (UInt8.ofNat vs.length :: (vs.flatMap valB ++ (enc text.length ++ text))) = vs.length := u8_toNat_ofNat (by omega)
    rw [this]
    exact valsD_dec vs _ hv hok
  refine ⟨by rw [eC]; exact unzig_zig, by rw [eV], ?_⟩
  unfold repT
  rw [eV]
  exact txtP_dec text h512

theorem le4_len (s : Nat) : (le4 s).length = 4 := rfl
theorem head_len (m : Nat) : (headB m).length = 4 := rfl
theorem frame_len (inner : List UInt8) : (frameB inner).length = inner.length + 8 := by simp [frameB, le4_len, head_len]; omega
theorem inner_len (k : Int) (t s a : Nat) (body : List UInt8) (h : body.length ≤ 1024) : 4 ≤ (innerB k t s a body).length ∧ (innerB k t s a body).length ≤ 1080 := by
  have h1 := enc_pos t
  have h2 := enc_pos s
  have h3 := enc_pos a
  have g1 := enc_le t
  have g2 := enc_le s
  have g3 := enc_le a
  unfold innerB
  simp only [List.length_cons, List.length_append]
  omega
theorem frame_take (inner : List UInt8) : (frameB inner).take ((frameB inner).length - 4) = headB inner.length ++ inner := by
  have : (frameB inner).length - 4 = (headB inner.length ++ inner).length := by rw [frame_len, List.length_append, head_len]; omega
  rw [this]
  unfold frameB
  exact List.take_left
theorem frame_drop (inner : List UInt8) : (frameB inner).drop ((frameB inner).length - 4) = le4 (crc (headB inner.length ++ inner)) := by
  have : (frameB inner).length - 4 = (headB inner.length ++ inner).length := by rw [frame_len, List.length_append, head_len]; omega
  rw [this]
  unfold frameB
  exact List.drop_left
theorem frame_head (inner : List UInt8) (h : inner.length < 65536) : (frameB inner).getD 0 0 = 239 ∧ (frameB inner).getD 1 0 = 30 ∧ lenOf (frameB inner) = inner.length := by
  have e : frameB inner = 239 :: 30 :: UInt8.ofNat inner.length :: UInt8.ofNat (inner.length / 256) :: (inner ++ le4 (crc (headB inner.length ++ inner))) := by simp [frameB, headB]
  refine ⟨by rw [e]; rfl, by rw [e]; rfl, ?_⟩
  unfold lenOf
  rw [e]
  show (UInt8.ofNat inner.length).toNat + 256 * (UInt8.ofNat (inner.length / 256)).toNat = _
  rw [u8_toNat_ofNat (n := inner.length / 256) (by omega), UInt8.toNat_ofNat']
  omega
theorem frame_mid (inner : List UInt8) : midB (frameB inner) = inner := by
  unfold midB
  rw [frame_take]
  rfl
/-- a packet that may be is read as it was written -/
theorem unp_dec (k : Int) (t s a : Nat) (body : List UInt8) (ht : t < 18446744073709551616) (hs : s < 18446744073709551616) (ha : a < 18446744073709551616) (hm : mayB k body.length = true) :
    unp (packB k t s a body) = (0, ⟨k.toNat, t, s, a, body⟩) := by
  obtain ⟨k1, k7, hb⟩ := mayB_no hm
  obtain ⟨i4, i1080⟩ := inner_len k t s a body hb
  have hp : parse (innerB k t s a body) = (⟨k.toNat, t, s, a, body⟩, false) := by
    have e : innerB k t s a body = UInt8.ofNat k.toNat :: (enc t ++ (enc s ++ (enc a ++ body))) := by simp [innerB]
    rw [e]
    unfold parse
    simp only [List.tail_cons, List.isEmpty_cons]
    rw [cnt_dec _ ht]
    dsimp only
    rw [cnt_dec _ hs]
    dsimp only
    rw [cnt_dec _ ha]
    have : byteV (UInt8.ofNat k.toNat :: (enc t ++ (enc s ++ (enc a ++ body)))) = k.toNat := u8_toNat_ofNat (by omega)
    rw [this]
  unfold packB unp
  obtain ⟨f0, f1, f2⟩ := frame_head (innerB k t s a body) (by omega)
  rw [if_neg (by
    rw [frame_len, f0, f1, f2]
    rintro (h | h | h | h)
    · omega
    · exact h rfl
    · exact h rfl
    · exact h rfl)]
  rw [if_neg (by rw [frame_drop, frame_take]; exact fun h => h rfl), frame_mid, hp]
  have hk : ((k.toNat : Nat) : Int) = k := by omega
  rw [if_neg (by
    dsimp only
    rw [hk, hm]
    rintro (h | h) <;> cases h)]
end Go.Proofs.Ytjhkfpemcplaaaa
