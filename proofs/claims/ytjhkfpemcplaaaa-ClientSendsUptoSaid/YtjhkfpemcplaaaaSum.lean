/-
  Contracts of the two Sum functions of this seat (the program's and the document's): both tell 'crc' of the bytes, and leave the world alone.
-/
import Derived.Test.YtjhkfpemcplaaaaCrc
namespace Go.Proofs.Ytjhkfpemcplaaaa
open Go.RowKit

theorem xor_u32 {a b : Nat} (ha : a < 4294967296) (hb : b < 256) : bits .xor .u32 (a : Int) ((b : Int) % 4294967296) = ((a ^^^ b : Nat) : Int) := by
  have e : (b : Int) % 4294967296 = (b : Int) := by omega
  rw [e]
  exact u32_xor_nat a b ha (by omega)
theorem and1_u32 {a : Nat} (ha : a < 4294967296) : bits .and .u32 (a : Int) 1 = ((a % 2 : Nat) : Int) := by
  have h := u32_and_nat a 1 ha (by omega)
  rw [Nat.and_one_is_mod] at h
  exact h
theorem poly_u32 {a : Nat} (ha : a < 4294967296) : bits .xor .u32 ((a : Int) / 2) 3988292384 = ((a / 2 ^^^ 3988292384 : Nat) : Int) :=
  u32_xor_nat (a / 2) 3988292384 (by omega) (by omega)
theorem not_u32 {a : Nat} (ha : a < 4294967296) : bits .xor .u32 IntKind.u32.max (a : Int) = ((4294967295 - a : Nat) : Int) := by
  have h := u32_xor_nat 4294967295 a (by omega) ha
  rw [show (4294967295 : Nat) ^^^ a = 4294967295 - a from ?_] at h
  · exact h
  · apply Nat.eq_of_testBit_eq
    intro i
    rw [Nat.testBit_xor, show (4294967295 : Nat) = 2 ^ 32 - (0 + 1) from rfl, show 2 ^ 32 - (0 + 1) - a = 2 ^ 32 - (a + 1) from by omega, Nat.testBit_two_pow_sub_succ (by omega), Nat.testBit_two_pow_sub_succ (by omega)]
    by_cases h : i < 32
    · simp [h]
    · simp only [h, decide_false, Bool.false_xor, Bool.false_and]
      exact Nat.testBit_lt_two_pow (Nat.lt_of_lt_of_le ha (Nat.pow_le_pow_right (n := 2) (i := 32) (by omega) (by omega : 32 ≤ i)))

set_option maxHeartbeats 400000 in
theorem sum_any (A : Option Addr) (n c B : Nat) (bs : List UInt8) (w : World) (h : RdB w B A n bs) (hn : n ≤ 9223372036854775807) :
    Calls Try.prog 87 #[.slice A n c] w fun e w' => e = .returned (.int .u32 (crc bs : Nat)) ∧ w = w' := by
  have hl := h.len1
  go_enter Try.func87, Try.ntmps87
  go_wp2
  go_loop [3, 5, 6, 9] (fun s _ _ i => ∃ k : Nat, k ≤ n ∧ i = .int .i64 k ∧ s = .int .u32 (crcF 4294967295 (bs.take k) : Nat)) (fun _ _ _ i => n - (intOf i).toNat)
  case atStart => exact ⟨0, Nat.zero_le _, rfl, rfl⟩
  case round =>
    obtain ⟨k, hk, rfl, rfl⟩ := hrel
    by_cases hlt : k < n
    · obtain ⟨ad, x, rfl, hb, hx, hc⟩ := h.byte hlt
      have hs : crcF 4294967295 (bs.take k) < 4294967296 := crcF_lt _ (by omega)
      have HT := Lib.hid (crcF_take 4294967295 bs k x hx)
      generalize crcF 4294967295 (bs.take k) = S at hs HT ⊢
      have hx1 := xor_u32 hs (u8_lt x)
      go_wp2
      clear hx1
      go_loop [3, 6, 17] (fun s _ j => ∃ t : Nat, t ≤ 8 ∧ j = .int .i64 t ∧ s = .int .u32 (crc8 t (S ^^^ x.toNat) : Nat)) (fun _ _ j => 8 - (intOf j).toNat)
      case atStart => exact ⟨0, Nat.zero_le _, rfl, rfl⟩
      case round =>
        obtain ⟨t, ht, rfl, rfl⟩ := hrel
        have hq : crc8 t (S ^^^ x.toNat) < 4294967296 := crc8_lt (xor_lt hs (u8_lt x)) t
        have HQ : Hid (crc8 (t + 1) (S ^^^ x.toNat) = crc1 (crc8 t (S ^^^ x.toNat))) := Lib.hid rfl
        by_cases hlt8 : t < 8
        · generalize crc8 t (S ^^^ x.toNat) = q at hq HQ ⊢
          have ha := and1_u32 hq
          have hp := poly_u32 hq
          by_cases ho : q % 2 = 1
          · have HO := Lib.hid (crc1_odd ho)
            have hd : (((q % 2 : Nat) : Int) == 1) = true := by rw [ho]; rfl
            go_wp2
            go_round
            case rel => exact ⟨t + 1, by omega, by go_num, by rw [HQ.out, HO.out]⟩
            case measure => simp [intOf]; omega
          · have HO := Lib.hid (crc1_even ho)
            have hd : (((q % 2 : Nat) : Int) == 1) = false := by rw [show q % 2 = 0 from by omega]; rfl
            clear ho
            go_wp2
            go_round
            case rel => exact ⟨t + 1, by omega, by go_num, by rw [HQ.out, HO.out]; go_num⟩
            case measure => simp [intOf]; omega
        · obtain rfl : t = 8 := by omega
          go_wp2
          go_round
          case rel => exact ⟨k + 1, by omega, by go_num, by rw [HT.out]⟩
          case measure => simp [intOf]; omega
    · have hs : crcF 4294967295 (bs.take k) < 4294967296 := crcF_lt _ (by omega)
      have hf := not_u32 hs
      have HE : Hid (bs.take k = bs) := Lib.hid (List.take_of_length_le (by omega))
      go_wp2
      go_ret
      exact ⟨by rw [HE.out]; rfl, rfl⟩
set_option maxHeartbeats 400000 in
theorem rsum_any (A : Option Addr) (n c B : Nat) (bs : List UInt8) (w : World) (h : RdB w B A n bs) (hn : n ≤ 9223372036854775807) :
    Calls Try.prog 44 #[.slice A n c] w fun e w' => e = .returned (.int .u32 (crc bs : Nat)) ∧ w = w' := by
  have hl := h.len1
  go_enter Try.func44, Try.ntmps44
  go_wp2
  go_loop [3, 5, 6, 9] (fun s _ _ i => ∃ k : Nat, k ≤ n ∧ i = .int .i64 k ∧ s = .int .u32 (crcF 4294967295 (bs.take k) : Nat)) (fun _ _ _ i => n - (intOf i).toNat)
  case atStart => exact ⟨0, Nat.zero_le _, rfl, rfl⟩
  case round =>
    obtain ⟨k, hk, rfl, rfl⟩ := hrel
    by_cases hlt : k < n
    · obtain ⟨ad, x, rfl, hb, hx, hc⟩ := h.byte hlt
      have hs : crcF 4294967295 (bs.take k) < 4294967296 := crcF_lt _ (by omega)
      have HT := Lib.hid (crcF_take 4294967295 bs k x hx)
      generalize crcF 4294967295 (bs.take k) = S at hs HT ⊢
      have hx1 := xor_u32 hs (u8_lt x)
      go_wp2
      clear hx1
      go_loop [3, 6] (fun s j => ∃ t : Nat, t ≤ 8 ∧ j = .int .i64 t ∧ s = .int .u32 (crc8 t (S ^^^ x.toNat) : Nat)) (fun _ j => 8 - (intOf j).toNat)
      case atStart => exact ⟨0, Nat.zero_le _, rfl, rfl⟩
      case round =>
        obtain ⟨t, ht, rfl, rfl⟩ := hrel
        have hq : crc8 t (S ^^^ x.toNat) < 4294967296 := crc8_lt (xor_lt hs (u8_lt x)) t
        have HQ : Hid (crc8 (t + 1) (S ^^^ x.toNat) = crc1 (crc8 t (S ^^^ x.toNat))) := Lib.hid rfl
        by_cases hlt8 : t < 8
        · generalize crc8 t (S ^^^ x.toNat) = q at hq HQ ⊢
          have hp := poly_u32 hq
          by_cases ho : q % 2 = 1
          · have HO := Lib.hid (crc1_odd ho)
            have hd : ((q : Int) % 2 == 1) = true := by rw [beq_iff_eq]; omega
            clear ho
            go_wp2
            go_round
            case rel => exact ⟨t + 1, by omega, by go_num, by rw [HQ.out, HO.out]⟩
            case measure => simp [intOf]; omega
          · have HO := Lib.hid (crc1_even ho)
            have hd : ((q : Int) % 2 == 1) = false := by rw [beq_eq_false_iff_ne]; omega
            clear ho
            go_wp2
            go_round
            case rel => exact ⟨t + 1, by omega, by go_num, by rw [HQ.out, HO.out]; go_num⟩
            case measure => simp [intOf]; omega
        · obtain rfl : t = 8 := by omega
          go_wp2
          go_round
          case rel => exact ⟨k + 1, by omega, by go_num, by rw [HT.out]⟩
          case measure => simp [intOf]; omega
    · have hs : crcF 4294967295 (bs.take k) < 4294967296 := crcF_lt _ (by omega)
      have HE : Hid (bs.take k = bs) := Lib.hid (List.take_of_length_le (by omega))
      go_wp2
      go_ret
      refine ⟨ret_int ?_, rfl⟩
      rw [HE.out] at hs ⊢
      unfold crc
      omega
end Go.Proofs.Ytjhkfpemcplaaaa
