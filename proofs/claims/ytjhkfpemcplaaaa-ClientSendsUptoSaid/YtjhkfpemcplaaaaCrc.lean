/-
  The checksum as plain mathematics on lists of bytes; the contracts of the two Sum functions of this seat.
-/
import Derived.Test.YtjhkfpemcplaaaaWords
import Derived.Test.YtjhkfpemcplaaaaChecked
import Derived.Outline
import Derived.WalkLawsBesides
namespace Go.Proofs.Ytjhkfpemcplaaaa
open Go.RowKit

/-- one bit of the division -/
def crc1 (s : Nat) : Nat := if s % 2 = 1 then (s / 2) ^^^ 3988292384 else s / 2
def crc8 : Nat → Nat → Nat
  | 0, s => s
  | k + 1, s => crc1 (crc8 k s)
def crcF (s : Nat) (bs : List UInt8) : Nat := bs.foldl (fun s x => crc8 8 (s ^^^ x.toNat)) s
def crc (bs : List UInt8) : Nat := 4294967295 - crcF 4294967295 bs

theorem crc1_lt {s : Nat} (h : s < 4294967296) : crc1 s < 4294967296 := by
  unfold crc1
  split
  · exact Nat.xor_lt_two_pow (n := 32) (by omega) (by omega)
  · omega
theorem crc8_lt {s : Nat} (h : s < 4294967296) (k : Nat) : crc8 k s < 4294967296 := by
  induction k with
  | zero => exact h
  | succ k ih => exact crc1_lt ih
theorem xor_lt {s x : Nat} (h : s < 4294967296) (hx : x < 256) : s ^^^ x < 4294967296 := Nat.xor_lt_two_pow (n := 32) h (by omega)
theorem crcF_lt (bs : List UInt8) : ∀ {s : Nat}, s < 4294967296 → crcF s bs < 4294967296 := by
  induction bs with
  | nil => intro s h; exact h
  | cons x l ih => intro s h; exact ih (crc8_lt (xor_lt h (u8_lt x)) 8)
theorem crcF_snoc (s : Nat) (bs : List UInt8) (x : UInt8) : crcF s (bs ++ [x]) = crc8 8 (crcF s bs ^^^ x.toNat) := by simp [crcF]
theorem crcF_take (s : Nat) (bs : List UInt8) (k : Nat) (x : UInt8) (h : bs[k]? = some x) : crcF s (bs.take (k + 1)) = crc8 8 (crcF s (bs.take k) ^^^ x.toNat) := by
  rw [List.take_add_one, h]; exact crcF_snoc _ _ _
theorem crc_lt (bs : List UInt8) : crc bs < 4294967296 := by unfold crc; omega
theorem crc1_odd {s : Nat} (h : s % 2 = 1) : crc1 s = (s / 2) ^^^ 3988292384 := by unfold crc1; rw [if_pos h]
theorem crc1_even {s : Nat} (h : ¬ s % 2 = 1) : crc1 s = s / 2 := by unfold crc1; rw [if_neg h]

end Go.Proofs.Ytjhkfpemcplaaaa
