/-
  Counts read back, plain mathematics on lists.
-/
import Derived.Test.YtjhkfpemcplaaaaEnc
namespace Go.Proofs.Ytjhkfpemcplaaaa
open Go.RowKit

def byteV : List UInt8 → Nat
  | [] => 0
  | x :: _ => x.toNat
theorem byteV_lt (l : List UInt8) : byteV l < 256 := by
  cases l with
  | nil => simp [byteV]
  | cons x l => exact u8_lt x
/-- one count, from round i on: the number, what is left, whether something was bad -/
def cntS : Nat → Nat → Nat → List UInt8 → Bool → Nat × List UInt8 × Bool
  | 0, _, _, l, _ => (0, l, true)
  | f + 1, i, n, l, b =>
    if (b || l.isEmpty) || (i == 9 && decide (1 < byteV l)) || (decide (0 < i) && byteV l == 0) then (0, l.tail, true)
    else if byteV l < 128 then (n + byteV l % 128 * 2 ^ (7 * i), l.tail, false)
    else cntS f (i + 1) (n + byteV l % 128 * 2 ^ (7 * i)) l.tail false
def cnt (l : List UInt8) (b : Bool) : Nat × List UInt8 × Bool := cntS 10 0 0 l b

theorem cntS_bad {f i n : Nat} {l : List UInt8} {b : Bool} (h : ((b || l.isEmpty) || (i == 9 && decide (1 < byteV l)) || (decide (0 < i) && byteV l == 0)) = true) : cntS (f + 1) i n l b = (0, l.tail, true) := by
  rw [cntS, if_pos h]
theorem cntS_end {f i n : Nat} {l : List UInt8} {b : Bool} (h : ((b || l.isEmpty) || (i == 9 && decide (1 < byteV l)) || (decide (0 < i) && byteV l == 0)) = false) (hx : byteV l < 128) :
    cntS (f + 1) i n l b = (n + byteV l % 128 * 2 ^ (7 * i), l.tail, false) := by
  rw [cntS, if_neg (by rw [h]; simp), if_pos hx]
theorem cntS_on {f i n : Nat} {l : List UInt8} {b : Bool} (h : ((b || l.isEmpty) || (i == 9 && decide (1 < byteV l)) || (decide (0 < i) && byteV l == 0)) = false) (hx : ¬ byteV l < 128) :
    cntS (f + 1) i n l b = cntS f (i + 1) (n + byteV l % 128 * 2 ^ (7 * i)) l.tail false := by
  rw [cntS, if_neg (by rw [h]; simp), if_neg hx]

/-- what the machine's numbers come to -/
theorem and127 {x : Nat} (h : x < 256) : bits .and .u8 (x : Int) 127 = ((x % 128 : Nat) : Int) := by
  have h1 := u8_and_nat x 127 h (by omega)
  have e : ∀ r : Nat, r < 256 → r &&& 127 = r % 128 := by decide +kernel
  rw [e _ h] at h1
  exact h1
theorem pow7_lt {i y : Nat} (hi : i ≤ 9) (hy : y < 128) (h9 : i = 9 → y ≤ 1) : y * 2 ^ (7 * i) < 18446744073709551616 := by
  have : i = 0 ∨ i = 1 ∨ i = 2 ∨ i = 3 ∨ i = 4 ∨ i = 5 ∨ i = 6 ∨ i = 7 ∨ i = 8 ∨ i = 9 := by omega
  rcases this with rfl | rfl | rfl | rfl | rfl | rfl | rfl | rfl | rfl | rfl
  all_goals first | (have := h9 rfl; omega) | omega
theorem shl7 {i y : Nat} (hi : i ≤ 9) (hy : y < 128) (h9 : i = 9 → y ≤ 1) : IntKind.u64.wrap ((y : Int) * 2 ^ min (7 * (i : Int)).toNat 64) = ((y * 2 ^ (7 * i) : Nat) : Int) := by
  have h := pow7_lt hi hy h9
  rw [show min (7 * (i : Int)).toNat 64 = 7 * i from by omega, IntKind.wrap_u64]
  have e : (y : Int) * 2 ^ (7 * i) = ((y * 2 ^ (7 * i) : Nat) : Int) := by simp
  rw [e]
  omega
theorem or7 {i n y : Nat} (hi : i ≤ 9) (hn : n < 2 ^ (7 * i)) (hy : y < 128) (h9 : i = 9 → y ≤ 1) :
    bits .or .u64 (n : Int) ((y * 2 ^ (7 * i) : Nat) : Int) = ((n + y * 2 ^ (7 * i) : Nat) : Int) := by
  have h := pow7_lt hi hy h9
  have hn64 : n < 18446744073709551616 := by
    have : 2 ^ (7 * i) ≤ 2 ^ 63 := Nat.pow_le_pow_right (by omega) (by omega)
    omega
  rw [u64_or_nat n (y * 2 ^ (7 * i)) hn64 h]
  have := Nat.two_pow_add_eq_or_of_lt hn y
  rw [Nat.mul_comm (2 ^ (7 * i)) y] at this
  rw [Nat.or_comm, ← this, Nat.add_comm]
theorem shl7' {i x : Nat} (hi : i ≤ 9) (h9 : i = 9 → x % 128 ≤ 1) : IntKind.u64.wrap ((x : Int) % 128 * 2 ^ (7 * i)) = ((x % 128 * 2 ^ (7 * i) : Nat) : Int) := by
  have h := shl7 (y := x % 128) hi (by omega) h9
  rw [show min (7 * (i : Int)).toNat 64 = 7 * i from by omega] at h
  simpa using h
theorem orshl {i n x : Nat} (hi : i ≤ 9) (hn : n < 2 ^ (7 * i)) (h9 : i = 9 → x % 128 ≤ 1) :
    bits .or .u64 (n : Int) (IntKind.u64.wrap ((x : Int) % 128 * 2 ^ (7 * i))) = ((n + x % 128 * 2 ^ (7 * i) : Nat) : Int) := by
  rw [shl7' hi h9]
  exact or7 hi hn (by omega) h9
theorem acc_lt {i n y : Nat} (hn : n < 2 ^ (7 * i)) (hy : y < 128) : n + y * 2 ^ (7 * i) < 2 ^ (7 * (i + 1)) := by
  have e : 2 ^ (7 * (i + 1)) = 128 * 2 ^ (7 * i) := by
    rw [show 7 * (i + 1) = 7 * i + 7 from by omega, Nat.pow_add]
    omega
  rw [e]
  have : y * 2 ^ (7 * i) ≤ 127 * 2 ^ (7 * i) := Nat.mul_le_mul_right _ (by omega)
  omega
theorem sum_lt {i n y : Nat} (hi : i ≤ 9) (hn : n < 2 ^ (7 * i)) (hy : y < 128) (h9 : i = 9 → y ≤ 1) : n + y * 2 ^ (7 * i) < 18446744073709551616 := by
  have : i = 0 ∨ i = 1 ∨ i = 2 ∨ i = 3 ∨ i = 4 ∨ i = 5 ∨ i = 6 ∨ i = 7 ∨ i = 8 ∨ i = 9 := by omega
  rcases this with rfl | rfl | rfl | rfl | rfl | rfl | rfl | rfl | rfl | rfl
  all_goals first | (have := h9 rfl; omega) | omega
theorem addshl {i n x : Nat} (hi : i ≤ 9) (hn : n < 2 ^ (7 * i)) (h9 : i = 9 → x % 128 ≤ 1) :
    IntKind.u64.wrap ((n : Int) + IntKind.u64.wrap ((x : Int) % 128 * 2 ^ (7 * i))) = ((n + x % 128 * 2 ^ (7 * i) : Nat) : Int) := by
  have h := sum_lt hi hn (y := x % 128) (by omega) h9
  rw [shl7' hi h9, IntKind.wrap_u64]
  omega
theorem cntS_lt (f : Nat) : ∀ (i n : Nat) (l : List UInt8) (b : Bool), f + i = 10 → n < 2 ^ (7 * i) → (cntS f i n l b).1 < 18446744073709551616 := by
  induction f with
  | zero => intro i n l b _ _; simp [cntS]
  | succ f ih =>
    intro i n l b hf hn
    have hy : byteV l % 128 < 128 := by omega
    by_cases h : ((b || l.isEmpty) || (i == 9 && decide (1 < byteV l)) || (decide (0 < i) && byteV l == 0)) = true
    · rw [cntS_bad h]; simp
    · have h' := eq_false_of_ne_true h
      have h9 : i = 9 → byteV l % 128 ≤ 1 := by
        intro e
        subst e
        simp at h'
        omega
      by_cases hx : byteV l < 128
      · rw [cntS_end h' hx]
        exact sum_lt (by omega) hn hy h9
      · rw [cntS_on h' hx]
        exact ih _ _ _ _ (by omega) (acc_lt hn hy)
theorem cnt_lt (l : List UInt8) (b : Bool) : (cnt l b).1 < 18446744073709551616 := cntS_lt 10 0 0 l b (by omega) (by simp)

theorem cntS_len (f : Nat) : ∀ (i n : Nat) (l : List UInt8) (b : Bool), (cntS f i n l b).2.1.length ≤ l.length := by
  induction f with
  | zero => intro i n l b; exact Nat.le_refl _
  | succ f ih =>
    intro i n l b
    have ht : l.tail.length ≤ l.length := by simp
    rw [cntS]
    split
    · exact ht
    · split
      · exact ht
      · exact Nat.le_trans (ih _ _ _ _) ht
theorem cnt_len (l : List UInt8) (b : Bool) : (cnt l b).2.1.length ≤ l.length := cntS_len 10 0 0 l b

end Go.Proofs.Ytjhkfpemcplaaaa
