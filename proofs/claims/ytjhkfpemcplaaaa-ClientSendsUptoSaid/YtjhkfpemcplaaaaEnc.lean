/-
  Counts as bytes, plain mathematics on lists.
-/
import Derived.Test.YtjhkfpemcplaaaaWords
namespace Go.Proofs.Ytjhkfpemcplaaaa
open Go.RowKit

/-- seven bits a byte, the low ones first, the high bit says that more follow -/
def encF : Nat → Nat → List UInt8
  | 0, n => [UInt8.ofNat n]
  | f + 1, n => if n < 128 then [UInt8.ofNat n] else UInt8.ofNat (n % 128 + 128) :: encF f (n / 128)
def enc (n : Nat) : List UInt8 := encF 9 n
def encs (ns : List Nat) : List UInt8 := ns.flatMap enc

theorem encF_succ (f n : Nat) : encF (f + 1) n = if n < 128 then [UInt8.ofNat n] else UInt8.ofNat (n % 128 + 128) :: encF f (n / 128) := rfl
theorem encF_more : ∀ (f n : Nat), n < 128 ^ (f + 1) → encF (f + 1) n = encF f n := by
  intro f
  induction f with
  | zero => intro n h; simp only [encF]; rw [if_pos (by omega)]
  | succ f ih =>
    intro n h
    have hd : n / 128 < 128 ^ (f + 1) := by
      rw [Nat.pow_succ] at h
      exact Nat.div_lt_of_lt_mul (by omega)
    have e := ih (n / 128) hd
    rw [encF_succ (f + 1) n, encF_succ f n]
    split
    · rfl
    · rw [e]
theorem enc_small {n : Nat} (h : n < 128) : enc n = [UInt8.ofNat n] := by unfold enc encF; rw [if_pos h]
theorem enc_big {n : Nat} (h : ¬ n < 128) (hn : n < 18446744073709551616) : enc n = UInt8.ofNat (n % 128 + 128) :: enc (n / 128) := by
  have e : encF 9 (n / 128) = encF 8 (n / 128) := encF_more 8 _ (by omega)
  unfold enc
  rw [e]
  rw [encF, if_neg h]
theorem encF_pos (f n : Nat) : 1 ≤ (encF f n).length := by
  cases f with
  | zero => simp [encF]
  | succ f => unfold encF; split <;> simp
theorem encF_le : ∀ (f n : Nat), (encF f n).length ≤ f + 1 := by
  intro f
  induction f with
  | zero => intro n; simp [encF]
  | succ f ih =>
    intro n
    unfold encF
    split
    · simp
    · have := ih (n / 128)
      simp only [List.length_cons]
      omega
theorem enc_pos (n : Nat) : 1 ≤ (enc n).length := encF_pos 9 n
theorem enc_le (n : Nat) : (enc n).length ≤ 10 := encF_le 9 n
theorem encs_le (ns : List Nat) : (encs ns).length ≤ 10 * ns.length := by
  induction ns with
  | nil => simp [encs]
  | cons n l ih =>
    have h1 := enc_le n
    have e : encs (n :: l) = enc n ++ encs l := by simp [encs]
    rw [e, List.length_append, List.length_cons]
    omega
theorem encs_take (ns : List Nat) (k n : Nat) (h : ns[k]? = some n) : encs (ns.take (k + 1)) = encs (ns.take k) ++ enc n := by
  rw [List.take_add_one, h]
  simp [encs]
theorem encs_take_le (ns : List Nat) (k : Nat) (h : k ≤ ns.length) : (encs (ns.take k)).length ≤ 10 * k := by
  have := encs_le (ns.take k)
  rw [List.length_take] at this
  omega

/-- what the machine's numbers come to -/
theorem or128 (q : Nat) : bits .or .u8 ((q : Int) % 256) 128 = ((UInt8.ofNat (q % 128 + 128)).toNat : Int) := by
  have h := u8_or_nat (q % 256) 128 (by omega) (by omega)
  have e : ∀ r : Nat, r < 256 → r ||| 128 = r % 128 + 128 := by decide +kernel
  rw [e _ (by omega)] at h
  have e2 : (UInt8.ofNat (q % 128 + 128)).toNat = q % 256 % 128 + 128 := by
    simp only [UInt8.toNat_ofNat']
    omega
  rw [e2]
  have e3 : ((q % 256 : Nat) : Int) = (q : Int) % 256 := by omega
  rw [← e3]
  exact h
theorem add128 (q : Nat) : (q : Int) % 128 + 128 = ((UInt8.ofNat (q % 128 + 128)).toNat : Int) := by
  simp only [UInt8.toNat_ofNat']
  omega
theorem low8 (q : Nat) : (q : Int) % 256 = ((UInt8.ofNat q).toNat : Int) := by
  simp only [UInt8.toNat_ofNat']
  omega

end Go.Proofs.Ytjhkfpemcplaaaa
