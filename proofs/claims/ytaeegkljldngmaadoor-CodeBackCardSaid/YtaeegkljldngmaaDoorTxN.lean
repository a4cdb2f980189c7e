/-
  The numerals of oops' texts: what itoa writes atoi reads; their bytes and lengths.
-/
import Derived.Lib.ItoaNum
import Derived.Lib.Atoi
namespace Go.Proofs.YtaeegkljldngmaaDoor
open Go

theorem decFrom_app (l r : List UInt8) : ∀ acc, Lib.decFrom acc (l ++ r) = (Lib.decFrom acc l).bind fun a => Lib.decFrom a r := by
  induction l with
  | nil => intro acc; rfl
  | cons b l ih =>
    intro acc
    simp only [List.cons_append, Lib.decFrom]
    cases Lib.digitVal b with
    | none => rfl
    | some d => exact ih _
theorem digit_of {d : Nat} (h : d < 10) : Lib.digitVal (UInt8.ofNat (48 + d)) = some d := by
  have e : (UInt8.ofNat (48 + d)).toNat = 48 + d := by rw [UInt8.toNat_ofNat']; omega
  unfold Lib.digitVal
  rw [e, if_pos (by omega)]
  simp
theorem dec_digits (u : Nat) : Lib.decFrom 0 (Lib.decDigits u) = some u := by
  induction u using Nat.strongRecOn with
  | _ u ih =>
    by_cases h : u < 10
    · rw [Lib.decDigits_one h]
      simp only [Lib.decFrom, digit_of h, Nat.zero_mul, Nat.zero_add]
    · rw [Lib.decDigits, dif_neg h, decFrom_app, ih (u / 10) (by omega)]
      simp only [Option.bind_some, Lib.decFrom, digit_of (d := u % 10) (by omega)]
      congr 1
      omega
theorem digits_ne (u : Nat) : Lib.decDigits u ≠ [] := by
  intro h
  have := Lib.decDigits_length u
  rw [h] at this
  have := Lib.nDigits_pos u
  simp at *
  omega
theorem digits_range (u : Nat) : ∀ b ∈ Lib.decDigits u, 48 ≤ b.toNat ∧ b.toNat ≤ 57 := by
  induction u using Nat.strongRecOn with
  | _ u ih =>
    intro b hb
    by_cases h : u < 10
    · rw [Lib.decDigits_one h, List.mem_singleton] at hb
      subst hb
      rw [UInt8.toNat_ofNat']
      omega
    · rw [Lib.decDigits, dif_neg h, List.mem_append, List.mem_singleton] at hb
      rcases hb with hb | rfl
      · exact ih (u / 10) (by omega) b hb
      · rw [UInt8.toNat_ofNat']
        omega
theorem dec_nat (u : Nat) : Lib.decNat (Lib.decDigits u) = some u := by
  unfold Lib.decNat
  rw [if_neg (by simp [digits_ne u]), dec_digits]
theorem nd_le : ∀ (k u : Nat), 1 ≤ k → u < 10 ^ k → Lib.nDigits u ≤ k := by
  intro k
  induction k with
  | zero => intro u h; omega
  | succ k ih =>
    intro u _ hu
    by_cases h : u < 10
    · rw [Lib.nDigits_small h]; omega
    · rw [Lib.nDigits_big h]
      rw [Nat.pow_succ] at hu
      have hk : 1 ≤ k := by
        rcases Nat.eq_zero_or_pos k with rfl | h0
        · simp at hu; omega
        · exact h0
      have := ih (u / 10) hk (by omega)
      omega
theorem atoi_itoa (n : Int) : Lib.atoi (Lib.itoa n) = some n := by
  unfold Lib.itoa
  split
  · rename_i h
    simp only [Lib.atoi, dec_nat, beq_self_eq_true, if_true, Option.map_some]
    congr 1
    omega
  · rename_i h
    cases hd : Lib.decDigits n.toNat with
    | nil => exact absurd hd (digits_ne _)
    | cons b r =>
      have hr := digits_range n.toNat b (by rw [hd]; exact List.mem_cons_self ..)
      have h45 : (b == 45) = false := by
        rw [beq_eq_false_iff_ne]
        rintro rfl
        simp at hr
      have h43 : (b == 43) = false := by
        rw [beq_eq_false_iff_ne]
        rintro rfl
        simp at hr
      simp only [Lib.atoi, h45, h43, Bool.false_eq_true, if_false]
      rw [← hd, dec_nat]
      simp only [Option.map_some]
      congr 1
      omega
/-- the text of an oop, of the words o = 0, odd, even -/
theorem itoa_len {n : Int} (h1 : -2147483648 ≤ n) (h2 : n ≤ 2147483647) : (Lib.itoa n).length ≤ 11 ∧ 1 ≤ (Lib.itoa n).length := by
  unfold Lib.itoa
  split
  · rename_i h
    have := nd_le 10 n.natAbs (by decide) (by omega)
    rw [List.length_cons, Lib.decDigits_length]
    omega
  · have := nd_le 10 n.toNat (by decide) (by omega)
    have := Lib.nDigits_pos n.toNat
    rw [Lib.decDigits_length]
    omega
theorem itoa_ascii (n : Int) : ∀ b ∈ Lib.itoa n, b.toNat < 128 ∧ b.toNat ≠ 64 := by
  intro b hb
  unfold Lib.itoa at hb
  split at hb
  · rcases List.mem_cons.1 hb with rfl | hb
    · decide
    · have := digits_range _ b hb; omega
  · have := digits_range _ b hb; omega
theorem itoa_ne (n : Int) : Lib.itoa n ≠ [45] := by
  unfold Lib.itoa
  split
  · intro h
    injection h with _ h
    exact digits_ne _ h
  · intro h
    have := digits_range n.toNat 45 (by rw [h]; exact List.mem_singleton.2 rfl)
    simp at this
end Go.Proofs.YtaeegkljldngmaaDoor
