/-
  The plain law of OopBack's bytes: what PackBytes laid UnpackBytes takes apart as the same.
-/
import Derived.Test.YtlopmhnakehnaaaDoorUnb
import Derived.Test.YtlopmhnakehnaaaDoorPk
namespace Go.Proofs.YtlopmhnakehnaaaDoor
open Go.RowKit

theorem pk_dig (bs : List UInt8) : ∀ k i j, j < 4 → pk bs k i / 256 ^ j % 256 = if 4 * i + j < k then (bs.getD (4 * i + j) 0).toNat else 0 := by
  intro k
  induction k with
  | zero =>
    intro i j hj
    rw [if_neg (by omega)]
    show 0 / 256 ^ j % 256 = 0
    rw [Nat.zero_div]
  | succ k ih =>
    intro i j hj
    rw [pk_succ]
    by_cases hi : i = k / 4
    · rw [if_pos hi]
      have h1 := ih i j hj
      have h2 := pk_here bs k
      rw [← hi] at h2
      have h3 := (bs.getD k 0).toNat_lt
      by_cases hk : 4 * i + j = k
      · have hr : k % 4 = j := by omega
        rw [if_pos (by omega), hk, hr]
        rw [hr] at h2
        generalize pk bs k i = x at *
        generalize (bs.getD k 0).toNat = b at *
        rw [Nat.add_mul_div_right _ _ (Nat.pow_pos (by decide)), Nat.div_eq_of_lt h2, Nat.zero_add, Nat.mod_eq_of_lt h3]
      · have e : (if 4 * i + j < k + 1 then (bs.getD (4 * i + j) 0).toNat else 0) = (if 4 * i + j < k then (bs.getD (4 * i + j) 0).toNat else 0) := by
          by_cases h4 : 4 * i + j < k
          · rw [if_pos (by omega), if_pos h4]
          · rw [if_neg (by omega), if_neg h4]
        rw [e, ← h1]
        clear e h1 ih
        have hr : k % 4 < 4 := by omega
        have hjr : j ≠ k % 4 := by omega
        generalize pk bs k i = x at *
        generalize (bs.getD k 0).toNat = b at *
        generalize k % 4 = r at *
        have hb : b < 256 := h3
        clear h3
        match r, j, hr, hj with
        | 0, 0, _, _ => omega
        | 0, 1, _, _ => simp only [Nat.reducePow] at *; omega
        | 0, 2, _, _ => simp only [Nat.reducePow] at *; omega
        | 0, 3, _, _ => simp only [Nat.reducePow] at *; omega
        | 1, 0, _, _ => simp only [Nat.reducePow] at *; omega
        | 1, 1, _, _ => omega
        | 1, 2, _, _ => simp only [Nat.reducePow] at *; omega
        | 1, 3, _, _ => simp only [Nat.reducePow] at *; omega
        | 2, 0, _, _ => simp only [Nat.reducePow] at *; omega
        | 2, 1, _, _ => simp only [Nat.reducePow] at *; omega
        | 2, 2, _, _ => omega
        | 2, 3, _, _ => simp only [Nat.reducePow] at *; omega
        | 3, 0, _, _ => simp only [Nat.reducePow] at *; omega
        | 3, 1, _, _ => simp only [Nat.reducePow] at *; omega
        | 3, 2, _, _ => simp only [Nat.reducePow] at *; omega
        | 3, 3, _, _ => omega
        | r + 4, _, h, _ => omega
        | _, j + 4, _, h => omega
    · rw [if_neg hi, ih i j hj]
      by_cases h4 : 4 * i + j < k
      · rw [if_pos h4, if_pos (by omega)]
      · rw [if_neg h4, if_neg (by omega)]
theorem four_pk (bs : List UInt8) (i : Nat) : four (pk bs bs.length i) = [bs.getD (4 * i) 0, bs.getD (4 * i + 1) 0, bs.getD (4 * i + 2) 0, bs.getD (4 * i + 3) 0] := by
  have h : ∀ j, j < 4 → UInt8.ofNat (pk bs bs.length i / 256 ^ j) = bs.getD (4 * i + j) 0 := by
    intro j hj
    apply UInt8.toNat_inj.1
    rw [UInt8.toNat_ofNat', pk_dig bs _ i j hj]
    split
    · rfl
    · rename_i h
      rw [List.getD, List.getElem?_eq_none (by omega)]
      rfl
  have h0 := h 0 (by decide)
  have h1 := h 1 (by decide)
  have h2 := h 2 (by decide)
  have h3 := h 3 (by decide)
  simp only [Nat.reducePow, Nat.div_one, Nat.add_zero] at h0 h1 h2 h3
  unfold four
  rw [h0, h1, h2, h3]
theorem unp_pk (bs : List UInt8) : ∀ F, unpB ((List.range F).map (pk bs bs.length)) = (List.range (4 * F)).map (fun t => bs.getD t 0) := by
  intro F
  induction F with
  | zero => rfl
  | succ F ih =>
    unfold unpB at *
    rw [List.range_succ, List.map_append, List.flatMap_append, ih, show 4 * (F + 1) = 4 * F + 1 + 1 + 1 + 1 from by omega, List.range_succ, List.range_succ, List.range_succ, List.range_succ]
    simp [four_pk]
theorem unp_packW (bs : List UInt8) (F : Nat) (hF : (bs.length + 3) / 4 = F) (hn : bs.length ≤ 262140) : unpR ((List.range F).map (pk bs bs.length)) ((4 * F - bs.length : Nat) : Int) = (bs, 0) := by
  have hm : 4 * F - (4 * F - bs.length) = bs.length := by omega
  unfold unpR
  rw [List.length_map, List.length_range, if_neg (by omega), if_neg (by omega), Int.toNat_natCast, hm, unp_pk, if_pos, ]
  · congr 1
    apply List.ext_getElem
    · simp
      omega
    · intro i h1 h2
      simp [List.getD, h2]
  · apply List.all_eq_true.2
    intro x hx
    obtain ⟨t, ht, rfl⟩ := List.getElem_of_mem hx
    rw [List.getElem_drop, List.getElem_map, List.getElem_range, List.getD, List.getElem?_eq_none (by omega)]
    rfl
end Go.Proofs.YtlopmhnakehnaaaDoor
