/-
  The plain law of the numbers: what is kept in the program's row of digits, and what the document's is. No program is in sight.
-/
import Derived.Test.YtaigfelpecdajaaLx
namespace Go.Proofs.Ytaigfelpecdajaa
namespace Lx

theorem co_zero : co 0 = [] := by simp [co]
theorem co_step {c : Nat} (h0 : 0 < c) (h1 : c < 100) : co c = (c % 10) :: co (c / 10) := by
  unfold co
  rw [if_neg (by omega)]
  by_cases h : c < 10
  · rw [if_pos h, if_pos (by omega), Nat.mod_eq_of_lt h]
  · rw [if_neg h, if_neg (show ¬ c / 10 = 0 by omega), if_pos (by omega)]
theorem co_lt {c : Nat} (h1 : c < 100) : ∀ x ∈ co c, x < 10 := by
  unfold co
  intro x hx
  split at hx
  · cases hx
  · split at hx
    · simp at hx; omega
    · simp at hx; omega
theorem co_len (c : Nat) : (co c).length ≤ 2 := by
  unfold co
  split
  · simp
  · split <;> simp
def Dg (m : List Nat) : Prop := ∀ x ∈ m, x < 10
theorem carry_lt {base x d : Nat} (hx : x < 10) (hd : d < base) : (x * base + d) / 10 < base := by
  have : x * base ≤ 9 * base := Nat.mul_le_mul_right _ (by omega)
  omega
theorem growF_dg {base : Nat} (hb : base ≤ 36) : ∀ (m : List Nat) (d : Nat), Dg m → d < base → Dg (growF base m d)
  | [], d, _, hd => co_lt (by omega)
  | x :: t, d, hm, hd => by
    intro y hy
    rcases List.mem_cons.1 hy with rfl | hy
    · omega
    · exact growF_dg hb t _ (fun z hz => hm z (List.mem_cons_of_mem _ hz)) (carry_lt (hm x (by simp)) hd) y hy
theorem growF_len (base : Nat) : ∀ (m : List Nat) (d : Nat), (growF base m d).length ≤ m.length + 2
  | [], d => by have := co_len d; simp [growF]; omega
  | x :: t, d => by have := growF_len base t ((x * base + d) / 10); simp [growF]; omega
theorem growF_ne {base d : Nat} {m : List Nat} (h : m ≠ []) : growF base m d ≠ [] := by
  cases m with
  | nil => exact absurd rfl h
  | cons x t => simp [growF]
/-- the program keeps a 0 where the document keeps nothing -/
def fixN (n : List Nat) : List Nat := if n = [] then [0] else n
theorem grow_fix {base d : Nat} (n : List Nat) (hd : d < 100) : fixN (growF base n d) = growF base (fixN n) d := by
  by_cases hn : n = []
  · subst hn
    by_cases h0 : d = 0
    · subst h0; simp [fixN, growF, co]
    · have e1 : growF base [] d = (d % 10) :: co (d / 10) := co_step (by omega) hd
      have e2 : growF base (fixN []) d = (0 * base + d) % 10 :: co ((0 * base + d) / 10) := rfl
      rw [e1, e2]
      simp [fixN]
  · unfold fixN
    rw [if_neg hn, if_neg (growF_ne hn)]
theorem fixN_len (n : List Nat) : (1000 < (fixN n).length) = (1000 < n.length) := by
  unfold fixN
  split
  · rename_i h; subst h; simp
  · rfl
theorem fixN_txt (n : List Nat) : (if n = [] then ([48] : Txt) else txtN n) = txtN (fixN n) := by
  unfold fixN
  split
  · rfl
  · rfl
theorem fixN_dg {n : List Nat} (h : Dg n) : Dg (fixN n) := by
  unfold fixN
  split
  · intro x hx; simp at hx; omega
  · exact h
theorem fixN_pos (n : List Nat) : 0 < (fixN n).length := by
  unfold fixN
  split
  · simp
  · rename_i h; exact List.length_pos_iff.2 h
theorem decN_some {base : Nat} {n : List Nat} {l : Txt} {k : Nat} {x : UInt8} (h : l[k]? = some x) (hx : valF x < base) : decN base n (l.drop k) = decN base (growF base n (valF x)) (l.drop (k + 1)) := by
  rw [drop_at h]
  simp only [decN, if_pos hx]
theorem decN_none {base : Nat} {n : List Nat} {l : Txt} {k : Nat} {x : UInt8} (h : l[k]? = some x) (hx : ¬ valF x < base) : decN base n (l.drop k) = none := by
  rw [drop_at h]
  simp only [decN, if_neg hx]
theorem decN_end {base : Nat} {n : List Nat} {l : Txt} {k : Nat} (h : l.length ≤ k) : decN base n (l.drop k) = some n := by
  rw [List.drop_eq_nil_of_le h]
  rfl
theorem decF_bad {base : Nat} {l : Txt} (h : base < 2 ∨ 36 < base ∨ 1000 < l.length) : decF base l = none := by unfold decF; rw [if_pos h]
theorem decF_none {base : Nat} {l : Txt} (h : decN base [] l = none) : decF base l = none := by
  unfold decF
  rw [h]
  split <;> rfl
theorem decF_long {base : Nat} {l : Txt} {n : List Nat} (h : decN base [] l = some n) (h2 : 1000 < (fixN n).length) : decF base l = none := by
  unfold decF
  rw [h]
  split
  · rfl
  · show (if 1000 < n.length then none else some _) = none
    rw [fixN_len] at h2
    rw [if_pos h2]
theorem decF_some {base : Nat} {l : Txt} {n : List Nat} (h0 : ¬ (base < 2 ∨ 36 < base ∨ 1000 < l.length)) (h : decN base [] l = some n) (h2 : ¬ 1000 < (fixN n).length) : decF base l = some (txtN (fixN n)) := by
  unfold decF
  rw [if_neg h0, h]
  show (if 1000 < n.length then none else some _) = _
  rw [fixN_len] at h2
  rw [if_neg h2, fixN_txt]
/-- the bytes of digits -/
def dgB (m : List Nat) : Txt := m.map UInt8.ofNat
theorem dgB_len (m : List Nat) : (dgB m).length = m.length := by simp [dgB]
theorem dgB_get {m : List Nat} (h : Dg m) {i : Nat} (hi : i < m.length) : ((dgB m).getD i 0).toNat = m[i] ∧ m[i] < 10 := by
  have h1 := h _ (List.getElem_mem hi)
  refine ⟨?_, h1⟩
  rw [List.getD, dgB, List.getElem?_map, List.getElem?_eq_getElem hi]
  show (UInt8.ofNat m[i]).toNat = _
  rw [UInt8.toNat_ofNat']
  omega
theorem dgB_set (m : List Nat) (i d : Nat) : (dgB m).set i (UInt8.ofNat d) = dgB (m.set i d) := by simp [dgB]
theorem valF_cap {x : UInt8} (h : capB x = true) : valF x = x.toNat - 55 ∧ 65 ≤ x.toNat ∧ x.toNat ≤ 90 := by
  unfold valF
  rw [if_pos h]
  unfold capB at h
  simp at h
  exact ⟨rfl, h⟩
theorem valF_dig {x : UInt8} (h : capB x = false) : valF x = x.toNat - 48 := by
  unfold valF
  rw [if_neg (by simp [h])]
set_option maxRecDepth 100000 in
theorem figB_ge {x : UInt8} (h : figB x = true) : 48 ≤ x.toNat := by
  have := all_u8 (p := fun x => !figB x || decide (48 ≤ x.toNat)) (by decide) x
  simp [h] at this
  exact this
/-- the texts of a number's digits while they are turned into letters -/
def letK (m : List Nat) (k : Nat) : Txt := (txtN m).take k ++ (dgB m).reverse.drop k
theorem txtN_len (m : List Nat) : (txtN m).length = m.length := by simp [txtN]
theorem letK_zero (m : List Nat) : letK m 0 = (dgB m).reverse := by simp [letK]
theorem letK_len (m : List Nat) (k : Nat) (hk : k ≤ m.length) : (letK m k).length = m.length := by
  simp only [letK, List.length_append, List.length_take, List.length_drop, List.length_reverse, txtN_len, dgB_len]
  omega
theorem letK_all (m : List Nat) : letK m m.length = txtN m := by
  unfold letK
  rw [List.take_of_length_le (by rw [txtN_len]; exact Nat.le_refl _), List.drop_eq_nil_of_le (by simp [dgB_len])]
  simp
theorem letK_get {m : List Nat} (h : Dg m) {k : Nat} (hk : k < m.length) : ((letK m k).getD k 0).toNat = m.reverse.getD k 0 ∧ m.reverse.getD k 0 < 10 := by
  have hr : k < m.reverse.length := by simpa using hk
  have h1 : m.reverse[k] < 10 := h _ (by have := List.getElem_mem hr; simp)
  have e : m.reverse.getD k 0 = m.reverse[k] := by rw [List.getD, List.getElem?_eq_getElem hr]; rfl
  rw [e]
  refine ⟨?_, h1⟩
  have e2 : (letK m k)[k]? = some (UInt8.ofNat m.reverse[k]) := by
    unfold letK
    rw [List.getElem?_append_right (by simp [txtN_len]; omega)]
    have e3 : k - ((txtN m).take k).length = 0 := by simp [txtN_len]; omega
    rw [e3, List.getElem?_drop, dgB, ← List.map_reverse, List.getElem?_map, Nat.add_zero, List.getElem?_eq_getElem hr]
    rfl
  rw [List.getD, e2]
  show (UInt8.ofNat m.reverse[k]).toNat = _
  rw [UInt8.toNat_ofNat']
  omega
theorem letK_set {m : List Nat} {k : Nat} (hk : k < m.length) : (letK m k).set k (UInt8.ofNat (48 + m.reverse.getD k 0)) = letK m (k + 1) := by
  have hr : k < m.reverse.length := by simpa using hk
  have e : m.reverse.getD k 0 = m.reverse[k] := by rw [List.getD, List.getElem?_eq_getElem hr]; rfl
  have ht : k < (txtN m).length := by rw [txtN_len]; exact hk
  have hd : k < (dgB m).reverse.length := by simpa [dgB_len] using hk
  have el : ((txtN m).take k).length = k := by simp [txtN_len]; omega
  unfold letK
  rw [List.set_append_right _ _ (by omega), el, Nat.sub_self, List.drop_eq_getElem_cons hd, List.set_cons_zero, List.take_succ_eq_append_getElem ht, List.append_assoc]
  congr 1
  simp only [List.singleton_append, List.cons.injEq, and_true]
  rw [e]
  simp [txtN]
end Lx
end Go.Proofs.Ytaigfelpecdajaa
