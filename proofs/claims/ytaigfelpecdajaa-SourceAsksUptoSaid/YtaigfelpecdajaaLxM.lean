/-
  The plain law of the lexer: pieces cut out of the text; a number's step. No program is in sight.
-/
import Derived.Test.YtaigfelpecdajaaLxN
namespace Go.Proofs.Ytaigfelpecdajaa
namespace Lx

theorem cut_run (p : UInt8 → Bool) (l : Txt) (i : Nat) : cut l i (runF p l i) = (l.drop i).takeWhile p := by
  unfold cut runF
  rw [List.drop_take]
  have : i + ((l.drop i).takeWhile p).length - i = ((l.drop i).takeWhile p).length := by omega
  rw [this]
  have h := List.takeWhile_prefix (p := p) (l := l.drop i)
  exact (List.prefix_iff_eq_take.1 h).symm
theorem mem_takeWhile_imp {p : UInt8 → Bool} : ∀ {l : Txt} {x : UInt8}, x ∈ l.takeWhile p → p x = true
  | [], x, h => by simp at h
  | a :: l, x, h => by
    by_cases ha : p a = true
    · rw [List.takeWhile_cons_of_pos ha] at h
      rcases List.mem_cons.1 h with rfl | h
      · exact ha
      · exact mem_takeWhile_imp h
    · rw [List.takeWhile_cons_of_neg ha] at h; cases h
theorem cut_run_all (p : UInt8 → Bool) (l : Txt) (i : Nat) : ∀ x ∈ cut l i (runF p l i), p x = true := by
  intro x hx
  rw [cut_run] at hx
  exact mem_takeWhile_imp hx
theorem cut_len (l : Txt) (a b : Nat) (h : b ≤ l.length) : (cut l a b).length = b - a := by
  simp [cut]; omega
def numS (l : Txt) (i : Nat) : Stp := match numF l i with
  | none => bad i 123
  | some r => tok 4 r.1 r.2
/-- does an r and a digit of some base stand at j? -/
def rB (l : Txt) (j : Nat) : Bool := isAt l j 114 && (l[j + 1]?.map figB).getD false
theorem numF_r {l : Txt} {i : Nat} (h : rB l (runF digB l i) = true) (h2 : ¬ 2 < runF digB l i - i) :
    numF l i = (decF (baseN (cut l i (runF digB l i)) 0) (cut l (runF digB l i + 1) (runF figB l (runF digB l i + 1)))).map fun t => (t, runF figB l (runF digB l i + 1)) := by
  unfold numF
  unfold rB at h
  simp only [h, if_true, if_neg h2]
theorem numF_r2 {l : Txt} {i : Nat} (h : rB l (runF digB l i) = true) (h2 : 2 < runF digB l i - i) : numF l i = none := by
  unfold numF
  unfold rB at h
  simp only [h, if_true, if_pos h2]
theorem numF_n {l : Txt} {i : Nat} (h : rB l (runF digB l i) = false) : numF l i = (decF 10 (cut l i (runF digB l i))).map fun t => (t, runF digB l i) := by
  unfold numF
  unfold rB at h
  simp [h]
set_option maxRecDepth 100000 in
theorem baseN_le {l : Txt} (h : ∀ x ∈ l, digB x = true) (h2 : l.length ≤ 2) : baseN l 0 ≤ 99 := by
  have key : ∀ x : UInt8, digB x = true → x.toNat - 48 ≤ 9 := by
    intro x hx
    have := all_u8 (p := fun x => !digB x || decide (x.toNat - 48 ≤ 9)) (by decide) x
    simp [hx] at this
    omega
  match l, h2 with
  | [], _ => simp [baseN]
  | [a], _ => have := key a (h a (by simp)); simp [baseN]; omega
  | [a, b], _ => have := key a (h a (by simp)); have := key b (h b (by simp)); simp [baseN]; omega
theorem digB_fig {x : UInt8} (h : digB x = true) : figB x = true := by unfold figB; rw [h]; rfl
set_option maxRecDepth 100000 in
theorem digB_range {x : UInt8} (h : digB x = true) : 48 ≤ x.toNat ∧ x.toNat ≤ 57 := by
  have := all_u8 (p := fun x => !digB x || (decide (48 ≤ x.toNat) && decide (x.toNat ≤ 57))) (by decide) x
  simp [h] at this
  omega
theorem baseN_snoc (l : Txt) (b : Nat) (x : UInt8) : baseN (l ++ [x]) b = 10 * baseN l b + (x.toNat - 48) := by
  induction l generalizing b with
  | nil => rfl
  | cons a l ih => simp only [List.cons_append, baseN, ih]
end Lx
end Go.Proofs.Ytaigfelpecdajaa
