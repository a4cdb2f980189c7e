/-
  The plain law of the lexer's step: where it goes on. No program is in sight.
-/
import Derived.Test.YtaigfelpecdajaaLxM
namespace Go.Proofs.Ytaigfelpecdajaa
namespace Lx

theorem get_lt {l : Txt} {i : Nat} {x : UInt8} (h : l[i]? = some x) : i < l.length := by
  rcases Nat.lt_or_ge i l.length with h1 | h1
  · exact h1
  · rw [List.getElem?_eq_none h1] at h; cases h
theorem isAt_lt {l : Txt} {i : Nat} {b : UInt8} (h : isAt l i b = true) : i < l.length := by
  unfold isAt at h
  have : l[i]? = some b := by simpa using h
  exact get_lt this
/-- a step that is no error goes on behind its place, in the text -/
def Fine (l : Txt) (i : Nat) (st : Stp) : Prop := st.err = 0 → i < st.next ∧ st.next ≤ l.length
theorem fine_bad {l : Txt} {i p e : Nat} (he : ¬ e = 0) : Fine l i (bad p e) := fun h => absurd h he
theorem fine_tok {l : Txt} {i k n : Nat} {t : Txt} (h1 : i < n) (h2 : n ≤ l.length) : Fine l i (tok k t n) := fun _ => ⟨h1, h2⟩
theorem fine_ite {c : Prop} [Decidable c] {l : Txt} {i : Nat} {a b : Stp} (ha : c → Fine l i a) (hb : ¬ c → Fine l i b) : Fine l i (if c then a else b) := by
  split
  · exact ha ‹_›
  · exact hb ‹_›
theorem run_pos {p : UInt8 → Bool} {l : Txt} {i : Nat} {x : UInt8} (h : l[i]? = some x) (hp : p x = true) : i + 1 ≤ runF p l i := by
  rw [← runF_step h hp]
  exact runF_ge p l (i + 1)
theorem symF_fine {l : Txt} {i : Nat} : Fine l i (symF l i) := by
  unfold symF
  cases h : l[i + 1]? with
  | none => exact fine_bad (by decide)
  | some b =>
    have h1 := get_lt h
    dsimp only
    refine fine_ite (fun hc => ?_) (fun _ => fine_ite (fun hc => ?_) (fun _ => fine_ite (fun hc => ?_) (fun _ => fine_ite (fun hc => ?_) (fun _ => fine_ite (fun hc => ?_) (fun _ => fine_bad (by decide))))))
    · exact fine_tok (by have := runF_ge symB l (i + 1); omega) (runF_le _ _ _ (by omega))
    · exact fine_tok (by have := binF_ge l (i + 2); omega) (binF_le _ _ (by omega))
    · exact fine_tok (by omega) (by omega)
    · cases hq : qF l (i + 1) with
      | none => exact fine_bad (by decide)
      | some r => have := qF_le hq h1; exact fine_tok (by omega) (by omega)
    · exact fine_tok (by omega) (by omega)
theorem numF_fine {l : Txt} {i : Nat} {x : UInt8} (h : l[i]? = some x) (hx : digB x = true) {r : Txt × Nat} (hr : numF l i = some r) : i < r.2 ∧ r.2 ≤ l.length := by
  have h1 := get_lt h
  have hj := run_pos h hx
  have hj2 := runF_le digB l i (by omega)
  unfold numF at hr
  dsimp only at hr
  split at hr
  · rename_i hc
    simp only [Bool.and_eq_true] at hc
    have h3 := isAt_lt hc.1
    split at hr
    · cases hr
    · obtain ⟨t, _, rfl⟩ := Option.map_eq_some_iff.1 hr
      exact ⟨by have := runF_ge figB l (runF digB l i + 1); dsimp only; omega, runF_le _ _ _ (by omega)⟩
  · obtain ⟨t, _, rfl⟩ := Option.map_eq_some_iff.1 hr
    exact ⟨by dsimp only; omega, hj2⟩
theorem stepF_fine {l : Txt} {i : Nat} (hi : i < l.length) : Fine l i (stepF l i) := by
  unfold stepF
  rw [List.getElem?_eq_getElem hi]
  have h := List.getElem?_eq_getElem hi
  generalize l[i] = b at h
  dsimp only
  refine fine_ite (fun hc => ?_) (fun _ => fine_ite (fun hc => ?_) (fun _ => fine_ite (fun hc => ?_) (fun _ => fine_ite (fun hc => ?_) (fun _ => fine_ite (fun hc => ?_) (fun _ => fine_ite (fun hc => ?_) (fun _ => fine_ite (fun hc => ?_) (fun _ => fine_ite (fun hc => ?_) (fun _ => fine_bad (by decide)))))))))
  · exact fine_tok (by omega) (by omega)
  · have h2 := run_pos (p := ldB) h (by unfold ldB letB; rw [hc]; rfl)
    refine fine_ite (fun hq => ?_) (fun _ => ?_)
    · simp only [Bool.and_eq_true] at hq
      have := isAt_lt hq.1
      exact fine_tok (by omega) (by omega)
    · exact fine_tok (by omega) (runF_le _ _ _ (by omega))
  · cases hn : numF l i with
    | none => exact fine_bad (by decide)
    | some r => have := numF_fine h (by unfold digB; rw [hc]; rfl) hn; exact fine_tok this.1 this.2
  · exact fine_tok (by have := binF_ge l (i + 1); omega) (binF_le _ _ (by omega))
  · refine fine_ite (fun hq => ?_) (fun _ => fine_tok (by omega) (by omega))
    have := isAt_lt hq.2
    exact fine_tok (by omega) (by omega)
  · refine fine_ite (fun hq => ?_) (fun _ => fine_bad (by decide))
    exact fine_tok (by have := runF_ge (fun x => x != 34) l (i + 1); omega) (by omega)
  · cases hn : qF l i with
    | none => exact fine_bad (by decide)
    | some r => have := qF_le hn hi; exact fine_tok (by omega) (by omega)
  · exact symF_fine
/-- the tokens of a text, the place of what is wrong, the error -/
def lexT (l : Txt) : List Tk × Nat × Nat := if 65536 < l.length then ([], 0, 2) else lexF l l.length 0 []
theorem lexF_end {l : Txt} {f i : Nat} {acc : List Tk} (h : l.length ≤ i) : lexF l f i acc = (acc, 0, 0) := by
  cases f with
  | zero => rfl
  | succ f => simp only [lexF, if_neg (Nat.not_lt.2 h)]
theorem lexF_bad {l : Txt} {f i : Nat} {acc : List Tk} (h : i < l.length) (he : ¬ (stepF l i).err = 0) : lexF l (f + 1) i acc = ([], (stepF l i).place, (stepF l i).err) := by
  simp only [lexF, if_pos h, if_neg he]
theorem lexF_good {l : Txt} {f i : Nat} {acc : List Tk} (h : i < l.length) (he : (stepF l i).err = 0) :
    lexF l (f + 1) i acc = lexF l f (stepF l i).next (if (stepF l i).kind = 0 then acc else acc ++ [((stepF l i).kind, (stepF l i).text, i)]) := by
  simp only [lexF, if_pos h, if_pos he]
theorem acc_len {l : Txt} {i : Nat} {acc : List Tk} (h : acc.length ≤ i) (hn : i < (stepF l i).next) : (if (stepF l i).kind = 0 then acc else acc ++ [((stepF l i).kind, (stepF l i).text, i)]).length ≤ (stepF l i).next := by
  split
  · omega
  · simp; omega
end Lx
end Go.Proofs.Ytaigfelpecdajaa
