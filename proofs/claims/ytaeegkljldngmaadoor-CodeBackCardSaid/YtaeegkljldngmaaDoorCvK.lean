/-
  The depths' rounds, plain: each lowers a measure; a scope with one label and a ghost. No statement of the seat is proved here.
-/
import Derived.Test.YtaeegkljldngmaaDoorCvJ
import Derived.ScopeJumps
namespace Go.Proofs.YtaeegkljldngmaaDoor
open Go.RowKit

section
variable {P : Program} {a : Act} {w : World} {Q : Exit → Act → World → Prop}
theorem wp_loosen {c : Code} {l : Nat} {J J' : Act → World → Prop} (hJ : ∀ a w, J a w → J' a w) (h : c.wp P (Exit.jump l J Q) a w) : c.wp P (Exit.jump l J' Q) a w := by
  intro b k cs
  obtain ⟨e, a₁, w₁, hq, harr⟩ := h b k cs
  refine ⟨e, a₁, w₁, ?_, harr⟩
  cases e with
  | goto l' => exact ⟨hq.1, hJ _ _ hq.2⟩
  | normal => exact hq
  | exit id => exact hq
  | ret => exact hq
  | panic ch => exact hq
  | outgrown => exact hq
/-- a scope with one label, to which the run falls and jumps; a ghost that every pass lowers -/
theorem wp_scope_ghost {c rest : Code} (l : Nat) (J : Nat → Act → World → Prop) (hf : findLabel c l = some (Code.skip.seq rest))
    (pass0 : ∀ n a w, J n a w → rest.wp P (Exit.jump l (fun a' w' => ∃ m, m < n ∧ J m a' w') Q) a w)
    (first : (∀ n a w, J n a w → rest.wp P (Exit.jump l (fun a' w' => ∃ m, J m a' w') Q) a w) → c.wp P (Exit.jump l (fun a' w' => ∃ m, J m a' w') Q) a w) : (Code.scope c).wp P Q a w := by
  have hfirst := first fun n a w h => wp_loosen (fun a w ⟨m, _, h⟩ => ⟨m, h⟩) (pass0 n a w h)
  have pass : ∀ n a w, J n a w → (Code.skip.seq rest).wp P (Exit.jump l (fun a' w' => ∃ m, m < n ∧ J m a' w') Q) a w := fun n a w h => wp_seq (wp_skip (pass0 n a w h))
  intro b k cs
  have hg : gotoIn l (.inScope c :: k) = some (.code (Code.skip.seq rest) :: .inScope c :: k) := by simp [gotoIn, hf]
  have key : ∀ n a w, J n a w → ∃ e a' w', Q e a' w' ∧ Arrives P (lone (b.at a (.code (Code.skip.seq rest) :: .inScope c :: k)) cs w) b k cs e a' w' := by
    intro n
    induction n using Nat.strongRecOn with
    | _ n ih =>
      intro a w hJ
      obtain ⟨e, a1, w1, hq, harr⟩ := pass n a w hJ b (.inScope c :: k) cs
      cases e with
      | goto l' =>
        obtain ⟨rfl, m, hm, hJ'⟩ := hq
        obtain ⟨e2, a2, w2, hq2, harr2⟩ := ih m hm a1 w1 hJ'
        exact ⟨e2, a2, w2, hq2, .of_steps (harr _ hg) harr2⟩
      | normal => exact ⟨.normal, a1, w1, hq, Steps.trans harr (.one step_inScope)⟩
      | exit id => exact ⟨.exit id, a1, w1, hq, fun k' hk => harr k' (by simp [exitTo, hk])⟩
      | ret => exact ⟨_, a1, w1, hq, harr⟩
      | panic ch => exact ⟨_, a1, w1, hq, harr⟩
      | outgrown => exact ⟨_, a1, w1, hq, harr⟩
  obtain ⟨e, a1, w1, hq, harr⟩ := hfirst b (.inScope c :: k) cs
  cases e with
  | goto l' =>
    obtain ⟨rfl, m, hJ'⟩ := hq
    obtain ⟨e2, a2, w2, hq2, harr2⟩ := key m a1 w1 hJ'
    exact ⟨e2, a2, w2, hq2, .of_steps (.head step_scope (harr _ hg)) harr2⟩
  | normal => exact ⟨.normal, a1, w1, hq, .head step_scope (Steps.trans harr (.one step_inScope))⟩
  | exit id => exact ⟨.exit id, a1, w1, hq, fun k' hk => .head step_scope (harr k' (by simp [exitTo, hk]))⟩
  | ret => exact ⟨_, a1, w1, hq, .of_steps (.one step_scope) harr⟩
  | panic ch => exact ⟨_, a1, w1, hq, .of_steps (.one step_scope) harr⟩
  | outgrown => exact ⟨_, a1, w1, hq, .of_steps (.one step_scope) harr⟩
end
/-! ## The measure -/
def cntN (l : List Int) : Nat := (l.filter fun d => decide (d < 0)).length
def cntT (l : List Bool) : Nat := (l.filter fun b => b).length
theorem cntN_set : ∀ (l : List Int) (i : Nat) (d : Int), i < l.length → l.getD i 0 < 0 → 0 ≤ d → cntN (l.set i d) + 1 = cntN l
  | x :: l, 0, d, _, h, hd => by
    have hx : x < 0 := h
    simp only [List.set_cons_zero, cntN, List.filter_cons]
    rw [if_neg (by simpa using hd), if_pos (by simpa using hx)]
    rfl
  | x :: l, i + 1, d, hi, h, hd => by
    have := cntN_set l i d (by simpa using hi) h hd
    simp only [List.set_cons_succ, cntN, List.filter_cons] at this ⊢
    split <;> (try simp only [List.length_cons]) <;> omega
theorem cntT_le : ∀ (l : List Bool) (k : Nat), cntT (l.set k true) ≤ cntT l + 1
  | [], k => by simp [cntT]
  | x :: l, 0 => by
    cases x <;> simp [cntT] <;> omega
  | x :: l, k + 1 => by
    have := cntT_le l k
    simp only [List.set_cons_succ, cntT, List.filter_cons] at this ⊢
    split <;> (try simp only [List.length_cons]) <;> omega
theorem cntT_lt : ∀ (l : List Bool) (k : Nat), l.getD k false = true → cntT (l.set k false) + 1 = cntT l
  | [], k, h => by simp at h
  | x :: l, 0, h => by
    have hx : x = true := h
    subst hx
    simp [cntT]
  | x :: l, k + 1, h => by
    have := cntT_lt l k h
    simp only [List.set_cons_succ, cntT, List.filter_cons] at this ⊢
    split <;> (try simp only [List.length_cons]) <;> omega
theorem wkM_eq (W : Wk) : wkM W = 2 * cntN W.dp + cntT W.wt := rfl
theorem putW_le (l : List Ins) (i k : Nat) (d : Int) (W : Wk) (hi : i < W.dp.length) (hd : 0 ≤ d) : wkM (putW l i k d W) ≤ wkM W := by
  unfold putW
  dsimp only
  split
  · rename_i h
    have h1 := cntN_set W.dp i d hi h hd
    have h2 := cntT_le W.wt k
    simp only [wkM_eq]
    omega
  · split
    · exact Nat.le_refl _
    · exact Nat.le_refl _
theorem putW_len (l : List Ins) (i k : Nat) (d : Int) (W : Wk) : (putW l i k d W).dp.length = W.dp.length ∧ (putW l i k d W).wt.length = W.wt.length := by
  unfold putW
  dsimp only
  split
  · simp
  · split <;> simp [blameW]
theorem wkStep_lt (l : List Ins) (st : List Nat) (k : Nat) (W : Wk) (hk : W.wt.getD k false = true) (hp : 0 ≤ putO (insD l (st.getD k 0)))
    (h1 : (ent (insD l (st.getD k 0)).op).ends = false → st.getD (k + 1) 0 < W.dp.length) (h2 : isJ (insD l (st.getD k 0)).op = true → goalO l (st.getD k 0) < W.dp.length) : wkM (wkStep l st k W) < wkM W := by
  have hc := cntT_lt W.wt k hk
  unfold wkStep
  dsimp only
  by_cases hb : W.dp.getD (st.getD k 0) 0 < takeO (insD l (st.getD k 0)) ∨ 127 < W.dp.getD (st.getD k 0) 0 - takeO (insD l (st.getD k 0)) + putO (insD l (st.getD k 0))
  · rw [if_pos hb]
    simp only [blameW, wkM_eq]
    omega
  · rw [if_neg hb]
    have hd : 0 ≤ W.dp.getD (st.getD k 0) 0 - takeO (insD l (st.getD k 0)) + putO (insD l (st.getD k 0)) := by omega
    generalize W.dp.getD (st.getD k 0) 0 - takeO (insD l (st.getD k 0)) + putO (insD l (st.getD k 0)) = d at *
    have key : ∀ W1 : Wk, W1.dp.length = W.dp.length → wkM W1 < wkM W → wkM (if isJ (insD l (st.getD k 0)).op = true then putW l (goalO l (st.getD k 0)) (st.idxOf (goalO l (st.getD k 0))) d W1 else W1) < wkM W := fun W1 hl hm => by
      split
      · rename_i hj
        have := putW_le l (goalO l (st.getD k 0)) (st.idxOf (goalO l (st.getD k 0))) d W1 (by rw [hl]; exact h2 hj) hd
        omega
      · exact hm
    have h0 : wkM { dp := W.dp, wt := W.wt.set k false, most := max W.most d, fault := W.fault } < wkM W := by
      simp only [wkM_eq]
      omega
    cases he : (ent (insD l (st.getD k 0)).op).ends with
    | true => exact key _ rfl h0
    | false =>
      refine key _ (putW_len _ _ _ _ _).1 ?_
      have := putW_le l (st.getD (k + 1) 0) (k + 1) d { dp := W.dp, wt := W.wt.set k false, most := max W.most d, fault := W.fault } (h1 he) hd
      exact Nat.lt_of_le_of_lt this h0
theorem wkStep_len (l : List Ins) (st : List Nat) (k : Nat) (W : Wk) : (wkStep l st k W).dp.length = W.dp.length ∧ (wkStep l st k W).wt.length = W.wt.length := by
  unfold wkStep
  dsimp only
  split
  · simp [blameW]
  · have h1 : ∀ W1 : Wk, W1.dp.length = W.dp.length ∧ W1.wt.length = W.wt.length → (if isJ (insD l (st.getD k 0)).op = true then putW l (goalO l (st.getD k 0)) (st.idxOf (goalO l (st.getD k 0))) (W.dp.getD (st.getD k 0) 0 - takeO (insD l (st.getD k 0)) + putO (insD l (st.getD k 0))) W1 else W1).dp.length = W.dp.length ∧ (if isJ (insD l (st.getD k 0)).op = true then putW l (goalO l (st.getD k 0)) (st.idxOf (goalO l (st.getD k 0))) (W.dp.getD (st.getD k 0) 0 - takeO (insD l (st.getD k 0)) + putO (insD l (st.getD k 0))) W1 else W1).wt.length = W.wt.length := fun W1 h => by
      split
      · have := putW_len l (goalO l (st.getD k 0)) (st.idxOf (goalO l (st.getD k 0))) (W.dp.getD (st.getD k 0) 0 - takeO (insD l (st.getD k 0)) + putO (insD l (st.getD k 0))) W1
        omega
      · exact h
    refine h1 _ ?_
    split
    · simp
    · have := putW_len l (st.getD (k + 1) 0) (k + 1) (W.dp.getD (st.getD k 0) 0 - takeO (insD l (st.getD k 0)) + putO (insD l (st.getD k 0))) { dp := W.dp, wt := W.wt.set k false, most := max W.most (W.dp.getD (st.getD k 0) 0 - takeO (insD l (st.getD k 0)) + putO (insD l (st.getD k 0))), fault := W.fault }
      simpa using this
end Go.Proofs.YtaeegkljldngmaaDoor
