/-
  Arguments opened for the walks: a slice of instructions. No statement of the seat is proved here.
-/
import Derived.Test.YtaeegkljldngmaaFrame
import Derived.Deep.Slices
import Derived.Deep.Fields
import Derived.ChangeSame
namespace Go.Proofs.Ytaeegkljldngmaa
open Go.Joins Go.ChangeShapes Go.WideShapes Go.RowKit Go.Deep

section
variable {H : Type} {enc : TypeId × Value → H} {P : Program} {w : World} {base : Nat} {spare : Nat → Bool} {held : Bool}
theorem open_slice_fields {t e : TypeId} {fs : Array Field} {fuel : Nat} {cs : List Value} {x : DataW H × List MemPlace} (ht : P.underlying t = some (.slice e)) (he : P.underlying e = some (.struct fs))
    (hone : oneCellFields P fs = true) (hC : P.cellsOf e = fs.size) (h : DataW.trod enc P w base spare held fuel t cs = some x) :
    (cs = [.slice none 0 0] ∧ x = (.nil, [])) ∨
    ∃ (a : Addr) (len cap m : Nat) (D : Nat → DataW H) (Pl : Nat → List MemPlace), cs = [.slice (some a) len cap] ∧ base ≤ a.block ∧ len ≤ cap ∧ cap ≤ maxLen ∧ m = (if spare a.block then cap else len) ∧
      x = (.slice ((List.range len).map D) ((List.range (m - len)).map fun j => D (len + j)), MemPlace.row a (m * fs.size) ++ (List.range m).flatMap Pl) ∧
      ∀ i, i < m → ∃ (ys : List (DataW H × List MemPlace)) (n : Nat), D i = .agg (ys.map (·.1)) ∧ Pl i = ys.flatMap (·.2) ∧ ys.length = fs.size ∧
        ∀ (j : Nat) (f : Field), fs[j]? = some f → ∃ (v : Value) (y : DataW H × List MemPlace), w.cell? (a.add (i * fs.size + j)) = some v ∧ ys[j]? = some y ∧ DataW.trod enc P w base spare held n f.type [v] = some y := by
  rcases open_slice ht h with h0 | ⟨a, len, cap, m, n, D, Pl, hcs, hb, hl, hm, hmm, hx, hi⟩
  · exact .inl h0
  · refine .inr ⟨a, len, cap, m, D, Pl, hcs, hb, hl, hm, hmm, by rw [hC] at hx; exact hx, fun i him => ?_⟩
    obtain ⟨cs', hc, ht'⟩ := hi i him
    rw [hC] at hc
    obtain ⟨ys, n', hn', hy, hlen, hyl, hf⟩ := DataW.trod_struct he ht'
    obtain ⟨_, hcl, hat⟩ := World.cells?_some hc
    simp only [Prod.mk.injEq] at hy
    refine ⟨ys, n', hy.1, hy.2, hyl, fun j f hj => ?_⟩
    obtain ⟨ho, hk⟩ := hone_of hone j f hj
    have hjl : j < fs.size := (Array.getElem?_eq_some_iff.1 hj).1
    have hcell := hat j hjl
    have hv : cs'[j]? = some (cs'[j]'(by omega)) := List.getElem?_eq_getElem (by omega)
    have h1 := hf j f hj
    rw [ho, hk] at h1
    have hone' : (cs'.drop j).take 1 = [cs'[j]'(by omega)] := by
      rw [List.drop_eq_getElem_cons (by omega)]
      rfl
    rw [hone'] at h1
    have hys : ys[j]? = some (ys[j]'(by omega)) := List.getElem?_eq_getElem (by omega)
    refine ⟨_, _, ?_, hys, h1.trans hys⟩
    rw [← Go.Deep.add_add, hcell, hv]

theorem list_of {α : Type} {R : Nat → α → Prop} : ∀ (n : Nat), (∀ i, i < n → ∃ a, R i a) → ∃ l : List α, l.length = n ∧ ∀ i a, l[i]? = some a → R i a := by
  intro n
  induction n with
  | zero => intro _; exact ⟨[], rfl, fun i a h => by simp at h⟩
  | succ n ih =>
    intro h
    obtain ⟨l, hl, hr⟩ := ih fun i hi => h i (by omega)
    obtain ⟨a, ha⟩ := h n (by omega)
    refine ⟨l ++ [a], by simp [hl], fun i b hb => ?_⟩
    by_cases hi : i < l.length
    · rw [List.getElem?_append_left hi] at hb
      exact hr i b hb
    · rw [List.getElem?_append_right (by omega)] at hb
      have hi2 : i - l.length = 0 := by
        rcases Nat.eq_zero_or_pos (i - l.length) with h0 | h0
        · exact h0
        · rw [List.getElem?_eq_none (by simp; omega)] at hb; cases hb
      rw [hi2] at hb
      simp at hb
      subst hb
      have : i = n := by omega
      subst this
      exact ha
/-- a slice of instructions that came in reads as a list of instructions -/
theorem instrs_in {t e : TypeId} {f0 f1 f2 f3 f4 : Field} {fuel : Nat} {v : Value} {x : DataW H × List MemPlace} (ht : P.underlying t = some (.slice e)) (he : P.underlying e = some (.struct #[f0, f1, f2, f3, f4])) (hone : oneCellFields P #[f0, f1, f2, f3, f4] = true) (hC : P.cellsOf e = 5)
    (h0 : P.underlying f0.type = some (.int .i64)) (h1 : P.underlying f1.type = some (.int .i64)) (h2 : P.underlying f2.type = some (.int .i64)) (h3 : P.underlying f3.type = some (.int .i64)) (h4 : P.underlying f4.type = some (.int .i64)) (h : DataW.trod enc P w base spare held fuel t [v] = some x) :
    ∃ (A : Option Addr) (n c : Nat) (l : List Ins), v = .slice A n c ∧ n ≤ c ∧ c ≤ maxLen ∧ RdI w w.heap.size A n l ∧ (n = 0 ∨ ∃ el sp, x.1 = .slice el sp ∧ el.length = n) := by
  rcases open_slice_fields ht he hone hC h with ⟨hcs, _⟩ | ⟨a, len, cap, m, D, Pl, hcs, _, hl, hm, hmm, hx, hi⟩
  · simp at hcs
    exact ⟨none, 0, 0, [], hcs, Nat.le_refl _, Nat.zero_le _, ⟨rfl, fun i x hx => by simp at hx⟩, .inl rfl⟩
  · simp at hcs
    have hlm : len ≤ m := by rw [hmm]; split <;> omega
    obtain ⟨l, hlen, hvs⟩ := list_of (R := fun i (p : Ins) => ∀ j u, p.cs[j]? = some u → w.cell? (a.add (i * 5 + j)) = some u) len (fun i hil => by
      obtain ⟨ys, n, _, _, _, hf⟩ := hi i (by omega)
      obtain ⟨v0, y0, hc0, _, t0⟩ := hf 0 f0 rfl
      obtain ⟨v1, y1, hc1, _, t1⟩ := hf 1 f1 rfl
      obtain ⟨v2, y2, hc2, _, t2⟩ := hf 2 f2 rfl
      obtain ⟨v3, y3, hc3, _, t3⟩ := hf 3 f3 rfl
      obtain ⟨v4, y4, hc4, _, t4⟩ := hf 4 f4 rfl
      obtain ⟨x0, e0, _, _⟩ := DataW.trod_int h0 t0
      obtain ⟨x1, e1, _, _⟩ := DataW.trod_int h1 t1
      obtain ⟨x2, e2, _, _⟩ := DataW.trod_int h2 t2
      obtain ⟨x3, e3, _, _⟩ := DataW.trod_int h3 t3
      obtain ⟨x4, e4, _, _⟩ := DataW.trod_int h4 t4
      simp only [List.cons.injEq, and_true] at e0 e1 e2 e3 e4
      subst e0 e1 e2 e3 e4
      refine ⟨⟨x0, x1, x2, x3, x4⟩, fun j u hu => ?_⟩
      match j, hu with
      | 0, hu => simp [Ins.cs] at hu; subst hu; exact hc0
      | 1, hu => simp [Ins.cs] at hu; subst hu; exact hc1
      | 2, hu => simp [Ins.cs] at hu; subst hu; exact hc2
      | 3, hu => simp [Ins.cs] at hu; subst hu; exact hc3
      | 4, hu => simp [Ins.cs] at hu; subst hu; exact hc4)
    refine ⟨some a, len, cap, l, hcs, hl, hm, ⟨hlen, fun i y hy => ?_⟩, .inr ⟨_, _, by rw [hx], by simp⟩⟩
    have h6 := hvs i y hy
    obtain ⟨b, off, spot⟩ := a
    have h7 := h6 0 (.int .i64 y.op) rfl
    have hspot : spot = none := by
      have h8 := hvs 0 (l[0]'(by have := (List.getElem?_eq_some_iff.1 hy).1; omega)) (List.getElem?_eq_getElem _) 0 _ rfl
      simpa [Addr.add] using World.cell?_spot h8
    subst hspot
    refine ⟨b, off, rfl, ?_, fun j u hu => ?_⟩
    · have := World.block_lt_of_cell? _ _ h7
      rwa [block_of_add] at this
    · have := h6 j u hu
      have e : (⟨b, off, none⟩ : Addr).add (i * 5 + j) = ⟨b, off + (i * 5 + j), none⟩ := by unfold Addr.add; split <;> simp_all
      rw [e] at this
      exact this
end
end Go.Proofs.Ytaeegkljldngmaa
