/-
  Arguments opened for the walks: a slice of the replies' values as a list. No statement of the seat is proved here.
-/
import Derived.Test.YtjhkfpemcplaaaaFrame
import Derived.Test.YtjhkfpemcplaaaaPt
import Derived.Deep.Slices
import Derived.Deep.Fields
import Derived.ChangeSame
namespace Go.Proofs.Ytjhkfpemcplaaaa
open Go.Joins Go.ChangeShapes Go.WideShapes Go.RowKit Go.Deep

section
variable {H : Type} {enc : TypeId × Value → H} {P : Program} {w : World} {base : Nat} {spare : Nat → Bool} {held : Bool}
theorem open_slice_fields {t e : TypeId} {fs : Array Field} {fuel : Nat} {cs : List Value} {x : DataW H × List MemPlace} (ht : P.underlying t = some (.slice e)) (he : P.underlying e = some (.struct fs))
    (hone : oneCellFields P fs = true) (hC : P.cellsOf e = fs.size) (h : DataW.trod enc P w base spare held fuel t cs = some x) :
    (cs = [.slice none 0 0] ∧ x = (.nil, [])) ∨
    ∃ (a : Addr) (len cap m : Nat) (D : Nat → DataW H) (Pl : Nat → List MemPlace), cs = [.slice (some a) len cap] ∧ base ≤ a.block ∧ len ≤ cap ∧ cap ≤ maxLen ∧ m = (if spare a.block then cap else len) ∧
      x = (.slice ((List.range len).map D) ((List.range (m - len)).map fun j => D (len + j)), MemPlace.row a (m * fs.size) ++ (List.range m).flatMap Pl) ∧
      ∀ i, i < m → ∃ (ys : List (DataW H × List MemPlace)) (n : Nat), D i = .agg (ys.map (·.1)) ∧ Pl i = ys.flatMap (·.2) ∧ ys.length = fs.size ∧
        ∀ (j : Nat) (f : Field), fs[j]? = some f → ∃ (v : Value) (y : DataW H × List MemPlace), w.cell? (a.add (i * fs.size + j)) = some v ∧ ys[j]? = some y ∧ DataW.trod enc P w base spare held n f.type [v] = some y := by
  rcases open_slice ht h with h0 | ⟨a, len, cap, m, n, D, Pl, hcs, hb, hl, hm, hmm, hx, hi⟩
  · exact .inl h0
  · refine .inr ⟨a, len, cap, m, D, Pl, hcs, hb, hl, hm, hmm, by rw [hC] at hx; exact hx, fun i him => ?_⟩
    obtain ⟨cs', hc, ht'⟩ := hi i him
    rw [hC] at hc
    obtain ⟨ys, n', hn', hy, hlen, hyl, hf⟩ := DataW.trod_struct he ht'
    obtain ⟨_, hcl, hat⟩ := World.cells?_some hc
    simp only [Prod.mk.injEq] at hy
    refine ⟨ys, n', hy.1, hy.2, hyl, fun j f hj => ?_⟩
    obtain ⟨ho, hk⟩ := hone_of hone j f hj
    have hjl : j < fs.size := (Array.getElem?_eq_some_iff.1 hj).1
    have hcell := hat j hjl
    have hv : cs'[j]? = some (cs'[j]'(by omega)) := List.getElem?_eq_getElem (by omega)
    have h1 := hf j f hj
    rw [ho, hk] at h1
    have hone' : (cs'.drop j).take 1 = [cs'[j]'(by omega)] := by
      rw [List.drop_eq_getElem_cons (by omega)]
      rfl
    rw [hone'] at h1
    have hys : ys[j]? = some (ys[j]'(by omega)) := List.getElem?_eq_getElem (by omega)
    refine ⟨_, _, ?_, hys, h1.trans hys⟩
    rw [← Go.Deep.add_add, hcell, hv]

theorem list_of {α : Type} {R : Nat → α → Prop} : ∀ (n : Nat), (∀ i, i < n → ∃ a, R i a) → ∃ l : List α, l.length = n ∧ ∀ i a, l[i]? = some a → R i a := by
  intro n
  induction n with
  | zero => intro _; exact ⟨[], rfl, fun i a h => by simp at h⟩
  | succ n ih =>
    intro h
    obtain ⟨l, hl, hr⟩ := ih fun i hi => h i (by omega)
    obtain ⟨a, ha⟩ := h n (by omega)
    refine ⟨l ++ [a], by simp [hl], fun i b hb => ?_⟩
    by_cases hi : i < l.length
    · rw [List.getElem?_append_left hi] at hb
      exact hr i b hb
    · rw [List.getElem?_append_right (by omega)] at hb
      have hi2 : i - l.length = 0 := by
        rcases Nat.eq_zero_or_pos (i - l.length) with h0 | h0
        · exact h0
        · rw [List.getElem?_eq_none (by simp; omega)] at hb; cases hb
      rw [hi2] at hb
      simp at hb
      subst hb
      have : i = n := by omega
      subst this
      exact ha
theorem i64_of_wf {z : Int} (h : (Lit.int .i64 z).wf = true) : I64 z := by
  simp [Lit.wf, IntKind.min, IntKind.max, IntKind.signed, IntKind.bits] at h
  unfold I64
  omega
theorem vcells_get (vs : List (Nat × Int)) : ∀ (j : Nat) (u : Value), (vcells vs)[j]? = some u → ∃ k v, vs[k]? = some v ∧ ((j = k * 2 ∧ u = .int .u64 (v.1 : Int)) ∨ (j = k * 2 + 1 ∧ u = .int .i64 v.2)) := by
  induction vs with
  | nil => intro j u h; simp [vcells] at h
  | cons x l ih =>
    intro j u h
    have e : vcells (x :: l) = .int .u64 (x.1 : Int) :: .int .i64 x.2 :: vcells l := rfl
    rw [e] at h
    match j with
    | 0 => simp at h; exact ⟨0, x, rfl, .inl ⟨rfl, h.symm⟩⟩
    | 1 => simp at h; exact ⟨0, x, rfl, .inr ⟨rfl, h.symm⟩⟩
    | j + 2 =>
      obtain ⟨k, v, hv, hj⟩ := ih j u (by simpa using h)
      refine ⟨k + 1, v, by simpa using hv, ?_⟩
      rcases hj with ⟨rfl, hu⟩ | ⟨rfl, hu⟩
      · exact .inl ⟨by omega, hu⟩
      · exact .inr ⟨by omega, hu⟩
/-- a slice of values that came in reads as a list of values -/
theorem vals_in {t e : TypeId} {f0 f1 : Field} {fuel : Nat} {v : Value} {x : DataW H × List MemPlace} (ht : P.underlying t = some (.slice e)) (he : P.underlying e = some (.struct #[f0, f1])) (hone : oneCellFields P #[f0, f1] = true) (hC : P.cellsOf e = 2)
    (h0 : P.underlying f0.type = some (.int .u64)) (h1 : P.underlying f1.type = some (.int .i64)) (h : DataW.trod enc P w base spare held fuel t [v] = some x) :
    ∃ (A : Option Addr) (n c : Nat) (vs : List (Nat × Int)), v = .slice A n c ∧ n ≤ c ∧ c ≤ maxLen ∧ RdV w w.heap.size A n vs ∧ ∀ v ∈ vs, v.1 < 18446744073709551616 ∧ I64 v.2 := by
  rcases open_slice_fields ht he hone hC h with ⟨hcs, _⟩ | ⟨a, len, cap, m, D, Pl, hcs, _, hl, hm, hmm, _, hi⟩
  · simp at hcs
    exact ⟨none, 0, 0, [], hcs, Nat.le_refl _, Nat.zero_le _, Reads.none_, by intro v hv; simp at hv⟩
  · simp at hcs
    have hlm : len ≤ m := by rw [hmm]; split <;> omega
    obtain ⟨vs, hlen, hvs⟩ := list_of (R := fun i (p : Nat × Int) => w.cell? (a.add (i * 2)) = some (.int .u64 (p.1 : Int)) ∧ w.cell? (a.add (i * 2 + 1)) = some (.int .i64 p.2) ∧ p.1 < 18446744073709551616 ∧ I64 p.2) len (fun i hil => by
      obtain ⟨ys, n, _, _, _, hf⟩ := hi i (by omega)
      obtain ⟨v0, y0, hc0, _, t0⟩ := hf 0 f0 rfl
      obtain ⟨v1, y1, hc1, _, t1⟩ := hf 1 f1 rfl
      obtain ⟨x0, e0, _, wf0⟩ := DataW.trod_int h0 t0
      obtain ⟨x1, e1, _, wf1⟩ := DataW.trod_int h1 t1
      simp only [List.cons.injEq, and_true] at e0 e1
      obtain ⟨q, rfl, hq⟩ := u64_of_wf wf0
      refine ⟨(q, x1), ?_, ?_, hq, i64_of_wf wf1⟩
      · rw [← e0]; simpa using hc0
      · rw [← e1]; simpa using hc1)
    refine ⟨some a, len, cap, vs, hcs, hl, hm, ⟨by rw [vcells_len, hlen], fun hn => ⟨a, rfl, ?_, fun j u hu => ?_⟩⟩, fun v hv => ?_⟩
    · obtain ⟨p, hp⟩ : ∃ p, vs[0]? = some p := ⟨_, List.getElem?_eq_getElem (by omega)⟩
      have := World.block_lt_of_cell? _ _ (hvs 0 p hp).1
      rwa [block_of_add] at this
    · obtain ⟨k, p, hp, hj⟩ := vcells_get vs j u hu
      have hk := hvs k p hp
      rcases hj with ⟨rfl, rfl⟩ | ⟨rfl, rfl⟩
      · exact hk.1
      · exact hk.2.1
    · obtain ⟨k, hk⟩ := List.getElem?_of_mem hv
      exact (hvs k v hk).2.2
end

end Go.Proofs.Ytjhkfpemcplaaaa
