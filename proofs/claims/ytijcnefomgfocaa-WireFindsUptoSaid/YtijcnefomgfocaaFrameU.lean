/-
  What the bound on the arguments' bulk gives, and slices of chunks that came in. No statement of the seat is proved here.
-/
import Derived.Test.YtijcnefomgfocaaRows
import Derived.Test.YtijcnefomgfocaaFrameV
import Derived.Test.YtijcnefomgfocaaFrameI
import Derived.Test.YtijcnefomgfocaaReads9
namespace Go.Proofs.Ytijcnefomgfocaa
open Go.Joins Go.ChangeShapes Go.WideShapes Go.RowKit Go.Deep

section
variable {H : Type} {enc : TypeId × Value → H} {P : Program} {w : World} {base : Nat} {spare : Nat → Bool} {held : Bool}
theorem bulk_one (d : DataW H) : 1 ≤ Rows.uptoBulk d := by
  cases d with
  | lit l => cases l <;> simp [Rows.uptoBulk]
  | nil => simp [Rows.uptoBulk]
  | ptr d => simp [Rows.uptoBulk]
  | slice elems spare => simp [Rows.uptoBulk]
  | agg parts => simp [Rows.uptoBulk]
  | iface t d => simp [Rows.uptoBulk]
  | map entries => simp [Rows.uptoBulk]
  | held h => simp [Rows.uptoBulk]
theorem bulk_app (l r : List (DataW H)) : Rows.uptoBulkAll (l ++ r) = Rows.uptoBulkAll l + Rows.uptoBulkAll r := by
  induction l with
  | nil => simp [Rows.uptoBulkAll]
  | cons x l ih => simp only [List.cons_append, Rows.uptoBulkAll, ih]; omega
theorem bulk_len (l : List (DataW H)) : l.length ≤ Rows.uptoBulkAll l := by
  induction l with
  | nil => simp [Rows.uptoBulkAll]
  | cons x r ih => have := bulk_one x; simp only [Rows.uptoBulkAll, List.length_cons]; omega
theorem bulk_slice (elems rest : List (DataW H)) : Rows.uptoBulkAll elems + 1 ≤ Rows.uptoBulk (.slice elems rest) := by
  simp only [Rows.uptoBulk]
  omega
theorem bulk_mem {d : DataW H} {l : List (DataW H)} (h : d ∈ l) : Rows.uptoBulk d ≤ Rows.uptoBulkAll l := by
  induction l with
  | nil => cases h
  | cons x r ih =>
    simp only [Rows.uptoBulkAll]
    cases List.mem_cons.1 h with
    | inl e => subst e; omega
    | inr e => have := ih e; omega
theorem bulk_bound {l : List (DataW H)} (hk : Rows.uptoSmall H l = true) : Rows.uptoBulkAll l ≤ 1048576 := of_decide_eq_true hk
/-- a slice of bytes that came in, and its bulk -/
theorem bytes_bulk {t e : TypeId} {fuel : Nat} {v : Value} {x : DataW H × List MemPlace} (ht : P.underlying t = some (.slice e)) (he : P.underlying e = some (.int .u8)) (hc : P.cellsOf e = 1)
    (h : DataW.trod enc P w base spare held fuel t [v] = some x) :
    ∃ (A : Option Addr) (n c : Nat) (bs : List UInt8), v = .slice A n c ∧ n ≤ c ∧ c ≤ maxLen ∧ RdB w w.heap.size A n bs ∧ bs.length + 1 ≤ Rows.uptoBulk x.1 := by
  obtain ⟨A, n, c, bs, e1, h1, h2, h3⟩ := bytes_in ht he hc h
  refine ⟨A, n, c, bs, e1, h1, h2, h3, ?_⟩
  have hl := h3.len1
  rcases open_slice ht h with ⟨hcs, hx⟩ | ⟨a, len, cap, m, n', D, Pl, hcs, _, _, _, _, hx, _⟩
  · rw [e1] at hcs
    simp at hcs
    obtain ⟨rfl, rfl, rfl⟩ := hcs
    rw [hx, hl]
    exact bulk_one _
  · rw [e1] at hcs
    simp at hcs
    obtain ⟨rfl, rfl, rfl⟩ := hcs
    rw [hx]
    have h4 := bulk_slice ((List.range n).map D) ((List.range (m - n)).map fun j => D (n + j))
    have h5 := bulk_len ((List.range n).map D)
    simp only [List.length_map, List.length_range] at h5
    dsimp only
    omega
/-- a slice of chunks that came in -/
theorem chunks_in {t e e1 : TypeId} {fuel : Nat} {v : Value} {x : DataW H × List MemPlace} (ht : P.underlying t = some (.slice e)) (hce : P.cellsOf e = 1) (he : P.underlying e = some (.slice e1)) (he1 : P.underlying e1 = some (.int .u8)) (hc : P.cellsOf e1 = 1)
    (h : DataW.trod enc P w base spare held fuel t [v] = some x) :
    ∃ (A : Option Addr) (c : Nat) (qs : List (Option Addr × Nat × List UInt8)), v = .slice A qs.length c ∧ CRd w A qs ∧ ckSum qs + qs.length + 1 ≤ Rows.uptoBulk x.1 := by
  rcases open_slice1 ht hce h with ⟨hcs, hx⟩ | ⟨a, len, cap, m, n, V, D, Pl, hcs, _, hl, _, hmm, hx, hi⟩
  · simp at hcs
    refine ⟨none, 0, [], hcs, ⟨⟨by simp, fun h => by simp at h⟩, fun q hq => by cases hq⟩, ?_⟩
    have := bulk_one x.1
    simp [ckSum]
    omega
  · simp at hcs
    have hlm : len ≤ m := by rw [hmm]; split <;> omega
    obtain ⟨qs, hlen, hqs⟩ := list_of (R := fun i (q : Option Addr × Nat × List UInt8) => w.cell? (a.add i) = some (ckCell q) ∧ RdB w w.heap.size q.1 q.2.2.length q.2.2 ∧ q.2.2.length + 1 ≤ Rows.uptoBulk (D i)) len (fun i hil => by
      obtain ⟨hc1, ht1⟩ := hi i (by omega)
      obtain ⟨A, n1, c1, bs, e2, _, _, hr, hb⟩ := bytes_bulk he he1 hc ht1
      have hl1 := hr.len1
      subst hl1
      refine ⟨(A, c1, bs), ?_, hr, hb⟩
      rw [hc1, e2]
      rfl)
    have hsum : ∀ k, k ≤ len → ckSum (qs.take k) + k ≤ Rows.uptoBulkAll ((List.range k).map D) := by
      intro k
      induction k with
      | zero => intro _; simp [ckSum]
      | succ k ih =>
        intro hk
        obtain ⟨q, hq⟩ : ∃ q, qs[k]? = some q := ⟨_, List.getElem?_eq_getElem (by omega)⟩
        have h1 := ckSum_take qs k q hq
        have h2 := (hqs k q hq).2.2
        have h3 := ih (by omega)
        rw [List.range_succ, List.map_append, bulk_app]
        simp only [List.map_cons, List.map_nil, Rows.uptoBulkAll]
        omega
    refine ⟨some a, cap, qs, by rw [hlen]; exact hcs, ⟨⟨by simp, fun h0 => ⟨a, rfl, ?_, fun j u hu => ?_⟩⟩, fun q hq => ?_⟩, ?_⟩
    · obtain ⟨q, hq⟩ : ∃ q, qs[0]? = some q := ⟨_, List.getElem?_eq_getElem (by omega)⟩
      have := World.block_lt_of_cell? _ _ (hqs 0 q hq).1
      rwa [block_of_add] at this
    · rw [List.getElem?_map] at hu
      cases hq : qs[j]? with
      | none => rw [hq] at hu; cases hu
      | some q =>
        rw [hq] at hu
        injection hu with hu
        subst hu
        exact (hqs j q hq).1
    · obtain ⟨k, hk⟩ := List.getElem?_of_mem hq
      exact (hqs k q hk).2.1
    · rw [hx]
      have h4 := bulk_slice ((List.range len).map D) ((List.range (m - len)).map fun j => D (len + j))
      have h5 := hsum len (Nat.le_refl _)
      rw [List.take_of_length_le (by omega)] at h5
      dsimp only
      omega
end
end Go.Proofs.Ytijcnefomgfocaa
