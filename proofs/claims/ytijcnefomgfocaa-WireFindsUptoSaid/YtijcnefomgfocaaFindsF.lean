/-
  Packets that came in, opened for the walk of WireFinds. No statement of the seat is proved here.
-/
import Derived.Test.YtijcnefomgfocaaFrameU
import Derived.Test.YtijcnefomgfocaaFindsL
namespace Go.Proofs.Ytijcnefomgfocaa
open Go.Joins Go.ChangeShapes Go.WideShapes Go.RowKit Go.Deep

section
variable {H : Type} {enc : TypeId × Value → H} {P : Program} {w : World} {base : Nat} {spare : Nat → Bool} {held : Bool}
theorem apcells_get (zs : List AP) : ∀ (j : Nat) (u : Value), (zs.flatMap apCells)[j]? = some u → ∃ k z i, zs[k]? = some z ∧ i < 5 ∧ j = k * 5 + i ∧ (apCells z)[i]? = some u := by
  induction zs with
  | nil => intro j u h; simp at h
  | cons x l ih =>
    intro j u h
    rw [List.flatMap_cons] at h
    have hl : (apCells x).length = 5 := rfl
    by_cases hj : j < 5
    · rw [List.getElem?_append_left (by omega)] at h
      exact ⟨0, x, j, rfl, hj, by omega, h⟩
    · rw [List.getElem?_append_right (by omega), hl] at h
      obtain ⟨k, z, i, hz, hi, hji, hu⟩ := ih (j - 5) u h
      exact ⟨k + 1, z, i, by simpa using hz, hi, by omega, hu⟩
/-- a slice of packets that came in reads as a list of packets -/
theorem packets_in {t e eb : TypeId} {f0 f1 f2 f3 f4 : Field} {fuel : Nat} {v : Value} {x : DataW H × List MemPlace} (ht : P.underlying t = some (.slice e)) (he : P.underlying e = some (.struct #[f0, f1, f2, f3, f4])) (hone : oneCellFields P #[f0, f1, f2, f3, f4] = true) (hC : P.cellsOf e = 5)
    (h0 : P.underlying f0.type = some (.int .i64)) (h1 : P.underlying f1.type = some (.int .u64)) (h2 : P.underlying f2.type = some (.int .u64)) (h3 : P.underlying f3.type = some (.int .u64)) (h4 : P.underlying f4.type = some (.slice eb)) (hb : P.underlying eb = some (.int .u8)) (hcb : P.cellsOf eb = 1)
    (h : DataW.trod enc P w base spare held fuel t [v] = some x) :
    ∃ (A : Option Addr) (c : Nat) (zs : List AP), v = .slice A zs.length c ∧ ARd w A zs := by
  rcases open_slice_fields ht he hone (by rw [hC]; rfl) h with ⟨hcs, _⟩ | ⟨a, len, cap, m, D, Pl, hcs, _, hl, hm, hmm, hx, hi⟩
  · simp at hcs
    exact ⟨none, 0, [], hcs, ⟨by simp, fun h => by simp at h⟩, fun z hz => by cases hz⟩
  · simp at hcs
    have hlm : len ≤ m := by rw [hmm]; split <;> omega
    obtain ⟨zs, hlen, hzs⟩ := list_of (R := fun i (z : AP) => (∀ j u, (apCells z)[j]? = some u → w.cell? (a.add (i * 5 + j)) = some u) ∧ RdB w w.heap.size z.2.2.2.2.2.1 z.2.2.2.2.1.length z.2.2.2.2.1 ∧ z.2.1 < 18446744073709551616 ∧ z.2.2.1 < 18446744073709551616 ∧ z.2.2.2.1 < 18446744073709551616) len (fun i hil => by
      obtain ⟨ys, n, _, _, _, hf⟩ := hi i (by omega)
      obtain ⟨v0, y0, c0, _, t0⟩ := hf 0 f0 rfl
      obtain ⟨v1, y1, c1, _, t1⟩ := hf 1 f1 rfl
      obtain ⟨v2, y2, c2, _, t2⟩ := hf 2 f2 rfl
      obtain ⟨v3, y3, c3, _, t3⟩ := hf 3 f3 rfl
      obtain ⟨v4, y4, c4, _, t4⟩ := hf 4 f4 rfl
      obtain ⟨x0, e0, _, _⟩ := DataW.trod_int h0 t0
      obtain ⟨x1, e1, _, wf1⟩ := DataW.trod_int h1 t1
      obtain ⟨x2, e2, _, wf2⟩ := DataW.trod_int h2 t2
      obtain ⟨x3, e3, _, wf3⟩ := DataW.trod_int h3 t3
      obtain ⟨A, n4, cc, bs, e4, _, _, hr⟩ := bytes_in h4 hb hcb t4
      obtain ⟨u1, rfl, b1⟩ := u64_of_wf wf1
      obtain ⟨u2, rfl, b2⟩ := u64_of_wf wf2
      obtain ⟨u3, rfl, b3⟩ := u64_of_wf wf3
      simp only [List.cons.injEq, and_true] at e0 e1 e2 e3
      subst e0 e1 e2 e3 e4
      obtain rfl : bs.length = n4 := hr.len1
      refine ⟨(x0, u1, u2, u3, bs, A, cc), fun j u hu => ?_, hr, b1, b2, b3⟩
      have hs : #[f0, f1, f2, f3, f4].size = 5 := rfl
      rw [hs] at c0 c1 c2 c3 c4
      match j with
      | 0 => simp [apCells] at hu; rw [← hu]; exact c0
      | 1 => simp [apCells] at hu; rw [← hu]; exact c1
      | 2 => simp [apCells] at hu; rw [← hu]; exact c2
      | 3 => simp [apCells] at hu; rw [← hu]; exact c3
      | 4 => simp [apCells] at hu; rw [← hu]; exact c4
      | j + 5 => simp [apCells] at hu)
    have hcl : (zs.flatMap apCells).length = zs.length * 5 := by
      clear hzs hlen
      induction zs with
      | nil => rfl
      | cons z l ih => rw [List.flatMap_cons, List.length_append, ih, List.length_cons]; show 5 + _ = _; omega
    refine ⟨some a, cap, zs, by rw [hlen]; exact hcs, ⟨hcl, fun h0' => ⟨a, rfl, ?_, fun j u hu => ?_⟩⟩, fun z hz => ?_⟩
    · obtain ⟨z, hz⟩ : ∃ z, zs[0]? = some z := ⟨_, List.getElem?_eq_getElem (by omega)⟩
      have := World.block_lt_of_cell? _ _ ((hzs 0 z hz).1 0 _ rfl)
      rwa [block_of_add] at this
    · obtain ⟨k, z, i, hz, hi5, rfl, hu'⟩ := apcells_get zs j u hu
      exact (hzs k z hz).1 i u hu'
    · obtain ⟨k, hk⟩ := List.getElem?_of_mem hz
      exact (hzs k z hk).2
end
end Go.Proofs.Ytijcnefomgfocaa
