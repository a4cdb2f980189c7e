/-
  What the bound on the arguments' bulk gives, and slices of deeds that came in. No statement of the seat is proved here.
-/
import Derived.Test.YtjhkfpemcplaaaaRows
import Derived.Test.YtjhkfpemcplaaaaFrameV
import Derived.Test.YtjhkfpemcplaaaaFrameI
import Derived.Test.YtjhkfpemcplaaaaFrameD
import Derived.Test.YtjhkfpemcplaaaaOnC
namespace Go.Proofs.Ytjhkfpemcplaaaa
open Go.Joins Go.ChangeShapes Go.WideShapes Go.RowKit Go.Deep

section
variable {H : Type} {enc : TypeId × Value → H} {P : Program} {w : World} {base : Nat} {spare : Nat → Bool} {held : Bool}
theorem bulk_one (d : DataW H) : 1 ≤ Rows.uptoBulk d := by
  cases d with
  | lit l => cases l <;> simp [Rows.uptoBulk]
  | nil => simp [Rows.uptoBulk]
  | ptr d => simp [Rows.uptoBulk]
  | slice elems spare => simp [Rows.uptoBulk]
  | agg parts => simp [Rows.uptoBulk]
  | iface t d => simp [Rows.uptoBulk]
  | map entries => simp [Rows.uptoBulk]
  | held h => simp [Rows.uptoBulk]
theorem bulk_app (l r : List (DataW H)) : Rows.uptoBulkAll (l ++ r) = Rows.uptoBulkAll l + Rows.uptoBulkAll r := by
  induction l with
  | nil => simp [Rows.uptoBulkAll]
  | cons x l ih => simp only [List.cons_append, Rows.uptoBulkAll, ih]; omega
theorem bulk_len (l : List (DataW H)) : l.length ≤ Rows.uptoBulkAll l := by
  induction l with
  | nil => simp [Rows.uptoBulkAll]
  | cons x r ih => have := bulk_one x; simp only [Rows.uptoBulkAll, List.length_cons]; omega
theorem bulk_slice (elems rest : List (DataW H)) : Rows.uptoBulkAll elems + 1 ≤ Rows.uptoBulk (.slice elems rest) := by
  simp only [Rows.uptoBulk]
  omega
theorem bulk_mem {d : DataW H} {l : List (DataW H)} (h : d ∈ l) : Rows.uptoBulk d ≤ Rows.uptoBulkAll l := by
  induction l with
  | nil => cases h
  | cons x r ih =>
    simp only [Rows.uptoBulkAll]
    cases List.mem_cons.1 h with
    | inl e => subst e; omega
    | inr e => have := ih e; omega
theorem bulk_bound {l : List (DataW H)} (hk : Rows.uptoSmall H l = true) : Rows.uptoBulkAll l ≤ 1048576 := of_decide_eq_true hk
/-- a slice of bytes that came in, and its bulk -/
theorem bytes_bulk {t e : TypeId} {fuel : Nat} {v : Value} {x : DataW H × List MemPlace} (ht : P.underlying t = some (.slice e)) (he : P.underlying e = some (.int .u8)) (hc : P.cellsOf e = 1)
    (h : DataW.trod enc P w base spare held fuel t [v] = some x) :
    ∃ (A : Option Addr) (n c : Nat) (bs : List UInt8), v = .slice A n c ∧ n ≤ c ∧ c ≤ maxLen ∧ RdB w w.heap.size A n bs ∧ bs.length + 1 ≤ Rows.uptoBulk x.1 := by
  obtain ⟨A, n, c, bs, e1, h1, h2, h3⟩ := bytes_in ht he hc h
  refine ⟨A, n, c, bs, e1, h1, h2, h3, ?_⟩
  have hl := h3.len1
  rcases open_slice ht h with ⟨hcs, hx⟩ | ⟨a, len, cap, m, n', D, Pl, hcs, _, _, _, _, hx, _⟩
  · rw [e1] at hcs
    simp at hcs
    obtain ⟨rfl, rfl, rfl⟩ := hcs
    rw [hx, hl]
    exact bulk_one _
  · rw [e1] at hcs
    simp at hcs
    obtain ⟨rfl, rfl, rfl⟩ := hcs
    rw [hx]
    have h4 := bulk_slice ((List.range n).map D) ((List.range (m - n)).map fun j => D (n + j))
    have h5 := bulk_len ((List.range n).map D)
    simp only [List.length_map, List.length_range] at h5
    dsimp only
    omega
theorem ints_bulk {t e : TypeId} {fuel : Nat} {v : Value} {x : DataW H × List MemPlace} (ht : P.underlying t = some (.slice e)) (he : P.underlying e = some (.int .i64)) (hc : P.cellsOf e = 1)
    (h : DataW.trod enc P w base spare held fuel t [v] = some x) :
    ∃ (A : Option Addr) (n c : Nat) (ns : List Int), v = .slice A n c ∧ RdI w w.heap.size A n ns ∧ (∀ z ∈ ns, I64 z) ∧ n + 1 ≤ Rows.uptoBulk x.1 := by
  obtain ⟨A, n, c, ns, e1, h1, h2, h3, h4⟩ := ints_in ht he hc h
  refine ⟨A, n, c, ns, e1, h3, h4, ?_⟩
  rcases open_slice ht h with ⟨hcs, hx⟩ | ⟨a, len, cap, m, n', D, Pl, hcs, _, _, _, _, hx, _⟩
  · rw [e1] at hcs
    simp at hcs
    obtain ⟨rfl, rfl, rfl⟩ := hcs
    rw [hx]
    exact bulk_one _
  · rw [e1] at hcs
    simp at hcs
    obtain ⟨rfl, rfl, rfl⟩ := hcs
    rw [hx]
    have h4 := bulk_slice ((List.range n).map D) ((List.range (m - n)).map fun j => D (n + j))
    have h5 := bulk_len ((List.range n).map D)
    simp only [List.length_map, List.length_range] at h5
    dsimp only
    omega
theorem bulk_agg (l : List (DataW H)) : Rows.uptoBulkAll l ≤ Rows.uptoBulk (.agg l) := by
  simp only [Rows.uptoBulk]
  omega
end
section
variable {H : Type} {enc : TypeId × Value → H} {w : World} {base : Nat} {spare : Nat → Bool} {held : Bool}
set_option maxRecDepth 20000 in
theorem deed_in2 {fuel : Nat} {cs : List Value} {x : DataW H × List MemPlace} (h : DataW.trod enc Try.prog w base spare held fuel 41 cs = some x) (hw : Rows.uptoBulk x.1 ≤ 1048576) :
    ∃ d : Dd, cs = d.v.toList ∧ d.In w ∧ d.nb ≤ 1048576 ∧ d.xn ≤ 1048576 ∧ d.n ≤ d.c ∧ d.c ≤ 9223372036854775807 ∧ d.bb.length + 1 ≤ Rows.uptoBulk x.1 := by
  have c41 : Try.prog.cellsOf 41 = 12 := by kernel_rfl
  have c35 : Try.prog.cellsOf 35 = 4 := by kernel_rfl
  have c39 : Try.prog.cellsOf 39 = 5 := by kernel_rfl
  have c37 : Try.prog.cellsOf 37 = 1 := by kernel_rfl
  have c36 : Try.prog.cellsOf 36 = 1 := by kernel_rfl
  have c33 : Try.prog.cellsOf 33 = 1 := by kernel_rfl
  have c32 : Try.prog.cellsOf 32 = 1 := by kernel_rfl
  have c22 : Try.prog.cellsOf 22 = 1 := by kernel_rfl
  have c9 : Try.prog.cellsOf 9 = 1 := by kernel_rfl
  have c3 : Try.prog.cellsOf 3 = 1 := by kernel_rfl
  obtain ⟨x0, x1, x2, x3, x4, m, hx, hl, g0, g1, g2, g3, g4⟩ := trod_s5 Try.underlying41 h
  rw [c41] at hl
  match cs, hl with
  | [v0, v1, v2, v3, v4, v5, v6, v7, v8, v9, v10, v11], _ =>
  simp only [c3, c35, c39, c37, List.drop_succ_cons, List.drop_zero, List.take_succ_cons, List.take_zero] at g0 g1 g2 g3 g4
  obtain ⟨K, e0, _, _⟩ := DataW.trod_int Try.underlying3 g0
  obtain ⟨Z, e11, _, _⟩ := DataW.trod_int Try.underlying3 g4
  obtain ⟨y0, y1, y2, y3, m1, hy, _, a0, a1, a2, a3⟩ := trod_s4 Try.underlying35 g1
  simp only [c32, c22, c33, c9, List.drop_succ_cons, List.drop_zero, List.take_succ_cons, List.take_zero] at a0 a1 a2 a3
  obtain ⟨xk, e1, _, _⟩ := DataW.trod_int Try.underlying32 a0
  obtain ⟨xh, e2, _, wf2⟩ := DataW.trod_int Try.underlying22 a1
  obtain ⟨xA, xn, xc, ns, e3, hrx, hu, hxb⟩ := ints_bulk Try.underlying33 Try.underlying3 c3 a2
  obtain ⟨str, e4, _, _⟩ := DataW.trod_string Try.underlying9 a3
  obtain ⟨z0, z1, z2, z3, z4, m2, _, _, b0, b1, b2, b3, b4⟩ := trod_s5 Try.underlying39 g2
  simp only [c36, c22, c37, List.drop_succ_cons, List.drop_zero, List.take_succ_cons, List.take_zero] at b0 b1 b2 b3 b4
  obtain ⟨k, e5, _, _⟩ := DataW.trod_int Try.underlying36 b0
  obtain ⟨t, e6, _, wf6⟩ := DataW.trod_int Try.underlying22 b1
  obtain ⟨s, e7, _, wf7⟩ := DataW.trod_int Try.underlying22 b2
  obtain ⟨a, e8, _, wf8⟩ := DataW.trod_int Try.underlying22 b3
  obtain ⟨A, n, c, body, e9, hnc, hcm, hr⟩ := bytes_in Try.underlying37 Try.underlying5 (by kernel_rfl) b4
  obtain ⟨B, nb, cb, bb, e10, _, _, hrb, hbb⟩ := bytes_bulk Try.underlying37 Try.underlying5 (by kernel_rfl) g3
  simp only [List.cons.injEq, and_true] at e0 e1 e2 e4 e5 e6 e7 e8 e11
  obtain ⟨xh, rfl, hxh⟩ := u64_of_wf wf2
  obtain ⟨t, rfl, ht⟩ := u64_of_wf wf6
  obtain ⟨s, rfl, hs⟩ := u64_of_wf wf7
  obtain ⟨a, rfl, ha⟩ := u64_of_wf wf8
  subst e0 e1 e2 e3 e4 e5 e6 e7 e8 e9 e10 e11
  have h3 : Rows.uptoBulk x3.1 ≤ Rows.uptoBulk x.1 := by
    rw [hx]
    exact Nat.le_trans (bulk_mem (by simp)) (bulk_agg _)
  have h1 : Rows.uptoBulk y2.1 ≤ Rows.uptoBulk x.1 := by
    rw [hx]
    refine Nat.le_trans ?_ (Nat.le_trans (bulk_mem (d := x1.1) (by simp)) (bulk_agg _))
    rw [hy]
    exact Nat.le_trans (bulk_mem (by simp)) (bulk_agg _)
  have hlb := hrb.len1
  have hmx : maxLen ≤ 9223372036854775807 := by decide
  exact ⟨⟨K, xk, xh, xA, xn, xc, str, k, t, s, a, A, n, c, B, nb, cb, Z, ns, body, bb⟩, rfl, ⟨hrx, hu, hxh, hr, hrb, ht, hs, ha, (by dsimp only; omega)⟩, (by dsimp only; omega), (by dsimp only; omega), hnc, (by dsimp only; omega), (by dsimp only; omega)⟩
/-- a slice of deeds that came in -/
theorem deeds_in {fuel : Nat} {v : Value} {x : DataW H × List MemPlace} (h : DataW.trod enc Try.prog w base spare held fuel 23 [v] = some x) (hw : Rows.uptoBulk x.1 ≤ 1048576) :
    ∃ (A : Option Addr) (c : Nat) (ds : List Dd), v = .slice A ds.length c ∧ DsIn w A ds ∧ ds.length ≤ 1048576 ∧ ckD ds ≤ 8589934592 := by
  have c41 : Try.prog.cellsOf 41 = 12 := by kernel_rfl
  rcases open_slice Try.underlying23 h with ⟨hcs, hx⟩ | ⟨a, len, cap, m, n, D, Pl, hcs, _, hl, _, hmm, hx, hi⟩
  · simp at hcs
    refine ⟨none, 0, [], hcs, ⟨⟨by simp [dCells], fun h => by simp at h⟩, (fun d hd => by cases hd), fun d hd => by cases hd⟩, by simp, by simp [ckD]⟩
  · simp at hcs
    have hlm : len ≤ m := by rw [hmm]; split <;> omega
    have h4 := bulk_slice ((List.range len).map D) ((List.range (m - len)).map fun j => D (len + j))
    have hx1 : Rows.uptoBulkAll ((List.range len).map D) + 1 ≤ 1048576 := by
      rw [hx] at hw
      dsimp only at hw
      omega
    obtain ⟨ds, hlen, hds⟩ := list_of (R := fun i (d : Dd) => w.cells? base (a.add (i * 12)) 12 = some d.v.toList ∧ d.In w ∧ d.nb ≤ 1048576 ∧ d.xn ≤ 1048576 ∧ d.n ≤ d.c ∧ d.c ≤ 9223372036854775807 ∧ d.bb.length + 1 ≤ Rows.uptoBulk (D i)) len (fun i hil => by
      obtain ⟨cs', hc, ht'⟩ := hi i (by omega)
      rw [c41] at hc
      have hbi : Rows.uptoBulk (D i) ≤ 1048576 := by
        have := bulk_mem (d := D i) (l := (List.range len).map D) (List.mem_map_of_mem (List.mem_range.2 hil))
        omega
      obtain ⟨d, e, h1⟩ := deed_in2 ht' hbi
      exact ⟨d, by rw [← e]; exact hc, h1⟩)
    have hsum : ∀ k, k ≤ len → ckD (ds.take k) ≤ Rows.uptoBulkAll ((List.range k).map D) + 4000 * k := by
      intro k
      induction k with
      | zero => intro _; simp [ckD]
      | succ k ih =>
        intro hk
        obtain ⟨d, hd⟩ : ∃ d, ds[k]? = some d := ⟨_, List.getElem?_eq_getElem (by omega)⟩
        have h1 := ckD_next hd
        have h2 := (hds k d hd).2.2.2.2.2.2
        have h3 := ih (by omega)
        rw [List.range_succ, List.map_append, bulk_app]
        simp only [List.map_cons, List.map_nil, Rows.uptoBulkAll]
        omega
    have hll : len ≤ 1048576 := by
      have := bulk_len ((List.range len).map D)
      simp only [List.length_map, List.length_range] at this
      omega
    refine ⟨some a, cap, ds, by rw [hlen]; exact hcs, ⟨⟨dCells_len ds, fun h0 => ⟨a, rfl, ?_, fun j u hu => ?_⟩⟩, fun d hd => ?_, fun d hd => ?_⟩, by omega, ?_⟩
    · obtain ⟨d, hd⟩ : ∃ d, ds[0]? = some d := ⟨_, List.getElem?_eq_getElem (by omega)⟩
      obtain ⟨_, _, hat⟩ := World.cells?_some (hds 0 d hd).1
      have h1 := (hat 0 (show 0 < 12 by omega)).trans (show d.v.toList[0]? = some (.int .i64 d.K) from rfl)
      have := World.block_lt_of_cell? _ _ h1
      rwa [block_of_add, block_of_add] at this
    · have hjl : j < ds.length * 12 := by rw [← dCells_len]; exact (List.getElem?_eq_some_iff.1 hu).1
      obtain ⟨d, hd⟩ : ∃ d, ds[j / 12]? = some d := ⟨_, List.getElem?_eq_getElem (by omega)⟩
      have h1 := d_at ds (j / 12) d (j % 12) (Nat.mod_lt _ (by decide)) hd
      have hj : j / 12 * 12 + j % 12 = j := by omega
      rw [hj, hu] at h1
      obtain ⟨_, hcl, hat⟩ := World.cells?_some (hds (j / 12) d hd).1
      have h2 := hat (j % 12) (Nat.mod_lt j (show 0 < 12 by decide))
      rw [add_of_add, hj] at h2
      rw [h2]
      exact h1.symm
    · obtain ⟨k, hk⟩ := List.getElem?_of_mem hd
      have := hds k d hk
      exact ⟨this.2.1, this.2.2.1, this.2.2.2.1⟩
    · obtain ⟨k, hk⟩ := List.getElem?_of_mem hd
      have := hds k d hk
      exact ⟨this.2.2.2.2.1, this.2.2.2.2.2.1⟩
    · have h5 := hsum len (Nat.le_refl _)
      rw [List.take_of_length_le (by omega)] at h5
      omega
end
end Go.Proofs.Ytjhkfpemcplaaaa
