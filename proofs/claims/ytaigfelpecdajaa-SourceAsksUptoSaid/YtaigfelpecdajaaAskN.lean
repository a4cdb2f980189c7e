/-
  What the bound on the arguments' bulk gives; trees that came in. No statement of the seat is proved here.
-/
import Derived.Test.YtaigfelpecdajaaRows
import Derived.Test.YtaigfelpecdajaaAskM
import Derived.Deep.Slices
import Derived.Deep.Fields
import Derived.ChangeSame
import Derived.OpenShut
import Derived.ProofKit
import Derived.Lib.SmallJoins
namespace Go.Proofs.Ytaigfelpecdajaa
open Go.Joins Go.ChangeShapes Go.WideShapes Go.RowKit Go.Deep

section
variable {H : Type} {enc : TypeId × Value → H} {P : Program} {w : World} {base : Nat} {spare : Nat → Bool} {held : Bool}
theorem bulk_one (d : DataW H) : 1 ≤ Rows.uptoBulk d := by
  cases d with
  | lit l => cases l <;> simp [Rows.uptoBulk]
  | nil => simp [Rows.uptoBulk]
  | ptr d => simp [Rows.uptoBulk]
  | slice elems spare => simp [Rows.uptoBulk]
  | agg parts => simp [Rows.uptoBulk]
  | iface t d => simp [Rows.uptoBulk]
  | map entries => simp [Rows.uptoBulk]
  | held h => simp [Rows.uptoBulk]
theorem bulk_app (l r : List (DataW H)) : Rows.uptoBulkAll (l ++ r) = Rows.uptoBulkAll l + Rows.uptoBulkAll r := by
  induction l with
  | nil => simp [Rows.uptoBulkAll]
  | cons x l ih => simp only [List.cons_append, Rows.uptoBulkAll, ih]; omega
theorem bulk_len (l : List (DataW H)) : l.length ≤ Rows.uptoBulkAll l := by
  induction l with
  | nil => simp [Rows.uptoBulkAll]
  | cons x r ih => have := bulk_one x; simp only [Rows.uptoBulkAll, List.length_cons]; omega
theorem bulk_slice (elems rest : List (DataW H)) : Rows.uptoBulkAll elems + 1 ≤ Rows.uptoBulk (.slice elems rest) := by
  simp only [Rows.uptoBulk]
  omega
theorem bulk_mem {d : DataW H} {l : List (DataW H)} (h : d ∈ l) : Rows.uptoBulk d ≤ Rows.uptoBulkAll l := by
  induction l with
  | nil => cases h
  | cons x r ih =>
    simp only [Rows.uptoBulkAll]
    cases List.mem_cons.1 h with
    | inl e => subst e; omega
    | inr e => have := ih e; omega
theorem bulk_bound {l : List (DataW H)} (hk : Rows.uptoSmall H l = true) : Rows.uptoBulkAll l ≤ 1048576 := of_decide_eq_true hk
theorem list_of {α : Type} {R : Nat → α → Prop} : ∀ (n : Nat), (∀ i, i < n → ∃ a, R i a) → ∃ l : List α, l.length = n ∧ ∀ i a, l[i]? = some a → R i a := by
  intro n
  induction n with
  | zero => intro _; exact ⟨[], rfl, fun i a h => by simp at h⟩
  | succ n ih =>
    intro h
    obtain ⟨l, hl, hr⟩ := ih fun i hi => h i (by omega)
    obtain ⟨a, ha⟩ := h n (by omega)
    refine ⟨l ++ [a], by simp [hl], fun i b hb => ?_⟩
    by_cases hi : i < l.length
    · rw [List.getElem?_append_left hi] at hb
      exact hr i b hb
    · rw [List.getElem?_append_right (by omega)] at hb
      have hi2 : i - l.length = 0 := by
        rcases Nat.eq_zero_or_pos (i - l.length) with h0 | h0
        · exact h0
        · rw [List.getElem?_eq_none (by simp; omega)] at hb; cases hb
      rw [hi2] at hb
      simp at hb
      subst hb
      have : i = n := by omega
      subst this
      exact ha
/-- a slice of strings that came in -/
theorem strs_in {t e : TypeId} {fuel : Nat} {v : Value} {x : DataW H × List MemPlace} (ht : P.underlying t = some (.slice e)) (he : P.underlying e = some .string) (hc : P.cellsOf e = 1)
    (h : DataW.trod enc P w base spare held fuel t [v] = some x) :
    ∃ (A : Option Addr) (c : Nat) (ss : List ByteArray), v = .slice A ss.length c ∧ RdS w w.heap.size A ss.length ss ∧ ss.length + 1 ≤ Rows.uptoBulk x.1 := by
  rcases open_slice1 ht hc h with ⟨hcs, hx⟩ | ⟨a, len, cap, m, n, V, D, Pl, hcs, _, hl, _, hmm, hx, hi⟩
  · simp at hcs
    refine ⟨none, 0, [], hcs, Reads.none_, ?_⟩
    have := bulk_one x.1
    simp
    omega
  · simp at hcs
    have hlm : len ≤ m := by rw [hmm]; split <;> omega
    obtain ⟨ss, hlen, hss⟩ := list_of (R := fun i (s : ByteArray) => w.cell? (a.add i) = some (.string s)) len (fun i hil => by
      obtain ⟨hc1, ht1⟩ := hi i (by omega)
      obtain ⟨s, hs, _, _⟩ := DataW.trod_string he ht1
      simp only [List.cons.injEq, and_true] at hs
      exact ⟨s, by rw [hc1, hs]⟩)
    refine ⟨some a, cap, ss, by rw [hlen]; exact hcs, ⟨by simp, fun h0 => ⟨a, rfl, ?_, fun j u hu => ?_⟩⟩, ?_⟩
    · obtain ⟨q, hq⟩ : ∃ q, ss[0]? = some q := ⟨_, List.getElem?_eq_getElem (by omega)⟩
      have := World.block_lt_of_cell? _ _ (hss 0 q hq)
      rwa [block_of_add] at this
    · rw [List.getElem?_map] at hu
      cases hq : ss[j]? with
      | none => rw [hq] at hu; cases hu
      | some q =>
        rw [hq] at hu
        injection hu with hu
        subst hu
        exact hss j q hq
    · rw [hx]
      have h4 := bulk_slice ((List.range len).map D) ((List.range (m - len)).map fun j => D (len + j))
      have h5 := bulk_len ((List.range len).map D)
      simp only [List.length_map, List.length_range] at h5
      dsimp only
      omega
theorem flat_len {α : Type} {k : Nat} : ∀ {css : List (List α)}, (∀ cs ∈ css, cs.length = k) → css.flatten.length = css.length * k
  | [], _ => by simp
  | a :: l, h => by
    rw [List.flatten_cons, List.length_append, h a (by simp), flat_len (fun c hc => h c (List.mem_cons_of_mem _ hc)), List.length_cons, Nat.add_mul]
    omega
theorem add_at {a : Addr} (h : a = ⟨a.block, a.off, none⟩) (j : Nat) : a.add j = ⟨a.block, a.off + j, none⟩ := by
  obtain ⟨b, o, s⟩ := a
  simp only [Addr.mk.injEq, true_and] at h
  subst h
  unfold Addr.add
  split <;> simp_all
theorem spot_none {w : World} {a : Addr} {v : Value} (h : w.cell? a = some v) : a = ⟨a.block, a.off, none⟩ := by
  obtain ⟨b, o, s⟩ := a
  cases s with
  | none => rfl
  | some s =>
    unfold World.cell? at h
    dsimp only at h
    split at h
    · simp at h
    · cases h
end
section
variable {H : Type} {enc : TypeId × Value → H} {w : World} {base : Nat} {spare : Nat → Bool} {held : Bool}
theorem cells26 : Try.prog.cellsOf 26 = 7 := by kernel_rfl
theorem cells9 : Try.prog.cellsOf 9 = 1 := by kernel_rfl
theorem cells22 : Try.prog.cellsOf 22 = 1 := by kernel_rfl
theorem cells23 : Try.prog.cellsOf 23 = 1 := by kernel_rfl
theorem cells24 : Try.prog.cellsOf 24 = 1 := by kernel_rfl
theorem cells3 : Try.prog.cellsOf 3 = 1 := by kernel_rfl
theorem under9 : Try.prog.underlying 9 = some .string := Try.underlying9
/-- a tree that came in, and its weight -/
theorem node_in : ∀ (F fuel : Nat) (cs : List Value) (x : DataW H × List MemPlace), fuel ≤ F → DataW.trod enc Try.prog w base spare held fuel 26 cs = some x → ∃ t : TrF F, NodeAt F w w.heap.size cs t ∧ wtT F t ≤ Rows.uptoBulk x.1 := by
  intro F
  induction F with
  | zero =>
    intro fuel cs x hf h
    obtain ⟨_, n, hn, _⟩ := DataW.trod_struct Try.underlying26 h
    omega
  | succ F ih =>
    intro fuel cs x hf h
    obtain ⟨ys, n, hn, hx, hlc, hyl, hfi⟩ := DataW.trod_struct Try.underlying26 h
    rw [cells26] at hlc
    match cs, hlc with
    | [c0, c1, c2, c3, c4, c5, c6], _ =>
      match ys, hyl with
      | [y0, y1, y2, y3, y4, y5, y6], _ =>
        have t0 : DataW.trod enc Try.prog w base spare held n 22 [c0] = some y0 := by simpa [cells22] using hfi 0 _ rfl
        have t1 : DataW.trod enc Try.prog w base spare held n 9 [c1] = some y1 := by simpa [cells9] using hfi 1 _ rfl
        have t2 : DataW.trod enc Try.prog w base spare held n 23 [c2] = some y2 := by simpa [cells23] using hfi 2 _ rfl
        have t3 : DataW.trod enc Try.prog w base spare held n 23 [c3] = some y3 := by simpa [cells23] using hfi 3 _ rfl
        have t4 : DataW.trod enc Try.prog w base spare held n 24 [c4] = some y4 := by simpa [cells24] using hfi 4 _ rfl
        have t5 : DataW.trod enc Try.prog w base spare held n 3 [c5] = some y5 := by simpa [cells3] using hfi 5 _ rfl
        have t6 : DataW.trod enc Try.prog w base spare held n 3 [c6] = some y6 := by simpa [cells3] using hfi 6 _ rfl
        clear hfi
        obtain ⟨kd, e0, _, _⟩ := DataW.trod_int Try.underlying22 t0
        obtain ⟨nm, e1, _, _⟩ := DataW.trod_string under9 t1
        obtain ⟨A1, k1, ns, e2, r2, b2⟩ := strs_in Try.underlying23 under9 cells9 t2
        obtain ⟨A2, k2, ts, e3, r3, b3⟩ := strs_in Try.underlying23 under9 cells9 t3
        obtain ⟨pr, e5, _, _⟩ := DataW.trod_int Try.underlying3 t5
        obtain ⟨pl, e6, _, _⟩ := DataW.trod_int Try.underlying3 t6
        simp only [List.cons.injEq, and_true] at e0 e1 e5 e6
        have hb0 := bulk_one y0.1
        have hb1 := bulk_one y1.1
        have hbx : Rows.uptoBulk x.1 = Rows.uptoBulk y0.1 + (Rows.uptoBulk y1.1 + (Rows.uptoBulk y2.1 + (Rows.uptoBulk y3.1 + (Rows.uptoBulk y4.1 + (Rows.uptoBulk y5.1 + (Rows.uptoBulk y6.1 + 0)))))) + 1 := by rw [hx]; rfl
        obtain ⟨A3, k3, xs, css, e4, hl4, r4, hn4, b4⟩ : ∃ (A3 : Option Addr) (k3 : Nat) (xs : List (TrF F)) (css : List (List Value)), c4 = .slice A3 xs.length k3 ∧ css.length = xs.length ∧ ReadsX w w.heap.size 7 A3 xs.length css.flatten ∧
            (∀ (i : Nat) (cs' : List Value) (t' : TrF F), css[i]? = some cs' → xs[i]? = some t' → NodeAt F w w.heap.size cs' t') ∧ (xs.map (wtT F)).sum + 1 ≤ Rows.uptoBulk y4.1 := by
          rcases DataW.trod_slice Try.underlying24 t4 with ⟨h0, hy⟩ | ⟨a, len, cap, elems, rest, n', hn', hcs, hy, hba, hlc', hcm, hel, hse, _, _⟩
          · simp only [List.cons.injEq, and_true] at h0
            refine ⟨none, 0, [], [], h0, rfl, ⟨rfl, fun h => by simp at h⟩, fun i cs' t' h => (by cases h), ?_⟩
            rw [hy]; exact bulk_one _
          · simp only [List.cons.injEq, and_true] at hcs
            rw [cells26] at hse
            obtain ⟨l, hll, hl⟩ := list_of (R := fun i (p : List Value × TrF F) => w.cells? base (a.add (i * 7)) 7 = some p.1 ∧ NodeAt F w w.heap.size p.1 p.2 ∧ ∃ y, elems[i]? = some y ∧ wtT F p.2 ≤ Rows.uptoBulk y.1) len (fun i hil => by
              have h1 := hse i hil
              have he : elems[i]? = some (elems[i]'(by omega)) := List.getElem?_eq_getElem (by omega)
              rw [he] at h1
              obtain ⟨cs', hc1, hc2⟩ := Option.bind_eq_some_iff.1 h1
              obtain ⟨t, ht, hw⟩ := ih n' cs' _ (by omega) hc2
              exact ⟨(cs', t), hc1, ht, _, he, hw⟩)
            have hlen : (l.map (·.2)).length = len := by simp [hll]
            have h7 : ∀ cs ∈ l.map (·.1), cs.length = 7 := fun cs hcs' => by
              obtain ⟨p, hp, rfl⟩ := List.mem_map.1 hcs'
              obtain ⟨i, hi⟩ := List.getElem?_of_mem hp
              exact (hl i p hi).2.1.len
            refine ⟨some a, cap, l.map (·.2), l.map (·.1), by rw [hlen]; exact hcs, by simp, ⟨?_, fun hpos => ?_⟩, fun i cs' t' h1 h2 => ?_, ?_⟩
            · rw [flat_len h7]; simp
            · have hpl : 0 < l.length := by omega
              have ha0 : a = ⟨a.block, a.off, none⟩ ∧ a.block < w.heap.size := by
                obtain ⟨hc, _, _⟩ := hl 0 _ (List.getElem?_eq_getElem hpl)
                obtain ⟨_, hcl, hat⟩ := World.cells?_some hc
                have h1 := hat 0 (by omega)
                rw [List.getElem?_eq_getElem (by omega), Nat.zero_mul] at h1
                have e : (a.add 0).add 0 = a := by simp [Addr.add]
                rw [e] at h1
                exact ⟨spot_none h1, World.block_lt_of_cell? _ _ h1⟩
              refine ⟨a.block, a.off, by rw [← ha0.1], ha0.2, fun j u hu => ?_⟩
              have hj : j < (l.map (·.1)).flatten.length := by
                rcases Nat.lt_or_ge j (l.map (·.1)).flatten.length with h | h
                · exact h
                · rw [List.getElem?_eq_none h] at hu; cases hu
              have hfl : (l.map (·.1)).flatten.length = l.length * 7 := by
                rw [flat_len h7]; simp
              have hq : j / 7 < l.length := by omega
              have hp : l[j / 7]? = some (l[j / 7]'hq) := List.getElem?_eq_getElem hq
              obtain ⟨hc, hnn, _⟩ := hl _ _ hp
              obtain ⟨_, hcl, hat⟩ := World.cells?_some hc
              have h1 := hat (j % 7) (by omega)
              have h2 := flatten_at h7 (i := j / 7) (cs := (l[j / 7]'hq).1) (by rw [List.getElem?_map, hp]; rfl) (j % 7) (by omega)
              rw [show j / 7 * 7 + j % 7 = j from by omega] at h2
              rw [h2] at hu
              rw [hu] at h1
              rw [← h1, add_of_add, show j / 7 * 7 + j % 7 = j from by omega]
              exact congrArg w.cell? (add_at ha0.1 j).symm
            · rw [List.getElem?_map] at h1 h2
              cases hp : l[i]? with
              | none => rw [hp] at h1; cases h1
              | some p =>
                rw [hp] at h1 h2
                simp only [Option.map_some, Option.some.injEq] at h1 h2
                subst h1 h2
                exact (hl i p hp).2.1
            · have hsum : ∀ k, k ≤ len → (((l.take k).map (·.2)).map (wtT F)).sum ≤ Rows.uptoBulkAll ((elems.take k).map (·.1)) := by
                intro k
                induction k with
                | zero => intro _; simp
                | succ k ihk =>
                  intro hk
                  have h3 := ihk (by omega)
                  have hp : l[k]? = some (l[k]'(by omega)) := List.getElem?_eq_getElem (by omega)
                  obtain ⟨_, _, y, hy', hw⟩ := hl k _ hp
                  have hke : k < elems.length := by omega
                  rw [List.take_succ_eq_append_getElem (show k < l.length by omega), List.take_succ_eq_append_getElem hke]
                  rw [List.getElem?_eq_getElem hke] at hy'
                  injection hy' with hy'
                  subst hy'
                  simp only [List.map_append, List.map_cons, List.map_nil, List.sum_append, List.sum_cons, List.sum_nil, bulk_app, Rows.uptoBulkAll]
                  omega
              have h3 := hsum len (Nat.le_refl _)
              rw [List.take_of_length_le (by omega), List.take_of_length_le (by omega)] at h3
              have h4 := bulk_slice (elems.map (·.1)) (rest.map (·.1))
              rw [hy]
              dsimp only
              omega
        refine ⟨(⟨kd, nm, ns, ts, xs, pr, pl⟩ : Nd (TrF F)), ⟨A1, k1, A2, k2, A3, k3, css, by rw [e0, e1, e2, e3, e4, e5, e6], r2, r3, hl4, r4, hn4⟩, ?_⟩
        show 1 + ns.length + ts.length + (xs.map (wtT F)).sum ≤ _
        rw [hbx]
        omega
end
end Go.Proofs.Ytaigfelpecdajaa
