/-
  Acts that came in, and what the bound on their bulk gives. No statement of the seat is proved here.
-/
import Derived.Test.YtbkgphmocjjmmaaFrameW
import Derived.Test.YtbkgphmocjjmmaaNuA
import Derived.Deep.Fields
namespace Go.Proofs.Ytbkgphmocjjmmaa
open Go.Joins Go.ChangeShapes Go.WideShapes Go.RowKit Go.Deep

theorem flat_len {α : Type} {k : Nat} : ∀ {css : List (List α)}, (∀ cs ∈ css, cs.length = k) → css.flatten.length = css.length * k
  | [], _ => by simp
  | a :: l, h => by
    rw [List.flatten_cons, List.length_append, h a (by simp), flat_len (fun c hc => h c (List.mem_cons_of_mem _ hc)), List.length_cons, Nat.add_mul]
    omega
theorem add_at {a : Addr} (h : a = ⟨a.block, a.off, none⟩) (j : Nat) : a.add j = ⟨a.block, a.off + j, none⟩ := by
  obtain ⟨b, o, s⟩ := a
  simp only [Addr.mk.injEq, true_and] at h
  subst h
  unfold Addr.add
  split <;> simp_all
theorem spot_none {w : World} {a : Addr} {v : Value} (h : w.cell? a = some v) : a = ⟨a.block, a.off, none⟩ := by
  obtain ⟨b, o, s⟩ := a
  cases s with
  | none => rfl
  | some s =>
    unfold World.cell? at h
    dsimp only at h
    split at h
    · simp at h
    · cases h
section
variable {H : Type} {enc : TypeId × Value → H} {w : World} {base : Nat} {spare : Nat → Bool} {held : Bool}
theorem cells55 : Try.prog.cellsOf 55 = 6 := by kernel_rfl
theorem cells53 : Try.prog.cellsOf 53 = 1 := by kernel_rfl
theorem cells34 : Try.prog.cellsOf 34 = 1 := by kernel_rfl
theorem cells3 : Try.prog.cellsOf 3 = 1 := by kernel_rfl
theorem cells5 : Try.prog.cellsOf 5 = 1 := by kernel_rfl
theorem cells23 : Try.prog.cellsOf 23 = 1 := by kernel_rfl
set_option maxRecDepth 20000 in
/-- an act's cells -/
theorem act_in {fuel : Nat} {cs : List Value} {x : DataW H × List MemPlace} (h : DataW.trod enc Try.prog w base spare held fuel 55 cs = some x) :
    ∃ (a : Ac) (A : Option Addr) (c : Nat), cs = a.hd ++ [.slice A a.b.length c] ∧ RdB w w.heap.size A a.b.length a.b ∧ a.b.length + 1 ≤ Rows.uptoBulk x.1 := by
  obtain ⟨ys, n, hn, hx, hlc, hyl, hfi⟩ := DataW.trod_struct Try.underlying55 h
  rw [cells55] at hlc
  match cs, hlc with
  | [c0, c1, c2, c3, c4, c5], _ =>
    match ys, hyl with
    | [y0, y1, y2, y3, y4, y5], _ =>
      have t0 : DataW.trod enc Try.prog w base spare held n 53 [c0] = some y0 := by simpa [cells53] using hfi 0 _ rfl
      have t1 : DataW.trod enc Try.prog w base spare held n 34 [c1] = some y1 := by simpa [cells34] using hfi 1 _ rfl
      have t2 : DataW.trod enc Try.prog w base spare held n 3 [c2] = some y2 := by simpa [cells3] using hfi 2 _ rfl
      have t3 : DataW.trod enc Try.prog w base spare held n 3 [c3] = some y3 := by simpa [cells3] using hfi 3 _ rfl
      have t4 : DataW.trod enc Try.prog w base spare held n 5 [c4] = some y4 := by simpa [cells5] using hfi 4 _ rfl
      have t5 : DataW.trod enc Try.prog w base spare held n 23 [c5] = some y5 := by simpa [cells23] using hfi 5 _ rfl
      clear hfi
      obtain ⟨kd, e0, _, _⟩ := DataW.trod_int Try.underlying53 t0
      obtain ⟨sd, e1, _, _⟩ := DataW.trod_int Try.underlying34 t1
      obtain ⟨pi, e2, _, _⟩ := DataW.trod_int Try.underlying3 t2
      obtain ⟨pj, e3, _, _⟩ := DataW.trod_int Try.underlying3 t3
      obtain ⟨mk, e4, hw4, hw5⟩ := DataW.trod_int Try.underlying5 t4
      obtain ⟨A, l, c, bs, e5, _, _, hr, hb⟩ := bytes_bulk Try.underlying23 Try.underlying5 (by kernel_rfl) t5
      simp only [List.cons.injEq, and_true] at e0 e1 e2 e3 e4
      have hm : bv (UInt8.ofNat mk.toNat) = .int .u8 mk := u8_of_wf (by assumption)
      have hl := hr.len1
      subst hl
      refine ⟨⟨kd, sd, pi, pj, UInt8.ofNat mk.toNat, bs⟩, A, c, ?_, hr, ?_⟩
      · rw [e0, e1, e2, e3, e4, e5, ← hm]; rfl
      · have hbx : Rows.uptoBulk x.1 = Rows.uptoBulk y0.1 + (Rows.uptoBulk y1.1 + (Rows.uptoBulk y2.1 + (Rows.uptoBulk y3.1 + (Rows.uptoBulk y4.1 + (Rows.uptoBulk y5.1 + 0))))) + 1 := by rw [hx]; rfl
        show bs.length + 1 ≤ _
        omega
set_option maxRecDepth 20000 in
/-- a slice of acts that came in -/
theorem acts_in {fuel : Nat} {v : Value} {x : DataW H × List MemPlace} (h : DataW.trod enc Try.prog w base spare held fuel 44 [v] = some x) :
    ∃ (A : Option Addr) (n c : Nat) (ac : List Ac), v = .slice A n c ∧ ActsAt w w.heap.size A n ac ∧ (ac.map fun a => a.b.length + 1).sum + 1 ≤ Rows.uptoBulk x.1 := by
  rcases DataW.trod_slice Try.underlying44 h with ⟨h0, hy⟩ | ⟨a, len, cap, elems, rest, n', hn', hcs, hy, hba, hlc', hcm, hel, hse, _, _⟩
  · simp only [List.cons.injEq, and_true] at h0
    exact ⟨none, 0, 0, [], h0, ⟨rfl, fun i a h => by cases h⟩, by rw [hy]; exact bulk_one _⟩
  · simp only [List.cons.injEq, and_true] at hcs
    rw [cells55] at hse
    obtain ⟨l, hll, hl⟩ := list_of (R := fun i (p : Ac × Option Addr × Nat) => w.cells? base (a.add (i * 6)) 6 = some (p.1.hd ++ [.slice p.2.1 p.1.b.length p.2.2]) ∧ RdB w w.heap.size p.2.1 p.1.b.length p.1.b ∧ ∃ y, elems[i]? = some y ∧ p.1.b.length + 1 ≤ Rows.uptoBulk y.1) len (fun i hil => by
      have h1 := hse i hil
      have he : elems[i]? = some (elems[i]'(by omega)) := List.getElem?_eq_getElem (by omega)
      rw [he] at h1
      obtain ⟨cs', hc1, hc2⟩ := Option.bind_eq_some_iff.1 h1
      obtain ⟨t, A, c, e, hr, hb⟩ := act_in hc2
      exact ⟨(t, A, c), by rw [hc1, e], hr, _, he, hb⟩)
    refine ⟨some a, len, cap, l.map (·.1), hcs, ⟨by simp [hll], fun i t ht => ?_⟩, ?_⟩
    · rw [List.getElem?_map] at ht
      cases hp : l[i]? with
      | none => rw [hp] at ht; cases ht
      | some p =>
        rw [hp] at ht
        simp only [Option.map_some, Option.some.injEq] at ht
        subst ht
        obtain ⟨hc, hr, _⟩ := hl i p hp
        obtain ⟨_, hcl, hat⟩ := World.cells?_some hc
        have ha0 : a = ⟨a.block, a.off, none⟩ ∧ a.block < w.heap.size := by
          have hp0 : l[0]? = some (l[0]'(by have := (List.getElem?_eq_some_iff.1 hp).1; omega)) := List.getElem?_eq_getElem _
          obtain ⟨hc0, _⟩ := hl 0 _ hp0
          obtain ⟨_, _, hat0⟩ := World.cells?_some hc0
          have h1 := hat0 0 (by omega)
          have e : (a.add (0 * 6)).add 0 = a := by simp [Addr.add]
          rw [e] at h1
          have h2 : w.cell? a = some (.int .i64 ((l[0]'(by have := (List.getElem?_eq_some_iff.1 hp).1; omega)).1.k)) := h1
          exact ⟨spot_none h2, World.block_lt_of_cell? _ _ h2⟩
        refine ⟨a.block, a.off, p.2.1, p.2.2, by rw [← ha0.1], ha0.2, fun j u hu => ?_, hr⟩
        have hj : j < 6 := by
          have := (List.getElem?_eq_some_iff.1 hu).1
          simpa [Ac.hd] using this
        have h1 := hat j hj
        rw [hu, add_of_add] at h1
        rw [← h1]
        exact congrArg w.cell? (add_at ha0.1 _).symm
    · have hsum : ∀ k, k ≤ len → (((l.take k).map (·.1)).map fun a => a.b.length + 1).sum ≤ Rows.uptoBulkAll ((elems.take k).map (·.1)) := by
        intro k
        induction k with
        | zero => intro _; simp
        | succ k ihk =>
          intro hk
          have h3 := ihk (by omega)
          have hp : l[k]? = some (l[k]'(by omega)) := List.getElem?_eq_getElem (by omega)
          obtain ⟨_, _, y, hy', hw⟩ := hl k _ hp
          have hke : k < elems.length := by omega
          rw [List.take_succ_eq_append_getElem (show k < l.length by omega), List.take_succ_eq_append_getElem hke]
          rw [List.getElem?_eq_getElem hke] at hy'
          injection hy' with hy'
          subst hy'
          simp only [List.map_append, List.map_cons, List.map_nil, List.sum_append, List.sum_cons, List.sum_nil, bulk_app, Rows.uptoBulkAll]
          omega
      have h3 := hsum len (Nat.le_refl _)
      rw [List.take_of_length_le (by omega), List.take_of_length_le (by omega)] at h3
      have h4 := bulk_slice (elems.map (·.1)) (rest.map (·.1))
      rw [hy]
      dsimp only
      omega
theorem acts_small {ac : List Ac} {B : Nat} (h : (ac.map fun a => a.b.length + 1).sum + 1 ≤ B) : ac.length ≤ B ∧ ∀ a ∈ ac, a.b.length ≤ B := by
  have h1 : ∀ (l : List Ac), l.length ≤ (l.map fun a => a.b.length + 1).sum ∧ ∀ a ∈ l, a.b.length ≤ (l.map fun a => a.b.length + 1).sum := by
    intro l
    induction l with
    | nil => exact ⟨by simp, fun a h => by cases h⟩
    | cons x r ih =>
      simp only [List.map_cons, List.sum_cons, List.length_cons]
      refine ⟨by omega, fun a ha => ?_⟩
      rcases List.mem_cons.1 ha with e | e
      · subst e; omega
      · have := ih.2 a e; omega
  have := h1 ac
  exact ⟨by omega, fun a ha => by have := this.2 a ha; omega⟩
end
end Go.Proofs.Ytbkgphmocjjmmaa
