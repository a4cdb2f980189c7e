/-
  Acts and texts that came in, and what the form's reach gives: each slice takes at most reachBytes. No statement of the seat is proved here.
-/
import Derived.Test.YtbkgphmocjjmmaaFrameA
import Derived.SizedLaws
namespace Go.Proofs.Ytbkgphmocjjmmaa
open Go.Joins Go.ChangeShapes Go.WideShapes Go.RowKit Go.Deep

section
variable {H : Type} {enc : TypeId × Value → H} {P : Program} {w : World} {base : Nat} {spare : Nat → Bool} {held : Bool}
/-- within the reach -/
def Wt (P : Program) (t : TypeId) (d : DataW H) : Prop := ∀ m ∈ d.weights P t, m ≤ reachBytes
theorem weights_all {P : Program} {e : TypeId} : ∀ {l : List (DataW H)} {d : DataW H}, d ∈ l → ∀ m ∈ d.weights P e, m ∈ DataW.weightsAll P e l
  | x :: l, d, h, m, hm => by
    simp only [DataW.weightsAll, List.mem_append]
    rcases List.mem_cons.1 h with rfl | h
    · exact Or.inl hm
    · exact Or.inr (weights_all h m hm)
theorem wt_each {P : Program} {ts : List TypeId} {ds : List (DataW H)} {j : Nat} {t : TypeId} {d : DataW H} (h : (DataW.weightsEach P ts ds).all (· ≤ reachBytes) = true) (ht : ts[j]? = some t) (hd : ds[j]? = some d) : Wt P t d := by
  intro m hm
  simpa using List.all_eq_true.1 h m (DataW.weights_mem_each ht hd m hm)
theorem wt_slice {P : Program} {t e : TypeId} {el sp : List (DataW H)} (ht : P.underlying t = some (.slice e)) (h : Wt P t (.slice el sp)) : (el.length + sp.length) * P.bytesOf e ≤ reachBytes ∧ ∀ d ∈ el, Wt P e d := by
  refine ⟨h _ (by simp [DataW.weights, ht]), fun d hd m hm => h m ?_⟩
  simp only [DataW.weights, ht, List.mem_cons, List.mem_append]
  exact Or.inr (Or.inl (weights_all hd m hm))
theorem wt_agg {P : Program} {t : TypeId} {fs : Array Field} {ds : List (DataW H)} {j : Nat} {tj : TypeId} {d : DataW H} (ht : P.underlying t = some (.struct fs)) (h : Wt P t (.agg ds)) (h1 : (fs.toList.map (·.type))[j]? = some tj) (h2 : ds[j]? = some d) : Wt P tj d := by
  intro m hm
  refine h m ?_
  simp only [DataW.weights, ht]
  exact DataW.weights_mem_each h1 h2 m hm
/-- a slice's length -/
theorem slice_len {t e : TypeId} {fuel : Nat} {A : Option Addr} {n c : Nat} {x : DataW H × List MemPlace} (ht : P.underlying t = some (.slice e))
    (h : DataW.trod enc P w base spare held fuel t [.slice A n c] = some x) (hw : Wt P t x.1) : n * P.bytesOf e ≤ reachBytes := by
  rcases DataW.trod_slice ht h with ⟨h0, hy⟩ | ⟨a, len, cap, elems, rest, n', hn', hcs, hy, hba, hlc', hcm, hel, hse, _, _⟩
  · simp only [List.cons.injEq, and_true] at h0
    cases h0
    simp
  · simp only [List.cons.injEq, and_true] at hcs
    cases hcs
    rw [hy] at hw
    have h1 := (wt_slice ht hw).1
    simp only [List.length_map] at h1
    refine Nat.le_trans (Nat.mul_le_mul_right _ ?_) h1
    omega
theorem bytes_sized {t e : TypeId} {fuel : Nat} {v : Value} {x : DataW H × List MemPlace} (ht : P.underlying t = some (.slice e)) (he : P.underlying e = some (.int .u8)) (hc : P.cellsOf e = 1) (hb : P.bytesOf e = 1)
    (h : DataW.trod enc P w base spare held fuel t [v] = some x) (hw : Wt P t x.1) :
    ∃ (A : Option Addr) (n c : Nat) (bs : List UInt8), v = .slice A n c ∧ n ≤ c ∧ c ≤ maxLen ∧ RdB w w.heap.size A n bs ∧ bs.length ≤ 140737488351232 := by
  obtain ⟨A, n, c, bs, e1, h1, h2, h3⟩ := bytes_in ht he hc h
  refine ⟨A, n, c, bs, e1, h1, h2, h3, ?_⟩
  subst e1
  have h4 := slice_len ht h hw
  have h5 := h3.len1
  have : reachBytes = 140737488351232 := rfl
  rw [hb] at h4
  omega
set_option maxRecDepth 20000 in
/-- an act's cells -/
theorem act_sized {fuel : Nat} {cs : List Value} {x : DataW H × List MemPlace} (h : DataW.trod enc Try.prog w base spare held fuel 55 cs = some x) (hw : Wt Try.prog 55 x.1) :
    ∃ (a : Ac) (A : Option Addr) (c : Nat), cs = a.hd ++ [.slice A a.b.length c] ∧ RdB w w.heap.size A a.b.length a.b ∧ a.b.length ≤ 140737488351232 := by
  obtain ⟨ys, n, hn, hx, hlc, hyl, hfi⟩ := DataW.trod_struct Try.underlying55 h
  rw [cells55] at hlc
  match cs, hlc with
  | [c0, c1, c2, c3, c4, c5], _ =>
    match ys, hyl with
    | [y0, y1, y2, y3, y4, y5], _ =>
      have t0 : DataW.trod enc Try.prog w base spare held n 53 [c0] = some y0 := by simpa [cells53] using hfi 0 _ rfl
      have t1 : DataW.trod enc Try.prog w base spare held n 34 [c1] = some y1 := by simpa [cells34] using hfi 1 _ rfl
      have t2 : DataW.trod enc Try.prog w base spare held n 3 [c2] = some y2 := by simpa [cells3] using hfi 2 _ rfl
      have t3 : DataW.trod enc Try.prog w base spare held n 3 [c3] = some y3 := by simpa [cells3] using hfi 3 _ rfl
      have t4 : DataW.trod enc Try.prog w base spare held n 5 [c4] = some y4 := by simpa [cells5] using hfi 4 _ rfl
      have t5 : DataW.trod enc Try.prog w base spare held n 23 [c5] = some y5 := by simpa [cells23] using hfi 5 _ rfl
      clear hfi
      have w5 : Wt Try.prog 23 y5.1 := by
        rw [hx] at hw
        exact wt_agg Try.underlying55 hw (j := 5) rfl rfl
      obtain ⟨kd, e0, _, _⟩ := DataW.trod_int Try.underlying53 t0
      obtain ⟨sd, e1, _, _⟩ := DataW.trod_int Try.underlying34 t1
      obtain ⟨pi, e2, _, _⟩ := DataW.trod_int Try.underlying3 t2
      obtain ⟨pj, e3, _, _⟩ := DataW.trod_int Try.underlying3 t3
      obtain ⟨mk, e4, hw4, hw5⟩ := DataW.trod_int Try.underlying5 t4
      obtain ⟨A, l, c, bs, e5, _, _, hr, hb⟩ := bytes_sized Try.underlying23 Try.underlying5 (by kernel_rfl) (by kernel_rfl) t5 w5
      simp only [List.cons.injEq, and_true] at e0 e1 e2 e3 e4
      have hm : bv (UInt8.ofNat mk.toNat) = .int .u8 mk := u8_of_wf (by assumption)
      have hl := hr.len1
      subst hl
      refine ⟨⟨kd, sd, pi, pj, UInt8.ofNat mk.toNat, bs⟩, A, c, ?_, hr, hb⟩
      rw [e0, e1, e2, e3, e4, e5, ← hm]; rfl
set_option maxRecDepth 20000 in
/-- a slice of acts that came in -/
theorem acts_sized {fuel : Nat} {v : Value} {x : DataW H × List MemPlace} (h : DataW.trod enc Try.prog w base spare held fuel 44 [v] = some x) (hw : Wt Try.prog 44 x.1) :
    ∃ (A : Option Addr) (n c : Nat) (ac : List Ac), v = .slice A n c ∧ ActsAt w w.heap.size A n ac ∧ n ≤ 2199023255488 ∧ ∀ a ∈ ac, a.b.length ≤ 140737488351232 := by
  have hsl : ∀ A n c, v = .slice A n c → n ≤ 2199023255488 := by
    intro A n c e
    subst e
    have h1 := slice_len Try.underlying44 h hw
    have hb : Try.prog.bytesOf 55 = 64 := by kernel_rfl
    have : reachBytes = 140737488351232 := rfl
    rw [hb] at h1
    omega
  rcases DataW.trod_slice Try.underlying44 h with ⟨h0, hy⟩ | ⟨a, len, cap, elems, rest, n', hn', hcs, hy, hba, hlc', hcm, hel, hse, _, _⟩
  · simp only [List.cons.injEq, and_true] at h0
    exact ⟨none, 0, 0, [], h0, ⟨rfl, fun i a h => by cases h⟩, by omega, fun a h => by cases h⟩
  · simp only [List.cons.injEq, and_true] at hcs
    rw [cells55] at hse
    rw [hy] at hw
    have hwe := (wt_slice Try.underlying44 hw).2
    obtain ⟨l, hll, hl⟩ := list_of (R := fun i (p : Ac × Option Addr × Nat) => w.cells? base (a.add (i * 6)) 6 = some (p.1.hd ++ [.slice p.2.1 p.1.b.length p.2.2]) ∧ RdB w w.heap.size p.2.1 p.1.b.length p.1.b ∧ p.1.b.length ≤ 140737488351232) len (fun i hil => by
      have h1 := hse i hil
      have he : elems[i]? = some (elems[i]'(by omega)) := List.getElem?_eq_getElem (by omega)
      rw [he] at h1
      obtain ⟨cs', hc1, hc2⟩ := Option.bind_eq_some_iff.1 h1
      obtain ⟨t, A, c, e, hr, hb⟩ := act_sized hc2 (hwe _ (List.mem_map_of_mem (List.getElem_mem _)))
      exact ⟨(t, A, c), by rw [hc1, e], hr, hb⟩)
    refine ⟨some a, len, cap, l.map (·.1), hcs, ⟨by simp [hll], fun i t ht => ?_⟩, hsl _ _ _ hcs, fun t ht => ?_⟩
    · rw [List.getElem?_map] at ht
      cases hp : l[i]? with
      | none => rw [hp] at ht; cases ht
      | some p =>
        rw [hp] at ht
        simp only [Option.map_some, Option.some.injEq] at ht
        subst ht
        obtain ⟨hc, hr, _⟩ := hl i p hp
        obtain ⟨_, hcl, hat⟩ := World.cells?_some hc
        have ha0 : a = ⟨a.block, a.off, none⟩ ∧ a.block < w.heap.size := by
          have hp0 : l[0]? = some (l[0]'(by have := (List.getElem?_eq_some_iff.1 hp).1; omega)) := List.getElem?_eq_getElem _
          obtain ⟨hc0, _⟩ := hl 0 _ hp0
          obtain ⟨_, _, hat0⟩ := World.cells?_some hc0
          have h1 := hat0 0 (by omega)
          have e : (a.add (0 * 6)).add 0 = a := by simp [Addr.add]
          rw [e] at h1
          have h2 : w.cell? a = some (.int .i64 ((l[0]'(by have := (List.getElem?_eq_some_iff.1 hp).1; omega)).1.k)) := h1
          exact ⟨spot_none h2, World.block_lt_of_cell? _ _ h2⟩
        refine ⟨a.block, a.off, p.2.1, p.2.2, by rw [← ha0.1], ha0.2, fun j u hu => ?_, hr⟩
        have hj : j < 6 := by
          have := (List.getElem?_eq_some_iff.1 hu).1
          simpa [Ac.hd] using this
        have h1 := hat j hj
        rw [hu, add_of_add] at h1
        rw [← h1]
        exact congrArg w.cell? (add_at ha0.1 _).symm
    · obtain ⟨p, hp, rfl⟩ := List.mem_map.1 ht
      obtain ⟨i, hi⟩ := List.getElem?_of_mem hp
      exact (hl i p hi).2.2
end
end Go.Proofs.Ytbkgphmocjjmmaa
