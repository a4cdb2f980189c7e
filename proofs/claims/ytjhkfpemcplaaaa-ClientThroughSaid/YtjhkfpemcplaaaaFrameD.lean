/-
  A deed that came in. No statement of the seat is proved here.
-/
import Derived.Test.YtjhkfpemcplaaaaFrameI
import Derived.Test.YtjhkfpemcplaaaaClQ
import Derived.SizedLaws
namespace Go.Proofs.Ytjhkfpemcplaaaa
open Go.Joins Go.ChangeShapes Go.WideShapes Go.RowKit Go.Deep

section
variable {H : Type} {enc : TypeId × Value → H} {P : Program} {w : World} {base : Nat} {spare : Nat → Bool} {held : Bool}
/-- within the reach -/
def Wt (P : Program) (t : TypeId) (d : DataW H) : Prop := ∀ m ∈ d.weights P t, m ≤ reachBytes
theorem weights_all {P : Program} {e : TypeId} : ∀ {l : List (DataW H)} {d : DataW H}, d ∈ l → ∀ m ∈ d.weights P e, m ∈ DataW.weightsAll P e l
  | x :: l, d, h, m, hm => by
    simp only [DataW.weightsAll, List.mem_append]
    rcases List.mem_cons.1 h with rfl | h
    · exact Or.inl hm
    · exact Or.inr (weights_all h m hm)
theorem wt_each {P : Program} {ts : List TypeId} {ds : List (DataW H)} {j : Nat} {t : TypeId} {d : DataW H} (h : (DataW.weightsEach P ts ds).all (· ≤ reachBytes) = true) (ht : ts[j]? = some t) (hd : ds[j]? = some d) : Wt P t d := by
  intro m hm
  simpa using List.all_eq_true.1 h m (DataW.weights_mem_each ht hd m hm)
theorem wt_slice {P : Program} {t e : TypeId} {el sp : List (DataW H)} (ht : P.underlying t = some (.slice e)) (h : Wt P t (.slice el sp)) : (el.length + sp.length) * P.bytesOf e ≤ reachBytes ∧ ∀ d ∈ el, Wt P e d := by
  refine ⟨h _ (by simp [DataW.weights, ht]), fun d hd m hm => h m ?_⟩
  simp only [DataW.weights, ht, List.mem_cons, List.mem_append]
  exact Or.inr (Or.inl (weights_all hd m hm))
theorem wt_agg {P : Program} {t : TypeId} {fs : Array Field} {ds : List (DataW H)} {j : Nat} {tj : TypeId} {d : DataW H} (ht : P.underlying t = some (.struct fs)) (h : Wt P t (.agg ds)) (h1 : (fs.toList.map (·.type))[j]? = some tj) (h2 : ds[j]? = some d) : Wt P tj d := by
  intro m hm
  refine h m ?_
  simp only [DataW.weights, ht]
  exact DataW.weights_mem_each h1 h2 m hm
/-- a slice's length -/
theorem slice_len {t e : TypeId} {fuel : Nat} {A : Option Addr} {n c : Nat} {x : DataW H × List MemPlace} (ht : P.underlying t = some (.slice e))
    (h : DataW.trod enc P w base spare held fuel t [.slice A n c] = some x) (hw : Wt P t x.1) : n * P.bytesOf e ≤ reachBytes := by
  rcases DataW.trod_slice ht h with ⟨h0, hy⟩ | ⟨a, len, cap, elems, rest, n', hn', hcs, hy, hba, hlc', hcm, hel, hse, _, _⟩
  · simp only [List.cons.injEq, and_true] at h0
    cases h0
    simp
  · simp only [List.cons.injEq, and_true] at hcs
    cases hcs
    rw [hy] at hw
    have h1 := (wt_slice ht hw).1
    simp only [List.length_map] at h1
    refine Nat.le_trans (Nat.mul_le_mul_right _ ?_) h1
    omega
end
/-- a deed as it came in -/
structure DdIn (w : World) (K xk : Int) (xh : Nat) (xA : Option Addr) (xn : Nat) (xs : ByteArray) (k : Int) (t s a : Nat) (A : Option Addr) (n : Nat) (B : Option Addr) (nb : Nat) (ns : List Int) (body bb : List UInt8) : Prop where
  rx : RdI w w.heap.size xA xn ns
  u : ∀ z ∈ ns, I64 z
  xh : xh < 18446744073709551616
  r : RdB w w.heap.size A n body
  rb : RdB w w.heap.size B nb bb
  t : t < 18446744073709551616
  s : s < 18446744073709551616
  a : a < 18446744073709551616
  nb : nb ≤ 140737488351232
section
variable {H : Type} {enc : TypeId × Value → H} {w : World} {base : Nat} {spare : Nat → Bool} {held : Bool}
/-- a struct's fields, read -/
theorem trod_s4 {P : Program} {t : TypeId} {f0 f1 f2 f3 : Field} {fuel : Nat} {cs : List Value} {x : DataW H × List MemPlace} (ht : P.underlying t = some (.struct #[f0, f1, f2, f3])) (h : DataW.trod enc P w base spare held fuel t cs = some x) :
    ∃ (y0 y1 y2 y3 : DataW H × List MemPlace) (n : Nat), x.1 = .agg [y0.1, y1.1, y2.1, y3.1] ∧ cs.length = P.cellsOf t ∧
      DataW.trod enc P w base spare held n f0.type ((cs.drop f0.offset).take (P.cellsOf f0.type)) = some y0 ∧ DataW.trod enc P w base spare held n f1.type ((cs.drop f1.offset).take (P.cellsOf f1.type)) = some y1 ∧
      DataW.trod enc P w base spare held n f2.type ((cs.drop f2.offset).take (P.cellsOf f2.type)) = some y2 ∧ DataW.trod enc P w base spare held n f3.type ((cs.drop f3.offset).take (P.cellsOf f3.type)) = some y3 := by
  obtain ⟨xs, n, _, rfl, hl, hlen, hf⟩ := DataW.trod_struct ht h
  match xs, hlen with
  | [y0, y1, y2, y3], _ => exact ⟨y0, y1, y2, y3, n, by simp, hl, by simpa using hf 0 f0 rfl, by simpa using hf 1 f1 rfl, by simpa using hf 2 f2 rfl, by simpa using hf 3 f3 rfl⟩
theorem trod_s5 {P : Program} {t : TypeId} {f0 f1 f2 f3 f4 : Field} {fuel : Nat} {cs : List Value} {x : DataW H × List MemPlace} (ht : P.underlying t = some (.struct #[f0, f1, f2, f3, f4])) (h : DataW.trod enc P w base spare held fuel t cs = some x) :
    ∃ (y0 y1 y2 y3 y4 : DataW H × List MemPlace) (n : Nat), x.1 = .agg [y0.1, y1.1, y2.1, y3.1, y4.1] ∧ cs.length = P.cellsOf t ∧
      DataW.trod enc P w base spare held n f0.type ((cs.drop f0.offset).take (P.cellsOf f0.type)) = some y0 ∧ DataW.trod enc P w base spare held n f1.type ((cs.drop f1.offset).take (P.cellsOf f1.type)) = some y1 ∧
      DataW.trod enc P w base spare held n f2.type ((cs.drop f2.offset).take (P.cellsOf f2.type)) = some y2 ∧ DataW.trod enc P w base spare held n f3.type ((cs.drop f3.offset).take (P.cellsOf f3.type)) = some y3 ∧
      DataW.trod enc P w base spare held n f4.type ((cs.drop f4.offset).take (P.cellsOf f4.type)) = some y4 := by
  obtain ⟨xs, n, _, rfl, hl, hlen, hf⟩ := DataW.trod_struct ht h
  match xs, hlen with
  | [y0, y1, y2, y3, y4], _ => exact ⟨y0, y1, y2, y3, y4, n, by simp, hl, by simpa using hf 0 f0 rfl, by simpa using hf 1 f1 rfl, by simpa using hf 2 f2 rfl, by simpa using hf 3 f3 rfl, by simpa using hf 4 f4 rfl⟩
set_option maxRecDepth 20000 in
theorem deed_in {fuel : Nat} {cs : List Value} {x : DataW H × List MemPlace} (h : DataW.trod enc Try.prog w base spare held fuel 41 cs = some x) (hw : Wt Try.prog 41 x.1) :
    ∃ (K xk : Int) (xh : Nat) (xA : Option Addr) (xn xc : Nat) (xs : ByteArray) (k : Int) (t s a : Nat) (A : Option Addr) (n c : Nat) (B : Option Addr) (nb cb : Nat) (Z : Int) (ns : List Int) (body bb : List UInt8),
      cs = (ddV K xk xh xA xn xc xs k t s a A n c B nb cb Z).toList ∧ DdIn w K xk xh xA xn xs k t s a A n B nb ns body bb := by
  have c41 : Try.prog.cellsOf 41 = 12 := by kernel_rfl
  have c35 : Try.prog.cellsOf 35 = 4 := by kernel_rfl
  have c39 : Try.prog.cellsOf 39 = 5 := by kernel_rfl
  have c37 : Try.prog.cellsOf 37 = 1 := by kernel_rfl
  have c36 : Try.prog.cellsOf 36 = 1 := by kernel_rfl
  have c33 : Try.prog.cellsOf 33 = 1 := by kernel_rfl
  have c32 : Try.prog.cellsOf 32 = 1 := by kernel_rfl
  have c22 : Try.prog.cellsOf 22 = 1 := by kernel_rfl
  have c9 : Try.prog.cellsOf 9 = 1 := by kernel_rfl
  have c3 : Try.prog.cellsOf 3 = 1 := by kernel_rfl
  obtain ⟨x0, x1, x2, x3, x4, m, hx, hl, g0, g1, g2, g3, g4⟩ := trod_s5 Try.underlying41 h
  rw [c41] at hl
  match cs, hl with
  | [v0, v1, v2, v3, v4, v5, v6, v7, v8, v9, v10, v11], _ =>
  simp only [c3, c35, c39, c37, List.drop_succ_cons, List.drop_zero, List.take_succ_cons, List.take_zero] at g0 g1 g2 g3 g4
  obtain ⟨K, e0, _, _⟩ := DataW.trod_int Try.underlying3 g0
  obtain ⟨Z, e11, _, _⟩ := DataW.trod_int Try.underlying3 g4
  obtain ⟨y0, y1, y2, y3, m1, _, _, a0, a1, a2, a3⟩ := trod_s4 Try.underlying35 g1
  simp only [c32, c22, c33, c9, List.drop_succ_cons, List.drop_zero, List.take_succ_cons, List.take_zero] at a0 a1 a2 a3
  obtain ⟨xk, e1, _, _⟩ := DataW.trod_int Try.underlying32 a0
  obtain ⟨xh, e2, _, wf2⟩ := DataW.trod_int Try.underlying22 a1
  obtain ⟨xA, xn, xc, ns, e3, _, _, hrx, hu⟩ := ints_in Try.underlying33 Try.underlying3 c3 a2
  obtain ⟨str, e4, _, _⟩ := DataW.trod_string Try.underlying9 a3
  obtain ⟨z0, z1, z2, z3, z4, m2, _, _, b0, b1, b2, b3, b4⟩ := trod_s5 Try.underlying39 g2
  simp only [c36, c22, c37, List.drop_succ_cons, List.drop_zero, List.take_succ_cons, List.take_zero] at b0 b1 b2 b3 b4
  obtain ⟨k, e5, _, _⟩ := DataW.trod_int Try.underlying36 b0
  obtain ⟨t, e6, _, wf6⟩ := DataW.trod_int Try.underlying22 b1
  obtain ⟨s, e7, _, wf7⟩ := DataW.trod_int Try.underlying22 b2
  obtain ⟨a, e8, _, wf8⟩ := DataW.trod_int Try.underlying22 b3
  obtain ⟨A, n, c, body, e9, _, _, hr⟩ := bytes_in Try.underlying37 Try.underlying5 (by kernel_rfl) b4
  obtain ⟨B, nb, cb, bb, e10, _, _, hrb⟩ := bytes_in Try.underlying37 Try.underlying5 (by kernel_rfl) g3
  simp only [List.cons.injEq, and_true] at e0 e1 e2 e4 e5 e6 e7 e8 e11
  obtain ⟨xh, rfl, hxh⟩ := u64_of_wf wf2
  obtain ⟨t, rfl, ht⟩ := u64_of_wf wf6
  obtain ⟨s, rfl, hs⟩ := u64_of_wf wf7
  obtain ⟨a, rfl, ha⟩ := u64_of_wf wf8
  subst e0 e1 e2 e3 e4 e5 e6 e7 e8 e9 e10 e11
  have hn : nb * Try.prog.bytesOf 5 ≤ reachBytes := by
    refine slice_len Try.underlying37 g3 ?_
    rw [hx] at hw
    exact wt_agg Try.underlying41 hw (j := 3) rfl rfl
  have hb : Try.prog.bytesOf 5 = 1 := by kernel_rfl
  have h9 : reachBytes = 140737488351232 := rfl
  rw [hb, h9] at hn
  exact ⟨K, xk, xh, xA, xn, xc, str, k, t, s, a, A, n, c, B, nb, cb, Z, ns, body, bb, rfl, hrx, hu, hxh, hr, hrb, ht, hs, ha, by omega⟩
end
end Go.Proofs.Ytjhkfpemcplaaaa
