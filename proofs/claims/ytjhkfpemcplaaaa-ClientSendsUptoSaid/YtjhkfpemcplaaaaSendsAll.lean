/-
  THE STATEMENT 'ClientSends' (effigylaw20.ClientSends), its second form: whatever the nonce, the window, the patience and the deeds, where together they are of bulk at most 1048576, the law returns true, and the arguments read behind the call as they read before.
-/
import Derived.Test.YtjhkfpemcplaaaaWords
import Derived.OpenShut
import Derived.ProofKit
import Derived.Lib.SmallJoins
import Derived.Test.YtjhkfpemcplaaaaPutc
import Derived.Test.YtjhkfpemcplaaaaPutr
import Derived.Deep.Slices
import Derived.Deep.Fields
import Derived.ChangeSame
import Derived.Test.YtjhkfpemcplaaaaClQ
import Derived.SizedLaws
import Derived.Test.YtjhkfpemcplaaaaClU
import Derived.Test.YtjhkfpemcplaaaaClV
import Derived.Test.YtjhkfpemcplaaaaClW
import Derived.Test.YtjhkfpemcplaaaaClP
import Derived.Test.YtjhkfpemcplaaaaSamer
import Derived.Test.YtjhkfpemcplaaaaRows
import Derived.WalkKit
import Derived.ChangeOld
import Derived.JoinedCond
import Derived.Below
namespace Go.Proofs.Ytjhkfpemcplaaaa
open Go.Joins Go.ChangeShapes Go.WideShapes Go.RowKit Go.Deep

section
variable {H : Type} {enc : TypeId × Value → H} {P : Program} {w : World} {base : Nat} {spare : Nat → Bool} {held : Bool}

theorem u8_of_wf {z : Int} (h : (Lit.int .u8 z).wf = true) : bv (UInt8.ofNat z.toNat) = .int .u8 z := by
  simp [Lit.wf, IntKind.min, IntKind.max, IntKind.signed, IntKind.bits] at h
  unfold bv
  have : (UInt8.ofNat z.toNat).toNat = z.toNat := by simp [UInt8.toNat_ofNat']; omega
  rw [this, Int.toNat_of_nonneg (by omega)]

/-- a slice of bytes that came in reads as a list of bytes -/
theorem bytes_in {t e : TypeId} {fuel : Nat} {v : Value} {x : DataW H × List MemPlace} (ht : P.underlying t = some (.slice e)) (he : P.underlying e = some (.int .u8)) (hc : P.cellsOf e = 1)
    (h : DataW.trod enc P w base spare held fuel t [v] = some x) :
    ∃ (A : Option Addr) (n c : Nat) (bs : List UInt8), v = .slice A n c ∧ n ≤ c ∧ c ≤ maxLen ∧ RdB w w.heap.size A n bs := by
  rcases open_ints ht he hc h with ⟨hcs, _⟩ | ⟨a, l, c, zs, hcs, _, hl, hm, hz, _, hcell, hwz⟩
  · simp at hcs
    exact ⟨none, 0, 0, [], hcs, Nat.le_refl _, Nat.zero_le _, Reads.none_⟩
  · simp at hcs
    have hlz : l ≤ zs.length := by rw [hz]; split <;> omega
    have hmap : ((zs.take l).map fun z => UInt8.ofNat z.toNat).map bv = (zs.take l).map (Value.int .u8) := by
      rw [List.map_map]
      exact List.map_congr_left fun z hz' => u8_of_wf (hwz z (List.mem_of_mem_take hz'))
    refine ⟨some a, l, c, (zs.take l).map fun z => UInt8.ofNat z.toNat, hcs, hl, hm, ?_, fun h0 => ⟨a, rfl, ?_, fun j u hu => ?_⟩⟩
    · simp; omega
    · have := World.block_lt_of_cell? _ _ (hcell 0 (by omega))
      rwa [block_of_add] at this
    · rw [hmap, List.getElem?_map] at hu
      by_cases hj : j < l
      · rw [hcell j (by omega)]
        rw [List.getElem?_take_of_lt hj, List.getElem?_eq_getElem (by omega)] at hu
        simp only [Option.map_some, Option.some.injEq] at hu
        rw [← hu, List.getD, List.getElem?_eq_getElem (by omega)]
        rfl
      · rw [List.getElem?_eq_none (by simp; omega)] at hu
        simp at hu

theorem u64_of_wf {z : Int} (h : (Lit.int .u64 z).wf = true) : ∃ n : Nat, z = n ∧ n < 18446744073709551616 := by
  simp [Lit.wf, IntKind.min, IntKind.max, IntKind.signed, IntKind.bits] at h
  exact ⟨z.toNat, by omega, by omega⟩

theorem open_agg5 {r : Reach} {b0 : Nat} {t : TypeId} {f0 f1 f2 f3 f4 : Field} {v : Value} {d : DataW H} {p : List MemPlace} (hs : P.underlying t = some (.struct #[f0, f1, f2, f3, f4])) (hone : oneCellFields P #[f0, f1, f2, f3, f4] = true) (hC : P.cellsOf t = 5)
    (hv : Value.okWide P w r b0 t v) (h : DataW.Trod enc P w base spare held t v d p) :
    ∃ (v0 v1 v2 v3 v4 : Value) (y0 y1 y2 y3 y4 : DataW H × List MemPlace) (n : Nat), v = .agg #[v0, v1, v2, v3, v4] ∧ d = .agg [y0.1, y1.1, y2.1, y3.1, y4.1] ∧ p = y0.2 ++ (y1.2 ++ (y2.2 ++ (y3.2 ++ y4.2))) ∧
      DataW.trod enc P w base spare held n f0.type [v0] = some y0 ∧ DataW.trod enc P w base spare held n f1.type [v1] = some y1 ∧ DataW.trod enc P w base spare held n f2.type [v2] = some y2 ∧ DataW.trod enc P w base spare held n f3.type [v3] = some y3 ∧ DataW.trod enc P w base spare held n f4.type [v4] = some y4 := by
  obtain ⟨cs, rfl, hsz⟩ := okWide_struct hs hv
  obtain ⟨l⟩ := cs
  match l, hsz.trans hC with
  | [c0, c1, c2, c3, c4], _ =>
    obtain ⟨fuel, hf⟩ := h
    obtain ⟨xs, n, _, hx, _, hlen, hg⟩ := DataW.trod_struct hs hf
    obtain ⟨o0, k0⟩ := hone_of hone 0 f0 rfl
    obtain ⟨o1, k1⟩ := hone_of hone 1 f1 rfl
    obtain ⟨o2, k2⟩ := hone_of hone 2 f2 rfl
    obtain ⟨o3, k3⟩ := hone_of hone 3 f3 rfl
    obtain ⟨o4, k4⟩ := hone_of hone 4 f4 rfl
    match xs, hlen with
    | [y0, y1, y2, y3, y4], _ =>
      simp only [Prod.mk.injEq] at hx
      exact ⟨c0, c1, c2, c3, c4, y0, y1, y2, y3, y4, n, rfl, by simpa using hx.1, by simpa using hx.2, by simpa [Value.cells, o0, k0] using hg 0 f0 rfl, by simpa [Value.cells, o1, k1] using hg 1 f1 rfl, by simpa [Value.cells, o2, k2] using hg 2 f2 rfl, by simpa [Value.cells, o3, k3] using hg 3 f3 rfl, by simpa [Value.cells, o4, k4] using hg 4 f4 rfl⟩
end

end Go.Proofs.Ytjhkfpemcplaaaa
namespace Go.Proofs.Ytjhkfpemcplaaaa
open Go.Joins Go.ChangeShapes Go.WideShapes Go.RowKit Go.Deep

section
variable {H : Type} {enc : TypeId × Value → H} {P : Program} {w : World} {base : Nat} {spare : Nat → Bool} {held : Bool}
theorem i64_wf {z : Int} (h : (Lit.int .i64 z).wf = true) : I64 z := by
  simp [Lit.wf, IntKind.min, IntKind.max, IntKind.signed, IntKind.bits] at h
  unfold I64
  omega
/-- a slice of numbers that came in reads as a list of numbers -/
theorem ints_in {t e : TypeId} {fuel : Nat} {v : Value} {x : DataW H × List MemPlace} (ht : P.underlying t = some (.slice e)) (he : P.underlying e = some (.int .i64)) (hc : P.cellsOf e = 1)
    (h : DataW.trod enc P w base spare held fuel t [v] = some x) :
    ∃ (A : Option Addr) (n c : Nat) (ns : List Int), v = .slice A n c ∧ n ≤ c ∧ c ≤ maxLen ∧ RdI w w.heap.size A n ns ∧ ∀ z ∈ ns, I64 z := by
  rcases open_ints ht he hc h with ⟨hcs, _⟩ | ⟨a, l, c, zs, hcs, _, hl, hm, hz, _, hcell, hwz⟩
  · simp at hcs
    exact ⟨none, 0, 0, [], hcs, Nat.le_refl _, Nat.zero_le _, Reads.none_, by intro z hz; simp at hz⟩
  · simp at hcs
    have hlz : l ≤ zs.length := by rw [hz]; split <;> omega
    refine ⟨some a, l, c, zs.take l, hcs, hl, hm, ⟨by simp; omega, fun h0 => ⟨a, rfl, ?_, fun j u hu => ?_⟩⟩, fun z hz' => i64_wf (hwz z (List.mem_of_mem_take hz'))⟩
    · have := World.block_lt_of_cell? _ _ (hcell 0 (by omega))
      rwa [block_of_add] at this
    · rw [List.getElem?_map] at hu
      by_cases hj : j < l
      · rw [hcell j (by omega)]
        rw [List.getElem?_take_of_lt hj, List.getElem?_eq_getElem (by omega)] at hu
        simp only [Option.map_some, Option.some.injEq] at hu
        rw [← hu, List.getD, List.getElem?_eq_getElem (by omega)]
        rfl
      · rw [List.getElem?_eq_none (by simp; omega)] at hu
        simp at hu
end

end Go.Proofs.Ytjhkfpemcplaaaa
namespace Go.Proofs.Ytjhkfpemcplaaaa
open Go.Joins Go.ChangeShapes Go.WideShapes Go.RowKit Go.Deep

section
variable {H : Type} {enc : TypeId × Value → H} {P : Program} {w : World} {base : Nat} {spare : Nat → Bool} {held : Bool}
theorem open_slice_fields {t e : TypeId} {fs : Array Field} {fuel : Nat} {cs : List Value} {x : DataW H × List MemPlace} (ht : P.underlying t = some (.slice e)) (he : P.underlying e = some (.struct fs))
    (hone : oneCellFields P fs = true) (hC : P.cellsOf e = fs.size) (h : DataW.trod enc P w base spare held fuel t cs = some x) :
    (cs = [.slice none 0 0] ∧ x = (.nil, [])) ∨
    ∃ (a : Addr) (len cap m : Nat) (D : Nat → DataW H) (Pl : Nat → List MemPlace), cs = [.slice (some a) len cap] ∧ base ≤ a.block ∧ len ≤ cap ∧ cap ≤ maxLen ∧ m = (if spare a.block then cap else len) ∧
      x = (.slice ((List.range len).map D) ((List.range (m - len)).map fun j => D (len + j)), MemPlace.row a (m * fs.size) ++ (List.range m).flatMap Pl) ∧
      ∀ i, i < m → ∃ (ys : List (DataW H × List MemPlace)) (n : Nat), D i = .agg (ys.map (·.1)) ∧ Pl i = ys.flatMap (·.2) ∧ ys.length = fs.size ∧
        ∀ (j : Nat) (f : Field), fs[j]? = some f → ∃ (v : Value) (y : DataW H × List MemPlace), w.cell? (a.add (i * fs.size + j)) = some v ∧ ys[j]? = some y ∧ DataW.trod enc P w base spare held n f.type [v] = some y := by
  rcases open_slice ht h with h0 | ⟨a, len, cap, m, n, D, Pl, hcs, hb, hl, hm, hmm, hx, hi⟩
  · exact .inl h0
  · refine .inr ⟨a, len, cap, m, D, Pl, hcs, hb, hl, hm, hmm, by rw [hC] at hx; exact hx, fun i him => ?_⟩
    obtain ⟨cs', hc, ht'⟩ := hi i him
    rw [hC] at hc
    obtain ⟨ys, n', hn', hy, hlen, hyl, hf⟩ := DataW.trod_struct he ht'
    obtain ⟨_, hcl, hat⟩ := World.cells?_some hc
    simp only [Prod.mk.injEq] at hy
    refine ⟨ys, n', hy.1, hy.2, hyl, fun j f hj => ?_⟩
    obtain ⟨ho, hk⟩ := hone_of hone j f hj
    have hjl : j < fs.size := (Array.getElem?_eq_some_iff.1 hj).1
    have hcell := hat j hjl
    have hv : cs'[j]? = some (cs'[j]'(by omega)) := List.getElem?_eq_getElem (by omega)
    have h1 := hf j f hj
    rw [ho, hk] at h1
    have hone' : (cs'.drop j).take 1 = [cs'[j]'(by omega)] := by
      rw [List.drop_eq_getElem_cons (by omega)]
      rfl
    rw [hone'] at h1
    have hys : ys[j]? = some (ys[j]'(by omega)) := List.getElem?_eq_getElem (by omega)
    refine ⟨_, _, ?_, hys, h1.trans hys⟩
    rw [← Go.Deep.add_add, hcell, hv]

theorem list_of {α : Type} {R : Nat → α → Prop} : ∀ (n : Nat), (∀ i, i < n → ∃ a, R i a) → ∃ l : List α, l.length = n ∧ ∀ i a, l[i]? = some a → R i a := by
  intro n
  induction n with
  | zero => intro _; exact ⟨[], rfl, fun i a h => by simp at h⟩
  | succ n ih =>
    intro h
    obtain ⟨l, hl, hr⟩ := ih fun i hi => h i (by omega)
    obtain ⟨a, ha⟩ := h n (by omega)
    refine ⟨l ++ [a], by simp [hl], fun i b hb => ?_⟩
    by_cases hi : i < l.length
    · rw [List.getElem?_append_left hi] at hb
      exact hr i b hb
    · rw [List.getElem?_append_right (by omega)] at hb
      have hi2 : i - l.length = 0 := by
        rcases Nat.eq_zero_or_pos (i - l.length) with h0 | h0
        · exact h0
        · rw [List.getElem?_eq_none (by simp; omega)] at hb; cases hb
      rw [hi2] at hb
      simp at hb
      subst hb
      have : i = n := by omega
      subst this
      exact ha
theorem i64_of_wf {z : Int} (h : (Lit.int .i64 z).wf = true) : I64 z := by
  simp [Lit.wf, IntKind.min, IntKind.max, IntKind.signed, IntKind.bits] at h
  unfold I64
  omega
theorem vcells_get (vs : List (Nat × Int)) : ∀ (j : Nat) (u : Value), (vcells vs)[j]? = some u → ∃ k v, vs[k]? = some v ∧ ((j = k * 2 ∧ u = .int .u64 (v.1 : Int)) ∨ (j = k * 2 + 1 ∧ u = .int .i64 v.2)) := by
  induction vs with
  | nil => intro j u h; simp [vcells] at h
  | cons x l ih =>
    intro j u h
    have e : vcells (x :: l) = .int .u64 (x.1 : Int) :: .int .i64 x.2 :: vcells l := rfl
    rw [e] at h
    match j with
    | 0 => simp at h; exact ⟨0, x, rfl, .inl ⟨rfl, h.symm⟩⟩
    | 1 => simp at h; exact ⟨0, x, rfl, .inr ⟨rfl, h.symm⟩⟩
    | j + 2 =>
      obtain ⟨k, v, hv, hj⟩ := ih j u (by simpa using h)
      refine ⟨k + 1, v, by simpa using hv, ?_⟩
      rcases hj with ⟨rfl, hu⟩ | ⟨rfl, hu⟩
      · exact .inl ⟨by omega, hu⟩
      · exact .inr ⟨by omega, hu⟩
/-- a slice of values that came in reads as a list of values -/
theorem vals_in {t e : TypeId} {f0 f1 : Field} {fuel : Nat} {v : Value} {x : DataW H × List MemPlace} (ht : P.underlying t = some (.slice e)) (he : P.underlying e = some (.struct #[f0, f1])) (hone : oneCellFields P #[f0, f1] = true) (hC : P.cellsOf e = 2)
    (h0 : P.underlying f0.type = some (.int .u64)) (h1 : P.underlying f1.type = some (.int .i64)) (h : DataW.trod enc P w base spare held fuel t [v] = some x) :
    ∃ (A : Option Addr) (n c : Nat) (vs : List (Nat × Int)), v = .slice A n c ∧ n ≤ c ∧ c ≤ maxLen ∧ RdV w w.heap.size A n vs ∧ ∀ v ∈ vs, v.1 < 18446744073709551616 ∧ I64 v.2 := by
  rcases open_slice_fields ht he hone hC h with ⟨hcs, _⟩ | ⟨a, len, cap, m, D, Pl, hcs, _, hl, hm, hmm, _, hi⟩
  · simp at hcs
    exact ⟨none, 0, 0, [], hcs, Nat.le_refl _, Nat.zero_le _, Reads.none_, by intro v hv; simp at hv⟩
  · simp at hcs
    have hlm : len ≤ m := by rw [hmm]; split <;> omega
    obtain ⟨vs, hlen, hvs⟩ := list_of (R := fun i (p : Nat × Int) => w.cell? (a.add (i * 2)) = some (.int .u64 (p.1 : Int)) ∧ w.cell? (a.add (i * 2 + 1)) = some (.int .i64 p.2) ∧ p.1 < 18446744073709551616 ∧ I64 p.2) len (fun i hil => by
      obtain ⟨ys, n, _, _, _, hf⟩ := hi i (by omega)
      obtain ⟨v0, y0, hc0, _, t0⟩ := hf 0 f0 rfl
      obtain ⟨v1, y1, hc1, _, t1⟩ := hf 1 f1 rfl
      obtain ⟨x0, e0, _, wf0⟩ := DataW.trod_int h0 t0
      obtain ⟨x1, e1, _, wf1⟩ := DataW.trod_int h1 t1
      simp only [List.cons.injEq, and_true] at e0 e1
      obtain ⟨q, rfl, hq⟩ := u64_of_wf wf0
      refine ⟨(q, x1), ?_, ?_, hq, i64_of_wf wf1⟩
      · rw [← e0]; simpa using hc0
      · rw [← e1]; simpa using hc1)
    refine ⟨some a, len, cap, vs, hcs, hl, hm, ⟨by rw [vcells_len, hlen], fun hn => ⟨a, rfl, ?_, fun j u hu => ?_⟩⟩, fun v hv => ?_⟩
    · obtain ⟨p, hp⟩ : ∃ p, vs[0]? = some p := ⟨_, List.getElem?_eq_getElem (by omega)⟩
      have := World.block_lt_of_cell? _ _ (hvs 0 p hp).1
      rwa [block_of_add] at this
    · obtain ⟨k, p, hp, hj⟩ := vcells_get vs j u hu
      have hk := hvs k p hp
      rcases hj with ⟨rfl, rfl⟩ | ⟨rfl, rfl⟩
      · exact hk.1
      · exact hk.2.1
    · obtain ⟨k, hk⟩ := List.getElem?_of_mem hv
      exact (hvs k v hk).2.2
end

end Go.Proofs.Ytjhkfpemcplaaaa
namespace Go.Proofs.Ytjhkfpemcplaaaa
open Go.Joins Go.ChangeShapes Go.WideShapes Go.RowKit Go.Deep

section
variable {H : Type} {enc : TypeId × Value → H} {P : Program} {w : World} {base : Nat} {spare : Nat → Bool} {held : Bool}
/-- within the reach -/
def Wt (P : Program) (t : TypeId) (d : DataW H) : Prop := ∀ m ∈ d.weights P t, m ≤ reachBytes
theorem weights_all {P : Program} {e : TypeId} : ∀ {l : List (DataW H)} {d : DataW H}, d ∈ l → ∀ m ∈ d.weights P e, m ∈ DataW.weightsAll P e l
  | x :: l, d, h, m, hm => by
    simp only [DataW.weightsAll, List.mem_append]
    rcases List.mem_cons.1 h with rfl | h
    · exact Or.inl hm
    · exact Or.inr (weights_all h m hm)
theorem wt_each {P : Program} {ts : List TypeId} {ds : List (DataW H)} {j : Nat} {t : TypeId} {d : DataW H} (h : (DataW.weightsEach P ts ds).all (· ≤ reachBytes) = true) (ht : ts[j]? = some t) (hd : ds[j]? = some d) : Wt P t d := by
  intro m hm
  simpa using List.all_eq_true.1 h m (DataW.weights_mem_each ht hd m hm)
theorem wt_slice {P : Program} {t e : TypeId} {el sp : List (DataW H)} (ht : P.underlying t = some (.slice e)) (h : Wt P t (.slice el sp)) : (el.length + sp.length) * P.bytesOf e ≤ reachBytes ∧ ∀ d ∈ el, Wt P e d := by
  refine ⟨h _ (by simp [DataW.weights, ht]), fun d hd m hm => h m ?_⟩
  simp only [DataW.weights, ht, List.mem_cons, List.mem_append]
  exact Or.inr (Or.inl (weights_all hd m hm))
theorem wt_agg {P : Program} {t : TypeId} {fs : Array Field} {ds : List (DataW H)} {j : Nat} {tj : TypeId} {d : DataW H} (ht : P.underlying t = some (.struct fs)) (h : Wt P t (.agg ds)) (h1 : (fs.toList.map (·.type))[j]? = some tj) (h2 : ds[j]? = some d) : Wt P tj d := by
  intro m hm
  refine h m ?_
  simp only [DataW.weights, ht]
  exact DataW.weights_mem_each h1 h2 m hm
/-- a slice's length -/
theorem slice_len {t e : TypeId} {fuel : Nat} {A : Option Addr} {n c : Nat} {x : DataW H × List MemPlace} (ht : P.underlying t = some (.slice e))
    (h : DataW.trod enc P w base spare held fuel t [.slice A n c] = some x) (hw : Wt P t x.1) : n * P.bytesOf e ≤ reachBytes := by
  rcases DataW.trod_slice ht h with ⟨h0, hy⟩ | ⟨a, len, cap, elems, rest, n', hn', hcs, hy, hba, hlc', hcm, hel, hse, _, _⟩
  · simp only [List.cons.injEq, and_true] at h0
    cases h0
    simp
  · simp only [List.cons.injEq, and_true] at hcs
    cases hcs
    rw [hy] at hw
    have h1 := (wt_slice ht hw).1
    simp only [List.length_map] at h1
    refine Nat.le_trans (Nat.mul_le_mul_right _ ?_) h1
    omega
end
/-- a deed as it came in -/
structure DdIn (w : World) (K xk : Int) (xh : Nat) (xA : Option Addr) (xn : Nat) (xs : ByteArray) (k : Int) (t s a : Nat) (A : Option Addr) (n : Nat) (B : Option Addr) (nb : Nat) (ns : List Int) (body bb : List UInt8) : Prop where
  rx : RdI w w.heap.size xA xn ns
  u : ∀ z ∈ ns, I64 z
  xh : xh < 18446744073709551616
  r : RdB w w.heap.size A n body
  rb : RdB w w.heap.size B nb bb
  t : t < 18446744073709551616
  s : s < 18446744073709551616
  a : a < 18446744073709551616
  nb : nb ≤ 140737488351232
section
variable {H : Type} {enc : TypeId × Value → H} {w : World} {base : Nat} {spare : Nat → Bool} {held : Bool}
/-- a struct's fields, read -/
theorem trod_s4 {P : Program} {t : TypeId} {f0 f1 f2 f3 : Field} {fuel : Nat} {cs : List Value} {x : DataW H × List MemPlace} (ht : P.underlying t = some (.struct #[f0, f1, f2, f3])) (h : DataW.trod enc P w base spare held fuel t cs = some x) :
    ∃ (y0 y1 y2 y3 : DataW H × List MemPlace) (n : Nat), x.1 = .agg [y0.1, y1.1, y2.1, y3.1] ∧ cs.length = P.cellsOf t ∧
      DataW.trod enc P w base spare held n f0.type ((cs.drop f0.offset).take (P.cellsOf f0.type)) = some y0 ∧ DataW.trod enc P w base spare held n f1.type ((cs.drop f1.offset).take (P.cellsOf f1.type)) = some y1 ∧
      DataW.trod enc P w base spare held n f2.type ((cs.drop f2.offset).take (P.cellsOf f2.type)) = some y2 ∧ DataW.trod enc P w base spare held n f3.type ((cs.drop f3.offset).take (P.cellsOf f3.type)) = some y3 := by
  obtain ⟨xs, n, _, rfl, hl, hlen, hf⟩ := DataW.trod_struct ht h
  match xs, hlen with
  | [y0, y1, y2, y3], _ => exact ⟨y0, y1, y2, y3, n, by simp, hl, by simpa using hf 0 f0 rfl, by simpa using hf 1 f1 rfl, by simpa using hf 2 f2 rfl, by simpa using hf 3 f3 rfl⟩
theorem trod_s5 {P : Program} {t : TypeId} {f0 f1 f2 f3 f4 : Field} {fuel : Nat} {cs : List Value} {x : DataW H × List MemPlace} (ht : P.underlying t = some (.struct #[f0, f1, f2, f3, f4])) (h : DataW.trod enc P w base spare held fuel t cs = some x) :
    ∃ (y0 y1 y2 y3 y4 : DataW H × List MemPlace) (n : Nat), x.1 = .agg [y0.1, y1.1, y2.1, y3.1, y4.1] ∧ cs.length = P.cellsOf t ∧
      DataW.trod enc P w base spare held n f0.type ((cs.drop f0.offset).take (P.cellsOf f0.type)) = some y0 ∧ DataW.trod enc P w base spare held n f1.type ((cs.drop f1.offset).take (P.cellsOf f1.type)) = some y1 ∧
      DataW.trod enc P w base spare held n f2.type ((cs.drop f2.offset).take (P.cellsOf f2.type)) = some y2 ∧ DataW.trod enc P w base spare held n f3.type ((cs.drop f3.offset).take (P.cellsOf f3.type)) = some y3 ∧
      DataW.trod enc P w base spare held n f4.type ((cs.drop f4.offset).take (P.cellsOf f4.type)) = some y4 := by
  obtain ⟨xs, n, _, rfl, hl, hlen, hf⟩ := DataW.trod_struct ht h
  match xs, hlen with
  | [y0, y1, y2, y3, y4], _ => exact ⟨y0, y1, y2, y3, y4, n, by simp, hl, by simpa using hf 0 f0 rfl, by simpa using hf 1 f1 rfl, by simpa using hf 2 f2 rfl, by simpa using hf 3 f3 rfl, by simpa using hf 4 f4 rfl⟩
set_option maxRecDepth 20000 in
theorem deed_in {fuel : Nat} {cs : List Value} {x : DataW H × List MemPlace} (h : DataW.trod enc Try.prog w base spare held fuel 41 cs = some x) (hw : Wt Try.prog 41 x.1) :
    ∃ (K xk : Int) (xh : Nat) (xA : Option Addr) (xn xc : Nat) (xs : ByteArray) (k : Int) (t s a : Nat) (A : Option Addr) (n c : Nat) (B : Option Addr) (nb cb : Nat) (Z : Int) (ns : List Int) (body bb : List UInt8),
      cs = (ddV K xk xh xA xn xc xs k t s a A n c B nb cb Z).toList ∧ DdIn w K xk xh xA xn xs k t s a A n B nb ns body bb := by
  have c41 : Try.prog.cellsOf 41 = 12 := by kernel_rfl
  have c35 : Try.prog.cellsOf 35 = 4 := by kernel_rfl
  have c39 : Try.prog.cellsOf 39 = 5 := by kernel_rfl
  have c37 : Try.prog.cellsOf 37 = 1 := by kernel_rfl
  have c36 : Try.prog.cellsOf 36 = 1 := by kernel_rfl
  have c33 : Try.prog.cellsOf 33 = 1 := by kernel_rfl
  have c32 : Try.prog.cellsOf 32 = 1 := by kernel_rfl
  have c22 : Try.prog.cellsOf 22 = 1 := by kernel_rfl
  have c9 : Try.prog.cellsOf 9 = 1 := by kernel_rfl
  have c3 : Try.prog.cellsOf 3 = 1 := by kernel_rfl
  obtain ⟨x0, x1, x2, x3, x4, m, hx, hl, g0, g1, g2, g3, g4⟩ := trod_s5 Try.underlying41 h
  rw [c41] at hl
  match cs, hl with
  | [v0, v1, v2, v3, v4, v5, v6, v7, v8, v9, v10, v11], _ =>
  simp only [c3, c35, c39, c37, List.drop_succ_cons, List.drop_zero, List.take_succ_cons, List.take_zero] at g0 g1 g2 g3 g4
  obtain ⟨K, e0, _, _⟩ := DataW.trod_int Try.underlying3 g0
  obtain ⟨Z, e11, _, _⟩ := DataW.trod_int Try.underlying3 g4
  obtain ⟨y0, y1, y2, y3, m1, _, _, a0, a1, a2, a3⟩ := trod_s4 Try.underlying35 g1
  simp only [c32, c22, c33, c9, List.drop_succ_cons, List.drop_zero, List.take_succ_cons, List.take_zero] at a0 a1 a2 a3
  obtain ⟨xk, e1, _, _⟩ := DataW.trod_int Try.underlying32 a0
  obtain ⟨xh, e2, _, wf2⟩ := DataW.trod_int Try.underlying22 a1
  obtain ⟨xA, xn, xc, ns, e3, _, _, hrx, hu⟩ := ints_in Try.underlying33 Try.underlying3 c3 a2
  obtain ⟨str, e4, _, _⟩ := DataW.trod_string Try.underlying9 a3
  obtain ⟨z0, z1, z2, z3, z4, m2, _, _, b0, b1, b2, b3, b4⟩ := trod_s5 Try.underlying39 g2
  simp only [c36, c22, c37, List.drop_succ_cons, List.drop_zero, List.take_succ_cons, List.take_zero] at b0 b1 b2 b3 b4
  obtain ⟨k, e5, _, _⟩ := DataW.trod_int Try.underlying36 b0
  obtain ⟨t, e6, _, wf6⟩ := DataW.trod_int Try.underlying22 b1
  obtain ⟨s, e7, _, wf7⟩ := DataW.trod_int Try.underlying22 b2
  obtain ⟨a, e8, _, wf8⟩ := DataW.trod_int Try.underlying22 b3
  obtain ⟨A, n, c, body, e9, _, _, hr⟩ := bytes_in Try.underlying37 Try.underlying5 (by kernel_rfl) b4
  obtain ⟨B, nb, cb, bb, e10, _, _, hrb⟩ := bytes_in Try.underlying37 Try.underlying5 (by kernel_rfl) g3
  simp only [List.cons.injEq, and_true] at e0 e1 e2 e4 e5 e6 e7 e8 e11
  obtain ⟨xh, rfl, hxh⟩ := u64_of_wf wf2
  obtain ⟨t, rfl, ht⟩ := u64_of_wf wf6
  obtain ⟨s, rfl, hs⟩ := u64_of_wf wf7
  obtain ⟨a, rfl, ha⟩ := u64_of_wf wf8
  subst e0 e1 e2 e3 e4 e5 e6 e7 e8 e9 e10 e11
  have hn : nb * Try.prog.bytesOf 5 ≤ reachBytes := by
    refine slice_len Try.underlying37 g3 ?_
    rw [hx] at hw
    exact wt_agg Try.underlying41 hw (j := 3) rfl rfl
  have hb : Try.prog.bytesOf 5 = 1 := by kernel_rfl
  have h9 : reachBytes = 140737488351232 := rfl
  rw [hb, h9] at hn
  exact ⟨K, xk, xh, xA, xn, xc, str, k, t, s, a, A, n, c, B, nb, cb, Z, ns, body, bb, rfl, hrx, hu, hxh, hr, hrb, ht, hs, ha, by omega⟩
end
end Go.Proofs.Ytjhkfpemcplaaaa
namespace Go.Proofs.Ytjhkfpemcplaaaa
open Go.RowKit

/-- a deed, where its slices lie and what they read -/
structure Dd where
  K : Int
  xk : Int
  xh : Nat
  xA : Option Addr
  xn : Nat
  xc : Nat
  xs : ByteArray
  k : Int
  t : Nat
  s : Nat
  a : Nat
  A : Option Addr
  n : Nat
  c : Nat
  B : Option Addr
  nb : Nat
  cb : Nat
  Z : Int
  ns : List Int
  body : List UInt8
  bb : List UInt8
def Dd.v (d : Dd) : Array Value := ddV d.K d.xk d.xh d.xA d.xn d.xc d.xs d.k d.t d.s d.a d.A d.n d.c d.B d.nb d.cb d.Z
def Dd.In (w : World) (d : Dd) : Prop := DdIn w d.K d.xk d.xh d.xA d.xn d.xs d.k d.t d.s d.a d.A d.n d.B d.nb d.ns d.body d.bb
theorem Dd.In.below {w w' : World} {d : Dd} (h : d.In w) (hb : Below w.heap.size w w') : d.In w' :=
  ⟨(h.rx.below hb).more hb.size, h.u, h.xh, (h.r.below hb).more hb.size, (h.rb.below hb).more hb.size, h.t, h.s, h.a, h.nb⟩
def Dd.good (d : Dd) : Bool := decide (1 ≤ d.xk) && decide (d.xk ≤ 23) && decide (d.ns.length ≤ 32) && decide (d.xs.data.toList.length ≤ 512) && decide ((cmdB d.xk d.xh d.ns d.xs.data.toList).length ≤ 1024)
theorem Dd.good_iff (d : Dd) : d.good = true ↔ goodC d.xk d.xh d.ns d.xs.data.toList := by
  simp only [Dd.good, goodC, Bool.and_eq_true, decide_eq_true_eq, and_assoc]
def Dd.bodyC (d : Dd) : List UInt8 := cmdB d.xk d.xh d.ns d.xs.data.toList
def Dd.chunk (d : Dd) : List UInt8 := chunkB d.K d.k d.t d.s d.a d.body d.bb
/-- what act does -/
noncomputable def actF (c : Cl) (d : Dd) : List Pk × Cl :=
  if d.K.tmod 10 = 0 ∨ d.K.tmod 10 = 1 then ((issueF c d.good d.bodyC).2.1, (issueF c d.good d.bodyC).2.2.2)
  else if d.K.tmod 10 = 2 then ((connF c).1, (connF c).2.2)
  else if d.K.tmod 10 = 3 then ([], (cutF c).2)
  else if 4 ≤ d.K.tmod 10 ∧ d.K.tmod 10 ≤ 7 then recvF c d.chunk
  else if d.K.tmod 10 = 8 then tickF c d.Z
  else ([], c)
theorem packB_len {k : Int} {t s a : Nat} {body : List UInt8} (h : mayB k body.length = true) : (packB k t s a body).length ≤ 1088 := by
  obtain ⟨_, _, hb⟩ := mayB_no h
  have h5 := (inner_len k t s a body hb).2
  unfold packB
  rw [frame_len]
  omega
theorem Dd.chunk_len (d : Dd) : d.chunk.length ≤ d.bb.length + 1088 := by
  unfold Dd.chunk chunkB
  split
  · omega
  · rename_i h
    have h2 : mayB d.k d.body.length = true := by
      cases h3 : mayB d.k d.body.length with
      | true => rfl
      | false => exact absurd (Or.inr h3) h
    have := packB_len (t := d.t) (s := d.s) (a := d.a) h2
    rw [List.length_append]
    omega
section
variable {base m m' : Nat} {w w1 w' : World} {p p' : Pa} {c c' : Cl}
theorem Stp.pre (h : CA base w p c) (hb : Below w.heap.size w w1) (s : Stp base w1 p m c' p' w') (hm : m ≤ m') : Stp base w p m' c' p' w' := by
  have h1 := ((Stp.refl h 0).below hb).trans s
  exact ⟨h1.ca, h1.g, h1.sub, h1.chg, by have := h1.d; omega⟩
theorem Frs.pre {fs : List (List UInt8)} {v : Value} {l : List (QX (List UInt8))} (hb : Below w.heap.size w w1) (h : Frs w1 p' fs v l w') : Frs w p' fs v l w' := ⟨h.row.rebase hb.size, h.is, h.ap⟩
end
set_option maxRecDepth 20000 in
set_option maxHeartbeats 4000000 in
theorem act_any {base N : Nat} {p : Pa} {c : Cl} {w : World} (d : Dd) (h : CA base w p c) (ok : c.Ok N) (hN : N ≤ 274877906944) (hd : d.In w) (hnb : d.nb ≤ 1048576) (hxn : d.xn ≤ 1048576) (hp : p.d ≤ 1152921504606846976) :
    Calls Try.prog 16 #[.pointer (some ⟨p.g, 0, none⟩), .agg d.v] w (AnsP base w p (d.nb + 3000) (actF c d).2 (actF c d).1 fun v => v) := by
  have hc := d.chunk_len
  have hbl : d.bb.length = d.nb := by have := hd.rb.1; simpa using this
  have hact : actF c d = actF c d := rfl
  conv at hact => rhs; unfold actF
  have hgd := d.good_iff
  have hchk : d.chunk = chunkB d.K d.k d.t d.s d.a d.body d.bb := rfl
  have hbc : d.bodyC = cmdB d.xk d.xh d.ns d.xs.data.toList := rfl
  obtain ⟨w1, hw1⟩ : ∃ w1, w.alloc (.cells d.v 41) = w1 := ⟨_, rfl⟩
  have hb1 : Below w.heap.size w w1 := hw1 ▸ (Below.refl _ _).alloc (Nat.le_refl _) _
  have hX : Blk w1 w.heap.size 41 d.v := hw1 ▸ Blk.new w 41 _
  have hd1 := hd.below hb1
  have hca1 := h.below hb1
  generalize actF c d = F at *
  generalize d.chunk = ck at *
  generalize d.bodyC = bc at *
  generalize d.good = gd at *
  obtain ⟨K, xk, xh, xA, xn, xc, xs, k, t, s, a, A, n, cc, B, nb, cb, Z, ns, body, bb⟩ := d
  unfold Dd.v ddV at *
  dsimp only at hc hbl hact hgd hchk hbc hw1 hX hnb hxn
  unfold Dd.In at hd1
  dsimp only at hd1 ⊢
  have HC := Lib.hid h
  have HC1 := Lib.hid hca1
  have HOK := Lib.hid ok
  have HD1 := Lib.hid hd1
  have HB1 := Lib.hid hb1
  have HX := Lib.hid hX
  have HCK := Lib.hid hc
  have HBL := Lib.hid hbl
  have HNB := Lib.hid hnb
  have HN := Lib.hid hN
  have HP := Lib.hid hp
  have HXN := Lib.hid hxn
  have HGD := Lib.hid hgd
  have HCH := Lib.hid hchk
  have HBC := Lib.hid hbc
  have y0 : w1.cell? ⟨w.heap.size, 0, none⟩ = some (.int .i64 K) := hX.cell 0
  have y1 : w1.cell? ⟨w.heap.size, 1, none⟩ = some (.int .i64 xk) := hX.cell 1
  have y2 : w1.cell? ⟨w.heap.size, 2, none⟩ = some (.int .u64 (xh : Int)) := hX.cell 2
  have y3 : w1.cell? ⟨w.heap.size, 3, none⟩ = some (.slice xA xn xc) := hX.cell 3
  have y4 : w1.cell? ⟨w.heap.size, 4, none⟩ = some (.string xs) := hX.cell 4
  have y5 : w1.cell? ⟨w.heap.size, 5, none⟩ = some (.int .i64 k) := hX.cell 5
  have y6 : w1.cell? ⟨w.heap.size, 6, none⟩ = some (.int .u64 (t : Int)) := hX.cell 6
  have y7 : w1.cell? ⟨w.heap.size, 7, none⟩ = some (.int .u64 (s : Int)) := hX.cell 7
  have y8 : w1.cell? ⟨w.heap.size, 8, none⟩ = some (.int .u64 (a : Int)) := hX.cell 8
  have y9 : w1.cell? ⟨w.heap.size, 9, none⟩ = some (.slice A n cc) := hX.cell 9
  have y10 : w1.cell? ⟨w.heap.size, 10, none⟩ = some (.slice B nb cb) := hX.cell 10
  have y11 : w1.cell? ⟨w.heap.size, 11, none⟩ = some (.int .i64 Z) := hX.cell 11
  clear h ok hN hd hp hc hbl hgd hchk hbc hb1 hX hd1 hca1 hnb hxn
  have hK : K.tmod 10 = 0 ∨ K.tmod 10 = 1 ∨ K.tmod 10 = 2 ∨ K.tmod 10 = 3 ∨ K.tmod 10 = 4 ∨ K.tmod 10 = 5 ∨ K.tmod 10 = 6 ∨ K.tmod 10 = 7 ∨ K.tmod 10 = 8 ∨ (K.tmod 10 ≠ 0 ∧ K.tmod 10 ≠ 1 ∧ K.tmod 10 ≠ 2 ∧ K.tmod 10 ≠ 3 ∧ K.tmod 10 ≠ 4 ∧ K.tmod 10 ≠ 5 ∧ K.tmod 10 ≠ 6 ∧ K.tmod 10 ≠ 7 ∧ K.tmod 10 ≠ 8) := by omega
  rcases hK with eK | eK | eK | eK | eK | eK | eK | eK | eK | eK
  · have HA : Hid (F = ((issueF c gd bc).2.1, (issueF c gd bc).2.2.2)) := Lib.hid (by rw [hact, eK]; simp)
    clear hact
    rw [HA.out]
    have HTW := Lib.hid (twin_any xk xh xA xn xc ns xs w1 HD1.out.rx (by have := HXN.out; omega))
    go_enter Try.func16, Try.ntmps16
    go_upto_region 1 with fail
    clear hw1
    go_wp2_with (first
      | (go_at_call 19; refine HTW.out.mono ?_; rintro e w2 ⟨A2, c2, rfl, ho2, hb2⟩; have HO2 := Lib.hid ho2; have HB2 := Lib.hid hb2; clear ho2 hb2)
      | (go_at_call 21; refine (issue_any xk xh A2 ns.length c2 ns xs gd (HC1.out.below HB2.out) HOK.out (by have := HN.out; omega) (by have := HN.out; omega) HD1.out.xh (Reads.of_own HO2.out) HD1.out.u HGD.out).mono ?_; rw [← HBC.out]; rintro e w3 ⟨v, l, p', rfl, hs, hf⟩; have HS := Lib.hid hs; have HF := Lib.hid hf; clear hs hf))
    go_ret
    have HB3 := Lib.hid (HB1.out.trans (HB2.out.mono HB1.out.size))
    exact ⟨_, l, p', rfl, Stp.pre HC.out HB3.out HS.out (by omega), Frs.pre HB3.out HF.out⟩
  · have HA : Hid (F = ((issueF c gd bc).2.1, (issueF c gd bc).2.2.2)) := Lib.hid (by rw [hact, eK]; simp)
    clear hact
    rw [HA.out]
    have HTW := Lib.hid (twin_any xk xh xA xn xc ns xs w1 HD1.out.rx (by have := HXN.out; omega))
    go_enter Try.func16, Try.ntmps16
    go_upto_region 1 with fail
    clear hw1
    go_wp2_with (first
      | (go_at_call 19; refine HTW.out.mono ?_; rintro e w2 ⟨A2, c2, rfl, ho2, hb2⟩; have HO2 := Lib.hid ho2; have HB2 := Lib.hid hb2; clear ho2 hb2)
      | (go_at_call 21; refine (issue_any xk xh A2 ns.length c2 ns xs gd (HC1.out.below HB2.out) HOK.out (by have := HN.out; omega) (by have := HN.out; omega) HD1.out.xh (Reads.of_own HO2.out) HD1.out.u HGD.out).mono ?_; rw [← HBC.out]; rintro e w3 ⟨v, l, p', rfl, hs, hf⟩; have HS := Lib.hid hs; have HF := Lib.hid hf; clear hs hf))
    go_ret
    have HB3 := Lib.hid (HB1.out.trans (HB2.out.mono HB1.out.size))
    exact ⟨_, l, p', rfl, Stp.pre HC.out HB3.out HS.out (by omega), Frs.pre HB3.out HF.out⟩
  · have HA : Hid (F = ((connF c).1, (connF c).2.2)) := Lib.hid (by rw [hact, eK]; simp)
    clear hact
    rw [HA.out]
    go_enter Try.func16, Try.ntmps16
    go_upto_region 1 with fail
    clear hw1
    go_wp2_with (go_at_call 20; refine (connect_any HC1.out HOK.out).mono ?_; rintro e w2 ⟨v, l, p', rfl, hs, hf⟩; have HS := Lib.hid hs; have HF := Lib.hid hf; clear hs hf)
    go_ret
    exact ⟨_, l, p', rfl, Stp.pre HC.out HB1.out HS.out (by omega), Frs.pre HB1.out HF.out⟩
  · have HA : Hid (F = ([], (cutF c).2)) := Lib.hid (by rw [hact, eK]; simp)
    clear hact
    rw [HA.out]
    go_enter Try.func16, Try.ntmps16
    go_upto_region 1 with fail
    clear hw1
    go_wp2_with (go_at_call 38; refine (cut_any HC1.out HOK.out HP.out).mono ?_; rintro e w2 ⟨p', rfl, hs⟩; have HS := Lib.hid hs; clear hs)
    go_ret
    exact ⟨_, [], p', rfl, Stp.pre HC.out HB1.out HS.out (by omega), Frs.nil _ _ _⟩
  · have HA : Hid (F = recvF c ck) := Lib.hid (by rw [hact, eK]; simp)
    clear hact
    rw [HA.out]
    go_enter Try.func16, Try.ntmps16
    go_upto_region 1 with fail
    clear hw1
    go_wp2_with (first
      | (go_at_call 39; refine (chunk_any K xk xh xA xn xc xs k t s a A n cc B nb cb Z body bb w1 HD1.out.r HD1.out.rb HD1.out.t HD1.out.s HD1.out.a (by have := HNB.out; omega)).mono ?_; rw [← HCH.out]; rintro e w2 ⟨A2, n2, c2, rfl, hn2, hr2, hb2⟩; have HN2 := Lib.hid hn2; have HR2 := Lib.hid hr2; have HB2 := Lib.hid hb2; clear hn2 hr2 hb2)
      | (go_at_call 22; refine (receive_any A2 n2 c2 ck (HC1.out.below HB2.out) HOK.out (by have := HN.out; omega) HR2.out (by have := HN2.out; have := HCK.out; have := HBL.out; have := HNB.out; omega) HP.out).mono ?_; rintro e w3 ⟨v, l, p', rfl, hs, hf⟩; have HS := Lib.hid hs; have HF := Lib.hid hf; clear hs hf))
    go_ret
    have HB3 := Lib.hid (HB1.out.trans (HB2.out.mono HB1.out.size))
    exact ⟨_, l, p', rfl, Stp.pre HC.out HB3.out HS.out (by have := HN2.out; have := HCK.out; have := HBL.out; omega), Frs.pre HB3.out HF.out⟩
  · have HA : Hid (F = recvF c ck) := Lib.hid (by rw [hact, eK]; simp)
    clear hact
    rw [HA.out]
    go_enter Try.func16, Try.ntmps16
    go_upto_region 1 with fail
    clear hw1
    go_wp2_with (first
      | (go_at_call 39; refine (chunk_any K xk xh xA xn xc xs k t s a A n cc B nb cb Z body bb w1 HD1.out.r HD1.out.rb HD1.out.t HD1.out.s HD1.out.a (by have := HNB.out; omega)).mono ?_; rw [← HCH.out]; rintro e w2 ⟨A2, n2, c2, rfl, hn2, hr2, hb2⟩; have HN2 := Lib.hid hn2; have HR2 := Lib.hid hr2; have HB2 := Lib.hid hb2; clear hn2 hr2 hb2)
      | (go_at_call 22; refine (receive_any A2 n2 c2 ck (HC1.out.below HB2.out) HOK.out (by have := HN.out; omega) HR2.out (by have := HN2.out; have := HCK.out; have := HBL.out; have := HNB.out; omega) HP.out).mono ?_; rintro e w3 ⟨v, l, p', rfl, hs, hf⟩; have HS := Lib.hid hs; have HF := Lib.hid hf; clear hs hf))
    go_ret
    have HB3 := Lib.hid (HB1.out.trans (HB2.out.mono HB1.out.size))
    exact ⟨_, l, p', rfl, Stp.pre HC.out HB3.out HS.out (by have := HN2.out; have := HCK.out; have := HBL.out; omega), Frs.pre HB3.out HF.out⟩
  · have HA : Hid (F = recvF c ck) := Lib.hid (by rw [hact, eK]; simp)
    clear hact
    rw [HA.out]
    go_enter Try.func16, Try.ntmps16
    go_upto_region 1 with fail
    clear hw1
    go_wp2_with (first
      | (go_at_call 39; refine (chunk_any K xk xh xA xn xc xs k t s a A n cc B nb cb Z body bb w1 HD1.out.r HD1.out.rb HD1.out.t HD1.out.s HD1.out.a (by have := HNB.out; omega)).mono ?_; rw [← HCH.out]; rintro e w2 ⟨A2, n2, c2, rfl, hn2, hr2, hb2⟩; have HN2 := Lib.hid hn2; have HR2 := Lib.hid hr2; have HB2 := Lib.hid hb2; clear hn2 hr2 hb2)
      | (go_at_call 22; refine (receive_any A2 n2 c2 ck (HC1.out.below HB2.out) HOK.out (by have := HN.out; omega) HR2.out (by have := HN2.out; have := HCK.out; have := HBL.out; have := HNB.out; omega) HP.out).mono ?_; rintro e w3 ⟨v, l, p', rfl, hs, hf⟩; have HS := Lib.hid hs; have HF := Lib.hid hf; clear hs hf))
    go_ret
    have HB3 := Lib.hid (HB1.out.trans (HB2.out.mono HB1.out.size))
    exact ⟨_, l, p', rfl, Stp.pre HC.out HB3.out HS.out (by have := HN2.out; have := HCK.out; have := HBL.out; omega), Frs.pre HB3.out HF.out⟩
  · have HA : Hid (F = recvF c ck) := Lib.hid (by rw [hact, eK]; simp)
    clear hact
    rw [HA.out]
    go_enter Try.func16, Try.ntmps16
    go_upto_region 1 with fail
    clear hw1
    go_wp2_with (first
      | (go_at_call 39; refine (chunk_any K xk xh xA xn xc xs k t s a A n cc B nb cb Z body bb w1 HD1.out.r HD1.out.rb HD1.out.t HD1.out.s HD1.out.a (by have := HNB.out; omega)).mono ?_; rw [← HCH.out]; rintro e w2 ⟨A2, n2, c2, rfl, hn2, hr2, hb2⟩; have HN2 := Lib.hid hn2; have HR2 := Lib.hid hr2; have HB2 := Lib.hid hb2; clear hn2 hr2 hb2)
      | (go_at_call 22; refine (receive_any A2 n2 c2 ck (HC1.out.below HB2.out) HOK.out (by have := HN.out; omega) HR2.out (by have := HN2.out; have := HCK.out; have := HBL.out; have := HNB.out; omega) HP.out).mono ?_; rintro e w3 ⟨v, l, p', rfl, hs, hf⟩; have HS := Lib.hid hs; have HF := Lib.hid hf; clear hs hf))
    go_ret
    have HB3 := Lib.hid (HB1.out.trans (HB2.out.mono HB1.out.size))
    exact ⟨_, l, p', rfl, Stp.pre HC.out HB3.out HS.out (by have := HN2.out; have := HCK.out; have := HBL.out; omega), Frs.pre HB3.out HF.out⟩
  · have HA : Hid (F = tickF c Z) := Lib.hid (by rw [hact, eK]; simp)
    clear hact
    rw [HA.out]
    go_enter Try.func16, Try.ntmps16
    go_upto_region 1 with fail
    clear hw1
    go_wp2_with (go_at_call 24; refine (tick_any Z HC1.out HOK.out (by have := HN.out; omega)).mono ?_; rintro e w2 ⟨v, l, p', rfl, hs, hf⟩; have HS := Lib.hid hs; have HF := Lib.hid hf; clear hs hf)
    go_ret
    exact ⟨_, l, p', rfl, Stp.pre HC.out HB1.out HS.out (by omega), Frs.pre HB1.out HF.out⟩
  · have HA : Hid (F = ([], c)) := Lib.hid (by rw [hact]; obtain ⟨e0, e1, e2, e3, e4, e5, e6, e7, e8⟩ := eK; rw [if_neg (by omega), if_neg (by omega), if_neg (by omega), if_neg (by omega), if_neg (by omega)])
    clear hact
    rw [HA.out]
    obtain ⟨e0, e1, e2, e3, e4, e5, e6, e7, e8⟩ := eK
    go_enter Try.func16, Try.ntmps16
    go_upto_region 1 with fail
    clear hw1
    go_wp2
    go_ret
    exact ⟨_, [], p, rfl, Stp.pre HC.out HB1.out (Stp.refl HC1.out 0) (by omega), Frs.nil _ _ _⟩
end Go.Proofs.Ytjhkfpemcplaaaa
namespace Go.Proofs.Ytjhkfpemcplaaaa
open Go.RowKit

theorem packsF_ok (l : List Pk) : ∀ {N : Nat} {c : Cl}, c.Ok N → (∀ q ∈ l, okPk q) → (packsF c l).2.Ok (N + l.length) := by
  induction l with
  | nil => intro N c h _; exact h
  | cons q l ih =>
    intro N c h hq
    unfold packsF
    split
    · exact h.mono (by omega)
    · have h1 := hq q (by simp)
      have := ih (packF_ok (q := q) h h1.2.1 h1.2.2.1) fun x hx => hq x (by simp [hx])
      exact this.mono (by simp; omega)
theorem recvF_ok {N : Nat} {c : Cl} (h : c.Ok N) (chunk : List UInt8) : (recvF c chunk).2.Ok (N + 1088 + chunk.length) := by
  unfold recvF
  split
  · exact h.mono (by omega)
  · have h1 : ({ c with kept := (feed (c.kept ++ chunk)).2.1 } : Cl).Ok N := ⟨h.no, h.wi, h.pa, h.bl, h.bs, h.rp, h.rl, h.is, h.tk, h.ev, h.el, h.wt, feed_lt _⟩
    have h2 := packsF_ok (feed (c.kept ++ chunk)).1 h1 (feed_all _).2
    have h3 := (feed_cnt (c.kept ++ chunk)).1
    have h4 := h.kp
    rw [List.length_append] at h3
    exact h2.mono (by omega)
theorem connF_ok {N : Nat} {c : Cl} (h : c.Ok N) : (connF c).2.2.Ok N := by
  unfold connF
  split
  · exact h
  · split
    · exact h
    · exact ⟨h.no, h.wi, h.pa, h.bl, h.bs, h.rp, h.rl, h.is, h.tk, h.ev, h.el, Nat.zero_le _, h.kp⟩
theorem cutF_ok {N : Nat} {c : Cl} (h : c.Ok N) : (cutF c).2.Ok N := by
  unfold cutF
  split
  · exact h
  · exact ⟨h.no, h.wi, h.pa, h.bl, h.bs, h.rp, h.rl, h.is, h.tk, h.ev, h.el, h.wt, (by simp)⟩
theorem tickF_ok {N : Nat} {c : Cl} (h : c.Ok N) (n : Int) : (tickF c n).2.Ok N := by
  unfold tickF
  split
  · exact h
  · split
    · exact ⟨h.no, h.wi, h.pa, h.bl, h.bs, h.rp, h.rl, h.is, h.tk, h.ev, h.el, by dsimp only; omega, h.kp⟩
    · exact ⟨h.no, h.wi, h.pa, h.bl, h.bs, h.rp, h.rl, h.is, h.tk, h.ev, h.el, Nat.zero_le _, h.kp⟩
theorem issueF_ok {N : Nat} {c : Cl} (h : c.Ok N) {good : Bool} {body : List UInt8} (hb : good = true → body.length ≤ 1024) : (issueF c good body).2.2.2.Ok (N + 1) := by
  unfold issueF
  split
  · exact h.mono (by omega)
  · split
    · exact h.mono (by omega)
    · split
      · exact h.mono (by omega)
      · rename_i h1 _ _
        exact issue_ok h (hb (by simpa using h1))
theorem Dd.good_len {d : Dd} (h : d.good = true) : d.bodyC.length ≤ 1024 := (d.good_iff.1 h).2.2.2.2
theorem actF_ok {N : Nat} {c : Cl} (h : c.Ok N) (d : Dd) : (actF c d).2.Ok (N + d.bb.length + 4000) := by
  have hc := d.chunk_len
  unfold actF
  split
  · exact (issueF_ok h fun e => d.good_len e).mono (by omega)
  · split
    · exact (connF_ok h).mono (by omega)
    · split
      · exact (cutF_ok h).mono (by omega)
      · split
        · exact (recvF_ok h _).mono (by omega)
        · split
          · exact (tickF_ok h _).mono (by omega)
          · exact h.mono (by omega)
/-- only packets change what a client keeps of replies and events -/
theorem actF_reps {c : Cl} {d : Dd} (h : ¬ (4 ≤ d.K.tmod 10 ∧ d.K.tmod 10 ≤ 7)) : (actF c d).2.reps = c.reps ∧ (actF c d).2.evs = c.evs := by
  unfold actF
  split
  · unfold issueF
    repeat' split
    all_goals exact ⟨rfl, rfl⟩
  · split
    · unfold connF
      repeat' split
      all_goals exact ⟨rfl, rfl⟩
    · split
      · unfold cutF
        repeat' split
        all_goals exact ⟨rfl, rfl⟩
      · split
        · unfold tickF
          repeat' split
          all_goals exact ⟨rfl, rfl⟩
        · exact ⟨rfl, rfl⟩
theorem actF_short {c : Cl} (h : c.Short) (d : Dd) : (actF c d).2.Short := by
  by_cases hk : 4 ≤ d.K.tmod 10 ∧ d.K.tmod 10 ≤ 7
  · unfold actF
    rw [if_neg (by omega), if_neg (by omega), if_neg (by omega), if_pos hk]
    exact recvF_short _ h
  · obtain ⟨h1, h2⟩ := actF_reps (c := c) hk
    exact ⟨by rw [h1]; exact h.1, by rw [h2]; exact h.2⟩
theorem packF_grows (c : Cl) (q : Pk) : ∃ l, (packF c q).2.reps = c.reps ++ l := by
  unfold packF
  split
  · refine ⟨[], ?_⟩
    unfold welF
    repeat' split
    all_goals simp
  · split
    · unfold repF
      split
      · exact ⟨[], by simp⟩
      · cases getG q.body with
        | none => exact ⟨[], by simp⟩
        | some r => exact ⟨[r], rfl⟩
    · split
      · refine ⟨[], ?_⟩
        unfold evtF
        split
        · simp
        · cases getG q.body with
          | none => simp
          | some r => simp
      · split
        · refine ⟨[], ?_⟩
          unfold refF
          split <;> simp
        · exact ⟨[], by simp⟩
theorem packsF_grows (l : List Pk) : ∀ (c : Cl), ∃ r, (packsF c l).2.reps = c.reps ++ r := by
  induction l with
  | nil => intro c; exact ⟨[], by simp [packsF]⟩
  | cons q l ih =>
    intro c
    unfold packsF
    split
    · exact ⟨[], by simp⟩
    · obtain ⟨r1, h1⟩ := packF_grows c q
      obtain ⟨r2, h2⟩ := ih (packF c q).2
      exact ⟨r1 ++ r2, by rw [h2, h1, List.append_assoc]⟩
theorem recvF_grows (c : Cl) (chunk : List UInt8) : ∃ r, (recvF c chunk).2.reps = c.reps ++ r := by
  unfold recvF
  split
  · exact ⟨[], by simp⟩
  · exact packsF_grows _ _
theorem actF_grows (c : Cl) (d : Dd) : ∃ r, (actF c d).2.reps = c.reps ++ r := by
  by_cases hk : 4 ≤ d.K.tmod 10 ∧ d.K.tmod 10 ≤ 7
  · unfold actF
    rw [if_neg (by omega), if_neg (by omega), if_neg (by omega), if_pos hk]
    exact recvF_grows _ _
  · exact ⟨[], by rw [(actF_reps (c := c) hk).1]; simp⟩
/-! ## what a reader keeps -/
theorem packF_kept (c : Cl) (q : Pk) : (packF c q).2.kept = c.kept ∧ (packF c q).2.conn = c.conn := by
  unfold packF
  split
  · unfold welF
    repeat' split
    all_goals exact ⟨rfl, rfl⟩
  · split
    · unfold repF
      split
      · exact ⟨rfl, rfl⟩
      · cases getG q.body with
        | none => exact ⟨rfl, rfl⟩
        | some r => exact ⟨rfl, rfl⟩
    · split
      · unfold evtF
        split
        · exact ⟨rfl, rfl⟩
        · cases getG q.body with
          | none => exact ⟨rfl, rfl⟩
          | some r => exact ⟨rfl, rfl⟩
      · split
        · unfold refF
          split <;> exact ⟨rfl, rfl⟩
        · exact ⟨rfl, rfl⟩
theorem packsF_kept (l : List Pk) : ∀ (c : Cl), (packsF c l).2.kept = c.kept ∧ (packsF c l).2.conn = c.conn := by
  induction l with
  | nil => intro c; exact ⟨rfl, rfl⟩
  | cons q l ih =>
    intro c
    unfold packsF
    split
    · exact ⟨rfl, rfl⟩
    · have h1 := packF_kept c q
      have h2 := ih (packF c q).2
      exact ⟨h2.1.trans h1.1, h2.2.trans h1.2⟩
theorem recvF_kept (c : Cl) (chunk : List UInt8) : (recvF c chunk).2.conn = c.conn ∧ (recvF c chunk).2.kept = if c.conn = false then c.kept else (feed (c.kept ++ chunk)).2.1 := by
  unfold recvF
  split
  · exact ⟨rfl, rfl⟩
  · have := packsF_kept (feed (c.kept ++ chunk)).1 { c with kept := (feed (c.kept ++ chunk)).2.1 }
    exact ⟨this.2, this.1⟩
/-- the packet of a deed -/
def Dd.pk (d : Dd) : Pk := ⟨d.k.toNat, d.t, d.s, d.a, d.body⟩
theorem Dd.pk_k {d : Dd} (h : mayB d.k d.body.length = true) : ((d.pk.kind : Nat) : Int) = d.k := by
  have := (mayB_no h).1
  show ((d.k.toNat : Nat) : Int) = d.k
  omega
theorem Dd.pk_ok {d : Dd} {w : World} (hd : d.In w) (h : mayB d.k d.body.length = true) : okPk d.pk := ⟨by rw [Dd.pk_k h]; exact h, hd.t, hd.s, hd.a⟩
theorem Dd.chunk_pk {d : Dd} (hb : d.bb = []) (h5 : d.K.tmod 10 ≠ 5) (h : mayB d.k d.body.length = true) : d.chunk = frm d.pk := by
  unfold Dd.chunk chunkB frm
  rw [if_neg (by rw [h]; simp [h5]), hb, List.append_nil, Dd.pk_k h]
  rfl
theorem Dd.chunk_no {d : Dd} (hb : d.bb = []) (h : d.K.tmod 10 = 5 ∨ mayB d.k d.body.length = false) : d.chunk = [] := by
  unfold Dd.chunk chunkB
  rw [if_pos h, hb]
/-- are there bytes that are not a frame? -/
def rawF (raw : Bool) (d : Dd) : Bool := (if d.K.tmod 10 = 3 then false else raw) || decide (d.K.tmod 10 = 5) || decide (0 < d.bb.length)
/-- nothing waits where all that came were frames, and where there is no connection -/
def Clean (raw : Bool) (c : Cl) : Prop := (raw = false ∨ c.conn = false) → c.kept = []
theorem rawF_no {raw : Bool} {d : Dd} (h : rawF raw d = false) : (d.K.tmod 10 = 3 ∨ raw = false) ∧ d.K.tmod 10 ≠ 5 ∧ d.bb = [] := by
  simp only [rawF, Bool.or_eq_false_iff, decide_eq_false_iff_not] at h
  obtain ⟨⟨h1, h2⟩, h3⟩ := h
  refine ⟨?_, h2, List.length_eq_zero_iff.1 (by omega)⟩
  by_cases h4 : d.K.tmod 10 = 3
  · exact .inl h4
  · rw [if_neg h4] at h1; exact .inr h1
theorem clean_act {raw : Bool} {c : Cl} {d : Dd} {w : World} (hd : d.In w) (h : Clean raw c) : Clean (rawF raw d) (actF c d).2 := by
  by_cases hk : 4 ≤ d.K.tmod 10 ∧ d.K.tmod 10 ≤ 7
  · have e : actF c d = recvF c d.chunk := by
      unfold actF
      rw [if_neg (by omega), if_neg (by omega), if_neg (by omega), if_pos hk]
    rw [e]
    obtain ⟨h1, h2⟩ := recvF_kept c d.chunk
    intro hr
    rw [h1] at hr
    rw [h2]
    by_cases hc : c.conn = false
    · rw [if_pos hc]; exact h (.inr hc)
    · rw [if_neg hc]
      have hr2 : rawF raw d = false := by
        rcases hr with hr | hr
        · exact hr
        · exact absurd hr hc
      obtain ⟨g1, g2, g3⟩ := rawF_no hr2
      have hkp : c.kept = [] := h (.inl (by rcases g1 with g1 | g1; omega; exact g1))
      rw [hkp, List.nil_append]
      cases hm : mayB d.k d.body.length with
      | true => rw [Dd.chunk_pk g3 g2 hm, feed_frame (Dd.pk_ok hd hm)]
      | false => rw [Dd.chunk_no g3 (.inr hm), feed_nil]
  · intro hr
    have hraw : rawF raw d = false → raw = false ∨ d.K.tmod 10 = 3 := fun e => (rawF_no e).1.symm
    have key : d.K.tmod 10 ≠ 3 → (actF c d).2.kept = c.kept ∧ ((actF c d).2.conn = false → c.conn = false) := by
      intro h3
      unfold actF
      split
      · unfold issueF
        repeat' split
        all_goals exact ⟨rfl, fun e => e⟩
      · split
        · unfold connF
          split
          · exact ⟨rfl, fun e => e⟩
          · split
            · exact ⟨rfl, fun e => e⟩
            · exact ⟨rfl, fun e => by cases e⟩
        · split
          · unfold tickF
            repeat' split
            all_goals exact ⟨rfl, fun e => e⟩
          · exact ⟨rfl, fun e => e⟩
    by_cases h3 : d.K.tmod 10 = 3
    · unfold actF
      rw [if_neg (by omega), if_neg (by omega), if_pos h3]
      unfold cutF
      split
      · rename_i hc; exact h (.inr hc)
      · rfl
    · obtain ⟨k1, k2⟩ := key h3
      rw [k1]
      refine h ?_
      rcases hr with hr | hr
      · rcases hraw hr with e | e
        · exact .inl e
        · exact absurd e h3
      · exact .inr (k2 hr)
/-- what a new reply was -/
theorem once_new {raw : Bool} {c : Cl} {d : Dd} {w : World} (hd : d.In w) (h : Clean raw c) (hr : rawF raw d = false) (hk : 4 ≤ d.K.tmod 10 ∧ d.K.tmod 10 ≤ 7) (hl : (actF c d).2.reps.length = c.reps.length + 1) (h4 : d.k = 4) :
    goodG d.body ∧ d.s = (actF c d).2.rep ∧ d.t = (actF c d).2.tok ∧ (actF c d).2.reps = c.reps ++ [repG d.body] := by
  have e : actF c d = recvF c d.chunk := by
    unfold actF
    rw [if_neg (by omega), if_neg (by omega), if_neg (by omega), if_pos hk]
  rw [e] at hl ⊢
  obtain ⟨g1, g2, g3⟩ := rawF_no hr
  have hkp : c.kept = [] := h (.inl (by rcases g1 with g1 | g1; omega; exact g1))
  unfold recvF at hl ⊢
  by_cases hc : c.conn = false
  · rw [if_pos hc] at hl; dsimp only at hl; omega
  · rw [if_neg hc] at hl ⊢
    rw [hkp, List.nil_append] at hl ⊢
    cases hm : mayB d.k d.body.length with
    | false =>
      rw [Dd.chunk_no g3 (.inr hm), feed_nil] at hl
      simp [packsF] at hl
    | true =>
      rw [Dd.chunk_pk g3 g2 hm, feed_frame (Dd.pk_ok hd hm)] at hl ⊢
      dsimp only at hl ⊢
      unfold packsF at hl ⊢
      by_cases ho : ({ c with kept := [] } : Cl).over = true
      · rw [if_pos ho] at hl; dsimp only at hl; omega
      · rw [if_neg ho] at hl ⊢
        unfold packsF at hl ⊢
        dsimp only at hl ⊢
        have hkk : d.pk.kind = 4 := by show d.k.toNat = 4; omega
        unfold packF at hl ⊢
        rw [if_neg (by omega), if_pos hkk] at hl ⊢
        unfold repF at hl ⊢
        split at hl
        · dsimp only at hl; omega
        · rename_i hn
          rw [if_neg hn]
          have hn2 : oursB { c with kept := [] } d.pk = true ∧ d.pk.seq = c.rep + 1 := by
            refine ⟨?_, ?_⟩
            · cases ho2 : oursB { c with kept := [] } d.pk with
              | true => rfl
              | false => exact absurd (.inl ho2) hn
            · exact Classical.byContradiction fun h9 => hn (.inr (.inl h9))
          by_cases hg : goodG d.body
          · have hgy : getG d.pk.body = some (repG d.body) := getG_yes hg
            rw [hgy]
            refine ⟨hg, hn2.2, ?_, rfl⟩
            have := hn2.1
            simp only [oursB, Bool.and_eq_true, decide_eq_true_eq] at this
            exact this.2
          · have hgn : getG d.pk.body = none := getG_no hg
            rw [hgn] at hl
            dsimp only at hl
            omega
end Go.Proofs.Ytjhkfpemcplaaaa
namespace Go.Proofs.Ytjhkfpemcplaaaa
open Go.RowKit

/-- a store into a row -/
theorem own_setN {w : World} {base g j : Nat} {e : TypeId} {size n : Nat} {v : Value} {xs : List Value} (h : w.ownsRow base e size v n xs) (hg : v.ownBlock = some g) (u : Value) : (w.setCell ⟨g, j, none⟩ u).ownsRow base e size v n (xs.set j u) := by
  refine ⟨by rw [List.length_set]; exact h.1, ?_⟩
  rcases h.2 with ⟨rfl, _⟩ | ⟨g', cap, cur, rfl, hb, hgg, hn, hm, hc, ht⟩
  · simp [Value.ownBlock] at hg
  · have : g' = g := by simpa [Value.ownBlock] using hg
    subst this
    refine .inr ⟨g', cap, cur.setIfInBounds j u, rfl, hb, ?_, hn, hm, by simp [hc], ?_⟩
    · simp [World.setCell, Array.getElem?_modify, hgg]
    · rw [← ht]
      simp [List.take_set]
/-- ClientFresh on its way: the client, and blocks that are kept as they were -/
structure FrS (w0 : World) (g : Nat) (p : Pa) (c : Cl) (m : Nat) (B : Nat → Prop) (wB w : World) : Prop where
  ca : CA w0.heap.size w p c
  gp : p.g = g
  old : Below w0.heap.size w0 w
  d : p.d ≤ (m : Int)
  kb : ∀ k, B k → k < w.heap.size ∧ ¬ CF p k ∧ w.heap[k]? = wB.heap[k]?
section
variable {w0 w w' wB : World} {g m k : Nat} {p p' : Pa} {c c' : Cl} {B B' F : Nat → Prop}
theorem FrS.below (h : FrS w0 g p c m B wB w) (hb : Below w.heap.size w w') : FrS w0 g p c m B wB w' :=
  ⟨h.ca.below hb, h.gp, h.old.trans (hb.mono h.old.size), h.d, fun k hk => by
    obtain ⟨h1, h2, h3⟩ := h.kb k hk
    have := hb.size
    exact ⟨by omega, h2, (hb.block k h1).trans h3⟩⟩
theorem FrS.step (h : FrS w0 g p c m B wB w) (s : Stp w0.heap.size w p k c' p' w') : FrS w0 g p' c' (m + k) B wB w' :=
  ⟨s.ca, s.g.trans h.gp, h.old.trans (s.chg.below h.old.size fun i hi hc => by have := (h.ca.lt hc).1; omega), by have := s.d; have := h.d; omega,
   fun x e => by
    obtain ⟨h1, h2, h3⟩ := h.kb x e
    have := s.chg.size
    refine ⟨by omega, fun hc => ?_, (s.chg.block x h1 h2).trans h3⟩
    rcases s.sub _ hc with h4 | h4
    · exact h2 h4
    · omega⟩
/-- kept from here on -/
theorem FrS.keep (h : FrS w0 g p c m B wB w) (hB : ∀ k, B' k → k < w.heap.size ∧ ¬ CF p k) : FrS w0 g p c m B' w w := ⟨h.ca, h.gp, h.old, h.d, fun k hk => ⟨(hB k hk).1, (hB k hk).2, rfl⟩⟩
theorem FrS.less (h : FrS w0 g p c m B wB w) (hB : ∀ k, B' k → B k) : FrS w0 g p c m B' wB w := ⟨h.ca, h.gp, h.old, h.d, fun k hk => h.kb k (hB k hk)⟩
theorem FrS.more (h : FrS w0 g p c m B wB w) {n : Nat} (hn : m ≤ n) : FrS w0 g p c n B wB w := ⟨h.ca, h.gp, h.old, by have := h.d; omega, h.kb⟩
/-- blocks changed that are none of the client's and none of the kept ones -/
theorem FrS.chg (h : FrS w0 g p c m B wB w) (hc : Chg F w w') (h1 : ∀ k, F k → w0.heap.size ≤ k ∧ ¬ CF p k ∧ ¬ B k) : FrS w0 g p c m B wB w' :=
  ⟨h.ca.chg hc fun k hk hf => (h1 k hf).2.1 hk, h.gp, h.old.trans (hc.below h.old.size fun i hi hf => by have := (h1 i hf).1; omega), h.d, fun k hk => by
    obtain ⟨a, b, d⟩ := h.kb k hk
    have := hc.size
    exact ⟨by omega, b, (hc.block k a fun hf => (h1 k hf).2.2 hk).trans d⟩⟩
theorem FrS.row (h : FrS w0 g p c m B wB w) {base : Nat} {e : TypeId} {size n : Nat} {v : Value} {xs : List Value} (ho : wB.ownsRow base e size v n xs) (hB : ∀ k, v.ownBlock = some k → B k) : w.ownsRow base e size v n xs := own_same ho fun k hk => (h.kb k (hB k hk)).2.2
theorem FrS.blk (h : FrS w0 g p c m B wB w) {b : Nat} {t : TypeId} {cs : Array Value} (hb : Blk wB b t cs) (hB : B b) : Blk w b t cs := ((h.kb b hB).2.2).trans hb
theorem FrS.rowK {α : Type} {K : Kd α} {base : Nat} {v : Value} {l : List (QX α)} (h : FrS w0 g p c m B wB w) (ho : RowK K base wB v l) (hB : ∀ k, (v.ownBlock = some k ∨ K.inB l k) → B k) : RowK K base w v l := ho.keep fun k hk => (h.kb k (hB k hk)).2.2
end
/-- what a Put hands over -/
def PutX (w : World) (good : Bool) (bs : List UInt8) (e : Ending) (w' : World) : Prop := ∃ A n c, e = .returned (.tuple #[.slice A n c, .bool good]) ∧ (good = true → n = bs.length ∧ OwnB 5 w' w.heap.size (.slice A n c) bs) ∧ Below w.heap.size w w'
theorem putX_of {w : World} {P : Prop} {bs : List UInt8} {good : Bool} (hg : good = true ↔ P) {e : Ending} {w' : World} (h : RPutPost w P bs e w') : PutX w good bs e w' := by
  obtain ⟨hb, h | ⟨h1, A2, n2, c2, he⟩⟩ := h
  · obtain ⟨h1, v, he, ho⟩ := h
    obtain ⟨A2, c2, rfl, _, _⟩ := own_formL ho
    rw [← hg] at h1
    subst h1
    exact ⟨A2, _, c2, he, fun _ => ⟨rfl, ho⟩, hb⟩
  · have : good = false := by cases good with
      | true => exact absurd (hg.1 rfl) h1
      | false => rfl
    subst this
    exact ⟨A2, n2, c2, he, (fun e => by cases e), hb⟩
theorem good_of (P : Prop) : ∃ g : Bool, g = true ↔ P := by
  by_cases h : P
  · exact ⟨true, fun _ => h, fun _ => rfl⟩
  · exact ⟨false, (fun e => by cases e), fun e => absurd e h⟩
end Go.Proofs.Ytjhkfpemcplaaaa
namespace Go.Proofs.Ytjhkfpemcplaaaa
open Go.RowKit

set_option maxRecDepth 20000 in
theorem mayc_any (nonce : Nat) (win pat : Int) (w : World) : Calls Try.prog 11 #[.int .u64 (nonce : Int), .int .i64 win, .int .i64 pat] w fun e w' => e = .returned (.bool (mayCl nonce win pat)) ∧ w = w' := by
  by_cases h : 1 ≤ nonce ∧ 1 ≤ win ∧ win ≤ 16 ∧ 1 ≤ pat ∧ pat ≤ 1000
  · have e : mayCl nonce win pat = true := by simp [mayCl, h]
    obtain ⟨h1, h2, h3, h4, h5⟩ := h
    have d1 : ((nonce : Int) != 0) = true := by simp; omega
    rw [e]
    clear e h1
    go_enter Try.func11, Try.ntmps11
    go_wp2
    go_ret
    exact ⟨rfl, rfl⟩
  · have e : mayCl nonce win pat = false := by
      cases h9 : mayCl nonce win pat with
      | false => rfl
      | true => simp [mayCl] at h9; omega
    rw [e]
    have h2 : nonce = 0 ∨ (1 ≤ nonce ∧ win < 1) ∨ (1 ≤ nonce ∧ 1 ≤ win ∧ 16 < win) ∨ (1 ≤ nonce ∧ 1 ≤ win ∧ win ≤ 16 ∧ pat < 1) ∨ (1 ≤ nonce ∧ 1 ≤ win ∧ win ≤ 16 ∧ 1 ≤ pat ∧ 1000 < pat) := by omega
    clear h e
    rcases h2 with rfl | ⟨h1, h2⟩ | ⟨h1, h2, h3⟩ | ⟨h1, h2, h3, h4⟩ | ⟨h1, h2, h3, h4, h5⟩
    · go_enter Try.func11, Try.ntmps11
      go_wp2
      go_ret
      exact ⟨rfl, rfl⟩
    all_goals
      have d1 : ((nonce : Int) != 0) = true := by simp; omega
      try (have d5 : decide (pat ≤ 1000) = false := by simp; omega)
      clear h1
      go_enter Try.func11, Try.ntmps11
      go_wp2
      go_ret
      first | exact ⟨rfl, rfl⟩ | (refine ⟨?_, rfl⟩; simp; omega)
set_option maxRecDepth 20000 in
set_option maxHeartbeats 4000000 in
theorem sameF_any {b1 b2 : Nat} {v1 v2 : Value} {l1 l2 : List (QX (List UInt8))} {w : World} (h1 : RowK kB b1 w v1 l1) (h2 : RowK kB b2 w v2 l2) (he : l1.map (·.1) = l2.map (·.1)) :
    Calls Try.prog 65 #[v1, v2] w fun e w' => e = .returned (.bool true) ∧ Below w.heap.size w w' := by
  have HA := Lib.hid h1
  have HB := Lib.hid h2
  have HE := Lib.hid he
  have hl : l2.length = l1.length := by have := congrArg List.length he; simpa using this.symm
  obtain ⟨A1, c1, rfl, n1, n2⟩ := h1.form
  have n3 : l1.length ≤ 9223372036854775807 := by simp only [maxLen] at n2; omega
  clear n1 n2
  obtain ⟨A2, c2, rfl, _, _⟩ := h2.form
  rw [hl] at HB ⊢
  clear h1 h2 he
  go_enter Try.func65, Try.ntmps65
  go_wp2
  go_loopw [5] (fun V wr => ∃ i : Nat, i ≤ l1.length ∧ V = .int .i64 (i : Int) ∧ Below w.heap.size w wr) (fun V _ => l1.length - (intOf V).toNat)
  case atStart => exact ⟨0, Nat.zero_le _, rfl, Below.refl _ _⟩
  case round =>
    obtain ⟨i, hi9, rfl, hbr⟩ := hrel
    by_cases hlt : i < l1.length
    · obtain ⟨q1, hq1⟩ : ∃ q, l1[i]? = some q := ⟨_, List.getElem?_eq_getElem hlt⟩
      obtain ⟨q2, hq2⟩ : ∃ q, l2[i]? = some q := ⟨_, List.getElem?_eq_getElem (by omega)⟩
      have hqq : q2.1 = q1.1 := by
        have h3 := congrArg (fun l => l[i]?) HE.out
        simp only [List.getElem?_map, hq1, hq2, Option.map_some, Option.some.injEq] at h3
        exact h3.symm
      have r1 := HA.out.below hbr
      have r2 : RowK kB b2 wr (.slice A2 l2.length c2) l2 := by have := HB.out.below hbr; rw [hl]; exact this
      obtain ⟨g1, d1, e1, _, _, k1⟩ := r1.at_ kB_len hq1
      obtain ⟨g2, d2, e2, _, _, k2⟩ := r2.at_ kB_len hq2
      injection e1 with ea _ ec
      injection e2 with eb _ ed
      subst ea eb ec ed
      have x1 : wr.cell? ⟨g1, i, none⟩ = some (.slice q1.2.1 q1.1.length q1.2.2) := by
        have := k1 0 _ rfl
        simpa [kB, Kd.val] using this
      have x2 : wr.cell? ⟨g2, i, none⟩ = some (.slice q2.2.1 q1.1.length q2.2.2) := by
        have := k2 0 _ rfl
        rw [← hqq]
        simpa [kB, Kd.val] using this
      have o1 : RdB wr wr.heap.size q1.2.1 q1.1.length q1.1 := OwnB.reads (e := 5) (c := q1.2.2) (r1.els q1 (List.mem_of_getElem? hq1)) rfl
      have o2 : RdB wr wr.heap.size q2.2.1 q1.1.length q1.1 := by
        have := OwnB.reads (e := 5) (c := q2.2.2) (r2.els q2 (List.mem_of_getElem? hq2)) rfl
        rw [hqq] at this
        exact this
      have y1 : (convert 37 9 (.slice q1.2.1 q1.1.length q1.2.2)).run Try.prog wr.drew = .ok (.string ⟨q1.1.toArray⟩) wr.drew := run_string_of _ 37 9 5 (o1.below (Below.refl _ _).drew) Try.underlying37 Try.underlying5 Try.underlying9
      have y2 : (convert 37 9 (.slice q2.2.1 q1.1.length q2.2.2)).run Try.prog wr.drew = .ok (.string ⟨q1.1.toArray⟩) wr.drew := run_string_of _ 37 9 5 (o2.below (Below.refl _ _).drew) Try.underlying37 Try.underlying5 Try.underlying9
      have l3 : (0 : Int) ≤ (i : Int) := by omega
      have l4 : (i : Int) < (l1.length : Int) := by omega
      have HBR := Lib.hid hbr
      have HLT := Lib.hid hlt
      clear k1 k2 r1 r2 o1 o2 hq1 hq2 hbr
      go_upto_region 6 with fail
      go_region_held3 (fun W => W.cell? ⟨g1, i, none⟩ = some (.slice q1.2.1 q1.1.length q1.2.2) ∧ W.cell? ⟨g2, i, none⟩ = some (.slice q2.2.1 q1.1.length q2.2.2) ∧ (convert 37 9 (.slice q1.2.1 q1.1.length q1.2.2)).run Try.prog W = .ok (.string ⟨q1.1.toArray⟩) W ∧ (convert 37 9 (.slice q2.2.1 q1.1.length q2.2.2)).run Try.prog W = .ok (.string ⟨q1.1.toArray⟩) W)
        (go_keep)
        (fail)
      all_goals
        go_wp2
        go_roundw
        case rel => exact ⟨i + 1, HLT.out, by go_num, HBR.out.drew⟩
        case measure => have := HLT.out; simp [intOf]; omega
    · obtain rfl : i = l1.length := by omega
      go_wp2
      go_ret
      exact ⟨rfl, hbr⟩
end Go.Proofs.Ytjhkfpemcplaaaa
namespace Go.Proofs.Ytjhkfpemcplaaaa
open Go.RowKit

set_option maxRecDepth 20000 in
set_option maxHeartbeats 4000000 in
theorem sameR_any {b1 b2 : Nat} {v1 v2 : Value} {l1 l2 : List (QX (Rp))} {w : World} (h1 : RowK kR b1 w v1 l1) (h2 : RowK kR b2 w v2 l2) (he : l1.map (·.1) = l2.map (·.1)) :
    Calls Try.prog 30 #[v1, v2] w fun e w' => e = .returned (.bool true) ∧ Below w.heap.size w w' := by
  have HA := Lib.hid h1
  have HB := Lib.hid h2
  have HE := Lib.hid he
  have hl : l2.length = l1.length := by have := congrArg List.length he; simpa using this.symm
  obtain ⟨A1, c1, rfl, n1, n2⟩ := h1.form
  have n3 : l1.length ≤ 9223372036854775807 := by simp only [maxLen] at n2; omega
  clear n1 n2
  obtain ⟨A2, c2, rfl, _, _⟩ := h2.form
  rw [hl] at HB ⊢
  clear h1 h2 he
  go_enter Try.func30, Try.ntmps30
  go_wp2
  go_loopw [5] (fun V wr => ∃ i : Nat, i ≤ l1.length ∧ V = .int .i64 (i : Int) ∧ Below w.heap.size w wr) (fun V _ => l1.length - (intOf V).toNat)
  case atStart => exact ⟨0, Nat.zero_le _, rfl, Below.refl _ _⟩
  case round =>
    obtain ⟨i, hi9, rfl, hbr⟩ := hrel
    by_cases hlt : i < l1.length
    · obtain ⟨q1, hq1⟩ : ∃ q, l1[i]? = some q := ⟨_, List.getElem?_eq_getElem hlt⟩
      obtain ⟨q2, hq2⟩ : ∃ q, l2[i]? = some q := ⟨_, List.getElem?_eq_getElem (by omega)⟩
      have hqq : q2.1 = q1.1 := by
        have h3 := congrArg (fun l => l[i]?) HE.out
        simp only [List.getElem?_map, hq1, hq2, Option.map_some, Option.some.injEq] at h3
        exact h3.symm
      have r1 := HA.out.below hbr
      have r2 : RowK kR b2 wr (.slice A2 l2.length c2) l2 := by have := HB.out.below hbr; rw [hl]; exact this
      obtain ⟨g1, d1, e1, _, m1, k1⟩ := r1.at_ kR_len hq1
      obtain ⟨g2, d2, e2, _, m2, k2⟩ := r2.at_ kR_len hq2
      injection e1 with ea _ ec
      injection e2 with eb _ ed
      subst ea eb ec ed
      have HQ1 := Lib.hid (r1.els q1 (List.mem_of_getElem? hq1))
      have HQ2 := Lib.hid (r2.els q2 (List.mem_of_getElem? hq2))
      obtain ⟨⟨er, vs, tx⟩, Aq, cq⟩ := q1
      obtain ⟨rp2, Aq2, cq2⟩ := q2
      dsimp only at hqq
      subst hqq
      have x1 : wr.cell? ⟨g1, i * 3, none⟩ = some (.int .i64 er) := k1 0 _ rfl
      have x2 : wr.cell? ⟨g1, i * 3 + 1, none⟩ = some (.slice Aq vs.length cq) := k1 1 _ rfl
      have x3 : wr.cell? ⟨g1, i * 3 + 2, none⟩ = some (.string ⟨tx.toArray⟩) := k1 2 _ rfl
      have z1 : wr.cell? ⟨g2, i * 3, none⟩ = some (.int .i64 er) := k2 0 _ rfl
      have z2 : wr.cell? ⟨g2, i * 3 + 1, none⟩ = some (.slice Aq2 vs.length cq2) := k2 1 _ rfl
      have z3 : wr.cell? ⟨g2, i * 3 + 2, none⟩ = some (.string ⟨tx.toArray⟩) := k2 2 _ rfl
      have HRA : Hid (Reads wr wr.heap.size 2 Aq vs.length (vcells vs)) := Lib.hid (Reads.of_own HQ1.out)
      have HRB : Hid (Reads wr wr.heap.size 2 Aq2 vs.length (vcells vs)) := Lib.hid (Reads.of_own HQ2.out)
      have HVL : Hid (vs.length ≤ 9223372036854775807) := Lib.hid (by
        obtain ⟨_, _, _, u1, u2⟩ := own_formL HQ1.out
        exact Nat.le_trans (show vs.length ≤ _ from u1) u2)
      have HSM : Hid (∀ w', Below wr.heap.size wr w' → Calls Try.prog 27 #[.agg #[.int .i64 er, .slice Aq vs.length cq, .string ⟨tx.toArray⟩], .agg #[.int .i64 er, .slice Aq2 vs.length cq2, .string ⟨tx.toArray⟩]] w' fun e w2 => e = .returned (.bool true) ∧ Below w'.heap.size w' w2) := Lib.hid fun w' hb => samer_any er Aq Aq2 vs.length cq cq2 ⟨tx.toArray⟩ vs w' ((HRA.out.below hb).more hb.size) ((HRB.out.below hb).more hb.size) HVL.out
      have x10 : ∀ w3, Below wr.heap.size wr w3 → w3.cell? ⟨g1, i * 3, none⟩ = some (.int .i64 er) ∧ w3.cell? ⟨g1, i * 3 + 1, none⟩ = some (.slice Aq vs.length cq) ∧ w3.cell? ⟨g1, i * 3 + 2, none⟩ = some (.string ⟨tx.toArray⟩) ∧ w3.cell? ⟨g2, i * 3, none⟩ = some (.int .i64 er) ∧ w3.cell? ⟨g2, i * 3 + 1, none⟩ = some (.slice Aq2 vs.length cq2) ∧ w3.cell? ⟨g2, i * 3 + 2, none⟩ = some (.string ⟨tx.toArray⟩) := fun w3 h => ⟨(h.cell (p := ⟨g1, i * 3, none⟩) m1).trans x1, (h.cell (p := ⟨g1, i * 3 + 1, none⟩) m1).trans x2, (h.cell (p := ⟨g1, i * 3 + 2, none⟩) m1).trans x3, (h.cell (p := ⟨g2, i * 3, none⟩) m2).trans z1, (h.cell (p := ⟨g2, i * 3 + 1, none⟩) m2).trans z2, (h.cell (p := ⟨g2, i * 3 + 2, none⟩) m2).trans z3⟩
      have l3 : (0 : Int) ≤ (i : Int) := by omega
      have l4 : (i : Int) < (l1.length : Int) := by omega
      have HBR := Lib.hid hbr
      have hws := hbr.size
      have HLT := Lib.hid hlt
      clear k1 k2 r1 r2 hq1 hq2 hbr
      go_upto_region 6 with fail
      clear x1 x2 x3 z1 z2 z3
      refine wp_region_held_drew (S := fun W => W.cell? ⟨g1, i * 3, none⟩ = some (.int .i64 er) ∧ W.cell? ⟨g1, i * 3 + 1, none⟩ = some (.slice Aq vs.length cq) ∧ W.cell? ⟨g1, i * 3 + 2, none⟩ = some (.string ⟨tx.toArray⟩) ∧ W.cell? ⟨g2, i * 3, none⟩ = some (.int .i64 er) ∧ W.cell? ⟨g2, i * 3 + 1, none⟩ = some (.slice Aq2 vs.length cq2) ∧ W.cell? ⟨g2, i * 3 + 2, none⟩ = some (.string ⟨tx.toArray⟩)) (by kernel_rfl) (x10 _ (Below.refl _ _).drew) (fun hHeld => ?_)
      refine wpAnyH_take (i := 0) (v := ?_) (by simp only [List.getElem?_toArray, List.getElem?_cons_zero]; rfl) (by kernel_rfl) (by kernel_rfl) (by kernel_rfl) (by exact fun _ _ _ h => h) (Or.inl ⟨by rfl, ?_⟩) (by assumption) ?_
      rotate_left
      · intro w hSw; (try dsimp only at hSw); go_split_ands; go_simp <;> with_reducible rfl
      try simp only [Act.put, List.setIfInBounds_toArray, List.set_cons_zero, List.set_cons_succ]
      refine wpAnyH_take (i := 1) (v := ?_) (by simp only [List.getElem?_toArray, List.getElem?_cons_succ, List.getElem?_cons_zero]; rfl) (by kernel_rfl) (by kernel_rfl) (by kernel_rfl) (by exact fun _ _ _ h => h) (Or.inl ⟨by rfl, ?_⟩) (by assumption) ?_
      rotate_left
      · intro w hSw; (try dsimp only at hSw); go_split_ands; go_simp <;> with_reducible rfl
      try simp only [Act.put, List.setIfInBounds_toArray, List.set_cons_zero, List.set_cons_succ]
      refine wpAnyH_take (i := 2) (v := ?_) (by simp only [List.getElem?_toArray, List.getElem?_cons_succ, List.getElem?_cons_zero]; rfl) (by kernel_rfl) (by kernel_rfl) (by kernel_rfl) (by exact fun _ _ _ h => h) (Or.inl ⟨by rfl, ?_⟩) (by assumption) ?_
      rotate_left
      · intro w hSw; (try dsimp only at hSw); go_split_ands; go_simp <;> with_reducible rfl
      try simp only [Act.put, List.setIfInBounds_toArray, List.set_cons_zero, List.set_cons_succ]
      refine wpAnyH_take (i := 3) (v := ?_) (by simp only [List.getElem?_toArray, List.getElem?_cons_succ, List.getElem?_cons_zero]; rfl) (by kernel_rfl) (by kernel_rfl) (by kernel_rfl) (by exact fun _ _ _ h => h) (Or.inl ⟨by rfl, ?_⟩) (by assumption) ?_
      rotate_left
      · intro w hSw; (try dsimp only at hSw); go_split_ands; go_simp <;> with_reducible rfl
      try simp only [Act.put, List.setIfInBounds_toArray, List.set_cons_zero, List.set_cons_succ]
      refine wpAnyH_take (i := 4) (v := ?_) (by simp only [List.getElem?_toArray, List.getElem?_cons_succ, List.getElem?_cons_zero]; rfl) (by kernel_rfl) (by kernel_rfl) (by kernel_rfl) (by exact fun _ _ _ h => h) (Or.inl ⟨by rfl, ?_⟩) (by assumption) ?_
      rotate_left
      · intro w hSw; (try dsimp only at hSw); go_split_ands; go_simp <;> with_reducible rfl
      try simp only [Act.put, List.setIfInBounds_toArray, List.set_cons_zero, List.set_cons_succ]
      refine wpAnyH_take (i := 5) (v := ?_) (by simp only [List.getElem?_toArray, List.getElem?_cons_succ, List.getElem?_cons_zero]; rfl) (by kernel_rfl) (by kernel_rfl) (by kernel_rfl) (by exact fun _ _ _ h => h) (Or.inl ⟨by rfl, ?_⟩) (by assumption) ?_
      rotate_left
      · intro w hSw; (try dsimp only at hSw); go_split_ands; go_simp <;> with_reducible rfl
      try simp only [Act.put, List.setIfInBounds_toArray, List.set_cons_zero, List.set_cons_succ]
      refine wpAnyH_take (i := 6) (v := ?_) (by simp only [List.getElem?_toArray, List.getElem?_cons_succ, List.getElem?_cons_zero]; rfl) (by kernel_rfl) (by kernel_rfl) (by kernel_rfl) (by exact fun _ _ _ h => h) (Or.inl ⟨by rfl, ?_⟩) (by assumption) ?_
      rotate_left
      · intro w hSw; (try dsimp only at hSw); go_split_ands; go_simp <;> with_reducible rfl
      try simp only [Act.put, List.setIfInBounds_toArray, List.set_cons_zero, List.set_cons_succ]
      refine wpAnyH_take (i := 7) (v := ?_) (by simp only [List.getElem?_toArray, List.getElem?_cons_succ, List.getElem?_cons_zero]; rfl) (by kernel_rfl) (by kernel_rfl) (by kernel_rfl) (by exact fun _ _ _ h => h) (Or.inl ⟨by rfl, ?_⟩) (by assumption) ?_
      rotate_left
      · intro w hSw; (try dsimp only at hSw); go_split_ands; go_simp <;> with_reducible rfl
      try simp only [Act.put, List.setIfInBounds_toArray, List.set_cons_zero, List.set_cons_succ]
      refine wpAnyH_ready (rs := [8]) (by kernel_rfl) (by simp) ?_
      refine AllReadyH.cons (by simp only [List.getElem?_toArray, List.getElem?_cons_succ, List.getElem?_cons_zero]; rfl) (fun K hK => ?_) AllReadyH.nil
      go_simp
      go_at_call 27
      refine (HSM.out _ (Below.refl _ _).drew).mono ?_
      rintro e w2 ⟨rfl, hb2⟩
      have HB2 : Hid (Below wr.heap.size wr w2) := Lib.hid ⟨hb2.os, hb2.tape, hb2.output, hb2.size, hb2.block⟩
      have hS3 := x10 w2 HB2.out
      clear hb2
      try go_simp
      refine hK.out _ _ (hS3) (fun hHeld => ?_)
      clear hK K
      try simp only [Act.put, List.setIfInBounds_toArray, List.set_cons_zero, List.set_cons_succ]
      refine wpAnyH_ready (rs := [9]) (by kernel_rfl) (by simp) ?_
      refine AllReadyH.cons (by simp only [List.getElem?_toArray, List.getElem?_cons_succ, List.getElem?_cons_zero]; rfl) (fun K hK => ?_) AllReadyH.nil
      go_simp
      refine hK.out _ _ (hHeld) (fun hHeld => ?_)
      clear hK K
      try simp only [Act.put, List.setIfInBounds_toArray, List.set_cons_zero, List.set_cons_succ]
      refine wpAnyH_done (by kernel_rfl) ?_ _
      go_wp2
      go_roundw
      case rel => exact ⟨i + 1, HLT.out, by go_num, HBR.out.trans (HB2.out.mono hws)⟩
      case measure => have := HLT.out; simp [intOf]; omega
    · obtain rfl : i = l1.length := by omega
      go_wp2
      go_ret
      exact ⟨rfl, hbr⟩
end Go.Proofs.Ytjhkfpemcplaaaa
namespace Go.Proofs.Ytjhkfpemcplaaaa
open Go.RowKit

def dCells (ds : List Dd) : List Value := ds.flatMap fun d => d.v.toList
theorem dv_len (d : Dd) : d.v.toList.length = 12 := rfl
theorem dCells_len (ds : List Dd) : (dCells ds).length = ds.length * 12 := by
  induction ds with
  | nil => rfl
  | cons d r ih => unfold dCells at *; rw [List.flatMap_cons, List.length_append, ih, dv_len, List.length_cons]; omega
theorem d_at : ∀ (ds : List Dd) (i : Nat) (d : Dd) (j : Nat), j < 12 → ds[i]? = some d → (dCells ds)[i * 12 + j]? = d.v.toList[j]? := by
  intro ds
  induction ds with
  | nil => intro i d j _ h; simp at h
  | cons x r ih =>
    intro i d j hj h
    unfold dCells at *
    rw [List.flatMap_cons]
    cases i with
    | zero =>
      simp only [List.getElem?_cons_zero, Option.some.injEq] at h
      subst h
      rw [Nat.zero_mul, Nat.zero_add, List.getElem?_append_left (by rw [dv_len]; exact hj)]
    | succ i =>
      rw [List.getElem?_cons_succ] at h
      rw [List.getElem?_append_right (by rw [dv_len, Nat.add_mul]; omega), dv_len]
      have : (i + 1) * 12 + j - 12 = i * 12 + j := by rw [Nat.add_mul]; omega
      rw [this]
      exact ih i d j hj h
/-- a slice of deeds that came in -/
structure DsIn (w : World) (A : Option Addr) (ds : List Dd) : Prop where
  rd : Reads w w.heap.size 12 A ds.length (dCells ds)
  el : ∀ d ∈ ds, d.In w ∧ d.nb ≤ 1048576 ∧ d.xn ≤ 1048576
  cp : ∀ d ∈ ds, d.n ≤ d.c ∧ d.c ≤ 9223372036854775807
theorem DsIn.below {w w' : World} {A : Option Addr} {ds : List Dd} (h : DsIn w A ds) (hb : Below w.heap.size w w') : DsIn w' A ds :=
  ⟨(h.rd.below hb).more hb.size, fun d hd => ⟨(h.el d hd).1.below hb, (h.el d hd).2⟩, h.cp⟩
theorem DsIn.at_ {w : World} {A : Option Addr} {ds : List Dd} {i : Nat} (h : DsIn w A ds) (hi : i < ds.length) :
    ∃ b off d, A = some ⟨b, off, none⟩ ∧ ds[i]? = some d ∧ d.In w ∧ d.nb ≤ 1048576 ∧ d.xn ≤ 1048576 ∧ ∀ j u, d.v.toList[j]? = some u → w.cell? ⟨b, off + i * 12 + j, none⟩ = some u := by
  obtain ⟨⟨b, off, spot⟩, e, _, hc⟩ := h.rd.2 (by omega)
  obtain ⟨d, hd⟩ : ∃ d, ds[i]? = some d := ⟨_, List.getElem?_eq_getElem hi⟩
  obtain ⟨d0, hd0⟩ : ∃ d, ds[0]? = some d := ⟨_, List.getElem?_eq_getElem (by omega)⟩
  have h0 := hc 0 _ ((d_at ds 0 d0 0 (by omega) hd0).trans rfl)
  have hspot : spot = none := by simpa [Addr.add] using World.cell?_spot h0
  subst hspot
  obtain ⟨h1, h2, h3⟩ := h.el d (List.mem_of_getElem? hd)
  refine ⟨b, off, d, e, hd, h1, h2, h3, fun j u hu => ?_⟩
  have hj : j < 12 := by have := (List.getElem?_eq_some_iff.1 hu).1; rw [dv_len] at this; exact this
  have := hc (i * 12 + j) u ((d_at ds i d j hj hd).trans hu)
  rw [← this]
  congr 1
  unfold Addr.add
  split <;> simp <;> omega
/-- what the deeds may cost -/
def ckD (ds : List Dd) : Nat := (ds.map fun d => d.bb.length + 4000).sum
theorem ckD_next {ds : List Dd} {i : Nat} {d : Dd} (h : ds[i]? = some d) : ckD (ds.take (i + 1)) = ckD (ds.take i) + (d.bb.length + 4000) := by
  unfold ckD
  rw [List.take_add_one, h]
  simp
theorem ckD_le (ds : List Dd) : ∀ i, ckD (ds.take i) ≤ ckD ds := by
  unfold ckD
  intro i
  conv => rhs; rw [← List.take_append_drop i ds]
  rw [List.map_append, List.sum_append]
  omega
theorem Dd.bb_len {w : World} {d : Dd} (h : d.In w) : d.bb.length = d.nb := by have := h.rb.1; simpa using this
/-- the client between two deeds -/
structure OnS (w0 : World) (g : Nat) (ds : List Dd) (i : Nat) (raw : Bool) (c : Cl) (p : Pa) (w : World) : Prop where
  fr : FrS w0 g p c (ckD (ds.take i)) (fun _ => False) w w
  ok : c.Ok (ckD (ds.take i))
  sh : c.Short
  cl : Clean raw c
section
variable {w0 w w' wB : World} {g m N : Nat} {p p' : Pa} {c c' : Cl} {B : Nat → Prop}
theorem fr_state (h : FrS w0 g p c m B wB w) (ok : c.Ok N) : Calls Try.prog 15 #[.pointer (some ⟨g, 0, none⟩)] w fun e w' => e = .returned (cstV c) ∧ Below w.heap.size w w' := by
  have h1 := state_any h.ca ok
  rw [h.gp] at h1
  exact h1
theorem fr_reps (h : FrS w0 g p c m B wB w) (ok : c.Ok N) (hN : N ≤ 549755813888) (hs : c.Short) : Calls Try.prog 25 #[.pointer (some ⟨g, 0, none⟩)] w fun e w' => ∃ A cc l, e = .returned (.slice A c.rep cc) ∧ c.rep ≤ cc ∧ cc ≤ 9223372036854775807 ∧ RowK kR w.heap.size w' (.slice A c.rep cc) l ∧ l.map (·.1) = c.reps ∧ Below w.heap.size w w' := by
  have h1 := replies_any h.ca ok hN hs.1
  rw [h.gp] at h1
  refine h1.mono ?_
  rintro e w' ⟨v, l, he, hr, hl, hb⟩
  obtain ⟨A, cc, rfl, hc, hm⟩ := hr.form
  have e1 : l.length = c.rep := by rw [← ok.rl, ← hl, List.length_map]
  rw [e1] at he hc hr
  exact ⟨A, cc, l, he, hc, hm, hr, hl, hb⟩
theorem fr_act (h : FrS w0 g p c m B wB w) (ok : c.Ok N) (hN : N ≤ 274877906944) (d : Dd) (hd : d.In w) (hnb : d.nb ≤ 1048576) (hxn : d.xn ≤ 1048576) (hm : m ≤ 1152921504606846976) :
    Calls Try.prog 16 #[.pointer (some ⟨g, 0, none⟩), .agg d.v] w fun e w' => ∃ p' v l, e = .returned v ∧ FrS w0 g p' (actF c d).2 (m + (d.bb.length + 4000)) B wB w' ∧ Frs w p' ((actF c d).1.map frm) v l w' := by
  have h1 := act_any d h.ca ok hN hd hnb hxn (by have := h.d; omega)
  rw [h.gp] at h1
  refine h1.mono ?_
  rintro e w' ⟨v, l, p', he, hs, hf⟩
  exact ⟨p', v, l, he, (h.step hs).more (by have := Dd.bb_len hd; omega), hf⟩
end
def BR (v : Value) (l : List (QX Rp)) (k : Nat) : Prop := v.ownBlock = some k ∨ kR.inB l k
/-- the first rows of a list -/
theorem RowK.take {α : Type} {K : Kd α} {base : Nat} {w : World} {A : Option Addr} {n c : Nat} {l : List (QX α)} (h : RowK K base w (.slice A n c) l) (hn : ∀ q : QX α, (K.cells q).length = K.size) {m : Nat} (hm : m ≤ n) : RowK K base w (.slice A m c) (l.take m) := by
  have hl : l.length = n := by
    obtain ⟨A', c', e, _, _⟩ := h.form
    injection e with _ e _
    exact e.symm
  have hfl : ∀ l : List (QX α), (K.flat l).length = l.length * K.size := by
    intro l
    induction l with
    | nil => simp [Kd.flat]
    | cons q r ih => unfold Kd.flat at *; rw [List.flatMap_cons, List.length_append, ih, hn, List.length_cons, Nat.add_mul]; omega
  have hft : K.flat (l.take m) = (K.flat l).take (m * K.size) := by
    have e : K.flat l = K.flat (l.take m) ++ K.flat (l.drop m) := by
      unfold Kd.flat
      rw [← List.flatMap_append, List.take_append_drop]
    have e2 : (K.flat (l.take m)).length = m * K.size := by rw [hfl, List.length_take, Nat.min_eq_left (by omega)]
    conv => rhs; rw [e, List.take_append_of_le_length (by omega), List.take_of_length_le (by omega)]
  refine ⟨⟨by rw [hfl], ?_⟩, fun q hq => h.els q (List.mem_of_mem_take hq)⟩
  have hlt : (l.take m).length = m := by rw [List.length_take]; omega
  rw [hlt]
  rcases h.row.2 with ⟨e, hx⟩ | ⟨g, cap, cur, e, hb, hg, hn', hmx, hcs, hcell⟩
  · injection e with e1 e2 e3
    subst e1 e2 e3
    exact .inl ⟨by rw [Nat.le_zero.1 hm], by omega⟩
  · injection e with e1 e2 e3
    subst e1 e3
    refine .inr ⟨g, c, cur, rfl, hb, hg, by omega, hmx, hcs, ?_⟩
    rw [hft, ← hcell, List.take_take]
    congr 1
    rw [Nat.min_eq_left]
    exact Nat.mul_le_mul_right _ (by omega)
/-- the document's GetReply -/
theorem rg_any (A : Option Addr) (n c : Nat) (bs : List UInt8) (w : World) (hr : RdB w w.heap.size A n bs) (hc : n ≤ c) (hm : c ≤ 9223372036854775807) :
    Calls Try.prog 31 #[.slice A n c] w fun e w' => ∃ (er : Int) (A2 : Option Addr) (n2 c2 : Nat) (st : ByteArray) (ok : Bool), e = .returned (.tuple #[.agg #[.int .i64 er, .slice A2 n2 c2, .string st], .bool ok]) ∧ Below w.heap.size w w' ∧
      (goodG bs → er = (repG bs).err ∧ n2 = (repG bs).vals.length ∧ st = ⟨(repG bs).text.toArray⟩ ∧ ok = true ∧ w'.ownsRow w.heap.size 68 2 (.slice A2 n2 c2) n2 (vcells (repG bs).vals)) := by
  have hl := hr.len1
  refine (rgetr_any A n c bs w hr hc (by omega)).mono ?_
  rintro e w' ⟨hb, h | h⟩
  · obtain ⟨h1, A2, n2, c2, rfl, ho⟩ := h
    refine ⟨_, A2, n2, c2, _, true, rfl, hb, fun hg => ?_⟩
    have h2 := (rep_good bs).1 hg
    have ht : repTD bs = repT bs := ((txt_flag (repV bs).2.1 (repV bs).2.2).2 h2.1).symm
    refine ⟨rfl, ?_, by rw [ht]; rfl, rfl, ho⟩
    have := cells_len ho
    exact this.symm
  · obtain ⟨h1, rfl⟩ := h
    refine ⟨0, none, 0, 0, _, false, rfl, hb, fun hg => absurd ?_ h1⟩
    have h2 := (rep_good bs).1 hg
    exact ⟨h2.1, h2.2.1, by rw [← hl]; exact h2.2.2.1, h2.2.2.2⟩
end Go.Proofs.Ytjhkfpemcplaaaa
namespace Go.Proofs.Ytjhkfpemcplaaaa
open Go.RowKit

/-- a packet that a client may send between the states c and c2 -/
def SendOk (c c2 : Cl) (q : Pk) : Prop := okPk q ∧ (q.tok = c2.tok ∨ q.tok = c.tok) ∧
  ((q.kind = 1 ∧ q.seq = c.nonce ∧ q.ack = 0 ∧ q.body = []) ∨
   (q.kind = 3 ∧ 1 ≤ q.seq ∧ q.seq ≤ c2.iss ∧ q.ack ≤ c2.rep ∧ c.rep ≤ q.ack ∧ q.ack < q.seq ∧ q.seq ≤ q.ack + c.win ∧ q.body = c2.bodies.getD (q.seq - 1) []))
/-- what packets that arrive leave as it was -/
structure Mono (c c2 : Cl) : Prop where
  rep : c.rep ≤ c2.rep
  iss : c2.iss = c.iss
  bod : c2.bodies = c.bodies
  win : c2.win = c.win
  non : c2.nonce = c.nonce
  tok : c.tok ≠ 0 → c2.tok = c.tok
theorem Mono.refl (c : Cl) : Mono c c := ⟨Nat.le_refl _, rfl, rfl, rfl, rfl, fun _ => rfl⟩
theorem Mono.trans {a b c : Cl} (h : Mono a b) (k : Mono b c) : Mono a c :=
  ⟨Nat.le_trans h.rep k.rep, k.iss.trans h.iss, k.bod.trans h.bod, k.win.trans h.win, k.non.trans h.non, fun e => by
    have h1 := h.tok e
    rw [k.tok (by rw [h1]; exact e), h1]⟩
theorem SendOk.later {c c1 c2 : Cl} {q : Pk} (h : SendOk c c1 q) (k0 : Mono c c1) (k : Mono c1 c2) : SendOk c c2 q := by
  obtain ⟨h1, h2, h3⟩ := h
  refine ⟨h1, ?_, ?_⟩
  · by_cases e : c1.tok = 0
    · have e2 : c.tok = 0 := by
        by_cases e3 : c.tok = 0
        · exact e3
        · rw [← k0.tok e3]; exact e
      rcases h2 with h2 | h2
      · exact .inr (by rw [h2, e, e2])
      · exact .inr h2
    · rw [k.tok e]; exact h2
  · rcases h3 with h3 | ⟨g1, g2, g3, g4, g5, g6, g7, g8⟩
    · exact .inl h3
    · exact .inr ⟨g1, g2, by rw [k.iss]; exact g3, Nat.le_trans g4 k.rep, g5, g6, g7, by rw [k.bod]; exact g8⟩
theorem SendOk.earlier {c c1 c2 : Cl} {q : Pk} (k : Mono c c1) (h : SendOk c1 c2 q) (k2 : Mono c1 c2) : SendOk c c2 q := by
  obtain ⟨h1, h2, h3⟩ := h
  refine ⟨h1, ?_, ?_⟩
  · rcases h2 with h2 | h2
    · exact .inl h2
    · by_cases e : c.tok = 0
      · by_cases e1 : c1.tok = 0
        · exact .inr (by rw [h2, e1, e])
        · exact .inl (by rw [h2, k2.tok e1])
      · exact .inr (by rw [h2, k.tok e])
  · rcases h3 with ⟨g1, g2, g3, g4⟩ | ⟨g1, g2, g3, g4, g5, g6, g7, g8⟩
    · exact .inl ⟨g1, by rw [g2, k.non], g3, g4⟩
    · exact .inr ⟨g1, g2, g3, g4, Nat.le_trans k.rep g5, g6, by rw [← k.win]; exact g7, g8⟩
theorem cmd_send {N : Nat} {c c1 : Cl} {k : Nat} (ok : c1.Ok N) (hN : N ≤ 1152921504606846976) (m : Mono c c1) (h1 : c1.rep < k) (h2 : k ≤ c1.rep + c1.win) (h3 : k ≤ c1.iss) : SendOk c c1 (c1.cmd k) :=
  ⟨cmd_ok ok hN h3, .inl rfl, .inr ⟨rfl, by show 1 ≤ k; omega, h3, Nat.le_refl _, m.rep, h1, by rw [← m.win]; exact h2, rfl⟩⟩
theorem hello_send {N : Nat} {c c1 : Cl} (ok : c1.Ok N) (m : Mono c c1) : SendOk c c1 c1.hello := ⟨hello_ok ok, .inl rfl, .inl ⟨rfl, m.non, rfl, rfl⟩⟩
theorem packF_send {N : Nat} {c : Cl} {q : Pk} (ok : c.Ok N) (hN : N + 1 ≤ 1152921504606846976) (hq : okPk q) : Mono c (packF c q).2 ∧ ∀ x ∈ (packF c q).1, SendOk c (packF c q).2 x := by
  have ok' := packF_ok (q := q) ok hq.2.1 hq.2.2.1
  unfold packF at ok' ⊢
  split
  · rename_i h2
    rw [if_pos h2] at ok'
    unfold welF at ok' ⊢
    split
    · exact ⟨Mono.refl c, fun x hx => by cases hx⟩
    · rename_i hn
      have htk : c.tok ≠ 0 → q.tok = c.tok := fun e => Classical.byContradiction fun h => hn (.inr ⟨e, by simp [oursB, h]⟩)
      rw [if_neg hn] at ok'
      split
      · exact ⟨⟨Nat.le_refl _, rfl, rfl, rfl, rfl, htk⟩, fun x hx => by cases hx⟩
      · rename_i hg
        rw [if_neg hg] at ok'
        have m : Mono c { c with tok := q.tok, greet := true, wait := 0 } := ⟨Nat.le_refl _, rfl, rfl, rfl, rfl, htk⟩
        refine ⟨m, fun x hx => ?_⟩
        obtain ⟨i, hi, rfl⟩ := List.mem_map.1 hx
        rw [List.mem_range] at hi
        have hl : c.last = min (c.rep + c.win) c.iss := rfl
        exact cmd_send (N := N + 1) (c1 := { c with tok := q.tok, greet := true, wait := 0 }) ok' hN m (by dsimp only; omega) (by dsimp only; omega) (by dsimp only; omega)
  · rename_i h2
    rw [if_neg h2] at ok'
    split
    · rename_i h4
      rw [if_pos h4] at ok'
      unfold repF at ok' ⊢
      split
      · exact ⟨Mono.refl c, fun x hx => by cases hx⟩
      · rename_i hn
        rw [if_neg hn] at ok'
        cases hgg : getG q.body with
        | none => exact ⟨Mono.refl c, fun x hx => by cases hx⟩
        | some r =>
          rw [hgg] at ok'
          dsimp only at ok' ⊢
          have m : Mono c { c with reps := c.reps ++ [r], rep := c.rep + 1, wait := 0 } := ⟨Nat.le_succ _, rfl, rfl, rfl, rfl, fun _ => rfl⟩
          refine ⟨m, fun x hx => ?_⟩
          split at hx
          · rename_i hc
            rw [List.mem_singleton] at hx
            subst hx
            have := ok.wi.1
            exact cmd_send (N := N + 1) (c1 := { c with reps := c.reps ++ [r], rep := c.rep + 1, wait := 0 }) ok' hN m (by dsimp only; omega) (by dsimp only; omega) hc.2
          · cases hx
    · split
      · unfold evtF
        split
        · exact ⟨Mono.refl c, fun x hx => by cases hx⟩
        · cases getG q.body with
          | none => exact ⟨Mono.refl c, fun x hx => by cases hx⟩
          | some r => exact ⟨⟨Nat.le_refl _, rfl, rfl, rfl, rfl, fun _ => rfl⟩, fun x hx => by cases hx⟩
      · split
        · unfold refF
          split
          · exact ⟨⟨Nat.le_refl _, rfl, rfl, rfl, rfl, fun _ => rfl⟩, fun x hx => by cases hx⟩
          · exact ⟨Mono.refl c, fun x hx => by cases hx⟩
        · exact ⟨Mono.refl c, fun x hx => by cases hx⟩
theorem packsF_send (l : List Pk) : ∀ {N : Nat} {c : Cl}, c.Ok N → N + l.length ≤ 1152921504606846976 → (∀ q ∈ l, okPk q) → Mono c (packsF c l).2 ∧ ∀ x ∈ (packsF c l).1, SendOk c (packsF c l).2 x := by
  induction l with
  | nil => intro N c _ _ _; exact ⟨Mono.refl c, fun x hx => by cases hx⟩
  | cons q l ih =>
    intro N c ok hN hq
    unfold packsF
    split
    · exact ⟨Mono.refl c, fun x hx => by cases hx⟩
    · rw [List.length_cons] at hN
      have hq1 := hq q (by simp)
      obtain ⟨m1, s1⟩ := packF_send ok (by omega) hq1
      obtain ⟨m2, s2⟩ := ih (packF_ok (q := q) ok hq1.2.1 hq1.2.2.1) (by omega) fun x hx => hq x (by simp [hx])
      refine ⟨m1.trans m2, fun x hx => ?_⟩
      rcases List.mem_append.1 hx with hx | hx
      · exact (s1 x hx).later m1 m2
      · exact (s2 x hx).earlier m1 m2
theorem recvF_send {N : Nat} {c : Cl} (ok : c.Ok N) (chunk : List UInt8) (hN : N + 1088 + chunk.length ≤ 1152921504606846976) : Mono c (recvF c chunk).2 ∧ ∀ x ∈ (recvF c chunk).1, SendOk c (recvF c chunk).2 x := by
  unfold recvF
  split
  · exact ⟨Mono.refl c, fun x hx => by cases hx⟩
  · have h1 : ({ c with kept := (feed (c.kept ++ chunk)).2.1 } : Cl).Ok N := ⟨ok.no, ok.wi, ok.pa, ok.bl, ok.bs, ok.rp, ok.rl, ok.is, ok.tk, ok.ev, ok.el, ok.wt, feed_lt _⟩
    have h3 := (feed_cnt (c.kept ++ chunk)).1
    have h4 := ok.kp
    rw [List.length_append] at h3
    obtain ⟨m, s⟩ := packsF_send (feed (c.kept ++ chunk)).1 h1 (by omega) (feed_all _).2
    have m0 : Mono c { c with kept := (feed (c.kept ++ chunk)).2.1 } := ⟨Nat.le_refl _, rfl, rfl, rfl, rfl, fun _ => rfl⟩
    exact ⟨m0.trans m, fun x hx => (s x hx).earlier m0 m⟩
/-- is the command of a deed taken? -/
def takes (c : Cl) (d : Dd) : Bool := (decide (d.K.tmod 10 = 0) || decide (d.K.tmod 10 = 1)) && (d.good && !c.over && decide (c.iss - c.rep < 256))
theorem actF_send {N : Nat} {c : Cl} (ok : c.Ok N) (d : Dd) (hN : N + d.bb.length + 4000 ≤ 1152921504606846976) :
    (actF c d).2.bodies = (if takes c d = true then c.bodies ++ [d.bodyC] else c.bodies) ∧ (actF c d).2.nonce = c.nonce ∧ (actF c d).2.win = c.win ∧ c.rep ≤ (actF c d).2.rep ∧ ∀ x ∈ (actF c d).1, SendOk c (actF c d).2 x := by
  have hc := d.chunk_len
  have hnt : ¬ (d.K.tmod 10 = 0 ∨ d.K.tmod 10 = 1) → takes c d = false := fun h => by
    unfold takes
    have h0 : ¬ d.K.tmod 10 = 0 := fun e => h (.inl e)
    have h1 : ¬ d.K.tmod 10 = 1 := fun e => h (.inr e)
    simp [h0, h1]
  have okA := actF_ok ok d
  by_cases hK : d.K.tmod 10 = 0 ∨ d.K.tmod 10 = 1
  · have hKb : (decide (d.K.tmod 10 = 0) || decide (d.K.tmod 10 = 1)) = true := by simpa using hK
    have e : actF c d = ((issueF c d.good d.bodyC).2.1, (issueF c d.good d.bodyC).2.2.2) := by unfold actF; rw [if_pos hK]
    rw [e] at okA ⊢
    unfold takes
    rw [hKb, Bool.true_and]
    unfold issueF at okA ⊢
    split
    · rename_i hg
      rw [hg]
      exact ⟨rfl, rfl, rfl, Nat.le_refl _, fun x hx => by cases hx⟩
    · rename_i hg
      have hg' : d.good = true := by simpa using hg
      rw [if_neg hg] at okA
      split
      · rename_i ho
        rw [ho]
        exact ⟨by simp, rfl, rfl, Nat.le_refl _, fun x hx => by cases hx⟩
      · rename_i ho
        have ho' : c.over = false := by simpa using ho
        rw [if_neg ho] at okA
        split
        · rename_i hq
          have : ¬ (c.iss - c.rep < 256) := by omega
          exact ⟨by simp [this], rfl, rfl, Nat.le_refl _, fun x hx => by cases hx⟩
        · rename_i hq
          rw [if_neg hq] at okA
          have hlt : c.iss - c.rep < 256 := by omega
          refine ⟨by simp [hg', ho', hlt], rfl, rfl, Nat.le_refl _, fun x hx => ?_⟩
          split at hx
          · rename_i hcc
            rw [List.mem_singleton] at hx
            subst hx
            have hrp := ok.rp
            refine ⟨cmd_ok okA (by omega) (Nat.le_refl _), .inl rfl, .inr ⟨rfl, ?_, Nat.le_refl _, Nat.le_refl _, Nat.le_refl _, ?_, ?_, rfl⟩⟩
            · show 1 ≤ c.iss + 1; omega
            · show c.rep < c.iss + 1; omega
            · show c.iss + 1 ≤ c.rep + c.win; exact hcc.2
          · cases hx
  · rw [hnt hK]
    rw [if_neg (by decide)]
    unfold actF at okA ⊢
    rw [if_neg hK] at okA ⊢
    split
    · rename_i h2
      rw [if_pos h2] at okA
      unfold connF at okA ⊢
      split
      · exact ⟨rfl, rfl, rfl, Nat.le_refl _, fun x hx => by cases hx⟩
      · split
        · exact ⟨rfl, rfl, rfl, Nat.le_refl _, fun x hx => by cases hx⟩
        · refine ⟨rfl, rfl, rfl, Nat.le_refl _, fun x hx => ?_⟩
          rw [List.mem_singleton] at hx
          subst hx
          exact ⟨hello_ok ok, .inl rfl, .inl ⟨rfl, rfl, rfl, rfl⟩⟩
    · rename_i h2
      rw [if_neg h2] at okA
      split
      · unfold cutF
        split <;> exact ⟨rfl, rfl, rfl, Nat.le_refl _, fun x hx => by cases hx⟩
      · rename_i h3
        rw [if_neg h3] at okA
        split
        · obtain ⟨m, s⟩ := recvF_send ok d.chunk (by omega)
          exact ⟨m.bod, m.non, m.win, m.rep, s⟩
        · rename_i h4
          rw [if_neg h4] at okA
          split
          · rename_i h8
            rw [if_pos h8] at okA
            unfold tickF at okA ⊢
            split
            · exact ⟨rfl, rfl, rfl, Nat.le_refl _, fun x hx => by cases hx⟩
            · split
              · exact ⟨rfl, rfl, rfl, Nat.le_refl _, fun x hx => by cases hx⟩
              · refine ⟨rfl, rfl, rfl, Nat.le_refl _, fun x hx => ?_⟩
                split at hx
                · rw [List.mem_singleton] at hx
                  subst hx
                  exact ⟨hello_ok ok, .inl rfl, .inl ⟨rfl, rfl, rfl, rfl⟩⟩
                · split at hx
                  · rename_i hr
                    rw [List.mem_singleton] at hx
                    subst hx
                    have hw := ok.wi.1
                    refine ⟨cmd_ok ok (by omega) hr, .inl rfl, .inr ⟨rfl, ?_, hr, Nat.le_refl _, Nat.le_refl _, ?_, ?_, rfl⟩⟩
                    · show 1 ≤ c.rep + 1; omega
                    · show c.rep < c.rep + 1; omega
                    · show c.rep + 1 ≤ c.rep + c.win; omega
                  · cases hx
          · exact ⟨rfl, rfl, rfl, Nat.le_refl _, fun x hx => by cases hx⟩
end Go.Proofs.Ytjhkfpemcplaaaa
namespace Go.Proofs.Ytjhkfpemcplaaaa
open Go.RowKit

def BV (v : Value) (l : List (QX (List UInt8))) (k : Nat) : Prop := v.ownBlock = some k ∨ kB.inB l k
/-- the client and the bodies that the law keeps, between two deeds -/
structure SnS (w0 : World) (g nonce win : Nat) (ds : List Dd) (i : Nat) (c : Cl) (p : Pa) (V : Value) (l : List (QX (List UInt8))) (w : World) : Prop where
  fr : FrS w0 g p c (ckD (ds.take i)) (BV V l) w w
  ok : c.Ok (ckD (ds.take i))
  row : RowK kB w0.heap.size w V l
  is : l.map (·.1) = c.bodies
  non : c.nonce = nonce
  win : c.win = win
theorem SnS.below {w0 w w' : World} {g nonce win i : Nat} {ds : List Dd} {c : Cl} {p : Pa} {V : Value} {l : List (QX (List UInt8))} (h : SnS w0 g nonce win ds i c p V l w) (hb : Below w.heap.size w w') : SnS w0 g nonce win ds i c p V l w' :=
  ⟨(h.fr.below hb).keep fun k hk => ⟨(((h.fr.below hb).kb k hk).1), ((h.fr.below hb).kb k hk).2.1⟩, h.ok, h.row.below hb, h.is, h.non, h.win⟩
theorem sends_start {nonce : Nat} {win pat : Nat} (w : World) (ds : List Dd) (h1 : 1 ≤ nonce) (hn : nonce < 18446744073709551616) (h2 : 1 ≤ win) (h3 : win ≤ 16) (h4 : 1 ≤ pat) (h5 : pat ≤ 1000) :
    Calls Try.prog 10 #[.int .u64 (nonce : Int), .int .i64 (win : Int), .int .i64 (pat : Int)] w fun e w' => ∃ g p, e = .returned (.tuple #[.pointer (some ⟨g, 0, none⟩), .int .i64 0]) ∧ SnS w g nonce win ds 0 (Cl.new nonce win pat) p (.slice none 0 0) [] w' := by
  refine (new_ok nonce win pat w h1 h2 h3 h4 h5).mono ?_
  rintro e w' ⟨p, he, hca, hd, hb⟩
  refine ⟨p.g, p, he, ⟨hca, rfl, hb, by omega, fun k hk => ?_⟩, ?_, RowK.nil _ _ _, rfl, rfl, rfl⟩
  · rcases hk with hk | ⟨q, hq, _⟩
    · simp [Value.ownBlock] at hk
    · cases hq
  · constructor <;> simp [Cl.new, h1, hn, h2, h3, h4, h5]
theorem put_any (d : Dd) (w : World) (hd : d.In w) : Calls Try.prog 14 #[.agg #[.int .i64 d.xk, .int .u64 (d.xh : Int), .slice d.xA d.xn d.xc, .string d.xs]] w (PutX w d.good d.bodyC) :=
  (rputc_any d.xk d.xh d.xA d.xn d.xc d.ns d.xs w hd.xh hd.rx hd.u).mono fun _ _ h => putX_of d.good_iff h
theorem unpk_any {A : Option Addr} {n c : Nat} {w : World} {q : Pk} (h : RdB w w.heap.size A n (frm q)) (hq : okPk q) (hc : n ≤ c) :
    Calls Try.prog 17 #[.slice A n c] w fun e w' => ∃ A2 c2, e = .returned (.tuple #[.agg #[.int .i64 (q.kind : Int), .int .u64 (q.tok : Int), .int .u64 (q.seq : Int), .int .u64 (q.ack : Int), .slice A2 q.body.length c2], .int .i64 0]) ∧ RdB w' w'.heap.size A2 q.body.length q.body ∧ Below w.heap.size w w' := by
  have hl := frm_len hq
  have hl2 := h.len1
  refine (runp_any A n c (frm q) w h hc (by omega)).mono ?_
  rintro e w' ⟨A2, c2, he, h1, hb⟩
  rw [unp_frm hq] at he h1
  exact ⟨A2, c2, he, Reads.of_own h1, hb⟩
/-- one more body -/
theorem BV.push {w0 w w1 w2 wB : World} {g m : Nat} {p : Pa} {c : Cl} {B : Nat → Prop} {V V' : Value} {l : List (QX (List UInt8))} {q : QX (List UInt8)} (hs : FrS w0 g p c m B wB w1) (hw0 : w0.heap.size ≤ w.heap.size) (hV : RowK kB w0.heap.size w V l) (hVc : ∀ k, BV V l k → ¬ CF p k) (hVB : ∀ k, V.ownBlock = some k → ¬ B k) (hb : Below w.heap.size w w1)
    (hq : w1.ownsRow w.heap.size kB.et kB.es (kB.val q) (kB.n q.1) (kB.xs q.1)) (hqc : ∀ k, (kB.val q).ownBlock = some k → ¬ CF p k) (hr : w2.ownsRow w0.heap.size kB.t kB.size V' (l.length + 1) (kB.flat l ++ kB.cells q)) (hg : w1.grownBy w2 V.ownBlock) (hv : V'.ownBlock = V.ownBlock ∨ V'.ownBlock = some w1.heap.size) :
    RowK kB w0.heap.size w2 V' (l ++ [q]) ∧ FrS w0 g p c m B wB w2 ∧ ∀ k, BV V' (l ++ [q]) k → k < w2.heap.size ∧ ¬ CF p k := by
  have h1 := hV.below hb
  have h2 := h1.push (by decide) (own_base hq hw0) hr hg
  refine ⟨h2, hs.chg (Chg.of_grown (F := fun k => V.ownBlock = some k) hg fun k e => e) fun k hk => ⟨(hV.lt (.inl hk)).1, hVc k (.inl hk), hVB k hk⟩, fun k hk => ⟨(h2.lt hk).2, fun hc => ?_⟩⟩
  rcases hk with hk | hk
  · rcases hv with e | e
    · exact hVc k (.inl (by rw [← e]; exact hk)) hc
    · rw [e] at hk; injection hk with hk; have := (hs.ca.lt hc).2; omega
  · rcases inB_push hk with hk | hk
    · exact hVc k (.inr hk) hc
    · exact hqc k hk hc
end Go.Proofs.Ytjhkfpemcplaaaa
namespace Go.Proofs.Ytjhkfpemcplaaaa
open Go.Joins Go.ChangeShapes Go.WideShapes Go.RowKit Go.Deep

section
variable {H : Type} {enc : TypeId × Value → H} {P : Program} {w : World} {base : Nat} {spare : Nat → Bool} {held : Bool}
theorem bulk_one (d : DataW H) : 1 ≤ Rows.uptoBulk d := by
  cases d with
  | lit l => cases l <;> simp [Rows.uptoBulk]
  | nil => simp [Rows.uptoBulk]
  | ptr d => simp [Rows.uptoBulk]
  | slice elems spare => simp [Rows.uptoBulk]
  | agg parts => simp [Rows.uptoBulk]
  | iface t d => simp [Rows.uptoBulk]
  | map entries => simp [Rows.uptoBulk]
  | held h => simp [Rows.uptoBulk]
theorem bulk_app (l r : List (DataW H)) : Rows.uptoBulkAll (l ++ r) = Rows.uptoBulkAll l + Rows.uptoBulkAll r := by
  induction l with
  | nil => simp [Rows.uptoBulkAll]
  | cons x l ih => simp only [List.cons_append, Rows.uptoBulkAll, ih]; omega
theorem bulk_len (l : List (DataW H)) : l.length ≤ Rows.uptoBulkAll l := by
  induction l with
  | nil => simp [Rows.uptoBulkAll]
  | cons x r ih => have := bulk_one x; simp only [Rows.uptoBulkAll, List.length_cons]; omega
theorem bulk_slice (elems rest : List (DataW H)) : Rows.uptoBulkAll elems + 1 ≤ Rows.uptoBulk (.slice elems rest) := by
  simp only [Rows.uptoBulk]
  omega
theorem bulk_mem {d : DataW H} {l : List (DataW H)} (h : d ∈ l) : Rows.uptoBulk d ≤ Rows.uptoBulkAll l := by
  induction l with
  | nil => cases h
  | cons x r ih =>
    simp only [Rows.uptoBulkAll]
    cases List.mem_cons.1 h with
    | inl e => subst e; omega
    | inr e => have := ih e; omega
theorem bulk_bound {l : List (DataW H)} (hk : Rows.uptoSmall H l = true) : Rows.uptoBulkAll l ≤ 1048576 := of_decide_eq_true hk
/-- a slice of bytes that came in, and its bulk -/
theorem bytes_bulk {t e : TypeId} {fuel : Nat} {v : Value} {x : DataW H × List MemPlace} (ht : P.underlying t = some (.slice e)) (he : P.underlying e = some (.int .u8)) (hc : P.cellsOf e = 1)
    (h : DataW.trod enc P w base spare held fuel t [v] = some x) :
    ∃ (A : Option Addr) (n c : Nat) (bs : List UInt8), v = .slice A n c ∧ n ≤ c ∧ c ≤ maxLen ∧ RdB w w.heap.size A n bs ∧ bs.length + 1 ≤ Rows.uptoBulk x.1 := by
  obtain ⟨A, n, c, bs, e1, h1, h2, h3⟩ := bytes_in ht he hc h
  refine ⟨A, n, c, bs, e1, h1, h2, h3, ?_⟩
  have hl := h3.len1
  rcases open_slice ht h with ⟨hcs, hx⟩ | ⟨a, len, cap, m, n', D, Pl, hcs, _, _, _, _, hx, _⟩
  · rw [e1] at hcs
    simp at hcs
    obtain ⟨rfl, rfl, rfl⟩ := hcs
    rw [hx, hl]
    exact bulk_one _
  · rw [e1] at hcs
    simp at hcs
    obtain ⟨rfl, rfl, rfl⟩ := hcs
    rw [hx]
    have h4 := bulk_slice ((List.range n).map D) ((List.range (m - n)).map fun j => D (n + j))
    have h5 := bulk_len ((List.range n).map D)
    simp only [List.length_map, List.length_range] at h5
    dsimp only
    omega
theorem ints_bulk {t e : TypeId} {fuel : Nat} {v : Value} {x : DataW H × List MemPlace} (ht : P.underlying t = some (.slice e)) (he : P.underlying e = some (.int .i64)) (hc : P.cellsOf e = 1)
    (h : DataW.trod enc P w base spare held fuel t [v] = some x) :
    ∃ (A : Option Addr) (n c : Nat) (ns : List Int), v = .slice A n c ∧ RdI w w.heap.size A n ns ∧ (∀ z ∈ ns, I64 z) ∧ n + 1 ≤ Rows.uptoBulk x.1 := by
  obtain ⟨A, n, c, ns, e1, h1, h2, h3, h4⟩ := ints_in ht he hc h
  refine ⟨A, n, c, ns, e1, h3, h4, ?_⟩
  rcases open_slice ht h with ⟨hcs, hx⟩ | ⟨a, len, cap, m, n', D, Pl, hcs, _, _, _, _, hx, _⟩
  · rw [e1] at hcs
    simp at hcs
    obtain ⟨rfl, rfl, rfl⟩ := hcs
    rw [hx]
    exact bulk_one _
  · rw [e1] at hcs
    simp at hcs
    obtain ⟨rfl, rfl, rfl⟩ := hcs
    rw [hx]
    have h4 := bulk_slice ((List.range n).map D) ((List.range (m - n)).map fun j => D (n + j))
    have h5 := bulk_len ((List.range n).map D)
    simp only [List.length_map, List.length_range] at h5
    dsimp only
    omega
theorem bulk_agg (l : List (DataW H)) : Rows.uptoBulkAll l ≤ Rows.uptoBulk (.agg l) := by
  simp only [Rows.uptoBulk]
  omega
end
section
variable {H : Type} {enc : TypeId × Value → H} {w : World} {base : Nat} {spare : Nat → Bool} {held : Bool}
set_option maxRecDepth 20000 in
theorem deed_in2 {fuel : Nat} {cs : List Value} {x : DataW H × List MemPlace} (h : DataW.trod enc Try.prog w base spare held fuel 41 cs = some x) (hw : Rows.uptoBulk x.1 ≤ 1048576) :
    ∃ d : Dd, cs = d.v.toList ∧ d.In w ∧ d.nb ≤ 1048576 ∧ d.xn ≤ 1048576 ∧ d.n ≤ d.c ∧ d.c ≤ 9223372036854775807 ∧ d.bb.length + 1 ≤ Rows.uptoBulk x.1 := by
  have c41 : Try.prog.cellsOf 41 = 12 := by kernel_rfl
  have c35 : Try.prog.cellsOf 35 = 4 := by kernel_rfl
  have c39 : Try.prog.cellsOf 39 = 5 := by kernel_rfl
  have c37 : Try.prog.cellsOf 37 = 1 := by kernel_rfl
  have c36 : Try.prog.cellsOf 36 = 1 := by kernel_rfl
  have c33 : Try.prog.cellsOf 33 = 1 := by kernel_rfl
  have c32 : Try.prog.cellsOf 32 = 1 := by kernel_rfl
  have c22 : Try.prog.cellsOf 22 = 1 := by kernel_rfl
  have c9 : Try.prog.cellsOf 9 = 1 := by kernel_rfl
  have c3 : Try.prog.cellsOf 3 = 1 := by kernel_rfl
  obtain ⟨x0, x1, x2, x3, x4, m, hx, hl, g0, g1, g2, g3, g4⟩ := trod_s5 Try.underlying41 h
  rw [c41] at hl
  match cs, hl with
  | [v0, v1, v2, v3, v4, v5, v6, v7, v8, v9, v10, v11], _ =>
  simp only [c3, c35, c39, c37, List.drop_succ_cons, List.drop_zero, List.take_succ_cons, List.take_zero] at g0 g1 g2 g3 g4
  obtain ⟨K, e0, _, _⟩ := DataW.trod_int Try.underlying3 g0
  obtain ⟨Z, e11, _, _⟩ := DataW.trod_int Try.underlying3 g4
  obtain ⟨y0, y1, y2, y3, m1, hy, _, a0, a1, a2, a3⟩ := trod_s4 Try.underlying35 g1
  simp only [c32, c22, c33, c9, List.drop_succ_cons, List.drop_zero, List.take_succ_cons, List.take_zero] at a0 a1 a2 a3
  obtain ⟨xk, e1, _, _⟩ := DataW.trod_int Try.underlying32 a0
  obtain ⟨xh, e2, _, wf2⟩ := DataW.trod_int Try.underlying22 a1
  obtain ⟨xA, xn, xc, ns, e3, hrx, hu, hxb⟩ := ints_bulk Try.underlying33 Try.underlying3 c3 a2
  obtain ⟨str, e4, _, _⟩ := DataW.trod_string Try.underlying9 a3
  obtain ⟨z0, z1, z2, z3, z4, m2, _, _, b0, b1, b2, b3, b4⟩ := trod_s5 Try.underlying39 g2
  simp only [c36, c22, c37, List.drop_succ_cons, List.drop_zero, List.take_succ_cons, List.take_zero] at b0 b1 b2 b3 b4
  obtain ⟨k, e5, _, _⟩ := DataW.trod_int Try.underlying36 b0
  obtain ⟨t, e6, _, wf6⟩ := DataW.trod_int Try.underlying22 b1
  obtain ⟨s, e7, _, wf7⟩ := DataW.trod_int Try.underlying22 b2
  obtain ⟨a, e8, _, wf8⟩ := DataW.trod_int Try.underlying22 b3
  obtain ⟨A, n, c, body, e9, hnc, hcm, hr⟩ := bytes_in Try.underlying37 Try.underlying5 (by kernel_rfl) b4
  obtain ⟨B, nb, cb, bb, e10, _, _, hrb, hbb⟩ := bytes_bulk Try.underlying37 Try.underlying5 (by kernel_rfl) g3
  simp only [List.cons.injEq, and_true] at e0 e1 e2 e4 e5 e6 e7 e8 e11
  obtain ⟨xh, rfl, hxh⟩ := u64_of_wf wf2
  obtain ⟨t, rfl, ht⟩ := u64_of_wf wf6
  obtain ⟨s, rfl, hs⟩ := u64_of_wf wf7
  obtain ⟨a, rfl, ha⟩ := u64_of_wf wf8
  subst e0 e1 e2 e3 e4 e5 e6 e7 e8 e9 e10 e11
  have h3 : Rows.uptoBulk x3.1 ≤ Rows.uptoBulk x.1 := by
    rw [hx]
    exact Nat.le_trans (bulk_mem (by simp)) (bulk_agg _)
  have h1 : Rows.uptoBulk y2.1 ≤ Rows.uptoBulk x.1 := by
    rw [hx]
    refine Nat.le_trans ?_ (Nat.le_trans (bulk_mem (d := x1.1) (by simp)) (bulk_agg _))
    rw [hy]
    exact Nat.le_trans (bulk_mem (by simp)) (bulk_agg _)
  have hlb := hrb.len1
  have hmx : maxLen ≤ 9223372036854775807 := by decide
  exact ⟨⟨K, xk, xh, xA, xn, xc, str, k, t, s, a, A, n, c, B, nb, cb, Z, ns, body, bb⟩, rfl, ⟨hrx, hu, hxh, hr, hrb, ht, hs, ha, (by dsimp only; omega)⟩, (by dsimp only; omega), (by dsimp only; omega), hnc, (by dsimp only; omega), (by dsimp only; omega)⟩
/-- a slice of deeds that came in -/
theorem deeds_in {fuel : Nat} {v : Value} {x : DataW H × List MemPlace} (h : DataW.trod enc Try.prog w base spare held fuel 23 [v] = some x) (hw : Rows.uptoBulk x.1 ≤ 1048576) :
    ∃ (A : Option Addr) (c : Nat) (ds : List Dd), v = .slice A ds.length c ∧ DsIn w A ds ∧ ds.length ≤ 1048576 ∧ ckD ds ≤ 8589934592 := by
  have c41 : Try.prog.cellsOf 41 = 12 := by kernel_rfl
  rcases open_slice Try.underlying23 h with ⟨hcs, hx⟩ | ⟨a, len, cap, m, n, D, Pl, hcs, _, hl, _, hmm, hx, hi⟩
  · simp at hcs
    refine ⟨none, 0, [], hcs, ⟨⟨by simp [dCells], fun h => by simp at h⟩, (fun d hd => by cases hd), fun d hd => by cases hd⟩, by simp, by simp [ckD]⟩
  · simp at hcs
    have hlm : len ≤ m := by rw [hmm]; split <;> omega
    have h4 := bulk_slice ((List.range len).map D) ((List.range (m - len)).map fun j => D (len + j))
    have hx1 : Rows.uptoBulkAll ((List.range len).map D) + 1 ≤ 1048576 := by
      rw [hx] at hw
      dsimp only at hw
      omega
    obtain ⟨ds, hlen, hds⟩ := list_of (R := fun i (d : Dd) => w.cells? base (a.add (i * 12)) 12 = some d.v.toList ∧ d.In w ∧ d.nb ≤ 1048576 ∧ d.xn ≤ 1048576 ∧ d.n ≤ d.c ∧ d.c ≤ 9223372036854775807 ∧ d.bb.length + 1 ≤ Rows.uptoBulk (D i)) len (fun i hil => by
      obtain ⟨cs', hc, ht'⟩ := hi i (by omega)
      rw [c41] at hc
      have hbi : Rows.uptoBulk (D i) ≤ 1048576 := by
        have := bulk_mem (d := D i) (l := (List.range len).map D) (List.mem_map_of_mem (List.mem_range.2 hil))
        omega
      obtain ⟨d, e, h1⟩ := deed_in2 ht' hbi
      exact ⟨d, by rw [← e]; exact hc, h1⟩)
    have hsum : ∀ k, k ≤ len → ckD (ds.take k) ≤ Rows.uptoBulkAll ((List.range k).map D) + 4000 * k := by
      intro k
      induction k with
      | zero => intro _; simp [ckD]
      | succ k ih =>
        intro hk
        obtain ⟨d, hd⟩ : ∃ d, ds[k]? = some d := ⟨_, List.getElem?_eq_getElem (by omega)⟩
        have h1 := ckD_next hd
        have h2 := (hds k d hd).2.2.2.2.2.2
        have h3 := ih (by omega)
        rw [List.range_succ, List.map_append, bulk_app]
        simp only [List.map_cons, List.map_nil, Rows.uptoBulkAll]
        omega
    have hll : len ≤ 1048576 := by
      have := bulk_len ((List.range len).map D)
      simp only [List.length_map, List.length_range] at this
      omega
    refine ⟨some a, cap, ds, by rw [hlen]; exact hcs, ⟨⟨dCells_len ds, fun h0 => ⟨a, rfl, ?_, fun j u hu => ?_⟩⟩, fun d hd => ?_, fun d hd => ?_⟩, by omega, ?_⟩
    · obtain ⟨d, hd⟩ : ∃ d, ds[0]? = some d := ⟨_, List.getElem?_eq_getElem (by omega)⟩
      obtain ⟨_, _, hat⟩ := World.cells?_some (hds 0 d hd).1
      have h1 := (hat 0 (show 0 < 12 by omega)).trans (show d.v.toList[0]? = some (.int .i64 d.K) from rfl)
      have := World.block_lt_of_cell? _ _ h1
      rwa [block_of_add, block_of_add] at this
    · have hjl : j < ds.length * 12 := by rw [← dCells_len]; exact (List.getElem?_eq_some_iff.1 hu).1
      obtain ⟨d, hd⟩ : ∃ d, ds[j / 12]? = some d := ⟨_, List.getElem?_eq_getElem (by omega)⟩
      have h1 := d_at ds (j / 12) d (j % 12) (Nat.mod_lt _ (by decide)) hd
      have hj : j / 12 * 12 + j % 12 = j := by omega
      rw [hj, hu] at h1
      obtain ⟨_, hcl, hat⟩ := World.cells?_some (hds (j / 12) d hd).1
      have h2 := hat (j % 12) (Nat.mod_lt j (show 0 < 12 by decide))
      rw [add_of_add, hj] at h2
      rw [h2]
      exact h1.symm
    · obtain ⟨k, hk⟩ := List.getElem?_of_mem hd
      have := hds k d hk
      exact ⟨this.2.1, this.2.2.1, this.2.2.2.1⟩
    · obtain ⟨k, hk⟩ := List.getElem?_of_mem hd
      have := hds k d hk
      exact ⟨this.2.2.2.2.1, this.2.2.2.2.2.1⟩
    · have h5 := hsum len (Nat.le_refl _)
      rw [List.take_of_length_le (by omega)] at h5
      omega
end
end Go.Proofs.Ytjhkfpemcplaaaa
namespace Go.Proofs.Ytjhkfpemcplaaaa
open Go.RowKit

def TrueS (w : World) (e : Ending) (w' : World) : Prop := e = .returned (.bool true) ∧ Below w.heap.size w w'
set_option maxRecDepth 20000 in
set_option maxHeartbeats 4000000 in
theorem sends_no (nonce : Nat) (win pat : Int) (A : Option Addr) (n c : Nat) (w : World) (h : ¬ (1 ≤ nonce ∧ 1 ≤ win ∧ win ≤ 16 ∧ 1 ≤ pat ∧ pat ≤ 1000)) :
    Calls Try.prog 3 #[.int .u64 (nonce : Int), .int .i64 win, .int .i64 pat, .slice A n c] w (TrueS w) := by
  have HB := Lib.hid (new_bad nonce win pat w h)
  have hm : mayCl nonce win pat = false := by
    cases e : mayCl nonce win pat with
    | false => rfl
    | true => simp [mayCl] at e; exact absurd (by omega) h
  have HM := Lib.hid fun w => mayc_any nonce win pat w
  rw [hm] at HM
  clear h hm
  go_enter Try.func3, Try.ntmps3
  go_wp2_with (first
    | (go_at_call 10; refine HB.out.mono ?_; rintro e w1 ⟨rfl, rfl⟩)
    | (go_at_call 11; refine (HM.out _).mono ?_; rintro e w1 ⟨rfl, rfl⟩)
    | (go_at_call 12; refine (awake_any _).mono ?_; rintro e w3 ⟨rfl, hb⟩; have HW := Lib.hid hb; clear hb))
  go_ret
  exact ⟨rfl, HW.out⟩
set_option maxRecDepth 20000 in
set_option maxHeartbeats 4000000 in
theorem sends_yes (nonce win pat : Nat) (A : Option Addr) (n cc : Nat) (ds : List Dd) (w : World) (h1 : 1 ≤ nonce) (hno : nonce < 18446744073709551616) (h2 : 1 ≤ win) (h3 : win ≤ 16) (h4 : 1 ≤ pat) (h5 : pat ≤ 1000) (hd : DsIn w A ds) (hn : ds.length = n) (hn9 : n ≤ 1048576) (hck : ckD ds ≤ 8589934592) :
    Calls Try.prog 3 #[.int .u64 (nonce : Int), .int .i64 (win : Int), .int .i64 (pat : Int), .slice A n cc] w (TrueS w) := by
  have HST := Lib.hid (sends_start w ds h1 hno h2 h3 h4 h5)
  have hm : mayCl nonce win pat = true := by simp [mayCl, h1]; omega
  have HM := Lib.hid fun w => mayc_any nonce win pat w
  rw [hm] at HM
  have HD := Lib.hid hd
  have HN := Lib.hid hn
  have HCK := Lib.hid hck
  have HWI := Lib.hid (And.intro h2 h3)
  clear h1 hno h2 h3 h4 h5 hm hd hck hn
  go_enter Try.func3, Try.ntmps3
  go_upto_block 0 with (first
    | (go_at_call 10; refine HST.out.mono ?_; rintro e w1 ⟨g, p, rfl, hs⟩; have HS := Lib.hid hs; clear hs)
    | (go_at_call 11; refine (HM.out _).mono ?_; rintro e w2 ⟨rfl, rfl⟩)
    | (go_at_call 13; refine (num_any _ _).mono ?_; rintro e w3 ⟨rfl, rfl⟩)
    | (go_at_call 12; refine (awake_any _).mono ?_; rintro e w3 ⟨rfl, hb⟩; have HS3 := Lib.hid (HS.out.below hb); clear hb))
  clear HS HST HM
  go_wp2_with fail
  go_loopw [11, 12] (fun V v wr => ∃ (i : Nat) (c : Cl) (p : Pa) (l : List (QX (List UInt8))), i ≤ n ∧ v = .int .i64 (i : Int) ∧ SnS w g nonce win ds i c p V l wr) (fun _ v _ => n - (intOf v).toNat)
  case atStart => exact ⟨0, _, p, [], Nat.zero_le _, rfl, HS3.out⟩
  case round => as_aux_lemma =>
    obtain ⟨i, c, p, l, hi, rfl, hos⟩ := hrel
    by_cases hlt : i < n
    · have hdw := HD.out.below hos.fr.old
      obtain ⟨b, off, d, rfl, hdi, hd1, hd2, hd3, hcell⟩ := hdw.at_ (by rw [HN.out]; exact hlt)
      have l1 : (0 : Int) ≤ (i : Int) := by omega
      have l2 : (i : Int) < (n : Int) := by omega
      have HOS := Lib.hid hos
      have HDI := Lib.hid hdi
      have HD1 := Lib.hid (And.intro hd1 (And.intro hd2 hd3))
      obtain ⟨AV, cV, rfl, _, hcv⟩ := hos.row.form
      have y0 := hcell 0 _ rfl
      have y1 := hcell 1 _ rfl
      have y2 := hcell 2 _ rfl
      have y3 := hcell 3 _ rfl
      have y4 := hcell 4 _ rfl
      have y5 := hcell 5 _ rfl
      have y6 := hcell 6 _ rfl
      have y7 := hcell 7 _ rfl
      have y8 := hcell 8 _ rfl
      have y9 := hcell 9 _ rfl
      have y10 := hcell 10 _ rfl
      have y11 := hcell 11 _ rfl
      simp only [Nat.add_zero] at y0
      clear hos hdi hd1 hd2 hd3 hcell hdw HS3 hcv
      go_upto_region 11 with fail
      clear y0 y1 y2 y3 y4 y5 y6 y7 y8 y9 y10 y11
      have hX : Blk (wr.alloc (.cells #[.int .i64 d.K, .int .i64 d.xk, .int .u64 (d.xh : Int), .slice d.xA d.xn d.xc, .string d.xs, .int .i64 d.k, .int .u64 (d.t : Int), .int .u64 (d.s : Int), .int .u64 (d.a : Int), .slice d.A d.n d.c, .slice d.B d.nb d.cb, .int .i64 d.Z] 41)) wr.heap.size 41 #[.int .i64 d.K, .int .i64 d.xk, .int .u64 (d.xh : Int), .slice d.xA d.xn d.xc, .string d.xs, .int .i64 d.k, .int .u64 (d.t : Int), .int .u64 (d.s : Int), .int .u64 (d.a : Int), .slice d.A d.n d.c, .slice d.B d.nb d.cb, .int .i64 d.Z] := Blk.new wr 41 _
      have hb4 : Below wr.heap.size wr (wr.alloc (.cells #[.int .i64 d.K, .int .i64 d.xk, .int .u64 (d.xh : Int), .slice d.xA d.xn d.xc, .string d.xs, .int .i64 d.k, .int .u64 (d.t : Int), .int .u64 (d.s : Int), .int .u64 (d.a : Int), .slice d.A d.n d.c, .slice d.B d.nb d.cb, .int .i64 d.Z] 41)) := (Below.refl _ _).alloc (Nat.le_refl _) _
      generalize wr.alloc (.cells #[.int .i64 d.K, .int .i64 d.xk, .int .u64 (d.xh : Int), .slice d.xA d.xn d.xc, .string d.xs, .int .i64 d.k, .int .u64 (d.t : Int), .int .u64 (d.s : Int), .int .u64 (d.a : Int), .slice d.A d.n d.c, .slice d.B d.nb d.cb, .int .i64 d.Z] 41) = w4 at *
      have hs4 : FrS w g p c (ckD (ds.take i)) (fun k => k = wr.heap.size) w4 w4 := (HOS.out.fr.below hb4).keep fun k hk => by
        subst hk
        exact ⟨hX.lt, fun hc => by have := (HOS.out.fr.ca.lt hc).2; omega⟩
      have hl4 := HOS.out.row.below hb4
      have hlb : ∀ k, BV (.slice AV l.length cV) l k → ¬ CF p k ∧ k < wr.heap.size := fun k hk => ⟨(HOS.out.fr.kb k hk).2.1, (HOS.out.fr.kb k hk).1⟩
      generalize wr.heap.size = bd at *
      have HX := Lib.hid hX
      have HS4 := Lib.hid hs4
      have HL4 := Lib.hid hl4
      have HLB := Lib.hid hlb
      have HOK := Lib.hid HOS.out.ok
      have HIS := Lib.hid HOS.out.is
      have HNW := Lib.hid (And.intro HOS.out.non HOS.out.win)
      have hm9 : ckD (ds.take i) ≤ 8589934592 := Nat.le_trans (ckD_le ds i) HCK.out
      have HM9 := Lib.hid hm9
      have hd4 : d.In w4 := (HD.out.below HS4.out.old).el d (List.mem_of_getElem? HDI.out) |>.1
      have HD4 := Lib.hid hd4
      have z0 : w4.cell? ⟨bd, 0, none⟩ = some (.int .i64 d.K) := hX.cell 0
      have z1 : w4.cell? ⟨bd, 1, none⟩ = some (.int .i64 d.xk) := hX.cell 1
      have z2 : w4.cell? ⟨bd, 2, none⟩ = some (.int .u64 (d.xh : Int)) := hX.cell 2
      have z3 : w4.cell? ⟨bd, 3, none⟩ = some (.slice d.xA d.xn d.xc) := hX.cell 3
      have z4 : w4.cell? ⟨bd, 4, none⟩ = some (.string d.xs) := hX.cell 4
      clear hX hs4 hm9 HOS hl4 hlb hb4 hd4
      obtain ⟨kb, hkb⟩ : ∃ kb, (decide (d.K.tmod 10 = 0) || decide (d.K.tmod 10 = 1)) = kb := ⟨_, rfl⟩
      go_cut [70] (fun v wx => v = .bool kb ∧ w4 = wx)
      case first => as_aux_lemma =>
        by_cases h0 : d.K.tmod 10 = 0
        · go_wp2
          go_meet
          exact ⟨by rw [← hkb]; simp [h0], rfl⟩
        · have e0 : (d.K.tmod 10 == 0) = false := by simp [h0]
          by_cases h1 : d.K.tmod 10 = 1
          · go_wp2
            go_meet
            exact ⟨by rw [← hkb]; simp [h1], rfl⟩
          · have e1 : (d.K.tmod 10 == 1) = false := by simp [h1]
            go_wp2
            go_meet
            exact ⟨by rw [← hkb]; simp [h0, h1], rfl⟩
      case rest => as_aux_lemma =>
      obtain ⟨rfl, rfl⟩ := hcut
      have HKB := Lib.hid hkb
      have htk : takes c d = (kb && (d.good && !c.over && decide (c.iss - c.rep < 256))) := by unfold takes; rw [hkb]
      have HTK := Lib.hid htk
      clear hkb htk z0
      go_upto_if 70 with fail
      go_cut [11] (fun v wx => ∃ (wz : World) (V2 : Value) (L2 : List (QX (List UInt8))), wz = wx ∧ v = V2 ∧ RowK kB w.heap.size wz V2 L2 ∧ L2.map (·.1) = (if takes c d = true then c.bodies ++ [d.bodyC] else c.bodies) ∧ FrS w g p c (ckD (ds.take i)) (fun k => k = bd) w4 wz ∧ ∀ k, BV V2 L2 k → k < wz.heap.size ∧ ¬ CF p k)
      case first => as_aux_lemma =>
        cases kb with
        | false =>
          have htf : takes c d = false := by rw [HTK.out]; rfl
          go_wp2
          go_meet
          exact ⟨_, _, l, rfl, rfl, HL4.out, by rw [htf]; exact HIS.out, HS4.out, fun k hk => ⟨(HL4.out.lt hk).2, (HLB.out k hk).1⟩⟩
        | true =>
          have HPU := Lib.hid (put_any d w4 HD4.out)
          go_upto_region 14 with (first
            | (go_at_call 14; refine HPU.out.mono ?_; rintro e w5 ⟨A5, n5, c5, rfl, hg5, hb⟩; have HS5 := Lib.hid (HS4.out.below hb); have HG5 := Lib.hid hg5; have HB5 := Lib.hid hb; clear hb hg5 z1 z2 z3 z4)
            | (go_at_call 15; refine (fr_state HS5.out HOK.out).mono ?_; unfold cstV; rintro e w6 ⟨rfl, hb⟩; have HS6 := Lib.hid (HS5.out.below hb); have HB6 := Lib.hid hb; clear hb))
          have hY : Blk (w6.alloc (.cells #[.int .u64 (c.tok : Int), .bool c.conn, .bool c.greet, .int .u64 (c.iss : Int), .int .u64 (c.rep : Int), .int .u64 (c.ev : Int), .int .i64 (c.wait : Int), .bool c.over, .int .i64 c.reason] 45)) w6.heap.size 45 #[.int .u64 (c.tok : Int), .bool c.conn, .bool c.greet, .int .u64 (c.iss : Int), .int .u64 (c.rep : Int), .int .u64 (c.ev : Int), .int .i64 (c.wait : Int), .bool c.over, .int .i64 c.reason] := Blk.new w6 45 _
          have hb7 : Below w6.heap.size w6 (w6.alloc (.cells #[.int .u64 (c.tok : Int), .bool c.conn, .bool c.greet, .int .u64 (c.iss : Int), .int .u64 (c.rep : Int), .int .u64 (c.ev : Int), .int .i64 (c.wait : Int), .bool c.over, .int .i64 c.reason] 45)) := (Below.refl _ _).alloc (Nat.le_refl _) _
          generalize w6.alloc (.cells #[.int .u64 (c.tok : Int), .bool c.conn, .bool c.greet, .int .u64 (c.iss : Int), .int .u64 (c.rep : Int), .int .u64 (c.ev : Int), .int .i64 (c.wait : Int), .bool c.over, .int .i64 c.reason] 45) = w7 at *
          have HS7 := Lib.hid (HS6.out.below hb7)
          have HB47 : Hid (Below w4.heap.size w4 w7) := Lib.hid (HB5.out.trans ((HB6.out.trans (hb7.mono HB6.out.size)).mono HB5.out.size))
          have HB57 : Hid (Below w5.heap.size w5 w7) := Lib.hid (HB6.out.trans (hb7.mono HB6.out.size))
          have HB45 : Hid (w4.heap.size ≤ w5.heap.size) := Lib.hid HB5.out.size
          generalize w6.heap.size = bs at *
          have x3 : w7.cell? ⟨bs, 3, none⟩ = some (.int .u64 (c.iss : Int)) := hY.cell 3
          have x4 : w7.cell? ⟨bs, 4, none⟩ = some (.int .u64 (c.rep : Int)) := hY.cell 4
          have x7 : w7.cell? ⟨bs, 7, none⟩ = some (.bool c.over) := hY.cell 7
          clear hY hb7 HS5 HS6 HB5 HB6 HPU
          have HNO : Hid (takes c d = false → ∃ (wz : World) (V2 : Value) (L2 : List (QX (List UInt8))), wz = w7 ∧ Value.slice AV l.length cV = V2 ∧ RowK kB w.heap.size wz V2 L2 ∧ L2.map (·.1) = (if takes c d = true then c.bodies ++ [d.bodyC] else c.bodies) ∧ FrS w g p c (ckD (ds.take i)) (fun k => k = bd) w4 wz ∧ ∀ k, BV V2 L2 k → k < wz.heap.size ∧ ¬ CF p k) := Lib.hid fun htf => ⟨_, _, l, rfl, rfl, HL4.out.below HB47.out, by rw [htf]; exact HIS.out, HS7.out, fun k hk => ⟨((HL4.out.below HB47.out).lt hk).2, (HLB.out k hk).1⟩⟩
          cases hg : d.good with
          | false => as_aux_lemma =>
            have htf : takes c d = false := by rw [HTK.out, hg]; rfl
            have HE := Lib.hid (HNO.out htf)
            rw [hg] at *
            clear hg htf HNO
            go_wp2
            go_meet
            exact HE.out
          | true =>
            rw [hg] at HG5
            obtain ⟨hn5, ho5⟩ := HG5.out rfl
            cases ho : c.over with
            | true => as_aux_lemma =>
              have htf : takes c d = false := by rw [HTK.out, hg, ho]; rfl
              have HE := Lib.hid (HNO.out htf)
              rw [ho] at x7
              clear hg htf HNO ho5 ho HG5
              go_wp2
              go_meet
              exact HE.out
            | false =>
              rw [ho] at x7
              obtain ⟨kq, hkq⟩ : ∃ kq : Nat, c.iss - c.rep = kq := ⟨_, rfl⟩
              have hrp := HOK.out.rp
              have his := HOK.out.is
              have hm9 := HM9.out
              have ew : IntKind.u64.wrap ((c.iss : Int) - (c.rep : Int)) = (kq : Int) := by simp [IntKind.wrap, IntKind.bits, IntKind.signed]; omega
              by_cases hq : kq < 256
              · as_aux_lemma =>
                have htt : takes c d = true := by rw [HTK.out, hg, ho, hkq]; simp [hq]
                have n1 : (kq : Int) < 256 := by omega
                have HTT := Lib.hid htt
                have hll : l.length ≤ 8589934592 := by
                  have := congrArg List.length HIS.out
                  rw [List.length_map, HOK.out.bl] at this
                  omega
                have HLL := Lib.hid hll
                have HO5 := Lib.hid ho5
                subst hn5
                obtain ⟨i0, hi0, hz0, hz1, hz2⟩ := info_parts info37
                clear htt hll ho5 hrp his hm9 hkq hg ho HG5 HNO
                generalize hnb : d.bodyC.length = nb5 at *
                have HNB := Lib.hid hnb
                clear hnb
                have HW4 : Hid (w.heap.size ≤ w4.heap.size) := Lib.hid HS4.out.old.size
                have HW7 : Hid (w4.heap.size ≤ w7.heap.size) := Lib.hid HB47.out.size
                go_wp2_with (at_builtin; refine wpList_append_any _ rfl (.tmp 93) (.tmp 95) 31 rfl w.heap.size 37 i0 _ 1 24 Try.underlying31 hi0 hz0 hz1 hz2 rfl (by decide) (.slice AV l.length cV) l.length (kB.flat l) rfl (World.ownsRow.alloc (HL4.out.below HB47.out).row _) _ _ 1 1 [.slice A5 nb5 c5] rfl (Reads.built _ _ [.slice A5 nb5 c5]) (by simp [Value.oneCell']) (by simp only [maxLen]; have := HLL.out; omega) (by have := HLL.out; omega) (by have := HW4.out; have := HW7.out; simp; omega) ?_; intro v9 w9 hr9 hg9 hv9; have HR9 := Lib.hid hr9; have HG9 := Lib.hid hg9; have HV9 := Lib.hid hv9; clear hr9 hg9 hv9)
                go_meet
                have hb8 : Below w7.heap.size w7 (w7.alloc (.cells #[.slice A5 nb5 c5] 37)) := (Below.refl _ _).alloc (Nat.le_refl _) _
                have hpush := BV.push (q := (d.bodyC, A5, c5)) (HS7.out.below hb8) HW4.out HL4.out (fun k hk => (HLB.out k hk).1) (fun k hk e => by have := (HLB.out k (.inl hk)).2; omega) (HB47.out.trans (hb8.mono HW7.out)) (by
                    have h5 := own_same (w' := w7.alloc (.cells #[.slice A5 nb5 c5] 37)) HO5.out fun k hk => by
                      have hlk := (World.ownsRow.lt HO5.out k hk).2
                      rw [hb8.block k (by have := HB57.out.size; omega), HB57.out.block k hlk]
                    show World.ownsRow _ _ 5 1 (.slice A5 d.bodyC.length c5) d.bodyC.length _
                    rw [HNB.out]
                    have h6 : World.ownsRow _ _ 5 1 _ d.bodyC.length _ := h5
                    rw [HNB.out] at h6
                    exact h6) (fun k hk hc => by
                    have hlk := (World.ownsRow.lt HO5.out k (by rw [← HNB.out]; exact hk)).1
                    have := (HS4.out.ca.lt hc).2
                    omega) (by
                    have e : kB.cells (d.bodyC, A5, c5) = [.slice A5 nb5 c5] := by rw [← HNB.out]; rfl
                    rw [e]
                    exact HR9.out) HG9.out HV9.out
                exact ⟨_, _, l ++ [(d.bodyC, A5, c5)], rfl, rfl, hpush.1, by rw [HTT.out, List.map_append, HIS.out]; rfl, hpush.2.1, hpush.2.2⟩
              · as_aux_lemma =>
                have htf : takes c d = false := by rw [HTK.out, hg, ho, hkq]; simp [hq]
                have HE := Lib.hid (HNO.out htf)
                have n1 : ¬ (kq : Int) < 256 := by omega
                clear hg ho htf HNO ho5 HG5 hkq hrp his hm9
                go_wp2
                go_meet
                exact HE.out
      case rest => as_aux_lemma =>
      obtain ⟨w10, V2, L2, rfl, rfl, hrow, his, hs10, hbv⟩ := hcut
      have HX10 := Lib.hid (hs10.blk HX.out rfl)
      have hs10' : FrS w g p c (ckD (ds.take i)) (fun k => BV u11 L2 k ∨ k = bd) w10 w10 := hs10.keep fun k hk => by
        rcases hk with hk | hk
        · exact hbv k hk
        · exact ⟨(hs10.kb k hk).1, (hs10.kb k hk).2.1⟩
      have HS10 := Lib.hid hs10'
      have HRW := Lib.hid hrow
      have HIS2 := Lib.hid his
      clear hs10 hs10' hrow his hbv HS4 HL4 HLB HX HD4 z1 z2 z3 z4 HIS
      go_upto_region 17 with (go_at_call 15; refine (fr_state HS10.out HOK.out).mono ?_; unfold cstV; rintro e w11 ⟨rfl, hb⟩; have HS11 := Lib.hid (HS10.out.below hb); have HB11 := Lib.hid hb; clear hb)
      have hY : Blk (w11.alloc (.cells #[.int .u64 (c.tok : Int), .bool c.conn, .bool c.greet, .int .u64 (c.iss : Int), .int .u64 (c.rep : Int), .int .u64 (c.ev : Int), .int .i64 (c.wait : Int), .bool c.over, .int .i64 c.reason] 45)) w11.heap.size 45 #[.int .u64 (c.tok : Int), .bool c.conn, .bool c.greet, .int .u64 (c.iss : Int), .int .u64 (c.rep : Int), .int .u64 (c.ev : Int), .int .i64 (c.wait : Int), .bool c.over, .int .i64 c.reason] := Blk.new w11 45 _
      have hb12 : Below w11.heap.size w11 (w11.alloc (.cells #[.int .u64 (c.tok : Int), .bool c.conn, .bool c.greet, .int .u64 (c.iss : Int), .int .u64 (c.rep : Int), .int .u64 (c.ev : Int), .int .i64 (c.wait : Int), .bool c.over, .int .i64 c.reason] 45)) := (Below.refl _ _).alloc (Nat.le_refl _) _
      generalize w11.alloc (.cells #[.int .u64 (c.tok : Int), .bool c.conn, .bool c.greet, .int .u64 (c.iss : Int), .int .u64 (c.rep : Int), .int .u64 (c.ev : Int), .int .i64 (c.wait : Int), .bool c.over, .int .i64 c.reason] 45) = w12 at *
      have hs12 : FrS w g p c (ckD (ds.take i)) (fun k => BV u11 L2 k ∨ k = bd ∨ k = w11.heap.size) w12 w12 := (HS11.out.below hb12).keep fun k hk => by
        rcases hk with hk | hk | hk
        · exact ⟨((HS11.out.below hb12).kb k (.inl hk)).1, ((HS11.out.below hb12).kb k (.inl hk)).2.1⟩
        · exact ⟨((HS11.out.below hb12).kb k (.inr hk)).1, ((HS11.out.below hb12).kb k (.inr hk)).2.1⟩
        · subst hk
          exact ⟨hY.lt, fun hc => by have := (HS11.out.ca.lt hc).2; omega⟩
      have HX12 := Lib.hid ((HS11.out.below hb12).blk HX10.out (.inr rfl))
      have HRW12 := Lib.hid ((HRW.out.below HB11.out).below hb12)
      generalize w11.heap.size = b1 at *
      have HS12 := Lib.hid hs12
      have HY12 := Lib.hid hY
      have hd12 : d.In w12 := (HD.out.below HS12.out.old).el d (List.mem_of_getElem? HDI.out) |>.1
      have HAC := Lib.hid (fr_act HS12.out HOK.out (by have := HM9.out; omega) d hd12 HD1.out.2.1 HD1.out.2.2 (by have := HM9.out; omega))
      have hsd := actF_send HOK.out d (by have := HM9.out; have := Dd.bb_len hd12; have := HD1.out.2.1; omega)
      have hok := actF_ok HOK.out d
      rw [Nat.add_assoc, ← ckD_next HDI.out] at hok
      rw [← ckD_next HDI.out] at HAC
      obtain ⟨c2, hc2⟩ : ∃ c2, (actF c d).2 = c2 := ⟨_, rfl⟩
      obtain ⟨fs, hfs⟩ : ∃ fs, (actF c d).1 = fs := ⟨_, rfl⟩
      rw [hc2, hfs] at HAC hsd
      rw [hc2] at hok
      clear hc2 hfs
      obtain ⟨sd1, sd2, sd3, sd4, sd5⟩ := hsd
      rw [← HIS2.out] at sd1
      have hL2 : L2.length = c2.iss := by rw [← hok.bl, sd1, List.length_map]
      have HOK2 := Lib.hid hok
      have HSD := Lib.hid sd5
      have HSDN := Lib.hid (And.intro sd2 (And.intro sd3 sd4))
      have HIS3 := Lib.hid sd1.symm
      have hm9 : ckD (ds.take (i + 1)) ≤ 8589934592 := Nat.le_trans (ckD_le ds (i + 1)) HCK.out
      have HM92 := Lib.hid hm9
      have y0 : w12.cell? ⟨bd, 0, none⟩ = some (.int .i64 d.K) := HX12.out.cell 0
      have y1 : w12.cell? ⟨bd, 1, none⟩ = some (.int .i64 d.xk) := HX12.out.cell 1
      have y2 : w12.cell? ⟨bd, 2, none⟩ = some (.int .u64 (d.xh : Int)) := HX12.out.cell 2
      have y3 : w12.cell? ⟨bd, 3, none⟩ = some (.slice d.xA d.xn d.xc) := HX12.out.cell 3
      have y4 : w12.cell? ⟨bd, 4, none⟩ = some (.string d.xs) := HX12.out.cell 4
      have y5 : w12.cell? ⟨bd, 5, none⟩ = some (.int .i64 d.k) := HX12.out.cell 5
      have y6 : w12.cell? ⟨bd, 6, none⟩ = some (.int .u64 (d.t : Int)) := HX12.out.cell 6
      have y7 : w12.cell? ⟨bd, 7, none⟩ = some (.int .u64 (d.s : Int)) := HX12.out.cell 7
      have y8 : w12.cell? ⟨bd, 8, none⟩ = some (.int .u64 (d.a : Int)) := HX12.out.cell 8
      have y9 : w12.cell? ⟨bd, 9, none⟩ = some (.slice d.A d.n d.c) := HX12.out.cell 9
      have y10 : w12.cell? ⟨bd, 10, none⟩ = some (.slice d.B d.nb d.cb) := HX12.out.cell 10
      have y11 : w12.cell? ⟨bd, 11, none⟩ = some (.int .i64 d.Z) := HX12.out.cell 11
      clear hs12 hY hb12 hd12 hok sd1 sd2 sd3 sd4 sd5 hm9 HS10 HS11 HB11 HX10 HRW HIS2 HTK HKB HX12 HD1
      go_upto_region 18 with (go_at_call 16; refine HAC.out.mono ?_; rintro e w13 ⟨p13, v13, l13, rfl, hs13, hf13⟩; have HS13 := Lib.hid hs13; have HF13 := Lib.hid hf13; clear hs13 hf13 y0 y1 y2 y3 y4 y5 y6 y7 y8 y9 y10 y11)
      go_upto_region 19 with (go_at_call 15; refine (fr_state HS13.out HOK2.out).mono ?_; unfold cstV; rintro e w14 ⟨rfl, hb⟩; have HS14 := Lib.hid (HS13.out.below hb); have HB14 := Lib.hid hb; clear hb)
      have hZ : Blk (w14.alloc (.cells #[.int .u64 (c2.tok : Int), .bool c2.conn, .bool c2.greet, .int .u64 (c2.iss : Int), .int .u64 (c2.rep : Int), .int .u64 (c2.ev : Int), .int .i64 (c2.wait : Int), .bool c2.over, .int .i64 c2.reason] 45)) w14.heap.size 45 #[.int .u64 (c2.tok : Int), .bool c2.conn, .bool c2.greet, .int .u64 (c2.iss : Int), .int .u64 (c2.rep : Int), .int .u64 (c2.ev : Int), .int .i64 (c2.wait : Int), .bool c2.over, .int .i64 c2.reason] := Blk.new w14 45 _
      have hb15 : Below w14.heap.size w14 (w14.alloc (.cells #[.int .u64 (c2.tok : Int), .bool c2.conn, .bool c2.greet, .int .u64 (c2.iss : Int), .int .u64 (c2.rep : Int), .int .u64 (c2.ev : Int), .int .i64 (c2.wait : Int), .bool c2.over, .int .i64 c2.reason] 45)) := (Below.refl _ _).alloc (Nat.le_refl _) _
      generalize w14.alloc (.cells #[.int .u64 (c2.tok : Int), .bool c2.conn, .bool c2.greet, .int .u64 (c2.iss : Int), .int .u64 (c2.rep : Int), .int .u64 (c2.ev : Int), .int .i64 (c2.wait : Int), .bool c2.over, .int .i64 c2.reason] 45) = w15 at *
      have HS15 := Lib.hid (HS14.out.below hb15)
      have HRW15 := Lib.hid (HS15.out.rowK HRW12.out fun k hk => .inl hk)
      have HY15 := Lib.hid (HS15.out.blk HY12.out (.inr (.inr rfl)))
      have HFR15 := Lib.hid ((HF13.out.row.below HB14.out).below hb15)
      have HFI := Lib.hid HF13.out.is
      have HZ15 := Lib.hid hZ
      have HSN : Hid (∀ W, Below w15.heap.size w15 W → SnS w g nonce win ds (i + 1) c2 p13 u11 L2 W) := Lib.hid fun W hW => by
        have h0 : SnS w g nonce win ds (i + 1) c2 p13 u11 L2 w15 := ⟨HS15.out.keep fun k hk => ⟨(HS15.out.kb k (.inl hk)).1, (HS15.out.kb k (.inl hk)).2.1⟩, HOK2.out, HRW15.out, HIS3.out, HSDN.out.1.trans HNW.out.1, HSDN.out.2.1.trans HNW.out.2⟩
        exact h0.below hW
      clear hZ hb15 HS12 HS13 HS14 HS15 HB14 HF13 HRW12 HY12 HAC
      generalize w14.heap.size = b2 at *
      obtain ⟨A2, cc2, hu11, hcc2, _⟩ := HRW15.out.form
      subst hu11
      obtain ⟨A13, cc13, hv13, hcc13, hm13⟩ := HFR15.out.form
      subst hv13
      rw [hL2] at *
      have HL2 : Hid (L2.length = c2.iss) := Lib.hid (by rw [← HOK2.out.bl, ← HIS3.out, List.length_map])
      have hi9 : c2.iss ≤ 8589934592 := by have := HOK2.out.is; have := HM92.out; omega
      have ew : IntKind.u64.wrap (c2.iss : Int) = (c2.iss : Int) := by simp [IntKind.wrap, IntKind.bits, IntKind.signed]; omega
      have x3 : w15.cell? ⟨b2, 3, none⟩ = some (.int .u64 (c2.iss : Int)) := HZ15.out.cell 3
      have hl13 : l13.length = fs.length := by have := congrArg List.length HFI.out; simpa using this
      have HL13 := Lib.hid hl13
      have h13m : l13.length ≤ 9223372036854775807 := by simp only [maxLen] at hm13; omega
      clear hcc2 hcc13 hm13 hl13
      go_upto_block 2 with fail
      clear x3 ew
      go_wp2_with fail
      go_loopw [20] (fun v wr => ∃ k : Nat, k ≤ l13.length ∧ v = .int .i64 (k : Int) ∧ Below w15.heap.size w15 wr) (fun v _ => l13.length - (intOf v).toNat)
      case atStart => exact ⟨0, Nat.zero_le _, rfl, Below.refl _ _⟩
      case round => as_aux_lemma =>
        obtain ⟨k, hk, rfl, hb⟩ := hrel
        by_cases hlk : k < l13.length
        · obtain ⟨q, hq⟩ : ∃ q, l13[k]? = some q := ⟨_, List.getElem?_eq_getElem hlk⟩
          obtain ⟨x, hx, hqx⟩ : ∃ x, fs[k]? = some x ∧ q.1 = frm x := by
            have h9 : (l13.map (·.1))[k]? = (fs.map frm)[k]? := by rw [HFI.out]
            rw [List.getElem?_map, List.getElem?_map, hq] at h9
            cases hy : fs[k]? with
            | none => rw [hy] at h9; cases h9
            | some x => rw [hy] at h9; exact ⟨x, rfl, by simpa using h9⟩
          have hsd := HSD.out x (List.mem_of_getElem? hx)
          have hrw := HFR15.out.below hb
          obtain ⟨g13, e13, hv, _, _, hcell⟩ := hrw.at_ kB_len hq
          have hel := hrw.els q (List.mem_of_getElem? hq)
          injection hv with hA hN hC
          clear hN hC
          subst hA
          obtain ⟨qb, Aq, cq⟩ := q
          dsimp only at hqx
          subst hqx
          have y0 : wr.cell? ⟨g13, k, none⟩ = some (.slice Aq (frm x).length cq) := by
            have := hcell 0 _ rfl
            simpa [kB, Kd.val] using this
          obtain ⟨_, _, hv9, hn9', _⟩ := own_formL hel
          have hcap : (frm x).length ≤ cq := by
            injection hv9 with _ _ h9
            have h10 : cq = _ := h9
            have h11 : (frm x).length ≤ _ := hn9'
            omega
          have hrd : RdB wr wr.heap.size Aq (frm x).length (frm x) := OwnB.reads (e := 5) (c := cq) hel rfl
          have HUN := Lib.hid (unpk_any hrd hsd.1 hcap)
          have HB := Lib.hid hb
          have HSE := Lib.hid hsd
          have l3 : (0 : Int) ≤ (k : Int) := by omega
          have l4 : (k : Int) < (l13.length : Int) := by omega
          clear hcell hel hrw hv9 hn9' hcap hrd hsd hx hq hb
          obtain ⟨nx, hnx⟩ : ∃ nx, (frm x).length = nx := ⟨_, rfl⟩
          rw [hnx] at y0 HUN
          clear hnx
          obtain ⟨kd, tk, sq, ak, bo⟩ := x
          dsimp only at HUN
          go_upto_region 25 with (go_at_call 17; refine HUN.out.mono ?_; rintro e w16 ⟨A16, c16, rfl, hr16, hb16⟩; have HR16 := Lib.hid hr16; have HB16 := Lib.hid hb16; clear hr16 hb16 y0)
          have hP : Blk (w16.alloc (.cells #[.int .i64 (kd : Int), .int .u64 (tk : Int), .int .u64 (sq : Int), .int .u64 (ak : Int), .slice A16 bo.length c16] 39)) w16.heap.size 39 #[.int .i64 (kd : Int), .int .u64 (tk : Int), .int .u64 (sq : Int), .int .u64 (ak : Int), .slice A16 bo.length c16] := Blk.new w16 39 _
          have hb17 : Below w16.heap.size w16 (w16.alloc (.cells #[.int .i64 (kd : Int), .int .u64 (tk : Int), .int .u64 (sq : Int), .int .u64 (ak : Int), .slice A16 bo.length c16] 39)) := (Below.refl _ _).alloc (Nat.le_refl _) _
          generalize w16.alloc (.cells #[.int .i64 (kd : Int), .int .u64 (tk : Int), .int .u64 (sq : Int), .int .u64 (ak : Int), .slice A16 bo.length c16] 39) = w17 at *
          have HB17 : Hid (Below w15.heap.size w15 w17) := Lib.hid (HB.out.trans ((HB16.out.trans (hb17.mono HB16.out.size)).mono HB.out.size))
          have HR17 : Hid (RdB w17 w17.heap.size A16 bo.length bo) := Lib.hid ((HR16.out.below hb17).more hb17.size)
          have HP := Lib.hid hP
          have HY17 := Lib.hid (HY15.out.below HB17.out HY15.out.lt)
          have HZ17 := Lib.hid (HZ15.out.below HB17.out HZ15.out.lt)
          clear hP hb17 HR16 HB16 HB HUN
          generalize w16.heap.size = bp at *
          have z1 : w17.cell? ⟨bp, 1, none⟩ = some (.int .u64 (tk : Int)) := HP.out.cell 1
          have s1 : w17.cell? ⟨b2, 0, none⟩ = some (.int .u64 (c2.tok : Int)) := HZ17.out.cell 0
          have s2 : w17.cell? ⟨b1, 0, none⟩ = some (.int .u64 (c.tok : Int)) := HY17.out.cell 0
          go_cut [139] (fun v wx => v = .bool false ∧ w17 = wx)
          case first => as_aux_lemma =>
            by_cases ht : tk = c2.tok
            · have e : ((tk : Int) != (c2.tok : Int)) = false := by simp [ht]
              go_wp2
              go_meet
              exact ⟨rfl, rfl⟩
            · have e : ((tk : Int) != (c2.tok : Int)) = true := by simp; omega
              have ht2 : tk = c.tok := by
                rcases HSE.out.2.1 with h | h
                · exact absurd h ht
                · exact h
              have e2 : ((tk : Int) != (c.tok : Int)) = false := by simp [ht2]
              clear ht ht2
              go_wp2
              go_meet
              exact ⟨rfl, rfl⟩
          case rest => as_aux_lemma =>
          obtain ⟨rfl, rfl⟩ := hcut
          clear z1 s1 s2
          rcases HSE.out.2.2 with ⟨h1, h2, h3, h4⟩ | ⟨h1, h2, h3, h4, h5, h6, h7, h8⟩
          · as_aux_lemma =>
            dsimp only at h1 h2 h3 h4
            subst h1 h3 h4
            rw [HNW.out.1] at h2
            subst h2
            have z0 : w17.cell? ⟨bp, 0, none⟩ = some (.int .i64 1) := HP.out.cell 0
            have z2 : w17.cell? ⟨bp, 2, none⟩ = some (.int .u64 (sq : Int)) := HP.out.cell 2
            have z3 : w17.cell? ⟨bp, 3, none⟩ = some (.int .u64 0) := HP.out.cell 3
            have z4 : w17.cell? ⟨bp, 4, none⟩ = some (.slice A16 0 c16) := HP.out.cell 4
            go_wp2
            go_roundw
            case rel => exact ⟨k + 1, by omega, by go_num, HB17.out⟩
            case measure => simp [intOf]; omega
          · as_aux_lemma =>
            dsimp only at h1 h2 h3 h4 h5 h6 h7 h8
            subst h1
            obtain ⟨s9, rfl⟩ : ∃ s9, sq = s9 + 1 := ⟨sq - 1, by omega⟩
            rw [HNW.out.2] at h7
            obtain ⟨qb, hqb⟩ : ∃ qb, L2[s9]? = some qb := ⟨_, List.getElem?_eq_getElem (by have := HL2.out; omega)⟩
            have hbo : qb.1 = bo := by
              have h9 : (L2.map (·.1))[s9]? = c2.bodies[s9]? := by rw [HIS3.out]
              rw [List.getElem?_map, hqb] at h9
              rw [h8, Nat.add_sub_cancel, List.getD_eq_getElem?_getD, ← h9]
              rfl
            have hrw := HRW15.out.below HB17.out
            have hel := hrw.els qb (List.mem_of_getElem? hqb)
            obtain ⟨gA, hA2, hcl⟩ : ∃ gA, A2 = some ⟨gA, 0, none⟩ ∧ w17.cell? ⟨gA, s9, none⟩ = some (.slice qb.2.1 bo.length qb.2.2) := by
              rcases hrw.row.2 with ⟨_, hx⟩ | ⟨gA, cap, cur, e1, hb, hg, hn', hm, hcs, hcell⟩
              · have := HL2.out; omega
              · injection e1 with e1 _ _
                refine ⟨gA, e1, ?_⟩
                have hbk : Blk w17 gA 37 cur := hg
                have hf := kd_flat_at kB_len hqb (j := 0) (u := kB.val qb) rfl
                rw [← hcell, List.getElem?_take] at hf
                split at hf
                · rw [hbk.cell]
                  have h10 : cur[s9]? = some (kB.val qb) := by simpa [kB] using hf
                  rw [h10, ← hbo]
                  rfl
                · cases hf
            subst hA2
            obtain ⟨qbb, Ab, cb⟩ := qb
            dsimp only at hbo hcl
            subst hbo
            have hrb : RdB w17 w17.heap.size Ab qbb.length qbb := OwnB.reads (e := 5) (c := cb) hel rfl
            have z0 : w17.cell? ⟨bp, 0, none⟩ = some (.int .i64 3) := HP.out.cell 0
            have z2 : w17.cell? ⟨bp, 2, none⟩ = some (.int .u64 ((s9 : Int) + 1)) := HP.out.cell 2
            have z3 : w17.cell? ⟨bp, 3, none⟩ = some (.int .u64 (ak : Int)) := HP.out.cell 3
            have z4 : w17.cell? ⟨bp, 4, none⟩ = some (.slice A16 qbb.length c16) := HP.out.cell 4
            have u3 : w17.cell? ⟨b2, 3, none⟩ = some (.int .u64 (c2.iss : Int)) := HZ17.out.cell 3
            have u4 : w17.cell? ⟨b2, 4, none⟩ = some (.int .u64 (c2.rep : Int)) := HZ17.out.cell 4
            have t4 : w17.cell? ⟨b1, 4, none⟩ = some (.int .u64 (c.rep : Int)) := HY17.out.cell 4
            have v1 : ∀ m, (convert 37 9 (.slice A16 qbb.length c16)).run Try.prog (w17.drewN m) = .ok (.string ⟨qbb.toArray⟩) (w17.drewN m) := fun m => run_string_of _ 37 9 5 (HR17.out.drewN m) Try.underlying37 Try.underlying5 Try.underlying9
            have v2 : ∀ m, (convert 37 9 (.slice Ab qbb.length cb)).run Try.prog (w17.drewN m) = .ok (.string ⟨qbb.toArray⟩) (w17.drewN m) := fun m => run_string_of _ 37 9 5 (hrb.drewN m) Try.underlying37 Try.underlying5 Try.underlying9
            have hw9 := HWI.out
            have n1 : ¬ ((s9 : Int) + 1 < 1) := by omega
            have n2 : ¬ ((c2.iss : Int) < (s9 : Int) + 1) := by omega
            have n3 : ¬ ((c2.rep : Int) < (ak : Int)) := by omega
            have n4 : ¬ ((ak : Int) < (c.rep : Int)) := by omega
            have n5 : ¬ ((s9 : Int) + 1 ≤ (ak : Int)) := by omega
            have n6 : ¬ ((ak : Int) + (win : Int) < (s9 : Int) + 1) := by omega
            have w1' : IntKind.u64.wrap (win : Int) = (win : Int) := by simp [IntKind.wrap, IntKind.bits, IntKind.signed]; omega
            have w2' : IntKind.u64.wrap ((ak : Int) + (win : Int)) = (ak : Int) + (win : Int) := by simp [IntKind.wrap, IntKind.bits, IntKind.signed]; omega
            have w3' : IntKind.u64.wrap ((s9 : Int) + 1 - 1) = (s9 : Int) := by simp [IntKind.wrap, IntKind.bits, IntKind.signed]; omega
            have w4' : IntKind.u64.wrap (s9 : Int) = (s9 : Int) := by simp [IntKind.wrap, IntKind.bits, IntKind.signed]; omega
            have l5 : (0 : Int) ≤ (s9 : Int) := by omega
            have l6 : (s9 : Int) < (c2.iss : Int) := by omega
            clear h2 h3 h4 h5 h6 h7 h8 hqb hrw hel hrb HSE hw9 hi9
            go_upto_region 33 with fail
            go_quiet (fail)
            go_wp2
            go_roundw
            case rel => exact ⟨k + 1, by omega, by go_num, below_drewN HB17.out _⟩
            case measure => simp [intOf]; omega
        · have l4 : ¬ (k : Int) < (l13.length : Int) := by omega
          have HE := Lib.hid (HSN.out _ hb)
          clear hb HSN
          go_wp2
          go_roundw
          case rel => exact ⟨i + 1, _, _, _, by omega, by go_num, HE.out⟩
          case measure => simp [intOf]; omega
    · obtain rfl : i = n := by omega
      have l2 : ¬ (i : Int) < (i : Int) := by omega
      go_wp2
      go_ret
      exact ⟨rfl, hos.fr.old⟩
end Go.Proofs.Ytjhkfpemcplaaaa
namespace Go.Proofs.Ytjhkfpemcplaaaa
open Go.Joins Go.ChangeShapes Go.WideShapes Go.ChangeAt Go.RowKit

theorem sends_any (nonce : Nat) (win pat : Int) (A : Option Addr) (cc : Nat) (ds : List Dd) (w : World) (hno : nonce < 18446744073709551616) (hd : DsIn w A ds) (hn9 : ds.length ≤ 1048576) (hck : ckD ds ≤ 8589934592) :
    Calls Try.prog 3 #[.int .u64 (nonce : Int), .int .i64 win, .int .i64 pat, .slice A ds.length cc] w (TrueS w) := by
  by_cases h : 1 ≤ nonce ∧ 1 ≤ win ∧ win ≤ 16 ∧ 1 ≤ pat ∧ pat ≤ 1000
  · obtain ⟨h1, h2, h3, h4, h5⟩ := h
    obtain ⟨win, rfl⟩ := Int.eq_ofNat_of_zero_le (show 0 ≤ win by omega)
    obtain ⟨pat, rfl⟩ := Int.eq_ofNat_of_zero_le (show 0 ≤ pat by omega)
    exact sends_yes nonce win pat A ds.length cc ds w h1 hno (by omega) (by omega) (by omega) (by omega) hd rfl hn9 hck
  · exact sends_no nonce win pat A ds.length cc w h

namespace LawSends
theorem own : ownKnob Try.prog.godebug = none := by kernel_rfl
theorem laidOut : laidOutB Try.prog = true := by kernel_rfl

set_option maxRecDepth 100000 in
theorem lifted (os : Os) (started : os.Started) (H : Type) (enc : TypeId × Value → H) (F : Stop.Interp) :
    ReturnsInHanded {} Try.checked os 3 .any ((Rows.OpenSpec.upto Rows.clientSendsSpec).pre6 enc Try.prog Try.f3 Rows.clientSendsUptoRow.domain false) (((Rows.OpenSpec.upto Rows.clientSendsSpec).at F).post enc Try.prog Try.f3 false true false false) := by
  refine returnsInHanded_of_cond (C := Try.checked) (s := Rows.OpenSpec.upto Rows.clientSendsSpec) (k := Rows.uptoSmall) rfl own started (by kernel_rfl) Try.func3
    (OpenSpec.witness (enc := enc) (C := Try.checked) (s := Rows.OpenSpec.upto Rows.clientSendsSpec) (k := Rows.uptoSmall) rfl false ⟨#[], #[.int .u64 0, .int .i64 0, .int .i64 0, .slice none 0 0], []⟩ 8 (by kernel_rfl) (by kernel_rfl) (by kernel_rfl)
      (x := ([.lit (.int .u64 0), .lit (.int .i64 0), .lit (.int .i64 0), .nil], [], [])) (by kernel_rfl) rfl (by kernel_rfl)) ?_
  intro W base args ds gs before hval0 hW _ hk _
  have hval : ∀ (j : Nat) t v, Try.f3.params[j]? = some t → args[j]? = some v → Value.okWide Try.prog W .any base t v := hval0
  have hW' := hW
  obtain ⟨p, q, hA0, hV, rfl, hfz, hnd⟩ := hW
  have hA : DataW.TrodAll enc Try.prog W 0 (fun _ => true) true Try.f3.params.toList args.toList ds p := hA0
  rw [Try.params3] at hA hval
  obtain ⟨v0, vs0, d0, ds0, p0, q0, hargs, rfl, rfl, h0, r0⟩ := trodAll_cons hA
  obtain ⟨v1, vs1, d1, ds1, p1, q1, rfl, rfl, rfl, h1, r1⟩ := trodAll_cons r0
  obtain ⟨v2, vs2, d2, ds2, p2, q2, rfl, rfl, rfl, h2, r2⟩ := trodAll_cons r1
  obtain ⟨v3, vs3, d3, ds3, p3, q3, rfl, rfl, rfl, h3, r3⟩ := trodAll_cons r2
  obtain ⟨rfl, rfl, rfl⟩ := trodAll_nil r3
  obtain rfl : args = #[v0, v1, v2, v3] := by cases args; simp_all
  obtain ⟨rfl, rfl⟩ := trodVars_none hV
  have k0 := h0
  have k1 := h1
  have k2 := h2
  have k3 := h3
  have lt0 : ∀ x ∈ p0, x.block < W.heap.size := by obtain ⟨m, hm⟩ := k0; exact DataW.trod_lt m _ _ _ hm
  have lt1 : ∀ x ∈ p1, x.block < W.heap.size := by obtain ⟨m, hm⟩ := k1; exact DataW.trod_lt m _ _ _ hm
  have lt2 : ∀ x ∈ p2, x.block < W.heap.size := by obtain ⟨m, hm⟩ := k2; exact DataW.trod_lt m _ _ _ hm
  have lt3 : ∀ x ∈ p3, x.block < W.heap.size := by obtain ⟨m, hm⟩ := k3; exact DataW.trod_lt m _ _ _ hm
  have hb := bulk_bound hk
  have hb0 : Rows.uptoBulk d0 ≤ 1048576 := Nat.le_trans (bulk_mem (l := [d0, d1, d2, d3] ++ []) (by simp)) hb
  have hb1 : Rows.uptoBulk d1 ≤ 1048576 := Nat.le_trans (bulk_mem (l := [d0, d1, d2, d3] ++ []) (by simp)) hb
  have hb2 : Rows.uptoBulk d2 ≤ 1048576 := Nat.le_trans (bulk_mem (l := [d0, d1, d2, d3] ++ []) (by simp)) hb
  have hb3 : Rows.uptoBulk d3 ≤ 1048576 := Nat.le_trans (bulk_mem (l := [d0, d1, d2, d3] ++ []) (by simp)) hb
  obtain ⟨f0, g0⟩ := h0
  obtain ⟨f1, g1⟩ := h1
  obtain ⟨f2, g2⟩ := h2
  obtain ⟨f3, g3⟩ := h3
  obtain ⟨z0, rfl⟩ := okWide_int Try.underlying22 (hval 0 22 v0 rfl rfl)
  obtain ⟨win, rfl⟩ := okWide_int Try.underlying3 (hval 1 3 v1 rfl rfl)
  obtain ⟨pat, rfl⟩ := okWide_int Try.underlying3 (hval 2 3 v2 rfl rfl)
  obtain ⟨A0, l0, c0, rfl⟩ := okWide_slice Try.underlying23 (hval 3 23 v3 rfl rfl)
  obtain ⟨r2, hr2, _, wf2⟩ := DataW.trod_int Try.underlying22 g0
  simp only [Value.cells, List.cons.injEq, and_true, Value.int.injEq, true_and] at hr2
  subst hr2
  obtain ⟨nonce, rfl, hno⟩ := u64_of_wf wf2
  obtain ⟨A, cc, dl, hv, hdi, hdl, hck⟩ := deeds_in g3 hb3
  injection hv with e1 e2 e3
  subst e1 e2 e3
  clear hA0 hval0
  refine (sends_any nonce win pat A0 c0 dl W hno hdi hdl hck).mono fun e W' ⟨he, bel⟩ => ?_
  subst he
  exact ⟨_, rfl, _, _, _, [], _, [], hW', trodAll_mk1 (shut_bool Try.underlying4 _), (trodAll_cons_mk (Below.trod laidOut (by kernel_rfl) (of_decide_eq_true (by kernel_rfl)) k0 bel lt0) (trodAll_cons_mk (Below.trod laidOut (by kernel_rfl) (of_decide_eq_true (by kernel_rfl)) k1 bel lt1) (trodAll_cons_mk (Below.trod laidOut (by kernel_rfl) (of_decide_eq_true (by kernel_rfl)) k2 bel lt2) (trodAll_cons_mk (Below.trod laidOut (by kernel_rfl) (of_decide_eq_true (by kernel_rfl)) k3 bel lt3) trodAll_mk0)))), rfl, bel.frame _, fun h => by cases h⟩

theorem over : Rows.ClientSendsUptoSaid :=
  OpenClaim.holds_of_cond 3 Try.f3 rfl rfl rfl rfl rfl rfl rfl ⟨rfl, rfl, rfl, rfl, rfl⟩ rfl rfl rfl rfl rfl (by kernel_rfl) Try.func3 (by kernel_rfl)
    (of_decide_eq_true (by kernel_rfl)) (by unfold Func.isWrapper; first | (rw [if_pos (by decide +kernel)]; kernel_rfl) | (rw [if_neg (by decide +kernel)]; exact ⟨rfl, rfl⟩))
    (fun os started H enc _ F => lifted os started H enc F)

end LawSends

/-- the statement, its second form -/
theorem clientSendsUpto_holds : Rows.ClientSendsUptoSaid := LawSends.over
end Go.Proofs.Ytjhkfpemcplaaaa
