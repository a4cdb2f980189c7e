/-
  THE STATEMENT 'CodeBack' (effigylaw05.CodeBack), its card: whatever the instructions, the law returns true, and they read behind the call as they read before; where the listed package variables read as the program's text lays them, and the card ties them to that text.
-/
import Derived.Test.YtaeegkljldngmaaDoorWd
import Derived.OpenShut
import Derived.ProofKit
import Derived.Lib.SmallJoins
import Derived.Deep.Slices
import Derived.Deep.Fields
import Derived.ChangeSame
import Derived.Test.YtaeegkljldngmaaDoorTxF
import Derived.Test.YtaeegkljldngmaaDoorTxG
import Derived.Test.YtaeegkljldngmaaDoorCwD
import Derived.Test.YtaeegkljldngmaaDoorRows
import Derived.LaidMore
import Derived.Stop.Joined
import Derived.Lib.LaidTab
import Derived.Stop.LaidErr
import Derived.Handed
import Derived.SizedLaws
import Derived.Test.YtaeegkljldngmaaDoorCards
import Derived.Test.YtaeegkljldngmaaDoorTie
import Derived.SevenTiedAt
import Derived.ChangeOld
import Derived.Below
namespace Go.Proofs.YtaeegkljldngmaaDoor
open Go.Joins Go.ChangeShapes Go.WideShapes Go.RowKit Go.Deep

section
variable {H : Type} {enc : TypeId × Value → H} {P : Program} {w : World} {base : Nat} {spare : Nat → Bool} {held : Bool}

theorem u8_of_wf {z : Int} (h : (Lit.int .u8 z).wf = true) : bv (UInt8.ofNat z.toNat) = .int .u8 z := by
  simp [Lit.wf, IntKind.min, IntKind.max, IntKind.signed, IntKind.bits] at h
  unfold bv
  have : (UInt8.ofNat z.toNat).toNat = z.toNat := by simp [UInt8.toNat_ofNat']; omega
  rw [this, Int.toNat_of_nonneg (by omega)]

/-- a slice of bytes that came in reads as a list of bytes -/
theorem bytes_in {t e : TypeId} {fuel : Nat} {v : Value} {x : DataW H × List MemPlace} (ht : P.underlying t = some (.slice e)) (he : P.underlying e = some (.int .u8)) (hc : P.cellsOf e = 1)
    (h : DataW.trod enc P w base spare held fuel t [v] = some x) :
    ∃ (A : Option Addr) (n c : Nat) (bs : List UInt8), v = .slice A n c ∧ n ≤ c ∧ c ≤ maxLen ∧ RdB w w.heap.size A n bs := by
  rcases open_ints ht he hc h with ⟨hcs, _⟩ | ⟨a, l, c, zs, hcs, _, hl, hm, hz, _, hcell, hwz⟩
  · simp at hcs
    exact ⟨none, 0, 0, [], hcs, Nat.le_refl _, Nat.zero_le _, Reads.none_⟩
  · simp at hcs
    have hlz : l ≤ zs.length := by rw [hz]; split <;> omega
    have hmap : ((zs.take l).map fun z => UInt8.ofNat z.toNat).map bv = (zs.take l).map (Value.int .u8) := by
      rw [List.map_map]
      exact List.map_congr_left fun z hz' => u8_of_wf (hwz z (List.mem_of_mem_take hz'))
    refine ⟨some a, l, c, (zs.take l).map fun z => UInt8.ofNat z.toNat, hcs, hl, hm, ?_, fun h0 => ⟨a, rfl, ?_, fun j u hu => ?_⟩⟩
    · simp; omega
    · have := World.block_lt_of_cell? _ _ (hcell 0 (by omega))
      rwa [block_of_add] at this
    · rw [hmap, List.getElem?_map] at hu
      by_cases hj : j < l
      · rw [hcell j (by omega)]
        rw [List.getElem?_take_of_lt hj, List.getElem?_eq_getElem (by omega)] at hu
        simp only [Option.map_some, Option.some.injEq] at hu
        rw [← hu, List.getD, List.getElem?_eq_getElem (by omega)]
        rfl
      · rw [List.getElem?_eq_none (by simp; omega)] at hu
        simp at hu

/-- a slice of numbers that came in reads as a list of numbers -/
theorem ints_in {t e : TypeId} {fuel : Nat} {v : Value} {x : DataW H × List MemPlace} (ht : P.underlying t = some (.slice e)) (he : P.underlying e = some (.int .i64)) (hc : P.cellsOf e = 1)
    (h : DataW.trod enc P w base spare held fuel t [v] = some x) :
    ∃ (A : Option Addr) (n c : Nat) (zs : List Int), v = .slice A n c ∧ n ≤ c ∧ c ≤ maxLen ∧ Reads w w.heap.size 1 A n (zs.map iv) ∧ ∀ z ∈ zs, (Lit.int .i64 z).wf = true := by
  rcases open_ints ht he hc h with ⟨hcs, _⟩ | ⟨a, l, c, zs, hcs, _, hl, hm, hz, _, hcell, hwz⟩
  · simp at hcs
    exact ⟨none, 0, 0, [], hcs, Nat.le_refl _, Nat.zero_le _, Reads.none_, fun z hz => absurd hz List.not_mem_nil⟩
  · simp at hcs
    have hlz : l ≤ zs.length := by rw [hz]; split <;> omega
    refine ⟨some a, l, c, zs.take l, hcs, hl, hm, ⟨by simp; omega, fun h0 => ⟨a, rfl, ?_, fun j u hu => ?_⟩⟩, fun z hz' => hwz z (List.mem_of_mem_take hz')⟩
    · have h0' : 0 < zs.length := by omega
      have := World.block_lt_of_cell? _ _ (hcell 0 h0')
      rwa [block_of_add] at this
    · rw [List.getElem?_map] at hu
      by_cases hj : j < l
      · rw [hcell j (by omega)]
        rw [List.getElem?_take_of_lt hj, List.getElem?_eq_getElem (by omega)] at hu
        simp only [Option.map_some, Option.some.injEq] at hu
        rw [← hu, List.getD, List.getElem?_eq_getElem (by omega)]
        rfl
      · rw [List.getElem?_eq_none (by simp; omega)] at hu
        simp at hu
end
end Go.Proofs.YtaeegkljldngmaaDoor
namespace Go.Proofs.YtaeegkljldngmaaDoor
open Go.Joins Go.ChangeShapes Go.WideShapes Go.RowKit Go.Deep

section
variable {H : Type} {enc : TypeId × Value → H} {P : Program} {w : World} {base : Nat} {spare : Nat → Bool} {held : Bool}
theorem open_slice_fields {t e : TypeId} {fs : Array Field} {fuel : Nat} {cs : List Value} {x : DataW H × List MemPlace} (ht : P.underlying t = some (.slice e)) (he : P.underlying e = some (.struct fs))
    (hone : oneCellFields P fs = true) (hC : P.cellsOf e = fs.size) (h : DataW.trod enc P w base spare held fuel t cs = some x) :
    (cs = [.slice none 0 0] ∧ x = (.nil, [])) ∨
    ∃ (a : Addr) (len cap m : Nat) (D : Nat → DataW H) (Pl : Nat → List MemPlace), cs = [.slice (some a) len cap] ∧ base ≤ a.block ∧ len ≤ cap ∧ cap ≤ maxLen ∧ m = (if spare a.block then cap else len) ∧
      x = (.slice ((List.range len).map D) ((List.range (m - len)).map fun j => D (len + j)), MemPlace.row a (m * fs.size) ++ (List.range m).flatMap Pl) ∧
      ∀ i, i < m → ∃ (ys : List (DataW H × List MemPlace)) (n : Nat), D i = .agg (ys.map (·.1)) ∧ Pl i = ys.flatMap (·.2) ∧ ys.length = fs.size ∧
        ∀ (j : Nat) (f : Field), fs[j]? = some f → ∃ (v : Value) (y : DataW H × List MemPlace), w.cell? (a.add (i * fs.size + j)) = some v ∧ ys[j]? = some y ∧ DataW.trod enc P w base spare held n f.type [v] = some y := by
  rcases open_slice ht h with h0 | ⟨a, len, cap, m, n, D, Pl, hcs, hb, hl, hm, hmm, hx, hi⟩
  · exact .inl h0
  · refine .inr ⟨a, len, cap, m, D, Pl, hcs, hb, hl, hm, hmm, by rw [hC] at hx; exact hx, fun i him => ?_⟩
    obtain ⟨cs', hc, ht'⟩ := hi i him
    rw [hC] at hc
    obtain ⟨ys, n', hn', hy, hlen, hyl, hf⟩ := DataW.trod_struct he ht'
    obtain ⟨_, hcl, hat⟩ := World.cells?_some hc
    simp only [Prod.mk.injEq] at hy
    refine ⟨ys, n', hy.1, hy.2, hyl, fun j f hj => ?_⟩
    obtain ⟨ho, hk⟩ := hone_of hone j f hj
    have hjl : j < fs.size := (Array.getElem?_eq_some_iff.1 hj).1
    have hcell := hat j hjl
    have hv : cs'[j]? = some (cs'[j]'(by omega)) := List.getElem?_eq_getElem (by omega)
    have h1 := hf j f hj
    rw [ho, hk] at h1
    have hone' : (cs'.drop j).take 1 = [cs'[j]'(by omega)] := by
      rw [List.drop_eq_getElem_cons (by omega)]
      rfl
    rw [hone'] at h1
    have hys : ys[j]? = some (ys[j]'(by omega)) := List.getElem?_eq_getElem (by omega)
    refine ⟨_, _, ?_, hys, h1.trans hys⟩
    rw [← Go.Deep.add_add, hcell, hv]

theorem list_of {α : Type} {R : Nat → α → Prop} : ∀ (n : Nat), (∀ i, i < n → ∃ a, R i a) → ∃ l : List α, l.length = n ∧ ∀ i a, l[i]? = some a → R i a := by
  intro n
  induction n with
  | zero => intro _; exact ⟨[], rfl, fun i a h => by simp at h⟩
  | succ n ih =>
    intro h
    obtain ⟨l, hl, hr⟩ := ih fun i hi => h i (by omega)
    obtain ⟨a, ha⟩ := h n (by omega)
    refine ⟨l ++ [a], by simp [hl], fun i b hb => ?_⟩
    by_cases hi : i < l.length
    · rw [List.getElem?_append_left hi] at hb
      exact hr i b hb
    · rw [List.getElem?_append_right (by omega)] at hb
      have hi2 : i - l.length = 0 := by
        rcases Nat.eq_zero_or_pos (i - l.length) with h0 | h0
        · exact h0
        · rw [List.getElem?_eq_none (by simp; omega)] at hb; cases hb
      rw [hi2] at hb
      simp at hb
      subst hb
      have : i = n := by omega
      subst this
      exact ha
/-- a slice of instructions that came in reads as a list of instructions -/
theorem instrs_in {t e : TypeId} {f0 f1 f2 f3 f4 : Field} {fuel : Nat} {v : Value} {x : DataW H × List MemPlace} (ht : P.underlying t = some (.slice e)) (he : P.underlying e = some (.struct #[f0, f1, f2, f3, f4])) (hone : oneCellFields P #[f0, f1, f2, f3, f4] = true) (hC : P.cellsOf e = 5)
    (h0 : P.underlying f0.type = some (.int .i64)) (h1 : P.underlying f1.type = some (.int .i64)) (h2 : P.underlying f2.type = some (.int .i64)) (h3 : P.underlying f3.type = some (.int .i64)) (h4 : P.underlying f4.type = some (.int .i64)) (h : DataW.trod enc P w base spare held fuel t [v] = some x) :
    ∃ (A : Option Addr) (n c : Nat) (l : List Ins), v = .slice A n c ∧ n ≤ c ∧ c ≤ maxLen ∧ RdI w w.heap.size A n l ∧ (n = 0 ∨ ∃ el sp, x.1 = .slice el sp ∧ el.length = n) := by
  rcases open_slice_fields ht he hone hC h with ⟨hcs, _⟩ | ⟨a, len, cap, m, D, Pl, hcs, _, hl, hm, hmm, hx, hi⟩
  · simp at hcs
    exact ⟨none, 0, 0, [], hcs, Nat.le_refl _, Nat.zero_le _, ⟨rfl, fun i x hx => by simp at hx⟩, .inl rfl⟩
  · simp at hcs
    have hlm : len ≤ m := by rw [hmm]; split <;> omega
    obtain ⟨l, hlen, hvs⟩ := list_of (R := fun i (p : Ins) => ∀ j u, p.cs[j]? = some u → w.cell? (a.add (i * 5 + j)) = some u) len (fun i hil => by
      obtain ⟨ys, n, _, _, _, hf⟩ := hi i (by omega)
      obtain ⟨v0, y0, hc0, _, t0⟩ := hf 0 f0 rfl
      obtain ⟨v1, y1, hc1, _, t1⟩ := hf 1 f1 rfl
      obtain ⟨v2, y2, hc2, _, t2⟩ := hf 2 f2 rfl
      obtain ⟨v3, y3, hc3, _, t3⟩ := hf 3 f3 rfl
      obtain ⟨v4, y4, hc4, _, t4⟩ := hf 4 f4 rfl
      obtain ⟨x0, e0, _, _⟩ := DataW.trod_int h0 t0
      obtain ⟨x1, e1, _, _⟩ := DataW.trod_int h1 t1
      obtain ⟨x2, e2, _, _⟩ := DataW.trod_int h2 t2
      obtain ⟨x3, e3, _, _⟩ := DataW.trod_int h3 t3
      obtain ⟨x4, e4, _, _⟩ := DataW.trod_int h4 t4
      simp only [List.cons.injEq, and_true] at e0 e1 e2 e3 e4
      subst e0 e1 e2 e3 e4
      refine ⟨⟨x0, x1, x2, x3, x4⟩, fun j u hu => ?_⟩
      match j, hu with
      | 0, hu => simp [Ins.cs] at hu; subst hu; exact hc0
      | 1, hu => simp [Ins.cs] at hu; subst hu; exact hc1
      | 2, hu => simp [Ins.cs] at hu; subst hu; exact hc2
      | 3, hu => simp [Ins.cs] at hu; subst hu; exact hc3
      | 4, hu => simp [Ins.cs] at hu; subst hu; exact hc4)
    refine ⟨some a, len, cap, l, hcs, hl, hm, ⟨hlen, fun i y hy => ?_⟩, .inr ⟨_, _, by rw [hx], by simp⟩⟩
    have h6 := hvs i y hy
    obtain ⟨b, off, spot⟩ := a
    have h7 := h6 0 (.int .i64 y.op) rfl
    have hspot : spot = none := by
      have h8 := hvs 0 (l[0]'(by have := (List.getElem?_eq_some_iff.1 hy).1; omega)) (List.getElem?_eq_getElem _) 0 _ rfl
      simpa [Addr.add] using World.cell?_spot h8
    subst hspot
    refine ⟨b, off, rfl, ?_, fun j u hu => ?_⟩
    · have := World.block_lt_of_cell? _ _ h7
      rwa [block_of_add] at this
    · have := h6 j u hu
      have e : (⟨b, off, none⟩ : Addr).add (i * 5 + j) = ⟨b, off + (i * 5 + j), none⟩ := by unfold Addr.add; split <;> simp_all
      rw [e] at this
      exact this
end
end Go.Proofs.YtaeegkljldngmaaDoor
namespace Go.Proofs.YtaeegkljldngmaaDoor
open Go.RowKit

theorem addr_add (g j : Nat) : (⟨g, 0, none⟩ : Addr).add j = ⟨g, j, none⟩ := by
  unfold Addr.add
  split <;> simp_all
theorem own_setN {w : World} {base g j : Nat} {e : TypeId} {size n : Nat} {v : Value} {xs : List Value} (h : w.ownsRow base e size v n xs) (hg : v.ownBlock = some g) (u : Value) : (w.setCell ⟨g, j, none⟩ u).ownsRow base e size v n (xs.set j u) := by
  refine ⟨by rw [List.length_set]; exact h.1, ?_⟩
  rcases h.2 with ⟨rfl, _⟩ | ⟨g', cap, cur, rfl, hb, hgg, hn, hm, hc, ht⟩
  · simp [Value.ownBlock] at hg
  · have : g' = g := by simpa [Value.ownBlock] using hg
    subst this
    refine .inr ⟨g', cap, cur.setIfInBounds j u, rfl, hb, ?_, hn, hm, by simp [hc], ?_⟩
    · simp [World.setCell, Array.getElem?_modify, hgg]
    · rw [← ht]
      simp [List.take_set]
theorem goals_mk : ∀ (l : List Ins) (o : Nat), (∀ k x, l[k]? = some x → jmpO x.op = true → 0 ≤ goalI x ((o + pl l k : Nat) : Int) ∧ goalI x ((o + pl l k : Nat) : Int) ≤ 32767) → goalsF l o
  | [], _, _ => trivial
  | x :: r, o, h => by
    refine ⟨fun hj => ?_, goals_mk r (o + x.size) fun k y hy hj => ?_⟩
    · have := h 0 x rfl hj
      rwa [pl_zero, Nat.add_zero] at this
    · have := h (k + 1) y (by rw [List.getElem?_cons_succ]; exact hy) hj
      rw [pl_cons, ← Nat.add_assoc] at this
      exact this
/-- a row of integers, whatever they are -/
def IRow (w : World) (base : Nat) (e : TypeId) (size : Nat) (v : Value) (n : Nat) : Prop := ∃ xs, w.ownsRow base e size v n xs ∧ ∀ z ∈ xs, ∃ i : Int, z = .int .i64 i
/-- a row of bytes, whatever they are -/
def BRow (w : World) (base : Nat) (v : Value) (n : Nat) : Prop := ∃ bs, OwnB 5 w base v bs ∧ bs.length = n
section
variable {w w' : World} {base : Nat} {e : TypeId} {size n g : Nat} {v v' : Value} {row : Option Nat}
theorem IRow.grown (h : IRow w base e size v n) (hg : w.grownBy w' row) (hne : ∀ k, v.ownBlock = some k → row ≠ some k) : IRow w' base e size v n := by
  obtain ⟨xs, h1, h2⟩ := h
  exact ⟨xs, own_same h1 fun k hk => hg.block k (World.ownsRow.lt h1 k hk).2 fun e => hne k hk e.symm, h2⟩
theorem BRow.grown (h : BRow w base v n) (hg : w.grownBy w' row) (hne : ∀ k, v.ownBlock = some k → row ≠ some k) : BRow w' base v n := by
  obtain ⟨xs, h1, h2⟩ := h
  exact ⟨xs, own_same h1 fun k hk => hg.block k (World.ownsRow.lt h1 k hk).2 fun e => hne k hk e.symm, h2⟩
theorem grown_set (w : World) (g i : Nat) (u : Value) : w.grownBy (w.setCell ⟨g, i, none⟩ u) (some g) := only_setCell (World.grownBy.refl w _) (.inl rfl) u
theorem IRow.set (h : IRow w base e size v n) (hg : v.ownBlock = some g) (i : Nat) (z : Int) : IRow (w.setCell ⟨g, i, none⟩ (.int .i64 z)) base e size v n := by
  obtain ⟨xs, h1, h2⟩ := h
  refine ⟨_, own_setN h1 hg _, fun u hu => ?_⟩
  rcases List.mem_or_eq_of_mem_set hu with hu | rfl
  · exact h2 u hu
  · exact ⟨z, rfl⟩
theorem BRow.set (h : BRow w base v n) (hg : v.ownBlock = some g) (i : Nat) (z : UInt8) : BRow (w.setCell ⟨g, i, none⟩ (.int .u8 (z.toNat : Int))) base v n := by
  obtain ⟨bs, h1, h2⟩ := h
  refine ⟨bs.set i z, ?_, by rw [List.length_set]; exact h2⟩
  have h3 := own_setN (j := i) h1 hg (.int .u8 (z.toNat : Int))
  show World.ownsRow _ _ _ _ _ _ _
  rw [List.length_set, List.map_set]
  exact h3
theorem IRow.lt (h : IRow w base e size v n) : ∀ k, v.ownBlock = some k → base ≤ k ∧ k < w.heap.size := by
  obtain ⟨xs, h1, _⟩ := h
  exact World.ownsRow.lt h1
theorem BRow.lt (h : BRow w base v n) : ∀ k, v.ownBlock = some k → base ≤ k ∧ k < w.heap.size := by
  obtain ⟨xs, h1, _⟩ := h
  exact World.ownsRow.lt h1
theorem IRow.form (h : IRow w base e size v n) : ∃ A c, v = .slice A n c := by
  obtain ⟨xs, h1, _⟩ := h
  obtain ⟨A, c, e, _⟩ := own_form h1
  exact ⟨A, c, e⟩
theorem BRow.form (h : BRow w base v n) : ∃ A c, v = .slice A n c := by
  obtain ⟨xs, h1, rfl⟩ := h
  obtain ⟨A, c, e, _⟩ := h1.form
  exact ⟨A, c, e⟩
/-- a cell of such a row -/
theorem IRow.at_ {A : Option Addr} {c j : Nat} (h : IRow w base e size (.slice A n c) n) (hj : j < n * size) : ∃ g z, A = some ⟨g, 0, none⟩ ∧ g < w.heap.size ∧ w.cell? ⟨g, j, none⟩ = some (.int .i64 z) ∧ w.frozen? ⟨g, j, none⟩ = false := by
  obtain ⟨xs, h1, h2⟩ := h
  have hx : j < xs.length := by rw [h1.1]; exact hj
  have hn : 0 < n := by
    rcases Nat.eq_zero_or_pos n with rfl | h0
    · simp at hj
    · exact h0
  obtain ⟨g, cap, hv, _, hlt⟩ := World.ownsRow.form h1 hn
  injection hv with e1 e2 e3
  subst e1 e3
  obtain ⟨z, hz⟩ := h2 _ (List.getElem_mem hx)
  have h3 := World.ownsRow.cells h1 (g := g) rfl j _ (List.getElem?_eq_getElem hx)
  rw [addr_add, hz] at h3
  exact ⟨g, z, rfl, hlt, h3, World.ownsRow.frozenAt h1 j⟩
theorem BRow.at_ {A : Option Addr} {c j : Nat} (h : BRow w base (.slice A n c) n) (hj : j < n) : ∃ g, ∃ z : UInt8, A = some ⟨g, 0, none⟩ ∧ g < w.heap.size ∧ w.cell? ⟨g, j, none⟩ = some (.int .u8 (z.toNat : Int)) ∧ w.frozen? ⟨g, j, none⟩ = false := by
  obtain ⟨bs, h1, h2⟩ := h
  subst h2
  obtain ⟨g, cap, hv, _, hlt⟩ := World.ownsRow.form h1 (by omega)
  injection hv with e1 e2 e3
  subst e1 e3
  have h3 := World.ownsRow.cells h1 (g := g) rfl j (bv (bs[j])) (by rw [List.getElem?_map, List.getElem?_eq_getElem hj]; rfl)
  rw [addr_add] at h3
  exact ⟨g, _, rfl, hlt, h3, World.ownsRow.frozenAt h1 j⟩
end
/-- what must stand -/
structure Kp (w0 : World) (bvl ov qv : Value) (l : List Ins) (zs : List Int) (w : World) : Prop where
  bel : Below w0.heap.size w0 w
  bo : OwnB 5 w w0.heap.size bvl (bytesL l)
  oo : OwnIn w w0.heap.size ov l
  qo : OwnZ w w0.heap.size qv zs
def KB (bvl ov qv : Value) (k : Nat) : Prop := bvl.ownBlock = some k ∨ ov.ownBlock = some k ∨ qv.ownBlock = some k
section
variable {w0 w w' : World} {bvl ov qv mv pv cv gv v' : Value} {l : List Ins} {zs : List Int} {row : Option Nat}
theorem Kp.grown (h : Kp w0 bvl ov qv l zs w) (hg : w.grownBy w' row) (hr : ∀ k, row = some k → w0.heap.size ≤ k ∧ ¬ KB bvl ov qv k) : Kp w0 bvl ov qv l zs w' :=
  ⟨h.bel.grown hg h.bel.size fun k hk => (hr k hk).1,
    own_same h.bo fun k hk => hg.block k (World.ownsRow.lt h.bo k hk).2 fun e => (hr k e.symm).2 (.inl hk),
    own_same h.oo fun k hk => hg.block k (World.ownsRow.lt h.oo k hk).2 fun e => (hr k e.symm).2 (.inr (.inl hk)),
    own_same h.qo fun k hk => hg.block k (World.ownsRow.lt h.qo k hk).2 fun e => (hr k e.symm).2 (.inr (.inr hk))⟩
theorem Kp.old (h : Kp w0 bvl ov qv l zs w) {k : Nat} (hk : KB bvl ov qv k) : k < w.heap.size := by
  rcases hk with hk | hk | hk
  · exact (World.ownsRow.lt h.bo k hk).2
  · exact (World.ownsRow.lt h.oo k hk).2
  · exact (World.ownsRow.lt h.qo k hk).2
/-- and what is spoilt beside it -/
structure Bks (w0 : World) (bvl ov qv : Value) (l : List Ins) (zs : List Int) (mv pv cv gv : Value) (nm np nc ng : Nat) (w : World) : Prop where
  k : Kp w0 bvl ov qv l zs w
  m : IRow w w0.heap.size 34 5 mv nm
  p : IRow w w0.heap.size 3 1 pv np
  c : BRow w w0.heap.size cv nc
  g : BRow w w0.heap.size gv ng
  mf : ∀ k, mv.ownBlock = some k → ¬ KB bvl ov qv k
  pf : ∀ k, pv.ownBlock = some k → ¬ KB bvl ov qv k
  cf : ∀ k, cv.ownBlock = some k → ¬ KB bvl ov qv k
  gf : ∀ k, gv.ownBlock = some k → ¬ KB bvl ov qv k
  cg : ∀ k, cv.ownBlock = some k → gv.ownBlock ≠ some k
variable {nm np nc ng n' : Nat}
theorem irow_apart {e1 e2 : TypeId} {s1 s2 n1 n2 : Nat} {v u : Value} {b : Nat} (h : IRow w b e1 s1 v n1) (h' : IRow w b e2 s2 u n2) (hne : e1 ≠ e2) : ∀ k, v.ownBlock = some k → u.ownBlock ≠ some k := by
  obtain ⟨xs, h1, _⟩ := h
  obtain ⟨ys, h2, _⟩ := h'
  exact own_apart h1 h2 hne
theorem ibrow_apart {e1 : TypeId} {s1 n1 n2 : Nat} {v u : Value} {b : Nat} (h : IRow w b e1 s1 v n1) (h' : BRow w b u n2) (hne : e1 ≠ 5) : ∀ k, v.ownBlock = some k → u.ownBlock ≠ some k := by
  obtain ⟨xs, h1, _⟩ := h
  obtain ⟨ys, h2, _⟩ := h'
  exact own_apart h1 h2 hne
theorem birow_apart {e1 : TypeId} {s1 n1 n2 : Nat} {v u : Value} {b : Nat} (h : IRow w b e1 s1 v n1) (h' : BRow w b u n2) (hne : e1 ≠ 5) : ∀ k, u.ownBlock = some k → v.ownBlock ≠ some k :=
  fun k hk e => ibrow_apart h h' hne k e hk
/-- where a slice's row may lie behind an append -/
theorem new_free (h : Kp w0 bvl ov qv l zs w) {v : Value} (hv : ∀ k, v.ownBlock = some k → ¬ KB bvl ov qv k) (hn : v'.ownBlock = v.ownBlock ∨ ∃ j, v'.ownBlock = some j ∧ w.heap.size ≤ j) : ∀ k, v'.ownBlock = some k → ¬ KB bvl ov qv k := by
  intro k hk
  rcases hn with e | ⟨j, e, hj⟩
  · exact hv k (e ▸ hk)
  · rw [hk] at e
    injection e with e
    subst e
    exact fun hkb => absurd (h.old hkb) (by omega)
theorem Bks.turnM (h : Bks w0 bvl ov qv l zs mv pv cv gv nm np nc ng w) (hg : w.grownBy w' mv.ownBlock) (hm : IRow w' w0.heap.size 34 5 v' n') (hn : v'.ownBlock = mv.ownBlock ∨ ∃ j, v'.ownBlock = some j ∧ w.heap.size ≤ j) : Bks w0 bvl ov qv l zs v' pv cv gv n' np nc ng w' :=
  ⟨h.k.grown hg fun k hk => ⟨(h.m.lt k hk).1, h.mf k hk⟩, hm, h.p.grown hg fun k hk => irow_apart h.p h.m (by decide) k hk, h.c.grown hg (birow_apart h.m h.c (by decide)), h.g.grown hg (birow_apart h.m h.g (by decide)), new_free h.k h.mf hn, h.pf, h.cf, h.gf, h.cg⟩
theorem Bks.turnP (h : Bks w0 bvl ov qv l zs mv pv cv gv nm np nc ng w) (hg : w.grownBy w' pv.ownBlock) (hp : IRow w' w0.heap.size 3 1 v' n') (hn : v'.ownBlock = pv.ownBlock ∨ ∃ j, v'.ownBlock = some j ∧ w.heap.size ≤ j) : Bks w0 bvl ov qv l zs mv v' cv gv nm n' nc ng w' :=
  ⟨h.k.grown hg fun k hk => ⟨(h.p.lt k hk).1, h.pf k hk⟩, h.m.grown hg fun k hk => irow_apart h.m h.p (by decide) k hk, hp, h.c.grown hg (birow_apart h.p h.c (by decide)), h.g.grown hg (birow_apart h.p h.g (by decide)), h.mf, new_free h.k h.pf hn, h.cf, h.gf, h.cg⟩
theorem Bks.turnC (h : Bks w0 bvl ov qv l zs mv pv cv gv nm np nc ng w) (hg : w.grownBy w' cv.ownBlock) (hc : BRow w' w0.heap.size v' n') (hn : v'.ownBlock = cv.ownBlock ∨ ∃ j, v'.ownBlock = some j ∧ w.heap.size ≤ j) : Bks w0 bvl ov qv l zs mv pv v' gv nm np n' ng w' :=
  ⟨h.k.grown hg fun k hk => ⟨(h.c.lt k hk).1, h.cf k hk⟩, h.m.grown hg (ibrow_apart h.m h.c (by decide)), h.p.grown hg (ibrow_apart h.p h.c (by decide)), hc, h.g.grown hg fun k hk e => h.cg k e hk, h.mf, h.pf, new_free h.k h.cf hn, h.gf, fun k hk e => by
    rcases hn with e1 | ⟨j, e1, hj⟩
    · exact h.cg k (e1 ▸ hk) e
    · rw [hk] at e1
      injection e1 with e1
      subst e1
      exact absurd (h.g.lt k e).2 (by omega)⟩
theorem Bks.turnG (h : Bks w0 bvl ov qv l zs mv pv cv gv nm np nc ng w) (hg : w.grownBy w' gv.ownBlock) (hc : BRow w' w0.heap.size v' n') (hn : v'.ownBlock = gv.ownBlock ∨ ∃ j, v'.ownBlock = some j ∧ w.heap.size ≤ j) : Bks w0 bvl ov qv l zs mv pv cv v' nm np nc n' w' :=
  ⟨h.k.grown hg fun k hk => ⟨(h.g.lt k hk).1, h.gf k hk⟩, h.m.grown hg (ibrow_apart h.m h.g (by decide)), h.p.grown hg (ibrow_apart h.p h.g (by decide)), h.c.grown hg fun k hk => h.cg k hk, hc, h.mf, h.pf, h.cf, new_free h.k h.gf hn, fun k hk e => by
    rcases hn with e1 | ⟨j, e1, hj⟩
    · exact h.cg k hk (e1 ▸ e)
    · rw [e] at e1
      injection e1 with e1
      subst e1
      exact absurd (h.c.lt k hk).2 (by omega)⟩
theorem Bks.setM (h : Bks w0 bvl ov qv l zs mv pv cv gv nm np nc ng w) {b : Nat} (hb : mv.ownBlock = some b) (i : Nat) (z : Int) : Bks w0 bvl ov qv l zs mv pv cv gv nm np nc ng (w.setCell ⟨b, i, none⟩ (.int .i64 z)) :=
  h.turnM (w' := w.setCell ⟨b, i, none⟩ (.int .i64 z)) (by rw [hb]; exact grown_set w b i _) (h.m.set hb i z) (.inl rfl)
theorem Bks.setP (h : Bks w0 bvl ov qv l zs mv pv cv gv nm np nc ng w) {b : Nat} (hb : pv.ownBlock = some b) (i : Nat) (z : Int) : Bks w0 bvl ov qv l zs mv pv cv gv nm np nc ng (w.setCell ⟨b, i, none⟩ (.int .i64 z)) :=
  h.turnP (w' := w.setCell ⟨b, i, none⟩ (.int .i64 z)) (by rw [hb]; exact grown_set w b i _) (h.p.set hb i z) (.inl rfl)
theorem Bks.setC (h : Bks w0 bvl ov qv l zs mv pv cv gv nm np nc ng w) {b : Nat} (hb : cv.ownBlock = some b) (i : Nat) (z : UInt8) : Bks w0 bvl ov qv l zs mv pv cv gv nm np nc ng (w.setCell ⟨b, i, none⟩ (.int .u8 (z.toNat : Int))) :=
  h.turnC (w' := w.setCell ⟨b, i, none⟩ (.int .u8 (z.toNat : Int))) (by rw [hb]; exact grown_set w b i _) (h.c.set hb i z) (.inl rfl)
theorem Bks.pure (h : Bks w0 bvl ov qv l zs mv pv cv gv nm np nc ng w) (hb : Below w.heap.size w w') : Bks w0 bvl ov qv l zs mv pv cv gv nm np nc ng w' := by
  have hg : w.grownBy w' none := only_of_below hb none
  exact ⟨h.k.grown hg (fun k hk => by cases hk), h.m.grown hg (fun k _ e => by cases e), h.p.grown hg (fun k _ e => by cases e), h.c.grown hg (fun k _ e => by cases e), h.g.grown hg (fun k _ e => by cases e), h.mf, h.pf, h.cf, h.gf, h.cg⟩
end
theorem insC_int (l : List Ins) : ∀ z ∈ insC l, ∃ i : Int, z = .int .i64 i := by
  intro z hz
  obtain ⟨x, _, hz⟩ := List.mem_flatMap.1 hz
  simp only [Ins.cs, List.mem_cons, List.not_mem_nil, or_false] at hz
  rcases hz with rfl | rfl | rfl | rfl | rfl <;> exact ⟨_, rfl⟩
theorem ints_int (zs : List Int) : ∀ z ∈ zs.map iv, ∃ i : Int, z = .int .i64 i := by
  intro z hz
  obtain ⟨x, _, rfl⟩ := List.mem_map.1 hz
  exact ⟨x, rfl⟩
/-! ## Appending to them -/
section
variable {w : World} {ops : Array Oper} {rest : List Oper} {o : Oper} {a : Act} {Q : Exit → Act → World → Prop}
theorem grew {w : World} {v v' : Value} (h3 : v'.ownBlock = v.ownBlock ∨ v'.ownBlock = some w.heap.size) : v'.ownBlock = v.ownBlock ∨ ∃ j, v'.ownBlock = some j ∧ w.heap.size ≤ j := by
  rcases h3 with e | e
  · exact .inl e
  · exact .inr ⟨_, e, Nat.le_refl _⟩
theorem app_m (hgd : o.guard = none) (s x : Operand) (ho : o.op = .call { callee := .builtin .append, args := #[s, x], argTypes := #[22, 22] })
    (base : Nat) (v : Value) (n : Nat) (hs : a.eval s = v) (hown : IRow w base 34 5 v n) (B : Nat) (A : Option Addr) (c : Nat) (y : Ins) (hx : a.eval x = .slice A 1 c) (hr : Reads w B 5 A 1 y.cs)
    (hb : n ≤ 1000000) (hbase : base ≤ w.heap.size)
    (h : ∀ v' w', IRow w' base 34 5 v' (n + 1) → w.grownBy w' v.ownBlock → (v'.ownBlock = v.ownBlock ∨ ∃ j, v'.ownBlock = some j ∧ w.heap.size ≤ j) → wpList Tryd.prog ops Q rest (a.put o.dst v') w') : wpList Tryd.prog ops Q (o :: rest) a w := by
  obtain ⟨i0, hi, hz0, hz1, hz2⟩ := info_parts info34
  obtain ⟨xs, h1, h2⟩ := hown
  refine wpList_append_any w hgd s x 22 ho base 34 i0 _ 5 40 Tryd.underlying22 hi hz0 hz1 hz2 rfl (by decide) v n xs hs h1 B A 1 c y.cs hx hr (fun u hu => insC_one [y] u (by simpa [insC] using hu)) (by simp only [maxLen]; omega) (by omega) hbase fun v' w' k1 k2 k3 => h v' w' ⟨_, k1, fun z hz => ?_⟩ k2 (grew k3)
  rcases List.mem_append.1 hz with hz | hz
  · exact h2 z hz
  · exact insC_int [y] z (by simpa [insC] using hz)
theorem app_p (hgd : o.guard = none) (s x : Operand) (ho : o.op = .call { callee := .builtin .append, args := #[s, x], argTypes := #[28, 28] })
    (base : Nat) (v : Value) (n : Nat) (hs : a.eval s = v) (hown : IRow w base 3 1 v n) (B : Nat) (A : Option Addr) (c : Nat) (y : Int) (hx : a.eval x = .slice A 1 c) (hr : Reads w B 1 A 1 [iv y])
    (hb : n ≤ 1000000) (hbase : base ≤ w.heap.size)
    (h : ∀ v' w', IRow w' base 3 1 v' (n + 1) → w.grownBy w' v.ownBlock → (v'.ownBlock = v.ownBlock ∨ ∃ j, v'.ownBlock = some j ∧ w.heap.size ≤ j) → wpList Tryd.prog ops Q rest (a.put o.dst v') w') : wpList Tryd.prog ops Q (o :: rest) a w := by
  obtain ⟨i0, hi, hz0, hz1, hz2⟩ := info_parts info3
  obtain ⟨xs, h1, h2⟩ := hown
  refine wpList_append_any w hgd s x 28 ho base 3 i0 _ 1 8 Tryd.underlying28 hi hz0 hz1 hz2 rfl (by decide) v n xs hs h1 B A 1 c [iv y] hx hr (iv_one [y]) (by simp only [maxLen]; omega) (by omega) hbase fun v' w' k1 k2 k3 => h v' w' ⟨_, k1, fun z hz => ?_⟩ k2 (grew k3)
  rcases List.mem_append.1 hz with hz | hz
  · exact h2 z hz
  · exact ints_int [y] z hz
theorem app_b (hgd : o.guard = none) (s x : Operand) (ho : o.op = .call { callee := .builtin .append, args := #[s, x], argTypes := #[24, 24] })
    (base : Nat) (v : Value) (n : Nat) (hs : a.eval s = v) (hown : BRow w base v n) (B : Nat) (A : Option Addr) (c : Nat) (y : UInt8) (hx : a.eval x = .slice A 1 c) (hr : Reads w B 1 A 1 [bv y])
    (hb : n ≤ 1000000) (hbase : base ≤ w.heap.size)
    (h : ∀ v' w', BRow w' base v' (n + 1) → w.grownBy w' v.ownBlock → (v'.ownBlock = v.ownBlock ∨ ∃ j, v'.ownBlock = some j ∧ w.heap.size ≤ j) → wpList Tryd.prog ops Q rest (a.put o.dst v') w') : wpList Tryd.prog ops Q (o :: rest) a w := by
  obtain ⟨i0, hi, hz0, hz1, hz2⟩ := info_parts info5
  obtain ⟨xs, h1, h2⟩ := hown
  subst h2
  refine wpList_append_any w hgd s x 24 ho base 5 i0 _ 1 1 Tryd.underlying24 hi hz0 hz1 hz2 rfl (by decide) v xs.length (xs.map bv) hs h1 B A 1 c [bv y] hx hr (bv_one [y]) (by simp only [maxLen]; omega) (by omega) hbase fun v' w' k1 k2 k3 => h v' w' ⟨xs ++ [y], ?_, by simp⟩ k2 (grew k3)
  show World.ownsRow _ _ _ _ _ _ _
  rw [List.length_append, List.map_append]
  exact k1
end
theorem IRow.five {w : World} {base n c k : Nat} {A : Option Addr} (h : IRow w base 34 5 (.slice A n c) n) (hk : k < n) : ∃ g z0 z1 z2 z3 z4, A = some ⟨g, 0, none⟩ ∧ g < w.heap.size ∧ (w.cell? ⟨g, k * 5, none⟩ = some (.int .i64 z0) ∧ w.cell? ⟨g, k * 5 + 1, none⟩ = some (.int .i64 z1) ∧ w.cell? ⟨g, k * 5 + 2, none⟩ = some (.int .i64 z2) ∧ w.cell? ⟨g, k * 5 + 3, none⟩ = some (.int .i64 z3) ∧ w.cell? ⟨g, k * 5 + 4, none⟩ = some (.int .i64 z4)) ∧ w.frozen? ⟨g, k * 5, none⟩ = false ∧ w.frozen? ⟨g, k * 5 + 1, none⟩ = false ∧ w.frozen? ⟨g, k * 5 + 2, none⟩ = false ∧ w.frozen? ⟨g, k * 5 + 3, none⟩ = false ∧ w.frozen? ⟨g, k * 5 + 4, none⟩ = false := by
  obtain ⟨g0, z0, e0, h0, c0, f0⟩ := h.at_ (j := k * 5) (by omega)
  subst e0
  obtain ⟨g1, z1, e1, _, c1, f1⟩ := h.at_ (j := k * 5 + 1) (by omega)
  obtain ⟨g2, z2, e2, _, c2, f2⟩ := h.at_ (j := k * 5 + 2) (by omega)
  obtain ⟨g3, z3, e3, _, c3, f3⟩ := h.at_ (j := k * 5 + 3) (by omega)
  obtain ⟨g4, z4, e4, _, c4, f4⟩ := h.at_ (j := k * 5 + 4) (by omega)
  simp only [Option.some.injEq, Addr.mk.injEq, and_true] at e1 e2 e3 e4
  subst e1 e2 e3 e4
  exact ⟨_, z0, z1, z2, z3, z4, rfl, h0, ⟨c0, c1, c2, c3, c4⟩, f0, f1, f2, f3, f4⟩
end Go.Proofs.YtaeegkljldngmaaDoor
namespace Go.Proofs.YtaeegkljldngmaaDoor
open Go.RowKit

theorem insL_refl (l : List Ins) : insL l l = true := (insL_iff l l).2 rfl
theorem inst_eq (A A' : Option Addr) (n n' c c' : Nat) (l : List Ins) (w : World) (h : RdI w w.heap.size A n l) (h' : RdI w w.heap.size A' n' l) (hn : n ≤ 9223372036854775807) :
    Calls Tryd.prog 7 #[.slice A n c, .slice A' n' c'] w fun e w' => e = .returned (.bool true) ∧ Below w.heap.size w w' :=
  (instrs_any A A' n n' c c' _ _ l l w h h' hn).mono fun e w' hp => by
    have hb := hp.below
    obtain ⟨h1, _⟩ := hp
    rw [insL_refl] at h1
    exact ⟨h1, hb⟩
theorem same_eq (A A' : Option Addr) (n n' c c' : Nat) (l : List UInt8) (w : World) (h : RdB w w.heap.size A n l) (h' : RdB w w.heap.size A' n' l) (hn : n ≤ 9223372036854775807) :
    Calls Tryd.prog 10 #[.slice A n c, .slice A' n' c'] w fun e w' => e = .returned (.bool true) ∧ Below w.heap.size w w' :=
  (same_any A A' n n' c c' _ _ l l w h h' hn).mono fun e w' hp => by
    have hb := hp.below
    obtain ⟨h1, _⟩ := hp
    rw [decide_eq_true rfl] at h1
    exact ⟨h1, hb⟩
theorem dec_eq (A : Option Addr) (n c : Nat) (l : List Ins) (w : World) (hr : RdB w w.heap.size A n (bytesL l)) (hl : ∀ x ∈ l, mayE x = 0) (hlen : (bytesL l).length ≤ 32767) :
    Calls Tryd.prog 6 #[.slice A n c] w fun e w' => Below w.heap.size w w' ∧ ∃ A1 c1 A2 c2, e = .returned (.tuple #[.slice A1 l.length c1, .slice A2 l.length c2, .int .i64 0, .int .i64 0]) ∧ OwnIn w' w.heap.size (.slice A1 l.length c1) l ∧ OwnZ w' w.heap.size (.slice A2 l.length c2) (natZ (plsN 0 l)) :=
  (Decode_any A n c (bytesL l) w hr).mono fun e w' h => by
    rw [decL_bytes hl hlen] at h
    obtain ⟨h1, lv, pv, rfl, h2, h3⟩ := h
    obtain ⟨A1, c1, e1, _⟩ := own_form h2
    obtain ⟨A2, c2, e2, _⟩ := own_form h3
    have hz : (natZ (plsN 0 l)).length = l.length := by unfold natZ; rw [List.length_map, plsN_len]
    rw [hz] at e2
    dsimp only at e1
    subst e1 e2
    exact ⟨h1, A1, c1, A2, c2, rfl, h2, h3⟩
theorem enc_eq (A : Option Addr) (n c : Nat) (l : List Ins) (w : World) (hr : RdI w w.heap.size A n l) (hn : n ≤ 3518437208883) (hl : ∀ x ∈ l, mayE x = 0) (hlen : (bytesL l).length ≤ 32767) :
    Calls Tryd.prog 5 #[.slice A n c] w fun e w' => ∃ A1 c1, e = .returned (.tuple #[.slice A1 (bytesL l).length c1, .int .i64 0]) ∧ OwnB 5 w' w.heap.size (.slice A1 (bytesL l).length c1) (bytesL l) ∧ Below w.heap.size w w' :=
  (Big.Encode_any A n c l w hr hn).mono fun e w' h => by
    have hE : encF [] l = (0, bytesL l) := by rw [encF_ok l [] hl, List.nil_append, if_neg (by omega)]
    rw [hE] at h
    obtain ⟨v, rfl, h2, h3⟩ := h
    obtain ⟨A1, c1, rfl, _⟩ := h2.form
    exact ⟨A1, c1, rfl, h2, h3⟩
theorem print_eq (A : Option Addr) (n c : Nat) (l : List Ins) (w : World) (hr : RdB w w.heap.size A n (bytesL l)) (hl : ∀ x ∈ l, mayE x = 0) (hlen : (bytesL l).length ≤ 32767) (hg : goalsF l 0) (htab : Lib.TabIs Tryd.prog w "internal/strconv.uint64pow10" .u64 Lib.pow10Tab) :
    Calls Tryd.prog 8 #[.slice A n c] w fun e w' => e = .returned (.tuple #[.string (txt (textF l 0)), .int .i64 0]) ∧ Below w.heap.size w w' := Print_any A n c l w hr hl hlen hg htab
theorem parse_eq (l : List Ins) (m : Int) (w : World) (hl : ∀ x ∈ l, mayE x = 0) (hlen : (bytesL l).length ≤ 32767) (hg : goalsF l 0)
    (hm : w.cell? ⟨1, 0, none⟩ = some (.int .i64 m)) (htab : Lib.TabIs Tryd.prog w "internal/strconv.uint64pow10" .u64 Lib.pow10Tab) :
    Calls Tryd.prog 9 #[.string (txt (textF l 0))] w fun e w' => ∃ A1 c1, e = .returned (.tuple #[.slice A1 (bytesL l).length c1, .int .i64 0, .int .i64 0]) ∧ OwnB 5 w' w.heap.size (.slice A1 (bytesL l).length c1) (bytesL l) ∧ Below w.heap.size w w' :=
  (Parse_any l m w hl hlen hg hm htab).mono fun e w' h => by
    obtain ⟨v, rfl, h2, h3⟩ := h
    obtain ⟨A1, c1, rfl, _⟩ := h2.form
    exact ⟨A1, c1, rfl, h2, h3⟩
theorem own_rdb {w : World} {base c : Nat} {A : Option Addr} {bs : List UInt8} (h : OwnB 5 w base (.slice A bs.length c) bs) : RdB w w.heap.size A bs.length bs := OwnB.reads h rfl
theorem own_rdi {w : World} {base c : Nat} {A : Option Addr} {l : List Ins} (h : OwnIn w base (.slice A l.length c) l) : RdI w w.heap.size A l.length l := RdI.of_own h
theorem jmpO_yes {op : Int} (h1 : 18 ≤ op) (h2 : op ≤ 20) : jmpO op = true := by
  unfold jmpO
  obtain rfl | rfl | rfl : op = 18 ∨ op = 19 ∨ op = 20 := by omega
  all_goals decide
theorem jmpO_sz {op : Int} (h : jmpO op = true) (hin : inO op = true) : szO op = 3 := by
  rw [szO_in hin, jmp_has h]
  decide
theorem jmpO_rng {op : Int} (h : jmpO op = true) : 18 ≤ op ∧ op ≤ 20 := by
  simp only [jmpO, Bool.or_eq_true, decide_eq_true_eq] at h
  omega
set_option maxRecDepth 100000 in
set_option maxHeartbeats 8000000 in
theorem back_no (A : Option Addr) (n c : Nat) (l : List Ins) (er : Int) (w : World) (hr : RdI w w.heap.size A n l) (hn : n ≤ 3518437208883) (hE : encF [] l = (er, [])) (hne : er ≠ 0) : Calls Tryd.prog 3 #[.slice A n c] w (AwP w) := by
  have H4 := Lib.hid awake_any
  have HRD := Lib.hid hr
  have H5 := Lib.hid fun w h => (Big.Encode_any A n c l w h hn).mono fun e w' (hp : EncP (encF [] l) w e w') => (by
    rw [hE] at hp
    obtain ⟨v, rfl, h2, h3⟩ := hp
    obtain ⟨A1, c1, rfl, _⟩ := h2.form
    exact ⟨A1, c1, rfl, h3⟩ : ∃ A1 c1, e = .returned (.tuple #[.slice A1 0 c1, .int .i64 er]) ∧ Below w.heap.size w w')
  have t1 : (er != 0) = true := by simpa using hne
  clear hr hn hE hne
  go_enter Tryd.func3, Tryd.ntmps3
  go_wp2_with (first
    | (go_at_call 4; refine (H4.out _).mono ?_; rintro e w1 ⟨rfl, hb1⟩; have HB1 := Lib.hid hb1; have HR1 := Lib.hid ((HRD.out.below hb1).more hb1.size); clear hb1)
    | (go_at_call 5; refine (H5.out _ HR1.out).mono ?_; rintro e w2 ⟨A1, c1, rfl, hb2⟩; have HB2 := Lib.hid (HB1.out.trans (hb2.mono HB1.out.size)); clear hb2))
  go_ret
  exact ⟨rfl, HB2.out⟩
end Go.Proofs.YtaeegkljldngmaaDoor
namespace Go.Proofs.YtaeegkljldngmaaDoor
open Go.RowKit

set_option maxRecDepth 100000 in
set_option maxHeartbeats 16000000 in
theorem back_yes (A : Option Addr) (c : Nat) (l : List Ins) (m : Int) (w : World) (hr : RdI w w.heap.size A l.length l) (hmay : ∀ x ∈ l, mayE x = 0) (hlen : (bytesL l).length ≤ 32767)
    (hm : w.cell? ⟨1, 0, none⟩ = some (.int .i64 m)) (htab : Lib.TabIs Tryd.prog w "internal/strconv.uint64pow10" .u64 Lib.pow10Tab) :
    Calls Tryd.prog 3 #[.slice A l.length c] w (AwP w) := by
  have hll : l.length ≤ 32767 := Nat.le_trans (ins_len l hmay) hlen
  have H4 := Lib.hid awake_any
  have HRD := Lib.hid hr
  have HTB := Lib.hid fun W (h : Below w.heap.size w W) => Joins.tab_stays pow10_named htab h (Nat.le_refl _)
  have hm1 : 1 < w.heap.size := World.block_lt_of_cell? _ _ hm
  have HMB := Lib.hid fun W (h : Below w.heap.size w W) => (h.cell (p := ⟨1, 0, none⟩) hm1).trans hm
  have H5 := Lib.hid fun A n c W h hn => enc_eq A n c l W h hn hmay hlen
  have H6 := Lib.hid fun A n c W h => dec_eq A n c l W h hmay hlen
  have H7 := Lib.hid fun A A' c c' W h h' => inst_eq A A' l.length l.length c c' l W h h' (by omega)
  have H8 := Lib.hid fun (hg : goalsF l 0) A n c W h ht => print_eq A n c l W h hmay hlen hg ht
  have H9 := Lib.hid fun (hg : goalsF l 0) W h ht => parse_eq l m W hmay hlen hg h ht
  have HS := Lib.hid fun A A' c c' W h h' => same_eq A A' (bytesL l).length (bytesL l).length c c' (bytesL l) W h h' (by omega)
  have HZ : Hid (∀ k x, l[k]? = some x → (natZ (plsN 0 l))[k]? = some (pl l k : Int)) := Lib.hid fun k x hx => by
    have h1 := plsN_at l 0 k (List.getElem?_eq_some_iff.1 hx).1
    unfold natZ
    rw [List.getElem?_map, h1]
    simp
  have HZL : Hid ((natZ (plsN 0 l)).length = l.length) := Lib.hid (by unfold natZ; rw [List.length_map, plsN_len])
  have HPX : Hid (∀ k x, l[k]? = some x → pl l k + x.size ≤ 32767 ∧ inO x.op = true ∧ -32768 ≤ x.z ∧ x.z ≤ 32767 ∧ (x.size : Int) = szO x.op ∧ pl l (k + 1) = pl l k + x.size) := Lib.hid fun k x hx => by
    have h1 := plI_lt l k x hx
    have h2 := bytesL_len l hmay
    have h3 := hmay x (List.mem_of_getElem? hx)
    have h4 := may_bounds h3
    have hkl := (List.getElem?_eq_some_iff.1 hx).1
    refine ⟨by omega, (mayE_ok h3).1, h4.2.2.2.1, h4.2.2.2.2, (size_cast (mayE_ok h3).1).1, ?_⟩
    rw [pl_succ l k hkl]
    unfold insD
    rw [List.getD_eq_getElem?_getD, hx]
    rfl
  have HGM : Hid ((∀ k x, l[k]? = some x → jmpO x.op = true → 0 ≤ goalI x (pl l k : Int) ∧ goalI x (pl l k : Int) ≤ 32767) → goalsF l 0) := Lib.hid fun h => goals_mk l 0 fun k x hx hj => by
    rw [Nat.zero_add]
    exact h k x hx hj
  generalize natZ (plsN 0 l) = zs at *
  clear hr hm htab
  go_enter Tryd.func3, Tryd.ntmps3
  go_upto_region 3 with (go_at_call 4; refine (H4.out _).mono ?_; rintro e w1 ⟨rfl, hb1⟩; have HB1 := Lib.hid hb1; clear hb1)
  have HR1 := Lib.hid ((HRD.out.below HB1.out).more HB1.out.size)
  go_upto_region 4 with (go_at_call 5; refine (H5.out A _ c _ HR1.out (by omega)).mono ?_; rintro e w2 ⟨Ab, cb, rfl, hob, hb2⟩; have HBO := Lib.hid hob; have HB2 := Lib.hid (HB1.out.trans (hb2.mono HB1.out.size)); have hw12 := hb2.size; clear hb2 hob)
  have HBR := Lib.hid (own_rdb HBO.out)
  go_upto_region 7 with (go_at_call 6; refine (H6.out Ab _ cb _ HBR.out).mono ?_; rintro e w3 ⟨hb3, Am, cm, Ap, cp, rfl, hom, hop⟩; have HMO := Lib.hid hom; have HPO := Lib.hid hop; have HBO3 := Lib.hid (own_bel HBO.out hb3); have HB3 := Lib.hid (HB2.out.trans (hb3.mono HB2.out.size)); have hw23 := hb3.size; clear hb3 hom hop)
  have HBL := Lib.hid (World.ownsRow.lt HBO.out)
  clear HR1 HBR HBO
  have HR3 := Lib.hid ((HRD.out.below HB3.out).more HB3.out.size)
  have HMR := Lib.hid (own_rdi HMO.out)
  go_upto_block 0 with (go_at_call 7; refine (H7.out A Am c cm _ HR3.out HMR.out).mono ?_; rintro e w4 ⟨rfl, hb4⟩; have HMO4 := Lib.hid (own_bel HMO.out hb4); have HPO4 := Lib.hid (own_bel HPO.out hb4); have HBO4 := Lib.hid (own_bel HBO3.out hb4); have HB4 := Lib.hid (HB3.out.trans (hb4.mono HB3.out.size)); have hw34 := hb4.size; clear hb4)
  have HR4 := Lib.hid ((HRD.out.below HB4.out).more HB4.out.size)
  clear HR3 HMR HBO3 HMO HPO
  go_cut [] (fun wx => goalsF l 0 ∧ ∃ w5, w5 = wx ∧ Below w4.heap.size w4 w5)
  case first =>
    as_aux_lemma =>
    clear H5 H6 H8 H9 HS HTB HMB
    go_wp2
    go_loopw [8] (fun i wx => ∃ k : Nat, k ≤ l.length ∧ i = .int .i64 (k : Int) ∧ (∀ j x, j < k → l[j]? = some x → jmpO x.op = true → 0 ≤ goalI x (pl l j : Int) ∧ goalI x (pl l j : Int) ≤ 32767) ∧ Below w4.heap.size w4 wx) (fun i _ => l.length - (intOf i).toNat)
    case atStart => exact ⟨0, Nat.zero_le _, rfl, fun j x hj => absurd hj (Nat.not_lt_zero _), Below.refl _ _⟩
    case round =>
      obtain ⟨k, hk, rfl, hgo, hbx⟩ := hrel
      have HGO := Lib.hid hgo
      have HBX := Lib.hid hbx
      clear hgo
      by_cases hkl : k < l.length
      · obtain ⟨x, hx⟩ : ∃ x, l[k]? = some x := ⟨_, List.getElem?_eq_getElem hkl⟩
        obtain ⟨bl, ol, hA, hbl, hcs⟩ := (HR4.out.below hbx).2 k x hx
        obtain ⟨e0, e1, e2, e3, e4⟩ := cs43 hcs
        obtain ⟨bp, hAp, hbp, p0⟩ := z_at (own_bel HPO4.out hbx) (HZ.out k x hx)
        subst hA hAp
        obtain ⟨hp1, hin, hz1, hz2, hs1, _⟩ := HPX.out k x hx
        have HNX : Hid ((jmpO x.op = true → 0 ≤ goalI x (pl l k : Int) ∧ goalI x (pl l k : Int) ≤ 32767) → ∀ j y, j < k + 1 → l[j]? = some y → jmpO y.op = true → 0 ≤ goalI y (pl l j : Int) ∧ goalI y (pl l j : Int) ≤ 32767) := Lib.hid fun h j y hj hy => by
          by_cases hjk : j = k
          · subst hjk
            rw [hx] at hy
            injection hy with hy
            subst hy
            exact h
          · exact HGO.out j y (by omega) hy
        have HGI : Hid (jmpO x.op = true → goalI x (pl l k : Int) = (pl l k : Int) + 3 + x.z) := Lib.hid fun h => by unfold goalI; rw [jmpO_sz h hin]
        have l1 : (0 : Int) ≤ (k : Int) := by omega
        have l2 : (k : Int) < (l.length : Int) := by omega
        have hbw := hbx.size
        have hp0 : (pl l k : Int) ≤ 32767 := by omega
        have hpn : (0 : Int) ≤ (pl l k : Int) := by omega
        clear hbx hcs hx hin hs1 hp1
        generalize goalI x (pl l k : Int) = gl at *
        generalize (pl l k : Int) = at_ at *
        obtain ⟨op, xa, xb, xc, xz⟩ := x
        dsimp only at e0 e1 e2 e3 e4 hz1 hz2 HNX HGI
        have hw1 : IntKind.i64.wrap (at_ + 3) = at_ + 3 := by rw [IntKind.wrap_i64]; omega
        have hw2 : IntKind.i64.wrap (at_ + 3 + xz) = at_ + 3 + xz := by rw [IntKind.wrap_i64]; omega
        have HBD := Lib.hid fun n => HB4.out.trans ((below_drewN HBX.out n).mono HB4.out.size)
        by_cases h18 : (18 : Int) ≤ op
        · by_cases h20 : op ≤ 20
          · have HG := Lib.hid (HGI.out (jmpO_yes h18 h20))
            clear e1 e2 e3 HGI HGO
            have b1 : (decide ((18 : Int) ≤ op)) = true := by simpa using h18
            have b2 : (decide (op ≤ 20)) = true := by simpa using h20
            by_cases g0 : at_ + 3 + xz < 0
            · go_wp2
              go_quiet (fail)
              go_wp2
              go_ret
              exact ⟨rfl, HBD.out _⟩
            · by_cases g1 : 32767 < at_ + 3 + xz
              · go_wp2
                go_quiet (fail)
                go_wp2
                go_ret
                exact ⟨rfl, HBD.out _⟩
              · go_wp2
                go_quiet (fail)
                go_wp2
                go_roundw
                case rel => exact ⟨k + 1, by omega, by go_num, HNX.out (fun _ => by rw [HG.out]; omega), below_drewN HBX.out _⟩
                case measure => simp [intOf]; omega
          · have HNJ : Hid (jmpO op = true → False) := Lib.hid fun h => by have := jmpO_rng h; omega
            have b1 : (decide ((18 : Int) ≤ op)) = true := by simpa using h18
            have b2 : (decide (op ≤ 20)) = false := by simpa using h20
            clear e1 e2 e3 e4 HGI HGO
            go_wp2
            go_roundw
            case rel => exact ⟨k + 1, by omega, by go_num, HNX.out (fun h => (HNJ.out h).elim), HBX.out⟩
            case measure => simp [intOf]; omega
        · have HNJ : Hid (jmpO op = true → False) := Lib.hid fun h => by have := jmpO_rng h; omega
          have b1 : (decide ((18 : Int) ≤ op)) = false := by simpa using h18
          clear e1 e2 e3 e4 HGI HGO
          go_wp2
          go_roundw
          case rel => exact ⟨k + 1, by omega, by go_num, HNX.out (fun h => (HNJ.out h).elim), HBX.out⟩
          case measure => simp [intOf]; omega
      · obtain rfl : k = l.length := by omega
        have hg := HGM.out fun j x hx hj => HGO.out j x (List.getElem?_eq_some_iff.1 hx).1 hx hj
        go_wp2
        go_meet
        exact ⟨hg, _, rfl, HBX.out⟩
  case rest =>
    obtain ⟨hg, w5, rfl, hb5⟩ := hcut
    have HB5 := Lib.hid (HB4.out.trans (hb5.mono HB4.out.size))
    have HBO5 := Lib.hid (own_bel HBO4.out hb5)
    have HMO5 := Lib.hid (own_bel HMO4.out hb5)
    have HPO5 := Lib.hid (own_bel HPO4.out hb5)
    have HML := Lib.hid (World.ownsRow.lt HMO4.out)
    have HPL := Lib.hid (World.ownsRow.lt HPO4.out)
    have hw45 := hb5.size
    have H8g := Lib.hid (H8.out hg)
    have H9g := Lib.hid (H9.out hg)
    generalize txt (textF l 0) = S at *
    have q0 : (S.toList == S.toList) = true := by simp
    clear hb5 HBO4 HMO4 HPO4 HR4 HGM H8 H9 hg H4
    have HBR5 := Lib.hid (own_rdb HBO5.out)
    have HT5 := Lib.hid (HTB.out _ HB5.out)
    go_upto_region 18 with (go_at_call 8; refine (H8g.out _ _ _ _ HBR5.out HT5.out).mono ?_; rintro e w6 ⟨rfl, hb6⟩; have HB6 := Lib.hid (HB5.out.trans (hb6.mono HB5.out.size)); have HBO6 := Lib.hid (own_bel HBO5.out hb6); have HMO6 := Lib.hid (own_bel HMO5.out hb6); have HPO6 := Lib.hid (own_bel HPO5.out hb6); have hw56 := hb6.size; clear hb6)
    clear HBR5 HT5 HBO5 HMO5 HPO5 HB5
    have HT6 := Lib.hid (HTB.out _ HB6.out)
    have HM6 := Lib.hid (HMB.out _ HB6.out)
    go_upto_region 19 with (go_at_call 9; refine (H9g.out _ HM6.out HT6.out).mono ?_; rintro e w7 ⟨Ac, cc, rfl, hco, hb7⟩; have HCO7 := Lib.hid hco; have HB7 := Lib.hid (HB6.out.trans (hb7.mono HB6.out.size)); have HBO7 := Lib.hid (own_bel HBO6.out hb7); have HMO7 := Lib.hid (own_bel HMO6.out hb7); have HPO7 := Lib.hid (own_bel HPO6.out hb7); have hw67 := hb7.size; clear hb7 hco)
    clear HT6 HM6 HBO6 HMO6 HPO6 HB6
    have HCL := Lib.hid (World.ownsRow.lt HCO7.out)
    have HBR7 := Lib.hid (own_rdb HBO7.out)
    have HCR7 := Lib.hid (own_rdb HCO7.out)
    go_upto_region 21 with (go_at_call 10; refine (HS.out _ _ _ _ _ HBR7.out HCR7.out).mono ?_; rintro e w8 ⟨rfl, hb8⟩; have HB8 := Lib.hid (HB7.out.trans (hb8.mono HB7.out.size)); have HBO8 := Lib.hid (own_bel HBO7.out hb8); have HMO8 := Lib.hid (own_bel HMO7.out hb8); have HPO8 := Lib.hid (own_bel HPO7.out hb8); have HCO8 := Lib.hid (own_bel HCO7.out hb8); have hw78 := hb8.size; clear hb8)
    clear HBR7 HCR7 HBO7 HMO7 HPO7 HCO7 HB7
    have HCR8 := Lib.hid (own_rdb HCO8.out)
    have HT8 := Lib.hid (HTB.out _ HB8.out)
    go_upto_region 22 with (go_at_call 8; refine (H8g.out _ _ _ _ HCR8.out HT8.out).mono ?_; rintro e w9 ⟨rfl, hb9⟩; have HB9 := Lib.hid (HB8.out.trans (hb9.mono HB8.out.size)); have HBO9 := Lib.hid (own_bel HBO8.out hb9); have HMO9 := Lib.hid (own_bel HMO8.out hb9); have HPO9 := Lib.hid (own_bel HPO8.out hb9); have HCO9 := Lib.hid (own_bel HCO8.out hb9); have hw89 := hb9.size; clear hb9)
    clear HCR8 HT8 HBO8 HMO8 HPO8 HCO8 HB8
    have HMR9 := Lib.hid (own_rdi HMO9.out)
    go_upto_region 23 with (go_at_call 5; refine (H5.out _ _ _ _ HMR9.out (by omega)).mono ?_; rintro e wa ⟨Ad, cd, rfl, hdo, hba⟩; have HDOa := Lib.hid hdo; have HBa := Lib.hid (HB9.out.trans (hba.mono HB9.out.size)); have HBOa := Lib.hid (own_bel HBO9.out hba); have HMOa := Lib.hid (own_bel HMO9.out hba); have HPOa := Lib.hid (own_bel HPO9.out hba); have HCOa := Lib.hid (own_bel HCO9.out hba); have hw9a := hba.size; clear hba hdo)
    clear HMR9 HBO9 HMO9 HPO9 HCO9 HB9
    have HDL := Lib.hid (World.ownsRow.lt HDOa.out)
    have HBRa := Lib.hid (own_rdb HBOa.out)
    have HDRa := Lib.hid (own_rdb HDOa.out)
    go_upto_region 25 with (go_at_call 10; refine (HS.out _ _ _ _ _ HBRa.out HDRa.out).mono ?_; rintro e wb ⟨rfl, hbb⟩; have HBb := Lib.hid (HBa.out.trans (hbb.mono HBa.out.size)); have HBOb := Lib.hid (own_bel HBOa.out hbb); have HMOb := Lib.hid (own_bel HMOa.out hbb); have HPOb := Lib.hid (own_bel HPOa.out hbb); have HCOb := Lib.hid (own_bel HCOa.out hbb); have HDOb := Lib.hid (own_bel HDOa.out hbb); have hwab := hbb.size; clear hbb)
    clear HBRa HDRa HBOa HMOa HPOa HCOa HDOa HBa
    have HBRb := Lib.hid (own_rdb HBOb.out)
    go_upto_region 26 with (go_at_call 6; refine (H6.out _ _ _ _ HBRb.out).mono ?_; rintro e wc ⟨hbc, Ao, co, Aq, cq, rfl, hoo, hqo⟩; have HOO := Lib.hid hoo; have HQO := Lib.hid hqo; have HBc := Lib.hid (HBb.out.trans (hbc.mono HBb.out.size)); have HBOc := Lib.hid (own_bel HBOb.out hbc); have HMOc := Lib.hid (own_bel HMOb.out hbc); have HPOc := Lib.hid (own_bel HPOb.out hbc); have HCOc := Lib.hid (own_bel HCOb.out hbc); have HDOc := Lib.hid (own_bel HDOb.out hbc); have hwbc := hbc.size; clear hbc hoo hqo)
    clear HBRb HBOb HMOb HPOb HCOb HDOb
    have HOL := Lib.hid (World.ownsRow.lt HOO.out)
    have HQL := Lib.hid (World.ownsRow.lt HQO.out)
    have hw01 := HB1.out.size
    have hwb0 := HBb.out.size
    have HKB : Hid (∀ k, KB (.slice Ab (bytesL l).length cb) (.slice Ao l.length co) (.slice Aq l.length cq) k → k < w2.heap.size ∨ wb.heap.size ≤ k) := Lib.hid fun k hk => by
      rcases hk with hk | hk | hk
      · exact .inl (HBL.out k hk).2
      · exact .inr (HOL.out k hk).1
      · exact .inr (HQL.out k hk).1
    have HKP : Hid (Kp w (.slice Ab (bytesL l).length cb) (.slice Ao l.length co) (.slice Aq l.length cq) l zs wc) := Lib.hid ⟨HBc.out, own_base HBOc.out hw01, own_base HOO.out hwb0, own_base HQO.out hwb0⟩
    have hzl : zs.length = l.length := HZL.out
    have HSP : Hid (Bks w (.slice Ab (bytesL l).length cb) (.slice Ao l.length co) (.slice Aq l.length cq) l zs (.slice Am l.length cm) (.slice Ap l.length cp) (.slice Ac (bytesL l).length cc) (.slice Ad (bytesL l).length cd) l.length l.length (bytesL l).length (bytesL l).length wc) := Lib.hid {
      k := HKP.out
      m := ⟨_, own_base HMOc.out (by omega), insC_int l⟩
      p := ⟨_, by have h := own_base (b2 := w.heap.size) HPOc.out (by omega); rw [hzl] at h; exact h, ints_int zs⟩
      c := ⟨_, own_base HCOc.out (by omega), rfl⟩
      g := ⟨_, own_base HDOc.out (by omega), rfl⟩
      mf := fun k hk hkb => by
        have h1 := HML.out k hk
        rcases HKB.out k hkb with h | h <;> omega
      pf := fun k hk hkb => by
        have h1 := HPL.out k hk
        rcases HKB.out k hkb with h | h <;> omega
      cf := fun k hk hkb => by
        have h1 := HCL.out k hk
        rcases HKB.out k hkb with h | h <;> omega
      gf := fun k hk hkb => by
        have h1 := HDL.out k hk
        rcases HKB.out k hkb with h | h <;> omega
      cg := fun k hk e => by
        have h1 := HCL.out k hk
        have h2 := HDL.out k e
        omega }
    clear HKB HKP HOL HQL HBL HML HPL HCL HDL HOO HQO HBOc HMOc HPOc HCOc HDOc HBb HBc H6 H8g H9g HTB HMB hzl
    clear HB1 HB2 HB3 HB4 hw12 hw23 hw34 hw45 hw56 hw67 hw78 hw89 hw9a hwab hwbc hw01 hwb0
    go_upto_block 2 with fail
    go_cut [] (fun wx => ∃ wd, wd = wx ∧ Bks w (.slice Ab (bytesL l).length cb) (.slice Ao l.length co) (.slice Aq l.length cq) l zs (.slice Am l.length cm) (.slice Ap l.length cp) (.slice Ac (bytesL l).length cc) (.slice Ad (bytesL l).length cd) l.length l.length (bytesL l).length (bytesL l).length wd)
    case first =>
      as_aux_lemma =>
      clear H5 HS HZ HPX HRD
      go_wp2
      go_loopw [20] (fun i wx => ∃ k : Nat, k ≤ l.length ∧ i = .int .i64 (k : Int) ∧ Bks w (.slice Ab (bytesL l).length cb) (.slice Ao l.length co) (.slice Aq l.length cq) l zs (.slice Am l.length cm) (.slice Ap l.length cp) (.slice Ac (bytesL l).length cc) (.slice Ad (bytesL l).length cd) l.length l.length (bytesL l).length (bytesL l).length wx) (fun i _ => l.length - (intOf i).toNat)
      case atStart => exact ⟨0, Nat.zero_le _, rfl, HSP.out⟩
      case round =>
        obtain ⟨k, hk, rfl, hsp⟩ := hrel
        have HSX := Lib.hid hsp
        by_cases hkl : k < l.length
        · obtain ⟨gm, z0, z1, z2, z3, z4, hA, hgm, ⟨c0, c1, c2, c3, c4⟩, f0, f1, f2, f3, f4⟩ := hsp.m.five hkl
          subst hA
          have l1 : (0 : Int) ≤ (k : Int) := by omega
          have l2 : (k : Int) < (l.length : Int) := by omega
          clear hsp
          go_upto_region 30 with fail
          have HSY := Lib.hid (((((HSX.out.setM (b := gm) rfl (k * 5) 0).setM (b := gm) rfl (k * 5 + 1) (-7)).setM (b := gm) rfl (k * 5 + 2) 0).setM (b := gm) rfl (k * 5 + 3) 0).setM (b := gm) rfl (k * 5 + 4) 0)
          generalize ((((wr.setCell ⟨gm, k * 5, none⟩ (.int .i64 0)).setCell ⟨gm, k * 5 + 1, none⟩ (.int .i64 (-7))).setCell ⟨gm, k * 5 + 2, none⟩ (.int .i64 0)).setCell ⟨gm, k * 5 + 3, none⟩ (.int .i64 0)).setCell ⟨gm, k * 5 + 4, none⟩ (.int .i64 0) = wy at *
          obtain ⟨gp, z5, hAp, hgp, c5, f5⟩ := HSY.out.p.at_ (j := k) (by omega)
          subst hAp
          clear c0 c1 c2 c3 c4 f0 f1 f2 f3 f4 HSX hgm
          have HSZ := Lib.hid (HSY.out.setP (b := gp) rfl k (-7))
          go_wp2
          go_roundw
          case rel => exact ⟨k + 1, by omega, by go_num, HSZ.out⟩
          case measure => simp [intOf]; omega
        · obtain rfl : k = l.length := by omega
          clear hsp
          go_wp2
          go_meet
          exact ⟨_, rfl, HSX.out⟩
    case rest =>
      obtain ⟨wd, rfl, hsp⟩ := hcut
      have HSD := Lib.hid hsp
      clear hsp HSP
      go_upto_block 4 with fail
      go_cut [] (fun wx => ∃ we, we = wx ∧ Bks w (.slice Ab (bytesL l).length cb) (.slice Ao l.length co) (.slice Aq l.length cq) l zs (.slice Am l.length cm) (.slice Ap l.length cp) (.slice Ac (bytesL l).length cc) (.slice Ad (bytesL l).length cd) l.length l.length (bytesL l).length (bytesL l).length we)
      case first =>
        as_aux_lemma =>
        clear H5 HS HZ HPX HRD
        go_wp2
        go_loopw [21] (fun i wx => ∃ k : Nat, k ≤ (bytesL l).length ∧ i = .int .i64 (k : Int) ∧ Bks w (.slice Ab (bytesL l).length cb) (.slice Ao l.length co) (.slice Aq l.length cq) l zs (.slice Am l.length cm) (.slice Ap l.length cp) (.slice Ac (bytesL l).length cc) (.slice Ad (bytesL l).length cd) l.length l.length (bytesL l).length (bytesL l).length wx) (fun i _ => (bytesL l).length - (intOf i).toNat)
        case atStart => exact ⟨0, Nat.zero_le _, rfl, HSD.out⟩
        case round =>
          obtain ⟨k, hk, rfl, hsp⟩ := hrel
          have HSX := Lib.hid hsp
          by_cases hkl : k < (bytesL l).length
          · obtain ⟨gc, z0, hA, hgc, c0, f0⟩ := hsp.c.at_ hkl
            subst hA
            have l1 : (0 : Int) ≤ (k : Int) := by omega
            have l2 : (k : Int) < ((bytesL l).length : Int) := by omega
            clear hsp
            have HSY := Lib.hid (HSX.out.setC (b := gc) rfl k 99)
            have e99 : (((99 : UInt8).toNat : Nat) : Int) = 99 := rfl
            rw [e99] at HSY
            clear e99
            go_wp2
            go_roundw
            case rel => exact ⟨k + 1, by omega, by go_num, HSY.out⟩
            case measure => simp [intOf]; omega
          · obtain rfl : k = (bytesL l).length := by omega
            clear hsp
            go_wp2
            go_meet
            exact ⟨_, rfl, HSX.out⟩
      case rest =>
        obtain ⟨we, rfl, hsp⟩ := hcut
        have HSE := Lib.hid hsp
        clear hsp HSD
        have HSF := Lib.hid (HSE.out.pure ((Below.refl _ _).alloc (Nat.le_refl _) (.cells #[.int .u8 98] 5)))
        go_upto_region 36 with (at_builtin; refine app_b rfl (.tmp 174) (.tmp 175) rfl w.heap.size _ _ rfl HSF.out.g _ _ 1 98 rfl (Reads.builtN' _ 5 _ [bv 98] 1 1 rfl rfl) (by omega) HSF.out.k.bel.size ?_; intro vg wf hvg hgg hng; have HSG := Lib.hid (HSF.out.turnG hgg hvg hng); clear hvg hgg hng)
        clear HSE HSF
        go_upto_block 6 with fail
        go_cut [5, 6, 12, 22] (fun _ _ _ _ wx => ∃ wg, wg = wx ∧ Kp w (.slice Ab (bytesL l).length cb) (.slice Ao l.length co) (.slice Aq l.length cq) l zs wg)
        case first =>
          clear H5 HS HZ HPX HRD
          go_wp2
          go_loopw [5, 6, 12, 22, 23] (fun v5 v6 v12 v22 i wx => ∃ k : Nat, k ≤ 70 ∧ i = .int .i64 (k : Int) ∧ Bks w (.slice Ab (bytesL l).length cb) (.slice Ao l.length co) (.slice Aq l.length cq) l zs v5 v6 v12 v22 (l.length + k) (l.length + k) ((bytesL l).length + k) ((bytesL l).length + 1 + k) wx) (fun _ _ _ _ i _ => 70 - (intOf i).toNat)
          case atStart => exact ⟨0, by omega, rfl, HSG.out⟩
          case round =>
            obtain ⟨k, hk, rfl, hsp⟩ := hrel
            have HSX := Lib.hid hsp
            clear hsp
            by_cases hkl : k < 70
            · have HS1 := Lib.hid (HSX.out.pure ((Below.refl _ _).alloc (Nat.le_refl _) (.cells #[.int .i64 0, .int .i64 (-8), .int .i64 0, .int .i64 0, .int .i64 0] 34)))
              go_wp2_with (first
                | (at_builtin; refine app_m rfl (.tmp 181) (.tmp 183) rfl w.heap.size u5 (l.length + k) (by rfl) HS1.out.m (wr.heap.size + 1) (some ⟨wr.heap.size, 0, none⟩) 1 ⟨0, -8, 0, 0, 0⟩ (by rfl) (Reads.builtN' _ 34 _ (Ins.cs ⟨0, -8, 0, 0, 0⟩) 1 5 rfl rfl) (by omega) HS1.out.k.bel.size ?_; intro v1 wx1 hv1 hg1 hn1; have HM1 := Lib.hid (HS1.out.turnM hg1 hv1 hn1); have HS2 := Lib.hid (HM1.out.pure ((Below.refl _ _).alloc (Nat.le_refl _) (.cells #[.int .i64 (-8)] 3))); clear hv1 hg1 hn1)
                | (at_builtin; refine app_p rfl (.tmp 185) (.tmp 186) rfl w.heap.size u6 (l.length + k) (by rfl) HS2.out.p (wx1.heap.size + 1) (some ⟨wx1.heap.size, 0, none⟩) 1 (-8) (by rfl) (Reads.builtN' _ 3 _ [iv (-8)] 1 1 rfl rfl) (by omega) HS2.out.k.bel.size ?_; intro v2 wx2 hv2 hg2 hn2; have HM2 := Lib.hid (HS2.out.turnP hg2 hv2 hn2); have HS3 := Lib.hid (HM2.out.pure ((Below.refl _ _).alloc (Nat.le_refl _) (.cells #[.int .u8 97] 5))); clear hv2 hg2 hn2)
                | (at_builtin; refine app_b rfl (.tmp 188) (.tmp 189) rfl w.heap.size u12 ((bytesL l).length + k) (by rfl) HS3.out.c (wx2.heap.size + 1) (some ⟨wx2.heap.size, 0, none⟩) 1 97 (by rfl) (Reads.builtN' _ 5 _ [bv 97] 1 1 rfl rfl) (by omega) HS3.out.k.bel.size ?_; intro v3 wx3 hv3 hg3 hn3; have HM3 := Lib.hid (HS3.out.turnC hg3 hv3 hn3); have HS4 := Lib.hid (HM3.out.pure ((Below.refl _ _).alloc (Nat.le_refl _) (.cells #[.int .u8 96] 5))); clear hv3 hg3 hn3)
                | (at_builtin; refine app_b rfl (.tmp 191) (.tmp 192) rfl w.heap.size u22 ((bytesL l).length + 1 + k) (by rfl) HS4.out.g (wx3.heap.size + 1) (some ⟨wx3.heap.size, 0, none⟩) 1 96 (by rfl) (Reads.builtN' _ 5 _ [bv 96] 1 1 rfl rfl) (by omega) HS4.out.k.bel.size ?_; intro v4 wx4 hv4 hg4 hn4; have HM4 := Lib.hid (HS4.out.turnG hg4 hv4 hn4); clear hv4 hg4 hn4))
              go_roundw
              case rel => exact ⟨k + 1, by omega, by go_num, HM4.out⟩
              case measure => simp [intOf]; omega
            · obtain rfl : k = 70 := by omega
              go_wp2
              go_meet
              exact ⟨_, rfl, HSX.out.k⟩
        case rest =>
          obtain ⟨wg, rfl, hkp⟩ := hcut
          have HKG := Lib.hid hkp
          clear hkp HSG
          have HRG := Lib.hid ((HRD.out.below HKG.out.bel).more HKG.out.bel.size)
          go_upto_block 8 with fail
          go_cut [24] (fun _ wx => wg = wx)
          case first =>
            as_aux_lemma =>
            clear H5 HS H7
            go_wp2
            go_loopw [24, 25] (fun v i wx => ∃ k : Nat, k ≤ l.length ∧ i = .int .i64 (k : Int) ∧ v = .int .i64 (pl l k : Int) ∧ wg = wx) (fun _ i _ => l.length - (intOf i).toNat)
            case atStart => exact ⟨0, Nat.zero_le _, rfl, rfl, rfl⟩
            case round =>
              obtain ⟨k, hk, rfl, rfl, rfl⟩ := hrel
              by_cases hkl : k < l.length
              · obtain ⟨x, hx⟩ : ∃ x, l[k]? = some x := ⟨_, List.getElem?_eq_getElem hkl⟩
                obtain ⟨bl, ol, hA, hbl, hcs⟩ := HRG.out.2 k x hx
                obtain ⟨e0, _, _, _, _⟩ := cs43 hcs
                obtain ⟨bq, hAq, hbq, p0⟩ := z_at HKG.out.qo (HZ.out k x hx)
                subst hA hAq
                obtain ⟨hp1, hin, _, _, hs1, hpn⟩ := HPX.out k x hx
                have H11 := Lib.hid fun w => (Rsize_any x.op w).mono fun e w' (h : e = .returned (.int .i64 (szO x.op)) ∧ w' = w) => (⟨h.1, h.2.symm⟩ : e = .returned (.int .i64 (szO x.op)) ∧ w = w')
                have hw1 : IntKind.i64.wrap ((pl l k : Int) + szO x.op) = (pl l (k + 1) : Int) := by rw [IntKind.wrap_i64]; omega
                have hw2 : wrap64 ((pl l k : Int) + szO x.op) = (pl l (k + 1) : Int) := by unfold wrap64; omega
                have l1 : (0 : Int) ≤ (k : Int) := by omega
                have l2 : (k : Int) < (l.length : Int) := by omega
                clear hcs hx hin hp1 hpn hs1
                generalize szO x.op = sz at *
                generalize x.op = op at *
                have q1 : ((pl l k : Int) != (pl l k : Int)) = false := by simp
                go_wp2_with (go_at_call 11; refine (H11.out _).mono ?_; rintro e wh ⟨rfl, rfl⟩)
                go_roundw
                case rel => exact ⟨k + 1, by omega, by go_num, by first | rfl | trivial, by first | rfl | trivial⟩
                case measure => simp [intOf]; omega
              · obtain rfl : k = l.length := by omega
                go_wp2
                go_meet
                first | rfl | trivial
          case rest =>
            obtain rfl := hcut
            have HOR := Lib.hid (own_rdi HKG.out.oo)
            go_upto_region 51 with (go_at_call 5; refine (H5.out _ _ _ _ HOR.out (by omega)).mono ?_; rintro e wh ⟨Ax, cx, rfl, hxo, hbh⟩; have HXO := Lib.hid hxo; have HBh := Lib.hid (HKG.out.bel.trans (hbh.mono HKG.out.bel.size)); have HOh := Lib.hid (own_bel HKG.out.oo hbh); have HBOh := Lib.hid (own_bel HKG.out.bo hbh); clear hbh hxo)
            have HR1 := Lib.hid (own_rdi HOh.out)
            have HR2 := Lib.hid ((HRD.out.below HBh.out).more HBh.out.size)
            go_wp2_with (first
              | (go_at_call 7; refine (H7.out _ _ _ _ _ HR1.out HR2.out).mono ?_; rintro e wi ⟨rfl, hbi⟩; have HBi := Lib.hid (HBh.out.trans (hbi.mono HBh.out.size)); have HX1 := Lib.hid (own_rdb (own_bel HXO.out hbi)); have HX2 := Lib.hid (own_rdb (own_bel HBOh.out hbi)); clear hbi)
              | (go_at_call 10; refine (HS.out _ _ _ _ _ HX1.out HX2.out).mono ?_; rintro e wj ⟨rfl, hbj⟩; have HBj := Lib.hid (HBi.out.trans (hbj.mono HBi.out.size)); clear hbj))
            go_ret
            exact ⟨rfl, HBj.out⟩
theorem back_any (A : Option Addr) (n c : Nat) (l : List Ins) (m : Int) (w : World) (hr : RdI w w.heap.size A n l) (hn : n ≤ 3518437208883)
    (hm : w.cell? ⟨1, 0, none⟩ = some (.int .i64 m)) (htab : Lib.TabIs Tryd.prog w "internal/strconv.uint64pow10" .u64 Lib.pow10Tab) : Calls Tryd.prog 3 #[.slice A n c] w (AwP w) := by
  rcases encF_cases l with ⟨er, hE, hne⟩ | ⟨_, hmay, hbl⟩
  · exact back_no A n c l er w hr hn hE hne
  · obtain rfl : n = l.length := hr.1.symm
    exact back_yes A c l m w hr hmay hbl hm htab
end Go.Proofs.YtaeegkljldngmaaDoor
namespace Go.Proofs.YtaeegkljldngmaaDoor
open Go.ChangeShapes Go.WideShapes Go.ChangeAt Go.RowKit

theorem own : ownKnob Tryd.prog.godebug = none := by kernel_rfl
theorem laidOut : laidOutB Tryd.prog = true := by kernel_rfl
def laid7 : List (String × DataW Unit) := [("math/bits.deBruijn32tab", Rows.laid_math_bits_deBruijn32tab), ("math/bits.deBruijn64tab", Rows.laid_math_bits_deBruijn64tab), ("internal/strconv.uint64pow10", Rows.laid_internal_strconv_uint64pow10), ("unicode/utf8.acceptRanges", Rows.laid_unicode_utf8_acceptRanges), ("strconv.ErrRange", Rows.laid_strconv_ErrRange), ("strconv.ErrSyntax", Rows.laid_strconv_ErrSyntax), ("unicode/utf8.first", Rows.laid_unicode_utf8_first)]
theorem pow10_data : (Rows.laid_internal_strconv_uint64pow10 : DataW Unit) = Lib.tabData .u64 Lib.pow10Tab := by rfl
theorem tPow10 : (Tryd.prog.globals[0]?).map (·.type) = some 133 := by kernel_rfl
/-- the door's own heap, with the pinned table laid into its variable -/
noncomputable def startW (os : Os) : World :=
  let w0 := World.doorLaid Tryd.prog 400 os
  { w0 with heap := w0.heap.modify 2 fun
    | .cells _ t frozen => .cells (Go.Pinned.utf8FirstZ.map fun n : Nat => Value.int .u8 (Int.ofNat n)).toArray t frozen
    | o => o }
theorem door_met7 (os : Os) (args : Array Value) : laidMetH Tryd.prog laid7 ((startW os).forCall (fun _ _ => 0) ⟨#[], args, []⟩).memory :=
  laidMetH_of_parts3 (fuel := 8) (laidMet_of_run' 8 (by kernel_rfl) (by kernel_rfl)) (by kernel_rfl) (by kernel_rfl)
theorem of_laid7 {W : World} (h : laidMetH Tryd.prog laid7 W) : Lib.TabIs Tryd.prog W "internal/strconv.uint64pow10" .u64 Lib.pow10Tab := by
  rw [MakeChecks.laidMetH_plain _ _ _ (by kernel_rfl)] at h
  have h3 := (laidMet.tail (laidMet.tail h))
  rw [pow10_data] at h3
  exact Lib.tabIs_of_head pow10_named tPow10 Tryd.underlying133 Tryd.underlying122 (by kernel_rfl) (by kernel_rfl) h3
/-- a condition of one's own beside the row's, and the world's shape -/
theorem returns_shaped {H : Type} {enc : TypeId × Value → H} {a : Assume} {C : Checked} {os : Os} {f : FuncId} {fn : Func} {s : ChangeSpec} {conds : List PathCond} {apart fresh handsOn again : Bool} {X : World → Array Value → Prop}
    (hX : ∀ (w w' : World) (args : Array Value), w.heap = w'.heap → X w args → X w' args)
    (own : ownKnob C.prog.godebug = none) (started : os.Started) (noInit : C.prog.inits.idxOf? f = none) (hfn : C.prog.funcs[f]? = some fn)
    (witness : ∃ (w : World) (tape : Tape) (i : Input), w.os = os ∧ (w.forCall tape i).Shaped C.prog ∧ i.vars = [] ∧ Input.okWide C.prog (w.forCall tape i) .any w.heap.size f i ∧
      ((s.pre enc C.prog fn conds apart (w.forCall tape i).memory i.args ∧ X (w.forCall tape i).memory i.args) ∧ sizedMet enc C.prog fn (OpenSpec.ofChange s) apart (w.forCall tape i).memory i.args) ∧ a.holds C.prog (lone (Frame.enter C.prog f i.args .normal) [] (w.forCall tape i)))
    (contract : ∀ (W : World) (base : Nat) (args : Array Value) (ds gs : List (DataW H)) (before : List MemPlace),
      (∀ (j : Nat) t v, fn.params[j]? = some t → args[j]? = some v → Value.okWide C.prog W .any base t v) →
      DataW.Whole enc C.prog fn.params.toList s.vars apart W args.toList ds gs before →
      conds.all (PathCond.test C.prog ⟨fn.params.toList, ds, s.plain.varTypes C.prog, gs⟩) = true →
      (DataW.weightsEach C.prog (fn.params.toList ++ s.plain.varTypes C.prog) (ds ++ gs)).all (· ≤ reachBytes) = true → X W args → W.ShapedOpen C.prog →
      Calls C.prog f args W fun e W' => ∃ v, e = .returned v ∧ s.post enc C.prog fn apart fresh handsOn again W args v W') :
    ReturnsInHanded a C os f .any (fun w args => (s.pre enc C.prog fn conds apart w args ∧ X w args) ∧ sizedMet enc C.prog fn (OpenSpec.ofChange s) apart w args) (s.post enc C.prog fn apart fresh handsOn again) := by
  refine returnsInHanded_of_calls own started noInit witness ?_
  intro w tape i _ hsh _ hok hpre _
  obtain ⟨_, _, _, fn', hfn', _, _, _, _, hval⟩ := hok
  have e : fn' = fn := Option.some.inj (hfn'.symm.trans hfn)
  subst e
  obtain ⟨⟨⟨ds, gs, before, hw, hc⟩, hx⟩, hz⟩ := hpre
  have hw' := DataW.Whole.of_heap (w' := w.forCall tape i) (by rfl) hw
  refine (contract (w.forCall tape i) w.heap.size i.args ds gs before hval hw' hc (hz.weights hw) (hX _ _ _ (by rfl) hx) hsh).mono fun e W' ⟨v, he, hp⟩ => ?_
  subst he
  exact ChangeSpec.post_blind hp
end Go.Proofs.YtaeegkljldngmaaDoor
namespace Go.Proofs.YtaeegkljldngmaaDoor
open Go.ChangeShapes Go.WideShapes Go.ChangeAt Go.RowKit

namespace LawBk
set_option maxRecDepth 100000 in
theorem lifted (os : Os) (started : os.Started) (H : Type) (enc : TypeId × Value → H) :
    ReturnsInHanded {} Tryd.checked os 3 .any (fun w args => (Rows.codeBackSpec.pre enc Tryd.prog Tryd.f3 [] false w args ∧ laidMetH Tryd.prog laid7 w) ∧ sizedMet enc Tryd.prog Tryd.f3 (OpenSpec.ofChange Rows.codeBackSpec) false w args)
      (Rows.codeBackSpec.post enc Tryd.prog Tryd.f3 false true false false) := by
  refine returns_shaped (C := Tryd.checked) (X := fun w _ => laidMetH Tryd.prog laid7 w) (fun _ _ _ hh h => h.of_heap hh) own started (by kernel_rfl) Tryd.func3
    (ChangeSpec.witness_shaped (enc := enc) (C := Tryd.checked) (os := os) (X := fun w _ => laidMetH Tryd.prog laid7 w) false (startW os) #[.slice none 0 0] 8 rfl (World.shaped_of_RefB (by kernel_rfl) (by kernel_rfl)) (by kernel_rfl) (by kernel_rfl) (by kernel_rfl) (door_met7 os _)) ?_
  intro W base args ds gs before hval0 hW _ hsz hL hsh
  have hval : ∀ (j : Nat) t v, Tryd.f3.params[j]? = some t → args[j]? = some v → Value.okWide Tryd.prog W .any base t v := hval0
  have hW' := hW
  obtain ⟨p, q, hA0, hV, rfl, hfz, hnd⟩ := hW
  have hA : DataW.TrodAll enc Tryd.prog W 0 (fun _ => true) true Tryd.f3.params.toList args.toList ds p := hA0
  rw [Tryd.params3] at hA hval
  obtain ⟨v0, vs0, d0, ds0, p0, q0, hargs, rfl, rfl, h0, r0⟩ := trodAll_cons hA
  obtain ⟨rfl, rfl, rfl⟩ := trodAll_nil r0
  obtain rfl : args = #[v0] := by cases args; simp_all
  obtain ⟨rfl, rfl⟩ := trodVars_none hV
  have k0 := h0
  have lt0 : ∀ x ∈ p0, x.block < W.heap.size := by obtain ⟨m, hm⟩ := k0; exact DataW.trod_lt m _ _ _ hm
  obtain ⟨A0, n0, c0, rfl⟩ := okWide_slice Tryd.underlying22 (hval 0 22 v0 rfl rfl)
  obtain ⟨f0, g0⟩ := h0
  obtain ⟨A, n, c, l, hv0, hc1, hc2, hrd, hd⟩ := instrs_in Tryd.underlying22 Tryd.underlying34 (by kernel_rfl) (by kernel_rfl) Tryd.underlying32 Tryd.underlying3 Tryd.underlying3 Tryd.underlying3 Tryd.underlying3 g0
  cases hv0
  have hn : n0 ≤ 3518437208883 := by
    rcases hd with rfl | ⟨el, sp, hx, hl⟩
    · omega
    · have h8 : (el.length + sp.length) * Tryd.prog.bytesOf 34 ≤ reachBytes := sized_slice hsz (j := 0) (t := 22) (e := 34) (elems := el) (spare := sp) (by rw [Tryd.params3]; rfl) (by rw [← hx]; rfl) Tryd.underlying22
      have hb : Tryd.prog.bytesOf 34 = 40 := by kernel_rfl
      rw [hb, hl] at h8
      have : reachBytes = 140737488351232 := rfl
      omega
  clear hA0 hval0 hsz
  obtain ⟨m, hm⟩ := Tryd.laysM146.s1_3 W hsh
  have htab := of_laid7 hL
  refine (back_any A0 n0 c0 l m W hrd hn hm htab).mono fun e W' ⟨he, bel⟩ => ?_
  subst he
  exact ⟨_, rfl, _, _, _, [], _, [], hW', trodAll_mk1 (shut_bool Tryd.underlying4 _), (trodAll_cons_mk (Below.trod laidOut (by kernel_rfl) (of_decide_eq_true (by kernel_rfl)) k0 bel lt0) trodAll_mk0), rfl, bel.frame _, fun h => by cases h⟩

theorem over : Rows.CodeBackSaid :=
  OpenClaim.holds_of_wide 3 Tryd.f3 rfl rfl rfl rfl rfl rfl rfl ⟨rfl, rfl, rfl, rfl, rfl⟩ rfl rfl rfl rfl rfl (by kernel_rfl) Tryd.func3 (by kernel_rfl)
    (of_decide_eq_true (by kernel_rfl)) (by unfold Func.isWrapper; first | (rw [if_pos (by decide +kernel)]; kernel_rfl) | (rw [if_neg (by decide +kernel)]; exact ⟨rfl, rfl⟩))
    (fun os started H enc _ => lifted os started H enc)

end LawBk

/-- the statement: the tied card -/
theorem codeBack_card : Rows.CodeBackCardSaid :=
  Claim7.holds_tied_plain_at .later [] [.data, .data, .data, .data, .sentinel, .sentinel, .pinned] true (true, "b41b9d27f640feb59a2947eacb2f3bd3190d6082ce44a66206f389c4e8b51143") true
    LawBk.over (fun _ h => by cases h) (by kernel_rfl) (fun _ h => by cases h) codeBack_row_tie rfl ⟨rfl, rfl⟩ (by kernel_rfl) rfl
    (fun f fn hf hfn => by
      obtain rfl : f = 3 := Option.some.inj ((show Tryd.prog.funcNamed "effigy/effigylaw05.CodeBack" = some 3 by kernel_rfl).symm.trans hf) |>.symm
      obtain rfl : fn = Tryd.f3 := (Option.some.inj (Tryd.func3.symm.trans hfn)).symm
      exact ⟨by kernel_rfl, fun j t ht => by
        rw [Tryd.params3] at ht
        have hm : t ∈ [22] := by simpa using Array.mem_of_getElem? ht
        have hall : ([22].all fun u => !Tryd.prog.wantsStandIn u) = true := by kernel_rfl
        exact (show Tryd.prog.wantsStandIn t = false by simpa using List.all_eq_true.1 hall t hm)⟩)
    (by kernel_rfl)
end Go.Proofs.YtaeegkljldngmaaDoor
