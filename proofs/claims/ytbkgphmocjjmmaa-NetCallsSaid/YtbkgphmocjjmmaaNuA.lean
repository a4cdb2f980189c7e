/-
  Acts in memory; rows whose elements have bytes of their own; the walk of the law's twin f18.
-/
import Derived.Test.YtbkgphmocjjmmaaNtX
namespace Go.Proofs.Ytbkgphmocjjmmaa
open Go.RowKit

/-! ## Rows whose elements have bytes -/
structure EX where
  hd : List Value
  b : List UInt8
  A : Option Addr
  c : Nat
def EX.val (e : EX) : Value := .slice e.A e.b.length e.c
def EX.cells (e : EX) : List Value := e.hd ++ [e.val]
def exCells (l : List EX) : List Value := l.flatMap EX.cells
/-- the row's blocks -/
def RowB (v : Value) (l : List EX) (k : Nat) : Prop := v.ownBlock = some k ∨ ∃ e ∈ l, e.val.ownBlock = some k
structure RowX (t : TypeId) (size base : Nat) (W : World) (v : Value) (l : List EX) : Prop where
  row : W.ownsRow base t size v l.length (exCells l)
  bs : ∀ e ∈ l, OwnB 5 W base e.val e.b
section
variable {t : TypeId} {size base : Nat} {W W2 W4 : World} {v v1 : Value} {l : List EX} {e : EX} {o : Obj} {F : Nat → Prop}
theorem RowX.start (t : TypeId) (size base : Nat) (W : World) : RowX t size base W (.slice none 0 0) [] := ⟨World.ownsRow_nil W base t size, fun e h => by cases h⟩
theorem RowX.lt (h : RowX t size base W v l) {k : Nat} (hk : RowB v l k) : base ≤ k ∧ k < W.heap.size := by
  rcases hk with hk | ⟨e, he, hk⟩
  · exact World.ownsRow.lt h.row k hk
  · exact World.ownsRow.lt (h.bs e he) k hk
theorem RowX.keep (h : RowX t size base W v l) (hk : ∀ k, RowB v l k → W2.heap[k]? = W.heap[k]?) : RowX t size base W2 v l :=
  ⟨own_same h.row fun k hk' => hk k (.inl hk'), fun e he => own_same (h.bs e he) fun k hk' => hk k (.inr ⟨e, he, hk'⟩)⟩
theorem RowX.chg (h : RowX t size base W v l) (hc : Chg F W W2) (hn : ∀ k, RowB v l k → ¬ F k) : RowX t size base W2 v l := h.keep fun k hk => hc.block k (h.lt hk).2 (hn k hk)
theorem RowX.below (h : RowX t size base W v l) (hb : Below W.heap.size W W2) : RowX t size base W2 v l := h.keep fun k hk => hb.block k (h.lt hk).2
theorem RowX.push (h : RowX t size base W2 v l) (h5 : t ≠ 5) (ho : OwnB 5 W2 base e.val e.b) (hr : W4.ownsRow base t size v1 (l.length + 1) (exCells l ++ e.cells)) (hg : (W2.alloc o).grownBy W4 v.ownBlock) : RowX t size base W4 v1 (l ++ [e]) := by
  have keep : ∀ k, k < W2.heap.size → v.ownBlock ≠ some k → W4.heap[k]? = W2.heap[k]? := fun k hk hn =>
    (hg.block k (by simp; omega) (fun e => hn e.symm)).trans (Below.heap_alloc W2 o k hk)
  have hb : ∀ e : EX, OwnB 5 W2 base e.val e.b → OwnB 5 W4 base e.val e.b := fun e he => own_same he fun k hk => keep k (World.ownsRow.lt he k hk).2 fun e2 => own_apart he h.row (Ne.symm h5) k hk e2
  refine ⟨by simpa [exCells] using hr, fun e' he' => ?_⟩
  rcases List.mem_append.1 he' with h1 | h1
  · exact hb e' (h.bs e' h1)
  · rw [List.mem_singleton] at h1; subst h1; exact hb _ ho
theorem RowB.push {n : Nat} (hv : v1.ownBlock = v.ownBlock ∨ v1.ownBlock = some n) {k : Nat} (hk : RowB v1 (l ++ [e]) k) : RowB v l k ∨ e.val.ownBlock = some k ∨ k = n := by
  rcases hk with hk | ⟨e', he', hk⟩
  · rcases hv with e1 | e1
    · exact .inl (.inl (by rw [← e1]; exact hk))
    · rw [e1] at hk; injection hk with hk; exact .inr (.inr hk.symm)
  · rcases List.mem_append.1 he' with h1 | h1
    · exact .inl (.inr ⟨e', h1, hk⟩)
    · rw [List.mem_singleton] at h1; subst h1; exact .inr (.inl hk)
theorem flat_at {l : List EX} {n : Nat} (hn : ∀ e ∈ l, e.cells.length = n) : ∀ {i : Nat} {e : EX}, l[i]? = some e → ∀ {j : Nat} {u : Value}, e.cells[j]? = some u → (exCells l)[i * n + j]? = some u := by
  induction l with
  | nil => intro i e h; simp at h
  | cons x r ih =>
    intro i e he j u hu
    have hx := hn x (by simp)
    have hj : j < n := by rw [← hn e (List.mem_of_getElem? he)]; exact (List.getElem?_eq_some_iff.1 hu).1
    unfold exCells at *
    rw [List.flatMap_cons]
    cases i with
    | zero =>
      simp only [List.getElem?_cons_zero, Option.some.injEq] at he
      subst he
      rw [List.getElem?_append_left (by omega), Nat.zero_mul, Nat.zero_add]; exact hu
    | succ i =>
      rw [List.getElem?_cons_succ] at he
      rw [List.getElem?_append_right (by rw [hx, Nat.add_mul]; omega), hx]
      have : (i + 1) * n + j - n = i * n + j := by rw [Nat.add_mul]; omega
      rw [this]
      exact ih (fun e he => hn e (List.mem_cons_of_mem _ he)) he hu
/-- an element's cells, where the row lies -/
theorem RowX.at_ (h : RowX t size base W v l) (hn : ∀ e ∈ l, e.cells.length = size) {i : Nat} (he : l[i]? = some e) : ∃ g c, v = .slice (some ⟨g, 0, none⟩) l.length c ∧ g < W.heap.size ∧ ∀ j u, e.cells[j]? = some u → W.cell? ⟨g, i * size + j, none⟩ = some u := by
  rcases h.row.2 with ⟨_, hx⟩ | ⟨g, cap, cur, e1, hb, hg, hn', hm, hcs, hcell⟩
  · have : 0 < l.length := by have := (List.getElem?_eq_some_iff.1 he).1; omega
    omega
  · refine ⟨g, cap, e1, Blk.lt (show Blk W g t cur from hg), fun j u hu => ?_⟩
    have hf := flat_at hn he hu
    rw [Blk.cell (show Blk W g t cur from hg) (i * size + j)]
    rw [← hcell, List.getElem?_take] at hf
    split at hf
    · simpa using hf
    · cases hf
end
theorem read_one (w : World) (cs : List Value) (t : TypeId) : Reads (w.alloc (.cells cs.toArray t)) (w.heap.size + 1) cs.length (some ⟨w.heap.size, 0, none⟩) 1 cs := by
  have := Reads.built w t cs
  refine ⟨by simp, fun _ => ?_⟩
  rcases Nat.eq_zero_or_pos cs.length with h0 | h0
  · exact ⟨_, rfl, by simp, fun j u hu => by rw [List.getElem?_eq_none (by omega)] at hu; cases hu⟩
  · exact this.2 h0

/-! ## Acts -/
def Ac.hd (a : Ac) : List Value := [.int .i64 a.k, .int .i64 a.z, .int .i64 a.i, .int .i64 a.j, .int .u8 (a.m.toNat : Int)]
def ActAt (w : World) (B : Nat) (A : Option Addr) (i : Nat) (a : Ac) : Prop := ∃ b o Ai ci, A = some ⟨b, o, none⟩ ∧ b < B ∧ (∀ j u, (a.hd ++ [.slice Ai a.b.length ci])[j]? = some u → w.cell? ⟨b, o + (i * 6 + j), none⟩ = some u) ∧ RdB w B Ai a.b.length a.b
def ActsAt (w : World) (B : Nat) (A : Option Addr) (n : Nat) (ac : List Ac) : Prop := ac.length = n ∧ ∀ (i : Nat) (a : Ac), ac[i]? = some a → ActAt w B A i a
theorem ActAt.below {w w' : World} {B i : Nat} {A : Option Addr} {a : Ac} (h : ActAt w B A i a) (hb : Below B w w') : ActAt w' B A i a := by
  obtain ⟨b, o, Ai, ci, rfl, hB, hc, hr⟩ := h
  exact ⟨b, o, Ai, ci, rfl, hB, fun j u hu => (hb.cell (p := ⟨b, o + (i * 6 + j), none⟩) hB).trans (hc j u hu), hr.below hb⟩
theorem ActsAt.below {w w' : World} {B n : Nat} {A : Option Addr} {ac : List Ac} (h : ActsAt w B A n ac) (hb : Below B w w') : ActsAt w' B A n ac := ⟨h.1, fun i a hi => (h.2 i a hi).below hb⟩
theorem ActsAt.more {w : World} {B B' n : Nat} {A : Option Addr} {ac : List Ac} (h : ActsAt w B A n ac) (hb : B ≤ B') : ActsAt w B' A n ac :=
  ⟨h.1, fun i a hi => by
    obtain ⟨b, o, Ai, ci, rfl, hB, hc, hr⟩ := h.2 i a hi
    exact ⟨b, o, Ai, ci, rfl, by omega, hc, hr.more hb⟩⟩
def Ac.ex (a : Ac) (A : Option Addr) (c : Nat) : EX := ⟨a.hd, a.b, A, c⟩
theorem info55 : (Try.prog.info? 55).map (fun i => (i.zero, i.size, i.bytes)) = some (some (.agg #[.int .i64 0, .int .i64 0, .int .i64 0, .int .i64 0, .int .u8 0, .slice none 0 0]), 6, 64) := by kernel_rfl
theorem info57 : (Try.prog.info? 57).map (fun i => (i.zero, i.size, i.bytes)) = some (some (.agg #[.int .i64 0, .int .i64 0, .slice none 0 0]), 3, 40) := by kernel_rfl
end Go.Proofs.Ytbkgphmocjjmmaa
