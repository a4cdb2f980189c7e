/-
  Words for changes of memory, for rows of integers and of instructions. No statement of the seat is proved here.
-/
import Derived.Test.YtaeegkljldngmaaDoorCdD
namespace Go.Proofs.YtaeegkljldngmaaDoor
open Go.RowKit

structure Chg (F : Nat → Prop) (w w' : World) : Prop where
  os : w'.os = w.os
  tape : w'.tape = w.tape
  output : w'.output = w.output
  size : w.heap.size ≤ w'.heap.size
  block : ∀ k, k < w.heap.size → ¬ F k → w'.heap[k]? = w.heap[k]?
section
variable {F G : Nat → Prop} {w w1 w2 w' : World}
theorem Chg.refl (F : Nat → Prop) (w : World) : Chg F w w := ⟨rfl, rfl, rfl, Nat.le_refl _, fun _ _ _ => rfl⟩
theorem Chg.trans (h : Chg F w w1) (k : Chg G w1 w2) (hs : ∀ i, i < w.heap.size → G i → F i) : Chg F w w2 :=
  ⟨k.os.trans h.os, k.tape.trans h.tape, k.output.trans h.output, Nat.le_trans h.size k.size, fun i hi hn => (k.block i (Nat.lt_of_lt_of_le hi h.size) (fun hg => hn (hs i hi hg))).trans (h.block i hi hn)⟩
theorem Chg.of_below (h : Below w.heap.size w w1) (F : Nat → Prop) : Chg F w w1 := ⟨h.os, h.tape, h.output, h.size, fun i hi _ => h.block i hi⟩
theorem Chg.of_grown {row : Option Nat} (h : w.grownBy w1 row) (hF : ∀ k, row = some k → F k) : Chg F w w1 := ⟨h.os, h.tape, h.output, h.size, fun i hi hn => h.block i hi (fun e => hn (hF i e.symm))⟩
theorem Chg.mono (h : Chg F w w1) (hs : ∀ i, i < w.heap.size → F i → G i) : Chg G w w1 := ⟨h.os, h.tape, h.output, h.size, fun i hi hn => h.block i hi (fun hf => hn (hs i hi hf))⟩
theorem Chg.below {B : Nat} (h : Chg F w w1) (hB : B ≤ w.heap.size) (hF : ∀ k, k < B → ¬ F k) : Below B w w1 := ⟨h.os, h.tape, h.output, h.size, fun i hi => h.block i (by omega) (hF i hi)⟩
theorem Chg.alloc (h : Chg F w w1) (o : Obj) : Chg F w (w1.alloc o) := h.trans (Chg.of_below ((Below.refl _ _).alloc (Nat.le_refl _) o) (fun _ => False)) (fun _ _ h => h.elim)
theorem Chg.drew (h : Chg F w w1) : Chg F w w1.drew := ⟨h.os, h.tape, h.output, h.size, h.block⟩
theorem Chg.setCell (h : Chg F w w1) {p : Addr} (hp : p.block < w.heap.size → F p.block) (u : Value) : Chg F w (w1.setCell p u) :=
  ⟨h.os, h.tape, h.output, by simpa [World.setCell] using h.size, fun i hi hn => (Below.heap_setCell w1 p u i (by rintro rfl; exact hn (hp hi))).trans (h.block i hi hn)⟩
theorem Chg.blk {g : Nat} {t : TypeId} {cs : Array Value} (h : Chg F w w1) (hb : Blk w g t cs) (hn : ¬ F g) : Blk w1 g t cs := (h.block g hb.lt hn).trans hb
end
theorem own_same {w w' : World} {base : Nat} {e : TypeId} {size n : Nat} {v : Value} {xs : List Value} (h : w.ownsRow base e size v n xs) (hk : ∀ k, v.ownBlock = some k → w'.heap[k]? = w.heap[k]?) : w'.ownsRow base e size v n xs := by
  refine ⟨h.1, ?_⟩
  rcases h.2 with hn | ⟨g, cap, cur, rfl, hb, hgg, rest⟩
  · exact .inl hn
  · exact .inr ⟨g, cap, cur, rfl, hb, (hk g (by simp [Value.ownBlock])).trans hgg, rest⟩
theorem own_chg {F : Nat → Prop} {w w' : World} {base : Nat} {e : TypeId} {size n : Nat} {v : Value} {xs : List Value} (h : w.ownsRow base e size v n xs) (hc : Chg F w w') (hn : ∀ k, v.ownBlock = some k → ¬ F k) : w'.ownsRow base e size v n xs :=
  own_same h fun k hk => hc.block k (h.lt k hk).2 (hn k hk)
theorem own_form {w : World} {base : Nat} {e : TypeId} {size n : Nat} {v : Value} {xs : List Value} (h : w.ownsRow base e size v n xs) : ∃ A c, v = .slice A n c ∧ n ≤ c ∧ c ≤ maxLen := by
  rcases h.2 with ⟨rfl, rfl⟩ | ⟨g, cap, cur, rfl, _, _, hn, hm, _⟩
  · exact ⟨none, 0, rfl, by omega, by simp⟩
  · exact ⟨_, cap, rfl, hn, hm⟩
theorem own_apart {w : World} {b1 b2 : Nat} {e1 e2 : TypeId} {s1 s2 n m : Nat} {v u : Value} {xs ys : List Value} (h : w.ownsRow b1 e1 s1 v n xs) (h' : w.ownsRow b2 e2 s2 u m ys) (hne : e1 ≠ e2) : ∀ k, v.ownBlock = some k → u.ownBlock ≠ some k := by
  intro k hk hu
  rcases h'.2 with ⟨rfl, _⟩ | ⟨q, cap, cur, rfl, _, hq, _⟩
  · simp [Value.ownBlock] at hu
  · have : q = k := by simpa [Value.ownBlock] using hu
    subst this
    exact own_blk_ne h (show Blk w q e2 cur from hq) hne hk
theorem own_base {w : World} {b1 b2 : Nat} {e : TypeId} {size n : Nat} {v : Value} {xs : List Value} (h : w.ownsRow b1 e size v n xs) (hb : b2 ≤ b1) : w.ownsRow b2 e size v n xs := World.ownsRow.mono h hb

theorem info5 : (Tryd.prog.info? 5).map (fun i => (i.zero, i.size, i.bytes)) = some (some (.int .u8 0), 1, 1) := by kernel_rfl
theorem info3 : (Tryd.prog.info? 3).map (fun i => (i.zero, i.size, i.bytes)) = some (some (.int .i64 0), 1, 8) := by kernel_rfl
theorem info34 : (Tryd.prog.info? 34).map (fun i => (i.zero, i.size, i.bytes)) = some (some (.agg #[.int .i64 0, .int .i64 0, .int .i64 0, .int .i64 0, .int .i64 0]), 5, 40) := by kernel_rfl
theorem info88 : (Tryd.prog.info? 88).map (fun i => (i.zero, i.size, i.bytes)) = some (some (.agg #[.int .i64 0, .int .i64 0, .int .i64 0, .int .i64 0, .slice none 0 0, .int .i64 0]), 6, 64) := by kernel_rfl
def iv (z : Int) : Value := .int .i64 z
theorem iv_one (zs : List Int) : ∀ u ∈ zs.map iv, u.oneCell' = true := by
  intro u hu
  obtain ⟨x, _, rfl⟩ := List.mem_map.1 hu
  rfl
/-- a row of integers of the call's own -/
abbrev OwnZ (w : World) (base : Nat) (v : Value) (zs : List Int) : Prop := w.ownsRow base 3 1 v zs.length (zs.map iv)

/-! ## Instructions -/
structure Ins where
  op : Int
  a : Int
  b : Int
  c : Int
  z : Int
def Ins.cs (x : Ins) : List Value := [.int .i64 x.op, .int .i64 x.a, .int .i64 x.b, .int .i64 x.c, .int .i64 x.z]
def Ins.val (x : Ins) : Value := .agg #[.int .i64 x.op, .int .i64 x.a, .int .i64 x.b, .int .i64 x.c, .int .i64 x.z]
def insC (l : List Ins) : List Value := l.flatMap Ins.cs
theorem insC_len (l : List Ins) : (insC l).length = l.length * 5 := by
  induction l with
  | nil => rfl
  | cons a l ih => simp only [insC, List.flatMap_cons, List.length_append, List.length_cons] at ih ⊢; rw [ih]; simp [Ins.cs]; omega
theorem insC_app (l r : List Ins) : insC (l ++ r) = insC l ++ insC r := by simp [insC]
theorem insC_one (l : List Ins) : ∀ u ∈ insC l, u.oneCell' = true := by
  intro u hu
  obtain ⟨x, _, hu⟩ := List.mem_flatMap.1 hu
  simp only [Ins.cs, List.mem_cons, List.not_mem_nil, or_false] at hu
  rcases hu with rfl | rfl | rfl | rfl | rfl <;> rfl
theorem flat_at {α : Type} {f : α → List Value} {n : Nat} (hn : ∀ x, (f x).length = n) : ∀ {l : List α} {i : Nat} {x : α}, l[i]? = some x → ∀ {j : Nat} {u : Value}, (f x)[j]? = some u → (l.flatMap f)[i * n + j]? = some u := by
  intro l
  induction l with
  | nil => intro i e h; simp at h
  | cons x r ih =>
    intro i e he j u hu
    have hx := hn x
    have hj : j < n := by rw [← hn e]; exact (List.getElem?_eq_some_iff.1 hu).1
    rw [List.flatMap_cons]
    cases i with
    | zero =>
      simp only [List.getElem?_cons_zero, Option.some.injEq] at he
      subst he
      rw [List.getElem?_append_left (by omega), Nat.zero_mul, Nat.zero_add]; exact hu
    | succ i =>
      rw [List.getElem?_cons_succ] at he
      rw [List.getElem?_append_right (by rw [hx, Nat.add_mul]; omega), hx]
      have : (i + 1) * n + j - n = i * n + j := by rw [Nat.add_mul]; omega
      rw [this]
      exact ih he hu
abbrev OwnIn (w : World) (base : Nat) (v : Value) (l : List Ins) : Prop := w.ownsRow base 34 5 v l.length (insC l)
/-- a slice of instructions, wherever it lies -/
def InAt (w : World) (B : Nat) (A : Option Addr) (i : Nat) (x : Ins) : Prop := ∃ b o, A = some ⟨b, o, none⟩ ∧ b < B ∧ ∀ j u, x.cs[j]? = some u → w.cell? ⟨b, o + (i * 5 + j), none⟩ = some u
def RdI (w : World) (B : Nat) (A : Option Addr) (n : Nat) (l : List Ins) : Prop := l.length = n ∧ ∀ (i : Nat) (x : Ins), l[i]? = some x → InAt w B A i x
section
variable {w w' : World} {B B' n : Nat} {A : Option Addr} {l : List Ins}
theorem RdI.keep (h : RdI w B A n l) (hk : ∀ p : Addr, p.block < B → w'.cell? p = w.cell? p) : RdI w' B A n l :=
  ⟨h.1, fun i x hx => by
    obtain ⟨b, o, e, hb, hc⟩ := h.2 i x hx
    exact ⟨b, o, e, hb, fun j u hu => (hk ⟨b, _, none⟩ hb).trans (hc j u hu)⟩⟩
theorem RdI.below (h : RdI w B A n l) (hb : Below B w w') : RdI w' B A n l := h.keep fun _ hp => hb.cell hp
theorem RdI.more (h : RdI w B A n l) (hB : B ≤ B') : RdI w B' A n l :=
  ⟨h.1, fun i x hx => by
    obtain ⟨b, o, e, hb, hc⟩ := h.2 i x hx
    exact ⟨b, o, e, by omega, hc⟩⟩
theorem RdI.drewN (h : RdI w B A n l) (k : Nat) : RdI (w.drewN k) B A n l := h
theorem RdI.of_own {base c : Nat} (h : w.ownsRow base 34 5 (.slice A n c) n (insC l)) : RdI w w.heap.size A n l := by
  have hl : l.length = n := by have := h.1; rw [insC_len] at this; omega
  refine ⟨hl, fun i x hx => ?_⟩
  have hi := (List.getElem?_eq_some_iff.1 hx).1
  obtain ⟨g, cap, hv, _, hlt⟩ := World.ownsRow.form h (by omega)
  have hA : A = some ⟨g, 0, none⟩ := by injection hv
  subst hA
  refine ⟨g, 0, rfl, hlt, fun j u hu => ?_⟩
  have h1 := World.ownsRow.cells h (g := g) rfl (i * 5 + j) u (flat_at (f := Ins.cs) (n := 5) (fun _ => rfl) hx hu)
  have e : (⟨g, 0, none⟩ : Addr).add (i * 5 + j) = ⟨g, 0 + (i * 5 + j), none⟩ := by unfold Addr.add; split <;> simp_all
  rw [e] at h1
  exact h1
end
end Go.Proofs.YtaeegkljldngmaaDoor
