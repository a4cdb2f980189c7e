/-
  The world between two steps of a Get (of a reply, of a command): a reader, the answer that is being built, the row of its own. No statement of the seat is proved here.
-/
import Derived.Test.YtjhkfpemcplaaaaTxt
namespace Go.Proofs.Ytjhkfpemcplaaaa
open Go.RowKit

/-- reader R (type T), the answer's block G and the result's block G0 (type U), a row of elements E of the call's own -/
structure GS (w : World) (T U E S R G G0 : Nat) (l : List UInt8) (b : Bool) (cs zs : Array Value) (V : Value) (n : Nat) (xs : List Value) (wr : World) : Prop where
  part : PartIs wr T w.heap.size R l b
  main : Blk wr G U cs
  res : Blk wr G0 U zs
  own : wr.ownsRow w.heap.size E S V n xs
  below : Below w.heap.size w wr
  hG : w.heap.size ≤ G
  hG0 : w.heap.size ≤ G0
  ne : G0 ≠ G

section
variable {w wr w' : World} {T U E S R G G0 n : Nat} {l : List UInt8} {b : Bool} {cs zs : Array Value} {V : Value} {xs : List Value}
theorem PartIs.blk {w : World} {T B g : Nat} {l : List UInt8} {b : Bool} (h : PartIs w T B g l b) : ∃ cs, Blk w g T cs := by
  obtain ⟨_, _, A, c, hb, _⟩ := h
  exact ⟨_, hb⟩
theorem GS.call (h : GS w T U E S R G G0 l b cs zs V n xs wr) (hTU : T ≠ U) (hTE : T ≠ E) {l' : List UInt8} {b' : Bool} (hp : PartIs w' T w.heap.size R l' b') (hg : wr.grownBy w' (some R)) :
    GS w T U E S R G G0 l' b' cs zs V n xs w' := by
  obtain ⟨c0, hc0⟩ := h.part.blk
  have hR := h.part.1
  refine ⟨hp, h.main.grown hg ?_, h.res.grown hg ?_, h.own.kept hg (.inr (own_blk_ne h.own hc0 hTE.symm)), h.below.grown hg h.below.size (fun k hk => by injection hk with hk; omega), h.hG, h.hG0, h.ne⟩
  · intro e; injection e with e; exact Blk.ne_ h.main hc0 hTU.symm e
  · intro e; injection e with e; exact Blk.ne_ h.res hc0 hTU.symm e
theorem GS.grown0 (h : GS w T U E S R G G0 l b cs zs V n xs wr) (hg : wr.grownBy w' none) : GS w T U E S R G G0 l b cs zs V n xs w' :=
  ⟨h.part.grown hg (fun k hk => by cases hk) (by simp), h.main.grown hg (by simp), h.res.grown hg (by simp), h.own.kept hg (by cases V.ownBlock <;> simp), h.below.grown hg h.below.size (fun k hk => by cases hk), h.hG, h.hG0, h.ne⟩
theorem GS.alloc (h : GS w T U E S R G G0 l b cs zs V n xs wr) (o : Obj) : GS w T U E S R G G0 l b cs zs V n xs (wr.alloc o) := h.grown0 (World.grownBy_alloc wr o none)
theorem GS.drew (h : GS w T U E S R G G0 l b cs zs V n xs wr) : GS w T U E S R G G0 l b cs zs V n xs wr.drew := h.grown0 (only_drew (World.grownBy.refl wr none))
theorem GS.drewN (h : GS w T U E S R G G0 l b cs zs V n xs wr) (k : Nat) : GS w T U E S R G G0 l b cs zs V n xs (wr.drewN k) := h.grown0 (only_drewN (World.grownBy.refl wr none) k)
theorem GS.later (h : GS w T U E S R G G0 l b cs zs V n xs wr) (hb : Below wr.heap.size wr w') : GS w T U E S R G G0 l b cs zs V n xs w' := h.grown0 (only_of_below hb none)
theorem GS.app (h : GS w T U E S R G G0 l b cs zs V n xs wr) (hTE : T ≠ E) (hUE : U ≠ E) {V' : Value} {n' : Nat} {xs' : List Value} (hg : wr.grownBy w' V.ownBlock) (ho : w'.ownsRow w.heap.size E S V' n' xs') :
    GS w T U E S R G G0 l b cs zs V' n' xs' w' := by
  obtain ⟨c0, hc0⟩ := h.part.blk
  have hlt := h.own.lt
  exact ⟨h.part.grown hg (fun k hk => (hlt k hk).1) (own_blk_ne h.own hc0 hTE.symm), h.main.grown hg (fun e => own_blk_ne h.own h.main hUE.symm e.symm), h.res.grown hg (fun e => own_blk_ne h.own h.res hUE.symm e.symm), ho,
    h.below.grown hg h.below.size (fun k hk => (hlt k hk).1), h.hG, h.hG0, h.ne⟩
theorem GS.setMain (h : GS w T U E S R G G0 l b cs zs V n xs wr) (hTU : T ≠ U) (hUE : U ≠ E) (i : Nat) (u : Value) : GS w T U E S R G G0 l b (cs.setIfInBounds i u) zs V n xs (wr.setCell ⟨G, i, none⟩ u) := by
  obtain ⟨c0, hc0⟩ := h.part.blk
  have hg : wr.grownBy (wr.setCell ⟨G, i, none⟩ u) (some G) := only_setCell (p := ⟨G, i, none⟩) (World.grownBy.refl wr _) (.inl rfl) u
  exact ⟨h.part.grown hg (fun k hk => by injection hk with hk; have := h.hG; omega) (fun e => by injection e with e; exact Blk.ne_ h.main hc0 hTU.symm e), h.main.set_ i u, h.res.grown hg (fun e => by injection e with e; exact h.ne e),
    h.own.kept hg (.inr (own_blk_ne h.own h.main hUE.symm)), h.below.grown hg h.below.size (fun k hk => by injection hk with hk; have := h.hG; omega), h.hG, h.hG0, h.ne⟩
/-- a store into a block that is none of these -/
theorem GS.setFar (h : GS w T U E S R G G0 l b cs zs V n xs wr) {k : Nat} (hk : w.heap.size ≤ k) (hR : R ≠ k) (hG : G ≠ k) (hG0 : G0 ≠ k) (hV : V.ownBlock ≠ some k) (i : Nat) (u : Value) : GS w T U E S R G G0 l b cs zs V n xs (wr.setCell ⟨k, i, none⟩ u) := by
  have hg : wr.grownBy (wr.setCell ⟨k, i, none⟩ u) (some k) := only_setCell (p := ⟨k, i, none⟩) (World.grownBy.refl wr _) (.inl rfl) u
  exact ⟨h.part.grown hg (fun j hj => by injection hj with hj; omega) (fun e => by injection e with e; exact hR e.symm), h.main.grown hg (fun e => by injection e with e; exact hG e), h.res.grown hg (fun e => by injection e with e; exact hG0 e),
    h.own.kept hg (.inr hV), h.below.grown hg h.below.size (fun j hj => by injection hj with hj; omega), h.hG, h.hG0, h.ne⟩
theorem GS.bad (h : GS w T U E S R G G0 l b cs zs V n xs wr) : wr.cell? ⟨R, 1, none⟩ = some (.bool b) := h.part.cells.1
theorem GS.cell (h : GS w T U E S R G G0 l b cs zs V n xs wr) (i : Nat) : wr.cell? ⟨G, i, none⟩ = cs[i]? := h.main.cell i
theorem GS.partLt (h : GS w T U E S R G G0 l b cs zs V n xs wr) : R < wr.heap.size := by obtain ⟨c0, hc0⟩ := h.part.blk; exact hc0.lt
theorem GS.ownLt (h : GS w T U E S R G G0 l b cs zs V n xs wr) : V.ownBlock ≠ some wr.heap.size := fun e => by have := (h.own.lt _ e).2; omega
end
/-- the lists: one value, so many values -/
def valD (l : List UInt8) (b : Bool) : (Nat × Int) × List UInt8 × Bool :=
  if (cnt l b).1 = 0 then ((0, unzig (cnt (cnt l b).2.1 (cnt l b).2.2).1), (cnt (cnt l b).2.1 (cnt l b).2.2).2) else (((cnt l b).1, 0), (cnt l b).2)
def valsD : Nat → List UInt8 → Bool → List (Nat × Int) × List UInt8 × Bool
  | 0, l, b => ([], l, b)
  | k + 1, l, b => if b = true then ([], l, b) else ((valD l b).1 :: (valsD k (valD l b).2.1 (valD l b).2.2).1, (valsD k (valD l b).2.1 (valD l b).2.2).2)
theorem valsD_bad (k : Nat) (l : List UInt8) : valsD k l true = ([], l, true) := by cases k <;> simp [valsD]
theorem valsD_len (k : Nat) : ∀ (l : List UInt8) (b : Bool), (valsD k l b).1.length ≤ k := by
  induction k with
  | zero => intro l b; simp [valsD]
  | succ k ih =>
    intro l b
    rw [valsD]
    split
    · simp
    · simpa using ih _ _
end Go.Proofs.Ytjhkfpemcplaaaa
