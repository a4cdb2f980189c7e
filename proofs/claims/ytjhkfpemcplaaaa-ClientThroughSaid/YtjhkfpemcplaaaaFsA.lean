/-
  ClientFresh: what is kept on its way. No statement of the seat is proved here.
-/
import Derived.Test.YtjhkfpemcplaaaaClU
import Derived.Test.YtjhkfpemcplaaaaClV
import Derived.Test.YtjhkfpemcplaaaaClW
namespace Go.Proofs.Ytjhkfpemcplaaaa
open Go.RowKit

/-- a store into a row -/
theorem own_setN {w : World} {base g j : Nat} {e : TypeId} {size n : Nat} {v : Value} {xs : List Value} (h : w.ownsRow base e size v n xs) (hg : v.ownBlock = some g) (u : Value) : (w.setCell ⟨g, j, none⟩ u).ownsRow base e size v n (xs.set j u) := by
  refine ⟨by rw [List.length_set]; exact h.1, ?_⟩
  rcases h.2 with ⟨rfl, _⟩ | ⟨g', cap, cur, rfl, hb, hgg, hn, hm, hc, ht⟩
  · simp [Value.ownBlock] at hg
  · have : g' = g := by simpa [Value.ownBlock] using hg
    subst this
    refine .inr ⟨g', cap, cur.setIfInBounds j u, rfl, hb, ?_, hn, hm, by simp [hc], ?_⟩
    · simp [World.setCell, Array.getElem?_modify, hgg]
    · rw [← ht]
      simp [List.take_set]
/-- ClientFresh on its way: the client, and blocks that are kept as they were -/
structure FrS (w0 : World) (g : Nat) (p : Pa) (c : Cl) (m : Nat) (B : Nat → Prop) (wB w : World) : Prop where
  ca : CA w0.heap.size w p c
  gp : p.g = g
  old : Below w0.heap.size w0 w
  d : p.d ≤ (m : Int)
  kb : ∀ k, B k → k < w.heap.size ∧ ¬ CF p k ∧ w.heap[k]? = wB.heap[k]?
section
variable {w0 w w' wB : World} {g m k : Nat} {p p' : Pa} {c c' : Cl} {B B' F : Nat → Prop}
theorem FrS.below (h : FrS w0 g p c m B wB w) (hb : Below w.heap.size w w') : FrS w0 g p c m B wB w' :=
  ⟨h.ca.below hb, h.gp, h.old.trans (hb.mono h.old.size), h.d, fun k hk => by
    obtain ⟨h1, h2, h3⟩ := h.kb k hk
    have := hb.size
    exact ⟨by omega, h2, (hb.block k h1).trans h3⟩⟩
theorem FrS.step (h : FrS w0 g p c m B wB w) (s : Stp w0.heap.size w p k c' p' w') : FrS w0 g p' c' (m + k) B wB w' :=
  ⟨s.ca, s.g.trans h.gp, h.old.trans (s.chg.below h.old.size fun i hi hc => by have := (h.ca.lt hc).1; omega), by have := s.d; have := h.d; omega,
   fun x e => by
    obtain ⟨h1, h2, h3⟩ := h.kb x e
    have := s.chg.size
    refine ⟨by omega, fun hc => ?_, (s.chg.block x h1 h2).trans h3⟩
    rcases s.sub _ hc with h4 | h4
    · exact h2 h4
    · omega⟩
/-- kept from here on -/
theorem FrS.keep (h : FrS w0 g p c m B wB w) (hB : ∀ k, B' k → k < w.heap.size ∧ ¬ CF p k) : FrS w0 g p c m B' w w := ⟨h.ca, h.gp, h.old, h.d, fun k hk => ⟨(hB k hk).1, (hB k hk).2, rfl⟩⟩
theorem FrS.less (h : FrS w0 g p c m B wB w) (hB : ∀ k, B' k → B k) : FrS w0 g p c m B' wB w := ⟨h.ca, h.gp, h.old, h.d, fun k hk => h.kb k (hB k hk)⟩
theorem FrS.more (h : FrS w0 g p c m B wB w) {n : Nat} (hn : m ≤ n) : FrS w0 g p c n B wB w := ⟨h.ca, h.gp, h.old, by have := h.d; omega, h.kb⟩
/-- blocks changed that are none of the client's and none of the kept ones -/
theorem FrS.chg (h : FrS w0 g p c m B wB w) (hc : Chg F w w') (h1 : ∀ k, F k → w0.heap.size ≤ k ∧ ¬ CF p k ∧ ¬ B k) : FrS w0 g p c m B wB w' :=
  ⟨h.ca.chg hc fun k hk hf => (h1 k hf).2.1 hk, h.gp, h.old.trans (hc.below h.old.size fun i hi hf => by have := (h1 i hf).1; omega), h.d, fun k hk => by
    obtain ⟨a, b, d⟩ := h.kb k hk
    have := hc.size
    exact ⟨by omega, b, (hc.block k a fun hf => (h1 k hf).2.2 hk).trans d⟩⟩
theorem FrS.row (h : FrS w0 g p c m B wB w) {base : Nat} {e : TypeId} {size n : Nat} {v : Value} {xs : List Value} (ho : wB.ownsRow base e size v n xs) (hB : ∀ k, v.ownBlock = some k → B k) : w.ownsRow base e size v n xs := own_same ho fun k hk => (h.kb k (hB k hk)).2.2
theorem FrS.blk (h : FrS w0 g p c m B wB w) {b : Nat} {t : TypeId} {cs : Array Value} (hb : Blk wB b t cs) (hB : B b) : Blk w b t cs := ((h.kb b hB).2.2).trans hb
theorem FrS.rowK {α : Type} {K : Kd α} {base : Nat} {v : Value} {l : List (QX α)} (h : FrS w0 g p c m B wB w) (ho : RowK K base wB v l) (hB : ∀ k, (v.ownBlock = some k ∨ K.inB l k) → B k) : RowK K base w v l := ho.keep fun k hk => (h.kb k (hB k hk)).2.2
end
/-- what a Put hands over -/
def PutX (w : World) (good : Bool) (bs : List UInt8) (e : Ending) (w' : World) : Prop := ∃ A n c, e = .returned (.tuple #[.slice A n c, .bool good]) ∧ (good = true → n = bs.length ∧ OwnB 5 w' w.heap.size (.slice A n c) bs) ∧ Below w.heap.size w w'
theorem putX_of {w : World} {P : Prop} {bs : List UInt8} {good : Bool} (hg : good = true ↔ P) {e : Ending} {w' : World} (h : RPutPost w P bs e w') : PutX w good bs e w' := by
  obtain ⟨hb, h | ⟨h1, A2, n2, c2, he⟩⟩ := h
  · obtain ⟨h1, v, he, ho⟩ := h
    obtain ⟨A2, c2, rfl, _, _⟩ := own_formL ho
    rw [← hg] at h1
    subst h1
    exact ⟨A2, _, c2, he, fun _ => ⟨rfl, ho⟩, hb⟩
  · have : good = false := by cases good with
      | true => exact absurd (hg.1 rfl) h1
      | false => rfl
    subst this
    exact ⟨A2, n2, c2, he, (fun e => by cases e), hb⟩
theorem good_of (P : Prop) : ∃ g : Bool, g = true ↔ P := by
  by_cases h : P
  · exact ⟨true, fun _ => h, fun _ => rfl⟩
  · exact ⟨false, (fun e => by cases e), fun e => absurd e h⟩
end Go.Proofs.Ytjhkfpemcplaaaa
