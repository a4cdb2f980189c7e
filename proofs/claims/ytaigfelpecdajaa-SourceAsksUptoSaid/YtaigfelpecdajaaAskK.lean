/-
  How a tree lies in memory, all its blocks in a set: for trees that the call itself makes. No statement of the seat is proved here.
-/
import Derived.Test.YtaigfelpecdajaaAskJ
namespace Go.Proofs.Ytaigfelpecdajaa
open Go.RowKit

/-- a slice reads as cells, its block in a set; the address written out -/
def ReadsI (w : World) (S : Nat → Prop) (size : Nat) (A : Option Addr) (n : Nat) (xs : List Value) : Prop :=
  xs.length = n * size ∧ (0 < n → ∃ b off, A = some ⟨b, off, none⟩ ∧ S b ∧ ∀ j u, xs[j]? = some u → w.cell? ⟨b, off + j, none⟩ = some u)
section
variable {w w' : World} {S S' : Nat → Prop} {B size n : Nat} {A : Option Addr} {xs : List Value}
theorem ReadsI.keep (h : ReadsI w S size A n xs) (hk : ∀ p : Addr, S p.block → w'.cell? p = w.cell? p) : ReadsI w' S size A n xs :=
  ⟨h.1, fun hn => by
    obtain ⟨b, off, e, hb, hc⟩ := h.2 hn
    exact ⟨b, off, e, hb, fun j u hu => (hk ⟨b, off + j, none⟩ hb).trans (hc j u hu)⟩⟩
theorem ReadsI.more (h : ReadsI w S size A n xs) (hS : ∀ k, S k → S' k) : ReadsI w S' size A n xs :=
  ⟨h.1, fun hn => by
    obtain ⟨b, off, e, hb, hc⟩ := h.2 hn
    exact ⟨b, off, e, hS b hb, hc⟩⟩
theorem ReadsI.toX (h : ReadsI w S size A n xs) (hS : ∀ k, S k → k < B) : ReadsX w B size A n xs :=
  ⟨h.1, fun hn => by
    obtain ⟨b, off, e, hb, hc⟩ := h.2 hn
    exact ⟨b, off, e, hS b hb, hc⟩⟩
theorem ReadsI.toR (h : ReadsI w S 1 A n xs) (hS : ∀ k, S k → k < B) : Reads w B 1 A n xs :=
  ⟨h.1, fun hn => by
    obtain ⟨b, off, e, hb, hc⟩ := h.2 hn
    refine ⟨_, e, hS b hb, fun j u hu => ?_⟩
    have : (⟨b, off, none⟩ : Addr).add j = ⟨b, off + j, none⟩ := by unfold Addr.add; split <;> simp_all
    rw [this]
    exact hc j u hu⟩
/-- an own row reads -/
theorem ReadsI.of_own {base : Nat} {e : TypeId} {c : Nat} (h : w.ownsRow base e size (.slice A n c) n xs) (hS : ∀ k, (Value.slice A n c).ownBlock = some k → S k) : ReadsI w S size A n xs := by
  refine ⟨h.1, fun hn => ?_⟩
  obtain ⟨g, cap, hv, _, hlt⟩ := h.form hn
  have hA : A = some ⟨g, 0, none⟩ := by injection hv
  subst hA
  refine ⟨g, 0, rfl, hS g (by simp [Value.ownBlock]), fun j u hu => ?_⟩
  have := h.cells (g := g) rfl j u hu
  have e : (⟨g, 0, none⟩ : Addr).add j = ⟨g, 0 + j, none⟩ := by unfold Addr.add; split <;> simp_all
  rwa [e] at this
end
/-- a node's cells, every block of it in a set, read as the tree -/
def NodeIn : (f : Nat) → World → (Nat → Prop) → List Value → TrF f → Prop
  | 0, _, _, _, _ => False
  | f + 1, w, S, cs, (t : Nd (TrF f)) => ∃ (A1 : Option Addr) (c1 : Nat) (A2 : Option Addr) (c2 : Nat) (A3 : Option Addr) (c3 : Nat) (css : List (List Value)),
      cs = [.int .i64 t.kind, .string t.name, .slice A1 t.names.length c1, .slice A2 t.temps.length c2, .slice A3 t.nodes.length c3, .int .i64 t.prim, .int .i64 t.place] ∧
      ReadsI w S 1 A1 t.names.length (t.names.map Value.string) ∧ ReadsI w S 1 A2 t.temps.length (t.temps.map Value.string) ∧ css.length = t.nodes.length ∧ ReadsI w S 7 A3 t.nodes.length css.flatten ∧
      ∀ (i : Nat) (cs' : List Value) (t' : TrF f), css[i]? = some cs' → t.nodes[i]? = some t' → NodeIn f w S cs' t'
theorem NodeIn.len : {f : Nat} → {w : World} → {S : Nat → Prop} → {cs : List Value} → {t : TrF f} → NodeIn f w S cs t → cs.length = 7
  | 0, _, _, _, _, h => h.elim
  | f + 1, _, _, _, _, ⟨_, _, _, _, _, _, _, h, _⟩ => by rw [h]; rfl
theorem NodeIn.keep : {f : Nat} → {w w' : World} → {S : Nat → Prop} → {cs : List Value} → {t : TrF f} → NodeIn f w S cs t → (∀ p : Addr, S p.block → w'.cell? p = w.cell? p) → NodeIn f w' S cs t
  | 0, _, _, _, _, _, h, _ => h.elim
  | _ + 1, _, _, _, _, _, ⟨A1, c1, A2, c2, A3, c3, css, h, h1, h2, hl, h3, h4⟩, hk =>
    ⟨A1, c1, A2, c2, A3, c3, css, h, ReadsI.keep h1 hk, ReadsI.keep h2 hk, hl, ReadsI.keep h3 hk, fun i cs' t' hc ht => (h4 i cs' t' hc ht).keep hk⟩
theorem NodeIn.more : {f : Nat} → {w : World} → {S S' : Nat → Prop} → {cs : List Value} → {t : TrF f} → NodeIn f w S cs t → (∀ k, S k → S' k) → NodeIn f w S' cs t
  | 0, _, _, _, _, _, h, _ => h.elim
  | _ + 1, _, _, _, _, _, ⟨A1, c1, A2, c2, A3, c3, css, h, h1, h2, hl, h3, h4⟩, hk =>
    ⟨A1, c1, A2, c2, A3, c3, css, h, ReadsI.more h1 hk, ReadsI.more h2 hk, hl, ReadsI.more h3 hk, fun i cs' t' hc ht => (h4 i cs' t' hc ht).more hk⟩
theorem NodeIn.toAt : {f : Nat} → {w : World} → {S : Nat → Prop} → {B : Nat} → {cs : List Value} → {t : TrF f} → NodeIn f w S cs t → (∀ k, S k → k < B) → NodeAt f w B cs t
  | 0, _, _, _, _, _, h, _ => h.elim
  | _ + 1, _, _, _, _, _, ⟨A1, c1, A2, c2, A3, c3, css, h, h1, h2, hl, h3, h4⟩, hk =>
    ⟨A1, c1, A2, c2, A3, c3, css, h, ReadsI.toR h1 hk, ReadsI.toR h2 hk, hl, ReadsI.toX h3 hk, fun i cs' t' hc ht => (h4 i cs' t' hc ht).toAt hk⟩
theorem cell_of_heap {w w' : World} {p : Addr} (h : w'.heap[p.block]? = w.heap[p.block]?) : w'.cell? p = w.cell? p := World.cell?_of_block h
/-- new blocks between two heaps' sizes, but for one -/
def Fresh (w w' : World) (v : Value) (k : Nat) : Prop := w.heap.size ≤ k ∧ k < w'.heap.size ∧ some k ≠ v.ownBlock
def TwinP (f : Nat) (w : World) (t : TrF f) (e : Ending) (w' : World) : Prop := ∃ cs, e = .returned (.agg cs.toArray) ∧ NodeIn f w' (fun k => w.heap.size ≤ k ∧ k < w'.heap.size) cs t ∧ Below w.heap.size w w'
end Go.Proofs.Ytaigfelpecdajaa
