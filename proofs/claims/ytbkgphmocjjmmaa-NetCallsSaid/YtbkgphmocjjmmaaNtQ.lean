/-
  The state of the law NetOrder: a net, two arrays of three rows of byte slices. No program in sight.
-/
import Derived.Test.YtbkgphmocjjmmaaNtP
namespace Go.Proofs.Ytbkgphmocjjmmaa
open Go.RowKit

def arrV (x : Bool → Value) : Array Value := #[.slice none 0 0, x false, x true]
def sideO : Bool → Nat
  | false => 1
  | true => 2
theorem arrV_at (x : Bool → Value) (s : Bool) : (arrV x)[sideO s]? = some (x s) := by cases s <;> rfl
theorem arrV_set (x : Bool → Value) (s : Bool) (u : Value) : (arrV x).setIfInBounds (sideO s) u = arrV (upd x s u) := by cases s <;> simp [arrV, sideO, upd]
def upd2 {α : Type} (x : Bool → Bool → α) (r s : Bool) (u : α) : Bool → Bool → α := upd x r (upd (x r) s u)
theorem upd2_at {α : Type} (x : Bool → Bool → α) (r s : Bool) (u : α) : upd2 x r s u r s = u := by simp [upd2, upd]
theorem upd2_off {α : Type} (x : Bool → Bool → α) (r s r' s' : Bool) (u : α) (h : ¬ (r' = r ∧ s' = s)) : upd2 x r s u r' s' = x r' s' := by
  unfold upd2 upd
  by_cases h1 : r' = r
  · subst h1
    rw [if_pos rfl, if_neg (fun h2 => h ⟨rfl, h2⟩)]
  · rw [if_neg h1]
structure OrdM (w W : World) (g : Nat) (ab : Bool → Nat) (S : Ns) (v : Bool → Value) (l : Bool → List LP) (x : Bool → Bool → Value) (y : Bool → Bool → List Value) : Prop where
  net : NetA W g S v l
  new : ∀ k, NetF g v l k → w.heap.size ≤ k
  arr : ∀ r, Blk W (ab r) 31 (arrV (x r)) ∧ w.heap.size ≤ ab r
  two : ab false ≠ ab true
  row : ∀ r s, W.ownsRow w.heap.size 23 1 (x r s) (y r s).length (y r s)
  apart : ∀ r s r' s', ¬ (r' = r ∧ s' = s) → ∀ k, (x r s).ownBlock = some k → (x r' s').ownBlock ≠ some k
  old : Below w.heap.size w W
/-- what was sent reads as it read when the law began -/
def SentE (w : World) (vs : List Value) (bs : List (List UInt8)) : Prop := vs.length = bs.length ∧ ∀ (i : Nat) (u : Value) (b : List UInt8), vs[i]? = some u → bs[i]? = some b → ∃ (A : Option Addr) (c : Nat), u = .slice A b.length c ∧ RdB w w.heap.size A b.length b
/-- what was delivered is none of the net's -/
def GotE (W : World) (F : Nat → Prop) (vs : List Value) (bs : List (List UInt8)) : Prop := vs.length = bs.length ∧ ∀ (i : Nat) (u : Value) (b : List UInt8), vs[i]? = some u → bs[i]? = some b → ∃ (A : Option Addr) (c : Nat), u = .slice A b.length c ∧ OwnB 5 W 0 (.slice A b.length c) b ∧ ∀ k, (Value.slice A b.length c).ownBlock = some k → ¬ F k
section
variable {w W W' : World} {g : Nat} {ab : Bool → Nat} {S S' : Ns} {v v' : Bool → Value} {l l' : Bool → List LP} {x : Bool → Bool → Value} {y : Bool → Bool → List Value} {vs : List Value} {bs : List (List UInt8)}
theorem snocE {R : Value → List UInt8 → Prop} {u : Value} {b : List UInt8} (h : vs.length = bs.length ∧ ∀ (i : Nat) (u : Value) (b : List UInt8), vs[i]? = some u → bs[i]? = some b → R u b) (hu : R u b) : (vs ++ [u]).length = (bs ++ [b]).length ∧ ∀ (i : Nat) (u' : Value) (b' : List UInt8), (vs ++ [u])[i]? = some u' → (bs ++ [b])[i]? = some b' → R u' b' := by
  refine ⟨by simp [h.1], fun i u' b' h1 h2 => ?_⟩
  rcases Nat.lt_or_ge i vs.length with hi | hi
  · rw [List.getElem?_append_left hi] at h1
    rw [List.getElem?_append_left (by rw [← h.1]; exact hi)] at h2
    exact h.2 i u' b' h1 h2
  · rw [List.getElem?_append_right hi] at h1
    rw [List.getElem?_append_right (by rw [← h.1]; exact hi), ← h.1] at h2
    have e : i - vs.length = 0 := by
      rcases Nat.eq_zero_or_pos (i - vs.length) with e | e
      · exact e
      · rw [List.getElem?_eq_none (by simp; omega)] at h1; cases h1
    rw [e] at h1 h2
    simp at h1 h2
    subst h1 h2
    exact hu
/-- rows and arrays are none of the net's blocks -/
theorem OrdM.far (h : OrdM w W g ab S v l x y) {k : Nat} (hk : (∃ r, k = ab r) ∨ ∃ r s, (x r s).ownBlock = some k) : ¬ NetF g v l k := by
  intro hf
  rcases hk with ⟨r, rfl⟩ | ⟨r, s, hk⟩
  · rcases hf with e | ⟨t, e⟩ | ⟨t, p, hp, e⟩
    · have h1 := (h.arr r).1
      rw [e] at h1
      exact h1.ne_ h.net.blk (by decide) rfl
    · exact own_blk_ne (h.net.row t) (h.arr r).1 (by decide) e
    · exact own_blk_ne (h.net.pks t p hp) (h.arr r).1 (by decide) e
  · rcases hf with e | ⟨t, e⟩ | ⟨t, p, hp, e⟩
    · subst e
      exact own_blk_ne (h.row r s) h.net.blk (by decide) hk
    · exact own_apart (h.row r s) (h.net.row t) (by decide) k hk e
    · exact own_apart (h.row r s) (h.net.pks t p hp) (by decide) k hk e
theorem OrdM.step (h : OrdM w W g ab S v l x y) (hn : NetA W' g S' v' l') (hsub : ∀ k, NetF g v' l' k → NetF g v l k ∨ W.heap.size ≤ k) (hc : Chg (NetF g v l) W W') : OrdM w W' g ab S' v' l' x y := by
  have hs := h.old.size
  refine ⟨hn, fun k hk => ?_, fun r => ⟨hc.blk (h.arr r).1 (h.far (.inl ⟨r, rfl⟩)), (h.arr r).2⟩, h.two, fun r s => own_chg (h.row r s) hc (fun k hk => h.far (.inr ⟨r, s, hk⟩)), h.apart, h.old.trans (hc.below hs fun k hk hF => by have := h.new k hF; omega)⟩
  rcases hsub k hk with h1 | h1
  · exact h.new k h1
  · omega
theorem GotE.step {F F' : Nat → Prop} (h : GotE W F vs bs) (hsub : ∀ k, F' k → F k ∨ W.heap.size ≤ k) (hc : Chg F W W') : GotE W' F' vs bs := by
  refine ⟨h.1, fun i u b h1 h2 => ?_⟩
  obtain ⟨A, c, rfl, ho, hf⟩ := h.2 i u b h1 h2
  refine ⟨A, c, rfl, own_chg ho hc hf, fun k hk hF => ?_⟩
  rcases hsub k hF with e | e
  · exact hf k hk e
  · have := (ho.lt k hk).2; omega
theorem OrdM.below (h : OrdM w W g ab S v l x y) (hb : Below W.heap.size W W') : OrdM w W' g ab S v l x y := h.step (h.net.below hb) (fun _ hk => .inl hk) (Chg.of_below hb _)
/-- a row grows, and lies in its array -/
theorem OrdM.app {W1 W4 : World} {r s : Bool} {v1 u : Value} (h : OrdM w W g ab S v l x y) (hb : Below W.heap.size W W1) (hr : W4.ownsRow w.heap.size 23 1 v1 ((y r s).length + 1) (y r s ++ [u])) (hg : W1.grownBy W4 (x r s).ownBlock) (hv : v1.ownBlock = (x r s).ownBlock ∨ v1.ownBlock = some W1.heap.size) :
    OrdM w (W4.setCell ⟨ab r, sideO s, none⟩ v1) g ab S v l (upd2 x r s v1) (upd2 y r s (y r s ++ [u])) ∧ Chg (fun k => (x r s).ownBlock = some k ∨ k = ab r) W (W4.setCell ⟨ab r, sideO s, none⟩ v1) := by
  have hs := h.old.size
  have hs1 := hb.size
  have hs4 := hg.size
  have hlt : ab r < W.heap.size := (h.arr r).1.lt
  have hx : ∀ k, (x r s).ownBlock = some k → w.heap.size ≤ k ∧ k < W.heap.size := fun k e => (h.row r s).lt k e
  have hxa : (x r s).ownBlock ≠ some (ab r) := fun e => own_blk_ne (h.row r s) (h.arr r).1 (by decide) e
  have c0 : Chg (fun k => (x r s).ownBlock = some k ∨ k = ab r) W W4 := (Chg.of_below hb _).trans (Chg.of_grown hg (F := fun k => (x r s).ownBlock = some k) (fun _ e => e)) (fun _ _ e => .inl e)
  have c1 : Chg (fun k => (x r s).ownBlock = some k ∨ k = ab r) W (W4.setCell ⟨ab r, sideO s, none⟩ v1) := c0.setCell (p := ⟨ab r, sideO s, none⟩) (fun _ => .inr rfl) v1
  have hg' : ∀ r', Blk W4 (ab r') 31 (arrV (x r')) := fun r' => ((h.arr r').1.below hb (h.arr r').1.lt).grown hg (fun e => own_blk_ne (h.row r s) (h.arr r').1 (by decide) e.symm)
  have hlive : ∀ k, k < W.heap.size → (x r s).ownBlock ≠ some k → k ≠ ab r → (W4.setCell ⟨ab r, sideO s, none⟩ v1).heap[k]? = W.heap[k]? := fun k hk h1 h2 => c1.block k hk (fun e => by
    rcases e with e | e
    · exact h1 e
    · exact h2 e)
  have hv1 : v1.ownBlock ≠ some (ab r) := fun e => by
    rcases hv with e2 | e2
    · exact hxa (by rw [← e2]; exact e)
    · rw [e2] at e; injection e with e; omega
  have hF : ∀ k, NetF g v l k → ¬ ((x r s).ownBlock = some k ∨ k = ab r) := fun k hk e => by
    rcases e with e | e
    · exact h.far (.inr ⟨r, s, e⟩) hk
    · exact h.far (.inl ⟨r, e⟩) hk
  refine ⟨⟨h.net.chg c1 hF, h.new, fun r' => ?_, h.two, fun r' s' => ?_, fun r' s' r2 s2 hne k hk => ?_, h.old.trans (c1.below hs fun k hk e => ?_)⟩, c1⟩
  · by_cases e : r' = r
    · subst e
      refine ⟨?_, (h.arr r').2⟩
      have := (hg' r').set_ (sideO s) v1
      rw [arrV_set] at this
      have e2 : upd2 x r' s v1 r' = upd (x r') s v1 := by simp [upd2, upd]
      rw [e2]; exact this
    · refine ⟨?_, (h.arr r').2⟩
      have e2 : upd2 x r s v1 r' = x r' := by unfold upd2 upd; rw [if_neg e]
      rw [e2]
      have hne : ab r' ≠ ab r := by
        intro e3
        cases r <;> cases r' <;> first | exact e rfl | exact h.two e3 | exact h.two e3.symm
      exact (hg' r').far (p := ⟨ab r, sideO s, none⟩) hne v1
  · by_cases e : r' = r ∧ s' = s
    · obtain ⟨rfl, rfl⟩ := e
      rw [upd2_at, upd2_at, List.length_append]
      exact World.ownsRow.kept hr (only_setCell (p := ⟨ab r', sideO s', none⟩) (World.grownBy.refl W4 (some (ab r'))) (.inl rfl) v1) (.inr hv1)
    · rw [upd2_off _ _ _ _ _ _ e, upd2_off _ _ _ _ _ _ e]
      exact own_same (h.row r' s') fun k hk => hlive k ((h.row r' s').lt k hk).2 (fun e2 => h.apart r' s' r s (fun ⟨h1, h2⟩ => e ⟨h1.symm, h2.symm⟩) k hk e2) (fun e2 => by subst e2; exact own_blk_ne (h.row r' s') (h.arr r).1 (by decide) hk)
  · have hnew : ∀ r3 s3, v1.ownBlock = some k → ¬ (r3 = r ∧ s3 = s) → (x r3 s3).ownBlock ≠ some k := fun r3 s3 e hn3 e3 => by
      rcases hv with e2 | e2
      · exact h.apart r3 s3 r s (fun ⟨h1, h2⟩ => hn3 ⟨h1.symm, h2.symm⟩) k e3 (by rw [← e2]; exact e)
      · rw [e2] at e; injection e with e
        have := ((h.row r3 s3).lt k e3).2
        omega
    by_cases e1 : r' = r ∧ s' = s
    · obtain ⟨rfl, rfl⟩ := e1
      rw [upd2_at] at hk
      rw [upd2_off _ _ _ _ _ _ hne]
      exact hnew r2 s2 hk hne
    · rw [upd2_off _ _ _ _ _ _ e1] at hk
      by_cases e2 : r2 = r ∧ s2 = s
      · obtain ⟨rfl, rfl⟩ := e2
        rw [upd2_at]
        exact fun e3 => hnew r' s' e3 e1 hk
      · rw [upd2_off _ _ _ _ _ _ e2]
        exact h.apart r' s' r2 s2 hne k hk
  · rcases e with e | e
    · have := (hx k e).1; omega
    · have := (h.arr r).2; omega
/-- what was delivered stays as it is when a row grows -/
theorem GotE.app {r s : Bool} {F : Nat → Prop} (h : GotE W F vs bs) (hm : OrdM w W g ab S v l x y) (hc : Chg (fun k => (x r s).ownBlock = some k ∨ k = ab r) W W') : GotE W' F vs bs := by
  refine ⟨h.1, fun i u b h1 h2 => ?_⟩
  obtain ⟨A, c, rfl, ho, hf⟩ := h.2 i u b h1 h2
  refine ⟨A, c, rfl, own_chg ho hc fun k hk e => ?_, hf⟩
  rcases e with e | e
  · exact own_apart ho (hm.row r s) (by decide) k hk e
  · subst e; exact own_blk_ne ho (hm.arr r).1 (by decide) hk
end
end Go.Proofs.Ytbkgphmocjjmmaa
