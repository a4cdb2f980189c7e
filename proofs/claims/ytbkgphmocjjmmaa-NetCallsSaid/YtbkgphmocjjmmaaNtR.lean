/-
  The rounds of the law NetOrder, without the program.
-/
import Derived.Test.YtbkgphmocjjmmaaNtQ
namespace Go.Proofs.Ytbkgphmocjjmmaa
open Go.RowKit

theorem Ns.put_ok {K : Int} {S : Ns} (h : S.ok K) (s : Bool) (b : List UInt8) (hf : ((S.u s).length : Int) < S.limit) : (S.put s b).ok (K + 1) := by
  have h' := Ns.ok_mono h (show K ≤ K + 1 by omega)
  refine ⟨h'.lo, h'.hi, h'.ep, ⟨by have := h.nu; simp [Ns.put]; omega, by have := h.nu; simp [Ns.put]; omega⟩, fun t => ?_, h'.cn⟩
  by_cases ht : t = s
  · subst ht
    simp [Ns.put, upd]
    omega
  · have := h.len t
    simpa [Ns.put, upd, ht] using this
structure OrdS (w : World) (g : Nat) (ab : Bool → Nat) (j q : Nat) (S : Ns) (v : Bool → Value) (l : Bool → List LP) (x : Bool → Bool → Value) (y : Bool → Bool → List Value) (ts gs : Bool → List (List UInt8)) (W : World) : Prop where
  mem : OrdM w W g ab S v l x y
  ok : S.ok (100 + 2 * j)
  up : S.up = true
  sent : ∀ s, SentE w (y false s) (ts s)
  got : ∀ s, GotE W (NetF g v l) (y true s) (gs s)
  law : ∀ s, gs s ++ (S.u s).map Pk.bytes = ts s
  len : ∀ s, (ts s).length ≤ q
  sz : ∀ s, ∀ b ∈ ts s, b.length ≤ 8192
def OrdX (w : World) (g : Nat) (ab : Bool → Nat) (j q : Nat) (W : World) : Prop := ∃ S v l x y ts gs, OrdS w g ab j q S v l x y ts gs W
section
variable {w W W' W1 W2 W4 : World} {g j q : Nat} {ab : Bool → Nat} {S S1 : Ns} {v v1 : Bool → Value} {l l1 : Bool → List LP} {x : Bool → Bool → Value} {y : Bool → Bool → List Value} {ts gs : Bool → List (List UInt8)} {s : Bool} {u z : Value} {b : List UInt8}
theorem OrdS.start (hn : NetW w g S W) (hk : S.ok 100) (hu : S.up = true) (h0 : ∀ s, S.u s = []) (ha : ∀ r, Blk W (ab r) 31 #[.slice none 0 0, .slice none 0 0, .slice none 0 0] ∧ w.heap.size ≤ ab r) (h2 : ab false ≠ ab true) : OrdX w g ab 0 0 W := by
  obtain ⟨v, l, h, hf, hb⟩ := hn
  refine ⟨S, v, l, fun _ _ => .slice none 0 0, fun _ _ => [], fun _ => [], fun _ => [], ⟨h, hf, ha, h2, fun _ _ => World.ownsRow_nil W _ 23 1, fun _ _ _ _ _ k e => by simp [Value.ownBlock] at e, hb⟩, ?_, hu, fun _ => ⟨rfl, fun i u b h => by simp at h⟩, fun _ => ⟨rfl, fun i u b h => by simp at h⟩, fun s => by simp [h0 s], fun _ => Nat.le_refl _, fun _ b h => by simp at h⟩
  exact Ns.ok_mono hk (by omega)
theorem OrdS.below (h : OrdS w g ab j q S v l x y ts gs W) (hb : Below W.heap.size W W') : OrdS w g ab j q S v l x y ts gs W' :=
  ⟨h.mem.below hb, h.ok, h.up, h.sent, fun s => (h.got s).step (fun _ e => .inl e) (Chg.of_below hb _), h.law, h.len, h.sz⟩
theorem OrdS.next {q' : Nat} (h : OrdS w g ab j q S v l x y ts gs W) (hq : q ≤ q') : OrdX w g ab (j + 1) q' W :=
  ⟨S, v, l, x, y, ts, gs, h.mem, Ns.ok_mono h.ok (by omega), h.up, h.sent, h.got, h.law, fun s => by have := h.len s; omega, h.sz⟩
/-- sent, and noted -/
theorem OrdS.send {num : Int} (h : OrdS w g ab j q S v l x y ts gs W) (hn : NetA W1 g S1 v1 l1) (hsub : ∀ k, NetF g v1 l1 k → NetF g v l k ∨ W.heap.size ≤ k) (hc : Chg (NetF g v l) W W1) (hS : S1.u = upd S.u s (S.u s ++ [⟨num, b⟩])) (hok : S1.ok (100 + 2 * j + 2)) (hup : S1.up = true)
    (hb : Below W1.heap.size W1 W2) (hr : W4.ownsRow w.heap.size 23 1 z ((y false s).length + 1) (y false s ++ [u])) (hg : W2.grownBy W4 (x false s).ownBlock) (hv : z.ownBlock = (x false s).ownBlock ∨ z.ownBlock = some W2.heap.size)
    (hu : ∃ (A : Option Addr) (c : Nat), u = .slice A b.length c ∧ RdB w w.heap.size A b.length b) (hbl : b.length ≤ 8192) : OrdX w g ab (j + 1) (q + 1) (W4.setCell ⟨ab false, sideO s, none⟩ z) := by
  have hm := h.mem.step hn hsub hc
  obtain ⟨hm5, hc5⟩ := hm.app hb hr hg hv
  refine ⟨S1, v1, l1, _, _, upd ts s (ts s ++ [b]), gs, hm5, Ns.ok_mono hok (by omega), hup, fun t => ?_, fun t => ?_, fun t => ?_, fun t => ?_, fun t b' hb' => ?_⟩
  · by_cases ht : t = s
    · subst ht
      rw [upd2_at, upd_at]
      exact snocE (h.sent t) hu
    · rw [upd2_off _ _ _ _ _ _ (fun e => ht e.2)]
      simp only [upd, if_neg ht]
      exact h.sent t
  · rw [upd2_off _ _ _ _ _ _ (fun e => by cases e.1)]
    exact ((h.got t).step hsub hc).app hm hc5
  · rw [hS]
    by_cases ht : t = s
    · subst ht
      rw [upd_at, upd_at, List.map_append, ← List.append_assoc, h.law]; rfl
    · simp only [upd, if_neg ht]
      exact h.law t
  · by_cases ht : t = s
    · subst ht
      rw [upd_at]
      have := h.len t
      simp; omega
    · simp only [upd, if_neg ht]
      have := h.len t
      omega
  · by_cases ht : t = s
    · subst ht
      rw [upd_at] at hb'
      rcases List.mem_append.1 hb' with e | e
      · exact h.sz t b' e
      · rw [List.mem_singleton] at e; subst e; exact hbl
    · simp only [upd, if_neg ht] at hb'
      exact h.sz t b' hb'
/-- delivered, and noted -/
theorem OrdS.dele {p : Pk} {r : List Pk} (h : OrdS w g ab j q S v l x y ts gs W) (hn : NetA W1 g S1 v1 l1) (hsub : ∀ k, NetF g v1 l1 k → NetF g v l k ∨ W.heap.size ≤ k) (hc : Chg (NetF g v l) W W1) (hp : S.u s = p :: r) (hS : S1.u = upd S.u s r) (hok : S1.ok (100 + 2 * j + 2)) (hup : S1.up = true)
    (hb : Below W1.heap.size W1 W2) (hr : W4.ownsRow w.heap.size 23 1 z ((y true s).length + 1) (y true s ++ [u])) (hg : W2.grownBy W4 (x true s).ownBlock) (hv : z.ownBlock = (x true s).ownBlock ∨ z.ownBlock = some W2.heap.size)
    (hu : ∃ (A : Option Addr) (c : Nat), u = .slice A p.bytes.length c ∧ OwnB 5 W1 0 (.slice A p.bytes.length c) p.bytes ∧ ∀ k, (Value.slice A p.bytes.length c).ownBlock = some k → ¬ NetF g v1 l1 k) : OrdX w g ab (j + 1) q (W4.setCell ⟨ab true, sideO s, none⟩ z) := by
  have hm := h.mem.step hn hsub hc
  obtain ⟨hm5, hc5⟩ := hm.app hb hr hg hv
  refine ⟨S1, v1, l1, _, _, ts, upd gs s (gs s ++ [p.bytes]), hm5, Ns.ok_mono hok (by omega), hup, fun t => ?_, fun t => ?_, fun t => ?_, fun t => ?_, h.sz⟩
  · rw [upd2_off _ _ _ _ _ _ (fun e => by cases e.1)]
    exact h.sent t
  · by_cases ht : t = s
    · subst ht
      rw [upd2_at, upd_at]
      have h1 : GotE W1 (NetF g v1 l1) (y true t ++ [u]) (gs t ++ [p.bytes]) := snocE ((h.got t).step hsub hc) hu
      exact h1.app hm hc5
    · rw [upd2_off _ _ _ _ _ _ (fun e => ht e.2)]
      simp only [upd, if_neg ht]
      exact ((h.got t).step hsub hc).app hm hc5
  · rw [hS]
    by_cases ht : t = s
    · subst ht
      rw [upd_at, upd_at, ← h.law t, hp]
      simp
    · simp only [upd, if_neg ht]
      exact h.law t
  · have := h.len t
    omega
end
end Go.Proofs.Ytbkgphmocjjmmaa
