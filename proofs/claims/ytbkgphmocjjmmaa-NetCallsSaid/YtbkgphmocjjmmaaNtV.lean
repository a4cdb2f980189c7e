/-
  The state of the law NetFresh: a net all of whose blocks are new, rows of bytes that are none of the net's. No program in sight.
-/
import Derived.Test.YtbkgphmocjjmmaaNtU
namespace Go.Proofs.Ytbkgphmocjjmmaa
open Go.RowKit

theorem own_up {w : World} {base B : Nat} {e : TypeId} {size n : Nat} {v : Value} {xs : List Value} (h : w.ownsRow base e size v n xs) (hB : ∀ k, v.ownBlock = some k → B ≤ k) : w.ownsRow B e size v n xs := by
  refine ⟨h.1, ?_⟩
  rcases h.2 with hn | ⟨g, cap, cur, rfl, hb, hg, rest⟩
  · exact .inl hn
  · exact .inr ⟨g, cap, cur, rfl, hB g (by simp [Value.ownBlock]), hg, rest⟩
structure FrN (w : World) (g : Nat) (S : Ns) (v : Bool → Value) (l : Bool → List LP) (W : World) : Prop where
  net : NetA W g S v l
  new : ∀ k, NetF g v l k → w.heap.size ≤ k
  old : Below w.heap.size w W
section
variable {w W W' : World} {g : Nat} {S S' : Ns} {v v' : Bool → Value} {l l' : Bool → List LP} {F : Nat → Prop} {u : Value} {bs : List UInt8}
theorem FrN.chg (h : FrN w g S v l W) (hc : Chg F W W') (hF : ∀ k, NetF g v l k → ¬ F k) (hn : ∀ k, k < W.heap.size → F k → w.heap.size ≤ k) : FrN w g S v l W' :=
  ⟨h.net.chg hc hF, h.new, h.old.trans (hc.below h.old.size fun k hk e => by have := hn k (Nat.lt_of_lt_of_le hk h.old.size) e; omega)⟩
theorem FrN.below (h : FrN w g S v l W) (hb : Below W.heap.size W W') : FrN w g S v l W' := h.chg (Chg.of_below hb (fun _ => False)) (fun _ _ e => e) (fun _ _ e => e.elim)
theorem FrN.step (h : FrN w g S v l W) (hn : NetA W' g S' v' l') (hsub : ∀ k, NetF g v' l' k → NetF g v l k ∨ W.heap.size ≤ k) (hc : Chg (NetF g v l) W W') : FrN w g S' v' l' W' :=
  ⟨hn, fun k hk => by
    have := h.old.size
    rcases hsub k hk with e | e
    · exact h.new k e
    · omega, h.old.trans (hc.below h.old.size fun k hk e => by have := h.new k e; omega)⟩
/-- a row of bytes that is new since w and none of F -/
def OwnF (w : World) (F : Nat → Prop) (W : World) (u : Value) (bs : List UInt8) : Prop := OwnB 5 W w.heap.size u bs ∧ ∀ k, u.ownBlock = some k → ¬ F k
theorem OwnF.step {F' : Nat → Prop} (h : OwnF w F W u bs) (hsub : ∀ k, F' k → F k ∨ W.heap.size ≤ k) (hc : Chg F W W') : OwnF w F' W' u bs :=
  ⟨own_chg h.1 hc h.2, fun k hk e => by
    rcases hsub k e with e | e
    · exact h.2 k hk e
    · have := (h.1.lt k hk).2; omega⟩
theorem OwnF.chg {G : Nat → Prop} (h : OwnF w F W u bs) (hc : Chg G W W') (hG : ∀ k, u.ownBlock = some k → ¬ G k) : OwnF w F W' u bs := ⟨own_chg h.1 hc hG, h.2⟩
theorem OwnF.below (h : OwnF w F W u bs) (hb : Below W.heap.size W W') : OwnF w F W' u bs := h.chg (Chg.of_below hb (fun _ => False)) (fun _ _ e => e)
theorem OwnF.of (h : FrN w g S v l W) (ho : OwnB 5 W' 0 u bs) (hf : ∀ k, u.ownBlock = some k → ¬ F k ∧ (NetF g v l k ∨ W.heap.size ≤ k)) : OwnF w F W' u bs :=
  ⟨own_up ho fun k hk => by
    have := h.old.size
    rcases (hf k hk).2 with e | e
    · exact h.new k e
    · omega, fun k hk => (hf k hk).1⟩
end
/-- the rounds that turn a row's bytes: the first k are turned -/
theorem own_turn {w W : World} {F : Nat → Prop} {u : Value} {bs : List UInt8} {gp : Nat} (h : OwnF w F W u bs) (hg : u.ownBlock = some gp) (k : Nat) (x : UInt8) :
    OwnF w F (W.setCell ⟨gp, k, none⟩ (bv x)) u (bs.set k x) ∧ Chg (fun k => u.ownBlock = some k) W (W.setCell ⟨gp, k, none⟩ (bv x)) :=
  ⟨⟨own_setB h.1 hg x, h.2⟩, (Chg.refl _ W).setCell (p := ⟨gp, k, none⟩) (fun _ => hg) _⟩
theorem own_ptr {W : World} {base : Nat} {A : Option Addr} {n c : Nat} {bs : List UInt8} (h : OwnB 5 W base (.slice A n c) bs) (hl : 0 < bs.length) : ∃ gp, A = some ⟨gp, 0, none⟩ ∧ gp < W.heap.size ∧ n = bs.length := by
  obtain ⟨g, cap, hv, _, hlt⟩ := World.ownsRow.form h hl
  injection hv with h1 h2
  exact ⟨g, h1, hlt, h2⟩
theorem own_cell {W : World} {base gp j n c : Nat} {bs : List UInt8} (h : OwnB 5 W base (.slice (some ⟨gp, 0, none⟩) n c) bs) (hj : j < bs.length) : ∃ b, bs[j]? = some b ∧ W.cell? ⟨gp, j, none⟩ = some (.int .u8 (b.toNat : Int)) ∧ W.frozen? ⟨gp, j, none⟩ = false := by
  have hn : n = bs.length := by
    obtain ⟨_, _, _, e⟩ := own_ptr h (by omega)
    exact e
  subst hn
  have h' : LP.own W ⟨⟨0, bs⟩, some ⟨gp, 0, none⟩, c⟩ := own_base h (Nat.zero_le _)
  obtain ⟨b, hb⟩ : ∃ b, bs[j]? = some b := ⟨_, List.getElem?_eq_getElem hj⟩
  exact ⟨b, hb, own_byte h' rfl hb⟩
/-- two packets that were told: the first, the second, or both still own their bytes -/
structure TwoU (w W : World) (F : Nat → Prop) (u : Value) (p q : LP) (i : Nat) : Prop where
  row : RowP W u [p, q]
  own : ∀ k, u.ownBlock = some k → w.heap.size ≤ k
  one : i ≤ 0 → ∃ bs : List UInt8, bs.length = p.pk.bytes.length ∧ OwnF w F W p.val bs
  two : i ≤ 1 → ∃ bs : List UInt8, bs.length = q.pk.bytes.length ∧ OwnF w F W q.val bs
section
variable {w W W' W7 : World} {F : Nat → Prop} {u x x' : Value} {p q : LP} {i gp k : Nat}
/-- the blocks of the told packets -/
def GB (p q : LP) (k : Nat) : Prop := p.blk = some k ∨ q.blk = some k
/-- the rounds over what was told: since W7 only the told packets' bytes have turned -/
structure TwoR (w W7 : World) (F : Nat → Prop) (u : Value) (p q : LP) (i : Nat) (W : World) : Prop where
  two : TwoU w W F u p q i
  chg : Chg (GB p q) W7 W
  lt : ∀ k, GB p q k → k < W7.heap.size
  ap : apartP p q
  ge : w.heap.size ≤ W7.heap.size
  gb : ∀ k, GB p q k → w.heap.size ≤ k
theorem TwoR.below (h : TwoR w W7 F u p q i W) (hb : Below W.heap.size W W') : TwoR w W7 F u p q i W' :=
  ⟨⟨own_same h.two.row fun k e => hb.block k (World.ownsRow.lt h.two.row k e).2, h.two.own, fun hi => by
    obtain ⟨bs, h1, h2⟩ := h.two.one hi
    exact ⟨bs, h1, h2.below hb⟩, fun hi => by
    obtain ⟨bs, h1, h2⟩ := h.two.two hi
    exact ⟨bs, h1, h2.below hb⟩⟩, h.chg.trans (Chg.of_below hb (fun _ => False)) (fun _ _ e => e.elim), h.lt, h.ap, h.ge, h.gb⟩
theorem TwoR.next (h : TwoR w W7 F u p q i W) : TwoR w W7 F u p q (i + 1) W :=
  ⟨⟨h.two.row, h.two.own, fun hi => h.two.one (by omega), fun hi => h.two.two (by omega)⟩, h.chg, h.lt, h.ap, h.ge, h.gb⟩
theorem own_5_36 {base n m : Nat} {v : Value} {xs ys : List Value} (h : W.ownsRow base 5 1 v n xs) (h' : W.ownsRow 0 36 2 u m ys) : ∀ k, v.ownBlock = some k → u.ownBlock ≠ some k := own_apart h h' (by decide)
/-- a byte of the first turns -/
theorem TwoR.turn0 (h : TwoR w W7 F u p q 0 W) (hg : p.blk = some gp) (k : Nat) (y : UInt8) : TwoR w W7 F u p q 0 (W.setCell ⟨gp, k, none⟩ (bv y)) := by
  obtain ⟨bs, h1, h2⟩ := h.two.one (Nat.le_refl _)
  obtain ⟨h3, h4⟩ := own_turn h2 hg k y
  have hr := own_5_36 h2.1 h.two.row
  refine ⟨⟨own_chg h.two.row h4 (fun j hj e => hr j e hj), h.two.own, fun _ => ⟨_, by rw [List.length_set]; exact h1, h3⟩, fun _ => ?_⟩, h.chg.trans h4 (fun j _ e => .inl e), h.lt, h.ap, h.ge, h.gb⟩
  obtain ⟨cs, k1, k2⟩ := h.two.two (by omega)
  refine ⟨cs, k1, k2.chg h4 (fun j hj e => ?_)⟩
  rcases h.ap with e1 | e1
  · rw [e1] at hg; cases hg
  · exact e1 (show p.blk = q.blk from e.trans hj.symm)
/-- a byte of the second turns -/
theorem TwoR.turn1 (h : TwoR w W7 F u p q 1 W) (hg : q.blk = some gp) (k : Nat) (y : UInt8) : TwoR w W7 F u p q 1 (W.setCell ⟨gp, k, none⟩ (bv y)) := by
  obtain ⟨bs, h1, h2⟩ := h.two.two (Nat.le_refl _)
  obtain ⟨h3, h4⟩ := own_turn h2 hg k y
  have hr := own_5_36 h2.1 h.two.row
  exact ⟨⟨own_chg h.two.row h4 (fun j hj e => hr j e hj), h.two.own, fun hi => by omega, fun _ => ⟨_, by rw [List.length_set]; exact h1, h3⟩⟩, h.chg.trans h4 (fun j _ e => .inr e), h.lt, h.ap, h.ge, h.gb⟩
/-- the slice that is appended to -/
structure AppX (w W7 : World) (r : LP) (m k : Nat) (x : Value) (W : World) : Prop where
  own : ∃ xs : List UInt8, xs.length = m + k ∧ OwnB 5 W w.heap.size x xs
  blk : ∀ j, x.ownBlock = some j → r.blk = some j ∨ W7.heap.size ≤ j
theorem AppX.start (r : LP) {bs : List UInt8} {m : Nat} (h1 : bs.length = m) (h : OwnF w F W r.val bs) : AppX w W7 r m 0 r.val W := ⟨⟨bs, by omega, h.1⟩, fun _ e => .inl e⟩
theorem AppX.step {r : LP} {m : Nat} {xs : List UInt8} {y : UInt8} {o : Obj} (h : AppX w W7 r m k x W) (h7 : W7.heap.size ≤ W.heap.size) (hx : xs.length = m + k) (ho : OwnB 5 W' w.heap.size x' (xs ++ [y])) (ha : App (W.alloc o) x W' x') : AppX w W7 r m (k + 1) x' W' :=
  ⟨⟨_, by simp [hx]; omega, ho⟩, fun j hj => by
    rcases ha.2 with e | ⟨a, e, h1⟩
    · exact h.blk j (by rw [← e]; exact hj)
    · rw [e] at hj; injection hj with hj; subst hj
      exact .inr (by simp at h1; omega)⟩
theorem TwoR.app {r : LP} {m : Nat} {o : Obj} (h : TwoR w W7 F u p q i W) (hx : AppX w W7 r m k x W) (ha : App (W.alloc o) x W' x') (hr : r = p ∨ r = q) (hi : 1 ≤ i) (hq : r = q → 2 ≤ i) : TwoR w W7 F u p q i W' := by
  obtain ⟨xs, _, hxo⟩ := hx.own
  have hg : Chg (fun j => x.ownBlock = some j) W W' := (Chg.of_below ((Below.refl W.heap.size W).alloc (Nat.le_refl _) o) (fun j => x.ownBlock = some j)).trans (Chg.of_grown ha.1 (fun _ e => e)) (fun _ _ e => e)
  have hrow := own_5_36 hxo h.two.row
  have hrG : ∀ j, r.blk = some j → GB p q j := fun j e => by
    rcases hr with e2 | e2
    · subst e2; exact .inl e
    · subst e2; exact .inr e
  refine ⟨⟨own_chg h.two.row hg (fun j hj e => hrow j e hj), h.two.own, fun h0 => by omega, fun h1 => ?_⟩, ?_, h.lt, h.ap, h.ge, h.gb⟩
  · obtain ⟨cs, k1, k2⟩ := h.two.two h1
    refine ⟨cs, k1, k2.chg hg (fun j hj e => ?_)⟩
    rcases hx.blk j e with e1 | e1
    · rcases hr with e2 | e2
      · subst e2
        rcases h.ap with e3 | e3
        · rw [e3] at e1; cases e1
        · exact e3 (e1.trans hj.symm)
      · have := hq e2; omega
    · have := h.lt j (.inr hj); omega
  · refine h.chg.trans hg (fun j hj e => ?_)
    rcases hx.blk j e with e1 | e1
    · exact hrG j e1
    · omega
end
end Go.Proofs.Ytbkgphmocjjmmaa
