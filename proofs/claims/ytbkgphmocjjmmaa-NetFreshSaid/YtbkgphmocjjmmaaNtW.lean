/-
  The state of the law NetFresh behind the two tellings. No program in sight.
-/
import Derived.Test.YtbkgphmocjjmmaaNtV
namespace Go.Proofs.Ytbkgphmocjjmmaa
open Go.RowKit

theorem FrN.turn {w W : World} {g gp : Nat} {S : Ns} {v : Bool → Value} {l : Bool → List LP} {u : Value} {bs : List UInt8} (h : FrN w g S v l W) (hu : OwnF w (NetF g v l) W u bs) (hg : u.ownBlock = some gp) (k : Nat) (x : UInt8) : FrN w g S v l (W.setCell ⟨gp, k, none⟩ (bv x)) :=
  h.chg (own_turn hu hg k x).2 (fun j hj e => hu.2 j e hj) (fun j _ e => (hu.1.lt j e).1)
/-- a packet that was told -/
def tp (n : Int) (bs : List UInt8) (A : Option Addr) (c : Nat) : LP := ⟨⟨n, bs⟩, A, c⟩
structure FrV (w : World) (g : Nat) (S : Ns) (v : Bool → Value) (l : Bool → List LP) (bs : List UInt8) (a b d cb : Nat) (Ac : Option Addr) (cc : Nat) (vv : Value) (A1 : Option Addr) (c1 : Nat) (A2 : Option Addr) (c2 : Nat) (W : World) : Prop where
  fr : FrN w g S v l W
  nlt : ∀ k, NetF g v l k → k < a
  cown : ∃ cs : List UInt8, cs.length = bs.length ∧ OwnF w (NetF g v l) W (.slice Ac bs.length cc) cs
  clt : ∀ k, (Value.slice Ac bs.length cc).ownBlock = some k → k < a
  cblk : Blk W cb 36 #[.int .i64 2, .slice Ac bs.length cc]
  cblt : cb < a
  row : RowP W vv [tp 1 bs A1 c1, tp 2 bs A2 c2]
  rge : ∀ k, vv.ownBlock = some k → b ≤ k ∧ k < d
  own1 : (tp 1 bs A1 c1).own W
  own2 : (tp 2 bs A2 c2).own W
  ge1 : ∀ k, (tp 1 bs A1 c1).blk = some k → b ≤ k ∧ k < d
  ge2 : ∀ k, (tp 2 bs A2 c2).blk = some k → b ≤ k ∧ k < d
  bd : b ≤ d
  ab : a ≤ b
  wa : w.heap.size ≤ a
section
variable {w W W' : World} {g : Nat} {S : Ns} {v : Bool → Value} {l : Bool → List LP} {bs : List UInt8} {a b d cb : Nat} {Ac : Option Addr} {cc : Nat} {vv : Value} {A1 : Option Addr} {c1 : Nat} {A2 : Option Addr} {c2 : Nat} {G : Nat → Prop}
theorem FrV.chg (h : FrV w g S v l bs a b d cb Ac cc vv A1 c1 A2 c2 W) (hc : Chg G W W') (hG : ∀ k, k < W.heap.size → G k → (a ≤ k ∧ k < b) ∨ d ≤ k) : FrV w g S v l bs a b d cb Ac cc vv A1 c1 A2 c2 W' := by
  have hc' : Chg (fun k => (a ≤ k ∧ k < b) ∨ d ≤ k) W W' := hc.mono hG
  have hab := h.ab
  have hbd := h.bd
  obtain ⟨cs, h1, h2⟩ := h.cown
  exact ⟨h.fr.chg hc' (fun k hk e => by have := h.nlt k hk; omega) (fun k _ e => by have := h.wa; omega), h.nlt, ⟨cs, h1, h2.chg hc' (fun k hk e => by have := h.clt k hk; omega)⟩, h.clt, hc'.blk h.cblk (fun e => by have := h.cblt; omega), h.cblt,
    own_chg h.row hc' (fun k hk e => by have := h.rge k hk; omega), h.rge, own_chg h.own1 hc' (fun k hk e => by have := h.ge1 k hk; omega), own_chg h.own2 hc' (fun k hk e => by have := h.ge2 k hk; omega), h.ge1, h.ge2, h.bd, h.ab, h.wa⟩
theorem FrV.below (h : FrV w g S v l bs a b d cb Ac cc vv A1 c1 A2 c2 W) (hb : Below W.heap.size W W') : FrV w g S v l bs a b d cb Ac cc vv A1 c1 A2 c2 W' := h.chg (Chg.of_below hb (fun _ => False)) (fun _ _ e => e.elim)
/-- a byte of the copy turns -/
theorem FrV.turnc (h : FrV w g S v l bs a b d cb Ac cc vv A1 c1 A2 c2 W) {gp : Nat} (hg : (Value.slice Ac bs.length cc).ownBlock = some gp) (k : Nat) (x : UInt8) : FrV w g S v l bs a b d cb Ac cc vv A1 c1 A2 c2 (W.setCell ⟨gp, k, none⟩ (bv x)) := by
  obtain ⟨cs, h1, h2⟩ := h.cown
  obtain ⟨h3, h4⟩ := own_turn h2 hg k x
  have hab := h.ab
  have hlt := h.clt gp hg
  have h4' : Chg (· = gp) W (W.setCell ⟨gp, k, none⟩ (bv x)) := h4.mono (fun i _ e => by rw [hg] at e; injection e with e; exact e.symm)
  have hne : cb ≠ gp := fun e => by subst e; exact own_blk_ne h2.1 h.cblk (by decide) hg
  exact ⟨h.fr.turn h2 hg k x, h.nlt, ⟨_, by rw [List.length_set]; exact h1, h3⟩, h.clt, h4'.blk h.cblk hne, h.cblt,
    own_chg h.row h4' (fun k hk e => by have := h.rge k hk; omega), h.rge, own_chg h.own1 h4' (fun k hk e => by have := h.ge1 k hk; omega), own_chg h.own2 h4' (fun k hk e => by have := h.ge2 k hk; omega), h.ge1, h.ge2, h.bd, h.ab, h.wa⟩
end
/-- behind the two tellings -/
theorem two_told {w Wa Wb Wc : World} {g cb cc : Nat} {S : Ns} {v : Bool → Value} {l : Bool → List LP} {bs : List UInt8} {Ac : Option Addr} {u vv : Value} {ul vl : List LP} (hf : FrN w g S v l Wa) (hc : OwnF w (NetF g v l) Wa (.slice Ac bs.length cc) bs) (hcb : Blk Wa cb 36 #[.int .i64 2, .slice Ac bs.length cc])
    (hu : UnX Wa Wb u ul) (hul : ul.map LP.pk = [⟨1, bs⟩, ⟨2, bs⟩]) (hv : UnX Wb Wc vv vl) (hvl : vl.map LP.pk = [⟨1, bs⟩, ⟨2, bs⟩]) :
    ∃ (B1 : Option Addr) (d1 : Nat) (B2 : Option Addr) (d2 : Nat) (A1 : Option Addr) (c1 : Nat) (A2 : Option Addr) (c2 : Nat),
      FrV w g S v l bs Wa.heap.size Wb.heap.size Wc.heap.size cb Ac cc vv A1 c1 A2 c2 Wc ∧ TwoR w Wc (fun _ => False) u (tp 1 bs B1 d1) (tp 2 bs B2 d2) 0 Wc ∧ (∀ k, GB (tp 1 bs B1 d1) (tp 2 bs B2 d2) k → Wa.heap.size ≤ k ∧ k < Wb.heap.size) := by
  have two : ∀ (L : List LP), L.map LP.pk = [⟨1, bs⟩, ⟨2, bs⟩] → ∃ B1 d1 B2 d2, L = [tp 1 bs B1 d1, tp 2 bs B2 d2] := by
    intro L hL
    have hlen := congrArg List.length hL
    rw [List.length_map] at hlen
    match L, hlen with
    | [p, q], _ =>
      obtain ⟨pk, B1, d1⟩ := p
      obtain ⟨qk, B2, d2⟩ := q
      simp only [List.map_cons, List.map_nil, List.cons.injEq, and_true] at hL
      obtain ⟨rfl, rfl⟩ := hL
      exact ⟨B1, d1, B2, d2, rfl⟩
  obtain ⟨B1, d1, B2, d2, rfl⟩ := two ul hul
  obtain ⟨A1, c1, A2, c2, rfl⟩ := two vl hvl
  refine ⟨B1, d1, B2, d2, A1, c1, A2, c2, ?_, ?_, ?_⟩
  · have hba : Below Wa.heap.size Wa Wc := hu.old.trans (hv.old.mono hu.old.size)
    have hw := hf.old.size
    exact ⟨hf.below hba, fun k hk => hf.net.lt hk, ⟨bs, rfl, hc.below hba⟩, fun k hk => (hc.1.lt k hk).2, hcb.below hba hcb.lt, hcb.lt, hv.row, fun k e => ⟨hv.new k e, (World.ownsRow.lt hv.row k e).2⟩, hv.pks _ (by simp), hv.pks _ (by simp), fun k e => ⟨hv.pnew _ (by simp) k e, (World.ownsRow.lt (hv.pks _ (by simp)) k e).2⟩, fun k e => ⟨hv.pnew _ (by simp) k e, (World.ownsRow.lt (hv.pks _ (by simp)) k e).2⟩, hv.old.size, hu.old.size, hw⟩
  · have hw := hf.old.size
    have ha := hu.old.size
    have hb := hv.old.size
    have own : ∀ p ∈ [tp 1 bs B1 d1, tp 2 bs B2 d2], p.own Wc ∧ ∀ k, p.blk = some k → Wa.heap.size ≤ k ∧ k < Wb.heap.size := fun p hp =>
      ⟨own_same (hu.pks p hp) fun k e => hv.old.block k (World.ownsRow.lt (hu.pks p hp) k e).2, fun k e => ⟨hu.pnew p hp k e, (World.ownsRow.lt (hu.pks p hp) k e).2⟩⟩
    have o1 := own (tp 1 bs B1 d1) (by simp)
    have o2 := own (tp 2 bs B2 d2) (by simp)
    refine ⟨⟨own_same hu.row fun k e => hv.old.block k (World.ownsRow.lt hu.row k e).2, fun k e => by have := hu.new k e; omega, fun _ => ⟨bs, rfl, own_up o1.1 (fun k e => by have := (o1.2 k e).1; omega), fun _ _ e => e⟩, fun _ => ⟨bs, rfl, own_up o2.1 (fun k e => by have := (o2.2 k e).1; omega), fun _ _ e => e⟩⟩, Chg.refl _ _, fun k hk => ?_, ?_, by omega, fun k hk => ?_⟩
    · rcases hk with e | e
      · have := (o1.2 k e).2; omega
      · have := (o2.2 k e).2; omega
    · have := hu.apart
      rw [List.pairwise_cons] at this
      exact this.1 _ (by simp)
    · rcases hk with e | e
      · have := (o1.2 k e).1; omega
      · have := (o2.2 k e).1; omega
  · intro k hk
    rcases hk with e | e
    · exact ⟨hu.pnew _ (by simp) k e, (World.ownsRow.lt (hu.pks _ (by simp)) k e).2⟩
    · exact ⟨hu.pnew _ (by simp) k e, (World.ownsRow.lt (hu.pks _ (by simp)) k e).2⟩
section
variable {w W W7 : World} {F : Nat → Prop} {u : Value} {bs : List UInt8} {B1 B2 : Option Addr} {d1 d2 i gu cu : Nat}
/-- where the told slices lie -/
theorem TwoR.cells (h : TwoR w W7 F u (tp 1 bs B1 d1) (tp 2 bs B2 d2) i W) (hu : u = .slice (some ⟨gu, 0, none⟩) 2 cu) : W.cell? ⟨gu, 1, none⟩ = some (.slice B1 bs.length d1) ∧ W.cell? ⟨gu, 3, none⟩ = some (.slice B2 bs.length d2) := by
  obtain ⟨gb, c, e, _, _, h1⟩ := h.two.row.at_ (i := 0) (p := tp 1 bs B1 d1) rfl
  obtain ⟨gb', c', e', _, _, h2⟩ := h.two.row.at_ (i := 1) (p := tp 2 bs B2 d2) rfl
  rw [hu] at e e'
  injection e with e _ _
  injection e with e
  injection e with e
  injection e' with e' _ _
  injection e' with e'
  injection e' with e'
  subst e e'
  exact ⟨h1, h2⟩
theorem TwoR.ptr0 (h : TwoR w W7 F u (tp 1 bs B1 d1) (tp 2 bs B2 d2) 0 W) {k : Nat} (hk : k < bs.length) : ∃ gp, B1 = some ⟨gp, 0, none⟩ ∧ gp < W.heap.size ∧ (∃ x : Value, W.cell? ⟨gp, k, none⟩ = some x) ∧ W.frozen? ⟨gp, k, none⟩ = false := by
  obtain ⟨cs, h1, h2⟩ := h.two.one (Nat.le_refl _)
  have h1' : cs.length = bs.length := h1
  have h2' : OwnB 5 W w.heap.size (.slice B1 bs.length d1) cs := h2.1
  obtain ⟨gp, rfl, hg, _⟩ := own_ptr h2' (by omega)
  obtain ⟨b, _, c0, f0⟩ := own_cell h2' (j := k) (by omega)
  exact ⟨gp, rfl, hg, ⟨_, c0⟩, f0⟩
theorem TwoR.ptr1 (h : TwoR w W7 F u (tp 1 bs B1 d1) (tp 2 bs B2 d2) 1 W) {k : Nat} (hk : k < bs.length) : ∃ gp, B2 = some ⟨gp, 0, none⟩ ∧ gp < W.heap.size ∧ (∃ x : Value, W.cell? ⟨gp, k, none⟩ = some x) ∧ W.frozen? ⟨gp, k, none⟩ = false := by
  obtain ⟨cs, h1, h2⟩ := h.two.two (Nat.le_refl _)
  have h1' : cs.length = bs.length := h1
  have h2' : OwnB 5 W w.heap.size (.slice B2 bs.length d2) cs := h2.1
  obtain ⟨gp, rfl, hg, _⟩ := own_ptr h2' (by omega)
  obtain ⟨b, _, c0, f0⟩ := own_cell h2' (j := k) (by omega)
  exact ⟨gp, rfl, hg, ⟨_, c0⟩, f0⟩
/-- what an append onto a told slice turns -/
theorem happ_chg {w W W' W7 : World} {F : Nat → Prop} {u x x' : Value} {p q r : LP} {i m k : Nat} {o : Obj} (hx : AppX w W7 r m k x W) (h : TwoR w W7 F u p q i W) (ha : App (W.alloc o) x W' x') (hr : r = p ∨ r = q) : Chg (fun j => GB p q j ∨ W7.heap.size ≤ j) W W' :=
  ((Chg.of_below ((Below.refl W.heap.size W).alloc (Nat.le_refl _) o) _).trans (Chg.of_grown ha.1 (F := fun j => x.ownBlock = some j) (fun _ e => e)) (fun j _ e => by
    rcases hx.blk j e with e1 | e1
    · rcases hr with e2 | e2
      · subst e2; exact .inl (.inl e1)
      · subst e2; exact .inl (.inr e1)
    · exact .inr e1))
end
/-- ahead of the two deliveries: the wanted bytes lie in a row of their own -/
def FrE (w : World) (g : Nat) (bs : List UInt8) (A : Option Addr) (c : Nat) (W : World) : Prop :=
  ∃ (S : Ns) (v : Bool → Value) (l : Bool → List LP) (bs2 : List UInt8), FrN w g S v l W ∧ S.ok 200 ∧ S.up = true ∧ S.u false = [⟨1, bs⟩, ⟨2, bs2⟩] ∧ bs2.length = bs.length ∧ OwnF w (NetF g v l) W (.slice A bs.length c) bs2
theorem flip_u {S : Ns} {bs : List UInt8} (h : S.u false = [⟨1, bs⟩, ⟨2, bs⟩]) (j : Nat) (x : UInt8) : ((S.flip false 1 ((⟨2, bs⟩ : Pk).flip j x)).add false 6 1).u false = [⟨1, bs⟩, ⟨2, bs.set j x⟩] := by
  show upd S.u false ((S.u false).set 1 _) false = _
  rw [upd_at, h]
  rfl
end Go.Proofs.Ytbkgphmocjjmmaa
