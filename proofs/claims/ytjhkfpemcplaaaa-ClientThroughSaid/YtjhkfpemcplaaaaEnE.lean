/-
  A client and a toy with frames under way: how they lie in memory. No statement of the seat is proved here.
-/
import Derived.Test.YtjhkfpemcplaaaaEnC
import Derived.Test.YtjhkfpemcplaaaaClN
namespace Go.Proofs.Ytjhkfpemcplaaaa
open Go.RowKit

/-- where the link's parts lie -/
structure Lk where
  gl : Nat
  p : Pa
  t : TyP
  hv : Value
  hl : List (QX (List UInt8))
  rv : Value
  rl : List (QX (List UInt8))
  iv : Value
  il : List (QX (List UInt8))
/-- the link, its client, its toy, both ways, what was issued; every block has an owner's label (7: nobody's yet) -/
structure LkS (w0 : World) (k : Lk) (c : Cl) (y : Ty) (D : Nat) (f : Nat → Nat) (w : World) : Prop where
  ca : CA w0.heap.size w k.p c
  ty : TA w0.heap.size w k.t y
  lk : Blk w k.gl 81 #[.pointer (some ⟨k.p.g, 0, none⟩), .pointer (some ⟨k.t.g, 0, none⟩), k.hv, k.rv, k.iv]
  he : RowO kB w0.heap.size w k.hv k.hl
  th : RowO kB w0.heap.size w k.rv k.rl
  is : RowK kB w0.heap.size w k.iv k.il
  fc : ∀ i, CF k.p i → f i = 1
  ft : ∀ i, TF k.t i → f i = 2
  fh : ∀ i, (k.hv.ownBlock = some i ∨ kB.inB k.hl i) → f i = 3
  fr : ∀ i, (k.rv.ownBlock = some i ∨ kB.inB k.rl i) → f i = 4
  fi : ∀ i, (k.iv.ownBlock = some i ∨ kB.inB k.il i) → f i = 5
  fl : f k.gl = 6
  ge : w0.heap.size ≤ k.gl
  old : Below w0.heap.size w0 w
  d : k.p.d ≤ (D : Int)
section
variable {w0 w w' w1 : World} {k : Lk} {c c' : Cl} {y y' : Ty} {p' : Pa} {D m : Nat} {f f' : Nat → Nat} {F : Nat → Prop}
theorem LkS.below (h : LkS w0 k c y D f w) (hb : Below w.heap.size w w') : LkS w0 k c y D f w' :=
  ⟨h.ca.below hb, h.ty.below hb, (hb.block _ h.lk.lt).trans h.lk, h.he.below hb, h.th.below hb, h.is.below hb, h.fc, h.ft, h.fh, h.fr, h.fi, h.fl, h.ge, h.old.trans (hb.mono h.old.size), h.d⟩
theorem LkS.more (h : LkS w0 k c y D f w) {D' : Nat} (hd : D ≤ D') : LkS w0 k c y D' f w := ⟨h.ca, h.ty, h.lk, h.he, h.th, h.is, h.fc, h.ft, h.fh, h.fr, h.fi, h.fl, h.ge, h.old, by have := h.d; omega⟩
theorem LkS.lab (h : LkS w0 k c y D f w) (hf : ∀ i, i < w.heap.size → f i ≠ 7 → f' i = f i) : LkS w0 k c y D f' w :=
  ⟨h.ca, h.ty, h.lk, h.he, h.th, h.is, fun i hi => (hf i (h.ca.lt hi).2 (by rw [h.fc i hi]; decide)).trans (h.fc i hi), fun i hi => (hf i (h.ty.lt hi).2 (by rw [h.ft i hi]; decide)).trans (h.ft i hi), fun i hi => (hf i (h.he.lt hi).2 (by rw [h.fh i hi]; decide)).trans (h.fh i hi),
   fun i hi => (hf i (h.th.lt hi).2 (by rw [h.fr i hi]; decide)).trans (h.fr i hi), fun i hi => (hf i (h.is.lt hi).2 (by rw [h.fi i hi]; decide)).trans (h.fi i hi), (hf _ h.lk.lt (by rw [h.fl]; decide)).trans h.fl, h.ge, h.old, h.d⟩
theorem Chg.old_ (h : LkS w0 k c y D f w) (hc : Chg F w w') (hF : ∀ i, F i → w0.heap.size ≤ i) : Below w0.heap.size w0 w' := h.old.trans (hc.below h.old.size fun i hi e => by have := hF i e; omega)
open Classical in
/-- the client has done something -/
theorem LkS.stepC (h : LkS w0 k c y D f w) (s : Stp w0.heap.size w k.p m c' p' w') : ∃ f', LkS w0 { k with p := p' } c' y (D + m) f' w' ∧ (∀ i, i < w.heap.size → f' i = f i) ∧ ∀ i, w.heap.size ≤ i → ¬ CF p' i → f' i = 7 := by
  have hn : ∀ i, CF k.p i → f i = 1 := h.fc
  refine ⟨fun i => if i < w.heap.size then f i else if CF p' i then 1 else 7, ?_, fun i hi => if_pos hi, fun i hi hc => by dsimp only; rw [if_neg (by omega), if_neg hc]⟩
  have low : ∀ i, i < w.heap.size → (if i < w.heap.size then f i else if CF p' i then 1 else 7) = f i := fun i hi => if_pos hi
  refine ⟨s.ca, h.ty.chg s.chg fun i hi e => ?_, ?_, h.he.chg s.chg fun i hi e => ?_, h.th.chg s.chg fun i hi e => ?_, h.is.chg s.chg fun i hi e => ?_, fun i hi => ?_, fun i hi => ?_, fun i hi => ?_, fun i hi => ?_, fun i hi => ?_, ?_, h.ge, Chg.old_ h s.chg fun i hi => (h.ca.lt hi).1, by have := s.d; have := h.d; dsimp only; omega⟩
  · have := h.ft i hi; rw [hn i e] at this; cases this
  · dsimp only
    rw [s.g]
    exact s.chg.blk h.lk fun e => by have := h.fl; rw [hn _ e] at this; cases this
  · have := h.fh i hi; rw [hn i e] at this; cases this
  · have := h.fr i hi; rw [hn i e] at this; cases this
  · have := h.fi i hi; rw [hn i e] at this; cases this
  · dsimp only at hi ⊢
    split
    · rename_i hlt
      rcases s.sub i hi with e | e
      · exact h.fc i e
      · omega
    · first | rfl | rw [if_pos hi]
  · rw [low i (h.ty.lt hi).2]; exact h.ft i hi
  · rw [low i (h.he.lt hi).2]; exact h.fh i hi
  · rw [low i (h.th.lt hi).2]; exact h.fr i hi
  · rw [low i (h.is.lt hi).2]; exact h.fi i hi
  · rw [low _ h.lk.lt]; exact h.fl
open Classical in
/-- the toy has done something -/
theorem LkS.stepT {t' : TyP} (h : LkS w0 k c y D f w) (s : StpT w0.heap.size w k.t y' t' w') : ∃ f', LkS w0 { k with t := t' } c y' D f' w' ∧ (∀ i, i < w.heap.size → f' i = f i) ∧ ∀ i, w.heap.size ≤ i → ¬ TF t' i → f' i = 7 := by
  have hn : ∀ i, TW k.t i → f i = 2 := fun i hi => h.ft i (by
    rcases hi with e | e
    · exact .inl e
    · exact .inr (.inl e))
  have hge : ∀ i, TW k.t i → w0.heap.size ≤ i := fun i hi => by
    rcases hi with e | e
    · exact (h.ty.lt (.inl e)).1
    · exact (h.ty.lt (.inr (.inl e))).1
  refine ⟨fun i => if i < w.heap.size then f i else if TF t' i then 2 else 7, ?_, fun i hi => if_pos hi, fun i hi hc => by dsimp only; rw [if_neg (by omega), if_neg hc]⟩
  have low : ∀ i, i < w.heap.size → (if i < w.heap.size then f i else if TF t' i then 2 else 7) = f i := fun i hi => if_pos hi
  refine ⟨h.ca.chg s.chg fun i hi e => ?_, s.ta, ?_, h.he.chg s.chg fun i hi e => ?_, h.th.chg s.chg fun i hi e => ?_, h.is.chg s.chg fun i hi e => ?_, fun i hi => ?_, fun i hi => ?_, fun i hi => ?_, fun i hi => ?_, fun i hi => ?_, ?_, h.ge, Chg.old_ h s.chg hge, h.d⟩
  · have := h.fc i hi; rw [hn i e] at this; cases this
  · dsimp only
    rw [s.g]
    exact s.chg.blk h.lk fun e => by have := h.fl; rw [hn _ e] at this; cases this
  · have := h.fh i hi; rw [hn i e] at this; cases this
  · have := h.fr i hi; rw [hn i e] at this; cases this
  · have := h.fi i hi; rw [hn i e] at this; cases this
  · rw [low i (h.ca.lt hi).2]; exact h.fc i hi
  · dsimp only at hi ⊢
    split
    · rename_i hlt
      rcases s.sub i hi with e | e
      · exact h.ft i e
      · omega
    · first | rfl | rw [if_pos hi]
  · rw [low i (h.he.lt hi).2]; exact h.fh i hi
  · rw [low i (h.th.lt hi).2]; exact h.fr i hi
  · rw [low i (h.is.lt hi).2]; exact h.fi i hi
  · rw [low _ h.lk.lt]; exact h.fl
/-- what is here has changed -/
theorem LkS.setH {v' : Value} {l' : List (QX (List UInt8))} (h : LkS w0 k c y D f w) (hc : Chg (fun i => f i = 3 ∧ w0.heap.size ≤ i ∨ i = k.gl) w w') (hb : Blk w' k.gl 81 #[.pointer (some ⟨k.p.g, 0, none⟩), .pointer (some ⟨k.t.g, 0, none⟩), v', k.rv, k.iv]) (hr : RowO kB w0.heap.size w' v' l')
    (hf : ∀ i, i < w.heap.size → f i ≠ 7 → f' i = f i) (h3 : ∀ i, (v'.ownBlock = some i ∨ kB.inB l' i) → f' i = 3) : LkS w0 { k with hv := v', hl := l' } c y D f' w' := by
  have key : ∀ i x, f i = x → x ≠ 3 → x ≠ 6 → ¬ (f i = 3 ∧ w0.heap.size ≤ i ∨ i = k.gl) := fun i x e1 e2 e3 e => by
    rcases e with ⟨e, _⟩ | e
    · exact e2 (by rw [← e1, e])
    · subst e; exact e3 (by rw [← e1, h.fl])
  have hl := h.lab hf
  exact ⟨h.ca.chg hc fun i hi => key i 1 (h.fc i hi) (by decide) (by decide), h.ty.chg hc fun i hi => key i 2 (h.ft i hi) (by decide) (by decide), hb, hr, h.th.chg hc fun i hi => key i 4 (h.fr i hi) (by decide) (by decide), h.is.chg hc fun i hi => key i 5 (h.fi i hi) (by decide) (by decide),
    hl.fc, hl.ft, h3, hl.fr, hl.fi, hl.fl, h.ge, Chg.old_ h hc fun i hi => by
      rcases hi with ⟨_, e⟩ | e
      · exact e
      · rw [e]; exact h.ge, h.d⟩
/-- what is there has changed -/
theorem LkS.setR {v' : Value} {l' : List (QX (List UInt8))} (h : LkS w0 k c y D f w) (hc : Chg (fun i => f i = 4 ∧ w0.heap.size ≤ i ∨ i = k.gl) w w') (hb : Blk w' k.gl 81 #[.pointer (some ⟨k.p.g, 0, none⟩), .pointer (some ⟨k.t.g, 0, none⟩), k.hv, v', k.iv]) (hr : RowO kB w0.heap.size w' v' l')
    (hf : ∀ i, i < w.heap.size → f i ≠ 7 → f' i = f i) (h3 : ∀ i, (v'.ownBlock = some i ∨ kB.inB l' i) → f' i = 4) : LkS w0 { k with rv := v', rl := l' } c y D f' w' := by
  have key : ∀ i x, f i = x → x ≠ 4 → x ≠ 6 → ¬ (f i = 4 ∧ w0.heap.size ≤ i ∨ i = k.gl) := fun i x e1 e2 e3 e => by
    rcases e with ⟨e, _⟩ | e
    · exact e2 (by rw [← e1, e])
    · subst e; exact e3 (by rw [← e1, h.fl])
  have hl := h.lab hf
  exact ⟨h.ca.chg hc fun i hi => key i 1 (h.fc i hi) (by decide) (by decide), h.ty.chg hc fun i hi => key i 2 (h.ft i hi) (by decide) (by decide), hb, h.he.chg hc fun i hi => key i 3 (h.fh i hi) (by decide) (by decide), hr, h.is.chg hc fun i hi => key i 5 (h.fi i hi) (by decide) (by decide),
    hl.fc, hl.ft, hl.fh, h3, hl.fi, hl.fl, h.ge, Chg.old_ h hc fun i hi => by
      rcases hi with ⟨_, e⟩ | e
      · exact e
      · rw [e]; exact h.ge, h.d⟩
/-- one more was issued -/
theorem LkS.setI {v' : Value} {l' : List (QX (List UInt8))} (h : LkS w0 k c y D f w) (hc : Chg (fun i => f i = 5 ∧ w0.heap.size ≤ i ∨ i = k.gl) w w') (hb : Blk w' k.gl 81 #[.pointer (some ⟨k.p.g, 0, none⟩), .pointer (some ⟨k.t.g, 0, none⟩), k.hv, k.rv, v']) (hr : RowK kB w0.heap.size w' v' l')
    (hf : ∀ i, i < w.heap.size → f i ≠ 7 → f' i = f i) (h3 : ∀ i, (v'.ownBlock = some i ∨ kB.inB l' i) → f' i = 5) : LkS w0 { k with iv := v', il := l' } c y D f' w' := by
  have key : ∀ i x, f i = x → x ≠ 5 → x ≠ 6 → ¬ (f i = 5 ∧ w0.heap.size ≤ i ∨ i = k.gl) := fun i x e1 e2 e3 e => by
    rcases e with ⟨e, _⟩ | e
    · exact e2 (by rw [← e1, e])
    · subst e; exact e3 (by rw [← e1, h.fl])
  have hl := h.lab hf
  exact ⟨h.ca.chg hc fun i hi => key i 1 (h.fc i hi) (by decide) (by decide), h.ty.chg hc fun i hi => key i 2 (h.ft i hi) (by decide) (by decide), hb, h.he.chg hc fun i hi => key i 3 (h.fh i hi) (by decide) (by decide), h.th.chg hc fun i hi => key i 4 (h.fr i hi) (by decide) (by decide), hr,
    hl.fc, hl.ft, hl.fh, hl.fr, h3, hl.fl, h.ge, Chg.old_ h hc fun i hi => by
      rcases hi with ⟨_, e⟩ | e
      · exact e
      · rw [e]; exact h.ge, h.d⟩
/-- the relabelling behind an append -/
def relab (f : Nat → Nat) (n x : Nat) : Nat → Nat := fun i => if i < n ∧ f i ≠ 7 then f i else x
theorem relab_old (f : Nat → Nat) (n x : Nat) : ∀ i, i < n → f i ≠ 7 → relab f n x i = f i := fun _ h1 h2 => if_pos ⟨h1, h2⟩
theorem relab_new {f : Nat → Nat} {n x i : Nat} (h : n ≤ i ∨ f i = 7) : relab f n x i = x := if_neg (by rintro ⟨h1, h2⟩; omega)
/-- frames of the client's are put on their way to the toy -/
theorem LkS.pushH {v v' : Value} {l : List (QX (List UInt8))} {w2 : World} {B : Nat} (h : LkS w0 k c y D f w) (hl : RowK kB B w v l) (hB : w0.heap.size ≤ B) (h7 : ∀ i, (v.ownBlock = some i ∨ kB.inB l i) → f i = 7)
    (hr : OwnO w2 w0.heap.size 37 1 v' (k.hl.length + l.length) (kB.flat k.hl ++ kB.flat l)) (hg : w.grownBy w2 k.hv.ownBlock) (hv : v'.ownBlock = k.hv.ownBlock ∨ v'.ownBlock = some w.heap.size) :
    LkS w0 { k with hv := v', hl := k.hl ++ l } c y D (relab f w.heap.size 3) (w2.setCell ⟨k.gl, 2, none⟩ v') := by
  have hng : k.hv.ownBlock ≠ some k.gl := fun e => by have := h.fh _ (.inl e); rw [h.fl] at this; cases this
  have hrow : RowO kB w0.heap.size w2 v' (k.hl ++ l) := h.he.append (fun q hq => own_base (hl.els q hq) hB) (by decide) hr hg
  have hb2 : Blk w2 k.gl 81 _ := h.lk.grown hg (Ne.symm hng)
  have hc : Chg (fun i => i = k.gl) w2 (w2.setCell ⟨k.gl, 2, none⟩ v') := (Chg.refl (fun i => i = k.gl) w2).setCell (p := ⟨k.gl, 2, none⟩) (fun _ => rfl) _
  refine h.setH ((Chg.of_grown hg (F := fun i => f i = 3 ∧ w0.heap.size ≤ i ∨ i = k.gl) fun i e => .inl ⟨h.fh i (.inl e), (h.he.lt (.inl e)).1⟩).trans hc fun i _ e => .inr e) (hb2.set_ 2 v') (hrow.chg hc fun i hi e => ?_) (relab_old f _ 3) fun i hi => ?_
  · subst e
    rcases hi with e | ⟨x, hx, e⟩
    · exact OwnO.blk_ne hrow.row hb2 (by decide) e
    · exact own_blk_ne (hrow.els x hx) hb2 (by decide) e
  · rcases hi with e | ⟨x, hx, e⟩
    · rcases hv with h1 | h1
      · have h3 := h.fh i (.inl (by rw [← h1]; exact e))
        rw [relab_old f _ 3 i (h.he.lt (.inl (by rw [← h1]; exact e))).2 (by rw [h3]; decide), h3]
      · rw [h1] at e; injection e with e
        exact relab_new (.inl (by omega))
    · rcases List.mem_append.1 hx with hx | hx
      · have h3 := h.fh i (.inr ⟨x, hx, e⟩)
        rw [relab_old f _ 3 i (h.he.lt (.inr ⟨x, hx, e⟩)).2 (by rw [h3]; decide), h3]
      · exact relab_new (.inr (h7 i (.inr ⟨x, hx, e⟩)))
/-- frames of the toy's are put on their way to the client -/
theorem LkS.pushR {v v' : Value} {l : List (QX (List UInt8))} {w2 : World} {B : Nat} (h : LkS w0 k c y D f w) (hl : RowK kB B w v l) (hB : w0.heap.size ≤ B) (h7 : ∀ i, (v.ownBlock = some i ∨ kB.inB l i) → f i = 7)
    (hr : OwnO w2 w0.heap.size 37 1 v' (k.rl.length + l.length) (kB.flat k.rl ++ kB.flat l)) (hg : w.grownBy w2 k.rv.ownBlock) (hv : v'.ownBlock = k.rv.ownBlock ∨ v'.ownBlock = some w.heap.size) :
    LkS w0 { k with rv := v', rl := k.rl ++ l } c y D (relab f w.heap.size 4) (w2.setCell ⟨k.gl, 3, none⟩ v') := by
  have hng : k.rv.ownBlock ≠ some k.gl := fun e => by have := h.fr _ (.inl e); rw [h.fl] at this; cases this
  have hrow : RowO kB w0.heap.size w2 v' (k.rl ++ l) := h.th.append (fun q hq => own_base (hl.els q hq) hB) (by decide) hr hg
  have hb2 : Blk w2 k.gl 81 _ := h.lk.grown hg (Ne.symm hng)
  have hc : Chg (fun i => i = k.gl) w2 (w2.setCell ⟨k.gl, 3, none⟩ v') := (Chg.refl (fun i => i = k.gl) w2).setCell (p := ⟨k.gl, 3, none⟩) (fun _ => rfl) _
  refine h.setR ((Chg.of_grown hg (F := fun i => f i = 4 ∧ w0.heap.size ≤ i ∨ i = k.gl) fun i e => .inl ⟨h.fr i (.inl e), (h.th.lt (.inl e)).1⟩).trans hc fun i _ e => .inr e) (hb2.set_ 3 v') (hrow.chg hc fun i hi e => ?_) (relab_old f _ 4) fun i hi => ?_
  · subst e
    rcases hi with e | ⟨x, hx, e⟩
    · exact OwnO.blk_ne hrow.row hb2 (by decide) e
    · exact own_blk_ne (hrow.els x hx) hb2 (by decide) e
  · rcases hi with e | ⟨x, hx, e⟩
    · rcases hv with h1 | h1
      · have h3 := h.fr i (.inl (by rw [← h1]; exact e))
        rw [relab_old f _ 4 i (h.th.lt (.inl (by rw [← h1]; exact e))).2 (by rw [h3]; decide), h3]
      · rw [h1] at e; injection e with e
        exact relab_new (.inl (by omega))
    · rcases List.mem_append.1 hx with hx | hx
      · have h3 := h.fr i (.inr ⟨x, hx, e⟩)
        rw [relab_old f _ 4 i (h.th.lt (.inr ⟨x, hx, e⟩)).2 (by rw [h3]; decide), h3]
      · exact relab_new (.inr (h7 i (.inr ⟨x, hx, e⟩)))
end
end Go.Proofs.Ytjhkfpemcplaaaa
