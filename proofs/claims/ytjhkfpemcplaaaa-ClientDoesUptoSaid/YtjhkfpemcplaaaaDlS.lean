/-
  ClientDoes: what the law keeps while it spoils the chunk. No statement of the seat is proved here.
-/
import Derived.Test.YtjhkfpemcplaaaaDlR
namespace Go.Proofs.Ytjhkfpemcplaaaa
open Go.RowKit

/-- the chunk that is being spoilt, beside both clients and the answer -/
structure FlS (w0 : World) (g gd : Nat) (c' c : Cl) (m m2 : Nat) (p q : Pa) (B : Nat) (v : Value) (l : List (QX (List UInt8))) (bx : Nat) (cs : Array Value) (b0 : Nat) (Ab : Option Addr) (n cb : Nat) (zs : List Value) (wr : World) : Prop where
  tw : TwX w0 g gd c' c m m2 p q wr
  row : RowK kB B wr v l
  box : Blk wr bx 41 cs
  own : wr.ownsRow b0 5 1 (.slice Ab (n + 1) cb) (n + 1) zs
  el : ∀ j, j < n → ∃ z : Int, zs[j]? = some (.int .u8 z)
  la : zs[n]? = some (.int .u8 77)
  ap : ∀ k, (Value.slice Ab (n + 1) cb).ownBlock = some k → w0.heap.size ≤ k ∧ ¬ CF p k ∧ ¬ CFe q k ∧ k < B
section
variable {w0 wr w' : World} {g gd m m2 B bx b0 n cb j gp : Nat} {c' c : Cl} {p q : Pa} {v : Value} {l : List (QX (List UInt8))} {cs : Array Value} {Ab : Option Addr} {zs : List Value}
theorem FlS.set (h : FlS w0 g gd c' c m m2 p q B v l bx cs b0 Ab n cb zs wr) (hj : j < n) (hg : (Value.slice Ab (n + 1) cb).ownBlock = some gp) (y : Int) : FlS w0 g gd c' c m m2 p q B v l bx cs b0 Ab n cb (zs.set j (.int .u8 y)) (wr.setCell ⟨gp, j, none⟩ (.int .u8 y)) := by
  have hc : Chg (· = gp) wr (wr.setCell ⟨gp, j, none⟩ (.int .u8 y)) := (Chg.refl (· = gp) wr).setCell (p := ⟨gp, j, none⟩) (fun _ => rfl) _
  obtain ⟨a1, a2, a3, a4⟩ := h.ap gp hg
  refine ⟨h.tw.chg hc fun k hk => by subst hk; exact ⟨a1, a2, a3⟩, h.row.chg hc fun k hk e => ?_, hc.blk h.box fun e => ?_, own_setN h.own hg _, fun i hi => ?_, ?_, h.ap⟩
  · have := (h.row.lt hk).1; omega
  · exact own_blk_ne h.own h.box (by decide) (by rw [hg, e])
  · by_cases e : j = i
    · subst e
      obtain ⟨z, hz⟩ := h.el j hi
      exact ⟨y, by rw [List.getElem?_set_self (List.getElem?_eq_some_iff.1 hz).1]⟩
    · rw [List.getElem?_set_ne e]
      exact h.el i hi
  · rw [List.getElem?_set_ne (by omega)]
    exact h.la
end
theorem own_cellD {w : World} {base : Nat} {e : TypeId} {v : Value} {n : Nat} {xs : List Value} {j : Nat} (h : w.ownsRow base e 1 v n xs) (hj : j < n) : ∃ gp c u, v = .slice (some ⟨gp, 0, none⟩) n c ∧ base ≤ gp ∧ gp < w.heap.size ∧ xs[j]? = some u ∧ w.cell? ⟨gp, j, none⟩ = some u ∧ w.frozen? ⟨gp, j, none⟩ = false := by
  rcases h.2 with ⟨_, hx⟩ | ⟨gp, cap, cur, e1, hb, hg, hn', hm, hcs, hcell⟩
  · omega
  · have hl : j < xs.length := by have := h.1; omega
    refine ⟨gp, cap, xs[j], e1, hb, Blk.lt (show Blk w gp e cur from hg), List.getElem?_eq_getElem hl, ?_, (show Blk w gp e cur from hg).frozen j⟩
    rw [Blk.cell (show Blk w gp e cur from hg) j]
    have h2 : xs[j]? = some xs[j] := List.getElem?_eq_getElem hl
    conv at h2 => lhs; rw [← hcell]
    rw [List.getElem?_take] at h2
    split at h2
    · simpa using h2
    · cases h2
theorem own_at {w : World} {b0 n cb : Nat} {Ab : Option Addr} {zs : List Value} (h : w.ownsRow b0 5 1 (.slice Ab (n + 1) cb) (n + 1) zs) {j : Nat} (hj : j < n + 1) : ∃ gp u, Ab = some ⟨gp, 0, none⟩ ∧ gp < w.heap.size ∧ zs[j]? = some u ∧ w.cell? ⟨gp, j, none⟩ = some u ∧ w.frozen? ⟨gp, j, none⟩ = false ∧ n + 1 ≤ cb := by
  obtain ⟨gp, c, u, he, hge, hgp, hu, hc, hf⟩ := own_cellD h hj
  obtain ⟨A', c', e2, hle, _⟩ := own_formL h
  injection he with hA _ hC
  injection e2 with _ _ e3
  exact ⟨gp, u, hA, hgp, hu, hc, hf, by omega⟩
/-- the chunk with one byte more, whose beginning is handed over -/
theorem chunk_first {w : World} {b0 n cb : Nat} {Ab : Option Addr} {ck : List UInt8} (h : w.ownsRow b0 5 1 (.slice Ab (n + 1) cb) (n + 1) (ck.map bv ++ [.int .u8 77])) (hn : n = ck.length) : RdB w w.heap.size Ab n ck := by
  have h1 : OwnB 5 w b0 (.slice Ab (ck ++ [77]).length cb) (ck ++ [77]) := by
    unfold OwnB
    have e : (ck ++ [77]).length = n + 1 := by simp [hn]
    rw [e]
    have e2 : (ck ++ [77]).map bv = ck.map bv ++ [.int .u8 77] := by rw [List.map_append]; rfl
    rw [e2]
    exact h
  have h2 := (Reads.of_own h1 : RdB w w.heap.size Ab _ _).first (k := n) (by simp [hn])
  have e3 : (ck ++ [77]).take n = ck := by rw [hn, List.take_append_of_le_length (Nat.le_refl _), List.take_length]
  rw [e3] at h2
  exact h2
/-- the chunk is made -/
theorem flS_start {w0 w w1 w6 w7 : World} {g gd m k n cb bx : Nat} {c c' : Cl} {p p' q : Pa} {v : Value} {l : List (QX (List UInt8))} {cs : Array Value} {Ab : Option Addr} {ck : List UInt8} (h : TwX w0 g gd c c m m p q w) (hb1 : Below w.heap.size w w1) (hX : Blk w1 bx 41 cs) (hbx : w.heap.size ≤ bx) (hb6 : Below w1.heap.size w1 w6)
    (ho : w6.ownsRow w1.heap.size 5 1 (.slice Ab (n + 1) cb) (n + 1) (ck.map bv ++ [.int .u8 77])) (hn : n = ck.length) (hs : Stp w0.heap.size w6 p k c' p' w7) (hr : RowK kB w6.heap.size w7 v l) :
    FlS w0 g gd c' c (m + k) m p' q w6.heap.size v l bx cs w1.heap.size Ab n cb (ck.map bv ++ [.int .u8 77]) w7 := by
  have h16 : Below w.heap.size w w6 := hb1.trans (hb6.mono hb1.size)
  have hcf : ∀ i, CF p i → i < w.heap.size := fun i hi => (h.ca.lt hi).2
  refine ⟨(h.below h16).stepP hs, hr, hs.chg.blk ((hb6.block _ hX.lt).trans hX) fun e => by have := hcf _ e; omega, own_chg ho hs.chg fun i hi e => ?_, fun j hj => ?_, ?_, fun i hi => ?_⟩
  · have := (World.ownsRow.lt ho i hi).1
    have := hcf _ e
    have := hb1.size
    omega
  · rw [List.getElem?_append_left (by simp [← hn]; omega)]
    refine ⟨((ck[j]'(by omega)).toNat : Int), ?_⟩
    simp [bv, List.getElem?_eq_getElem (show j < ck.length by omega)]
  · rw [List.getElem?_append_right (by simp [← hn])]
    simp [← hn]
  · have h1 := World.ownsRow.lt ho i hi
    have h2 := h.old.size
    have h3 := hb1.size
    refine ⟨by omega, fun e => ?_, fun e => ?_, h1.2⟩
    · rcases hs.sub i e with e | e
      · have := hcf _ e; omega
      · omega
    · have := (h.cd.cfe e).2; omega
end Go.Proofs.Ytjhkfpemcplaaaa
