/-
  What the laws on readers keep between two steps: plain lemmas on worlds.
-/
import Derived.Test.YtijcnefomgfocaaPks
import Derived.Test.YtijcnefomgfocaaRfeedW
namespace Go.Proofs.Ytijcnefomgfocaa
open Go.RowKit

theorem feed_sum : ∀ (n : Nat) (b : List UInt8), b.length ≤ n → (feed b).2.1.length + (feed b).2.2 ≤ b.length := by
  intro n
  induction n with
  | zero =>
    intro b hb
    rw [feed_done (stepB_nil (by omega))]
    simp
  | succ n ih =>
    intro b hb
    cases hs : stepB b with
    | done => rw [feed_done hs]; simp
    | drop =>
      rw [feed_drop hs]
      have h0 : 0 < b.length := by
        rcases Nat.eq_zero_or_pos b.length with h0 | h0
        · rw [stepB_nil h0] at hs; cases hs
        · exact h0
      have := ih b.tail (by rw [List.length_tail]; omega)
      rw [List.length_tail] at this
      dsimp only
      omega
    | take p k =>
      rw [feed_take hs]
      have hk := stepB_take hs
      have := ih (b.drop k) (by rw [List.length_drop]; omega)
      rw [List.length_drop] at this
      dsimp only
      omega
theorem feed_le (b : List UInt8) : (feed b).2.1.length + (feed b).2.2 ≤ b.length := feed_sum b.length b (Nat.le_refl _)

/-- the two readers at one state: what is kept, how many were dropped -/
def RX (w : World) (g gx : Nat) (kept : List UInt8) (d : Nat) (wr : World) : Prop :=
  ∃ (A : Option Addr) (c : Nat) (Ax : Option Addr) (cx N : Nat), Blk wr g 74 #[.bool true, .slice A kept.length c, .int .i64 (d : Int)] ∧ OwnB 5 wr w.heap.size (.slice A kept.length c) kept ∧ XRd wr gx N Ax cx kept (d : Int) ∧
    (∀ k, (Value.slice A kept.length c).ownBlock = some k → k < N) ∧ g < N ∧ Below w.heap.size w wr ∧ w.heap.size ≤ g ∧ w.heap.size ≤ gx
section
variable {w wr w1 w2 : World} {g gx N d : Nat} {K : Value} {kept : List UInt8}
theorem XRd.later {A : Option Addr} {c : Nat} {dx : Int} (h : XRd wr gx N A c kept dx) (hb : Below wr.heap.size wr w1) : XRd w1 gx N A c kept dx :=
  ⟨h.1.below hb h.1.lt, (h.2.1.below hb).more hb.size, h.2.2.1, h.2.2.2⟩
theorem XRd.grown2 {A : Option Addr} {c : Nat} {dx : Int} {cs : Array Value} (h : XRd wr gx N A c kept dx) (hg : Grown2 wr w1 g K) (hb : Blk wr g 74 cs) (hK : ∀ k, K.ownBlock = some k → k < N) (hgN : g < N) (hKx : K.ownBlock ≠ some gx) : XRd w1 gx N A c kept dx := by
  obtain ⟨h1, h2, h3, h4⟩ := h
  obtain ⟨_, _, _, hs, hblk⟩ := hg
  have hne : gx ≠ g := Blk.ne_ h1 hb (by decide)
  refine ⟨(hblk gx h1.lt hne hKx).trans h1, ⟨h2.1, fun hn => ?_⟩, h3, h4⟩
  obtain ⟨ad, e, hlt, hc⟩ := h2.2 hn
  have hN := h4 ad e
  refine ⟨ad, e, by omega, fun j u hu => ?_⟩
  rw [← hc j u hu]
  refine World.cell?_of_block (hblk _ (by rw [block_of_add]; exact hlt) (by rw [block_of_add]; omega) (fun hk => ?_))
  have := hK _ hk
  rw [block_of_add] at this
  omega
theorem RX.below (h : RX w g gx kept d wr) (hb : Below wr.heap.size wr w1) : RX w g gx kept d w1 := by
  obtain ⟨A, c, Ax, cx, N, h1, h2, h3, h4, h5, h6, h7, h8⟩ := h
  exact ⟨A, c, Ax, cx, N, h1.below hb h1.lt, OwnB.below h2 hb, h3.later hb, h4, h5, h6.trans (hb.mono h6.size), h7, h8⟩
/-- both have been fed -/
theorem RX.fed {A : Option Addr} {c : Nat} {Ax : Option Addr} {cx : Nat} {A' : Option Addr} {n' c' : Nat} {Ax' : Option Addr} {cx' : Nat} {kept' : List UInt8} {d' : Nat}
    (h1 : Blk wr g 74 #[.bool true, .slice A kept.length c, .int .i64 (d : Int)]) (h2 : OwnB 5 wr w.heap.size (.slice A kept.length c) kept) (h3 : XRd wr gx N Ax cx kept (d : Int)) (h6 : Below w.heap.size w wr) (h7 : w.heap.size ≤ g) (h8 : w.heap.size ≤ gx)
    (hg : Grown2 wr w1 g (.slice A kept.length c)) (hb1 : Blk w1 g 74 #[.bool true, .slice A' n' c', .int .i64 (d' : Int)]) (ho1 : OwnB 5 w1 wr.heap.size (.slice A' n' c') kept')
    (hx : XRd w2 gx w1.heap.size Ax' cx' kept' (d' : Int)) (hgx : w1.grownBy w2 (some gx)) : RX w g gx kept' d' w2 := by
  obtain ⟨A3, c3, e3, _⟩ := OwnB.form ho1
  injection e3 with e1 e2 e3
  subst e1 e2 e3
  have hne : gx ≠ g := Blk.ne_ h3.1 h1 (by decide)
  have hK : (Value.slice A kept.length c).ownBlock ≠ some gx := own_blk_ne h2 h3.1 (by decide)
  have hbx1 : Blk w1 gx 79 _ := (hg.2.2.2.2 gx h3.1.lt hne hK).trans h3.1
  have hsz := hg.2.2.2.1
  refine ⟨A', c', Ax', cx', w1.heap.size, hb1.grown hgx (fun e => hne (by injection e with e; exact e.symm)), own_base (World.ownsRow.kept ho1 hgx (.inr (own_blk_ne ho1 hbx1 (by decide)))) h6.size, hx, fun k hk => (ho1.lt k hk).2, hb1.lt, ?_, h7, h8⟩
  refine ⟨hgx.os.trans (hg.1.trans h6.os), hgx.tape.trans (hg.2.1.trans h6.tape), hgx.output.trans (hg.2.2.1.trans h6.output), Nat.le_trans h6.size (Nat.le_trans hsz hgx.size), fun k hk => ?_⟩
  have hs6 := h6.size
  rw [hgx.block k (by omega) (fun e => by injection e with e; omega), hg.2.2.2.2 k (by omega) (by omega) (fun e => by have := (h2.lt k e).1; omega)]
  exact h6.block k hk
/-- both have been reset -/
theorem RX.reset {A : Option Addr} {c : Nat} {Ax : Option Addr} {cx : Nat} (h1 : Blk wr g 74 #[.bool true, .slice A kept.length c, .int .i64 (d : Int)]) (h3 : XRd wr gx N Ax cx kept (d : Int)) (h6 : Below w.heap.size w wr) (h7 : w.heap.size ≤ g) (h8 : w.heap.size ≤ gx) (v : Int) (hv : v = (d : Int) + (kept.length : Int)) :
    RX w g gx [] (d + kept.length) (((((wr.setCell ⟨g, 2, none⟩ (.int .i64 v)).setCell ⟨g, 1, none⟩ (.slice none 0 0)).drew).setCell ⟨gx, 1, none⟩ (.int .i64 v)).setCell ⟨gx, 0, none⟩ (.slice none 0 0)) := by
  subst hv
  have hne : gx ≠ g := Blk.ne_ h3.1 h1 (by decide)
  have e1 := (h1.set_ 2 (.int .i64 ((d : Int) + (kept.length : Int)))).set_ 1 (.slice none 0 0)
  have e2 := (((((h3.1.far (p := ⟨g, 2, none⟩) hne (.int .i64 ((d : Int) + (kept.length : Int)))).far (p := ⟨g, 1, none⟩) hne (.slice none 0 0)).drew).set_ 1 (.int .i64 ((d : Int) + (kept.length : Int)))).set_ 0 (.slice none 0 0))
  have e3 := ((e1.drew).far (p := ⟨gx, 1, none⟩) (fun e => hne e.symm) (.int .i64 ((d : Int) + (kept.length : Int)))).far (p := ⟨gx, 0, none⟩) (fun e => hne e.symm) (.slice none 0 0)
  refine ⟨none, 0, none, 0, g + 1, ?_, World.ownsRow_nil _ _ _ _, ⟨?_, ⟨by simp, fun h => by simp at h⟩, by simp, fun ad e => by cases e⟩, fun k hk => by simp [Value.ownBlock] at hk, by omega, ?_, h7, h8⟩
  · rw [show ((d + kept.length : Nat) : Int) = (d : Int) + (kept.length : Int) from by omega]
    simpa using e3
  · rw [show ((d + kept.length : Nat) : Int) = (d : Int) + (kept.length : Int) from by omega]
    simpa using e2
  · exact ((((h6.setCell (p := ⟨g, 2, none⟩) h7 _).setCell (p := ⟨g, 1, none⟩) h7 _).drew).setCell (p := ⟨gx, 1, none⟩) h8 _).setCell (p := ⟨gx, 0, none⟩) h8 _
theorem RX.start (w : World) (g gx : Nat) (hb : Blk wr g 74 #[.bool true, .slice none 0 0, .int .i64 0]) (hx : Blk wr gx 79 #[.slice none 0 0, .int .i64 0]) (h6 : Below w.heap.size w wr) (h7 : w.heap.size ≤ g) (h8 : w.heap.size ≤ gx) : RX w g gx [] 0 wr :=
  ⟨none, 0, none, 0, g + 1, by simpa using hb, World.ownsRow_nil _ _ _ _, ⟨by simpa using hx, ⟨by simp, fun h => by simp at h⟩, by simp, fun ad e => by cases e⟩, fun k hk => by simp [Value.ownBlock] at hk, by omega, h6, h7, h8⟩
end

/-- a slice of chunks that came in -/
def ckCell (q : Option Addr × Nat × List UInt8) : Value := .slice q.1 q.2.2.length q.2.1
def CRd (w : World) (A : Option Addr) (qs : List (Option Addr × Nat × List UInt8)) : Prop :=
  Reads w w.heap.size 1 A qs.length (qs.map ckCell) ∧ ∀ q ∈ qs, RdB w w.heap.size q.1 q.2.2.length q.2.2
theorem CRd.at_ {w wr : World} {A : Option Addr} {qs : List (Option Addr × Nat × List UInt8)} (h : CRd w A qs) (hb : Below w.heap.size w wr) {j : Nat} (hj : j < qs.length) :
    ∃ b off q, A = some ⟨b, off, none⟩ ∧ qs[j]? = some q ∧ wr.cell? ⟨b, off + j, none⟩ = some (.slice q.1 q.2.2.length q.2.1) ∧ RdB wr w.heap.size q.1 q.2.2.length q.2.2 := by
  obtain ⟨q, hq⟩ : ∃ q, qs[j]? = some q := ⟨_, List.getElem?_eq_getElem hj⟩
  obtain ⟨q0, hq0⟩ : ∃ q, qs[0]? = some q := ⟨_, List.getElem?_eq_getElem (by omega)⟩
  obtain ⟨⟨b, off, spot⟩, e, hlt, hc⟩ := (h.1.below hb).2 (by omega)
  have h0 := hc 0 (ckCell q0) (by rw [List.getElem?_map, hq0]; rfl)
  have hspot : spot = none := by simpa [Addr.add] using World.cell?_spot h0
  subst hspot
  have h1 := hc j (ckCell q) (by rw [List.getElem?_map, hq]; rfl)
  rw [show (⟨b, off, none⟩ : Addr).add j = ⟨b, off + j, none⟩ from by unfold Addr.add; split <;> simp <;> omega] at h1
  exact ⟨b, off, q, e, hq, h1, (h.2 q (List.mem_of_getElem? hq)).below hb⟩
def ckSum (qs : List (Option Addr × Nat × List UInt8)) : Nat := (qs.map fun q => q.2.2.length).sum
theorem ckSum_take (qs : List (Option Addr × Nat × List UInt8)) (j : Nat) (q : Option Addr × Nat × List UInt8) (h : qs[j]? = some q) : ckSum (qs.take (j + 1)) = ckSum (qs.take j) + q.2.2.length := by
  unfold ckSum
  rw [List.take_add_one, h]
  simp
theorem ckSum_le (qs : List (Option Addr × Nat × List UInt8)) (j : Nat) : ckSum (qs.take j) ≤ ckSum qs := by
  have : ckSum qs = ckSum (qs.take j) + ckSum (qs.drop j) := by
    unfold ckSum
    conv => lhs; rw [← List.take_append_drop j qs]
    rw [List.map_append, List.sum_append]
  omega
end Go.Proofs.Ytijcnefomgfocaa
