/-
  The book's steps: a way is put behind, a way's byte is turned, all ways are gone.
-/
import Derived.Test.YtbkgphmocjjmmaaNwD
namespace Go.Proofs.Ytbkgphmocjjmmaa
open Go.RowKit

section
variable {w0 W W' w10 : World} {g mb : Nat} {S : Ns} {v : Bool → Value} {l : Bool → List LP} {ms : List Wm} {b : List UInt8} {A1 : Option Addr} {c1 : Nat}
def newWay (w10 : World) (b : List UInt8) (side ep : Int) (A1 : Option Addr) (c1 : Nat) : Wm := ⟨⟨b, side, ep, false⟩, A1, c1, w10.heap.size⟩
def putW (w10 : World) (mb : Nat) (ms : List Wm) (b : List UInt8) (side ep : Int) (A1 : Option Addr) (c1 : Nat) : World :=
  mapPut (w10.alloc (.cells #[.slice A1 b.length c1, .int .i64 side, .int .i64 ep, .bool false] 78)) .i64 mb (bookF ms 0) ((ms.length : Int) + 1) (.pointer (some ⟨w10.heap.size, 0, none⟩))
theorem CsX.put (h : CsX w0 g S v l mb ms W) (hb : Below W.heap.size W w10) (ho : OwnB 5 w10 W.heap.size (.slice A1 b.length c1) b) (side ep : Int) :
    MapI .i64 (w10.alloc (.cells #[.slice A1 b.length c1, .int .i64 side, .int .i64 ep, .bool false] 78)) mb (bookF ms 0) ∧ CsX w0 g S v l mb (ms ++ [newWay w10 b side ep A1 c1]) (putW w10 mb ms b side ep A1 c1) ∧ Chg (· = mb) W (putW w10 mb ms b side ep A1 c1) := by
  have hb2 : Below W.heap.size W (w10.alloc (.cells #[.slice A1 b.length c1, .int .i64 side, .int .i64 ep, .bool false] 78)) := bt hb (al1 _ _)
  have h2 := h.below hb2
  have hs := hb.size
  have hs0 := h.net.old.size
  have hblk : Blk (w10.alloc (.cells #[.slice A1 b.length c1, .int .i64 side, .int .i64 ep, .bool false] 78)) w10.heap.size 78 (newWay w10 b side ep A1 c1).cs := Blk.new _ _ _
  have hnew : ∀ k, (newWay w10 b side ep A1 c1).has k → W.heap.size ≤ k := fun k hk => by
    rcases hk with e | e
    · have : k = w10.heap.size := e
      omega
    · exact (World.ownsRow.lt ho k e).1
  have hok : WmOk w0.heap.size (w10.alloc (.cells #[.slice A1 b.length c1, .int .i64 side, .int .i64 ep, .bool false] 78)) (newWay w10 b side ep A1 c1) :=
    ⟨hblk, World.ownsRow.alloc (own_base ho hs0) _, by show w0.heap.size ≤ w10.heap.size; omega⟩
  have hmb := h.bk.map.lt
  have hput := h2.bk.put hok fun k hk => ⟨fun e => by have := h.net.net.lt e; have := hnew k hk; omega, fun e => by have := hnew k hk; omega, fun z hz e => by have := ((h.bk.wy z hz).lt e).2; have := hnew k hk; omega⟩
  have hcg : Chg (· = mb) (w10.alloc (.cells #[.slice A1 b.length c1, .int .i64 side, .int .i64 ep, .bool false] 78)) (putW w10 mb ms b side ep A1 c1) :=
    ⟨rfl, rfl, rfl, by unfold putW; rw [mapPut_size]; exact Nat.le_refl _, fun k _ hk => h2.bk.map.put_far _ _ hk⟩
  exact ⟨h2.bk.map, h2.far hput hcg (fun k e => by subst e; exact ⟨h.bk.ge, h.bk.mfree⟩), (Chg.of_below hb2 (· = mb)).trans hcg (fun _ _ e => e)⟩
def Wm.turn (y : Wm) (j : Nat) (x : UInt8) : Wm := { y with p := { y.p with b := y.p.b.set j x } }
theorem CsX.turn (h : CsX w0 g S v l mb ms W) {kk : Nat} {y : Wm} (hy : ms[kk]? = some y) {gb j : Nat} (hg : y.val.ownBlock = some gb) (x : UInt8) : CsX w0 g S v l mb (ms.set kk (y.turn j x)) (W.setCell ⟨gb, j, none⟩ (bv x)) := by
  have hym := List.mem_of_getElem? hy
  have hok := h.bk.wy y hym
  have hval : (y.turn j x).val = y.val := by simp [Wm.turn, Wm.val]
  have hne : y.g ≠ gb := fun e => own_blk_ne hok.own hok.blk (by decide) (by rw [hg, e])
  have hok' : WmOk w0.heap.size (W.setCell ⟨gb, j, none⟩ (bv x)) (y.turn j x) := by
    refine ⟨?_, ?_, hok.ge⟩
    · have : (y.turn j x).cs = y.cs := by simp [Wm.cs, hval]; simp [Wm.turn]
      show Blk _ y.g 78 _
      rw [this]
      exact hok.blk.far (p := ⟨gb, j, none⟩) hne _
    · rw [hval]
      exact own_setB hok.own hg x
  exact h.far (h.bk.turn hy rfl (by rw [hval]) hok' (G := (· = gb)) ((Chg.refl (· = gb) W).setCell (p := ⟨gb, j, none⟩) (fun _ => rfl) _) fun k e => by subst e; exact .inr hg) (G := (· = gb)) ((Chg.refl (· = gb) W).setCell (p := ⟨gb, j, none⟩) (fun _ => rfl) _) fun k e => by
    subst e
    exact ⟨(hok.lt (.inr hg)).1, h.bk.free y hym _ (.inr hg)⟩
theorem map_turn {kk j : Nat} {y : Wm} {x : UInt8} {b : List UInt8} {side ep : Int} (hp : y.p = ⟨b, side, ep, false⟩) : (ms.set kk (y.turn j x)).map Wm.p = (ms.map Wm.p).set kk ⟨b.set j x, side, ep, false⟩ := by
  rw [List.map_set]
  simp [Wm.turn, hp]
theorem map_put {w10 : World} {side ep : Int} : (ms ++ [newWay w10 b side ep A1 c1]).map Wm.p = ms.map Wm.p ++ [⟨b, side, ep, false⟩] := by simp [newWay]
theorem CsX.way_byte (h : CsX w0 g S v l mb ms W) {kk : Nat} {y : Wm} (hy : ms[kk]? = some y) {j : Nat} {x : UInt8} (hx : y.p.b[j]? = some x) : ∃ gb, y.A = some ⟨gb, 0, none⟩ ∧ y.val.ownBlock = some gb ∧ W.cell? ⟨gb, j, none⟩ = some (.int .u8 (x.toNat : Int)) ∧ W.frozen? ⟨gb, j, none⟩ = false ∧ gb < W.heap.size := by
  have hok := h.bk.wy y (List.mem_of_getElem? hy)
  have hj := (List.getElem?_eq_some_iff.1 hx).1
  have ho := hok.own
  unfold Wm.val at ho
  obtain ⟨gb, hA, hl, _⟩ := own_ptr ho (by omega)
  rw [hA] at ho
  obtain ⟨x', e, c0, f0⟩ := own_cell ho hj
  rw [hx] at e; injection e with e; subst e
  exact ⟨gb, hA, by rw [Wm.val, hA]; rfl, c0, f0, hl⟩

theorem way_reads (h : CsX w0 g S v l mb ms W) {kk : Nat} {y : Wm} (hy : ms[kk]? = some y) {side ep : Int} (hp : y.p = ⟨b, side, ep, false⟩) (hc : Chg (· = mb) W W') : RdB W' W'.heap.size y.A b.length b := by
  have ho := (h.bk.wy y (List.mem_of_getElem? hy)).own
  have hyb : y.p.b = b := by rw [hp]
  have ho' := own_chg ho hc (fun k hk e => by subst e; exact map_own h.bk.map ho hk)
  have := OwnB.reads (A := y.A) (c := y.c) ho' rfl
  rw [hyb] at this
  exact this

/-! ## The range over the book -/
/-- the ways whose stamps the iterator has handed out are gone -/
def goneF (seen : Array Nat) : List Wm → Nat → List Wm
  | [], _ => []
  | y :: r, i => (if seen.contains i then y.off else y) :: goneF seen r (i + 1)
theorem goneF_len (seen : Array Nat) : ∀ (l : List Wm) (i : Nat), (goneF seen l i).length = l.length
  | [], _ => rfl
  | _ :: r, i => by simp [goneF, goneF_len seen r]
theorem goneF_none : ∀ (l : List Wm) (i : Nat), goneF #[] l i = l
  | [], _ => rfl
  | y :: r, i => by simp [goneF, goneF_none r]
theorem goneF_at (seen : Array Nat) : ∀ (l : List Wm) (j i : Nat) (y : Wm), l[i]? = some y → (goneF seen l j)[i]? = some (if seen.contains (j + i) then y.off else y)
  | x :: r, j, 0, y, h => by
    simp only [List.getElem?_cons_zero, Option.some.injEq] at h
    subst h
    simp [goneF]
  | x :: r, j, i + 1, y, h => by
    rw [List.getElem?_cons_succ] at h
    simp only [goneF, List.getElem?_cons_succ]
    rw [goneF_at seen r (j + 1) i y h, show j + 1 + i = j + (i + 1) by omega]
theorem goneF_set (seen : Array Nat) : ∀ (l : List Wm) (j i : Nat) (y : Wm), l[i]? = some y → goneF (seen.push (j + i)) l j = (goneF seen l j).set i y.off
  | x :: r, j, 0, y, h => by
    simp only [List.getElem?_cons_zero, Option.some.injEq] at h
    subst h
    simp only [goneF, Nat.add_zero, List.set_cons_zero, List.cons.injEq]
    refine ⟨by simp, ?_⟩
    have : ∀ (t : List Wm) (k : Nat), j < k → goneF (seen.push j) t k = goneF seen t k := by
      intro t
      induction t with
      | nil => intro _ _; rfl
      | cons z t ih =>
        intro k hk
        have e : (seen.push j).contains k = seen.contains k := by
          rw [Bool.eq_iff_iff, Array.contains_iff_mem, Array.contains_iff_mem, Array.mem_push]
          constructor
          · rintro (h | h)
            · exact h
            · omega
          · exact .inl
        simp only [goneF, e, ih (k + 1) (by omega)]
    exact this r (j + 1) (by omega)
  | x :: r, j, i + 1, y, h => by
    rw [List.getElem?_cons_succ] at h
    have e : (seen.push (j + (i + 1))).contains j = seen.contains j := by
      rw [Bool.eq_iff_iff, Array.contains_iff_mem, Array.contains_iff_mem, Array.mem_push]
      constructor
      · rintro (h | h)
        · exact h
        · omega
      · exact .inl
    simp only [goneF, e, List.set_cons_succ, List.cons.injEq, true_and]
    have := goneF_set seen r (j + 1) i y h
    rw [show j + 1 + i = j + (i + 1) by omega] at this
    exact this
theorem goneF_all (seen : Array Nat) : ∀ (l : List Wm) (j : Nat), (∀ i, i < l.length → seen.contains (j + i) = true) → (goneF seen l j).map Wm.p = (l.map Wm.p).map Wp.off
  | [], _, _ => rfl
  | x :: r, j, h => by
    have h0 := h 0 (by simp)
    simp only [Nat.add_zero] at h0
    simp only [goneF, h0, if_true, List.map_cons, List.cons.injEq]
    exact ⟨rfl, goneF_all seen r (j + 1) fun i hi => by have := h (i + 1) (by simp; omega); rwa [show j + (i + 1) = j + 1 + i by omega] at this⟩
theorem ents_at (q : IntKind) : ∀ (f : List (Int × Value)) (j i : Nat) (e : MapEntry), (ents q f j)[i]? = some e → e.born = j + i ∧ ∃ p, f[i]? = some p ∧ e.key = .int q p.1 ∧ e.val = p.2
  | [], _, _, _, h => by simp [ents] at h
  | p :: r, j, 0, e, h => by
    simp only [ents, List.getElem?_cons_zero, Option.some.injEq] at h
    subst h
    exact ⟨rfl, p, rfl, rfl, rfl⟩
  | p :: r, j, i + 1, e, h => by
    simp only [ents, List.getElem?_cons_succ] at h
    obtain ⟨h1, h2⟩ := ents_at q r (j + 1) i e h
    exact ⟨by omega, by simpa using h2⟩
theorem bookF_at : ∀ (l : List Wm) (j i : Nat) (p : Int × Value), (bookF l j)[i]? = some p → ∃ y, l[i]? = some y ∧ p.2 = .pointer (some ⟨y.g, 0, none⟩)
  | [], _, _, _, h => by simp [bookF] at h
  | y :: r, j, 0, p, h => by
    simp only [bookF, List.getElem?_cons_zero, Option.some.injEq] at h
    subst h
    exact ⟨y, rfl, rfl⟩
  | y :: r, j, i + 1, p, h => by
    simp only [bookF, List.getElem?_cons_succ] at h
    simpa using bookF_at r (j + 1) i p h
end
end Go.Proofs.Ytbkgphmocjjmmaa
