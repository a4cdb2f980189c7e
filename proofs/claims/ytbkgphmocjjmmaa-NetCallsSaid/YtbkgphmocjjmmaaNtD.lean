/-
  The walk of put.
-/
import Derived.Test.YtbkgphmocjjmmaaNtC
namespace Go.Proofs.Ytbkgphmocjjmmaa
open Go.RowKit

theorem layN_no8 (S : Ns) (v : Bool → Value) (hv : ∀ s, ∃ A n c, v s = .slice A n c) (i : Nat) (x : Int) : (layN S v)[i]? ≠ some (.int .u8 x) := by
  obtain ⟨A0, n0, c0, h0⟩ := hv false
  obtain ⟨A1, n1, c1, h1⟩ := hv true
  intro h
  have hi : i < 20 := by
    rcases Nat.lt_or_ge i 20 with h' | h'
    · exact h'
    · rw [Array.getElem?_eq_none (by simpa [layN] using h')] at h; cases h
  simp only [layN, h0, h1] at h
  have : ∀ j : Fin 20, i = j.val → False := by
    intro j hj
    subst hj
    match j with
    | ⟨0, _⟩ => simp at h
    | ⟨1, _⟩ => simp at h
    | ⟨2, _⟩ => simp at h
    | ⟨3, _⟩ => simp at h
    | ⟨4, _⟩ => simp at h
    | ⟨5, _⟩ => simp at h
    | ⟨6, _⟩ => simp at h
    | ⟨7, _⟩ => simp at h
    | ⟨8, _⟩ => simp at h
    | ⟨9, _⟩ => simp at h
    | ⟨10, _⟩ => simp at h
    | ⟨11, _⟩ => simp at h
    | ⟨12, _⟩ => simp at h
    | ⟨13, _⟩ => simp at h
    | ⟨14, _⟩ => simp at h
    | ⟨15, _⟩ => simp at h
    | ⟨16, _⟩ => simp at h
    | ⟨17, _⟩ => simp at h
    | ⟨18, _⟩ => simp at h
    | ⟨19, _⟩ => simp at h
  exact this ⟨i, hi⟩ rfl
/-- bytes never lie in the net's own block -/
theorem rd_far {w w' : World} {g B m : Nat} {S : Ns} {v : Bool → Value} {l : Bool → List LP} {A : Option Addr} {b : List UInt8} (hn : NetA w g S v l) (h : RdB w B A m b) (hB : B ≤ w.heap.size) (hk : ∀ k, k < w.heap.size → k ≠ g → w'.heap[k]? = w.heap[k]?) : RdB w' B A m b := by
  refine ⟨h.1, fun hm => ?_⟩
  obtain ⟨ad, e, hb, hc⟩ := h.2 hm
  refine ⟨ad, e, hb, fun j u hu => ?_⟩
  have h1 := hc j u hu
  by_cases hg : ad.block = g
  · exfalso
    rw [List.getElem?_map] at hu
    obtain ⟨x, hx, rfl⟩ := Option.map_eq_some_iff.1 hu
    have hbk : (ad.add j).block = g := by rw [block_of_add]; exact hg
    unfold World.cell? at h1
    rw [hbk] at h1
    have hh : w.heap[g]? = some (.cells (layN S v) 68 (0, 0)) := hn.blk
    rw [hh] at h1
    dsimp only at h1
    split at h1
    · cases h1
    · exact layN_no8 S v (fun s => by obtain ⟨A, c, e, _⟩ := own_form (hn.row s); exact ⟨A, _, c, e⟩) _ _ h1
  · exact (World.cell?_of_block (hk _ (by rw [block_of_add]; omega) (by rw [block_of_add]; exact hg))).trans h1
def Ns.inc (S : Ns) : Ns := { S with number := S.number + 1 }
def Ns.put (S : Ns) (s : Bool) (b : List UInt8) : Ns := { S with number := S.number + 1, u := upd S.u s (S.u s ++ [⟨S.number + 1, b⟩]) }
/-- behind the packet's making -/
structure PutMid (w : World) (g : Nat) (S : Ns) (v : Bool → Value) (l : Bool → List LP) (b : List UInt8) (gp : Nat) (A1 : Option Addr) (c1 : Nat) (wz : World) : Prop where
  net : NetA wz g S.inc v l
  r : Blk wz w.heap.size 36 #[.int .i64 0, .slice none 0 0]
  p : Blk wz gp 36 #[.int .i64 (S.number + 1), .slice A1 b.length c1]
  own : OwnB 5 wz (w.heap.size + 1) (.slice A1 b.length c1) b
  gp : w.heap.size < gp
  chg : Chg (· = g) w wz
section
variable {w w1 w2 wz w5 w6 : World} {g : Nat} {S : Ns} {v : Bool → Value} {l : Bool → List LP} {b : List UInt8} {gp : Nat} {A1 : Option Addr} {c1 : Nat} {s : Bool} {v1 : Value} {o : Obj}
theorem PutMid.viaA (hN : NetA w1 g S.inc v l) (hr : Blk w1 w.heap.size 36 #[.int .i64 0, .slice none 0 0]) (hc : Chg (· = g) w w1) (hs : w1.heap.size = w.heap.size + 1) (hb : Below w1.heap.size w1 w2) (ho : OwnB 5 w2 w1.heap.size (.slice A1 b.length c1) b) :
    PutMid w g S v l b w2.heap.size A1 c1 (w2.alloc (.cells #[.int .i64 (S.number + 1), .slice A1 b.length c1] 36)) :=
  have hb3 := hb.alloc hb.size (.cells #[.int .i64 (S.number + 1), .slice A1 b.length c1] 36)
  ⟨hN.below hb3, hr.below hb3 hr.lt, Blk.new w2 36 _, (own_base ho (by omega)).alloc _, by have := hb.size; omega, hc.trans (Chg.of_below hb3 (fun _ => False)) (fun _ _ h => h.elim)⟩
theorem PutMid.viaB (hN : NetA w1 g S.inc v l) (hr : Blk w1 w.heap.size 36 #[.int .i64 0, .slice none 0 0]) (hc : Chg (· = g) w w1) (hs : w1.heap.size = w.heap.size + 1) (hb : Below w1.heap.size w1 w2) (hp : Blk w2 w1.heap.size 36 #[.int .i64 0, .slice none 0 0]) (ho : OwnB 5 w2 (w1.heap.size + 1) (.slice A1 b.length c1) b) :
    PutMid w g S v l b w1.heap.size A1 c1 ((w2.setCell ⟨w1.heap.size, 0, none⟩ (.int .i64 (S.number + 1))).setCell ⟨w1.heap.size, 1, none⟩ (.slice A1 b.length c1)) :=
  have hb3 := (hb.setCell (p := ⟨w1.heap.size, 0, none⟩) (Nat.le_refl _) (.int .i64 (S.number + 1))).setCell (p := ⟨w1.heap.size, 1, none⟩) (Nat.le_refl _) (.slice A1 b.length c1)
  ⟨hN.below hb3, hr.below hb3 hr.lt, (hp.set_ 0 _).set_ 1 _, own_base ((ho.far hp (by decide) 0 _).far (hp.set_ 0 _) (by decide) 1 _) (by omega), by omega, hc.trans (Chg.of_below hb3 (fun _ => False)) (fun _ _ h => h.elim)⟩
theorem read_one2 (w : World) (x0 x1 : Value) : Reads (w.alloc (.cells #[x0, x1] 36)) (w.heap.size + 1) 2 (some ⟨w.heap.size, 0, none⟩) 1 [x0, x1] :=
  ⟨rfl, fun _ => (Reads.built w 36 [x0, x1]).2 (by simp)⟩
theorem two_one (n : Int) (A : Option Addr) (m c : Nat) : ∀ u ∈ [(.int .i64 n : Value), .slice A m c], u.oneCell' = true := by
  intro u hu
  simp only [List.mem_cons, List.not_mem_nil, or_false] at hu
  rcases hu with rfl | rfl <;> rfl
theorem layN_under (S : Ns) (v : Bool → Value) (s : Bool) : (layN S v)[wayO s]? = some (v s) := by cases s <;> rfl
theorem layN_put (S : Ns) (v : Bool → Value) (s : Bool) (x : Value) (b : List UInt8) : (layN S.inc v).setIfInBounds (wayO s) x = layN (S.put s b) (upd v s x) := by cases s <;> simp [layN, wayO, upd, Ns.inc, Ns.put]
/-- behind the append -/
structure PutNet (w : World) (g : Nat) (S : Ns) (v : Bool → Value) (l : Bool → List LP) (s : Bool) (b : List UInt8) (gp : Nat) (A1 : Option Addr) (c1 : Nat) (v1 : Value) (w6 : World) : Prop where
  net : NetA w6 g (S.put s b) (upd v s v1) (upd l s (l s ++ [⟨⟨S.number + 1, b⟩, A1, c1⟩]))
  sub : ∀ k, NetF g (upd v s v1) (upd l s (l s ++ [⟨⟨S.number + 1, b⟩, A1, c1⟩])) k → NetF g v l k ∨ w.heap.size < k
  r : Blk w6 w.heap.size 36 #[.int .i64 0, .slice none 0 0]
  p : Blk w6 gp 36 #[.int .i64 (S.number + 1), .slice A1 b.length c1]
  own : OwnB 5 w6 0 (.slice A1 b.length c1) b
  chg : Chg (NetF g v l) w w6
theorem PutMid.row (h : PutMid w g S v l b gp A1 c1 wz) : RowP (wz.alloc o) (v s) (l s) := World.ownsRow.alloc (h.net.row s) o
theorem PutMid.g5 (h : PutMid w g S v l b gp A1 c1 wz) (hg : ((wz.alloc o).drew).grownBy w5 (v s).ownBlock) : Blk w5 g 68 (layN S.inc v) :=
  Blk.grown (h.net.blk.alloc o).drew hg (fun e => own_blk_ne (h.net.row s) h.net.blk (by decide) e.symm)
theorem row_snoc {l : List LP} {p : LP} (h : w.ownsRow 0 36 2 v1 (l.length + 1) (lpCells l ++ [.int .i64 p.pk.num, p.val])) : RowP w v1 (l ++ [p]) := by
  have e : lpCells (l ++ [p]) = lpCells l ++ [.int .i64 p.pk.num, p.val] := by simp [lpCells, LP.cells]
  unfold RowP
  rw [e, List.length_append]
  exact h
theorem PutMid.next (h : PutMid w g S v l b gp A1 c1 wz) (hw : NetA w g S v l) (hr : RowP w5 v1 (l s ++ [⟨⟨S.number + 1, b⟩, A1, c1⟩])) (hg : ((wz.alloc o).drew).grownBy w5 (v s).ownBlock) (hv : v1.ownBlock = (v s).ownBlock ∨ v1.ownBlock = some (wz.heap.size + 1)) :
    PutNet w g S v l s b gp A1 c1 v1 (w5.setCell ⟨g, wayO s, none⟩ v1) := by
  have hsz : w.heap.size < wz.heap.size := by have := h.r.lt; omega
  have hgz := h.net.blk.lt
  have hgw := hw.blk.lt
  have hvg : (v s).ownBlock ≠ some g := own_blk_ne (h.net.row s) h.net.blk (by decide)
  have hvl : ∀ k, (v s).ownBlock = some k → k < w.heap.size := fun k e => (World.ownsRow.lt (hw.row s) k e).2
  have old : ∀ k, k < wz.heap.size → (v s).ownBlock ≠ some k → k ≠ g → (w5.setCell ⟨g, wayO s, none⟩ v1).heap[k]? = wz.heap[k]? := fun k hk h1 h2 =>
    (Below.heap_setCell _ _ _ _ h2).trans ((hg.block k (by simp; omega) (fun e => h1 e.symm)).trans (Below.heap_alloc wz o k hk))
  have hb5 : Blk w5 g 68 (layN S.inc v) := Blk.grown (h.net.blk.alloc o).drew hg (fun e => hvg e.symm)
  have hA1 : ∀ k, (Value.slice A1 b.length c1).ownBlock = some k → w.heap.size < k ∧ k < wz.heap.size := fun k e => ⟨by have := (h.own.lt k e).1; omega, (h.own.lt k e).2⟩
  have hown : OwnB 5 (w5.setCell ⟨g, wayO s, none⟩ v1) 0 (.slice A1 b.length c1) b := own_base (own_same h.own fun k e => old k (hA1 k e).2 (fun e2 => by have := hvl k e2; have := (hA1 k e).1; omega) (fun e2 => by have := (hA1 k e).1; omega)) (Nat.zero_le _)
  have hv' : v1.ownBlock = none ∨ v1.ownBlock = (v s).ownBlock ∨ ∃ k, v1.ownBlock = some k ∧ w.heap.size ≤ k := by
    rcases hv with e | e
    · exact .inr (.inl e)
    · exact .inr (.inr ⟨_, e, by omega⟩)
  have hv'' : v1.ownBlock = none ∨ v1.ownBlock = (v s).ownBlock ∨ ∃ k, v1.ownBlock = some k ∧ w.heap.size + 1 ≤ k := by
    rcases hv with e | e
    · exact .inr (.inl e)
    · exact .inr (.inr ⟨_, e, by omega⟩)
  have hn : ∀ n, n ≤ w.heap.size + 1 → ∀ p ∈ l s ++ [(⟨⟨S.number + 1, b⟩, A1, c1⟩ : LP)], p.blk = none ∨ (∃ q ∈ l s, p.blk = q.blk) ∨ ∃ k, p.blk = some k ∧ n ≤ k := by
    intro n hn p hp
    rcases List.mem_append.1 hp with hp | hp
    · exact .inr (.inl ⟨p, hp, rfl⟩)
    · rw [List.mem_singleton] at hp
      subst hp
      cases e : (⟨⟨S.number + 1, b⟩, A1, c1⟩ : LP).blk with
      | none => exact .inl rfl
      | some k => exact .inr (.inr ⟨k, rfl, by have := (hA1 k e).1; omega⟩)
  refine ⟨hw.upd s (w' := w5.setCell ⟨g, wayO s, none⟩ v1) (S' := S.put s b) ?_ ?_ ?_ ?_ ?_ hv' (hn _ (by omega)) ?_, fun k hk => ?_, ?_, ?_, hown, ?_⟩
  · rw [← layN_put S v s v1 b]; exact hb5.set_ _ _
  · exact World.ownsRow.kept hr (only_setCell (p := ⟨g, wayO s, none⟩) (World.grownBy.refl w5 (some g)) (.inl rfl) v1) (.inr (fun e => by
      rcases hv with e2 | e2
      · exact hvg (by rw [← e2]; exact e)
      · rw [e2] at e; injection e with e; omega))
  · intro p hp
    rcases List.mem_append.1 hp with hp | hp
    · have hlt : ∀ k, p.blk = some k → k < w.heap.size := fun k e => (World.ownsRow.lt (hw.pks s p hp) k e).2
      exact own_same (h.net.pks s p hp) fun k e => old k (by have := hlt k e; omega) (fun e2 => own_apart (hw.pks s p hp) (hw.row s) (by decide) k e e2) (fun e2 => by subst e2; exact own_blk_ne (hw.pks s p hp) hw.blk (by decide) e)
    · rw [List.mem_singleton] at hp
      subst hp
      exact hown
  · simp [Ns.put, hw.is]
  · rw [List.pairwise_append]
    refine ⟨hw.apart s, List.pairwise_singleton _ _, fun p hp q hq => ?_⟩
    rw [List.mem_singleton] at hq
    subst hq
    cases e : p.blk with
    | none => exact .inl e
    | some k => exact .inr (fun e2 => by
        have := (World.ownsRow.lt (hw.pks s p hp) k e).2
        have := (hA1 k (by rw [← e, e2]; rfl)).1
        omega)
  · intro k hk
    obtain ⟨h1, h2⟩ := hw.other (by decide) (by decide) s hk
    have hlt : k < w.heap.size := by
      rcases hk with hk | ⟨p, hp, hk⟩
      · exact (World.ownsRow.lt (hw.row _) k hk).2
      · exact (World.ownsRow.lt (hw.pks _ p hp) k hk).2
    exact (old k (by omega) h2 h1).trans (h.chg.block k hlt h1)
  · rcases NetF.upd hv'' (hn _ (Nat.le_refl _)) hk with h1 | h1
    · exact .inl h1
    · exact .inr h1
  · exact (old _ h.r.lt (fun e => by have := hvl _ e; omega) (by omega)).trans h.r
  · exact (old _ h.p.lt (fun e => by have := hvl _ e; have := h.gp; omega) (by have := h.gp; omega)).trans h.p
  · refine ⟨?_, ?_, ?_, ?_, fun k hk hn' => ?_⟩
    · exact hg.os.trans h.chg.os
    · exact hg.tape.trans h.chg.tape
    · exact hg.output.trans h.chg.output
    · have := hg.size; simp [World.setCell] at this ⊢; omega
    · have h1 : k ≠ g := fun e => hn' (.inl e)
      exact (old k (by omega) (fun e => hn' (.inr (.inl ⟨s, e⟩))) h1).trans (h.chg.block k hk h1)
end
/-- what put leaves -/
def PutP (w : World) (g : Nat) (S : Ns) (v : Bool → Value) (l : Bool → List LP) (s : Bool) (b : List UInt8) (e : Ending) (w' : World) : Prop :=
  ∃ v1 p1 A2 c2, e = .returned (.agg #[.int .i64 (S.number + 1), .slice A2 b.length c2]) ∧ p1.pk = ⟨S.number + 1, b⟩ ∧ NetA w' g (S.put s b) (upd v s v1) (upd l s (l s ++ [p1])) ∧
    (∀ k, NetF g (upd v s v1) (upd l s (l s ++ [p1])) k → NetF g v l k ∨ w.heap.size ≤ k) ∧ Chg (NetF g v l) w w' ∧ OwnB 5 w' w.heap.size (.slice A2 b.length c2) b ∧
    ∀ k, (Value.slice A2 b.length c2).ownBlock = some k → ¬ NetF g (upd v s v1) (upd l s (l s ++ [p1])) k
theorem put_end {w w6 w7 : World} {g : Nat} {S : Ns} {v : Bool → Value} {l : Bool → List LP} {b : List UInt8} {gp : Nat} {A1 A2 : Option Addr} {c1 c2 : Nat} {s : Bool} {v1 : Value} (h : PutNet w g S v l s b gp A1 c1 v1 w6) (hw : NetA w g S v l) (hb : Below w6.heap.size w6 w7) (ho : OwnB 5 w7 w6.heap.size (.slice A2 b.length c2) b) :
    Blk ((w7.setCell ⟨w.heap.size, 0, none⟩ (.int .i64 (S.number + 1))).setCell ⟨w.heap.size, 1, none⟩ (.slice A2 b.length c2)) w.heap.size 36 #[.int .i64 (S.number + 1), .slice A2 b.length c2] ∧
    PutP w g S v l s b (.returned (.agg #[.int .i64 (S.number + 1), .slice A2 b.length c2])) ((w7.setCell ⟨w.heap.size, 0, none⟩ (.int .i64 (S.number + 1))).setCell ⟨w.heap.size, 1, none⟩ (.slice A2 b.length c2)) := by
  have hr7 : Blk w7 w.heap.size 36 #[.int .i64 0, .slice none 0 0] := h.r.below hb h.r.lt
  have hF : ¬ NetF g (upd v s v1) (upd l s (l s ++ [⟨⟨S.number + 1, b⟩, A1, c1⟩])) w.heap.size := fun hf => by
    rcases h.sub _ hf with h1 | h1
    · have := hw.lt h1; omega
    · omega
  have hc : Chg (· = w.heap.size) w7 ((w7.setCell ⟨w.heap.size, 0, none⟩ (.int .i64 (S.number + 1))).setCell ⟨w.heap.size, 1, none⟩ (.slice A2 b.length c2)) :=
    ((Chg.refl (· = w.heap.size) w7).setCell (p := ⟨w.heap.size, 0, none⟩) (fun _ => rfl) _).setCell (p := ⟨w.heap.size, 1, none⟩) (fun _ => rfl) _
  refine ⟨(hr7.set_ 0 _).set_ 1 _, v1, _, A2, c2, rfl, rfl, (h.net.below hb).chg hc (fun k hk e => hF (by rw [← e]; exact hk)), fun k hk => ?_, ?_, ?_, fun k hk hf => ?_⟩
  · rcases h.sub k hk with h1 | h1
    · exact .inl h1
    · exact .inr (by omega)
  · exact (h.chg.trans (Chg.of_below hb (fun _ => False)) (fun _ _ h => h.elim)).trans hc (fun i hi e => by omega)
  · have hs6 : w.heap.size < w6.heap.size := h.r.lt
    exact own_base (own_chg ho hc (fun k hk e => by have := (ho.lt k hk).1; omega)) (by omega)
  · have h1 := (ho.lt k hk).1
    have h2 := h.net.lt hf
    omega
set_option maxRecDepth 20000 in
set_option maxHeartbeats 2000000 in
theorem put_any (g : Nat) (S : Ns) (v : Bool → Value) (l : Bool → List LP) (K : Int) (s : Bool) (A : Option Addr) (m c B : Nat) (b : List UInt8) (w : World) (h : NetA w g S v l) (hk : S.ok K) (hK : K ≤ 4611686018427387904) (hr : RdB w B A m b) (hB : B ≤ w.heap.size) (hb : b.length ≤ 140737488355328) :
    Calls Try.prog 34 #[.pointer (some ⟨g, 0, none⟩), .pointer (some ⟨g, wayO s, none⟩), .slice A m c] w (PutP w g S v l s b) := by
  obtain ⟨i0, hi, hz0, hz1, hz2⟩ := info_parts info36
  have hll : ((l s).length : Int) ≤ 64 := by rw [h.len s]; have := hk.len s; have := hk.hi; omega
  have c3 : w.cell? ⟨g, 3, none⟩ = some (.int .i64 S.number) := h.blk.cell 3
  have f3 := h.blk.frozen 3
  have hg : g < w.heap.size := h.blk.lt
  have e0 : 0 ≤ S.number := hk.nu.1
  have e1 : S.number ≤ 4611686018427387904 := by have := hk.nu.2; omega
  have H := Lib.hid h
  have HR := Lib.hid hr
  clear h hr hk
  go_enter Try.func34, Try.ntmps34
  go_upto_region 2 with fail
  have HN1 : Hid (NetA ((w.setCell ⟨g, 3, none⟩ (.int .i64 (S.number + 1))).alloc (.cells #[.int .i64 0, .slice none 0 0] 36)) g S.inc v l) := Lib.hid (H.out.head ((H.out.blk.set_ 3 _).alloc _) rfl (fun k hk hn => (Below.heap_alloc _ _ k (by simpa [World.setCell] using hk)).trans (Below.heap_setCell _ _ _ _ hn)) (by decide) (by decide))
  have HC1 : Hid (Chg (· = g) w ((w.setCell ⟨g, 3, none⟩ (.int .i64 (S.number + 1))).alloc (.cells #[.int .i64 0, .slice none 0 0] 36))) := Lib.hid (((Chg.refl (· = g) w).setCell (p := ⟨g, 3, none⟩) (fun _ => rfl) _).alloc _)
  have HB1 : Hid (Blk ((w.setCell ⟨g, 3, none⟩ (.int .i64 (S.number + 1))).alloc (.cells #[.int .i64 0, .slice none 0 0] 36)) w.heap.size 36 #[.int .i64 0, .slice none 0 0]) := Lib.hid (Blk.new' _ 36 _ _ (by simp [World.setCell]))
  have HR1 : Hid (RdB ((w.setCell ⟨g, 3, none⟩ (.int .i64 (S.number + 1))).alloc (.cells #[.int .i64 0, .slice none 0 0] 36)) B A m b) := Lib.hid (rd_far H.out HR.out hB (fun k hk hn => (Below.heap_alloc _ _ k (by simpa [World.setCell] using hk)).trans (Below.heap_setCell _ _ _ _ hn)))
  have hs1 : ((w.setCell ⟨g, 3, none⟩ (.int .i64 (S.number + 1))).alloc (.cells #[.int .i64 0, .slice none 0 0] 36)).heap.size = w.heap.size + 1 := by simp [World.setCell]
  generalize (w.setCell ⟨g, 3, none⟩ (.int .i64 (S.number + 1))).alloc (.cells #[.int .i64 0, .slice none 0 0] 36) = w1 at HN1 HC1 HB1 HR1 hs1 ⊢
  have HS1 := Lib.hid hs1
  have hB1 : B ≤ w1.heap.size := by omega
  have hw1 : w.heap.size < w1.heap.size := by omega
  have k3 : w1.cell? ⟨g, 3, none⟩ = some (.int .i64 (S.number + 1)) := HN1.out.blk.cell 3
  have HCL := Lib.hid fun (W : World) (hW : Below w1.heap.size w1 W) => clone_any A m c B b W (HR1.out.below (hW.mono hB1)) (Nat.le_trans hB1 hW.size) hb
  have HK3 := Lib.hid fun (W : World) (hW : Below w1.heap.size w1 W) => (show W.cell? ⟨g, 3, none⟩ = some (.int .i64 (S.number + 1)) from (HN1.out.blk.below hW HN1.out.blk.lt).cell 3)
  clear c3 f3 hs1
  go_cut [7] (fun p wx => ∃ wz gp A1 c1, wz = wx ∧ p = .pointer (some ⟨gp, 0, none⟩) ∧ PutMid w g S v l b gp A1 c1 wz)
  case first =>
    have b0 : Below w1.heap.size w1 w1.drew := (Below.refl _ _).drew
    have b1 : Below w1.heap.size w1 (w1.alloc (.cells #[.int .i64 0, .slice none 0 0] 36)).drew := ((Below.refl _ _).alloc (Nat.le_refl _) _).drew
    go_region_held3 (fun W => W.cell? ⟨g, 3, none⟩ = some (.int .i64 (S.number + 1)))
      (first | go_keep | exact HK3.out _ b2 | exact HK3.out _ (b2.alloc b2.size _) | exact HK3.out _ ((b2.setCell (by simp) _).setCell (by simp) _))
      (first
        | (go_at_call 46; ((with_reducible refine (HCL.out _ b0).mono ?_); rintro e w2 ⟨A1, c1, rfl, hown2, hbel2⟩; have b2 := b0.trans (hbel2.mono (Nat.le_refl _))))
        | (go_at_call 46; ((with_reducible refine (HCL.out _ b1).mono ?_); rintro e w2 ⟨A1, c1, rfl, hown2, hbel2⟩; have b2 := b1.trans (hbel2.mono (by simp)); have hP := (Blk.new w1 36 #[.int .i64 0, .slice none 0 0]).drew.below hbel2 (by simp); have p0 := hP.cell 0; have p1 := hP.cell 1; have q0 := hP.frozen 0; have q1 := hP.frozen 1)))
    all_goals (go_wp2_with fail; go_meet; first | exact ⟨_, _, A1, c1, rfl, rfl, PutMid.viaA HN1.out HB1.out HC1.out HS1.out b2 hown2⟩ | exact ⟨_, _, A1, c1, rfl, rfl, PutMid.viaB HN1.out HB1.out HC1.out HS1.out b2 hP (by simpa using hown2)⟩)
  case rest =>
    obtain ⟨wz, gp, A1, c1, rfl, rfl, hm⟩ := hcut
    have HM := Lib.hid hm
    have hgp : gp < wz.heap.size := hm.p.lt
    have hgz : g < wz.heap.size := hm.net.blk.lt
    have u0 : wz.cell? ⟨g, wayO s, none⟩ = some (v s) := (hm.net.blk.cell _).trans (layN_under _ _ _)
    have p0 : wz.cell? ⟨gp, 0, none⟩ = some (.int .i64 (S.number + 1)) := hm.p.cell 0
    have p1 : wz.cell? ⟨gp, 1, none⟩ = some (.slice A1 b.length c1) := hm.p.cell 1
    obtain ⟨Av, cv, hv, -, -⟩ := own_form (hm.net.row s)
    rw [hv] at u0
    have HV := Lib.hid hv
    clear hm hv HCL HK3 k3 HN1 HC1 HB1 HR1 HS1 hB1 hw1
    go_wp2_with fail
    go_region_law (first
      | (refine step_append_any _ rfl (.tmp 26) (.tmp 28) 39 rfl 0 36 i0 _ 2 32 Try.underlying39 hi hz0 hz1 hz2 rfl (by decide) (v s) (l s).length (lpCells (l s)) (by simp [Act.eval, HV.out]) (HM.out.row) (wz.heap.size + 1) (some ⟨wz.heap.size, 0, none⟩) 1 1 _ (by simp [Act.eval]) (read_one2 _ _ _) (two_one _ _ _ _) (by simp only [maxLen]; omega) (by omega) (by simp) ?_; intro v1 w5 hown5 hgrow5 hv5; have HNX := Lib.hid (HM.out.next (v1 := v1) (w5 := w5) H.out (row_snoc (p := ⟨⟨S.number + 1, b⟩, A1, c1⟩) hown5) hgrow5 (by simpa using hv5)); have hg5 := HM.out.g5 hgrow5; have u5 := (hg5.cell (wayO s)).trans (layN_under _ _ _); have f5 := hg5.frozen (wayO s); obtain ⟨A5, c5, rfl, _, _⟩ := own_form hown5; clear hown5 hgrow5 hv5 hg5))
    all_goals
      generalize w5.setCell ⟨g, wayO s, none⟩ (.slice A5 ((l s).length + 1) c5) = w6 at HNX ⊢
      clear u5 f5 u0 p0 p1 HM HV
      have p0 := HNX.out.p.cell 0
      have p1 := HNX.out.p.cell 1
      have HT := Lib.hid (told_any (S.number + 1) A1 b.length c1 w6.heap.size b w6 (OwnB.reads HNX.out.own rfl) (Nat.le_refl _) hb)
      go_wp2_with fail
      refine HT.out.mono ?_
      rintro e w7 ⟨A2, c2, rfl, ho7, hb7⟩
      have HEND := Lib.hid (put_end HNX.out H.out hb7 ho7)
      have hr7 : Blk w7 w.heap.size 36 #[.int .i64 0, .slice none 0 0] := HNX.out.r.below hb7 HNX.out.r.lt
      have r0 := hr7.cell 0
      have r1 := hr7.cell 1
      have s0 := hr7.frozen 0
      have s1 := hr7.frozen 1
      clear ho7 hb7 p0 p1 hr7 HT
      go_wp2
      have q0 := HEND.out.1.cell 0
      have q1 := HEND.out.1.cell 1
      exact bodyPost_ret (v := .agg #[.int .i64 (S.number + 1), .slice A2 b.length c2]) (by simp [results, Try.results34, go_sem, q0, q1]) rfl HEND.out.2
end Go.Proofs.Ytbkgphmocjjmmaa
