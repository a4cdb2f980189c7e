/-
  The walks of the document's put f38 and Under f41.
-/
import Derived.Test.YtbkgphmocjjmmaaRnA
namespace Go.Proofs.Ytbkgphmocjjmmaa
open Go.RowKit
def idxN : Bool → Int
  | false => 0
  | true => 1
theorem layR_no8 (S : Ns) (v : Bool → Value) (hv : ∀ s, ∃ A n c, v s = .slice A n c) (i : Nat) (x : Int) : (layR S v)[i]? ≠ some (.int .u8 x) := by
  obtain ⟨A0, n0, c0, h0⟩ := hv false
  obtain ⟨A1, n1, c1, h1⟩ := hv true
  intro h
  have hi : i < 20 := by
    rcases Nat.lt_or_ge i 20 with h' | h'
    · exact h'
    · rw [Array.getElem?_eq_none (by simpa [layR] using h')] at h; cases h
  simp only [layR, h0, h1] at h
  have : ∀ j : Fin 20, i = j.val → False := by
    intro j hj
    subst hj
    match j with
    | ⟨0, _⟩ => simp at h
    | ⟨1, _⟩ => simp at h
    | ⟨2, _⟩ => simp at h
    | ⟨3, _⟩ => simp at h
    | ⟨4, _⟩ => simp at h
    | ⟨5, _⟩ => simp at h
    | ⟨6, _⟩ => simp at h
    | ⟨7, _⟩ => simp at h
    | ⟨8, _⟩ => simp at h
    | ⟨9, _⟩ => simp at h
    | ⟨10, _⟩ => simp at h
    | ⟨11, _⟩ => simp at h
    | ⟨12, _⟩ => simp at h
    | ⟨13, _⟩ => simp at h
    | ⟨14, _⟩ => simp at h
    | ⟨15, _⟩ => simp at h
    | ⟨16, _⟩ => simp at h
    | ⟨17, _⟩ => simp at h
    | ⟨18, _⟩ => simp at h
    | ⟨19, _⟩ => simp at h
  exact this ⟨i, hi⟩ rfl
/-- bytes never lie in the net's own block -/
theorem rrd_far {w w' : World} {g B m : Nat} {S : Ns} {v : Bool → Value} {l : Bool → List LP} {A : Option Addr} {b : List UInt8} (hn : NetR w g S v l) (h : RdB w B A m b) (hB : B ≤ w.heap.size) (hk : ∀ k, k < w.heap.size → k ≠ g → w'.heap[k]? = w.heap[k]?) : RdB w' B A m b := by
  refine ⟨h.1, fun hm => ?_⟩
  obtain ⟨ad, e, hb, hc⟩ := h.2 hm
  refine ⟨ad, e, hb, fun j u hu => ?_⟩
  have h1 := hc j u hu
  by_cases hg : ad.block = g
  · exfalso
    rw [List.getElem?_map] at hu
    obtain ⟨x, hx, rfl⟩ := Option.map_eq_some_iff.1 hu
    have hbk : (ad.add j).block = g := by rw [block_of_add]; exact hg
    unfold World.cell? at h1
    rw [hbk] at h1
    have hh : w.heap[g]? = some (.cells (layR S v) 92 (0, 0)) := hn.blk
    rw [hh] at h1
    dsimp only at h1
    split at h1
    · cases h1
    · exact layR_no8 S v (fun s => by obtain ⟨A, c, e, _⟩ := own_form (hn.row s); exact ⟨A, _, c, e⟩) _ _ h1
  · exact (World.cell?_of_block (hk _ (by rw [block_of_add]; omega) (by rw [block_of_add]; exact hg))).trans h1
/-- behind the packet's making -/
structure RPutMid (w : World) (g : Nat) (S : Ns) (v : Bool → Value) (l : Bool → List LP) (b : List UInt8) (gp : Nat) (A1 : Option Addr) (c1 : Nat) (wz : World) : Prop where
  net : NetR wz g S.inc v l
  r : Blk wz w.heap.size 36 #[.int .i64 0, .slice none 0 0]
  p : Blk wz gp 36 #[.int .i64 (S.number + 1), .slice A1 b.length c1]
  own : OwnB 5 wz (w.heap.size + 1) (.slice A1 b.length c1) b
  gp : w.heap.size < gp
  chg : Chg (· = g) w wz
section
variable {w w1 w2 wz w5 w6 : World} {g : Nat} {S : Ns} {v : Bool → Value} {l : Bool → List LP} {b : List UInt8} {gp : Nat} {A1 : Option Addr} {c1 : Nat} {s : Bool} {v1 : Value} {o : Obj}
theorem RPutMid.viaA (hN : NetR w1 g S.inc v l) (hr : Blk w1 w.heap.size 36 #[.int .i64 0, .slice none 0 0]) (hc : Chg (· = g) w w1) (hs : w1.heap.size = w.heap.size + 1) (hb : Below w1.heap.size w1 w2) (ho : OwnB 5 w2 w1.heap.size (.slice A1 b.length c1) b) :
    RPutMid w g S v l b w2.heap.size A1 c1 (w2.alloc (.cells #[.int .i64 (S.number + 1), .slice A1 b.length c1] 36)) :=
  have hb3 := hb.alloc hb.size (.cells #[.int .i64 (S.number + 1), .slice A1 b.length c1] 36)
  ⟨hN.below hb3, hr.below hb3 hr.lt, Blk.new w2 36 _, (own_base ho (by omega)).alloc _, by have := hb.size; omega, hc.trans (Chg.of_below hb3 (fun _ => False)) (fun _ _ h => h.elim)⟩
theorem layR_put (S : Ns) (v : Bool → Value) (s : Bool) (x : Value) (b : List UInt8) : (layR S.inc v).setIfInBounds (rwayO s) x = layR (S.put s b) (upd v s x) := by cases s <;> simp [layR, rwayO, upd, Ns.inc, Ns.put]
/-- behind the append -/
structure RPutNet (w : World) (g : Nat) (S : Ns) (v : Bool → Value) (l : Bool → List LP) (s : Bool) (b : List UInt8) (gp : Nat) (A1 : Option Addr) (c1 : Nat) (v1 : Value) (w6 : World) : Prop where
  net : NetR w6 g (S.put s b) (upd v s v1) (upd l s (l s ++ [⟨⟨S.number + 1, b⟩, A1, c1⟩]))
  sub : ∀ k, NetF g (upd v s v1) (upd l s (l s ++ [⟨⟨S.number + 1, b⟩, A1, c1⟩])) k → NetF g v l k ∨ w.heap.size < k
  r : Blk w6 w.heap.size 36 #[.int .i64 0, .slice none 0 0]
  p : Blk w6 gp 36 #[.int .i64 (S.number + 1), .slice A1 b.length c1]
  own : OwnB 5 w6 0 (.slice A1 b.length c1) b
  chg : Chg (NetF g v l) w w6
theorem RPutMid.row (h : RPutMid w g S v l b gp A1 c1 wz) : RowP (wz.alloc o) (v s) (l s) := World.ownsRow.alloc (h.net.row s) o
theorem RPutMid.g5 (h : RPutMid w g S v l b gp A1 c1 wz) (hg : ((wz.alloc o).drew).grownBy w5 (v s).ownBlock) : Blk w5 g 92 (layR S.inc v) :=
  Blk.grown (h.net.blk.alloc o).drew hg (fun e => own_blk_ne (h.net.row s) h.net.blk (by decide) e.symm)
theorem RPutMid.next (h : RPutMid w g S v l b gp A1 c1 wz) (hw : NetR w g S v l) (hr : RowP w5 v1 (l s ++ [⟨⟨S.number + 1, b⟩, A1, c1⟩])) (hg : ((wz.alloc o).drew).grownBy w5 (v s).ownBlock) (hv : v1.ownBlock = (v s).ownBlock ∨ v1.ownBlock = some (wz.heap.size + 1)) :
    RPutNet w g S v l s b gp A1 c1 v1 (w5.setCell ⟨g, rwayO s, none⟩ v1) := by
  have hsz : w.heap.size < wz.heap.size := by have := h.r.lt; omega
  have hgz := h.net.blk.lt
  have hgw := hw.blk.lt
  have hvg : (v s).ownBlock ≠ some g := own_blk_ne (h.net.row s) h.net.blk (by decide)
  have hvl : ∀ k, (v s).ownBlock = some k → k < w.heap.size := fun k e => (World.ownsRow.lt (hw.row s) k e).2
  have old : ∀ k, k < wz.heap.size → (v s).ownBlock ≠ some k → k ≠ g → (w5.setCell ⟨g, rwayO s, none⟩ v1).heap[k]? = wz.heap[k]? := fun k hk h1 h2 =>
    (Below.heap_setCell _ _ _ _ h2).trans ((hg.block k (by simp; omega) (fun e => h1 e.symm)).trans (Below.heap_alloc wz o k hk))
  have hb5 : Blk w5 g 92 (layR S.inc v) := Blk.grown (h.net.blk.alloc o).drew hg (fun e => hvg e.symm)
  have hA1 : ∀ k, (Value.slice A1 b.length c1).ownBlock = some k → w.heap.size < k ∧ k < wz.heap.size := fun k e => ⟨by have := (h.own.lt k e).1; omega, (h.own.lt k e).2⟩
  have hown : OwnB 5 (w5.setCell ⟨g, rwayO s, none⟩ v1) 0 (.slice A1 b.length c1) b := own_base (own_same h.own fun k e => old k (hA1 k e).2 (fun e2 => by have := hvl k e2; have := (hA1 k e).1; omega) (fun e2 => by have := (hA1 k e).1; omega)) (Nat.zero_le _)
  have hv' : v1.ownBlock = none ∨ v1.ownBlock = (v s).ownBlock ∨ ∃ k, v1.ownBlock = some k ∧ w.heap.size ≤ k := by
    rcases hv with e | e
    · exact .inr (.inl e)
    · exact .inr (.inr ⟨_, e, by omega⟩)
  have hv'' : v1.ownBlock = none ∨ v1.ownBlock = (v s).ownBlock ∨ ∃ k, v1.ownBlock = some k ∧ w.heap.size + 1 ≤ k := by
    rcases hv with e | e
    · exact .inr (.inl e)
    · exact .inr (.inr ⟨_, e, by omega⟩)
  have hn : ∀ n, n ≤ w.heap.size + 1 → ∀ p ∈ l s ++ [(⟨⟨S.number + 1, b⟩, A1, c1⟩ : LP)], p.blk = none ∨ (∃ q ∈ l s, p.blk = q.blk) ∨ ∃ k, p.blk = some k ∧ n ≤ k := by
    intro n hn p hp
    rcases List.mem_append.1 hp with hp | hp
    · exact .inr (.inl ⟨p, hp, rfl⟩)
    · rw [List.mem_singleton] at hp
      subst hp
      cases e : (⟨⟨S.number + 1, b⟩, A1, c1⟩ : LP).blk with
      | none => exact .inl rfl
      | some k => exact .inr (.inr ⟨k, rfl, by have := (hA1 k e).1; omega⟩)
  refine ⟨hw.upd s (w' := w5.setCell ⟨g, rwayO s, none⟩ v1) (S' := S.put s b) ?_ ?_ ?_ ?_ ?_ hv' (hn _ (by omega)) ?_, fun k hk => ?_, ?_, ?_, hown, ?_⟩
  · rw [← layR_put S v s v1 b]; exact hb5.set_ _ _
  · exact World.ownsRow.kept hr (only_setCell (p := ⟨g, rwayO s, none⟩) (World.grownBy.refl w5 (some g)) (.inl rfl) v1) (.inr (fun e => by
      rcases hv with e2 | e2
      · exact hvg (by rw [← e2]; exact e)
      · rw [e2] at e; injection e with e; omega))
  · intro p hp
    rcases List.mem_append.1 hp with hp | hp
    · have hlt : ∀ k, p.blk = some k → k < w.heap.size := fun k e => (World.ownsRow.lt (hw.pks s p hp) k e).2
      exact own_same (h.net.pks s p hp) fun k e => old k (by have := hlt k e; omega) (fun e2 => own_apart (hw.pks s p hp) (hw.row s) (by decide) k e e2) (fun e2 => by subst e2; exact own_blk_ne (hw.pks s p hp) hw.blk (by decide) e)
    · rw [List.mem_singleton] at hp
      subst hp
      exact hown
  · simp [Ns.put, hw.is]
  · rw [List.pairwise_append]
    refine ⟨hw.apart s, List.pairwise_singleton _ _, fun p hp q hq => ?_⟩
    rw [List.mem_singleton] at hq
    subst hq
    cases e : p.blk with
    | none => exact .inl e
    | some k => exact .inr (fun e2 => by
        have := (World.ownsRow.lt (hw.pks s p hp) k e).2
        have := (hA1 k (by rw [← e, e2]; rfl)).1
        omega)
  · intro k hk
    obtain ⟨h1, h2⟩ := hw.other (by decide) (by decide) s hk
    have hlt : k < w.heap.size := by
      rcases hk with hk | ⟨p, hp, hk⟩
      · exact (World.ownsRow.lt (hw.row _) k hk).2
      · exact (World.ownsRow.lt (hw.pks _ p hp) k hk).2
    exact (old k (by omega) h2 h1).trans (h.chg.block k hlt h1)
  · rcases NetF.upd hv'' (hn _ (Nat.le_refl _)) hk with h1 | h1
    · exact .inl h1
    · exact .inr h1
  · exact (old _ h.r.lt (fun e => by have := hvl _ e; omega) (by omega)).trans h.r
  · exact (old _ h.p.lt (fun e => by have := hvl _ e; have := h.gp; omega) (by have := h.gp; omega)).trans h.p
  · refine ⟨?_, ?_, ?_, ?_, fun k hk hn' => ?_⟩
    · exact hg.os.trans h.chg.os
    · exact hg.tape.trans h.chg.tape
    · exact hg.output.trans h.chg.output
    · have := hg.size; simp [World.setCell] at this ⊢; omega
    · have h1 : k ≠ g := fun e => hn' (.inl e)
      exact (old k (by omega) (fun e => hn' (.inr (.inl ⟨s, e⟩))) h1).trans (h.chg.block k hk h1)
end
/-- what put leaves -/
def RPutP (w : World) (g : Nat) (S : Ns) (v : Bool → Value) (l : Bool → List LP) (s : Bool) (b : List UInt8) (e : Ending) (w' : World) : Prop :=
  ∃ v1 p1 A2 c2, e = .returned (.agg #[.int .i64 (S.number + 1), .slice A2 b.length c2]) ∧ p1.pk = ⟨S.number + 1, b⟩ ∧ NetR w' g (S.put s b) (upd v s v1) (upd l s (l s ++ [p1])) ∧
    (∀ k, NetF g (upd v s v1) (upd l s (l s ++ [p1])) k → NetF g v l k ∨ w.heap.size ≤ k) ∧ Chg (NetF g v l) w w' ∧ OwnB 5 w' w.heap.size (.slice A2 b.length c2) b ∧
    ∀ k, (Value.slice A2 b.length c2).ownBlock = some k → ¬ NetF g (upd v s v1) (upd l s (l s ++ [p1])) k
theorem rput_end {w w6 w7 : World} {g : Nat} {S : Ns} {v : Bool → Value} {l : Bool → List LP} {b : List UInt8} {gp : Nat} {A1 A2 : Option Addr} {c1 c2 : Nat} {s : Bool} {v1 : Value} (h : RPutNet w g S v l s b gp A1 c1 v1 w6) (hw : NetR w g S v l) (hb : Below w6.heap.size w6 w7) (ho : OwnB 5 w7 w6.heap.size (.slice A2 b.length c2) b) :
    Blk ((w7.setCell ⟨w.heap.size, 0, none⟩ (.int .i64 (S.number + 1))).setCell ⟨w.heap.size, 1, none⟩ (.slice A2 b.length c2)) w.heap.size 36 #[.int .i64 (S.number + 1), .slice A2 b.length c2] ∧
    RPutP w g S v l s b (.returned (.agg #[.int .i64 (S.number + 1), .slice A2 b.length c2])) ((w7.setCell ⟨w.heap.size, 0, none⟩ (.int .i64 (S.number + 1))).setCell ⟨w.heap.size, 1, none⟩ (.slice A2 b.length c2)) := by
  have hr7 : Blk w7 w.heap.size 36 #[.int .i64 0, .slice none 0 0] := h.r.below hb h.r.lt
  have hF : ¬ NetF g (upd v s v1) (upd l s (l s ++ [⟨⟨S.number + 1, b⟩, A1, c1⟩])) w.heap.size := fun hf => by
    rcases h.sub _ hf with h1 | h1
    · have := hw.lt h1; omega
    · omega
  have hc : Chg (· = w.heap.size) w7 ((w7.setCell ⟨w.heap.size, 0, none⟩ (.int .i64 (S.number + 1))).setCell ⟨w.heap.size, 1, none⟩ (.slice A2 b.length c2)) :=
    ((Chg.refl (· = w.heap.size) w7).setCell (p := ⟨w.heap.size, 0, none⟩) (fun _ => rfl) _).setCell (p := ⟨w.heap.size, 1, none⟩) (fun _ => rfl) _
  refine ⟨(hr7.set_ 0 _).set_ 1 _, v1, _, A2, c2, rfl, rfl, (h.net.below hb).chg hc (fun k hk e => hF (by rw [← e]; exact hk)), fun k hk => ?_, ?_, ?_, fun k hk hf => ?_⟩
  · rcases h.sub k hk with h1 | h1
    · exact .inl h1
    · exact .inr (by omega)
  · exact (h.chg.trans (Chg.of_below hb (fun _ => False)) (fun _ _ h => h.elim)).trans hc (fun i hi e => by omega)
  · have hs6 : w.heap.size < w6.heap.size := h.r.lt
    exact own_base (own_chg ho hc (fun k hk e => by have := (ho.lt k hk).1; omega)) (by omega)
  · have h1 := (ho.lt k hk).1
    have h2 := h.net.lt hf
    omega
set_option maxRecDepth 20000 in
set_option maxHeartbeats 2000000 in
theorem rput_any (g : Nat) (S : Ns) (v : Bool → Value) (l : Bool → List LP) (K : Int) (s : Bool) (A : Option Addr) (m c B : Nat) (b : List UInt8) (w : World) (h : NetR w g S v l) (hk : S.ok K) (hK : K ≤ 4611686018427387904) (hr : RdB w B A m b) (hB : B ≤ w.heap.size) (hb : b.length ≤ 140737488355328) :
    Calls Try.prog 38 #[.pointer (some ⟨g, 0, none⟩), .int .i64 (idxN s), .slice A m c] w (RPutP w g S v l s b) := by
  obtain ⟨i0, hi, hz0, hz1, hz2⟩ := info_parts info36
  have hll : ((l s).length : Int) ≤ 64 := by rw [h.len s]; have := hk.len s; have := hk.hi; omega
  have c3 : w.cell? ⟨g, 3, none⟩ = some (.int .i64 S.number) := h.blk.cell 3
  have f3 := h.blk.frozen 3
  have hg : g < w.heap.size := h.blk.lt
  have e0 : 0 ≤ S.number := hk.nu.1
  have e1 : S.number ≤ 4611686018427387904 := by have := hk.nu.2; omega
  have H := Lib.hid h
  have HR := Lib.hid hr
  have HB := Lib.hid hb
  clear h hr hk
  cases s with
  | false =>
    simp only [idxN] at *
    go_enter Try.func38, Try.ntmps38
    go_upto_region 2 with fail
    have HN1 : Hid (NetR ((w.setCell ⟨g, 3, none⟩ (.int .i64 (S.number + 1))).alloc (.cells #[.int .i64 0, .slice none 0 0] 36)) g S.inc v l) := Lib.hid (H.out.head ((H.out.blk.set_ 3 _).alloc _) rfl (fun k hk hn => (Below.heap_alloc _ _ k (by simpa [World.setCell] using hk)).trans (Below.heap_setCell _ _ _ _ hn)) (by decide) (by decide))
    have HC1 : Hid (Chg (· = g) w ((w.setCell ⟨g, 3, none⟩ (.int .i64 (S.number + 1))).alloc (.cells #[.int .i64 0, .slice none 0 0] 36))) := Lib.hid (((Chg.refl (· = g) w).setCell (p := ⟨g, 3, none⟩) (fun _ => rfl) _).alloc _)
    have HB1 : Hid (Blk ((w.setCell ⟨g, 3, none⟩ (.int .i64 (S.number + 1))).alloc (.cells #[.int .i64 0, .slice none 0 0] 36)) w.heap.size 36 #[.int .i64 0, .slice none 0 0]) := Lib.hid (Blk.new' _ 36 _ _ (by simp [World.setCell]))
    have HR1 : Hid (RdB ((w.setCell ⟨g, 3, none⟩ (.int .i64 (S.number + 1))).alloc (.cells #[.int .i64 0, .slice none 0 0] 36)) B A m b) := Lib.hid (rrd_far H.out HR.out hB (fun k hk hn => (Below.heap_alloc _ _ k (by simpa [World.setCell] using hk)).trans (Below.heap_setCell _ _ _ _ hn)))
    have hs1 : ((w.setCell ⟨g, 3, none⟩ (.int .i64 (S.number + 1))).alloc (.cells #[.int .i64 0, .slice none 0 0] 36)).heap.size = w.heap.size + 1 := by simp [World.setCell]
    generalize (w.setCell ⟨g, 3, none⟩ (.int .i64 (S.number + 1))).alloc (.cells #[.int .i64 0, .slice none 0 0] 36) = w1 at HN1 HC1 HB1 HR1 hs1 ⊢
    have HS1 := Lib.hid hs1
    have hB1 : B ≤ w1.heap.size := by omega
    have k3 : w1.cell? ⟨g, 3, none⟩ = some (.int .i64 (S.number + 1)) := HN1.out.blk.cell 3
    have HT1 := Lib.hid (twin_any (S.number + 1) A m c B b w1 HR1.out hB1 hb)
    clear c3 f3 hs1
    go_wp2_with fail
    refine HT1.out.mono ?_
    rintro e w2 ⟨A1, c1, rfl, hown2, hbel2⟩
    have HM := Lib.hid (RPutMid.viaA HN1.out HB1.out HC1.out HS1.out hbel2 hown2)
    clear hown2 hbel2 k3 HT1 HN1 HC1 HB1 HR1 HS1 hB1
    go_upto_region 3 with fail
    generalize w2.alloc (.cells #[.int .i64 (S.number + 1), .slice A1 b.length c1] 36) = wz at HM ⊢
    generalize w2.heap.size = gp at HM ⊢
    have hm := HM.out
    have hgp : gp < wz.heap.size := hm.p.lt
    have hgz : g < wz.heap.size := hm.net.blk.lt
    have p0 : wz.cell? ⟨gp, 0, none⟩ = some (.int .i64 (S.number + 1)) := hm.p.cell 0
    have p1 : wz.cell? ⟨gp, 1, none⟩ = some (.slice A1 b.length c1) := hm.p.cell 1
    have u0 : wz.cell? ⟨g, 4, none⟩ = some (v false) := (hm.net.blk.cell _).trans (layR_under S.inc v false)
    obtain ⟨Av, cv, hv, -, -⟩ := own_form (hm.net.row false)
    rw [hv] at u0
    have HV := Lib.hid hv
    clear hm hv
    go_wp2_with fail
    go_region_law (first
      | (refine step_append_any _ rfl (.tmp 29) (.tmp 31) 39 rfl 0 36 i0 _ 2 32 Try.underlying39 hi hz0 hz1 hz2 rfl (by decide) (v false) (l false).length (lpCells (l false)) (by simp [Act.eval, HV.out]) (HM.out.row) (wz.heap.size + 1) (some ⟨wz.heap.size, 0, none⟩) 1 1 _ (by simp [Act.eval]) (read_one2 _ _ _) (two_one _ _ _ _) (by simp only [maxLen]; omega) (by omega) (by simp) ?_; intro v1 w5 hown5 hgrow5 hv5; have HNX := Lib.hid (HM.out.next (v1 := v1) (w5 := w5) H.out (row_snoc (p := ⟨⟨S.number + 1, b⟩, A1, c1⟩) hown5) hgrow5 (by simpa using hv5)); have hg5 := HM.out.g5 hgrow5; have u5 := (hg5.cell 4).trans (layR_under _ _ false); have f5 := hg5.frozen 4; obtain ⟨A5, c5, rfl, _, _⟩ := own_form hown5; clear hown5 hgrow5 hv5 hg5))
    all_goals
      have HNX2 : Hid (RPutNet w g S v l false b gp A1 c1 (.slice A5 ((l false).length + 1) c5) (w5.setCell ⟨g, 4, none⟩ (.slice A5 ((l false).length + 1) c5))) := HNX
      clear HNX
      generalize w5.setCell ⟨g, 4, none⟩ (.slice A5 ((l false).length + 1) c5) = w6 at HNX2 ⊢
      clear u5 f5 u0 p0 p1 HM HV
      have p0 := HNX2.out.p.cell 0
      have p1 := HNX2.out.p.cell 1
      have HT := Lib.hid (twin_any (S.number + 1) A1 b.length c1 w6.heap.size b w6 (OwnB.reads HNX2.out.own rfl) (Nat.le_refl _) hb)
      go_wp2_with fail
      refine HT.out.mono ?_
      rintro e w7 ⟨A2, c2, rfl, ho7, hb7⟩
      have HEND := Lib.hid (rput_end HNX2.out H.out hb7 ho7)
      have hr7 : Blk w7 w.heap.size 36 #[.int .i64 0, .slice none 0 0] := HNX2.out.r.below hb7 HNX2.out.r.lt
      have r0 := hr7.cell 0
      have r1 := hr7.cell 1
      have s0 := hr7.frozen 0
      have s1 := hr7.frozen 1
      clear ho7 hb7 p0 p1 hr7 HT
      go_wp2
      have q0 := HEND.out.1.cell 0
      have q1 := HEND.out.1.cell 1
      exact bodyPost_ret (v := .agg #[.int .i64 (S.number + 1), .slice A2 b.length c2]) (by simp [results, Try.results38, go_sem, q0, q1]) rfl HEND.out.2
  | true =>
    simp only [idxN] at *
    go_enter Try.func38, Try.ntmps38
    go_upto_region 2 with fail
    have HN1 : Hid (NetR ((w.setCell ⟨g, 3, none⟩ (.int .i64 (S.number + 1))).alloc (.cells #[.int .i64 0, .slice none 0 0] 36)) g S.inc v l) := Lib.hid (H.out.head ((H.out.blk.set_ 3 _).alloc _) rfl (fun k hk hn => (Below.heap_alloc _ _ k (by simpa [World.setCell] using hk)).trans (Below.heap_setCell _ _ _ _ hn)) (by decide) (by decide))
    have HC1 : Hid (Chg (· = g) w ((w.setCell ⟨g, 3, none⟩ (.int .i64 (S.number + 1))).alloc (.cells #[.int .i64 0, .slice none 0 0] 36))) := Lib.hid (((Chg.refl (· = g) w).setCell (p := ⟨g, 3, none⟩) (fun _ => rfl) _).alloc _)
    have HB1 : Hid (Blk ((w.setCell ⟨g, 3, none⟩ (.int .i64 (S.number + 1))).alloc (.cells #[.int .i64 0, .slice none 0 0] 36)) w.heap.size 36 #[.int .i64 0, .slice none 0 0]) := Lib.hid (Blk.new' _ 36 _ _ (by simp [World.setCell]))
    have HR1 : Hid (RdB ((w.setCell ⟨g, 3, none⟩ (.int .i64 (S.number + 1))).alloc (.cells #[.int .i64 0, .slice none 0 0] 36)) B A m b) := Lib.hid (rrd_far H.out HR.out hB (fun k hk hn => (Below.heap_alloc _ _ k (by simpa [World.setCell] using hk)).trans (Below.heap_setCell _ _ _ _ hn)))
    have hs1 : ((w.setCell ⟨g, 3, none⟩ (.int .i64 (S.number + 1))).alloc (.cells #[.int .i64 0, .slice none 0 0] 36)).heap.size = w.heap.size + 1 := by simp [World.setCell]
    generalize (w.setCell ⟨g, 3, none⟩ (.int .i64 (S.number + 1))).alloc (.cells #[.int .i64 0, .slice none 0 0] 36) = w1 at HN1 HC1 HB1 HR1 hs1 ⊢
    have HS1 := Lib.hid hs1
    have hB1 : B ≤ w1.heap.size := by omega
    have k3 : w1.cell? ⟨g, 3, none⟩ = some (.int .i64 (S.number + 1)) := HN1.out.blk.cell 3
    have HT1 := Lib.hid (twin_any (S.number + 1) A m c B b w1 HR1.out hB1 hb)
    clear c3 f3 hs1
    go_wp2_with fail
    refine HT1.out.mono ?_
    rintro e w2 ⟨A1, c1, rfl, hown2, hbel2⟩
    have HM := Lib.hid (RPutMid.viaA HN1.out HB1.out HC1.out HS1.out hbel2 hown2)
    clear hown2 hbel2 k3 HT1 HN1 HC1 HB1 HR1 HS1 hB1
    go_upto_region 3 with fail
    generalize w2.alloc (.cells #[.int .i64 (S.number + 1), .slice A1 b.length c1] 36) = wz at HM ⊢
    generalize w2.heap.size = gp at HM ⊢
    have hm := HM.out
    have hgp : gp < wz.heap.size := hm.p.lt
    have hgz : g < wz.heap.size := hm.net.blk.lt
    have p0 : wz.cell? ⟨gp, 0, none⟩ = some (.int .i64 (S.number + 1)) := hm.p.cell 0
    have p1 : wz.cell? ⟨gp, 1, none⟩ = some (.slice A1 b.length c1) := hm.p.cell 1
    have u0 : wz.cell? ⟨g, 5, none⟩ = some (v true) := (hm.net.blk.cell _).trans (layR_under S.inc v true)
    obtain ⟨Av, cv, hv, -, -⟩ := own_form (hm.net.row true)
    rw [hv] at u0
    have HV := Lib.hid hv
    clear hm hv
    go_wp2_with fail
    go_region_law (first
      | (refine step_append_any _ rfl (.tmp 29) (.tmp 31) 39 rfl 0 36 i0 _ 2 32 Try.underlying39 hi hz0 hz1 hz2 rfl (by decide) (v true) (l true).length (lpCells (l true)) (by simp [Act.eval, HV.out]) (HM.out.row) (wz.heap.size + 1) (some ⟨wz.heap.size, 0, none⟩) 1 1 _ (by simp [Act.eval]) (read_one2 _ _ _) (two_one _ _ _ _) (by simp only [maxLen]; omega) (by omega) (by simp) ?_; intro v1 w5 hown5 hgrow5 hv5; have HNX := Lib.hid (HM.out.next (v1 := v1) (w5 := w5) H.out (row_snoc (p := ⟨⟨S.number + 1, b⟩, A1, c1⟩) hown5) hgrow5 (by simpa using hv5)); have hg5 := HM.out.g5 hgrow5; have u5 := (hg5.cell 5).trans (layR_under _ _ true); have f5 := hg5.frozen 5; obtain ⟨A5, c5, rfl, _, _⟩ := own_form hown5; clear hown5 hgrow5 hv5 hg5))
    all_goals
      have HNX2 : Hid (RPutNet w g S v l true b gp A1 c1 (.slice A5 ((l true).length + 1) c5) (w5.setCell ⟨g, 5, none⟩ (.slice A5 ((l true).length + 1) c5))) := HNX
      clear HNX
      generalize w5.setCell ⟨g, 5, none⟩ (.slice A5 ((l true).length + 1) c5) = w6 at HNX2 ⊢
      clear u5 f5 u0 p0 p1 HM HV
      have p0 := HNX2.out.p.cell 0
      have p1 := HNX2.out.p.cell 1
      have HT := Lib.hid (twin_any (S.number + 1) A1 b.length c1 w6.heap.size b w6 (OwnB.reads HNX2.out.own rfl) (Nat.le_refl _) hb)
      go_wp2_with fail
      refine HT.out.mono ?_
      rintro e w7 ⟨A2, c2, rfl, ho7, hb7⟩
      have HEND := Lib.hid (rput_end HNX2.out H.out hb7 ho7)
      have hr7 : Blk w7 w.heap.size 36 #[.int .i64 0, .slice none 0 0] := HNX2.out.r.below hb7 HNX2.out.r.lt
      have r0 := hr7.cell 0
      have r1 := hr7.cell 1
      have s0 := hr7.frozen 0
      have s1 := hr7.frozen 1
      clear ho7 hb7 p0 p1 hr7 HT
      go_wp2
      have q0 := HEND.out.1.cell 0
      have q1 := HEND.out.1.cell 1
      exact bodyPost_ret (v := .agg #[.int .i64 (S.number + 1), .slice A2 b.length c2]) (by simp [results, Try.results38, go_sem, q0, q1]) rfl HEND.out.2
end Go.Proofs.Ytbkgphmocjjmmaa
