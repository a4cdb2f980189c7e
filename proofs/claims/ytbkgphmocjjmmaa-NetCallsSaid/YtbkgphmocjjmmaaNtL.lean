/-
  The walks of what no net answers: Under, Counts, Cut, Flip, Act; and SamePacket.
-/
import Derived.Test.YtbkgphmocjjmmaaNtK
import Derived.BigQuiet
namespace Go.Proofs.Ytbkgphmocjjmmaa
open Go.RowKit

theorem under_no (p : Option Addr) (z : Int) (w : World) (h : sideB z = false ∨ NoNet w p) : Calls Try.prog 15 #[.pointer p, .int .i64 z] w fun e w' => e = .returned (.slice none 0 0) ∧ w = w' := by
  have HS := Lib.hid (side_any z w)
  by_cases hz : sideB z = false
  · have HZ := Lib.hid hz
    clear h hz
    go_enter Try.func15, Try.ntmps15
    go_wp2_with (go_at_call 32; refine HS.out.mono ?_; rw [HZ.out]; rintro e w' ⟨rfl, rfl⟩)
    go_ret
    exact ⟨rfl, rfl⟩
  · have HZ : Hid (sideB z = true) := Lib.hid (by simpa using hz)
    have H := Lib.hid (made_no p w (h.resolve_left hz))
    clear h hz
    go_enter Try.func15, Try.ntmps15
    go_wp2_with (first | (go_at_call 32; refine HS.out.mono ?_; rw [HZ.out]; rintro e w' ⟨rfl, rfl⟩) | (go_at_call 31; refine H.out.mono ?_; rintro e w' ⟨rfl, rfl⟩))
    go_ret
    exact ⟨rfl, rfl⟩
def cnt0 : Value := .agg #[.int .i64 0, .int .i64 0, .int .i64 0, .int .i64 0, .int .i64 0, .int .i64 0, .int .i64 0]
def CntNo (w : World) (e : Ending) (w' : World) : Prop := e = .returned cnt0 ∧ Below w.heap.size w w'
set_option maxRecDepth 20000 in
theorem counts_no (p : Option Addr) (z : Int) (w : World) (h : sideB z = false ∨ NoNet w p) : Calls Try.prog 27 #[.pointer p, .int .i64 z] w (CntNo w) := by
  have HS := Lib.hid (side_any z)
  by_cases hz : sideB z = false
  · have HZ := Lib.hid hz
    clear h hz
    go_enter Try.func27, Try.ntmps27
    go_wp2_with (go_at_call 32; refine (HS.out _).mono ?_; rw [HZ.out]; rintro e w' ⟨rfl, rfl⟩)
    refine bodyPost_ret (v := cnt0) (by simp [results, Try.results27, go_sem, cnt0]) rfl ⟨rfl, ?_⟩
    exact (Below.refl _ _).alloc (Nat.le_refl _) _
  · have HZ : Hid (sideB z = true) := Lib.hid (by simpa using hz)
    have H := Lib.hid (fun o => made_no p (w.alloc o) (by
      rcases h.resolve_left hz with rfl | ⟨g, rfl, hc⟩
      · exact .inl rfl
      · exact .inr ⟨g, rfl, (World.cell?_alloc_lt w o ⟨g, 0, none⟩ (World.block_lt_of_cell? w ⟨g, 0, none⟩ hc)).trans hc⟩))
    clear h hz
    go_enter Try.func27, Try.ntmps27
    go_wp2_with (first | (go_at_call 32; refine (HS.out _).mono ?_; rw [HZ.out]; rintro e w' ⟨rfl, rfl⟩) | (go_at_call 31; refine (H.out _).mono ?_; rintro e w' ⟨rfl, rfl⟩))
    refine bodyPost_ret (v := cnt0) (by simp [results, Try.results27, go_sem, cnt0]) rfl ⟨rfl, ?_⟩
    exact (Below.refl _ _).alloc (Nat.le_refl _) _
theorem cut_no (p : Option Addr) (w : World) (h : Calls Try.prog 25 #[.pointer p] w fun e w' => e = .returned (.bool false) ∧ w = w') : Calls Try.prog 29 #[.pointer p] w fun e w' => e = .returned (.tuple #[.int .i64 0, .int .i64 181]) ∧ w = w' := by
  have H := Lib.hid h
  clear h
  go_enter Try.func29, Try.ntmps29
  go_wp2_with (go_at_call 25; refine H.out.mono ?_; rintro e w' ⟨rfl, rfl⟩)
  go_ret2
  exact ⟨rfl, rfl⟩
set_option maxRecDepth 20000 in
set_option maxHeartbeats 2000000 in
theorem flip_err (p : Option Addr) (z i j m : Int) (er : Int) (w : World) (he : (er != 0) = true) (h : ∀ W : World, Below w.heap.size w W → Calls Try.prog 37 #[.pointer p, .int .i64 z, .slice (some ⟨w.heap.size + 1, 0, none⟩) 1 1] W fun e w' => e = .returned (.tuple #[.pointer none, .int .i64 er]) ∧ W = w') :
    Calls Try.prog 17 #[.pointer p, .int .i64 z, .int .i64 i, .int .i64 j, .int .u8 m] w (NoP w er) := by
  have H := Lib.hid h
  clear h
  go_enter Try.func17, Try.ntmps17
  go_wp2_with fail
  refine (H.out _ (((Below.refl _ _).alloc (Nat.le_refl _) _).alloc (by simp) _)).mono ?_
  rintro e w' ⟨rfl, rfl⟩
  go_wp2
  exact bodyPost_ret (v := .tuple #[.agg #[.int .i64 0, .slice none 0 0], .int .i64 er]) (by simp [results, Try.results17, go_sem]) rfl ⟨rfl, ((Below.refl _ _).alloc (Nat.le_refl _) _).alloc (by simp) _⟩
theorem NoNet.below {w W : World} {p : Option Addr} (h : NoNet w p) (hb : Below w.heap.size w W) : NoNet W p := by
  rcases h with rfl | ⟨g, rfl, hc⟩
  · exact .inl rfl
  · exact .inr ⟨g, rfl, (hb.cell (p := ⟨g, 0, none⟩) (World.block_lt_of_cell? w ⟨g, 0, none⟩ hc)).trans hc⟩
def erN (z : Int) : Int := if sideB z then 181 else 182
theorem way_no (p : Option Addr) (z : Int) (w : World) (h : NoNet w p) : Calls Try.prog 33 #[.pointer p, .int .i64 z] w fun e w' => e = .returned (.tuple #[.pointer none, .int .i64 (erN z)]) ∧ w = w' := by
  unfold erN
  cases hz : sideB z with
  | false => exact way_noside p z w hz
  | true => exact way_down p z w hz (up_no p w h)
theorem at_no (p : Option Addr) (z : Int) (A : Option Addr) (n c : Nat) (w : World) (h : NoNet w p) : Calls Try.prog 37 #[.pointer p, .int .i64 z, .slice A n c] w fun e w' => e = .returned (.tuple #[.pointer none, .int .i64 (erN z)]) ∧ w = w' :=
  at_err p z A n c (erN z) w (by unfold erN; split <;> rfl) (way_no p z w h)
/-- what an act answers that has no net -/
def wantN (k z : Int) (n : Nat) : Int := if k = 1 then 1 else if k < 1 ∨ 8 < k then 184 else if 2 < k ∧ (z < 1 ∨ 2 < z) then 182 else if k = 3 ∧ 8192 < n then 2 else 181
def toldV (er num : Int) (v : Value) : Value := .agg #[.int .i64 er, .int .i64 num, v]
def ActNo (w : World) (k z : Int) (n : Nat) (e : Ending) (w' : World) : Prop := e = .returned (toldV (wantN k z n) 0 (.slice none 0 0)) ∧ Below w.heap.size w w'
/-- what a call of an act may do to the act's own three blocks: nothing -/
def PkP (s : Nat) (Q : Int → Option Addr → Nat → Nat → Int → World → Prop) (W : World) (e : Ending) (W' : World) : Prop := ∃ num A n c er, e = .returned (.tuple #[.agg #[.int .i64 num, .slice A n c], .int .i64 er]) ∧ (∀ k, s ≤ k → k < s + 3 → W'.heap[k]? = W.heap[k]?) ∧ Q num A n c er W'
def ActP (s : Nat) (Q : Int → Option Addr → Nat → Nat → Int → World → Prop) (e : Ending) (W' : World) : Prop := ∃ num A n c er W, e = .returned (toldV er num (.slice A n c)) ∧ Q num A n c er W ∧ Chg (fun k => s ≤ k ∧ k < s + 3) W W'
def actV (k z i j m : Int) (A : Option Addr) (n c : Nat) : Value := .agg #[.int .i64 k, .int .i64 z, .int .i64 i, .int .i64 j, .int .u8 m, .slice A n c]
def ErP (s : Nat) (Q : Int → Option Addr → Nat → Nat → Int → World → Prop) (W : World) (e : Ending) (W' : World) : Prop := ∃ er, e = .returned (.int .i64 er) ∧ (∀ k, s ≤ k → k < s + 3 → W'.heap[k]? = W.heap[k]?) ∧ Q 0 none 0 0 er W'
def Er2P (s : Nat) (Q : Int → Option Addr → Nat → Nat → Int → World → Prop) (W : World) (e : Ending) (W' : World) : Prop := ∃ num er, e = .returned (.tuple #[.int .i64 num, .int .i64 er]) ∧ (∀ k, s ≤ k → k < s + 3 → W'.heap[k]? = W.heap[k]?) ∧ Q 0 none 0 0 er W'
def SeP (s : Nat) (Q : Int → Option Addr → Nat → Nat → Int → World → Prop) (W : World) (e : Ending) (W' : World) : Prop := ∃ num er, e = .returned (.tuple #[.int .i64 num, .int .i64 er]) ∧ (er == 0) = false ∧ (∀ k, s ≤ k → k < s + 3 → W'.heap[k]? = W.heap[k]?) ∧ Q 0 none 0 0 er W'
/-- an act's own blocks -/
def act0 : Array Value := #[.int .i64 0, .int .i64 0, .slice none 0 0]
theorem act_end {w1 W2 : World} {s : Nat} {F : Nat → Prop} (hF : F (s + 1)) (hc : Chg F w1 W2) (h1 : Blk W2 (s + 1) 57 #[.int .i64 0, .int .i64 0, .slice none 0 0]) (er num : Int) (A : Option Addr) (n c : Nat) :
    Blk (((W2.setCell ⟨s + 1, 0, none⟩ (.int .i64 er)).setCell ⟨s + 1, 1, none⟩ (.int .i64 num)).setCell ⟨s + 1, 2, none⟩ (.slice A n c)) (s + 1) 57 #[.int .i64 er, .int .i64 num, .slice A n c] ∧
      Chg F w1 (((W2.setCell ⟨s + 1, 0, none⟩ (.int .i64 er)).setCell ⟨s + 1, 1, none⟩ (.int .i64 num)).setCell ⟨s + 1, 2, none⟩ (.slice A n c)) :=
  ⟨((h1.set_ 0 _).set_ 1 _).set_ 2 _, ((hc.setCell (p := ⟨s + 1, 0, none⟩) (fun _ => hF) _).setCell (p := ⟨s + 1, 1, none⟩) (fun _ => hF) _).setCell (p := ⟨s + 1, 2, none⟩) (fun _ => hF) _⟩
/-- the act's answer with a packet is laid into the act's own block -/
theorem act_set {w1 : World} {s : Nat} (h1 : Blk w1 (s + 1) 57 #[.int .i64 0, .int .i64 0, .slice none 0 0]) (er num : Int) (A : Option Addr) (n c : Nat) :
    Chg (fun k => s ≤ k ∧ k < s + 3) w1 (((w1.setCell ⟨s + 1 + 1, 1, none⟩ (.int .i64 num)).setCell ⟨s + 1 + 1, 2, none⟩ (.slice A n c)).setCell ⟨s + 1 + 1, 0, none⟩ (.int .i64 er)) ∧
      Blk (((w1.setCell ⟨s + 1 + 1, 1, none⟩ (.int .i64 num)).setCell ⟨s + 1 + 1, 2, none⟩ (.slice A n c)).setCell ⟨s + 1 + 1, 0, none⟩ (.int .i64 er)) (s + 1) 57 #[.int .i64 0, .int .i64 0, .slice none 0 0] :=
  have hx : ∀ j, s + 1 + 1 < w1.heap.size → s ≤ s + 1 + 1 ∧ s + 1 + 1 < s + 3 := fun _ _ => by omega
  ⟨(((Chg.refl _ w1).setCell (p := ⟨s + 1 + 1, 1, none⟩) (hx 0) _).setCell (p := ⟨s + 1 + 1, 2, none⟩) (hx 0) _).setCell (p := ⟨s + 1 + 1, 0, none⟩) (hx 0) _,
    ((h1.far (p := ⟨s + 1 + 1, 1, none⟩) (by simp) _).far (p := ⟨s + 1 + 1, 2, none⟩) (by simp) _).far (p := ⟨s + 1 + 1, 0, none⟩) (by simp) _⟩
theorem act_set0 {w1 : World} {s : Nat} (h1 : Blk w1 (s + 1) 57 #[.int .i64 0, .int .i64 0, .slice none 0 0]) (er : Int) :
    Chg (fun k => s ≤ k ∧ k < s + 3) w1 (w1.setCell ⟨s + 1 + 1, 0, none⟩ (.int .i64 er)) ∧ Blk (w1.setCell ⟨s + 1 + 1, 0, none⟩ (.int .i64 er)) (s + 1) 57 #[.int .i64 0, .int .i64 0, .slice none 0 0] :=
  ⟨(Chg.refl _ w1).setCell (p := ⟨s + 1 + 1, 0, none⟩) (fun _ => by show s ≤ s + 1 + 1 ∧ s + 1 + 1 < s + 3; omega) _, h1.far (p := ⟨s + 1 + 1, 0, none⟩) (by simp) _⟩
set_option maxRecDepth 20000 in
set_option maxHeartbeats 2000000 in
theorem act4 (p : Option Addr) (z i j m : Int) (A : Option Addr) (n c : Nat) (w : World) (Q : Int → Option Addr → Nat → Nat → Int → World → Prop)
    (h : ∀ W : World, Below w.heap.size w W → W.heap.size = w.heap.size + 3 → Calls Try.prog 14 #[.pointer p, .int .i64 z, .int .i64 i] W (PkP w.heap.size Q W)) :
    Calls Try.prog 28 #[.pointer p, actV 4 z i j m A n c] w (ActP w.heap.size Q) := by
  have H := Lib.hid h
  clear h
  unfold actV
  go_enter Try.func28, Try.ntmps28
  go_wp2_with fail
  generalize hw0 : ((w.alloc _).alloc _).alloc _ = w0
  have hb0 : Below w.heap.size w w0 := by rw [← hw0]; exact (((Below.refl _ _).alloc (Nat.le_refl _) _).alloc (by simp) _).alloc (by simp; omega) _
  have hs0 : w0.heap.size = w.heap.size + 3 := by rw [← hw0]; simp
  have b1 : Blk w0 (w.heap.size + 1) 57 #[.int .i64 0, .int .i64 0, .slice none 0 0] := by rw [← hw0]; exact (Blk.new' _ 57 _ _ (by simp)).alloc _
  have b2 : Blk w0 (w.heap.size + 1 + 1) 57 #[.int .i64 0, .int .i64 0, .slice none 0 0] := by rw [← hw0]; exact Blk.new' _ 57 _ _ (by simp)
  refine (H.out w0 hb0 hs0).mono ?_
  rintro e w1 ⟨num, A', n', c', er, rfl, hk, hq⟩
  have HQ := Lib.hid hq
  have B1 : Blk w1 (w.heap.size + 1) 57 #[.int .i64 0, .int .i64 0, .slice none 0 0] := (hk _ (by omega) (by omega)).trans b1
  have B2 : Blk w1 (w.heap.size + 1 + 1) 57 #[.int .i64 0, .int .i64 0, .slice none 0 0] := (hk _ (by omega) (by omega)).trans b2
  clear hq hk b1 b2 hb0 hs0 hw0 H
  have lt1 : w.heap.size + 1 < w1.heap.size := B1.lt
  have lt2 : w.heap.size + 1 + 1 < w1.heap.size := B2.lt
  have f10 := B1.frozen 0
  have f11 := B1.frozen 1
  have f12 := B1.frozen 2
  have f20 := B2.frozen 0
  have f21 := B2.frozen 1
  have f22 := B2.frozen 2
  have c10 := B1.cell 0
  have c11 := B1.cell 1
  have c12 := B1.cell 2
  have c20 := B2.cell 0
  have c21 := B2.cell 1
  have c22 := B2.cell 2
  generalize w.heap.size = s at *
  go_wp2
  clear f10 f11 f12 f20 f21 f22 c10 c11 c12 c20 c21 c22
  have hse := act_set B1 er num A' n' c'
  obtain ⟨hb, hc⟩ := act_end (F := fun k => s ≤ k ∧ k < s + 3) ⟨by omega, by omega⟩ hse.1 hse.2 er num A' n' c'
  have t0 := hb.cell 0
  have t1 := hb.cell 1
  have t2 := hb.cell 2
  exact bodyPost_ret (v := toldV er num (.slice A' n' c')) (by simp [results, Try.results28, go_sem, t0, t1, t2, toldV]) rfl ⟨num, A', n', c', er, w1, rfl, HQ.out, hc⟩
set_option maxRecDepth 20000 in
set_option maxHeartbeats 2000000 in
theorem act5 (p : Option Addr) (z i j m : Int) (A : Option Addr) (n c : Nat) (w : World) (Q : Int → Option Addr → Nat → Nat → Int → World → Prop)
    (h : ∀ W : World, Below w.heap.size w W → W.heap.size = w.heap.size + 3 → Calls Try.prog 43 #[.pointer p, .int .i64 z, .int .i64 i] W (PkP w.heap.size Q W)) :
    Calls Try.prog 28 #[.pointer p, actV 5 z i j m A n c] w (ActP w.heap.size Q) := by
  have H := Lib.hid h
  clear h
  unfold actV
  go_enter Try.func28, Try.ntmps28
  go_wp2_with fail
  generalize hw0 : ((w.alloc _).alloc _).alloc _ = w0
  have hb0 : Below w.heap.size w w0 := by rw [← hw0]; exact (((Below.refl _ _).alloc (Nat.le_refl _) _).alloc (by simp) _).alloc (by simp; omega) _
  have hs0 : w0.heap.size = w.heap.size + 3 := by rw [← hw0]; simp
  have b1 : Blk w0 (w.heap.size + 1) 57 #[.int .i64 0, .int .i64 0, .slice none 0 0] := by rw [← hw0]; exact (Blk.new' _ 57 _ _ (by simp)).alloc _
  have b2 : Blk w0 (w.heap.size + 1 + 1) 57 #[.int .i64 0, .int .i64 0, .slice none 0 0] := by rw [← hw0]; exact Blk.new' _ 57 _ _ (by simp)
  refine (H.out w0 hb0 hs0).mono ?_
  rintro e w1 ⟨num, A', n', c', er, rfl, hk, hq⟩
  have HQ := Lib.hid hq
  have B1 : Blk w1 (w.heap.size + 1) 57 #[.int .i64 0, .int .i64 0, .slice none 0 0] := (hk _ (by omega) (by omega)).trans b1
  have B2 : Blk w1 (w.heap.size + 1 + 1) 57 #[.int .i64 0, .int .i64 0, .slice none 0 0] := (hk _ (by omega) (by omega)).trans b2
  clear hq hk b1 b2 hb0 hs0 hw0 H
  have lt1 : w.heap.size + 1 < w1.heap.size := B1.lt
  have lt2 : w.heap.size + 1 + 1 < w1.heap.size := B2.lt
  have f10 := B1.frozen 0
  have f11 := B1.frozen 1
  have f12 := B1.frozen 2
  have f20 := B2.frozen 0
  have f21 := B2.frozen 1
  have f22 := B2.frozen 2
  have c10 := B1.cell 0
  have c11 := B1.cell 1
  have c12 := B1.cell 2
  have c20 := B2.cell 0
  have c21 := B2.cell 1
  have c22 := B2.cell 2
  generalize w.heap.size = s at *
  go_wp2
  clear f10 f11 f12 f20 f21 f22 c10 c11 c12 c20 c21 c22
  have hse := act_set B1 er num A' n' c'
  obtain ⟨hb, hc⟩ := act_end (F := fun k => s ≤ k ∧ k < s + 3) ⟨by omega, by omega⟩ hse.1 hse.2 er num A' n' c'
  have t0 := hb.cell 0
  have t1 := hb.cell 1
  have t2 := hb.cell 2
  exact bodyPost_ret (v := toldV er num (.slice A' n' c')) (by simp [results, Try.results28, go_sem, t0, t1, t2, toldV]) rfl ⟨num, A', n', c', er, w1, rfl, HQ.out, hc⟩
set_option maxRecDepth 20000 in
set_option maxHeartbeats 2000000 in
theorem act6 (p : Option Addr) (z i j m : Int) (A : Option Addr) (n c : Nat) (w : World) (Q : Int → Option Addr → Nat → Nat → Int → World → Prop)
    (h : ∀ W : World, Below w.heap.size w W → W.heap.size = w.heap.size + 3 → Calls Try.prog 16 #[.pointer p, .int .i64 z, .int .i64 i] W (PkP w.heap.size Q W)) :
    Calls Try.prog 28 #[.pointer p, actV 6 z i j m A n c] w (ActP w.heap.size Q) := by
  have H := Lib.hid h
  clear h
  unfold actV
  go_enter Try.func28, Try.ntmps28
  go_wp2_with fail
  generalize hw0 : ((w.alloc _).alloc _).alloc _ = w0
  have hb0 : Below w.heap.size w w0 := by rw [← hw0]; exact (((Below.refl _ _).alloc (Nat.le_refl _) _).alloc (by simp) _).alloc (by simp; omega) _
  have hs0 : w0.heap.size = w.heap.size + 3 := by rw [← hw0]; simp
  have b1 : Blk w0 (w.heap.size + 1) 57 #[.int .i64 0, .int .i64 0, .slice none 0 0] := by rw [← hw0]; exact (Blk.new' _ 57 _ _ (by simp)).alloc _
  have b2 : Blk w0 (w.heap.size + 1 + 1) 57 #[.int .i64 0, .int .i64 0, .slice none 0 0] := by rw [← hw0]; exact Blk.new' _ 57 _ _ (by simp)
  refine (H.out w0 hb0 hs0).mono ?_
  rintro e w1 ⟨num, A', n', c', er, rfl, hk, hq⟩
  have HQ := Lib.hid hq
  have B1 : Blk w1 (w.heap.size + 1) 57 #[.int .i64 0, .int .i64 0, .slice none 0 0] := (hk _ (by omega) (by omega)).trans b1
  have B2 : Blk w1 (w.heap.size + 1 + 1) 57 #[.int .i64 0, .int .i64 0, .slice none 0 0] := (hk _ (by omega) (by omega)).trans b2
  clear hq hk b1 b2 hb0 hs0 hw0 H
  have lt1 : w.heap.size + 1 < w1.heap.size := B1.lt
  have lt2 : w.heap.size + 1 + 1 < w1.heap.size := B2.lt
  have f10 := B1.frozen 0
  have f11 := B1.frozen 1
  have f12 := B1.frozen 2
  have f20 := B2.frozen 0
  have f21 := B2.frozen 1
  have f22 := B2.frozen 2
  have c10 := B1.cell 0
  have c11 := B1.cell 1
  have c12 := B1.cell 2
  have c20 := B2.cell 0
  have c21 := B2.cell 1
  have c22 := B2.cell 2
  generalize w.heap.size = s at *
  go_wp2
  clear f10 f11 f12 f20 f21 f22 c10 c11 c12 c20 c21 c22
  have hse := act_set B1 er num A' n' c'
  obtain ⟨hb, hc⟩ := act_end (F := fun k => s ≤ k ∧ k < s + 3) ⟨by omega, by omega⟩ hse.1 hse.2 er num A' n' c'
  have t0 := hb.cell 0
  have t1 := hb.cell 1
  have t2 := hb.cell 2
  exact bodyPost_ret (v := toldV er num (.slice A' n' c')) (by simp [results, Try.results28, go_sem, t0, t1, t2, toldV]) rfl ⟨num, A', n', c', er, w1, rfl, HQ.out, hc⟩
set_option maxRecDepth 20000 in
set_option maxHeartbeats 2000000 in
theorem act8 (p : Option Addr) (z i j m : Int) (A : Option Addr) (n c : Nat) (w : World) (Q : Int → Option Addr → Nat → Nat → Int → World → Prop)
    (h : ∀ W : World, Below w.heap.size w W → W.heap.size = w.heap.size + 3 → Calls Try.prog 17 #[.pointer p, .int .i64 z, .int .i64 i, .int .i64 j, .int .u8 m] W (PkP w.heap.size Q W)) :
    Calls Try.prog 28 #[.pointer p, actV 8 z i j m A n c] w (ActP w.heap.size Q) := by
  have H := Lib.hid h
  clear h
  unfold actV
  go_enter Try.func28, Try.ntmps28
  go_wp2_with fail
  generalize hw0 : ((w.alloc _).alloc _).alloc _ = w0
  have hb0 : Below w.heap.size w w0 := by rw [← hw0]; exact (((Below.refl _ _).alloc (Nat.le_refl _) _).alloc (by simp) _).alloc (by simp; omega) _
  have hs0 : w0.heap.size = w.heap.size + 3 := by rw [← hw0]; simp
  have b1 : Blk w0 (w.heap.size + 1) 57 #[.int .i64 0, .int .i64 0, .slice none 0 0] := by rw [← hw0]; exact (Blk.new' _ 57 _ _ (by simp)).alloc _
  have b2 : Blk w0 (w.heap.size + 1 + 1) 57 #[.int .i64 0, .int .i64 0, .slice none 0 0] := by rw [← hw0]; exact Blk.new' _ 57 _ _ (by simp)
  refine (H.out w0 hb0 hs0).mono ?_
  rintro e w1 ⟨num, A', n', c', er, rfl, hk, hq⟩
  have HQ := Lib.hid hq
  have B1 : Blk w1 (w.heap.size + 1) 57 #[.int .i64 0, .int .i64 0, .slice none 0 0] := (hk _ (by omega) (by omega)).trans b1
  have B2 : Blk w1 (w.heap.size + 1 + 1) 57 #[.int .i64 0, .int .i64 0, .slice none 0 0] := (hk _ (by omega) (by omega)).trans b2
  clear hq hk b1 b2 hb0 hs0 hw0 H
  have lt1 : w.heap.size + 1 < w1.heap.size := B1.lt
  have lt2 : w.heap.size + 1 + 1 < w1.heap.size := B2.lt
  have f10 := B1.frozen 0
  have f11 := B1.frozen 1
  have f12 := B1.frozen 2
  have f20 := B2.frozen 0
  have f21 := B2.frozen 1
  have f22 := B2.frozen 2
  have c10 := B1.cell 0
  have c11 := B1.cell 1
  have c12 := B1.cell 2
  have c20 := B2.cell 0
  have c21 := B2.cell 1
  have c22 := B2.cell 2
  generalize w.heap.size = s at *
  go_wp2
  clear f10 f11 f12 f20 f21 f22 c10 c11 c12 c20 c21 c22
  have hse := act_set B1 er num A' n' c'
  obtain ⟨hb, hc⟩ := act_end (F := fun k => s ≤ k ∧ k < s + 3) ⟨by omega, by omega⟩ hse.1 hse.2 er num A' n' c'
  have t0 := hb.cell 0
  have t1 := hb.cell 1
  have t2 := hb.cell 2
  exact bodyPost_ret (v := toldV er num (.slice A' n' c')) (by simp [results, Try.results28, go_sem, t0, t1, t2, toldV]) rfl ⟨num, A', n', c', er, w1, rfl, HQ.out, hc⟩
set_option maxRecDepth 20000 in
set_option maxHeartbeats 2000000 in
theorem act1 (p : Option Addr) (z i j m : Int) (A : Option Addr) (n c : Nat) (w : World) (Q : Int → Option Addr → Nat → Nat → Int → World → Prop)
    (h : ∀ W : World, Below w.heap.size w W → W.heap.size = w.heap.size + 3 → Calls Try.prog 12 #[.pointer p] W (ErP w.heap.size Q W)) :
    Calls Try.prog 28 #[.pointer p, actV 1 z i j m A n c] w (ActP w.heap.size Q) := by
  have H := Lib.hid h
  clear h
  unfold actV
  go_enter Try.func28, Try.ntmps28
  go_wp2_with fail
  generalize hw0 : ((w.alloc _).alloc _).alloc _ = w0
  have hb0 : Below w.heap.size w w0 := by rw [← hw0]; exact (((Below.refl _ _).alloc (Nat.le_refl _) _).alloc (by simp) _).alloc (by simp; omega) _
  have hs0 : w0.heap.size = w.heap.size + 3 := by rw [← hw0]; simp
  have b1 : Blk w0 (w.heap.size + 1) 57 #[.int .i64 0, .int .i64 0, .slice none 0 0] := by rw [← hw0]; exact (Blk.new' _ 57 _ _ (by simp)).alloc _
  have b2 : Blk w0 (w.heap.size + 1 + 1) 57 #[.int .i64 0, .int .i64 0, .slice none 0 0] := by rw [← hw0]; exact Blk.new' _ 57 _ _ (by simp)
  refine (H.out w0 hb0 hs0).mono ?_
  rintro e w1 ⟨er, rfl, hk, hq⟩
  have HQ := Lib.hid hq
  have B1 : Blk w1 (w.heap.size + 1) 57 #[.int .i64 0, .int .i64 0, .slice none 0 0] := (hk _ (by omega) (by omega)).trans b1
  have B2 : Blk w1 (w.heap.size + 1 + 1) 57 #[.int .i64 0, .int .i64 0, .slice none 0 0] := (hk _ (by omega) (by omega)).trans b2
  clear hq hk b1 b2 hb0 hs0 hw0 H
  have lt1 : w.heap.size + 1 < w1.heap.size := B1.lt
  have lt2 : w.heap.size + 1 + 1 < w1.heap.size := B2.lt
  have f10 := B1.frozen 0
  have f11 := B1.frozen 1
  have f12 := B1.frozen 2
  have f20 := B2.frozen 0
  have f21 := B2.frozen 1
  have f22 := B2.frozen 2
  have c10 := B1.cell 0
  have c11 := B1.cell 1
  have c12 := B1.cell 2
  have c20 := B2.cell 0
  have c21 := B2.cell 1
  have c22 := B2.cell 2
  generalize w.heap.size = s at *
  go_wp2
  clear f10 f11 f12 f20 f21 f22 c10 c11 c12 c20 c21 c22
  have hse := act_set0 B1 er
  obtain ⟨hb, hc⟩ := act_end (F := fun k => s ≤ k ∧ k < s + 3) ⟨by omega, by omega⟩ hse.1 hse.2 er 0 none 0 0
  have t0 := hb.cell 0
  have t1 := hb.cell 1
  have t2 := hb.cell 2
  exact bodyPost_ret (v := toldV er 0 (.slice none 0 0)) (by simp [results, Try.results28, go_sem, t0, t1, t2, toldV]) rfl ⟨0, none, 0, 0, er, w1, rfl, HQ.out, hc⟩
set_option maxRecDepth 20000 in
set_option maxHeartbeats 2000000 in
theorem act7 (p : Option Addr) (z i j m : Int) (A : Option Addr) (n c : Nat) (w : World) (Q : Int → Option Addr → Nat → Nat → Int → World → Prop)
    (h : ∀ W : World, Below w.heap.size w W → W.heap.size = w.heap.size + 3 → Calls Try.prog 30 #[.pointer p, .int .i64 z, .int .i64 i, .int .i64 j] W (ErP w.heap.size Q W)) :
    Calls Try.prog 28 #[.pointer p, actV 7 z i j m A n c] w (ActP w.heap.size Q) := by
  have H := Lib.hid h
  clear h
  unfold actV
  go_enter Try.func28, Try.ntmps28
  go_wp2_with fail
  generalize hw0 : ((w.alloc _).alloc _).alloc _ = w0
  have hb0 : Below w.heap.size w w0 := by rw [← hw0]; exact (((Below.refl _ _).alloc (Nat.le_refl _) _).alloc (by simp) _).alloc (by simp; omega) _
  have hs0 : w0.heap.size = w.heap.size + 3 := by rw [← hw0]; simp
  have b1 : Blk w0 (w.heap.size + 1) 57 #[.int .i64 0, .int .i64 0, .slice none 0 0] := by rw [← hw0]; exact (Blk.new' _ 57 _ _ (by simp)).alloc _
  have b2 : Blk w0 (w.heap.size + 1 + 1) 57 #[.int .i64 0, .int .i64 0, .slice none 0 0] := by rw [← hw0]; exact Blk.new' _ 57 _ _ (by simp)
  refine (H.out w0 hb0 hs0).mono ?_
  rintro e w1 ⟨er, rfl, hk, hq⟩
  have HQ := Lib.hid hq
  have B1 : Blk w1 (w.heap.size + 1) 57 #[.int .i64 0, .int .i64 0, .slice none 0 0] := (hk _ (by omega) (by omega)).trans b1
  have B2 : Blk w1 (w.heap.size + 1 + 1) 57 #[.int .i64 0, .int .i64 0, .slice none 0 0] := (hk _ (by omega) (by omega)).trans b2
  clear hq hk b1 b2 hb0 hs0 hw0 H
  have lt1 : w.heap.size + 1 < w1.heap.size := B1.lt
  have lt2 : w.heap.size + 1 + 1 < w1.heap.size := B2.lt
  have f10 := B1.frozen 0
  have f11 := B1.frozen 1
  have f12 := B1.frozen 2
  have f20 := B2.frozen 0
  have f21 := B2.frozen 1
  have f22 := B2.frozen 2
  have c10 := B1.cell 0
  have c11 := B1.cell 1
  have c12 := B1.cell 2
  have c20 := B2.cell 0
  have c21 := B2.cell 1
  have c22 := B2.cell 2
  generalize w.heap.size = s at *
  go_wp2
  clear f10 f11 f12 f20 f21 f22 c10 c11 c12 c20 c21 c22
  have hse := act_set0 B1 er
  obtain ⟨hb, hc⟩ := act_end (F := fun k => s ≤ k ∧ k < s + 3) ⟨by omega, by omega⟩ hse.1 hse.2 er 0 none 0 0
  have t0 := hb.cell 0
  have t1 := hb.cell 1
  have t2 := hb.cell 2
  exact bodyPost_ret (v := toldV er 0 (.slice none 0 0)) (by simp [results, Try.results28, go_sem, t0, t1, t2, toldV]) rfl ⟨0, none, 0, 0, er, w1, rfl, HQ.out, hc⟩
set_option maxRecDepth 20000 in
set_option maxHeartbeats 2000000 in
theorem act2 (p : Option Addr) (z i j m : Int) (A : Option Addr) (n c : Nat) (w : World) (Q : Int → Option Addr → Nat → Nat → Int → World → Prop)
    (h : ∀ W : World, Below w.heap.size w W → W.heap.size = w.heap.size + 3 → Calls Try.prog 29 #[.pointer p] W (Er2P w.heap.size Q W)) :
    Calls Try.prog 28 #[.pointer p, actV 2 z i j m A n c] w (ActP w.heap.size Q) := by
  have H := Lib.hid h
  clear h
  unfold actV
  go_enter Try.func28, Try.ntmps28
  go_wp2_with fail
  generalize hw0 : ((w.alloc _).alloc _).alloc _ = w0
  have hb0 : Below w.heap.size w w0 := by rw [← hw0]; exact (((Below.refl _ _).alloc (Nat.le_refl _) _).alloc (by simp) _).alloc (by simp; omega) _
  have hs0 : w0.heap.size = w.heap.size + 3 := by rw [← hw0]; simp
  have b1 : Blk w0 (w.heap.size + 1) 57 #[.int .i64 0, .int .i64 0, .slice none 0 0] := by rw [← hw0]; exact (Blk.new' _ 57 _ _ (by simp)).alloc _
  have b2 : Blk w0 (w.heap.size + 1 + 1) 57 #[.int .i64 0, .int .i64 0, .slice none 0 0] := by rw [← hw0]; exact Blk.new' _ 57 _ _ (by simp)
  refine (H.out w0 hb0 hs0).mono ?_
  rintro e w1 ⟨num, er, rfl, hk, hq⟩
  have HQ := Lib.hid hq
  have B1 : Blk w1 (w.heap.size + 1) 57 #[.int .i64 0, .int .i64 0, .slice none 0 0] := (hk _ (by omega) (by omega)).trans b1
  have B2 : Blk w1 (w.heap.size + 1 + 1) 57 #[.int .i64 0, .int .i64 0, .slice none 0 0] := (hk _ (by omega) (by omega)).trans b2
  clear hq hk b1 b2 hb0 hs0 hw0 H
  have lt1 : w.heap.size + 1 < w1.heap.size := B1.lt
  have lt2 : w.heap.size + 1 + 1 < w1.heap.size := B2.lt
  have f10 := B1.frozen 0
  have f11 := B1.frozen 1
  have f12 := B1.frozen 2
  have f20 := B2.frozen 0
  have f21 := B2.frozen 1
  have f22 := B2.frozen 2
  have c10 := B1.cell 0
  have c11 := B1.cell 1
  have c12 := B1.cell 2
  have c20 := B2.cell 0
  have c21 := B2.cell 1
  have c22 := B2.cell 2
  generalize w.heap.size = s at *
  go_wp2
  clear f10 f11 f12 f20 f21 f22 c10 c11 c12 c20 c21 c22
  have hse := act_set0 B1 er
  obtain ⟨hb, hc⟩ := act_end (F := fun k => s ≤ k ∧ k < s + 3) ⟨by omega, by omega⟩ hse.1 hse.2 er 0 none 0 0
  have t0 := hb.cell 0
  have t1 := hb.cell 1
  have t2 := hb.cell 2
  exact bodyPost_ret (v := toldV er 0 (.slice none 0 0)) (by simp [results, Try.results28, go_sem, t0, t1, t2, toldV]) rfl ⟨0, none, 0, 0, er, w1, rfl, HQ.out, hc⟩
set_option maxRecDepth 20000 in
set_option maxHeartbeats 2000000 in
theorem act3e (p : Option Addr) (z i j m : Int) (A : Option Addr) (n c : Nat) (w : World) (Q : Int → Option Addr → Nat → Nat → Int → World → Prop)
    (h : ∀ W : World, Below w.heap.size w W → W.heap.size = w.heap.size + 3 → Calls Try.prog 13 #[.pointer p, .int .i64 z, .slice A n c] W (SeP w.heap.size Q W)) :
    Calls Try.prog 28 #[.pointer p, actV 3 z i j m A n c] w (ActP w.heap.size Q) := by
  have H := Lib.hid h
  clear h
  unfold actV
  go_enter Try.func28, Try.ntmps28
  go_wp2_with fail
  generalize hw0 : ((w.alloc _).alloc _).alloc _ = w0
  have hb0 : Below w.heap.size w w0 := by rw [← hw0]; exact (((Below.refl _ _).alloc (Nat.le_refl _) _).alloc (by simp) _).alloc (by simp; omega) _
  have hs0 : w0.heap.size = w.heap.size + 3 := by rw [← hw0]; simp
  have b1 : Blk w0 (w.heap.size + 1) 57 #[.int .i64 0, .int .i64 0, .slice none 0 0] := by rw [← hw0]; exact (Blk.new' _ 57 _ _ (by simp)).alloc _
  have b2 : Blk w0 (w.heap.size + 1 + 1) 57 #[.int .i64 0, .int .i64 0, .slice none 0 0] := by rw [← hw0]; exact Blk.new' _ 57 _ _ (by simp)
  refine (H.out w0 hb0 hs0).mono ?_
  rintro e w1 ⟨num, er, rfl, d0, hk, hq⟩
  have HQ := Lib.hid hq
  have B1 : Blk w1 (w.heap.size + 1) 57 #[.int .i64 0, .int .i64 0, .slice none 0 0] := (hk _ (by omega) (by omega)).trans b1
  have B2 : Blk w1 (w.heap.size + 1 + 1) 57 #[.int .i64 0, .int .i64 0, .slice none 0 0] := (hk _ (by omega) (by omega)).trans b2
  clear hq hk b1 b2 hb0 hs0 hw0 H
  have lt1 : w.heap.size + 1 < w1.heap.size := B1.lt
  have lt2 : w.heap.size + 1 + 1 < w1.heap.size := B2.lt
  have f10 := B1.frozen 0
  have f11 := B1.frozen 1
  have f12 := B1.frozen 2
  have f20 := B2.frozen 0
  have f21 := B2.frozen 1
  have f22 := B2.frozen 2
  have c10 := B1.cell 0
  have c11 := B1.cell 1
  have c12 := B1.cell 2
  have c20 := B2.cell 0
  have c21 := B2.cell 1
  have c22 := B2.cell 2
  generalize w.heap.size = s at *
  go_wp2
  clear f10 f11 f12 f20 f21 f22 c10 c11 c12 c20 c21 c22
  have hse := act_set0 B1 er
  obtain ⟨hb, hc⟩ := act_end (F := fun k => s ≤ k ∧ k < s + 3) ⟨by omega, by omega⟩ hse.1 hse.2 er 0 none 0 0
  have t0 := hb.cell 0
  have t1 := hb.cell 1
  have t2 := hb.cell 2
  exact bodyPost_ret (v := toldV er 0 (.slice none 0 0)) (by simp [results, Try.results28, go_sem, t0, t1, t2, toldV]) rfl ⟨0, none, 0, 0, er, w1, rfl, HQ.out, hc⟩
end Go.Proofs.Ytbkgphmocjjmmaa
