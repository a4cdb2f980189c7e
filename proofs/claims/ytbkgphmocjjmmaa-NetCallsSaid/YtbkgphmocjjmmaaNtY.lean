/-
  The walk of the program's Act f28 where there is a net.
-/
import Derived.Test.YtbkgphmocjjmmaaNtX
namespace Go.Proofs.Ytbkgphmocjjmmaa
open Go.RowKit

/-- what an act leaves at the program's net -/
def StQ (w : World) (g : Nat) (v : Bool → Value) (l : Bool → List LP) (S' : Ns) (num : Int) (bytes : List UInt8) (er : Int) (num' : Int) (A : Option Addr) (n c : Nat) (er' : Int) (W : World) : Prop :=
  num' = num ∧ er' = er ∧ n = bytes.length ∧ ∃ v' l', NetA W g S' v' l' ∧ (∀ k, NetF g v' l' k → NetF g v l k ∨ w.heap.size + 3 ≤ k) ∧ Chg (NetF g v l) w W ∧ OwnB 5 W 0 (.slice A n c) bytes ∧ ∀ k, (Value.slice A n c).ownBlock = some k → ¬ NetF g v' l' k ∧ (NetF g v l k ∨ w.heap.size + 3 ≤ k)
def AStepP (w : World) (g : Nat) (v : Bool → Value) (l : Bool → List LP) (S' : Ns) (num : Int) (bytes : List UInt8) (er : Int) (e : Ending) (w' : World) : Prop :=
  ∃ v' l' A c, e = .returned (toldV er num (.slice A bytes.length c)) ∧ NetA w' g S' v' l' ∧ (∀ k, NetF g v' l' k → NetF g v l k ∨ w.heap.size ≤ k) ∧ Chg (NetF g v l) w w' ∧ OwnB 5 w' 0 (.slice A bytes.length c) bytes ∧ ∀ k, (Value.slice A bytes.length c).ownBlock = some k → ¬ NetF g v' l' k ∧ (NetF g v l k ∨ w.heap.size ≤ k)
section
variable {w W W' : World} {g : Nat} {S S' : Ns} {v : Bool → Value} {l : Bool → List LP} {num er : Int} {bytes : List UInt8} {e : Ending}
theorem actP_end (h : NetA w g S v l) (ha : ActP w.heap.size (StQ w g v l S' num bytes er) e W') : AStepP w g v l S' num bytes er e W' := by
  obtain ⟨num', A, n, c, er', W, rfl, ⟨rfl, rfl, rfl, v', l', hn, hsub, hc, ho, hf⟩, hx⟩ := ha
  have hlt : ∀ k, NetF g v l k → k < w.heap.size := fun k hk => h.lt hk
  refine ⟨v', l', A, c, rfl, hn.chg hx (fun k hk e => ?_), fun k hk => (hsub k hk).imp id (fun e => by omega), hc.trans hx (fun k hk e => by omega), own_chg ho hx (fun k hk e => ?_), fun k hk => ⟨(hf k hk).1, (hf k hk).2.imp id (fun e => by omega)⟩⟩
  · rcases hsub k hk with e1 | e1
    · have := hlt k e1; omega
    · omega
  · rcases (hf k hk).2 with e1 | e1
    · have := hlt k e1; omega
    · omega
theorem keep3 (h : NetA w g S v l) (hs : W.heap.size = w.heap.size + 3) (hc : Chg (NetF g v l) W W') : ∀ k, w.heap.size ≤ k → k < w.heap.size + 3 → W'.heap[k]? = W.heap[k]? := fun k h1 h2 =>
  hc.block k (by omega) (fun hf => by have := h.lt hf; omega)
theorem StepP.pk (h : NetA w g S v l) (hb : Below w.heap.size w W) (hs : W.heap.size = w.heap.size + 3) (hp : StepP W g v l S' (OutP W (NetF g v l) num bytes er) e W') : PkP w.heap.size (StQ w g v l S' num bytes er) W e W' := by
  obtain ⟨v', l', hn, hsub, hc, A, c, rfl, ho, hf⟩ := hp
  exact ⟨num, A, _, c, er, rfl, keep3 h hs hc, rfl, rfl, rfl, v', l', hn, fun k hk => (hsub k hk).imp id (fun e => by omega), (Chg.of_below hb _).trans hc (fun _ _ e => e), ho, fun k hk => ⟨(hf k hk).1, (hf k hk).2.imp id (fun e => by omega)⟩⟩
theorem stq_none (h : NetA w g S v l) (hb : Below w.heap.size w W) : StQ w g v l S 0 [] er 0 none 0 0 er W :=
  ⟨rfl, rfl, rfl, v, l, h.below hb, fun k hk => .inl hk, Chg.of_below hb _, OwnB.nil _ _ _, fun k hk => by simp [Value.ownBlock] at hk⟩
theorem NoP.pk2 (h : NetA w g S v l) (hb : Below w.heap.size w W) (hs : W.heap.size = w.heap.size + 3) (hp : NoP W er e W') : PkP w.heap.size (StQ w g v l S 0 [] er) W e W' := by
  obtain ⟨rfl, h1⟩ := hp
  exact ⟨0, none, 0, 0, er, rfl, fun k _ hk => h1.block k (by omega), stq_none h (hb.trans (h1.mono hb.size))⟩
theorem stq_step (hb : Below w.heap.size w W) (hs : W.heap.size = w.heap.size + 3) {v' : Bool → Value} {l' : Bool → List LP} (hn : NetA W' g S' v' l') (hsub : ∀ k, NetF g v' l' k → NetF g v l k ∨ W.heap.size ≤ k) (hc : Chg (NetF g v l) W W') : StQ w g v l S' 0 [] er 0 none 0 0 er W' :=
  ⟨rfl, rfl, rfl, v', l', hn, fun k hk => (hsub k hk).imp id (fun e => by omega), (Chg.of_below hb _).trans hc (fun _ _ e => e), OwnB.nil _ _ _, fun k hk => by simp [Value.ownBlock] at hk⟩
end
/-- a place out of range, or a net that is down -/
theorem one_cell (W : World) (i : Int) (o : Obj) : RdZ ((W.alloc o).alloc (.cells #[.int .i64 i] 3)) (W.heap.size + 1) [i] := fun k z hk => by
  match k with
  | 0 => simp only [List.getElem?_cons_zero, Option.some.injEq] at hk; subst hk; exact (Blk.new' _ 3 _ _ (by simp)).cell 0
  | k + 1 => simp at hk
theorem two_cell (W : World) (i j : Int) : RdZ (W.alloc (.cells #[.int .i64 i, .int .i64 j] 3)) W.heap.size [i, j] := fun k z hk => by
  match k with
  | 0 => simp only [List.getElem?_cons_zero, Option.some.injEq] at hk; subst hk; exact (Blk.new W 3 _).cell 0
  | 1 => simp only [List.getElem?_cons_succ, List.getElem?_cons_zero, Option.some.injEq] at hk; subst hk; exact (Blk.new W 3 _).cell 1
  | k + 2 => simp at hk
theorem at_range {g h : Nat} {S : Ns} {v : Bool → Value} {l : Bool → List LP} {s : Bool} {zs : List Int} {c : Nat} {W : World} (hw : NetA W g S v l) (hl : 1 ≤ S.limit) (hu : S.up = true) (hz : RdZ W h zs) (hn : zs.length ≤ 1000) (hf : zs.all (inB (S.u s).length) = false) :
    Calls Try.prog 37 #[.pointer (some ⟨g, 0, none⟩), .int .i64 (sideN s), .slice (some ⟨h, 0, none⟩) zs.length c] W fun e w' => e = .returned (.tuple #[.pointer none, .int .i64 1]) ∧ W = w' := by
  obtain ⟨c0, c1, c2⟩ := hw.heads hu s
  obtain ⟨A, c', hv, _, _⟩ := own_form (hw.row s)
  rw [hv] at c2
  refine (at_up g h c S.limit s zs A (l s).length c' W c0 c1 (by omega) c2 hz hn).mono fun e w' hat => ?_
  obtain ⟨rfl, rfl⟩ := hat
  rw [hw.len s, hf]
  exact ⟨rfl, rfl⟩
theorem in_false {n : Nat} {i : Int} (h : i < 0 ∨ (n : Int) ≤ i) (zs : List Int) : (i :: zs).all (inB n) = false := by
  have : inB n i = false := by simp only [inB, decide_eq_false_iff_not]; omega
  simp [this]
theorem in_false2 {n : Nat} {i j : Int} (h : j < 0 ∨ (n : Int) ≤ j) : [i, j].all (inB n) = false := by
  have : inB n j = false := by simp only [inB, decide_eq_false_iff_not]; omega
  simp [this]
set_option maxRecDepth 20000 in
set_option maxHeartbeats 2000000 in
theorem double_err2 (p : Option Addr) (z i : Int) (er : Int) (w : World) (he : (er != 0) = true) (h : Calls Try.prog 37 #[.pointer p, .int .i64 z, .slice (some ⟨w.heap.size + 1, 0, none⟩) 1 1] ((w.alloc (.cells #[.int .i64 0, .slice none 0 0] 36)).alloc (.cells #[.int .i64 i] 3)) fun e w' => e = .returned (.tuple #[.pointer none, .int .i64 er]) ∧ ((w.alloc (.cells #[.int .i64 0, .slice none 0 0] 36)).alloc (.cells #[.int .i64 i] 3)) = w') :
    Calls Try.prog 16 #[.pointer p, .int .i64 z, .int .i64 i] w (NoP w er) := by
  have H := Lib.hid h
  clear h
  go_enter Try.func16, Try.ntmps16
  go_wp2_with fail
  refine H.out.mono ?_
  rintro e w' ⟨rfl, rfl⟩
  go_wp2
  exact bodyPost_ret (v := .tuple #[.agg #[.int .i64 0, .slice none 0 0], .int .i64 er]) (by simp [results, Try.results16, go_sem]) rfl ⟨rfl, ((Below.refl _ _).alloc (Nat.le_refl _) _).alloc (by simp) _⟩
set_option maxRecDepth 20000 in
set_option maxHeartbeats 2000000 in
theorem flip_err2 (p : Option Addr) (z i j m : Int) (er : Int) (w : World) (he : (er != 0) = true) (h : Calls Try.prog 37 #[.pointer p, .int .i64 z, .slice (some ⟨w.heap.size + 1, 0, none⟩) 1 1] ((w.alloc (.cells #[.int .i64 0, .slice none 0 0] 36)).alloc (.cells #[.int .i64 i] 3)) fun e w' => e = .returned (.tuple #[.pointer none, .int .i64 er]) ∧ ((w.alloc (.cells #[.int .i64 0, .slice none 0 0] 36)).alloc (.cells #[.int .i64 i] 3)) = w') :
    Calls Try.prog 17 #[.pointer p, .int .i64 z, .int .i64 i, .int .i64 j, .int .u8 m] w (NoP w er) := by
  have H := Lib.hid h
  clear h
  go_enter Try.func17, Try.ntmps17
  go_wp2_with fail
  refine H.out.mono ?_
  rintro e w' ⟨rfl, rfl⟩
  go_wp2
  exact bodyPost_ret (v := .tuple #[.agg #[.int .i64 0, .slice none 0 0], .int .i64 er]) (by simp [results, Try.results17, go_sem]) rfl ⟨rfl, ((Below.refl _ _).alloc (Nat.le_refl _) _).alloc (by simp) _⟩
set_option maxRecDepth 20000 in
set_option maxHeartbeats 2000000 in
theorem move_err2 (p : Option Addr) (z i j : Int) (er : Int) (w : World) (he : (er != 0) = true) (h : Calls Try.prog 37 #[.pointer p, .int .i64 z, .slice (some ⟨w.heap.size, 0, none⟩) 2 2] (w.alloc (.cells #[.int .i64 i, .int .i64 j] 3)) fun e w' => e = .returned (.tuple #[.pointer none, .int .i64 er]) ∧ w.alloc (.cells #[.int .i64 i, .int .i64 j] 3) = w') :
    Calls Try.prog 30 #[.pointer p, .int .i64 z, .int .i64 i, .int .i64 j] w (NoM w er) := by
  have H := Lib.hid h
  clear h
  go_enter Try.func30, Try.ntmps30
  go_wp2_with fail
  refine H.out.mono ?_
  rintro e w' ⟨rfl, rfl⟩
  go_wp2
  go_ret
  exact ⟨rfl, (Below.refl _ _).alloc (Nat.le_refl _) _⟩
set_option maxRecDepth 20000 in
set_option maxHeartbeats 4000000 in
theorem double_full (g : Nat) (S : Ns) (v : Bool → Value) (l : Bool → List LP) (K : Int) (s : Bool) (i : Nat) (p : LP) (w : World) (h : NetA w g S v l) (hk : S.ok K) (hu : S.up = true) (hp : (l s)[i]? = some p) (hf : ((S.u s).length : Int) = S.limit) :
    Calls Try.prog 16 #[.pointer (some ⟨g, 0, none⟩), .int .i64 (sideN s), .int .i64 i] w (NoP w 183) := by
  have hi : i < (l s).length := (List.getElem?_eq_some_iff.1 hp).1
  have hl := hk.lo
  have hg : g < w.heap.size := h.blk.lt
  have u0 : w.cell? ⟨g, wayO s, none⟩ = some (v s) := (h.blk.cell _).trans (layN_under _ _ _)
  obtain ⟨gb, cb, hv, hgb, q0, q1⟩ := (h.row s).at_ hp
  have d0 : (((l s).length : Int) == S.limit) = true := by rw [h.len s, hf]; simp
  have HAT := Lib.hid fun (W : World) (hW : Below w.heap.size w W) (hz : RdZ W (w.heap.size + 1) [(i : Int)]) => at_up g (w.heap.size + 1) 1 S.limit s [(i : Int)] (some ⟨gb, 0, none⟩) (l s).length cb W ((h.blk.below hW hg).cell 0) (by rw [← hu]; exact (h.blk.below hW hg).cell 1) (by omega) (by rw [← hv, hW.cell (p := ⟨g, wayO s, none⟩) hg]; exact u0) hz (by simp)
  have HIN : Hid ([(i : Int)].all (inB (l s).length) = true) := Lib.hid (by simp [inB]; omega)
  have HZ := Lib.hid (one_cell w i (.cells #[.int .i64 0, .slice none 0 0] 36))
  have hb1 : Below w.heap.size w ((w.alloc (.cells #[.int .i64 0, .slice none 0 0] 36)).alloc (.cells #[.int .i64 i] 3)) := ((Below.refl _ _).alloc (Nat.le_refl _) _).alloc (by simp) _
  have HRES : Hid (Blk ((w.alloc (.cells #[.int .i64 0, .slice none 0 0] 36)).alloc (.cells #[.int .i64 i] 3)) w.heap.size 36 #[.int .i64 0, .slice none 0 0]) := Lib.hid ((Blk.new w 36 _).alloc _)
  have HB1 := Lib.hid hb1
  have k0 : w.cell? ⟨g, 0, none⟩ = some (.int .i64 S.limit) := h.blk.cell 0
  rw [hv] at u0
  clear h hu hv hb1 hp hf hk q0 q1
  go_enter Try.func16, Try.ntmps16
  go_wp2_with fail
  refine (HAT.out _ HB1.out HZ.out).mono ?_
  rw [HIN.out]
  rintro e w1 ⟨rfl, rfl⟩
  generalize (w.alloc (.cells #[.int .i64 0, .slice none 0 0] 36)).alloc (.cells #[.int .i64 i] 3) = w1 at *
  have u1 := (HB1.out.cell (p := ⟨g, _, none⟩) hg).trans u0
  have c0 := (HB1.out.cell (p := ⟨g, _, none⟩) hg).trans k0
  have r0 := HRES.out.cell 0
  have r1 := HRES.out.cell 1
  have s0 := HRES.out.frozen 0
  have s1 := HRES.out.frozen 1
  have hrl := HRES.out.lt
  have z1 : g < w1.heap.size := by omega
  have HFIN : Hid (Below w.heap.size w (((w1.setCell ⟨w.heap.size, 0, none⟩ (.int .i64 0)).setCell ⟨w.heap.size, 1, none⟩ (.slice none 0 0)).drew) ∧ Blk ((w1.setCell ⟨w.heap.size, 0, none⟩ (.int .i64 0)).setCell ⟨w.heap.size, 1, none⟩ (.slice none 0 0)) w.heap.size 36 #[.int .i64 0, .slice none 0 0]) := Lib.hid ⟨((HB1.out.setCell (p := ⟨w.heap.size, 0, none⟩) (Nat.le_refl _) _).setCell (p := ⟨w.heap.size, 1, none⟩) (Nat.le_refl _) _).drew, (HRES.out.set_ 0 _).set_ 1 _⟩
  clear u0 k0 HAT HIN HZ
  simp only [if_true]
  go_wp2_with fail
  go_region
  all_goals
    go_wp2
    have t0 := HFIN.out.2.cell 0
    have t1 := HFIN.out.2.cell 1
    clear r0 r1 s0 s1 u1 c0
    exact bodyPost_ret (v := .tuple #[.agg #[.int .i64 0, .slice none 0 0], .int .i64 183]) (by simp [results, Try.results16, go_sem, t0, t1]) rfl ⟨rfl, HFIN.out.1⟩

/-- the bytes that are handed in lie apart from the net -/
def Away (F : Nat → Prop) (n : Nat) (A : Option Addr) : Prop := 0 < n → ∀ ad, A = some ad → ¬ F ad.block
theorem Reads.apart {w w' : World} {F : Nat → Prop} {B size n : Nat} {A : Option Addr} {xs : List Value} (h : Reads w B size A n xs) (hB : B ≤ w.heap.size) (hc : Chg F w w') (ha : Away F n A) : Reads w' B size A n xs := by
  refine ⟨h.1, fun hn => ?_⟩
  obtain ⟨ad, rfl, hb, hcell⟩ := h.2 hn
  exact ⟨ad, rfl, hb, fun j u hu => (World.cell?_of_block (hc.block _ (by rw [block_of_add]; omega) (by rw [block_of_add]; exact ha hn ad rfl))).trans (hcell j u hu)⟩
/-- Send is done; then its bytes are told -/
def SndP (s : Nat) (n : Int) (R : World → Prop) (W : World) (e : Ending) (W' : World) : Prop := e = .returned (.tuple #[.int .i64 n, .int .i64 0]) ∧ (∀ k, s ≤ k → k < s + 3 → W'.heap[k]? = W.heap[k]?) ∧ R W'
theorem act_set3 {w1 : World} {s : Nat} (h1 : Blk w1 (s + 1) 57 #[.int .i64 0, .int .i64 0, .slice none 0 0]) (h2 : Blk w1 (s + 1 + 1) 57 #[.int .i64 0, .int .i64 0, .slice none 0 0]) (num : Int) (A : Option Addr) (n c : Nat) :
    Chg (fun k => s ≤ k ∧ k < s + 3) w1 ((w1.setCell ⟨s + 1 + 1, 1, none⟩ (.int .i64 num)).setCell ⟨s + 1 + 1, 2, none⟩ (.slice A n c)) ∧
      Blk ((w1.setCell ⟨s + 1 + 1, 1, none⟩ (.int .i64 num)).setCell ⟨s + 1 + 1, 2, none⟩ (.slice A n c)) (s + 1) 57 #[.int .i64 0, .int .i64 0, .slice none 0 0] ∧
      Blk ((w1.setCell ⟨s + 1 + 1, 1, none⟩ (.int .i64 num)).setCell ⟨s + 1 + 1, 2, none⟩ (.slice A n c)) (s + 1 + 1) 57 #[.int .i64 0, .int .i64 num, .slice A n c] :=
  have hx : ∀ j, s + 1 + 1 < w1.heap.size → s ≤ s + 1 + 1 ∧ s + 1 + 1 < s + 3 := fun _ _ => by omega
  ⟨((Chg.refl _ w1).setCell (p := ⟨s + 1 + 1, 1, none⟩) (hx 0) _).setCell (p := ⟨s + 1 + 1, 2, none⟩) (hx 0) _,
    (h1.far (p := ⟨s + 1 + 1, 1, none⟩) (by simp) _).far (p := ⟨s + 1 + 1, 2, none⟩) (by simp) _, (h2.set_ 1 _).set_ 2 _⟩
set_option maxRecDepth 20000 in
set_option maxHeartbeats 2000000 in
theorem act3 (p : Option Addr) (z i j m : Int) (A : Option Addr) (n c : Nat) (w : World) (num : Int) (R : World → Prop) (Q : Int → Option Addr → Nat → Nat → Int → World → Prop)
    (h : ∀ W : World, Below w.heap.size w W → W.heap.size = w.heap.size + 3 → Calls Try.prog 13 #[.pointer p, .int .i64 z, .slice A n c] W (SndP w.heap.size num R W))
    (h2 : ∀ W W1 : World, R W → Chg (fun k => w.heap.size ≤ k ∧ k < w.heap.size + 3) W W1 → w.heap.size + 3 ≤ W1.heap.size → Calls Try.prog 36 #[.agg #[.int .i64 num, .slice A n c]] W1 fun e W2 => ∃ A' n' c', e = .returned (.agg #[.int .i64 num, .slice A' n' c']) ∧ Below W1.heap.size W1 W2 ∧ Q num A' n' c' 0 W2) :
    Calls Try.prog 28 #[.pointer p, actV 3 z i j m A n c] w (ActP w.heap.size Q) := by
  have H := Lib.hid h
  have H2 := Lib.hid h2
  clear h h2
  unfold actV
  go_enter Try.func28, Try.ntmps28
  go_wp2_with fail
  generalize hw0 : ((w.alloc _).alloc _).alloc _ = w0
  have hb0 : Below w.heap.size w w0 := by rw [← hw0]; exact (((Below.refl _ _).alloc (Nat.le_refl _) _).alloc (by simp) _).alloc (by simp; omega) _
  have hs0 : w0.heap.size = w.heap.size + 3 := by rw [← hw0]; simp
  have b0 : Blk w0 w.heap.size 55 #[.int .i64 3, .int .i64 z, .int .i64 i, .int .i64 j, .int .u8 m, .slice A n c] := by rw [← hw0]; exact ((Blk.new w 55 _).alloc _).alloc _
  have b1 : Blk w0 (w.heap.size + 1) 57 #[.int .i64 0, .int .i64 0, .slice none 0 0] := by rw [← hw0]; exact (Blk.new' _ 57 _ _ (by simp)).alloc _
  have b2 : Blk w0 (w.heap.size + 1 + 1) 57 #[.int .i64 0, .int .i64 0, .slice none 0 0] := by rw [← hw0]; exact Blk.new' _ 57 _ _ (by simp)
  refine (H.out w0 hb0 hs0).mono ?_
  rintro e w1 ⟨rfl, hk, hq⟩
  have HQ := Lib.hid hq
  have B0 : Blk w1 w.heap.size 55 #[.int .i64 3, .int .i64 z, .int .i64 i, .int .i64 j, .int .u8 m, .slice A n c] := (hk _ (by omega) (by omega)).trans b0
  have B1 : Blk w1 (w.heap.size + 1) 57 #[.int .i64 0, .int .i64 0, .slice none 0 0] := (hk _ (by omega) (by omega)).trans b1
  have B2 : Blk w1 (w.heap.size + 1 + 1) 57 #[.int .i64 0, .int .i64 0, .slice none 0 0] := (hk _ (by omega) (by omega)).trans b2
  clear hq hk b0 b1 b2 hb0 hs0 hw0 H
  have lt0 : w.heap.size < w1.heap.size := B0.lt
  have lt2 : w.heap.size + 1 + 1 < w1.heap.size := B2.lt
  have f20 := B2.frozen 0
  have c05 := B0.cell 5
  have c20 := B2.cell 0
  have hc2 : Chg (fun k => w.heap.size ≤ k ∧ k < w.heap.size + 3) w1 (w1.setCell ⟨w.heap.size + 1 + 1, 0, none⟩ (.int .i64 0)) := (Chg.refl _ w1).setCell (p := ⟨w.heap.size + 1 + 1, 0, none⟩) (fun _ => by show w.heap.size ≤ w.heap.size + 1 + 1 ∧ w.heap.size + 1 + 1 < w.heap.size + 3; omega) _
  have H3 := Lib.hid (H2.out w1 _ HQ.out hc2 (by simp [World.setCell]; omega))
  have D1 : Blk (w1.setCell ⟨w.heap.size + 1 + 1, 0, none⟩ (.int .i64 0)) (w.heap.size + 1) 57 #[.int .i64 0, .int .i64 0, .slice none 0 0] := B1.far (p := ⟨w.heap.size + 1 + 1, 0, none⟩) (by simp) _
  have D2 : Blk (w1.setCell ⟨w.heap.size + 1 + 1, 0, none⟩ (.int .i64 0)) (w.heap.size + 1 + 1) 57 #[.int .i64 0, .int .i64 0, .slice none 0 0] := B2.set_ 0 _
  have D0 : Blk (w1.setCell ⟨w.heap.size + 1 + 1, 0, none⟩ (.int .i64 0)) w.heap.size 55 #[.int .i64 3, .int .i64 z, .int .i64 i, .int .i64 j, .int .u8 m, .slice A n c] := B0.far (p := ⟨w.heap.size + 1 + 1, 0, none⟩) (by first | (show w.heap.size + 1 + 1 ≠ w.heap.size; omega) | (show w.heap.size ≠ w.heap.size + 1 + 1; omega)) _
  have HD0 := Lib.hid D0
  have HD1 := Lib.hid D1
  have HD2 := Lib.hid D2
  clear D0 D1 D2 hc2 H2
  go_upto_region 11 with fail
  generalize w1.setCell ⟨w.heap.size + 1 + 1, 0, none⟩ (.int .i64 0) = w2 at *
  have B0' : w2.cell? ⟨w.heap.size, 5, none⟩ = some (.slice A n c) := HD0.out.cell 5
  clear f20 c05 c20 lt2 B0 B1 B2 HD0
  have lt2 : w.heap.size < w2.heap.size := by have := HD2.out.lt; omega
  go_wp2_with fail
  refine H3.out.mono ?_
  rintro e w3 ⟨A', n', c', rfl, hb3, hq3⟩
  have HQ3 := Lib.hid hq3
  have B1 : Blk w3 (w.heap.size + 1) 57 #[.int .i64 0, .int .i64 0, .slice none 0 0] := HD1.out.below hb3 HD1.out.lt
  have B2 : Blk w3 (w.heap.size + 1 + 1) 57 #[.int .i64 0, .int .i64 0, .slice none 0 0] := HD2.out.below hb3 HD2.out.lt
  clear hq3 hb3 B0'
  have lt1 : w.heap.size + 1 < w3.heap.size := B1.lt
  have lt3 : w.heap.size + 1 + 1 < w3.heap.size := B2.lt
  have f10 := B1.frozen 0
  have f11 := B1.frozen 1
  have f12 := B1.frozen 2
  have f21 := B2.frozen 1
  have f22 := B2.frozen 2
  have c10 := B1.cell 0
  have c11 := B1.cell 1
  have c12 := B1.cell 2
  have c20 := B2.cell 0
  have c21 := B2.cell 1
  have c22 := B2.cell 2
  clear HD1 HD2 H3 HQ
  generalize w.heap.size = s at *
  go_wp2
  clear f10 f11 f12 f21 f22 c10 c11 c12 c20 c21 c22
  have hse := act_set3 B1 B2 num A' n' c'
  obtain ⟨hb, hc⟩ := act_end (F := fun k => s ≤ k ∧ k < s + 3) ⟨by omega, by omega⟩ hse.1 hse.2.1 0 num A' n' c'
  have t0 := hb.cell 0
  have t1 := hb.cell 1
  have t2 := hb.cell 2
  exact bodyPost_ret (v := toldV 0 num (.slice A' n' c')) (by simp [results, Try.results28, go_sem, t0, t1, t2, toldV]) rfl ⟨num, A', n', c', 0, w3, rfl, HQ3.out, hc⟩
end Go.Proofs.Ytbkgphmocjjmmaa
