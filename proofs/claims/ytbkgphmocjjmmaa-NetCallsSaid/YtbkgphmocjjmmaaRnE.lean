/-
  The walk of the document's at f39: a place out of range, Deliver, Drop.
-/
import Derived.Test.YtbkgphmocjjmmaaRnD
namespace Go.Proofs.Ytbkgphmocjjmmaa
open Go.RowKit

/-- bytes whose block is one of F, or new -/
def OwnQ (F : Nat → Prop) (n : Nat) (W : World) (v : Value) (bs : List UInt8) : Prop := OwnB 5 W 0 v bs ∧ ∀ k, v.ownBlock = some k → F k ∨ n ≤ k
theorem OwnQ.nil (F : Nat → Prop) (n : Nat) (W : World) : OwnQ F n W (.slice none 0 0) [] := ⟨OwnB.nil _ _ _, fun k hk => by simp [Value.ownBlock] at hk⟩
theorem OwnQ.new {F : Nat → Prop} {n B : Nat} {W : World} {v : Value} {bs : List UInt8} (ho : OwnB 5 W B v bs) (hB : n ≤ B) : OwnQ F n W v bs := ⟨own_base ho (Nat.zero_le _), fun k hk => .inr (by have := (World.ownsRow.lt ho k hk).1; omega)⟩
theorem OwnQ.old {g n i : Nat} {v : Bool → Value} {l : Bool → List LP} {s : Bool} {p : LP} {W : World} (hp : (l s)[i]? = some p) (ho : p.own W) : OwnQ (NetF g v l) n W (.slice p.A p.pk.bytes.length p.c) p.pk.bytes :=
  ⟨ho, fun _ hk => .inl (.inr (.inr ⟨s, p, List.mem_of_getElem? hp, hk⟩))⟩
/-- what an act leaves at the document's net -/
def RStepP (w : World) (g : Nat) (v : Bool → Value) (l : Bool → List LP) (S' : Ns) (num : Int) (bytes : List UInt8) (er : Int) (e : Ending) (w' : World) : Prop :=
  ∃ v' l' A c, e = .returned (.tuple #[.agg #[.int .i64 num, .slice A bytes.length c], .int .i64 er]) ∧ NetR w' g S' v' l' ∧ (∀ k, NetF g v' l' k → NetF g v l k ∨ w.heap.size ≤ k) ∧ Chg (NetF g v l) w w' ∧ OwnQ (NetF g v l) w.heap.size w' (.slice A bytes.length c) bytes
theorem rat_end {w W W1 : World} {g n : Nat} {S S' : Ns} {v v' : Bool → Value} {l l' : Bool → List LP} {num : Int} {A : Option Addr} {c : Nat} {bytes : List UInt8} (er : Int) (h : NetR w g S v l) (hW : Below w.heap.size w W) (hr : Blk W n 36 #[.int .i64 0, .slice none 0 0]) (hn0 : w.heap.size ≤ n) (hn : NetR W1 g S' v' l') (hsub : ∀ k, NetF g v' l' k → NetF g v l k ∨ W.heap.size ≤ k) (hc : Chg (NetF g v l) W W1) (ho : OwnQ (NetF g v l) w.heap.size W1 (.slice A bytes.length c) bytes) :
    Blk W1 n 36 #[.int .i64 0, .slice none 0 0] ∧ Blk ((W1.setCell ⟨n, 0, none⟩ (.int .i64 num)).setCell ⟨n, 1, none⟩ (.slice A bytes.length c)) n 36 #[.int .i64 num, .slice A bytes.length c] ∧
    RStepP w g v l S' num bytes er (.returned (.tuple #[.agg #[.int .i64 num, .slice A bytes.length c], .int .i64 er])) ((W1.setCell ⟨n, 0, none⟩ (.int .i64 num)).setCell ⟨n, 1, none⟩ (.slice A bytes.length c)) := by
  have hnF : ¬ NetF g v l n := fun hf => by have := h.lt hf; omega
  have hr1 : Blk W1 n 36 #[.int .i64 0, .slice none 0 0] := hc.blk hr hnF
  obtain ⟨h4, h5⟩ := res_three hr1 num A bytes.length c
  have hF : ∀ k, NetF g v' l' k → k ≠ n := fun k hk e => by
    subst e
    rcases hsub k hk with e | e
    · exact hnF e
    · have := hr.lt; omega
  refine ⟨hr1, h4, v', l', A, c, rfl, hn.chg h5 hF, fun k hk => (hsub k hk).imp id fun e => by have := hW.size; omega, ?_, ⟨own_chg ho.1 h5 fun k hk e => by subst e; exact own_blk_ne ho.1 hr1 (by decide) hk, ho.2⟩⟩
  exact ((Chg.of_below hW (NetF g v l)).trans hc (fun _ _ e => e)).trans h5 fun i hi e => by omega
/-- at's own blocks: the act's copy and the result -/
structure RatS (w : World) (k z i j m : Int) (A : Option Addr) (n c : Nat) (W : World) : Prop where
  old : Below w.heap.size w W
  act : Blk W w.heap.size 55 #[.int .i64 k, .int .i64 z, .int .i64 i, .int .i64 j, .int .u8 m, .slice A n c]
  res : Blk W (w.heap.size + 1) 36 #[.int .i64 0, .slice none 0 0]
theorem RatS.start (w : World) (k z i j m : Int) (A : Option Addr) (n c : Nat) : RatS w k z i j m A n c ((w.alloc (.cells #[.int .i64 k, .int .i64 z, .int .i64 i, .int .i64 j, .int .u8 m, .slice A n c] 55)).alloc (.cells #[.int .i64 0, .slice none 0 0] 36)) :=
  ⟨((Below.refl _ _).alloc (Nat.le_refl _) _).alloc (by simp) _, (Blk.new w 55 _).alloc _, Blk.new' _ 36 _ _ (by simp)⟩
theorem RatS.drewN {w W : World} {k z i j m : Int} {A : Option Addr} {n c : Nat} (h : RatS w k z i j m A n c W) (q : Nat) : RatS w k z i j m A n c (W.drewN q) :=
  ⟨below_drewN h.old q, h.act.below (below_drewN (Below.refl _ _) q) h.act.lt, h.res.below (below_drewN (Below.refl _ _) q) h.res.lt⟩
theorem RatS.err {w W : World} {k z i j m : Int} {A : Option Addr} {n c g : Nat} {S : Ns} {v : Bool → Value} {l : Bool → List LP} (h : RatS w k z i j m A n c W) (hn : NetR w g S v l) (er : Int) :
    Blk ((W.setCell ⟨w.heap.size + 1, 0, none⟩ (.int .i64 0)).setCell ⟨w.heap.size + 1, 1, none⟩ (.slice none 0 0)) (w.heap.size + 1) 36 #[.int .i64 0, .slice none 0 0] ∧
    RStepP w g v l S 0 [] er (.returned (.tuple #[.agg #[.int .i64 0, .slice none 0 0], .int .i64 er])) ((W.setCell ⟨w.heap.size + 1, 0, none⟩ (.int .i64 0)).setCell ⟨w.heap.size + 1, 1, none⟩ (.slice none 0 0)) :=
  (rat_end (num := 0) (A := none) (c := 0) (bytes := []) er hn h.old (n := w.heap.size + 1) h.res (by omega) (hn.below h.old) (fun k hk => .inl hk) (Chg.refl _ _) (OwnQ.nil _ _ _)).2
set_option maxRecDepth 20000 in
set_option maxHeartbeats 4000000 in
theorem rat_err (g : Nat) (S : Ns) (v : Bool → Value) (l : Bool → List LP) (s : Bool) (k z i j m : Int) (A : Option Addr) (n c : Nat) (w : World) (h : NetR w g S v l) (hi : i < 0 ∨ ((l s).length : Int) ≤ i) :
    Calls Try.prog 39 #[.pointer (some ⟨g, 0, none⟩), .int .i64 k, .int .i64 (idxN s), actV k z i j m A n c] w (RStepP w g v l S 0 [] 1) := by
  have u0 : w.cell? ⟨g, rwayO s, none⟩ = some (v s) := (h.blk.cell _).trans (layR_under _ _ s)
  obtain ⟨A1, c1, hv, _, _⟩ := own_form (h.row s)
  rw [hv] at u0
  have hg : g < w.heap.size := h.blk.lt
  have HST := Lib.hid (RatS.start w k z i j m A n c)
  have H := Lib.hid h
  clear h hv
  unfold actV
  cases s
  all_goals
    simp only [idxN, rwayO] at *
    go_enter Try.func39, Try.ntmps39
    go_upto_region 1 with fail
    generalize (w.alloc (.cells #[.int .i64 k, .int .i64 z, .int .i64 i, .int .i64 j, .int .u8 m, .slice A n c] 55)).alloc (.cells #[.int .i64 0, .slice none 0 0] 36) = w1 at *
    have a2 : w1.cell? ⟨w.heap.size, 2, none⟩ = some (.int .i64 i) := HST.out.act.cell 2
    have u1 := (HST.out.old.cell (p := ⟨g, _, none⟩) hg).trans u0
    have hb1 := HST.out.res.lt
    have hg1 : g < w1.heap.size := by omega
    clear u0
    rcases hi with t1 | t2
    · have d1 : decide (i < 0) = true := decide_eq_true t1
      go_quiet (fail)
      have HS2 := Lib.hid (HST.out.drewN nq)
      generalize w1.drewN nq = w2 at HS2 ⊢
      have r0 := HS2.out.res.cell 0
      have r1 := HS2.out.res.cell 1
      have f0 := HS2.out.res.frozen 0
      have f1 := HS2.out.res.frozen 1
      have hb2 := HS2.out.res.lt
      go_wp2
      clear r0 r1 f0 f1
      have HE := HS2.out.err H.out 1
      have t0 := HE.1.cell 0
      have t1 := HE.1.cell 1
      exact bodyPost_ret (v := .tuple #[.agg #[.int .i64 0, .slice none 0 0], .int .i64 1]) (by simp [results, Try.results39, go_sem, t0, t1]) rfl HE.2
    · have d1 : decide (i < 0) = false := decide_eq_false (by omega)
      go_quiet (fail)
      have HS2 := Lib.hid (HST.out.drewN nq)
      generalize w1.drewN nq = w2 at HS2 ⊢
      have r0 := HS2.out.res.cell 0
      have r1 := HS2.out.res.cell 1
      have f0 := HS2.out.res.frozen 0
      have f1 := HS2.out.res.frozen 1
      have hb2 := HS2.out.res.lt
      go_wp2
      clear r0 r1 f0 f1
      have HE := HS2.out.err H.out 1
      have t0 := HE.1.cell 0
      have t1 := HE.1.cell 1
      exact bodyPost_ret (v := .tuple #[.agg #[.int .i64 0, .slice none 0 0], .int .i64 1]) (by simp [results, Try.results39, go_sem, t0, t1]) rfl HE.2
/-- ahead of an act at a place: one count has turned -/
structure RatC (w W2 : World) (g : Nat) (S1 : Ns) (v : Bool → Value) (l : Bool → List LP) (k z i j m : Int) (A : Option Addr) (n c : Nat) (W : World) : Prop where
  net : NetR W g S1 v l
  act : Blk W w.heap.size 55 #[.int .i64 k, .int .i64 z, .int .i64 i, .int .i64 j, .int .u8 m, .slice A n c]
  res : Blk W (w.heap.size + 1) 36 #[.int .i64 0, .slice none 0 0]
  chg : Chg (NetF g v l) W2 W
  size : W.heap.size = W2.heap.size
theorem RatC.drew {w W2 W : World} {g : Nat} {S1 : Ns} {v : Bool → Value} {l : Bool → List LP} {k z i j m : Int} {A : Option Addr} {n c : Nat} (h : RatC w W2 g S1 v l k z i j m A n c W) : RatC w W2 g S1 v l k z i j m A n c W.drew :=
  ⟨h.net.below (Below.refl _ _).drew, h.act.below (Below.refl _ _).drew h.act.lt, h.res.below (Below.refl _ _).drew h.res.lt, h.chg.drew, h.size⟩
theorem RatS.count {w W : World} {k z i j m : Int} {A : Option Addr} {n c g : Nat} {S : Ns} {v : Bool → Value} {l : Bool → List LP} (h : RatS w k z i j m A n c W) (hn : NetR w g S v l) (s : Bool) (q : Nat) (hq : q < 7) :
    RatC w W g (S.add s q 1) v l k z i j m A n c (W.setCell ⟨g, rcntO s + q, none⟩ (.int .i64 ((S.c s).get q + 1))).drew := by
  have hg := hn.blk.lt
  have hd := fun W : World => (Below.refl W.heap.size W).drew
  have ha := h.act.far (p := ⟨g, rcntO s + q, none⟩) (by simp; omega) (.int .i64 ((S.c s).get q + 1))
  have hr := h.res.far (p := ⟨g, rcntO s + q, none⟩) (by simp; omega) (.int .i64 ((S.c s).get q + 1))
  exact ⟨((hn.below h.old).radd s q 1 hq).below (hd _), ha.below (hd _) ha.lt, hr.below (hd _) hr.lt, ((Chg.refl _ W).setCell (p := ⟨g, rcntO s + q, none⟩) (fun _ => .inl rfl) _).drew, by simp [World.setCell]⟩
/-- behind an act at a place: the packet lies in the result -/
theorem RatC.done {w W2 W W1 : World} {k z i j m : Int} {A B : Option Addr} {n c g d : Nat} {S S1 S2 : Ns} {v v' : Bool → Value} {l l' : Bool → List LP} {num : Int} {bytes : List UInt8} (hc : RatC w W2 g S1 v l k z i j m A n c W) (hs : RatS w k z i j m A n c W2) (h : NetR w g S v l)
    (hn : NetR W1 g S2 v' l') (hsub : ∀ k, NetF g v' l' k → NetF g v l k ∨ W.heap.size ≤ k) (hg : Chg (NetF g v l) W W1) (ho : OwnQ (NetF g v l) w.heap.size W1 (.slice B bytes.length d) bytes) (er : Int) :
    Blk W1 (w.heap.size + 1) 36 #[.int .i64 0, .slice none 0 0] ∧ Blk ((W1.setCell ⟨w.heap.size + 1, 0, none⟩ (.int .i64 num)).setCell ⟨w.heap.size + 1, 1, none⟩ (.slice B bytes.length d)) (w.heap.size + 1) 36 #[.int .i64 num, .slice B bytes.length d] ∧
    RStepP w g v l S2 num bytes er (.returned (.tuple #[.agg #[.int .i64 num, .slice B bytes.length d], .int .i64 er])) ((W1.setCell ⟨w.heap.size + 1, 0, none⟩ (.int .i64 num)).setCell ⟨w.heap.size + 1, 1, none⟩ (.slice B bytes.length d)) :=
  rat_end er h hs.old hs.res (by omega) hn (fun k hk => (hsub k hk).imp id fun e => by have := hc.size; omega) (hc.chg.trans hg (fun _ _ e => e)) ho
set_option maxRecDepth 20000 in
set_option maxHeartbeats 4000000 in
theorem rat_4 (g : Nat) (S : Ns) (v : Bool → Value) (l : Bool → List LP) (K : Int) (s : Bool) (i : Nat) (p : LP) (z j m : Int) (A : Option Addr) (n c : Nat) (w : World) (h : NetR w g S v l) (hk : S.ok K) (hK : K ≤ 4611686018427387900) (hp : (l s)[i]? = some p) :
    Calls Try.prog 39 #[.pointer (some ⟨g, 0, none⟩), .int .i64 4, .int .i64 (idxN s), actV 4 z i j m A n c] w (RStepP w g v l ((S.add s 2 1).take s i) p.pk.num p.pk.bytes 0) := by
  have u0 : w.cell? ⟨g, rwayO s, none⟩ = some (v s) := (h.blk.cell _).trans (layR_under _ _ s)
  have k0 : w.cell? ⟨g, rcntO s + 2, none⟩ = some (.int .i64 ((S.c s).get 2)) := (h.blk.cell _).trans (layR_get S v s 2 (by omega))
  have f0 := h.blk.frozen (rcntO s + 2)
  have hc0 := Cn.get_ok (hk.cn s) 2 (by omega)
  have e0 := hc0.1
  have e1 := Int.le_trans hc0.2 hK
  obtain ⟨A1, c1, hv, _, _⟩ := own_form (h.row s)
  rw [hv] at u0
  have hg : g < w.heap.size := h.blk.lt
  have hi : i < (l s).length := (List.getElem?_eq_some_iff.1 hp).1
  have HLL : Hid ((l s).length ≤ 64) := Lib.hid (by have := h.len s; have := hk.len s; have := hk.hi; omega)
  have l0 : decide ((i : Int) < 0) = false := decide_eq_false (by omega)
  have l1 : (i : Int) < ((l s).length : Int) := by omega
  have HPP := Lib.hid hp
  have HST := Lib.hid (RatS.start w 4 z i j m A n c)
  have H := Lib.hid h
  have HP := Lib.hid hp
  have HCT := Lib.hid fun (W : World) (hW : RatS w 4 z i j m A n c W) => hW.count h s 2 (by omega)
  have HOUT := Lib.hid fun (W : World) (hW : NetR W g (S.add s 2 1) v l) => rout_any g (S.add s 2 1) v l s i p W hW hp HLL.out
  clear h hv hk hc0 hp
  unfold actV
  generalize (S.c s).get 2 = cc at *
  cases s
  all_goals
    simp only [idxN, rwayO, rcntO] at *
    simp only [Nat.reduceAdd] at *
    go_enter Try.func39, Try.ntmps39
    go_upto_region 1 with fail
    generalize (w.alloc (.cells #[.int .i64 4, .int .i64 z, .int .i64 i, .int .i64 j, .int .u8 m, .slice A n c] 55)).alloc (.cells #[.int .i64 0, .slice none 0 0] 36) = w1 at *
    have a2 : w1.cell? ⟨w.heap.size, 2, none⟩ = some (.int .i64 i) := HST.out.act.cell 2
    have u1 := (HST.out.old.cell (p := ⟨g, _, none⟩) hg).trans u0
    have hb1 := HST.out.res.lt
    have hg1 : g < w1.heap.size := by omega
    clear u0
    go_quiet (fail)
    have HS2 := Lib.hid (HST.out.drewN nq)
    generalize w1.drewN nq = w2 at HS2 ⊢
    clear a2 u1 hb1 hg1
    have k1 := (HS2.out.old.cell (p := ⟨g, _, none⟩) hg).trans k0
    have f1 := (HS2.out.old.frozen (p := ⟨g, _, none⟩) hg).trans f0
    have hb2 := HS2.out.res.lt
    have hg2 : g < w2.heap.size := by omega
    have HC2 := Lib.hid (HCT.out w2 HS2.out)
    go_upto_region 5 with fail
    go_region
    all_goals
      generalize (w2.setCell _ _).drew = w3 at HC2 ⊢
      have a3 : w3.cell? ⟨w.heap.size, 2, none⟩ = some (.int .i64 i) := HC2.out.act.cell 2
      have hb3 := HC2.out.res.lt
      clear k1 f1 hb2 hg2
      go_wp2_with fail
      refine (HOUT.out w3 HC2.out.net).mono ?_
      rintro e w4 ⟨v1, rfl, hn4, hsub4, _, hc4, ho4⟩
      have HD := Lib.hid (HC2.out.done HS2.out H.out hn4 hsub4 (hc4.mono fun k _ e => .inl e) (OwnQ.old HPP.out ho4) 0 (num := p.pk.num))
      clear hn4 hsub4 hc4 ho4 a3 hb3
      have r0 := HD.out.1.cell 0
      have r1 := HD.out.1.cell 1
      have s0 := HD.out.1.frozen 0
      have s1 := HD.out.1.frozen 1
      have hb4 := HD.out.1.lt
      go_wp2
      clear r0 r1 s0 s1
      have t0 := HD.out.2.1.cell 0
      have t1 := HD.out.2.1.cell 1
      exact bodyPost_ret (v := .tuple #[.agg #[.int .i64 p.pk.num, .slice p.A p.pk.bytes.length p.c], .int .i64 0]) (by simp [results, Try.results39, go_sem, t0, t1]) rfl HD.out.2.2
set_option maxRecDepth 20000 in
set_option maxHeartbeats 4000000 in
theorem rat_5 (g : Nat) (S : Ns) (v : Bool → Value) (l : Bool → List LP) (K : Int) (s : Bool) (i : Nat) (p : LP) (z j m : Int) (A : Option Addr) (n c : Nat) (w : World) (h : NetR w g S v l) (hk : S.ok K) (hK : K ≤ 4611686018427387900) (hp : (l s)[i]? = some p) :
    Calls Try.prog 39 #[.pointer (some ⟨g, 0, none⟩), .int .i64 5, .int .i64 (idxN s), actV 5 z i j m A n c] w (RStepP w g v l ((S.add s 3 1).take s i) p.pk.num p.pk.bytes 0) := by
  have u0 : w.cell? ⟨g, rwayO s, none⟩ = some (v s) := (h.blk.cell _).trans (layR_under _ _ s)
  have k0 : w.cell? ⟨g, rcntO s + 3, none⟩ = some (.int .i64 ((S.c s).get 3)) := (h.blk.cell _).trans (layR_get S v s 3 (by omega))
  have f0 := h.blk.frozen (rcntO s + 3)
  have hc0 := Cn.get_ok (hk.cn s) 3 (by omega)
  have e0 := hc0.1
  have e1 := Int.le_trans hc0.2 hK
  obtain ⟨A1, c1, hv, _, _⟩ := own_form (h.row s)
  rw [hv] at u0
  have hg : g < w.heap.size := h.blk.lt
  have hi : i < (l s).length := (List.getElem?_eq_some_iff.1 hp).1
  have HLL : Hid ((l s).length ≤ 64) := Lib.hid (by have := h.len s; have := hk.len s; have := hk.hi; omega)
  have l0 : decide ((i : Int) < 0) = false := decide_eq_false (by omega)
  have l1 : (i : Int) < ((l s).length : Int) := by omega
  have HPP := Lib.hid hp
  have HST := Lib.hid (RatS.start w 5 z i j m A n c)
  have H := Lib.hid h
  have HP := Lib.hid hp
  have HCT := Lib.hid fun (W : World) (hW : RatS w 5 z i j m A n c W) => hW.count h s 3 (by omega)
  have HOUT := Lib.hid fun (W : World) (hW : NetR W g (S.add s 3 1) v l) => rout_any g (S.add s 3 1) v l s i p W hW hp HLL.out
  clear h hv hk hc0 hp
  unfold actV
  generalize (S.c s).get 3 = cc at *
  cases s
  all_goals
    simp only [idxN, rwayO, rcntO] at *
    simp only [Nat.reduceAdd] at *
    go_enter Try.func39, Try.ntmps39
    go_upto_region 1 with fail
    generalize (w.alloc (.cells #[.int .i64 5, .int .i64 z, .int .i64 i, .int .i64 j, .int .u8 m, .slice A n c] 55)).alloc (.cells #[.int .i64 0, .slice none 0 0] 36) = w1 at *
    have a2 : w1.cell? ⟨w.heap.size, 2, none⟩ = some (.int .i64 i) := HST.out.act.cell 2
    have u1 := (HST.out.old.cell (p := ⟨g, _, none⟩) hg).trans u0
    have hb1 := HST.out.res.lt
    have hg1 : g < w1.heap.size := by omega
    clear u0
    go_quiet (fail)
    have HS2 := Lib.hid (HST.out.drewN nq)
    generalize w1.drewN nq = w2 at HS2 ⊢
    clear a2 u1 hb1 hg1
    have k1 := (HS2.out.old.cell (p := ⟨g, _, none⟩) hg).trans k0
    have f1 := (HS2.out.old.frozen (p := ⟨g, _, none⟩) hg).trans f0
    have hb2 := HS2.out.res.lt
    have hg2 : g < w2.heap.size := by omega
    have HC2 := Lib.hid (HCT.out w2 HS2.out)
    go_upto_region 8 with fail
    go_region
    all_goals
      generalize (w2.setCell _ _).drew = w3 at HC2 ⊢
      have a3 : w3.cell? ⟨w.heap.size, 2, none⟩ = some (.int .i64 i) := HC2.out.act.cell 2
      have hb3 := HC2.out.res.lt
      clear k1 f1 hb2 hg2
      go_wp2_with fail
      refine (HOUT.out w3 HC2.out.net).mono ?_
      rintro e w4 ⟨v1, rfl, hn4, hsub4, _, hc4, ho4⟩
      have HD := Lib.hid (HC2.out.done HS2.out H.out hn4 hsub4 (hc4.mono fun k _ e => .inl e) (OwnQ.old HPP.out ho4) 0 (num := p.pk.num))
      clear hn4 hsub4 hc4 ho4 a3 hb3
      have r0 := HD.out.1.cell 0
      have r1 := HD.out.1.cell 1
      have s0 := HD.out.1.frozen 0
      have s1 := HD.out.1.frozen 1
      have hb4 := HD.out.1.lt
      go_wp2
      clear r0 r1 s0 s1
      have t0 := HD.out.2.1.cell 0
      have t1 := HD.out.2.1.cell 1
      exact bodyPost_ret (v := .tuple #[.agg #[.int .i64 p.pk.num, .slice p.A p.pk.bytes.length p.c], .int .i64 0]) (by simp [results, Try.results39, go_sem, t0, t1]) rfl HD.out.2.2
end Go.Proofs.Ytbkgphmocjjmmaa
