/-
  Parts PxQ, PxR, PxS, Tq of the proof. No statement of the seat is proved here.
-/
import Derived.Test.YtjhonaglmgmpiaaGreatDoorP19
import Derived.Test.YtjhonaglmgmpiaaGreatDoorP10
set_option maxHeartbeats 4000000
namespace Go.Proofs.YtjhonaglmgmpiaaGreatDoor
open Go.RowKit
def frameE (g t2 t3 : Nat) (q : Bool) (us : Nat → Value) : Act := ⟨#[.pointer (some ⟨g, 0, none⟩), us 1, .pointer (some ⟨t2, 0, none⟩), .pointer (some ⟨t3, 0, none⟩), us 4, us 5, us 6, us 7, us 8, us 9, us 10, us 11, us 12, us 13, us 14, us 15, us 16, us 17, us 18, us 19, us 20, us 21, us 22, us 23, us 24, us 25, us 26, us 27, us 28, us 29, us 30, us 31, us 32, us 33, us 34, us 35, us 36, us 37, .bool q, us 39, us 40, us 41, us 42, us 43, us 44, us 45, us 46, us 47, us 48, us 49, us 50, us 51, us 52, us 53, us 54, us 55, us 56, us 57, us 58, us 59, us 60, us 61, us 62, us 63, us 64, us 65, us 66, us 67, us 68, us 69, us 70, us 71, us 72, us 73, us 74, us 75, us 76, us 77, us 78, us 79, us 80, us 81, us 82, us 83, us 84, us 85, us 86, us 87, us 88, us 89, us 90, us 91, us 92, us 93, us 94, us 95, us 96, us 97, us 98, us 99, us 100, us 101, us 102, us 103, us 104, us 105, us 106, us 107, us 108, us 109, us 110, us 111, us 112, us 113, us 114, us 115, us 116, us 117, us 118, us 119, us 120, us 121, us 122], []⟩
theorem frameE_ex {g t2 t3 : Nat} {q : Bool} {a : Act} (h : a = frameE g t2 t3 q fun i => a.tmps.getD i undef) : ∃ us, a = frameE g t2 t3 q us := ⟨_, h⟩
theorem AcS.put2 {w wr : World} {g c fin base ts t2 kind place lo : Nat} {A : Option Addr} {T : List Lx.Tk} {s' : Ps.PS} {nm : Lx.Txt} {v : Value} {tr tr2 : Ps.Tr} {x0 x1 x2 x3 x4 x5 x6 y0 y1 y2 y3 y4 y5 y6 : Value} (h : AcS w g A c T fin base ts t2 kind place s' nm [] v wr) (ht : TrM wr lo (fun k => k = ts) [x0, x1, x2, x3, x4, x5, x6] tr) (hu : TrM wr lo (fun k => k = ts) [y0, y1, y2, y3, y4, y5, y6] tr2) (hbl : base ≤ lo) (hlo : t2 < lo) (hbw : base ≤ w.heap.size) :
  AcS w g A c T fin base ts t2 kind place s' nm [tr, tr2] (.slice (some ⟨wr.heap.size, 0, none⟩) 2 2) ((wr.setCell ⟨ts, 4, none⟩ (.slice (some ⟨wr.heap.size, 0, none⟩) 2 2)).alloc (.cells #[x0, x1, x2, x3, x4, x5, x6, y0, y1, y2, y3, y4, y5, y6] 27)) := by
 obtain ⟨l1, l2, l3, l4, _⟩ := h.lts
 have hs := h.env.size
 rw [← set_alloc _ _ _ _ _ l1]
 have h1 : TsM (wr.alloc (.cells #[x0, x1, x2, x3, x4, x5, x6, y0, y1, y2, y3, y4, y5, y6] 27)) base (fun k => k = ts ∨ k = t2) (.slice (some ⟨wr.heap.size, 0, none⟩) 2 2) [tr, tr2] := TsM.two (TrM.low (TrM.swap ht (X' := fun k => k = ts ∨ k = t2) fun k hk _ e => by omega) hbl) (TrM.low (TrM.swap hu (X' := fun k => k = ts ∨ k = t2) fun k hk _ e => by omega) hbl) (by omega) (by omega)
 exact ⟨(h.env.alloc _).put 0 rfl 4 _, h1.store (chg_set _ _ _ _) fun _ e => .inl e, h.bd, fun k hk => by rw [slot_own hk]; omega⟩
theorem casL_stop {T : List Lx.Tk} {fin f : Nat} {l : List Ps.Tr} {s : Ps.PS} (h : (Ps.ok s && Ps.is_ T fin s [59]) = false) : Ps.casL T fin f l s = (l, s) := by
 cases f with
 | zero => unfold Ps.casL; rfl
 | succ f => unfold Ps.casL; rw [if_neg (by rw [h]; decide)]
theorem TrIn.vals {w : World} {S : Nat → Prop} {k pl : Nat} {nm : Lx.Txt} {x2 x3 x4 x5 : Value} {t : Ps.Tr} (h : TrIn w S [.int .i64 (k : Int), .string ⟨nm.toArray⟩, x2, x3, x4, x5, .int .i64 (pl : Int)] t) : t.name = nm ∧ t.place = pl := by
 cases h
 exact ⟨rfl, rfl⟩
set_option maxRecDepth 100000 in
set_option maxHeartbeats 8000000 in
theorem pexpr_any {g c fin F : Nat} {A : Option Addr} {T : List Lx.Tk} (hT : Ps.Fits 65536 T) (ih : ∀ f, f < F → WAll g A c T fin f) (s : Ps.PS) (w : World) (h : PA w g A c T fin s) (hb : Bd T s) (hf : Ps.rem T s + 8 ≤ F) :
  Calls Tryz.prog 77 #[.pointer (some ⟨g, 0, none⟩)] w (NdP w g A c T fin w.heap.size (Ps.expr T fin F s)) := by
 have hTl := hT.len
 have hat := hb.at_
 have E0 := (Env.start h).box 27 [.int .i64 0, .string ⟨#[]⟩, .slice none 0 0, .slice none 0 0, .slice none 0 0, .int .i64 0, .int .i64 0] (by decide)
 obtain ⟨f, rfl⟩ : ∃ f, F = f + 1 := ⟨F - 1, by omega⟩
 obtain ⟨t, ht⟩ : ∃ t, Ps.nx T fin s = t := ⟨_, rfl⟩
 obtain ⟨R, hR⟩ : ∃ R, Ps.expr T fin (f + 1) s = R := ⟨_, rfl⟩
 have HN := Hd (pnext_any E0.pa)
 rw [ht] at HN
 obtain ⟨q, hq⟩ : ∃ q, (t.1 == 1 && decide (s.at_ + 1 < T.length) && Ps.isM (T.getD (s.at_ + 1) (0, [], fin)) [58, 61]) = q := ⟨_, rfl⟩
 have HQ := Hd hq
 have HR := Hd hR
 have HT := Hd ht
 have HB := Hd hb
 have IH := Hd ih
 have hgb : g < w.heap.size := h.lt
 rw [hR]
 clear h hb hR hq ht ih
 go_enter Tryz.func77, Tryz.ntmps77
 go_upto_region 2 with (go_at_call 28; refine HN.out.mono ?_; rintro e w1 ⟨rfl, hb1⟩; have E1 := E0.below hb1; clear hb1)
 refine wp_env (E1.box 37 [_, _, _] (by decide)) fun w2 E2 => ?_
 obtain ⟨ts, hts⟩ : ∃ ts, w1.heap.size = ts := ⟨_, rfl⟩
 rw [hts] at E2 ⊢
 clear E0 E1 HN hts
 refine Code.wp_mono (Q := fun e a W => e = .normal ∧ (∃ us, a = frameE g w.heap.size ts q us) ∧ Below w2.heap.size w2 W) ?post ?reg
 case reg =>
  obtain ⟨a, a0, a1, a2⟩ := E2.c3 0 rfl
  have hg := E2.pa.lt
  obtain ⟨k0, k1, k2, k3⟩ := E2.pa.cells
  by_cases h1 : t.1 = 1
  ·have d1 : ((t.1 : Int) == 1) = true := by rw [h1]; rfl
   by_cases hl : s.at_ + 1 < T.length
   ·have HQ2 : Hid (Ps.isM (T.getD (s.at_ + 1) (0, [], fin)) [58, 61] = q) := Hd (by rw [← HQ.out, h1]; simp [hl])
    obtain ⟨bb, off, rfl, hbg, hbw, t0, t1, t2⟩ := E2.pa.tok hl
    generalize T.getD (s.at_ + 1) (0, [], fin) = n at *
    have HM := Hd fun W => pmark_any n [58, 61] W
    rw [HQ2.out] at HM
    obtain ⟨j, hj⟩ : ∃ j, s.at_ + 1 = j := ⟨_, rfl⟩
    have hji : (s.at_ : Int) + 1 = (j : Int) := by omega
    have hwr : IntKind.i64.wrap (j : Int) = (j : Int) := by rw [IntKind.wrap_i64]; omega
    rw [hj] at t0 t1 t2 hl
    have l1 : (0 : Int) ≤ (j : Int) := by omega
    have l2 : (j : Int) < (T.length : Int) := by omega
    clear hj h1 HQ HQ2
    go_region_held3 (fun W => W.cell? ⟨ts, 0, none⟩ = some (.int .i64 (t.1 : Int)) ∧ W.cell? ⟨g, 0, none⟩ = some (.slice (some ⟨bb, off, none⟩) T.length c) ∧ W.cell? ⟨g, 1, none⟩ = some (.int .i64 (s.at_ : Int)) ∧ W.cell? ⟨bb, off + j * 3, none⟩ = some (.int .i64 (n.1 : Int)) ∧ W.cell? ⟨bb, off + j * 3 + 1, none⟩ = some (.string ⟨n.2.1.toArray⟩) ∧ W.cell? ⟨bb, off + j * 3 + 2, none⟩ = some (.int .i64 (n.2.2 : Int))    )
     (first | go_keep | exact ⟨(HBW.out.cell (by assumption)).trans a0, (HBW.out.cell (by assumption)).trans k0, (HBW.out.cell (by assumption)).trans k1, (HBW.out.cell (by assumption)).trans t0, (HBW.out.cell (by assumption)).trans t1, (HBW.out.cell (by assumption)).trans t2⟩)
     (first | (go_at_call 71; refine (HM.out _).mono ?_; rintro e w5 ⟨rfl, hb⟩; have HBW := Hd ((Below.refl w2.heap.size w2).drew.trans hb); clear hb))
    exact ⟨rfl, frameE_ex rfl, HBW.out⟩
   ·have hq0 : q = false := by rw [← HQ.out]; simp [hl]
    subst hq0
    obtain ⟨j, hj⟩ : ∃ j, s.at_ + 1 = j := ⟨_, rfl⟩
    have hji : (s.at_ : Int) + 1 = (j : Int) := by omega
    have hwr : IntKind.i64.wrap (j : Int) = (j : Int) := by rw [IntKind.wrap_i64]; omega
    have l2 : ¬ (j : Int) < (T.length : Int) := by omega
    clear h1 HQ
    go_quiet (fail)
    exact ⟨rfl, frameE_ex rfl, below_drewN (Below.refl _ _) _⟩
  ·have d1 : ((t.1 : Int) == 1) = false := natInt (by omega)
   have hq0 : q = false := by rw [← HQ.out]; simp [h1]
   subst hq0
   clear h1 HQ
   go_quiet (fail)
   exact ⟨rfl, frameE_ex rfl, below_drewN (Below.refl _ _) _⟩
 case post =>
  rintro e a W ⟨rfl, ⟨us, rfl⟩, hbW⟩
  have E3 := E2.below hbW
  clear hbW E2
  dsimp only [Exit.then]
  rename_i K2 hK2
  refine hK2 _ _ ?_
  clear hK2 K2
  unfold frameE
  cases q with
  | true =>
   have hl : s.at_ + 1 < T.length := by
    have := HQ.out
    simp only [Bool.and_eq_true, decide_eq_true_eq] at this
    exact this.1.2
   have HU : Hid (R = if Ps.resv t.2.1 = true then (Ps.Tr.zero, Ps.rf s t.2.2 126) else (Ps.nd 4 t.2.1 [(Ps.expr T fin f (Ps.adv (Ps.adv s))).1] t.2.2, (Ps.expr T fin f (Ps.adv (Ps.adv s))).2)) := Hd (by rw [← HR.out, Ps.expr]; dsimp only; rw [HT.out, if_pos HQ.out])
   have HRV := Hd fun W => preserved_any t.2.1 W
   obtain ⟨a, a0, a1, a2⟩ := E3.c3 0 rfl
   cases hv : Ps.resv t.2.1 with
   | true =>
    have HE : Hid (R = (Ps.Tr.zero, Ps.rf s t.2.2 126)) := Hd (by rw [HU.out, if_pos hv])
    rw [hv] at HRV
    clear hv
    go_wp2_with (first
     | (go_at_call 72; refine (HRV.out _).mono ?_; rintro e w4 ⟨rfl, hb⟩; have E4 := E3.below hb; clear hb; obtain ⟨a, a0, a1, a2⟩ := E4.c3 0 rfl)
     | (go_at_call 74; refine (prefuse_any E4.pa t.2.2 126).mono ?_; rintro e w5 ⟨rfl, hp⟩; have E5 := E4.call hp; clear hp; obtain ⟨b, b0, b1, b2, b3, b4, b5, b6⟩ := E5.c7 1 rfl; have fz := E5.fz 1 rfl))
    have E9 := E5.put7 1 rfl (.int .i64 0) (.string ⟨#[]⟩) (.slice none 0 0) (.slice none 0 0) (.slice none 0 0) (.int .i64 0) (.int .i64 0)
    refine bodyPost_ret (ret26 rfl _ _ rfl (E9.blk 1 rfl)) rfl ?_
    rw [HE.out]
    exact ⟨_, rfl, E9.pp, HB.out.rf _ _, TrM.zero _ _ _⟩
   | false =>
    obtain ⟨pe, hpe⟩ : ∃ x, Ps.expr T fin f (Ps.adv (Ps.adv s)) = x := ⟨_, rfl⟩
    have HE : Hid (R = (Ps.nd 4 t.2.1 [pe.1] t.2.2, pe.2)) := Hd (by rw [HU.out, if_neg (by rw [hv]; decide), hpe])
    have hra := Ps.rem_adv (T := T) (s := s) (s' := Ps.adv (Ps.adv s)) (by show s.at_ < s.at_ + 1 + 1; omega) (by omega)
    have HBD := Hd ((HB.out.adv (by omega)).adv (s := Ps.adv s) (by show s.at_ + 1 < T.length; omega))
    have HEX := Hd fun (W : World) (h : PA W g A c T fin (Ps.adv (Ps.adv s))) => (IH.out f (by omega)).expr (Ps.adv (Ps.adv s)) W h HBD.out (by omega)
    rw [hpe] at HEX
    rw [hv] at HRV
    clear hv hpe
    go_upto_region 6 with (go_at_call 72; refine (HRV.out _).mono ?_; rintro e w4 ⟨rfl, hb⟩; have E4 := E3.below hb; clear hb; obtain ⟨a, a0, a1, a2⟩ := E4.c3 0 rfl; obtain ⟨k0, k1, k2, k3⟩ := E4.pa.cells; have kf := E4.pa.frz 1; have hg := E4.pa.lt)
    refine wp_env (s := Ps.adv (Ps.adv s)) (E4.setAt (s.at_ + 2) _ (by first | rfl | omega)) fun w5 E5 => ?_
    clear a a0 a1 a2 k0 k1 k2 k3 kf hg E4 E3
    obtain ⟨a, a0, a1, a2⟩ := E5.c3 0 rfl
    refine wp_region_x (s := 8) (S := fun W => W.cell? ⟨ts, 1, none⟩ = some (.string ⟨t.2.1.toArray⟩) ∧ W.cell? ⟨ts, 2, none⟩ = some (.int .i64 (t.2.2 : Int))) (by kernel_rfl) ⟨a1, a2⟩ (fun hHeld => ?_)
    refine xt (i := 0) ?_
    refine xt (i := 1) ?_
    refine xt (i := 2) ?_
    refine xt (i := 5) ?_
    refine xt (i := 6) ?_
    refine x1 (i := 3) (fun K2 hK2 => ?_)
    go_simp
    go_at_call 77
    refine (HEX.out _ E5.drew.pa).mono ?_
    rintro e w6 ⟨cs6, rfl, hp6, hb6, ht6⟩
    have hz6 := hp6.1.size
    have E6 := E5.drew.call hp6
    obtain ⟨y, y0, y1, y2⟩ := E6.c3 0 rfl
    obtain ⟨b, b0, b1, b2, b3, b4, b5, b6⟩ := E6.c7 1 rfl
    have fz := E6.fz 1 rfl
    obtain ⟨p0, p1, C1, o1, e1, C2, o2, e2, C3, o3, e3, p5, p6, rfl⟩ := ht6.form
    have HT6 := Hd ht6
    have HP6 := Hd hp6
    have HB6 := Hd hb6
    clear hp6 ht6 hb6
    refine hK2.out _ _ (⟨y1, y2⟩) (fun hHeld => ?_)
    clear hK2 K2
    refine x1 (i := 4) (fun K2 hK2 => ?_)
    go_simp
    refine hK2.out _ _ (by go_keep) (fun hHeld => ?_)
    clear hK2 K2
    refine x1 (i := 7) (fun K2 hK2 => ?_)
    go_simp
    refine hK2.out _ _ (hHeld) (fun hHeld => ?_)
    clear hK2 K2
    try simp only [Act.put, List.setIfInBounds_toArray, List.set_cons_zero, List.set_cons_succ]
    refine xl (fun K2 hK2 => ?_)
    go_simp
    refine hK2.out _ _ ?_
    clear hK2 K2
    try simp only [Act.put, List.setIfInBounds_toArray, List.set_cons_zero, List.set_cons_succ]
    refine wpAnyX_done (by kernel_rfl) ?_ _
    go_wp2
    have E7 := (E6.alloc (.cells #[.int .i64 (p0 : Int), .string ⟨p1.toArray⟩, .slice C1 o1 e1, .slice C2 o2 e2, .slice C3 o3 e3, .int .i64 (p5 : Int), .int .i64 (p6 : Int)] 27)).put7 1 rfl (.int .i64 4) (.string ⟨t.2.1.toArray⟩) (.slice none 0 0) (.slice none 0 0) (.slice (some ⟨w6.heap.size, 0, none⟩) 1 1) (.int .i64 0) (.int .i64 (t.2.2 : Int))
    rw [set7_alloc _ _ _ _ _ _ _ _ _ _ b]
    refine bodyPost_ret (ret26 rfl _ _ rfl (E7.blk 1 rfl)) rfl ?_
    rw [HE.out]
    have b5 := (E5.blk 1 rfl).lt
    have z6 : w5.drew.heap.size = w5.heap.size := rfl
    have h1 := TsM.one (X := fun k => k = w.heap.size) (TrM.low (TrM.swap HT6.out (X' := fun k => k = w.heap.size) fun k hk _ e => by omega) E5.drew.size) (by omega) (by omega)
    exact ⟨_, rfl, E7.pp, HB6.out, TrM.swap ((TrM.nd 4 t.2.1 t.2.2 h1).store (chg_set7 _ _ _ _ _ _ _ _ _) fun k e => e) (fun k _ _ e => e.elim)⟩
  | false =>
   obtain ⟨pa, hpa⟩ : ∃ x, Ps.prim T fin f s = x := ⟨_, rfl⟩
   obtain ⟨pu, hpu⟩ : ∃ x, Ps.unaL T fin (T.length + 2) pa.1 pa.2 = x := ⟨_, rfl⟩
   obtain ⟨pb, hpb⟩ : ∃ x, Ps.binL_ T fin f pu.1 pu.2 = x := ⟨_, rfl⟩
   obtain ⟨pk, hpk⟩ : ∃ x, Ps.keyw T fin f pb.1 pb.2 = x := ⟨_, rfl⟩
   have HU : Hid (R = if (!Ps.ok pk.2 || !Ps.is_ T fin pk.2 [59]) = true then pk else if (!Ps.sent pa.1 pk.1) = true then (Ps.Tr.zero, Ps.odd T fin pk.2) else (Ps.nd 6 [] (Ps.casL T fin f [pk.1.nodes.headD Ps.Tr.zero, Ps.nd 7 pk.1.name pk.1.nodes.tail pk.1.place] pk.2).1 pk.1.place, (Ps.casL T fin f [pk.1.nodes.headD Ps.Tr.zero, Ps.nd 7 pk.1.name pk.1.nodes.tail pk.1.place] pk.2).2)) := Hd (by rw [← HR.out, Ps.expr]; dsimp only; rw [HT.out, if_neg (by rw [HQ.out]; decide), hpa, hpu, hpb, hpk])
   have HNE := Hd (Ps.sent_ne (T := T) (fin := fin) (f := f) (s := s) (a := pa.1) (k := pk) (by rw [hpa, hpu, hpb, hpk]))
   have hra := Ps.rem_le (T := T) (s := s) (s' := pa.2) (by rw [← hpa]; exact ((Ps.leAll T fin f).prim s).at_)
   have hrb := Ps.rem_le (T := T) (s := pa.2) (s' := pu.2) (by rw [← hpu]; exact (Ps.le_unaL T fin (T.length + 2) pa.1 pa.2).at_)
   have hrc := Ps.rem_le (T := T) (s := pu.2) (s' := pb.2) (by rw [← hpb]; exact ((Ps.leAll T fin f).binL_ pu.1 pu.2).at_)
   have hrd := Ps.rem_le (T := T) (s := pb.2) (s' := pk.2) (by rw [← hpk]; exact ((Ps.leAll T fin f).keyw pb.1 pb.2).at_)
   have HPR := Hd fun (W : World) (h : PA W g A c T fin s) => (IH.out f (by omega)).prim s W h HB.out (by omega)
   have HUN := Hd fun (W : World) (base : Nat) (cs : List Value) (hp : PA W g A c T fin pa.2) (hb : Bd T pa.2) (ht : TrM W base (fun _ => False) cs pa.1) (h7 : g < base) (h8 : base ≤ W.heap.size) => punar_any hp hb hTl ht h7 h8
   have HBI := Hd fun (W : World) (base : Nat) (cs : List Value) (hp : PA W g A c T fin pu.2) (hb : Bd T pu.2) (ht : TrM W base (fun _ => False) cs pu.1) (h7 : g < base) (h8 : base ≤ W.heap.size) => (IH.out f (by omega)).binL base cs pu.1 pu.2 W hp hb ht h7 h8 (by omega)
   have HKW := Hd fun (W : World) (base : Nat) (cs : List Value) (hp : PA W g A c T fin pb.2) (hb : Bd T pb.2) (ht : TrM W base (fun _ => False) cs pb.1) (h7 : g < base) (h8 : base ≤ W.heap.size) => (IH.out f (by omega)).keyw base cs pb.1 pb.2 W hp hb ht h7 h8 (by omega)
   rw [hpa] at HPR
   rw [hpu] at HUN
   rw [hpb] at HBI
   rw [hpk] at HKW
   clear hpa hpu hpb hpk HQ HR HT
   obtain ⟨z3, hz3⟩ : ∃ z, W.heap.size = z := ⟨_, rfl⟩
   have l0 := (E3.blk 0 rfl).lt
   have l1 := (E3.blk 1 rfl).lt
   have lts := E3.lo 0 rfl
   have hne := E3.nd 0 1 _ _ rfl rfl (by decide)
   go_upto_region 8 with (go_at_call 122; refine (HPR.out _ E3.pa).mono ?_; rintro e w4 ⟨cs4, rfl, hp4, hb4, ht4⟩; have hz4 := hp4.1.size; have E4 := E3.call hp4; have HB4 := Hd hb4; obtain ⟨p0, p1, pA, op1, ep1, pB, op2, ep2, pC, op3, ep3, p5, p6, rfl⟩ := ht4.form; have HT4 := Hd ht4; clear hp4 hb4 ht4)
   refine wp_env2 (E4.box 27 [.int .i64 (p0 : Int), .string ⟨p1.toArray⟩, .slice pA op1 ep1, .slice pB op2 ep2, .slice pC op3 ep3, .int .i64 (p5 : Int), .int .i64 (p6 : Int)] (by decide)) (fun W' => TrM W' W.heap.size (fun _ => False) [.int .i64 (p0 : Int), .string ⟨p1.toArray⟩, .slice pA op1 ep1, .slice pB op2 ep2, .slice pC op3 ep3, .int .i64 (p5 : Int), .int .i64 (p6 : Int)] pa.1) (HT4.out.below (new_below _ _)) fun w5 E5 ht5 => ?_
   have HT5 := Hd ht5
   have l5 := (E5.blk 0 rfl).lt
   have g3 := E3.pa.lt
   clear ht5 E4 HT4 hz3
   obtain ⟨a, a0, a1, a2, a3, a4, a5, a6⟩ := E5.c7 0 rfl
   go_upto_region 9 with (first
    | (go_at_call 125; refine (HUN.out _ _ _ E5.pa HB4.out HT5.out g3 (by omega)).mono ?_; rintro e w6 ⟨cs6, rfl, hp6, hb6, ht6⟩; have hz6 := hp6.1.size; have E6 := E5.call hp6; have HB6 := Hd hb6; have HT6 := Hd ht6; have HP6 := Hd (HT5.out.call hp6.1 g3); clear hp6 hb6 ht6)
    | (go_at_call 124; refine (HBI.out _ _ _ E6.pa HB6.out HT6.out g3 (by omega)).mono ?_; rintro e w7 ⟨cs7, rfl, hp7, hb7, ht7⟩; have hz7 := hp7.1.size; have E7 := E6.call hp7; have HB7 := Hd hb7; have HT7 := Hd ht7; have HP7 := Hd (HP6.out.call hp7.1 g3); clear hp7 hb7 ht7)
    | (go_at_call 123; refine (HKW.out _ _ _ E7.pa HB7.out HT7.out g3 (by omega)).mono ?_; rintro e w8 ⟨cs8, rfl, hp8, hb8, ht8⟩; have hz8 := hp8.1.size; have E8 := E7.call hp8; have HB8 := Hd hb8; obtain ⟨q0, q1, qA, oq1, eq1, qB, oq2, eq2, qC, oq3, eq3, q5, q6, rfl⟩ := ht8.form; have HT8 := Hd ht8; have HP8 := Hd (HP7.out.call hp8.1 g3); clear hp8 hb8 ht8))
   refine wp_env2 (E8.box 27 [.int .i64 (q0 : Int), .string ⟨q1.toArray⟩, .slice qA oq1 eq1, .slice qB oq2 eq2, .slice qC oq3 eq3, .int .i64 (q5 : Int), .int .i64 (q6 : Int)] (by decide)) (fun W' => TrM W' W.heap.size (fun _ => False) [.int .i64 (q0 : Int), .string ⟨q1.toArray⟩, .slice qA oq1 eq1, .slice qB oq2 eq2, .slice qC oq3 eq3, .int .i64 (q5 : Int), .int .i64 (q6 : Int)] pk.1 ∧ TrM W' W.heap.size (fun _ => False) [.int .i64 (p0 : Int), .string ⟨p1.toArray⟩, .slice pA op1 ep1, .slice pB op2 ep2, .slice pC op3 ep3, .int .i64 (p5 : Int), .int .i64 (p6 : Int)] pa.1) ⟨HT8.out.below (new_below _ _), HP8.out.below (new_below _ _)⟩ fun w9 E9 ht9 => ?_
   have HT9 := Hd ht9.1
   have HP9 := Hd ht9.2
   obtain ⟨k5, hk5⟩ : ∃ k, w8.heap.size = k := ⟨_, rfl⟩
   obtain ⟨k4', hk4'⟩ : ∃ k, w4.heap.size = k := ⟨_, rfl⟩
   have l6 : k4' < k5 := by omega
   have l7 : W.heap.size ≤ k4' := by omega
   rw [hk5, hk4'] at E9
   rw [hk5, hk4']
   clear ht9 E5 E6 E7 E8 HT6 HT7 HT8 HP6 HP7 HP8 HT5 HB6 HB7 HB4 a a0 a1 a2 a3 a4 a5 a6 hk5 hk4' hz4 hz6 hz7 hz8 l5 HUN HBI HKW HPR E3
   have E9 := E9
   obtain ⟨a, a0, a1, a2, a3, a4, a5, a6⟩ := E9.c7 0 rfl
   have hg := E9.pa.lt
   have HTX := Hd HT9.out
   cases hk : Ps.ok pk.2 with
   | false =>
    have HE : Hid (R = pk) := Hd (by rw [HU.out, if_pos (by rw [hk]; rfl)])
    obtain ⟨kq, k4⟩ := E9.pa.noc hk
    obtain ⟨b, b0, b1, b2, b3, b4, b5, b6⟩ := E9.c7 3 rfl
    have fz := E9.fz 3 rfl
    clear hk
    go_wp2
    have EF := E9.put7 3 rfl (.int .i64 (q0 : Int)) (.string ⟨q1.toArray⟩) (.slice qA oq1 eq1) (.slice qB oq2 eq2) (.slice qC oq3 eq3) (.int .i64 (q5 : Int)) (.int .i64 (q6 : Int))
    refine bodyPost_ret (ret26 rfl _ _ rfl (EF.blk 3 rfl)) rfl ?_
    rw [HE.out]
    exact ⟨_, rfl, EF.pp, HB8.out, TrM.low ((HT9.out).chg (chg_set7 _ _ _ _ _ _ _ _ _) (fun k h1 _ _ e => by omega)) (by omega)⟩
   | true =>
    have k4 := E9.pa.okc hk
    have HI := Hd fun (W : World) (h : PA W g A c T fin pk.2) => pis_any h [59]
    cases hi : Ps.is_ T fin pk.2 [59] with
    | false =>
     have HE : Hid (R = pk) := Hd (by rw [HU.out, if_pos (by rw [hk, hi]; rfl)])
     rw [hi] at HI
     clear hi hk
     go_wp2_with (go_at_call 75; refine (HI.out _ E9.pa).mono ?_; rintro e w10 ⟨rfl, hb⟩; have E10 := E9.below hb; have HT10 := Hd (HT9.out.below hb); obtain ⟨a, a0, a1, a2, a3, a4, a5, a6⟩ := E10.c7 0 rfl; obtain ⟨b, b0, b1, b2, b3, b4, b5, b6⟩ := E10.c7 3 rfl; have fz := E10.fz 3 rfl; clear hb)
     have EF := E10.put7 3 rfl (.int .i64 (q0 : Int)) (.string ⟨q1.toArray⟩) (.slice qA oq1 eq1) (.slice qB oq2 eq2) (.slice qC oq3 eq3) (.int .i64 (q5 : Int)) (.int .i64 (q6 : Int))
     refine bodyPost_ret (ret26 rfl _ _ rfl (EF.blk 3 rfl)) rfl ?_
     rw [HE.out]
     exact ⟨_, rfl, EF.pp, HB8.out, TrM.low ((HT10.out).chg (chg_set7 _ _ _ _ _ _ _ _ _) (fun k h1 _ _ e => by omega)) (by omega)⟩
    | true =>
     rw [hi] at HI
     have HSE := Hd fun (W0 : World) => psent_any HP9.out HT9.out W0
     obtain ⟨aa, aa0, aa1, aa2, aa3, aa4, aa5, aa6⟩ := E9.c7 1 rfl
     have A33 := Hd HI.out
     cases hse : Ps.sent pa.1 pk.1 with
     | false =>
      have HE : Hid (R = (Ps.Tr.zero, Ps.odd T fin pk.2)) := Hd (by rw [HU.out, if_neg (by rw [hk, hi]; decide), if_pos (by rw [hse]; rfl)])
      rw [hse] at HSE
      clear hi hk hse
      go_wp2_with (first
       | (go_at_call 75; refine (HI.out _ E9.pa).mono ?_; rintro e w10 ⟨rfl, hb⟩; have E10 := E9.below hb; obtain ⟨a, a0, a1, a2, a3, a4, a5, a6⟩ := E10.c7 0 rfl; obtain ⟨aa, aa0, aa1, aa2, aa3, aa4, aa5, aa6⟩ := E10.c7 1 rfl; clear hb)
       | (go_at_call 126; refine (HSE.out _).mono ?_; rintro e w11 ⟨rfl, hb⟩; have E11 := E10.below hb; clear hb)
       | (go_at_call 32; refine (podd_any E11.pa).mono ?_; rintro e w12 ⟨rfl, hp⟩; have E12 := E11.call hp; obtain ⟨b, b0, b1, b2, b3, b4, b5, b6⟩ := E12.c7 3 rfl; have fz := E12.fz 3 rfl; clear hp))
      have EF := E12.put7 3 rfl (.int .i64 0) (.string ⟨#[]⟩) (.slice none 0 0) (.slice none 0 0) (.slice none 0 0) (.int .i64 0) (.int .i64 0)
      refine bodyPost_ret (ret26 rfl _ _ rfl (EF.blk 3 rfl)) rfl ?_
      rw [HE.out]
      exact ⟨_, rfl, EF.pp, HB8.out.rf _ _, TrM.zero _ _ _⟩
     | true =>
      have hne5 := HNE.out hse
      have HE : Hid (R = (Ps.nd 6 [] (Ps.casL T fin f [pk.1.nodes.headD Ps.Tr.zero, Ps.nd 7 pk.1.name pk.1.nodes.tail pk.1.place] pk.2).1 pk.1.place, (Ps.casL T fin f [pk.1.nodes.headD Ps.Tr.zero, Ps.nd 7 pk.1.name pk.1.nodes.tail pk.1.place] pk.2).2)) := Hd (by rw [HU.out, if_neg (by rw [hk, hi]; decide), if_neg (by rw [hse]; decide)])
      rw [hse] at HSE
      clear hi hk hse
      go_upto_region 13 with (first
       | (go_at_call 75; refine (HI.out _ E9.pa).mono ?_; rintro e w10 ⟨rfl, hb⟩; have E10 := E9.below hb; have HT10 := Hd (HT9.out.below hb); obtain ⟨a, a0, a1, a2, a3, a4, a5, a6⟩ := E10.c7 0 rfl; obtain ⟨aa, aa0, aa1, aa2, aa3, aa4, aa5, aa6⟩ := E10.c7 1 rfl; clear hb)
       | (go_at_call 126; refine (HSE.out _).mono ?_; rintro e w11 ⟨rfl, hb⟩; have E11 := E10.below hb; have HT11 := Hd (HT10.out.below hb); clear hb))
      clear aa aa0 aa1 aa2 aa3 aa4 aa5 aa6 a a0 a1 a2 a3 a4 a5 a6 E9 E10 HT9 HT10 HP9 HTX HSE HI A33 k4
      obtain ⟨a, a0, a1, a2, a3, a4, a5, a6⟩ := E11.c7 0 rfl
      obtain ⟨hnm, hpl⟩ := HT11.out.vals
      obtain ⟨hn0, hnc, bb, off, x0, x1, x2, x3, x4, x5, x6, rfl, ⟨hbb1, hbb2, -⟩, -, -⟩ := HT11.out.parts hne5
      go_upto_region 14 with fail
      have hA := AcS.start (kind := 6) (base := w.heap.size) E11 3 rfl rfl (TsM.nil w11 w.heap.size (fun k => k = w.heap.size)) rfl HB8.out (fun k hk => by simp [Value.ownBlock] at hk) (place := q6) (nm := [])
      obtain ⟨k6, hk6⟩ : ∃ k, w11.heap.size = k := ⟨_, rfl⟩
      have l8 : k5 < k6 := by rw [← hk6]; exact a
      refine wp_world (fun W' => AcS w g A c T fin w.heap.size k6 w.heap.size 6 q6 pk.2 [] [] (.slice none 0 0) W' ∧ Blk W' k5 27 #[.int .i64 (q0 : Int), .string ⟨q1.toArray⟩, .slice qA oq1 eq1, .slice qB oq2 eq2, .slice (some ⟨bb, off, none⟩) oq3 eq3, .int .i64 (q5 : Int), .int .i64 (q6 : Int)] ∧ TrM W' W.heap.size (fun k => k = k6) [.int .i64 (q0 : Int), .string ⟨q1.toArray⟩, .slice qA oq1 eq1, .slice qB oq2 eq2, .slice (some ⟨bb, off, none⟩) oq3 eq3, .int .i64 (q5 : Int), .int .i64 (q6 : Int)] pk.1 ∧ k6 < W'.heap.size) ⟨hk6 ▸ hA, (E11.alloc _).blk 0 rfl, (TrM.swap HT11.out (X' := fun k => k = k6) (fun k _ h2 e => by omega)).below (new_below _ _), by simp; omega⟩ fun w12 h12 => ?_
      have HA := Hd h12.1
      have HK := Hd h12.2.1
      have HT12 := Hd h12.2.2.1
      have l9 := h12.2.2.2
      rw [hk6]
      clear h12 hA a a0 a1 a2 a3 a4 a5 a6 E11 HT11 x0 x1 x2 x3 x4 x5 x6 hbb1 hbb2 hn0 hnc hk6
      obtain ⟨hn0, hnc, bb', off', x0, x1, x2, x3, x4, x5, x6, ee, ⟨hbb1, hbb2, hbb3⟩, hbl, c0, c1, c2, c3, c4, c5, c6, hhead, htail⟩ := HT12.out.parts hne5
      injection ee with ee
      injection ee with e1 e2 _
      subst e1 e2
      obtain ⟨r0, r1, rA, or1, er1, rB, or2, er2, rC, or3, er3, r5, r6, ee, -⟩ := hhead.seven
      simp only [List.cons.injEq, and_true] at ee
      obtain ⟨rfl, rfl, rfl, rfl, rfl, rfl, rfl⟩ := ee
      have HHD := Hd hhead
      have HTL := Hd htail
      obtain ⟨a, a0, a1, a2, a3, a4, a5, a6⟩ := HA.out.env.c7 0 rfl
      have fz := HA.out.env.fz 0 rfl
      have y0 := HK.out.lt
      have y1 := HK.out.cell 1
      have y4 := HK.out.cell 4
      have y6 := HK.out.cell 6
      have v1 : (1 : Int) ≤ (oq3 : Int) := by omega
      have v2 : (oq3 : Int) ≤ (eq3 : Int) := by omega
      have v3 : (0 : Int) < (oq3 : Int) := by omega
      have v4 : (1 : Int) ≤ (eq3 : Int) := by omega
      have v5 : 1 ≤ oq3 := hn0
      have v6 : 1 ≤ eq3 := by omega
      have m1 : k6 ≠ k5 := by omega
      have m2 : k5 ≠ k6 := by omega
      have m3 : k6 ≠ bb := fun e => hbb3 e.symm
      have m4 : bb ≠ k6 := hbb3
      have m5 : w12.heap.size ≠ k5 := by omega
      have m6 : w12.heap.size ≠ bb := by omega
      have m7 : w12.heap.size ≠ k6 := by omega
      clear hhead htail
      go_region_held3 (fun W' => W'.cell? ⟨k5, 1, none⟩ = some (.string ⟨q1.toArray⟩) ∧ W'.cell? ⟨k5, 4, none⟩ = some (.slice (some ⟨bb, off, none⟩) oq3 eq3) ∧ W'.cell? ⟨k5, 6, none⟩ = some (.int .i64 (q6 : Int)) ∧ W'.cell? ⟨bb, off, none⟩ = some (.int .i64 (r0 : Int)) ∧ W'.cell? ⟨bb, off + 1, none⟩ = some (.string ⟨r1.toArray⟩) ∧ W'.cell? ⟨bb, off + 2, none⟩ = some (.slice rA or1 er1) ∧ W'.cell? ⟨bb, off + 3, none⟩ = some (.slice rB or2 er2) ∧ W'.cell? ⟨bb, off + 4, none⟩ = some (.slice rC or3 er3) ∧ W'.cell? ⟨bb, off + 5, none⟩ = some (.int .i64 (r5 : Int)) ∧ W'.cell? ⟨bb, off + 6, none⟩ = some (.int .i64 (r6 : Int))) (first | go_keep) (first | fail)
      generalize hAt : (if eq3 = 1 then some (⟨bb, off, none⟩ : Addr) else some ⟨bb, off + 7, none⟩) = A'
      have HC0 := Hd ((HA.out.put2 HHD.out (HTL.out A' (eq3 - 1) (fun hlt => by rw [← hAt]; exact if_neg (by omega)) (by omega)) (by omega) (by omega) (Nat.le_refl _)).below (Below.refl _ _).drew)
      clear hAt
      go_upto_block 0 with fail
      refine wp_world (fun W' => AcS w g A c T fin w.heap.size k6 w.heap.size 6 q6 pk.2 [] [pk.1.nodes.headD Ps.Tr.zero, Ps.nd 7 pk.1.name pk.1.nodes.tail pk.1.place] (.slice (some ⟨w12.heap.size, 0, none⟩) 2 2) W') (by have := HC0.out; rw [hnm, hpl] at this ⊢; exact this) fun w13 h13 => ?_
      have HC1 := Hd h13
      clear h13 HC0 HHD HTL HT12 HK HA a a0 a1 a2 a3 a4 a5 a6 y0 y1 y4 y6 c0 c1 c2 c3 c4 c5 c6 m1 m2 m3 m4 m5 m6 m7 v1 v2 v3 v4 v5 v6 fz l9 l8 hbb1 hbb2 hbb3 hbl hn0 hnc
      obtain ⟨l0', hl0'⟩ : ∃ l, [pk.1.nodes.headD Ps.Tr.zero, Ps.nd 7 pk.1.name pk.1.nodes.tail pk.1.place] = l := ⟨_, rfl⟩
      obtain ⟨RK, hRK⟩ : ∃ x, Ps.casL T fin f l0' pk.2 = x := ⟨_, rfl⟩
      have HE2 : Hid (R = (Ps.nd 6 [] RK.1 q6, RK.2)) := Hd (by rw [HE.out, hl0', hRK, hpl])
      have hlen0 : l0'.length = 2 := by rw [← hl0']; rfl
      rw [hl0'] at HC1
      have HRK := Hd hRK
      clear hRK hl0' HE HU
      go_wp2
      go_loopg [] f (fun f' wr => ∃ (s' : Ps.PS) (l : List Ps.Tr) (v : Value), f' ≤ f ∧ AcS w g A c T fin w.heap.size k6 w.heap.size 6 q6 s' [] l v wr ∧ Ps.rem T s' + 7 ≤ f' ∧ l.length ≤ s'.at_ + 2 ∧ Ps.casL T fin f' l s' = RK)
      case atStart => exact ⟨pk.2, l0', _, Nat.le_refl _, HC1.out, by omega, by omega, HRK.out⟩
      case round =>
       obtain ⟨s', l, v', hfF, hA, hrm, hll, hR⟩ := hrel
       have HA := Hd hA
       have HR2 := Hd hR
       have hg := hA.env.pa.lt
       obtain ⟨Av, cv, rfl, -, -⟩ := hA.row.form
       clear hA hR HRK HC1
       have HIS := Hd fun (W : World) (h : PA W g A c T fin s') => pis_any h [59]
       cases hk : Ps.ok s' with
       | false =>
        have HE3 : Hid (R = (Ps.nd 6 [] l q6, s')) := Hd (by
         have : RK = (l, s') := by rw [← HR2.out]; exact casL_stop (by rw [hk]; rfl)
         rw [HE2.out, this])
        obtain ⟨kq, k4⟩ := HA.out.env.pa.noc hk
        clear hk
        obtain ⟨a, a0, a1, a2, a3, a4, a5, a6⟩ := HA.out.env.c7 0 rfl
        obtain ⟨b, b0, b1, b2, b3, b4, b5, b6⟩ := HA.out.env.c7 1 rfl
        have fz := HA.out.env.fz 1 rfl
        go_wp2
        obtain ⟨hb4, hnd⟩ := HA.out.done (R := R) (HE3.out)
        exact bodyPost_ret (ret26 rfl _ _ rfl hb4) rfl hnd
       | true =>
        have k4 := HA.out.env.pa.okc hk
        cases hi : Ps.is_ T fin s' [59] with
        | false =>
         have HE3 : Hid (R = (Ps.nd 6 [] l q6, s')) := Hd (by
          have : RK = (l, s') := by rw [← HR2.out]; exact casL_stop (by rw [hk, hi]; rfl)
          rw [HE2.out, this])
         rw [hi] at HIS
         clear hk hi
         go_upto_region 18 with (go_at_call 75; refine (HIS.out _ HA.out.env.pa).mono ?_; rintro e w4 ⟨rfl, hb⟩; have HA4 := Hd (HA.out.below hb); clear hb)
         obtain ⟨a, a0, a1, a2, a3, a4, a5, a6⟩ := HA4.out.env.c7 0 rfl
         obtain ⟨b, b0, b1, b2, b3, b4, b5, b6⟩ := HA4.out.env.c7 1 rfl
         have fz := HA4.out.env.fz 1 rfl
         go_wp2
         obtain ⟨hb4, hnd⟩ := HA4.out.done (R := R) (HE3.out)
         exact bodyPost_ret (ret26 rfl _ _ rfl hb4) rfl hnd
        | true =>
         obtain ⟨f', rfl⟩ : ∃ f', gk = f' + 1 := ⟨gk - 1, by omega⟩
         have hlt := Ps.mark_lt (fin := fin) hi
         obtain ⟨pm, hpm⟩ : ∃ x, Ps.msg T fin f' (Ps.adv s') = x := ⟨_, rfl⟩
         have HR3 : Hid (Ps.casL T fin f' (l ++ [pm.1]) pm.2 = RK) := Hd (by rw [← HR2.out, ← hpm]; conv => rhs; unfold Ps.casL; rw [if_pos (by rw [hk, hi]; rfl)])
         have hra' := Ps.rem_adv (T := T) (s := s') (s' := Ps.adv s') (Nat.lt_succ_self _) hlt
         have HMS := Hd fun (W : World) (h : PA W g A c T fin (Ps.adv s')) (hb : Bd T (Ps.adv s')) => (IH.out f' (by omega)).msg (Ps.adv s') W h hb (by omega)
         have hle : s'.at_ + 1 ≤ pm.2.at_ := by rw [← hpm]; exact ((Ps.leAll T fin f').msg (Ps.adv s')).at_
         have hrm2 := Ps.rem_le (T := T) (s := Ps.adv s') (s' := pm.2) hle
         have HBA := Hd (HA.out.bd.adv hlt)
         have hat' := HA.out.bd.at_
         rw [hpm] at HMS
         rw [hi] at HIS
         clear hpm hk hi
         go_upto_region 17 with (first
          | (go_at_call 75; refine (HIS.out _ HA.out.env.pa).mono ?_; rintro e w6 ⟨rfl, hb⟩; have HA6 := Hd (HA.out.below hb); clear hb)
          | (go_at_call 29; refine (ptake_any HA6.out.env.pa (by omega)).mono ?_; rintro e w7 ⟨rfl, hp⟩; have HA7 := Hd (HA6.out.call hp HBA.out hgb); clear hp))
         clear HA HA6 HIS
         obtain ⟨i0, hi, hz0, hz1, hz2⟩ := info_parts info26
         have hS4 : w7.cell? ⟨k6, 4, none⟩ = some (.slice Av l.length cv) := (HA7.out.env.c7 0 rfl).2.2.2.2.2.1
         have HL7 := Hd HA7.out.lts
         have hbw7 : w.heap.size ≤ w7.heap.size := HA7.out.env.size
         have hx7 := (HA7.out.env.c7 0 rfl).1
         go_upto_region 17 with fail
         refine wp_region_x (s := 7) (S := fun W => W.cell? ⟨k6, 4, none⟩ = some (.slice Av l.length cv)) (by kernel_rfl) hS4 (fun hHeld => ?_)
         refine xt (i := 0) ?_
         refine xt (i := 1) ?_
         refine xt (i := 2) ?_
         refine x1 (i := 3) (fun K2 hK2 => ?_)
         go_simp
         go_at_call 127
         refine (HMS.out _ (HA7.out.env.pa.drew) HA7.out.bd).mono ?_
         rintro e wa ⟨csa, rfl, hpa, hba, hta⟩
         have hza := hpa.1.size
         have HAa := Hd ((HA7.out.below (Below.refl _ _).drew).call hpa hba hgb)
         have HTa := Hd hta
         have qa : wa.cell? ⟨k6, 4, none⟩ = some (.slice Av l.length cv) := (HAa.out.env.c7 0 rfl).2.2.2.2.2.1
         obtain ⟨css, hcl, hown, hpush⟩ := HAa.out.push HTa.out (by show _ ≤ w7.heap.size; omega) ⟨HL7.out.1, HL7.out.2.1, HL7.out.2.2.2.2⟩ hgb
         have HOWN := Hd hown
         have HPUSH := Hd hpush
         obtain ⟨p0, p1, C1, o1, e1', C2, o2, e2', C3, o3, e3', p5, p6, rfl⟩ := HTa.out.form
         have hsa : w.heap.size ≤ wa.heap.size := HAa.out.env.size
         clear hown hpush hcl
         clear hpa hba hta
         refine hK2.out _ _ (qa) (fun hHeld => ?_)
         clear hK2 K2
         refine x1 (i := 4) (fun K2 hK2 => ?_)
         go_simp
         refine hK2.out _ _ (by go_keep) (fun hHeld => ?_)
         clear hK2 K2
         refine x1 (i := 5) (fun K2 hK2 => ?_)
         refine step_append_any _ rfl (.tmp 116) (.tmp 119) 25 rfl w.heap.size 27 i0 _ 7 112 Tryz.underlying25 hi hz0 hz1 hz2 rfl (by decide) (.slice Av l.length cv) l.length css.flatten (by rfl) (World.ownsRow.alloc HOWN.out _) (wa.heap.size + 1) (some ⟨wa.heap.size, 0, none⟩) 1 1 _ (by rfl) (Reads.builtN wa 27 [_, _, _, _, _, _, _] 1 7 rfl) (by intro u hu; simp only [List.mem_cons, List.not_mem_nil, or_false] at hu; rcases hu with rfl | rfl | rfl | rfl | rfl | rfl | rfl <;> rfl) (by simp only [maxLen]; omega) (by omega) (by simp; omega) ?_
         intro v6 wb hown6 hgrow6 hv6
         obtain ⟨A6, c6, rfl, _, _⟩ := own_form hown6
         obtain ⟨hcl, hfz, hlt6, hac⟩ := HPUSH.out _ _ _ hown6 hgrow6 (by simpa using hv6)
         have HAC := Hd hac
         have kb : wb.cell? ⟨k6, 4, none⟩ = some (.slice Av l.length cv) := by rw [hcl 4]; exact qa
         have kbf := hfz 4
         clear hown6 hgrow6 hv6 hcl hfz hac
         try go_simp
         refine hK2.out _ _ (kb) (fun hHeld => ?_)
         clear hK2 K2
         refine x1 (i := 6) (fun K2 hK2 => ?_)
         go_simp
         refine hK2.out _ _ (hHeld) (fun hHeld => ?_)
         clear hK2 K2
         try simp only [Act.put, List.setIfInBounds_toArray, List.set_cons_zero, List.set_cons_succ]
         refine xl (fun K2 hK2 => ?_)
         go_simp
         refine hK2.out _ _ ?_
         clear hK2 K2
         try simp only [Act.put, List.setIfInBounds_toArray, List.set_cons_zero, List.set_cons_succ]
         refine wpAnyX_done (by kernel_rfl) ?_ _
         go_wp2_with fail
         go_roundg f'
         case measure => omega
         case rel => exact ⟨pm.2, l ++ [pm.1], _, by omega, HAC.out, by omega, by simp only [List.length_append, List.length_singleton]; omega, HR3.out⟩
theorem wall_any {g c fin : Nat} {A : Option Addr} {T : List Lx.Tk} (hT : Ps.Fits 65536 T) (F : Nat) : WAll g A c T fin F := by
 induction F using Nat.strongRecOn with
 | _ F ih =>
  exact {
   expr := fun s w h hb hf => pexpr_any hT ih s w h hb hf
   msg := fun s w h hb hf => pmsg_any hT ih s w h hb hf
   binL := fun base cs n s w h hb hn h7 h8 hf => pbins_any hT.len ih base cs n s w h hb hn h7 h8 hf
   keyw := fun base cs n s w h hb hn h7 h8 hf => pkeyw_any hT ih base cs n s w h hb hn h7 h8 hf
   prim := fun s w h hb hf => pprim_any hT ih s w h hb hf
   arr := fun s w h hb hk hl hf => parr_any hT ih s w h hb hk hl hf
   lit := fun s w h hb hk hf => plit_any hT ih s w h hb hk hf
   bra := fun s w h hb hk hl hf => pbra_any hT ih s w h hb hk hl hf
   blk := fun s w h hb hk hl hf => pblk_any hT ih s w h hb hk hl hf
   stL := fun m s w h hb hf => pstat_any hT ih m s w h hb hf }
def BegP (x : Lx.Txt) (w : World) (e : Ending) (w' : World) : Prop :=
 ∃ (g : Nat) (A : Option Addr) (c : Nat), e = .returned (.tuple #[.pointer (some ⟨g, 0, none⟩), .int .i64 ((Lx.lexT x).2.1 : Int), .int .i64 ((Lx.lexT x).2.2 : Int)]) ∧ Below w.heap.size w w' ∧ w.heap.size ≤ g ∧ PA w' g A c (Lx.lexT x).1 x.length ⟨0, 0, none⟩
set_option maxRecDepth 20000 in
theorem pbegin_any (x : Lx.Txt) (w : World) (hm : x.length ≤ 9223372036854775807) : Calls Tryz.prog 27 #[.string ⟨x.toArray⟩] w (BegP x w) := by
 have HL := Hd (lex_any ⟨x.toArray⟩ w (by show x.toArray.size ≤ _; simpa using hm))
 go_enter Tryz.func27, Tryz.ntmps27
 go_wp2_with (go_at_call 14; refine HL.out.mono ?_; rintro e w1 ⟨hb, v, rfl, ho⟩; have HB := Hd hb; have HO := Hd ho; obtain ⟨A1, c1, rfl, -, -⟩ := own_form ho; clear hb ho)
 go_ret3
 refine ⟨w1.heap.size, A1, c1, rfl, HB.out.trans ((new_below _ _).mono HB.out.size), HB.out.size, ⟨⟨_, Blk.new _ _ _, rfl⟩, ?_⟩⟩
 refine ReadsX.below ?_ (new_below _ _)
 refine ⟨HO.out.1, fun hn => ?_⟩
 obtain ⟨g, cap, hv, _, hlt⟩ := World.ownsRow.form HO.out hn
 have hA : A1 = some ⟨g, 0, none⟩ := by injection hv
 subst hA
 refine ⟨g, 0, rfl, hlt, fun j u hu => ?_⟩
 have := World.ownsRow.cells HO.out (g := g) rfl j u hu
 have e : (⟨g, 0, none⟩ : Addr).add j = ⟨g, 0 + j, none⟩ := by unfold Addr.add; split <;> simp_all
 rwa [e] at this
def TopP (w : World) (r : Ps.Tr × Nat × Nat) (e : Ending) (w' : World) : Prop := ∃ cs, e = .returned (.tuple #[.agg cs.toArray, .int .i64 (r.2.1 : Int), .int .i64 (r.2.2 : Int)]) ∧ Below w.heap.size w w' ∧ TrM w' w.heap.size (fun _ => False) cs r.1
theorem TopP.put {w w0 W : World} {k2 : Nat} {x0 x1 x2 x3 x4 x5 x6 : Value} {tr : Ps.Tr} (hk : w.heap.size ≤ k2) (hk2 : k2 < w0.heap.size) (hB : Below w.heap.size w W) (ht : TrM W w0.heap.size (fun _ => False) [x0, x1, x2, x3, x4, x5, x6] tr) (p e : Nat) :
  TopP w (tr, p, e) (.returned (.tuple #[.agg #[x0, x1, x2, x3, x4, x5, x6], .int .i64 (p : Int), .int .i64 (e : Int)])) (((((((W.setCell ⟨k2, 0, none⟩ x0).setCell ⟨k2, 1, none⟩ x1).setCell ⟨k2, 2, none⟩ x2).setCell ⟨k2, 3, none⟩ x3).setCell ⟨k2, 4, none⟩ x4).setCell ⟨k2, 5, none⟩ x5).setCell ⟨k2, 6, none⟩ x6) :=
 ⟨_, rfl, below_set7 hB hk _ _ _ _ _ _ _, TrM.low (ht.chg (chg_set7 _ _ _ _ _ _ _ _ _) fun k h1 _ _ e => by omega) (by omega)⟩
theorem TopP.drew {w W : World} {r : Ps.Tr × Nat × Nat} {e : Ending} (h : TopP w r e W) : TopP w r e W.drew := by
 obtain ⟨cs, h1, h2, h3⟩ := h
 exact ⟨cs, h1, h2.drew, TrM.below h3 (Below.refl _ _).drew⟩
theorem lexT_len (x : Lx.Txt) (h : (Lx.lexT x).2.2 = 0) : x.length ≤ 65536 := by
 unfold Lx.lexT at h
 split at h
 ·cases h
 ·omega
end Go.Proofs.YtjhonaglmgmpiaaGreatDoor
