/-
  Parts PxM, PxN of the proof. No statement of the seat is proved here.
-/
import Derived.Test.YtbnlnndeajjenaaGreatP14
set_option maxHeartbeats 4000000
namespace Go.Proofs.YtbnlnndeajjenaaGreat
open Go.RowKit
theorem AcS.put1 {w wr : World} {g c fin base ts t2 kind place lo : Nat} {A : Option Addr} {T : List Lx.Tk} {s' : Ps.PS} {nm : Lx.Txt} {v : Value} {tr : Ps.Tr} {x0 x1 x2 x3 x4 x5 x6 : Value} (h : AcS w g A c T fin base ts t2 kind place s' nm [] v wr) (ht : TrM wr lo (fun _ => False) [x0, x1, x2, x3, x4, x5, x6] tr) (hbl : base ≤ lo) (hlo : ts < lo ∧ t2 < lo) (hbw : base ≤ w.heap.size) :
  AcS w g A c T fin base ts t2 kind place s' nm [tr] (.slice (some ⟨wr.heap.size, 0, none⟩) 1 1) ((wr.setCell ⟨ts, 4, none⟩ (.slice (some ⟨wr.heap.size, 0, none⟩) 1 1)).alloc (.cells #[x0, x1, x2, x3, x4, x5, x6] 26)) := by
 obtain ⟨l1, l2, l3, l4, _⟩ := h.lts
 have hs := h.env.size
 rw [← set_alloc _ _ _ _ _ l1]
 have h1 := TsM.one (TrM.low (TrM.swap ht (X' := fun k => k = ts ∨ k = t2) fun k hk _ e => by omega) hbl) (by omega) (by omega)
 exact ⟨(h.env.alloc _).put 0 rfl 4 _, h1.store (chg_set _ _ _ _) fun _ e => .inl e, h.bd, fun k hk => by rw [slot_own hk]; omega⟩
set_option maxRecDepth 20000 in
theorem pmsg_base {g c fin F : Nat} {A : Option Addr} {T : List Lx.Tk} (hT : Ps.Fits 65536 T) (ih : ∀ f, f < F → WAll g A c T fin f) (s : Ps.PS) (w : World) (base : Nat) (h : PA w g A c T fin s) (hb : Bd T s) (hgb : g < base) (hbw : base ≤ w.heap.size) (hf : Ps.rem T s + 6 ≤ F) :
  Calls Tryz.prog 53 #[.pointer (some ⟨g, 0, none⟩)] w (NdP w g A c T fin base (Ps.msg T fin F s)) := by
 have hTl := hT.len
 have hs := hb.at_
 have E0 := (Env.start h).box 26 [.int .i64 0, .string ⟨#[]⟩, .slice none 0 0, .slice none 0 0, .slice none 0 0, .int .i64 0, .int .i64 0] (by decide)
 obtain ⟨F', rfl⟩ : ∃ F', F = F' + 1 := ⟨F - 1, by omega⟩
 obtain ⟨t, ht⟩ : ∃ t, Ps.nx T fin s = t := ⟨_, rfl⟩
 obtain ⟨R, hR⟩ : ∃ R, Ps.msg T fin (F' + 1) s = R := ⟨_, rfl⟩
 rw [hR]
 have HN := Hd (pnext_any E0.pa)
 rw [ht] at HN
 have HB := Hd hb
 have IH := Hd ih
 have HT := Hd ht
 have HBI := Hd fun w => pbin_any t w
 have HU : Hid (R = if (t.1 == 1) = true then (Ps.nd 7 t.2.1 [] t.2.2, Ps.adv s) else if Ps.binS t = true then (Ps.nd 7 t.2.1 [(Ps.unaL T fin (T.length + 2) (Ps.prim T fin F' (Ps.adv s)).1 (Ps.prim T fin F' (Ps.adv s)).2).1] t.2.2, (Ps.unaL T fin (T.length + 2) (Ps.prim T fin F' (Ps.adv s)).1 (Ps.prim T fin F' (Ps.adv s)).2).2) else if (t.1 == 2) = true then (Ps.nd 7 (Ps.keyL T fin F' [] [] s).1 (Ps.keyL T fin F' [] [] s).2.1 t.2.2, (Ps.keyL T fin F' [] [] s).2.2) else (Ps.nd 7 [] [] t.2.2, Ps.odd T fin s)) := Hd (by rw [← hR, Ps.msg, ht])
 have hf1 := fld1 (.int .i64 (t.1 : Int)) (.string ⟨t.2.1.toArray⟩) (.int .i64 (t.2.2 : Int))
 clear h hb ih hR
 go_enter Tryz.func53, Tryz.ntmps53
 go_upto_region 2 with (go_at_call 11; refine HN.out.mono ?_; rintro e w1 ⟨rfl, hb1⟩; have E1 := E0.below hb1; clear hb1)
 refine wp_env (E1.box 40 [_, _, _] (by decide)) fun w2 E2 => ?_
 clear E0 E1 HN
 obtain ⟨a, a0, a1, a2⟩ := E2.c3 0 rfl
 go_upto_block 0 with fail
 have hA := AcS.start (kind := 7) (base := base) E2 1 rfl rfl (TsM.nil w2 base (fun k => k = w.heap.size)) rfl HB.out (fun k hk => by simp [Value.ownBlock] at hk) (place := t.2.2) (nm := [])
 have hbk := ((E2.box 26 [.int .i64 7, .string ⟨#[]⟩, .slice none 0 0, .slice none 0 0, .slice none 0 0, .int .i64 0, .int .i64 (t.2.2 : Int)] (by decide)).blk 1 rfl)
 refine wp_world (fun W => AcS w g A c T fin base w2.heap.size w.heap.size 7 t.2.2 s [] [] (.slice none 0 0) W ∧ Blk W w1.heap.size 40 #[.int .i64 (t.1 : Int), .string ⟨t.2.1.toArray⟩, .int .i64 (t.2.2 : Int)]) ⟨hA, hbk⟩ fun w3 h3 => ?_
 have HA0 := Hd h3.1
 have HK0 := Hd h3.2
 clear h3 hA hbk a a0 a1 a2
 obtain ⟨ts, hts⟩ : ∃ ts, w2.heap.size = ts := ⟨_, rfl⟩
 rw [hts] at HA0 ⊢
 clear hts E2
 have a := HK0.out.lt
 have a0 := HK0.out.cell 0
 have a1 := HK0.out.cell 1
 have a2 := HK0.out.cell 2
 have hg2 := (HA0.out.lts).2.2.1
 by_cases k1 : t.1 = 1
 ·have d1 : ((t.1 : Int) == 1) = true := by rw [k1]; rfl
  have HE : Hid (R = (Ps.nd 7 t.2.1 [] t.2.2, Ps.adv s)) := Hd (by rw [HU.out, if_pos (by rw [k1]; rfl)])
  have hlt : s.at_ < T.length := Ps.nx_lt (fin := fin) (by rw [HT.out, k1]; decide)
  clear k1 ht
  go_upto_region 13 with (go_at_call 12; refine (ptake_any HA0.out.env.pa (by omega)).mono ?_; rw [HT.out]; rintro e w4 ⟨rfl, hp⟩; have HA4 := Hd (HA0.out.call hp (HB.out.adv hlt) hgb); obtain ⟨y, y0, y1, y2, y3, y4, y5, y6⟩ := HA4.out.env.c7 0 rfl; have fy := HA4.out.env.fz 0 rfl; clear hp)
  refine wp_world (fun W => AcS w g A c T fin base ts w.heap.size 7 t.2.2 (Ps.adv s) t.2.1 [] (.slice none 0 0) W) (HA4.out.named t.2.1) fun w5 h5 => ?_
  have HA5 := Hd h5
  clear h5 y y0 y1 y2 y3 y4 y5 y6 fy HA4 HA0
  obtain ⟨a, a0, a1, a2, a3, a4, a5, a6⟩ := HA5.out.env.c7 0 rfl
  obtain ⟨b, b0, b1, b2, b3, b4, b5, b6⟩ := HA5.out.env.c7 1 rfl
  have fz := HA5.out.env.fz 1 rfl
  go_wp2
  obtain ⟨hb4, hnd⟩ := HA5.out.done (R := R) HE.out
  exact bodyPost_ret (ret26 rfl _ _ rfl hb4) rfl hnd
 have d1 : ((t.1 : Int) == 1) = false := natInt (by omega)
 have f0 : (t.1 == 1) = false := by simpa using k1
 cases hbi : Ps.binS t with
 | true =>
  rw [hbi] at HBI
  have hlt : s.at_ < T.length := Ps.nx_lt (fin := fin) (by rw [HT.out]; exact bin_kind hbi)
  obtain ⟨pa, hpa⟩ : ∃ a, Ps.prim T fin F' (Ps.adv s) = a := ⟨_, rfl⟩
  obtain ⟨pu, hpu⟩ : ∃ u, Ps.unaL T fin (T.length + 2) pa.1 pa.2 = u := ⟨_, rfl⟩
  have HE : Hid (R = (Ps.nd 7 t.2.1 [pu.1] t.2.2, pu.2)) := Hd (by rw [HU.out, if_neg (by rw [f0]; decide), if_pos hbi, hpa, hpu])
  have hra := Ps.rem_adv (T := T) (s := s) (s' := Ps.adv s) (Nat.lt_succ_self _) hlt
  have HPR := Hd fun w5 (hp : PA w5 g A c T fin (Ps.adv s)) (hb : Bd T (Ps.adv s)) => (IH.out F' (by omega)).prim (Ps.adv s) w5 hp hb (by omega)
  rw [hpa] at HPR
  have HUN := Hd fun w6 (base' : Nat) (cs6 : List Value) (hp : PA w6 g A c T fin pa.2) (hb : Bd T pa.2) (ht6 : TrM w6 base' (fun _ => False) cs6 pa.1) (h7 : g < base') (h8 : base' ≤ w6.heap.size) => punar_any hp hb hTl ht6 h7 h8
  rw [hpu] at HUN
  clear k1 ht hbi hpa hpu
  go_upto_region 8 with (first
   | (go_at_call 13; refine (HBI.out _).mono ?_; rintro e w4 ⟨rfl, hb⟩; have HA1 := Hd (HA0.out.below hb); clear hb)
   | (go_at_call 12; refine (ptake_any HA1.out.env.pa (by omega)).mono ?_; rw [HT.out]; rintro e w5 ⟨rfl, hp⟩; have HA4 := Hd (HA1.out.call hp (HB.out.adv hlt) hgb); obtain ⟨y, y0, y1, y2, y3, y4, y5, y6⟩ := HA4.out.env.c7 0 rfl; have fy := HA4.out.env.fz 0 rfl; clear hp))
  refine wp_world (fun W => AcS w g A c T fin base ts w.heap.size 7 t.2.2 (Ps.adv s) t.2.1 [] (.slice none 0 0) W) (HA4.out.named t.2.1) fun w6 h6 => ?_
  have HA6 := Hd h6
  have hl6 := h6.lts
  have hz6 := h6.env.size
  clear h6 y y0 y1 y2 y3 y4 y5 y6 fy HA4 HA1 HA0 a a0 a1 a2 HK0
  go_upto_region 13 with (first
   | (go_at_call 48; refine (HPR.out _ HA6.out.env.pa HA6.out.bd).mono ?_; rintro e w7 ⟨cs7, rfl, hp7, hb7, ht7⟩; have hz7 := hp7.1.size; have HA7 := Hd (HA6.out.call hp7 hb7 hgb); have HT7 := Hd ht7; clear hp7 hb7 ht7)
   | (go_at_call 51; refine (HUN.out _ _ _ HA7.out.env.pa HA7.out.bd HT7.out (by omega) hz7).mono ?_; rintro e w8 ⟨cs8, rfl, hp8, hb8, ht8⟩; have hz8 := hp8.1.size; have HA8 := Hd (HA7.out.call hp8 hb8 hgb); have HT8 := Hd ht8; obtain ⟨p0, p1, C1, o1, e1, C2, o2, e2, C3, o3, e3, p5, p6, rfl⟩ := ht8.form; obtain ⟨y, y0, y1, y2, y3, y4, y5, y6⟩ := HA8.out.env.c7 0 rfl; have fy := HA8.out.env.fz 0 rfl; clear hp8 hb8 ht8))
  refine wp_world (fun W => AcS w g A c T fin base ts w.heap.size 7 t.2.2 pu.2 t.2.1 [pu.1] _ W) (HA8.out.put1 HT8.out (by omega) ⟨hl6.1, hl6.2.1⟩ hbw) fun w9 h9 => ?_
  have HA9 := Hd h9
  clear h9 y y0 y1 y2 y3 y4 y5 y6 fy HA8 HA7 HA6 HT7 HT8 HPR HUN
  obtain ⟨a, a0, a1, a2, a3, a4, a5, a6⟩ := HA9.out.env.c7 0 rfl
  obtain ⟨b, b0, b1, b2, b3, b4, b5, b6⟩ := HA9.out.env.c7 1 rfl
  have fz := HA9.out.env.fz 1 rfl
  go_wp2
  obtain ⟨hb4, hnd⟩ := HA9.out.done (R := R) HE.out
  exact bodyPost_ret (ret26 rfl _ _ rfl hb4) rfl hnd
 | false =>
  rw [hbi] at HBI
  by_cases k2 : t.1 = 2
  ·have d2 : ((t.1 : Int) == 2) = true := by rw [k2]; rfl
   obtain ⟨RK, hRK⟩ : ∃ RK, Ps.keyL T fin F' [] [] s = RK := ⟨_, rfl⟩
   have HE : Hid (R = (Ps.nd 7 RK.1 RK.2.1 t.2.2, RK.2.2)) := Hd (by rw [HU.out, if_neg (by rw [f0]; decide), if_neg (by rw [hbi]; decide), if_pos (by rw [k2]; rfl), hRK])
   have HRK := Hd hRK
   clear k1 ht hbi k2 hRK
   go_upto_block 1 with (go_at_call 13; refine (HBI.out _).mono ?_; rintro e w4 ⟨rfl, hb⟩; have HA1 := Hd (HA0.out.below hb); have HK1 := Hd (HK0.out.below hb HK0.out.lt); clear hb HA0 HK0; have HA0 := HA1; have HK0 := HK1; clear HA1 HK1; have a := HK0.out.lt; have a0 := HK0.out.cell 0; have a1 := HK0.out.cell 1; have a2 := HK0.out.cell 2)
   clear a a0 a1 a2 HK0 d1 d2 hf1
   go_wp2
   go_loopg [] F' (fun f wr => ∃ (s' : Ps.PS) (nm : Lx.Txt) (l : List Ps.Tr) (v : Value), f ≤ F' ∧ AcS w g A c T fin base ts w.heap.size 7 t.2.2 s' nm l v wr ∧ Ps.rem T s' + 1 ≤ f ∧ nm.length ≤ 65536 * s'.at_ ∧ l.length ≤ s'.at_ + 1 ∧ Ps.keyL T fin f nm l s' = RK)
   case atStart => exact ⟨s, [], [], _, Nat.le_refl _, HA0.out, by omega, by simp, by simp, HRK.out⟩
   case round =>
    obtain ⟨s', nm, l, v', hfF, hA, hrm, hnm, hll, hR⟩ := hrel
    have HA := Hd hA
    have HR2 := Hd hR
    have hg := hA.env.pa.lt
    obtain ⟨Av, cv, rfl, -, -⟩ := hA.row.form
    clear hA hR HA0 HRK
    obtain ⟨q, hq⟩ : ∃ q, Ps.nx T fin s' = q := ⟨_, rfl⟩
    have HNX := Hd (pnext_any HA.out.env.pa)
    rw [hq] at HNX
    have hq0 := fld0 (.int .i64 (q.1 : Int)) (.string ⟨q.2.1.toArray⟩) (.int .i64 (q.2.2 : Int))
    have hq1 := fld1 (.int .i64 (q.1 : Int)) (.string ⟨q.2.1.toArray⟩) (.int .i64 (q.2.2 : Int))
    cases hk : Ps.ok s' with
    | false =>
     have HE2 : Hid (RK = (nm, l, s')) := Hd (by rw [← HR2.out]; exact keyL_stop (by rw [hk]; rfl))
     obtain ⟨kq, k4⟩ := HA.out.env.pa.noc hk
     obtain ⟨a, a0, a1, a2, a3, a4, a5, a6⟩ := HA.out.env.c7 0 rfl
     obtain ⟨b, b0, b1, b2, b3, b4, b5, b6⟩ := HA.out.env.c7 1 rfl
     have fz := HA.out.env.fz 1 rfl
     clear hk
     go_wp2
     obtain ⟨hb4, hnd⟩ := HA.out.done (R := R) (by rw [HE.out, HE2.out])
     exact bodyPost_ret (ret26 rfl _ _ rfl hb4) rfl hnd
    | true =>
     have k4 := HA.out.env.pa.okc hk
     by_cases h1 : q.1 = 2
     ·have d1 : ((q.1 : Int) == 2) = true := by rw [h1]; rfl
      have hlt : s'.at_ < T.length := Ps.nx_lt (fin := fin) (by rw [hq, h1]; decide)
      have HTK := Hd fun (W : World) (h : PA W g A c T fin s') => ptake_any h (by omega)
      rw [hq] at HTK
      have hql := hT.txt _ (Ps.nx_mem (fin := fin) hlt)
      rw [hq] at hql
      have hat := HA.out.bd.at_
      have hcat : ¬ (9223372036854775807 < nm.length + q.2.1.length) := by omega
      have hstr := str_app nm q.2.1
      have HQ1 := Hd h1
      have HQT := Hd hq
      have HK := Hd hk
      clear h1 hq hk
      go_upto_region 11 with (go_at_call 11; refine HNX.out.mono ?_; rintro e w4 ⟨rfl, hb⟩; have HA5 := Hd (HA.out.below hb); clear hb)
      have HAK5 := HA5
      obtain ⟨c7, e0, e1, e2, e3, e4, e5, e6⟩ := HA5.out.env.c7 0 rfl
      have hS : w4.cell? ⟨ts, 1, none⟩ = some (.string ⟨nm.toArray⟩) := e1
      refine wp_region_x (s := 7) (S := fun W => W.cell? ⟨ts, 1, none⟩ = some (.string ⟨nm.toArray⟩)) (by kernel_rfl) hS (fun hHeld => ?_)
      refine xt (i := 0) ?_
      refine xt (i := 1) ?_
      refine xt (i := 2) ?_
      refine x1 (i := 3) (fun K2 hK2 => ?_)
      go_simp
      go_at_call 12
      refine (HTK.out _ HAK5.out.env.pa.drew).mono ?_
      rintro e w6 ⟨rfl, hp⟩
      have HA6 := Hd ((HA5.out.below (Below.refl _ _).drew).call hp (HA5.out.bd.adv hlt) hgb)
      obtain ⟨a, b0, b1, b2, b3, b4, b5, b6⟩ := HA6.out.env.c7 0 rfl
      have fz6 := HA6.out.env.fz 0 rfl
      clear hp
      refine hK2.out _ _ (b1) (fun hHeld => ?_)
      clear hK2 K2
      refine xt (i := 4) ?_
      refine x1 (i := 5) (fun K2 hK2 => ?_)
      go_simp
      refine hK2.out _ _ (hHeld) (fun hHeld => ?_)
      clear hK2 K2
      refine x1 (i := 6) (fun K2 hK2 => ?_)
      go_simp
      refine hK2.out _ _ (hHeld) (fun hHeld => ?_)
      clear hK2 K2
      try simp only [Act.put, List.setIfInBounds_toArray, List.set_cons_zero, List.set_cons_succ]
      refine xl (fun K2 hK2 => ?_)
      go_simp
      refine hK2.out _ _ ?_
      clear hK2 K2
      try simp only [Act.put, List.setIfInBounds_toArray, List.set_cons_zero, List.set_cons_succ]
      refine wpAnyX_done (by kernel_rfl) ?_ _
      go_upto_region 12 with fail
      refine wp_world (fun W => AcS w g A c T fin base ts w.heap.size 7 t.2.2 (Ps.adv s') (nm ++ q.2.1) l _ W) (HA6.out.named (nm ++ q.2.1)) fun w7 ha7 => ?_
      have HA7 := Hd ha7
      have HL7 := Hd ha7.lts
      obtain ⟨f, rfl⟩ : ∃ f, gk = f + 2 := ⟨gk - 2, by have := Ps.rem_adv (T := T) (s := s') (s' := Ps.adv s') (Nat.lt_succ_self _) hlt; omega⟩
      have hra := Ps.rem_adv (T := T) (s := s') (s' := Ps.adv s') (Nat.lt_succ_self _) hlt
      obtain ⟨pa, hpa⟩ : ∃ a, Ps.prim T fin f (Ps.adv s') = a := ⟨_, rfl⟩
      obtain ⟨pu, hpu⟩ : ∃ u, Ps.unaL T fin (T.length + 2) pa.1 pa.2 = u := ⟨_, rfl⟩
      obtain ⟨pb, hpb⟩ : ∃ u, Ps.binL_ T fin f pu.1 pu.2 = u := ⟨_, rfl⟩
      have hle1 : Ps.rem T pu.2 ≤ Ps.rem T (Ps.adv s') := Ps.rem_le (by rw [← hpu, ← hpa]; exact (((Ps.leAll T fin f).prim _).trans (Ps.le_unaL T fin _ _ _)).at_)
      have hat2 : (Ps.adv s').at_ ≤ pb.2.at_ := by rw [← hpb, ← hpu, ← hpa]; exact ((((Ps.leAll T fin f).prim _).trans (Ps.le_unaL T fin _ _ _)).trans ((Ps.leAll T fin f).binL_ _ _)).at_
      have hle2 : Ps.rem T pb.2 ≤ Ps.rem T (Ps.adv s') := Ps.rem_le hat2
      have hat3 : s'.at_ + 1 ≤ pb.2.at_ := hat2
      have HR3 : Hid (Ps.keyL T fin (f + 1) (nm ++ q.2.1) (l ++ [pb.1]) pb.2 = RK) := Hd (by rw [← HR2.out]; exact (keyL_go HQT.out HK.out HQ1.out hpa hpu hpb).symm)
      have HPR := Hd fun w5 (hp : PA w5 g A c T fin (Ps.adv s')) (hb : Bd T (Ps.adv s')) => (IH.out f (by omega)).prim (Ps.adv s') w5 hp hb (by omega)
      rw [hpa] at HPR
      have HUN := Hd fun w6 (base' : Nat) (cs6 : List Value) (hp : PA w6 g A c T fin pa.2) (hb : Bd T pa.2) (ht6 : TrM w6 base' (fun _ => False) cs6 pa.1) (h7 : g < base') (h8 : base' ≤ w6.heap.size) => punar_any hp hb hTl ht6 h7 h8
      rw [hpu] at HUN
      have HBN := Hd fun w6 (base' : Nat) (cs6 : List Value) (hp : PA w6 g A c T fin pu.2) (hb : Bd T pu.2) (ht6 : TrM w6 base' (fun _ => False) cs6 pu.1) (h7 : g < base') (h8 : base' ≤ w6.heap.size) => (IH.out f (by omega)).binL base' cs6 pu.1 pu.2 w6 hp hb ht6 h7 h8 (by omega)
      rw [hpb] at HBN
      obtain ⟨i0, hi, hz0, hz1, hz2⟩ := info_parts info26
      have h77 : g < w7.heap.size := ha7.env.pa.lt
      have hbw7 : w.heap.size ≤ w7.heap.size := ha7.env.size
      obtain ⟨c7', e0', e1', e2', e3', e4', e5', e6'⟩ := ha7.env.c7 0 rfl
      have hS4 : w7.cell? ⟨ts, 4, none⟩ = some (.slice Av l.length cv) := e4'
      clear hpa hpu hpb ha7 HA6 HA5 HAK5 HA HTK HNX HR2 b0 b1 b2 b3 b4 b5 b6 fz6 e0 e1 e2 e3 e4 e5 e6 hS
      refine wp_region_x (s := 11) (S := fun W => W.cell? ⟨ts, 4, none⟩ = some (.slice Av l.length cv)) (by kernel_rfl) hS4 (fun hHeld => ?_)
      refine xt (i := 0) ?_
      refine xt (i := 1) ?_
      refine xt (i := 2) ?_
      refine xt (i := 3) ?_
      refine xt (i := 4) ?_
      refine x1 (i := 5) (fun K2 hK2 => ?_)
      go_simp
      go_at_call 48
      refine (HPR.out _ HA7.out.env.pa.drew HA7.out.bd).mono ?_
      rintro e w8 ⟨cs8, rfl, hp8, hb8, ht8⟩
      have hz8 := hp8.1.size
      have HA8 := Hd ((HA7.out.below (Below.refl _ _).drew).call hp8 hb8 hgb)
      have HT8 := Hd ht8
      have k8 : w8.cell? ⟨ts, 4, none⟩ = some (.slice Av l.length cv) := (HA8.out.env.c7 0 rfl).2.2.2.2.2.1
      clear hp8 hb8 ht8
      refine hK2.out _ _ (k8) (fun hHeld => ?_)
      clear hK2 K2
      refine x1 (i := 6) (fun K2 hK2 => ?_)
      go_simp
      go_at_call 51
      refine (HUN.out _ _ _ HA8.out.env.pa HA8.out.bd HT8.out (by show g < w7.heap.size; omega) hz8).mono ?_
      rintro e w9 ⟨cs9, rfl, hp9, hb9, ht9⟩
      have hz9 := hp9.1.size
      have HA9 := Hd (HA8.out.call hp9 hb9 hgb)
      have HT9 := Hd ht9
      have k9 : w9.cell? ⟨ts, 4, none⟩ = some (.slice Av l.length cv) := (HA9.out.env.c7 0 rfl).2.2.2.2.2.1
      clear hp9 hb9 ht9
      refine hK2.out _ _ (k9) (fun hHeld => ?_)
      clear hK2 K2
      refine x1 (i := 7) (fun K2 hK2 => ?_)
      go_simp
      go_at_call 50
      refine (HBN.out _ _ _ HA9.out.env.pa HA9.out.bd HT9.out (by show g < w7.heap.size; omega) (Nat.le_trans hz8 hz9)).mono ?_
      rintro e wa ⟨csa, rfl, hpa, hba, hta⟩
      have hza := hpa.1.size
      have HAa := Hd (HA9.out.call hpa hba hgb)
      have HTa := Hd hta
      have ka : wa.cell? ⟨ts, 4, none⟩ = some (.slice Av l.length cv) := (HAa.out.env.c7 0 rfl).2.2.2.2.2.1
      obtain ⟨css, hcl, hown, hpush⟩ := HAa.out.push HTa.out (by show base ≤ w7.heap.size; omega) ⟨HL7.out.1, HL7.out.2.1, HL7.out.2.2.2.2⟩ hgb
      have HOWN := Hd hown
      have HPUSH := Hd hpush
      obtain ⟨p0, p1, C1, o1, e1', C2, o2, e2', C3, o3, e3', p5, p6, rfl⟩ := HTa.out.form
      have hsa : w.heap.size ≤ wa.heap.size := HAa.out.env.size
      clear hpa hba hta hown hpush hcl
      refine hK2.out _ _ (ka) (fun hHeld => ?_)
      clear hK2 K2
      refine x1 (i := 8) (fun K2 hK2 => ?_)
      go_simp
      refine hK2.out _ _ (by go_keep) (fun hHeld => ?_)
      clear hK2 K2
      refine x1 (i := 9) (fun K2 hK2 => ?_)
      refine step_append_any _ rfl (.tmp 56) (.tmp 63) 24 rfl base 26 i0 _ 7 112 Tryz.underlying24 hi hz0 hz1 hz2 rfl (by decide) (.slice Av l.length cv) l.length css.flatten (by rfl) (World.ownsRow.alloc HOWN.out _) (wa.heap.size + 1) (some ⟨wa.heap.size, 0, none⟩) 1 1 _ (by rfl) (Reads.builtN wa 26 [_, _, _, _, _, _, _] 1 7 rfl) (by intro u hu; simp only [List.mem_cons, List.not_mem_nil, or_false] at hu; rcases hu with rfl | rfl | rfl | rfl | rfl | rfl | rfl <;> rfl) (by simp only [maxLen]; omega) (by omega) (by simp; omega) ?_
      intro v6 wb hown6 hgrow6 hv6
      obtain ⟨A6, c6, rfl, _, _⟩ := own_form hown6
      obtain ⟨hcl, hfz, hlt6, hac⟩ := HPUSH.out _ _ _ hown6 hgrow6 (by simpa using hv6)
      have HAC := Hd hac
      have kb : wb.cell? ⟨ts, 4, none⟩ = some (.slice Av l.length cv) := by rw [hcl 4]; exact ka
      have kbf := hfz 4
      clear hown6 hgrow6 hv6 hcl hfz hac
      try go_simp
      refine hK2.out _ _ (kb) (fun hHeld => ?_)
      clear hK2 K2
      refine x1 (i := 10) (fun K2 hK2 => ?_)
      go_simp
      refine hK2.out _ _ (hHeld) (fun hHeld => ?_)
      clear hK2 K2
      try simp only [Act.put, List.setIfInBounds_toArray, List.set_cons_zero, List.set_cons_succ]
      refine xl (fun K2 hK2 => ?_)
      go_simp
      refine hK2.out _ _ ?_
      clear hK2 K2
      try simp only [Act.put, List.setIfInBounds_toArray, List.set_cons_zero, List.set_cons_succ]
      refine wpAnyX_done (by kernel_rfl) ?_ _
      go_wp2_with fail
      go_roundg (f + 1)
      case measure => omega
      case rel => exact ⟨pb.2, nm ++ q.2.1, l ++ [pb.1], _, by omega, HAC.out, by omega, by simp only [List.length_append]; omega, by simp only [List.length_append, List.length_singleton]; omega, HR3.out⟩
     ·have d1 : ((q.1 : Int) == 2) = false := natInt (by omega)
      have HE2 : Hid (RK = (nm, l, s')) := Hd (by rw [← HR2.out]; exact keyL_stop (by rw [hq, hk]; simpa using h1))
      clear hk h1 hq
      go_upto_region 13 with (go_at_call 11; refine HNX.out.mono ?_; rintro e w4 ⟨rfl, hb⟩; have HA5 := Hd (HA.out.below hb); clear hb)
      obtain ⟨a, a0, a1, a2, a3, a4, a5, a6⟩ := HA5.out.env.c7 0 rfl
      obtain ⟨b, b0, b1, b2, b3, b4, b5, b6⟩ := HA5.out.env.c7 1 rfl
      have fz := HA5.out.env.fz 1 rfl
      go_wp2
      obtain ⟨hb4, hnd⟩ := HA5.out.done (R := R) (by rw [HE.out, HE2.out])
      exact bodyPost_ret (ret26 rfl _ _ rfl hb4) rfl hnd
  ·have d2 : ((t.1 : Int) == 2) = false := natInt (by omega)
   have HE : Hid (R = (Ps.nd 7 [] [] t.2.2, Ps.odd T fin s)) := Hd (by rw [HU.out, if_neg (by rw [f0]; decide), if_neg (by rw [hbi]; decide), if_neg (by simpa using k2)])
   have HBO := Hd (HB.out.rf (t.2.2) 124)
   have HOD : Hid (Ps.odd T fin s = Ps.rf s t.2.2 124) := Hd (by unfold Ps.odd; rw [ht])
   clear k1 ht hbi k2
   go_upto_region 13 with (first
    | (go_at_call 13; refine (HBI.out _).mono ?_; rintro e w4 ⟨rfl, hb⟩; have HA1 := Hd (HA0.out.below hb); have HK1 := Hd (HK0.out.below hb HK0.out.lt); clear hb; have a := HK1.out.lt; have a0 := HK1.out.cell 0; have a1 := HK1.out.cell 1; have a2 := HK1.out.cell 2)
    | (go_at_call 15; refine (podd_any HA1.out.env.pa).mono ?_; rintro e w5 ⟨rfl, hp⟩; have HA5 := Hd (HA1.out.call hp (by rw [HOD.out]; exact HBO.out) hgb); clear hp))
   obtain ⟨a, a0, a1, a2, a3, a4, a5, a6⟩ := HA5.out.env.c7 0 rfl
   obtain ⟨b, b0, b1, b2, b3, b4, b5, b6⟩ := HA5.out.env.c7 1 rfl
   have fz := HA5.out.env.fz 1 rfl
   go_wp2
   obtain ⟨hb4, hnd⟩ := HA5.out.done (R := R) HE.out
   exact bodyPost_ret (ret26 rfl _ _ rfl hb4) rfl hnd
theorem pmsg_any {g c fin F : Nat} {A : Option Addr} {T : List Lx.Tk} (hT : Ps.Fits 65536 T) (ih : ∀ f, f < F → WAll g A c T fin f) (s : Ps.PS) (w : World) (h : PA w g A c T fin s) (hb : Bd T s) (hf : Ps.rem T s + 6 ≤ F) :
  Calls Tryz.prog 53 #[.pointer (some ⟨g, 0, none⟩)] w (NdP w g A c T fin w.heap.size (Ps.msg T fin F s)) := pmsg_base hT ih s w w.heap.size h hb h.lt (Nat.le_refl _) hf
def Exit.jumps (J : Nat → Act → World → Prop) (Q : Exit → Act → World → Prop) : Exit → Act → World → Prop
 | .goto l, a, w => J l a w
 | e, a, w => Q e a w
section
variable {P : Program} {a : Act} {w : World} {Q : Exit → Act → World → Prop}
theorem wp_scope_lg {c : Code} (J : Nat → Nat → Act → World → Prop)
  (pass : ∀ l n a w, J l n a w → ∃ rest, findLabel c l = some (Code.skip.seq rest) ∧ rest.wp P (Exit.jumps (fun l' a' w' => ∃ m, m < n ∧ J l' m a' w') Q) a w)
  (first : (∀ l n a w rest, J l n a w → findLabel c l = some (Code.skip.seq rest) → rest.wp P (Exit.jumps (fun l' a' w' => ∃ m, J l' m a' w') Q) a w) → c.wp P (Exit.jumps (fun l a w => ∃ n, J l n a w) Q) a w) : (Code.scope c).wp P Q a w := by
 have hfirst := first fun l n a w rest h hf => by
  obtain ⟨rest', hf', hp⟩ := pass l n a w h
  rw [hf] at hf'
  injection hf' with hf'
  injection hf' with _ hf'
  subst hf'
  refine Code.wp_mono (fun e a w he => ?_) hp
  cases e with
  | goto l' => obtain ⟨m, _, hJ⟩ := he; exact ⟨m, hJ⟩
  | normal => exact he
  | exit id => exact he
  | ret => exact he
  | panic ch => exact he
  | outgrown => exact he
 intro b k cs
 have key : ∀ n l a w rest, findLabel c l = some (Code.skip.seq rest) → J l n a w → ∃ e a' w', Q e a' w' ∧ Arrives P (lone (b.at a (.code (Code.skip.seq rest) :: .inScope c :: k)) cs w) b k cs e a' w' := by
  intro n
  induction n using Nat.strongRecOn with
  | _ n ih =>
   intro l a w rest hf hJ
   obtain ⟨rest', hf', hp0⟩ := pass l n a w hJ
   rw [hf] at hf'
   injection hf' with hf'
   injection hf' with _ hf'
   subst hf'
   have hp := wp_seq (wp_skip hp0)
   obtain ⟨e, a₁, w₁, hq, harr⟩ := hp b (.inScope c :: k) cs
   cases e with
   | normal => exact ⟨.normal, a₁, w₁, hq, Steps.trans harr (.one step_inScope)⟩
   | exit id => exact ⟨.exit id, a₁, w₁, hq, fun k' hk => harr k' (by simp [exitTo, hk])⟩
   | goto l' =>
    obtain ⟨m, hlt, hJ'⟩ := hq
    obtain ⟨rest2, hf2, _⟩ := pass l' m a₁ w₁ hJ'
    have hg : gotoIn l' (.inScope c :: k) = some (.code (Code.skip.seq rest2) :: .inScope c :: k) := by simp [gotoIn, hf2]
    obtain ⟨e₂, a₂, w₂, hq₂, harr₂⟩ := ih m hlt l' a₁ w₁ rest2 hf2 hJ'
    exact ⟨e₂, a₂, w₂, hq₂, .of_steps (harr _ hg) harr₂⟩
   | ret => exact ⟨_, a₁, w₁, hq, harr⟩
   | panic ch => exact ⟨_, a₁, w₁, hq, harr⟩
   | outgrown => exact ⟨_, a₁, w₁, hq, harr⟩
 obtain ⟨e, a₁, w₁, hq, harr⟩ := hfirst b (.inScope c :: k) cs
 cases e with
 | normal => exact ⟨.normal, a₁, w₁, hq, .head step_scope (Steps.trans harr (.one step_inScope))⟩
 | exit id => exact ⟨.exit id, a₁, w₁, hq, fun k' hk => .head step_scope (harr k' (by simp [exitTo, hk]))⟩
 | goto l' =>
  obtain ⟨n, hJ⟩ := hq
  obtain ⟨rest2, hf2, _⟩ := pass l' n a₁ w₁ hJ
  have hg : gotoIn l' (.inScope c :: k) = some (.code (Code.skip.seq rest2) :: .inScope c :: k) := by simp [gotoIn, hf2]
  obtain ⟨e₂, a₂, w₂, hq₂, harr₂⟩ := key n l' a₁ w₁ rest2 hf2 hJ
  exact ⟨e₂, a₂, w₂, hq₂, .of_steps (.head step_scope (harr _ hg)) harr₂⟩
 | ret => exact ⟨_, a₁, w₁, hq, .of_steps (.one step_scope) harr⟩
 | panic ch => exact ⟨_, a₁, w₁, hq, .of_steps (.one step_scope) harr⟩
 | outgrown => exact ⟨_, a₁, w₁, hq, .of_steps (.one step_scope) harr⟩
end
structure StS (w : World) (g : Nat) (A : Option Addr) (c : Nat) (T : List Lx.Tk) (fin : Nat) (s' : Ps.PS) (l : List Ps.Tr) (v : Value) (wr : World) : Prop where
 env : Env w g A c T fin s' [] wr
 row : TsM wr w.heap.size (fun _ => False) v l
 bd : Bd T s'
section
variable {w wr w1 : World} {g c fin : Nat} {A : Option Addr} {T : List Lx.Tk} {s' s1 : Ps.PS} {l : List Ps.Tr} {v : Value}
theorem StS.below (h : StS w g A c T fin s' l v wr) (hb : Below wr.heap.size wr w1) : StS w g A c T fin s' l v w1 := ⟨h.env.below hb, h.row.below hb, h.bd⟩
theorem StS.call (h : StS w g A c T fin s' l v wr) (hp : PP wr g A c T fin s1 w1) (hb : Bd T s1) : StS w g A c T fin s1 l v w1 := ⟨h.env.call hp, h.row.call hp.1 h.env.gl, hb⟩
theorem StS.rows (h : StS w g A c T fin s' l v wr) : ∀ k, v.ownBlock = some k → k < wr.heap.size := by
 obtain ⟨css, _, h2, _⟩ := h.row
 exact fun k hk => (h2.lt k hk).2
theorem StS.push {lo : Nat} {cs : List Value} {t : Ps.Tr} (h : StS w g A c T fin s' l v wr) (ht : TrM wr lo (fun _ => False) cs t) (hbl : w.heap.size ≤ lo) (hlo : ∀ k, v.ownBlock = some k → k < lo) :
  ∃ css : List (List Value), css.length = l.length ∧ wr.ownsRow w.heap.size 26 7 v l.length css.flatten ∧ ∀ (o : Obj) (v' : Value) (w6 : World), w6.ownsRow w.heap.size 26 7 v' (l.length + 1) (css.flatten ++ cs) → (wr.alloc o).grownBy w6 v.ownBlock → (v'.ownBlock = v.ownBlock ∨ v'.ownBlock = some (wr.heap.size + 1)) →
   StS w g A c T fin s' (l ++ [t]) v' w6 := by
 obtain ⟨css, k1, k2, k4, k3⟩ := h.row
 refine ⟨css, k1, k2, fun o v' w6 ho hg hv => ?_⟩
 have hgr : wr.grownBy w6 v.ownBlock := by
  have a : wr.grownBy (wr.alloc o) v.ownBlock := only_alloc (World.grownBy.refl wr _) o
  exact ⟨hg.os.trans a.os, hg.tape.trans a.tape, hg.output.trans a.output, Nat.le_trans a.size hg.size, fun i hi hn => (hg.block i (Nat.lt_of_lt_of_le hi a.size) hn).trans (a.block i hi hn)⟩
 refine ⟨h.env.row (v := v) (Chg.of_grown hgr (F := fun k => k = g ∨ v.ownBlock = some k) fun k e => .inr e) (h.env.pa.grown k2 (by decide) h.env.gl hgr) fun k hk => ⟨(k2.lt k hk).1, fun i x hx => by simp at hx⟩, ?_, h.bd⟩
 exact TsM.snoc (X := fun _ => False) k1 k4 k3 (fun e => e) (TrIn.more ht fun k hk _ => ⟨Nat.le_trans hbl hk.1, hk.2.1, fun e => e, fun e => by have := hlo k e.symm; have := hk.1; omega⟩) ho hg hv
end
def frameS (g : Nat) (m : Lx.Txt) (v : Value) (us : Nat → Value) : Act := ⟨#[.pointer (some ⟨g, 0, none⟩), .string ⟨m.toArray⟩, us 2, us 3, .slice none 0 0, v, us 6, us 7, us 8, us 9, us 10, us 11, us 12, us 13, us 14, us 15, us 16, us 17, us 18, us 19, us 20, us 21, us 22, us 23, us 24, us 25, us 26, us 27, us 28, us 29, us 30, us 31, us 32, us 33, us 34, us 35, us 36, us 37, us 38, us 39, us 40, us 41, us 42, us 43, us 44, us 45, us 46, us 47, us 48, us 49, us 50, us 51, us 52, us 53, us 54, us 55, us 56, us 57, us 58, us 59, us 60, us 61, us 62, us 63, us 64, us 65, us 66], []⟩
theorem frameS_ex {g : Nat} {m : Lx.Txt} {v : Value} {a : Act} (h : a = frameS g m v fun i => a.tmps.getD i undef) : ∃ us, a = frameS g m v us := ⟨_, h⟩
def StJ (w : World) (g : Nat) (A : Option Addr) (c : Nat) (T : List Lx.Tk) (fin F : Nat) (m : Lx.Txt) (R : List Ps.Tr × Ps.PS) (lb n : Nat) (a : Act) (wr : World) : Prop :=
 ∃ (s' : Ps.PS) (l : List Ps.Tr) (v : Value), (∃ us, a = frameS g m v us) ∧ StS w g A c T fin s' l v wr ∧
  ((lb = 0 ∧ n ≤ F ∧ Ps.rem T s' + 9 ≤ n ∧ l.length ≤ s'.at_ ∧ Ps.stL T fin n m l s' = R) ∨ (lb = 1 ∧ n = 0 ∧ R = (l, if Ps.ok s' && !Ps.closed T fin m s' then Ps.odd T fin s' else s')))
set_option maxRecDepth 100000 in
set_option maxHeartbeats 8000000 in
theorem pstat_any {g c fin F : Nat} {A : Option Addr} {T : List Lx.Tk} (hT : Ps.Fits 65536 T) (ih : ∀ f, f < F → WAll g A c T fin f) (m : Lx.Txt) (s : Ps.PS) (w : World) (h : PA w g A c T fin s) (hb : Bd T s) (hf : Ps.rem T s + 9 ≤ F) :
  Calls Tryz.prog 19 #[.pointer (some ⟨g, 0, none⟩), .string ⟨m.toArray⟩] w (TsP w g A c T fin (Ps.stL T fin F m [] s)) := by
 have hTl := hT.len
 have HS0 : Hid (StS w g A c T fin s [] (.slice none 0 0) w) := Hd ⟨Env.start h, TsM.nil _ _ _, hb⟩
 obtain ⟨R, hR⟩ : ∃ R, Ps.stL T fin F m [] s = R := ⟨_, rfl⟩
 rw [hR]
 have HR := Hd hR
 have IH := Hd ih
 clear h hb ih hR
 go_enter Tryz.func19, Tryz.ntmps19
 go_wp2_with fail
 refine wp_scope_lg (StJ w g A c T fin F m R) ?pass ?first
 case first =>
  intro hrest
  have HRS := Hd hrest
  clear hrest
  go_wp2_with fail
  go_step3
  dsimp only [Exit.then]
  rename_i K2 hK2
  refine hK2 _ _ ?_
  exact HRS.out 0 F _ _ _ ⟨s, [], _, frameS_ex rfl, HS0.out, .inl ⟨rfl, Nat.le_refl _, hf, by simp, HR.out⟩⟩ rfl
 case pass =>
  rintro lb n a wr ⟨s', l, v, ⟨us, rfl⟩, hS, hlb⟩
  have HS := Hd hS
  have hg := hS.env.pa.lt
  clear HS0 hS
  rcases hlb with ⟨rfl, hn, hrm, hll, hR⟩ | ⟨rfl, rfl, hR⟩
  ·refine ⟨_, rfl, ?_⟩
   unfold frameS
   obtain ⟨f, rfl⟩ : ∃ f, n = f + 1 := ⟨n - 1, by omega⟩
   have HR2 := Hd hR
   obtain ⟨i0, hi, hz0, hz1, hz2⟩ := info_parts info26
   have hat := HS.out.bd.at_
   have hzw := HS.out.env.size
   obtain ⟨Av, cv, rfl, -, -⟩ := HS.out.row.form
   clear hR HR
   cases hk : Ps.ok s' with
   | false =>
    have HRE : Hid (R = (l, s')) := Hd (by rw [← HR2.out, Ps.stL, if_pos (by rw [hk]; rfl)])
    obtain ⟨kq, k4⟩ := HS.out.env.pa.noc hk
    clear hk
    go_wp2
    (try simp only [Exit.jumps]); go_ret
    rw [HRE.out]
    exact ⟨_, rfl, HS.out.env.pp, HS.out.bd, HS.out.row⟩
   | true =>
   have k4 := HS.out.env.pa.okc hk
   have HC := Hd (pclosed_any HS.out.env.pa m)
   cases hc : Ps.closed T fin m s' with
   | true =>
    have HRE : Hid (R = (l, s')) := Hd (by rw [← HR2.out, Ps.stL, if_pos (by rw [hk, hc]; rfl)])
    rw [hc] at HC
    clear hk hc
    go_wp2_with (go_at_call 34; refine HC.out.mono ?_; rintro e w1 ⟨rfl, hb⟩; have HS1 := Hd (HS.out.below hb); clear hb)
    (try simp only [Exit.jumps]); go_ret
    rw [HRE.out]
    exact ⟨_, rfl, HS1.out.env.pp, HS1.out.bd, HS1.out.row⟩
   | false =>
   rw [hc] at HC
   have HI94 := Hd fun (W : World) (h : PA W g A c T fin s') => pis_any h [94]
   cases hi94 : Ps.is_ T fin s' [94] with
   | true =>
    rw [hi94] at HI94
    have hlt := Ps.mark_lt (fin := fin) hi94
    obtain ⟨t, ht⟩ : ∃ t, Ps.nx T fin s' = t := ⟨_, rfl⟩
    obtain ⟨pe, hpe⟩ : ∃ x, Ps.expr T fin f (Ps.adv s') = x := ⟨_, rfl⟩
    have hra := Ps.rem_adv (T := T) (s := s') (s' := Ps.adv s') (Nat.lt_succ_self _) hlt
    obtain ⟨s2, hs2⟩ : ∃ x, (if Ps.is_ T fin pe.2 [46] then Ps.adv pe.2 else pe.2) = x := ⟨_, rfl⟩
    have HRE : Hid (R = (l ++ [Ps.nd 3 [] [pe.1] t.2.2], if Ps.ok s2 && !Ps.closed T fin m s2 then Ps.odd T fin s2 else s2)) := Hd (by rw [← HR2.out, Ps.stL, if_neg (by rw [hk, hc]; decide), if_pos hi94, hpe, ht]; dsimp only; rw [hs2])
    have HTK := Hd fun (W : World) (h : PA W g A c T fin s') => ptake_any h (by omega)
    rw [ht] at HTK
    have HBA := Hd (HS.out.bd.adv hlt)
    have HEX := Hd fun (W : World) (h : PA W g A c T fin (Ps.adv s')) => (IH.out f (by omega)).expr (Ps.adv s') W h HBA.out (by omega)
    rw [hpe] at HEX
    have HS2E := Hd hs2
    have hf2 := fld2 (.int .i64 (t.1 : Int)) (.string ⟨t.2.1.toArray⟩) (.int .i64 (t.2.2 : Int))
    have hple : s'.at_ ≤ pe.2.at_ := by rw [← hpe]; exact Nat.le_trans (Nat.le_succ _) ((Ps.leAll T fin f).expr (Ps.adv s')).at_
    clear hk hc hi94 ht hpe hs2
    go_upto_region 7 with (first
     | (go_at_call 34; refine HC.out.mono ?_; rintro e w1 ⟨rfl, hb⟩; have HS1 := Hd (HS.out.below hb); clear hb)
     | (go_at_call 33; refine (HI94.out _ HS1.out.env.pa).mono ?_; rintro e w2 ⟨rfl, hb⟩; have HS2 := Hd (HS1.out.below hb); clear hb)
     | (go_at_call 12; refine (HTK.out _ HS2.out.env.pa).mono ?_; rintro e w3 ⟨rfl, hp⟩; have HS3 := Hd (HS2.out.call hp HBA.out); have hr3 := HS3.out.rows; have hz3 := HS3.out.env.size; clear hp)
     | (go_at_call 35; refine (HEX.out _ HS3.out.env.pa).mono ?_; rintro e w5 ⟨cs5, rfl, hp5, hb5, ht5⟩; have hz5 := hp5.1.size; have HS5 := Hd (HS3.out.call hp5 hb5); have HT5 := Hd ht5; obtain ⟨p0, p1, C1, o1, e1, C2, o2, e2, C3, o3, e3, p5, p6, rfl⟩ := ht5.form; clear hp5 hb5 ht5))
    refine wp_world (fun W => StS w g A c T fin pe.2 l _ W ∧ Blk W w5.heap.size 26 _ ∧ TrM W w3.heap.size (fun _ => False) _ pe.1) ⟨HS5.out.below (new_below _ _), Blk.new _ _ _, HT5.out.below (new_below _ _)⟩ fun w6 h6 => ?_
    have HS6 := Hd h6.1
    have HK6 := Hd h6.2.1
    have HT6 := Hd h6.2.2
    clear h6 HS5 HT5 HS3 HS2 HS1 HS HC HI94 HTK HEX k4
    have y := HK6.out.lt
    have y0 := HK6.out.cell 0
    have y1 := HK6.out.cell 1
    have y2 := HK6.out.cell 2
    have y3 := HK6.out.cell 3
    have y4 := HK6.out.cell 4
    have y5 := HK6.out.cell 5
    have y6 := HK6.out.cell 6
    have hx6 : w3.heap.size ≤ w6.heap.size := by omega
    have h1 := TsM.one HT6.out hx6 (fun e => e)
    have h2 := TrM.nd (l := [pe.1]) 3 [] t.2.2 h1
    obtain ⟨css, hcl, hown, hpush⟩ := (HS6.out.below (new_below w6 (.cells #[.int .i64 (p0 : Int), .string ⟨p1.toArray⟩, .slice C1 o1 e1, .slice C2 o2 e2, .slice C3 o3 e3, .int .i64 (p5 : Int), .int .i64 (p6 : Int)] 26))).push h2 hz3 hr3
    have HOWN := Hd hown
    have HPUSH := Hd hpush
    have hsz : (w6.alloc (.cells #[.int .i64 (p0 : Int), .string ⟨p1.toArray⟩, .slice C1 o1 e1, .slice C2 o2 e2, .slice C3 o3 e3, .int .i64 (p5 : Int), .int .i64 (p6 : Int)] 26)).heap.size = w6.heap.size + 1 := by simp
    have hrd := Reads.builtN (w6.alloc (.cells #[.int .i64 (p0 : Int), .string ⟨p1.toArray⟩, .slice C1 o1 e1, .slice C2 o2 e2, .slice C3 o3 e3, .int .i64 (p5 : Int), .int .i64 (p6 : Int)] 26)) 26 [.int .i64 3, .string ⟨#[]⟩, .slice none 0 0, .slice none 0 0, .slice (some ⟨w6.heap.size, 0, none⟩) 1 1, .int .i64 0, .int .i64 (t.2.2 : Int)] 1 7 rfl
    rw [hsz] at hrd
    have HRD := Hd hrd
    clear hown hpush hcl h1 h2 hrd hsz
    go_upto_region 8 with (at_builtin; refine wpList_append_any _ rfl (.tmp 26) (.tmp 31) 24 rfl w.heap.size 26 i0 _ 7 112 Tryz.underlying24 hi hz0 hz1 hz2 rfl (by decide) (.slice Av l.length cv) l.length css.flatten (by rfl) (World.ownsRow.alloc HOWN.out _) ((w6.heap.size + 1) + 1) (some ⟨(w6.heap.size + 1), 0, none⟩) 1 1 _ (by rfl) (HRD.out) (by intro u hu; simp only [List.mem_cons, List.not_mem_nil, or_false] at hu; rcases hu with rfl | rfl | rfl | rfl | rfl | rfl | rfl <;> rfl) (by simp only [maxLen]; omega) (by omega) (by simp; omega) ?_; intro v6 wb hown6 hgrow6 hv6; have HST := Hd (HPUSH.out _ _ _ hown6 hgrow6 (by simpa using hv6)); obtain ⟨A6, c6, rfl, _, _⟩ := own_form hown6; clear hown6 hgrow6 hv6)
    clear y y0 y1 y2 y3 y4 y5 y6 HOWN HPUSH HRD HK6 HT6 HS6
    have HI46 := Hd (pis_any HST.out.env.pa [46])
    cases hi46 : Ps.is_ T fin pe.2 [46] with
    | true =>
     rw [hi46] at HI46
     have hlt2 := Ps.mark_lt (fin := fin) hi46
     have HS2F : Hid (Ps.adv pe.2 = s2) := Hd (by rw [← HS2E.out, hi46]; rfl)
     clear hi46
     go_wp2_with (first
      | (go_at_call 33; refine HI46.out.mono ?_; rintro e w9 ⟨rfl, hb⟩; have HS9 := Hd (HST.out.below hb); clear hb)
      | (go_at_call 12; refine (ptake_any HS9.out.env.pa (by omega)).mono ?_; rintro e w10 ⟨rfl, hp⟩; have HS10 := Hd (HS9.out.call hp (HS9.out.bd.adv hlt2)); clear hp))
     go_step3
     exact ⟨0, by omega, s2, _, _, frameS_ex rfl, by have := HS10.out; rwa [HS2F.out] at this, .inr ⟨rfl, rfl, HRE.out⟩⟩
    | false =>
     rw [hi46] at HI46
     have HS2F : Hid (pe.2 = s2) := Hd (by rw [← HS2E.out, hi46]; rfl)
     clear hi46
     go_wp2_with (go_at_call 33; refine HI46.out.mono ?_; rintro e w9 ⟨rfl, hb⟩; have HS9 := Hd (HST.out.below hb); clear hb)
     go_step3
     exact ⟨0, by omega, s2, _, _, frameS_ex rfl, by have := HS9.out; rwa [HS2F.out] at this, .inr ⟨rfl, rfl, HRE.out⟩⟩
   | false =>
    rw [hi94] at HI94
    obtain ⟨pe, hpe⟩ : ∃ x, Ps.expr T fin f s' = x := ⟨_, rfl⟩
    have HRE : Hid (R = if Ps.ok pe.2 && Ps.is_ T fin pe.2 [46] then Ps.stL T fin f m (l ++ [pe.1]) (Ps.adv pe.2) else (l ++ [pe.1], if Ps.ok pe.2 && !Ps.closed T fin m pe.2 then Ps.odd T fin pe.2 else pe.2)) := Hd (by rw [← HR2.out, Ps.stL, if_neg (by rw [hk, hc]; decide), if_neg (by rw [hi94]; decide), hpe])
    have HEX := Hd fun (W : World) (h : PA W g A c T fin s') => (IH.out f (by omega)).expr s' W h HS.out.bd (by omega)
    rw [hpe] at HEX
    have hple : s'.at_ ≤ pe.2.at_ := by rw [← hpe]; exact ((Ps.leAll T fin f).expr s').at_
    clear hk hc hi94 hpe
    go_upto_region 11 with (first
     | (go_at_call 34; refine HC.out.mono ?_; rintro e w1 ⟨rfl, hb⟩; have HS1 := Hd (HS.out.below hb); clear hb)
     | (go_at_call 33; refine (HI94.out _ HS1.out.env.pa).mono ?_; rintro e w2 ⟨rfl, hb⟩; have HS2 := Hd (HS1.out.below hb); have hr3 := HS2.out.rows; have hz3 := HS2.out.env.size; clear hb)
     | (go_at_call 35; refine (HEX.out _ HS2.out.env.pa).mono ?_; rintro e w5 ⟨cs5, rfl, hp5, hb5, ht5⟩; have hz5 := hp5.1.size; have HS5 := Hd (HS2.out.call hp5 hb5); obtain ⟨p0, p1, C1, o1, e1, C2, o2, e2, C3, o3, e3, p5, p6, rfl⟩ := ht5.form; obtain ⟨css, hcl, hown, hpush⟩ := HS5.out.push ht5 hz3 hr3; have HOWN := Hd hown; have HPUSH := Hd hpush; clear hp5 hb5 ht5 hown hpush hcl)
     | (at_builtin; refine wpList_append_any _ rfl (.tmp 37) (.tmp 40) 24 rfl w.heap.size 26 i0 _ 7 112 Tryz.underlying24 hi hz0 hz1 hz2 rfl (by decide) (.slice Av l.length cv) l.length css.flatten (by rfl) (World.ownsRow.alloc HOWN.out _) (w5.heap.size + 1) (some ⟨w5.heap.size, 0, none⟩) 1 1 _ (by rfl) (Reads.builtN w5 26 [_, _, _, _, _, _, _] 1 7 rfl) (by intro u hu; simp only [List.mem_cons, List.not_mem_nil, or_false] at hu; rcases hu with rfl | rfl | rfl | rfl | rfl | rfl | rfl <;> rfl) (by simp only [maxLen]; omega) (by omega) (by simp; omega) ?_; intro v6 wb hown6 hgrow6 hv6; have HST := Hd (HPUSH.out _ _ _ hown6 hgrow6 (by simpa using hv6)); obtain ⟨A6, c6, rfl, _, _⟩ := own_form hown6; clear hown6 hgrow6 hv6))
    clear HS5 HS2 HS1 HS HC HI94 HEX k4 HOWN HPUSH
    have hg6 := HST.out.env.pa.lt
    have HI46 := Hd (pis_any HST.out.env.pa [46])
    cases hk2 : Ps.ok pe.2 with
    | false =>
     have HRE0 : Hid (R = (l ++ [pe.1], if Ps.ok pe.2 && !Ps.closed T fin m pe.2 then Ps.odd T fin pe.2 else pe.2)) := Hd (by rw [HRE.out, if_neg (by rw [hk2]; simp)])
     obtain ⟨kq, k4⟩ := HST.out.env.pa.noc hk2
     clear hk2
     go_upto_region 13 with fail
     clear k4
     go_step3
     dsimp only [Exit.then]
     rename_i K2 hK2
     refine hK2 _ _ ?_
     cases hke : Ps.ok pe.2 with
     | false =>
      have HRE : Hid (R = (l ++ [pe.1], pe.2)) := Hd (by rw [HRE0.out, hke]; rfl)
      obtain ⟨kqe, ke4⟩ := HST.out.env.pa.noc hke
      clear hke
      go_wp2
      (try simp only [Exit.jumps]); go_ret
      rw [HRE.out]
      exact ⟨_, rfl, HST.out.env.pp, HST.out.bd, HST.out.row⟩
     | true =>
      have ke4 := HST.out.env.pa.okc hke
      have HCE := Hd (pclosed_any HST.out.env.pa m)
      cases hce : Ps.closed T fin m pe.2 with
      | true =>
       rw [hce] at HCE
       have HRE : Hid (R = (l ++ [pe.1], pe.2)) := Hd (by rw [HRE0.out, hke, hce]; rfl)
       clear hke hce
       go_wp2_with (go_at_call 34; refine HCE.out.mono ?_; rintro e we ⟨rfl, hb⟩; have HSE := Hd (HST.out.below hb); clear hb)
       (try simp only [Exit.jumps]); go_ret
       rw [HRE.out]
       exact ⟨_, rfl, HSE.out.env.pp, HSE.out.bd, HSE.out.row⟩
      | false =>
       rw [hce] at HCE
       have HRE : Hid (R = (l ++ [pe.1], Ps.odd T fin pe.2)) := Hd (by rw [HRE0.out, hke, hce]; rfl)
       clear hke hce
       go_wp2_with (first
        | (go_at_call 34; refine HCE.out.mono ?_; rintro e we ⟨rfl, hb⟩; have HSE := Hd (HST.out.below hb); clear hb)
        | (go_at_call 15; refine (podd_any HSE.out.env.pa).mono ?_; rintro e wf ⟨rfl, hp⟩; have HSF := Hd (HSE.out.call hp (HSE.out.bd.rf _ _)); clear hp))
       (try simp only [Exit.jumps]); go_ret
       rw [HRE.out]
       exact ⟨_, rfl, HSF.out.env.pp, HSF.out.bd, HSF.out.row⟩
    | true =>
     have k4 := HST.out.env.pa.okc hk2
     cases hi46 : Ps.is_ T fin pe.2 [46] with
     | true =>
      rw [hi46] at HI46
      have hlt2 := Ps.mark_lt (fin := fin) hi46
      have HRG : Hid (Ps.stL T fin f m (l ++ [pe.1]) (Ps.adv pe.2) = R) := Hd (by rw [HRE.out, if_pos (by rw [hk2, hi46]; rfl)])
      have hrb := Ps.rem_adv (T := T) (s := pe.2) (s' := Ps.adv pe.2) (Nat.lt_succ_self _) hlt2
      have hrc := Ps.rem_le (T := T) hple
      clear hi46 hk2
      go_wp2_with (first
       | (go_at_call 33; refine HI46.out.mono ?_; rintro e w9 ⟨rfl, hb⟩; have HS9 := Hd (HST.out.below hb); clear hb)
       | (go_at_call 12; refine (ptake_any HS9.out.env.pa (by omega)).mono ?_; rintro e w10 ⟨rfl, hp⟩; have HS10 := Hd (HS9.out.call hp (HS9.out.bd.adv hlt2)); clear hp))
      go_step3
      exact ⟨f, by omega, Ps.adv pe.2, _, _, frameS_ex rfl, HS10.out, .inl ⟨rfl, by omega, by omega, by show _ ≤ pe.2.at_ + 1; simp only [List.length_append, List.length_singleton]; omega, HRG.out⟩⟩
     | false =>
      have HRE0 : Hid (R = (l ++ [pe.1], if Ps.ok pe.2 && !Ps.closed T fin m pe.2 then Ps.odd T fin pe.2 else pe.2)) := Hd (by rw [HRE.out, if_neg (by rw [hk2, hi46]; decide)])
      rw [hi46] at HI46
      clear hi46 hk2
      go_upto_region 13 with (go_at_call 33; refine HI46.out.mono ?_; rintro e w9 ⟨rfl, hb⟩; have HS9 := Hd (HST.out.below hb); clear hb)
      have hg9 := HS9.out.env.pa.lt
      clear k4
      go_step3
      dsimp only [Exit.then]
      rename_i K2 hK2
      refine hK2 _ _ ?_
      cases hke : Ps.ok pe.2 with
      | false =>
       have HRE : Hid (R = (l ++ [pe.1], pe.2)) := Hd (by rw [HRE0.out, hke]; rfl)
       obtain ⟨kqe, ke4⟩ := HS9.out.env.pa.noc hke
       clear hke
       go_wp2
       (try simp only [Exit.jumps]); go_ret
       rw [HRE.out]
       exact ⟨_, rfl, HS9.out.env.pp, HS9.out.bd, HS9.out.row⟩
      | true =>
       have ke4 := HS9.out.env.pa.okc hke
       have HCE := Hd (pclosed_any HS9.out.env.pa m)
       cases hce : Ps.closed T fin m pe.2 with
       | true =>
        rw [hce] at HCE
        have HRE : Hid (R = (l ++ [pe.1], pe.2)) := Hd (by rw [HRE0.out, hke, hce]; rfl)
        clear hke hce
        go_wp2_with (go_at_call 34; refine HCE.out.mono ?_; rintro e we ⟨rfl, hb⟩; have HSE := Hd (HS9.out.below hb); clear hb)
        (try simp only [Exit.jumps]); go_ret
        rw [HRE.out]
        exact ⟨_, rfl, HSE.out.env.pp, HSE.out.bd, HSE.out.row⟩
       | false =>
        rw [hce] at HCE
        have HRE : Hid (R = (l ++ [pe.1], Ps.odd T fin pe.2)) := Hd (by rw [HRE0.out, hke, hce]; rfl)
        clear hke hce
        go_wp2_with (first
         | (go_at_call 34; refine HCE.out.mono ?_; rintro e we ⟨rfl, hb⟩; have HSE := Hd (HS9.out.below hb); clear hb)
         | (go_at_call 15; refine (podd_any HSE.out.env.pa).mono ?_; rintro e wf ⟨rfl, hp⟩; have HSF := Hd (HSE.out.call hp (HSE.out.bd.rf _ _)); clear hp))
        (try simp only [Exit.jumps]); go_ret
        rw [HRE.out]
        exact ⟨_, rfl, HSF.out.env.pp, HSF.out.bd, HSF.out.row⟩
  ·refine ⟨_, rfl, ?_⟩
   unfold frameS
   have HRE0 := Hd hR
   clear hR HR
   cases hke : Ps.ok s' with
   | false =>
    have HRE : Hid (R = (l, s')) := Hd (by rw [HRE0.out, hke]; rfl)
    obtain ⟨kqe, ke4⟩ := HS.out.env.pa.noc hke
    clear hke
    go_wp2
    (try simp only [Exit.jumps]); go_ret
    rw [HRE.out]
    exact ⟨_, rfl, HS.out.env.pp, HS.out.bd, HS.out.row⟩
   | true =>
    have ke4 := HS.out.env.pa.okc hke
    have HCE := Hd (pclosed_any HS.out.env.pa m)
    cases hce : Ps.closed T fin m s' with
    | true =>
     rw [hce] at HCE
     have HRE : Hid (R = (l, s')) := Hd (by rw [HRE0.out, hke, hce]; rfl)
     clear hke hce
     go_wp2_with (go_at_call 34; refine HCE.out.mono ?_; rintro e we ⟨rfl, hb⟩; have HSE := Hd (HS.out.below hb); clear hb)
     (try simp only [Exit.jumps]); go_ret
     rw [HRE.out]
     exact ⟨_, rfl, HSE.out.env.pp, HSE.out.bd, HSE.out.row⟩
    | false =>
     rw [hce] at HCE
     have HRE : Hid (R = (l, Ps.odd T fin s')) := Hd (by rw [HRE0.out, hke, hce]; rfl)
     clear hke hce
     go_wp2_with (first
      | (go_at_call 34; refine HCE.out.mono ?_; rintro e we ⟨rfl, hb⟩; have HSE := Hd (HS.out.below hb); clear hb)
      | (go_at_call 15; refine (podd_any HSE.out.env.pa).mono ?_; rintro e wf ⟨rfl, hp⟩; have HSF := Hd (HSE.out.call hp (HSE.out.bd.rf _ _)); clear hp))
     (try simp only [Exit.jumps]); go_ret
     rw [HRE.out]
     exact ⟨_, rfl, HSF.out.env.pp, HSF.out.bd, HSF.out.row⟩
end Go.Proofs.YtbnlnndeajjenaaGreat
