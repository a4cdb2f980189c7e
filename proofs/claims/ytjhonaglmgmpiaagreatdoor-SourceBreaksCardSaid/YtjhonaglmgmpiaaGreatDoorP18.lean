/-
  Parts PxJ, PxL, PxM of the proof. No statement of the seat is proved here.
-/
import Derived.Test.YtjhonaglmgmpiaaGreatDoorP17
set_option maxHeartbeats 4000000
namespace Go.Proofs.YtjhonaglmgmpiaaGreatDoor
open Go.RowKit
theorem simple_st {T : List Lx.Tk} {fin : Nat} {s : Ps.PS} (h : (Ps.simple T fin s).1 = none) : (Ps.simple T fin s).2 = s := by
 revert h
 unfold Ps.simple
 dsimp only
 repeat' split
 all_goals first | (intro h; rfl) | (intro h; cases h)
theorem bin_kind {t : Lx.Tk} (h : Ps.binS t = true) : t.1 ≠ 0 := by
 intro e
 unfold Ps.binS Ps.isM at h
 rw [e] at h
 simp at h
theorem tr_ret {wr : World} {k base b' : Nat} {cs : List Value} {tr : Ps.Tr} (h : TrM wr base (fun _ => False) cs tr) (hk : k < base) {w' : World} (hc : Chg (· = k) wr w') (hl : b' ≤ base) : TrM w' b' (fun _ => False) cs tr :=
 TrM.low (h.chg hc fun j hj _ _ e => by omega) hl
set_option maxRecDepth 20000 in
theorem plit_any {g c fin F : Nat} {A : Option Addr} {T : List Lx.Tk} (hT : Ps.Fits 65536 T) (ih : ∀ f, f < F → WAll g A c T fin f) (s : Ps.PS) (w : World) (h : PA w g A c T fin s) (hb : Bd T s) (hk : Ps.ok s = true) (hf : Ps.rem T s + 5 ≤ F) :
  Calls Tryz.prog 201 #[.pointer (some ⟨g, 0, none⟩)] w (NdP w g A c T fin w.heap.size (Ps.lit T fin F s)) := by
 have hTl := hT.len
 have hs := hb.at_
 have E0 := (Env.start h).box 27 [.int .i64 0, .string ⟨#[]⟩, .slice none 0 0, .slice none 0 0, .slice none 0 0, .int .i64 0, .int .i64 0] (by decide)
 obtain ⟨F', rfl⟩ : ∃ F', F = F' + 1 := ⟨F - 1, by omega⟩
 obtain ⟨t, ht⟩ : ∃ t, Ps.nx T fin s = t := ⟨_, rfl⟩
 obtain ⟨q, hq⟩ : ∃ q, Ps.simple T fin s = q := ⟨_, rfl⟩
 obtain ⟨R, hR⟩ : ∃ R, Ps.lit T fin (F' + 1) s = R := ⟨_, rfl⟩
 rw [hR]
 have HN := Hd (pnext_any E0.pa)
 rw [ht] at HN
 have HSI := Hd fun (W : World) (h : PA W g A c T fin s) => psimp_any hT h hb
 rw [hq] at HSI
 have HB := Hd hb
 have HK := Hd hk
 have IH := Hd ih
 have HT := Hd ht
 clear h hb hk ih
 go_enter Tryz.func201, Tryz.ntmps201
 go_upto_region 2 with (go_at_call 28; refine HN.out.mono ?_; rintro e w1 ⟨rfl, hb1⟩; have E1 := E0.below hb1; clear hb1)
 refine wp_env (E1.box 37 [_, _, _] (by decide)) fun w2 E2 => ?_
 clear E0 E1 HN
 go_upto_region 3 with (go_at_call 157; refine (HSI.out _ E2.pa).mono ?_; rintro e w3 ⟨cs3, rfl, hp3, hb3, ht3⟩; have E3 := E2.call hp3; have HB3 := Hd hb3; have HT3 := Hd ht3; obtain ⟨p0, p1, C1, o1, e1, C2, o2, e2, C3, o3, e3, p5, p6, rfl⟩ := ht3.form; clear hp3 hb3 ht3)
 have hlr := (E2.blk 1 rfl).lt
 have hlo := E2.size
 refine wp_env2 (E3.box 27 [_, _, _, _, _, _, _] (by decide)) (fun W => TrM W w2.heap.size (fun _ => False) _ (q.1.getD Ps.Tr.zero)) (HT3.out.below (new_below _ _)) fun w4 E4 ht4 => ?_
 have HT4 := Hd ht4
 clear ht4 HT3 E3 E2
 obtain ⟨b, b0, b1, b2, b3, b4, b5, b6⟩ := E4.c7 2 rfl
 have f1 := E4.fz 2 rfl
 obtain ⟨y, y0, y1, y2, y3, y4, y5, y6⟩ := E4.c7 0 rfl
 obtain ⟨q1, q2⟩ := q
 cases q1 with
 | some n =>
  have HE : Hid (R = (n, q2)) := Hd (by rw [← hR, Ps.lit, hq])
  clear hR hq
  dsimp only [Option.isSome] at *
  go_wp2
  have E9 := E4.put7 2 rfl (.int .i64 (p0 : Int)) (.string ⟨p1.toArray⟩) (.slice C1 o1 e1) (.slice C2 o2 e2) (.slice C3 o3 e3) (.int .i64 (p5 : Int)) (.int .i64 (p6 : Int))
  refine bodyPost_ret (ret26 rfl _ _ rfl (E9.blk 2 rfl)) rfl ?_
  rw [HE.out]
  exact ⟨_, rfl, E9.pp, HB3.out, tr_ret HT4.out hlr (chg_set7 _ _ _ _ _ _ _ _ _) hlo⟩
 | none =>
  have hq2 : s = q2 := by
   have := simple_st (T := T) (fin := fin) (s := s) (by rw [hq])
   rw [hq] at this
   exact this.symm
  subst hq2
  have HU : Hid (R = if (t.1 == 1 && (t.2.1 == [116, 114, 117, 101] || t.2.1 == [102, 97, 108, 115, 101] || t.2.1 == [110, 105, 108])) = true then (Ps.nd 8 t.2.1 [] t.2.2, Ps.adv s) else if (t.1 == 1 || t.1 == 2 || Ps.binS t) = true then (Ps.nd 11 t.2.1 [] t.2.2, Ps.adv s) else if (Ps.isM t [35, 40] || Ps.isM t [40]) = true then Ps.arr T fin F' s else if Ps.isM t [35, 91] = true then Ps.bytes T fin s else (Ps.Tr.zero, Ps.odd T fin s)) := Hd (by rw [← hR, Ps.lit, hq, ht])
  have HBI := Hd fun w => pbin_any t w
  have HM1 := Hd fun w => pmark_any t [35, 40] w
  have HM2 := Hd fun w => pmark_any t [40] w
  have HM3 := Hd fun w => pmark_any t [35, 91] w
  clear hR hq HSI HB3 HT4 y y0 y1 y2 y3 y4 y5 y6
  dsimp only [Option.isSome] at *
  have E3 := E4
  clear E4
  obtain ⟨a, a0, a1, a2⟩ := E3.c3 1 rfl
  go_upto_region 5 with fail
  by_cases k1 : t.1 = 1
  ·have d1 : ((t.1 : Int) == 1) = true := by rw [k1]; rfl
   by_cases e1 : t.2.1 = [116, 114, 117, 101]
   ·have x1 : (t.2.1 == [116, 114, 117, 101]) = true := by rw [e1]; rfl
    have HE : Hid (R = (Ps.nd 8 t.2.1 [] t.2.2, Ps.adv s)) := Hd (by rw [HU.out]; rw [if_pos (by rw [k1, x1]; rfl)])
    have hlt : s.at_ < T.length := Ps.nx_lt (fin := fin) (by rw [HT.out]; rw [k1]; decide)
    have HBD := Hd (HB.out.adv hlt)
    clear k1 ht b b0 b1 b2 b3 b4 b5 b6 f1 e1
    go_wp2_with (first | (go_at_call 29; refine (ptake_any E3.pa (by omega)).mono ?_; rw [HT.out]; rintro e w4 ⟨rfl, hp⟩; have E4 := E3.call hp; clear hp; obtain ⟨b, b0, b1, b2, b3, b4, b5, b6⟩ := E4.c7 2 rfl; have f1 := E4.fz 2 rfl; obtain ⟨a, a0, a1, a2⟩ := E4.c3 1 rfl))
    have E9 := E4.put7 2 rfl (.int .i64 8) (.string ⟨(t.2.1).toArray⟩) (.slice none 0 0) (.slice none 0 0) (.slice none 0 0) (.int .i64 0) (.int .i64 (t.2.2 : Int))
    refine bodyPost_ret (ret26 rfl _ _ rfl (E9.blk 2 rfl)) rfl ?_
    rw [HE.out]
    exact ⟨_, rfl, E9.pp, HBD.out, TrM.leaf _ _ _ 8 (t.2.1) t.2.2⟩
   ·have x1 : (t.2.1 == [116, 114, 117, 101]) = false := by simpa using e1
    by_cases e2 : t.2.1 = [102, 97, 108, 115, 101]
    ·have x2 : (t.2.1 == [102, 97, 108, 115, 101]) = true := by rw [e2]; rfl
     have HE : Hid (R = (Ps.nd 8 t.2.1 [] t.2.2, Ps.adv s)) := Hd (by rw [HU.out]; rw [if_pos (by rw [k1, x1, x2]; rfl)])
     have hlt : s.at_ < T.length := Ps.nx_lt (fin := fin) (by rw [HT.out]; rw [k1]; decide)
     have HBD := Hd (HB.out.adv hlt)
     clear k1 ht b b0 b1 b2 b3 b4 b5 b6 f1 e1 e2
     go_wp2_with (first | (go_at_call 29; refine (ptake_any E3.pa (by omega)).mono ?_; rw [HT.out]; rintro e w4 ⟨rfl, hp⟩; have E4 := E3.call hp; clear hp; obtain ⟨b, b0, b1, b2, b3, b4, b5, b6⟩ := E4.c7 2 rfl; have f1 := E4.fz 2 rfl; obtain ⟨a, a0, a1, a2⟩ := E4.c3 1 rfl))
     have E9 := E4.put7 2 rfl (.int .i64 8) (.string ⟨(t.2.1).toArray⟩) (.slice none 0 0) (.slice none 0 0) (.slice none 0 0) (.int .i64 0) (.int .i64 (t.2.2 : Int))
     refine bodyPost_ret (ret26 rfl _ _ rfl (E9.blk 2 rfl)) rfl ?_
     rw [HE.out]
     exact ⟨_, rfl, E9.pp, HBD.out, TrM.leaf _ _ _ 8 (t.2.1) t.2.2⟩
    ·have x2 : (t.2.1 == [102, 97, 108, 115, 101]) = false := by simpa using e2
     by_cases e3 : t.2.1 = [110, 105, 108]
     ·have x3 : (t.2.1 == [110, 105, 108]) = true := by rw [e3]; rfl
      have HE : Hid (R = (Ps.nd 8 t.2.1 [] t.2.2, Ps.adv s)) := Hd (by rw [HU.out]; rw [if_pos (by rw [k1, x1, x2, x3]; rfl)])
      have hlt : s.at_ < T.length := Ps.nx_lt (fin := fin) (by rw [HT.out]; rw [k1]; decide)
      have HBD := Hd (HB.out.adv hlt)
      clear k1 ht b b0 b1 b2 b3 b4 b5 b6 f1 e1 e2 e3
      go_wp2_with (first | (go_at_call 29; refine (ptake_any E3.pa (by omega)).mono ?_; rw [HT.out]; rintro e w4 ⟨rfl, hp⟩; have E4 := E3.call hp; clear hp; obtain ⟨b, b0, b1, b2, b3, b4, b5, b6⟩ := E4.c7 2 rfl; have f1 := E4.fz 2 rfl; obtain ⟨a, a0, a1, a2⟩ := E4.c3 1 rfl))
      have E9 := E4.put7 2 rfl (.int .i64 8) (.string ⟨(t.2.1).toArray⟩) (.slice none 0 0) (.slice none 0 0) (.slice none 0 0) (.int .i64 0) (.int .i64 (t.2.2 : Int))
      refine bodyPost_ret (ret26 rfl _ _ rfl (E9.blk 2 rfl)) rfl ?_
      rw [HE.out]
      exact ⟨_, rfl, E9.pp, HBD.out, TrM.leaf _ _ _ 8 (t.2.1) t.2.2⟩
     ·have x3 : (t.2.1 == [110, 105, 108]) = false := by simpa using e3
      have HE : Hid (R = (Ps.nd 11 t.2.1 [] t.2.2, Ps.adv s)) := Hd (by rw [HU.out]; rw [if_neg (by rw [k1, x1, x2, x3]; decide), if_pos (by rw [k1]; rfl)])
      have hlt : s.at_ < T.length := Ps.nx_lt (fin := fin) (by rw [HT.out]; rw [k1]; decide)
      have HBD := Hd (HB.out.adv hlt)
      clear k1 ht b b0 b1 b2 b3 b4 b5 b6 f1 e1 e2 e3
      go_wp2_with (first | (go_at_call 29; refine (ptake_any E3.pa (by omega)).mono ?_; rw [HT.out]; rintro e w4 ⟨rfl, hp⟩; have E4 := E3.call hp; clear hp; obtain ⟨b, b0, b1, b2, b3, b4, b5, b6⟩ := E4.c7 2 rfl; have f1 := E4.fz 2 rfl; obtain ⟨a, a0, a1, a2⟩ := E4.c3 1 rfl))
      have E9 := E4.put7 2 rfl (.int .i64 11) (.string ⟨(t.2.1).toArray⟩) (.slice none 0 0) (.slice none 0 0) (.slice none 0 0) (.int .i64 0) (.int .i64 (t.2.2 : Int))
      refine bodyPost_ret (ret26 rfl _ _ rfl (E9.blk 2 rfl)) rfl ?_
      rw [HE.out]
      exact ⟨_, rfl, E9.pp, HBD.out, TrM.leaf _ _ _ 11 (t.2.1) t.2.2⟩
  ·have d1 : ((t.1 : Int) == 1) = false := natInt (by omega)
   have f0 : (t.1 == 1) = false := by simpa using k1
   by_cases k2 : t.1 = 2
   ·have d2 : ((t.1 : Int) == 2) = true := by rw [k2]; rfl
    have HE : Hid (R = (Ps.nd 11 t.2.1 [] t.2.2, Ps.adv s)) := Hd (by rw [HU.out]; rw [if_neg (by rw [f0]; simp), if_pos (by rw [k2]; rfl)])
    have hlt : s.at_ < T.length := Ps.nx_lt (fin := fin) (by rw [HT.out]; rw [k2]; decide)
    have HBD := Hd (HB.out.adv hlt)
    clear k1 ht b b0 b1 b2 b3 b4 b5 b6 f1 k2
    go_wp2_with (first | (go_at_call 29; refine (ptake_any E3.pa (by omega)).mono ?_; rw [HT.out]; rintro e w4 ⟨rfl, hp⟩; have E4 := E3.call hp; clear hp; obtain ⟨b, b0, b1, b2, b3, b4, b5, b6⟩ := E4.c7 2 rfl; have f1 := E4.fz 2 rfl; obtain ⟨a, a0, a1, a2⟩ := E4.c3 1 rfl))
    have E9 := E4.put7 2 rfl (.int .i64 11) (.string ⟨(t.2.1).toArray⟩) (.slice none 0 0) (.slice none 0 0) (.slice none 0 0) (.int .i64 0) (.int .i64 (t.2.2 : Int))
    refine bodyPost_ret (ret26 rfl _ _ rfl (E9.blk 2 rfl)) rfl ?_
    rw [HE.out]
    exact ⟨_, rfl, E9.pp, HBD.out, TrM.leaf _ _ _ 11 (t.2.1) t.2.2⟩
   ·have d2 : ((t.1 : Int) == 2) = false := natInt (by omega)
    have g0 : (t.1 == 2) = false := by simpa using k2
    cases hbi : Ps.binS t with
    | true =>
     rw [hbi] at HBI
     have hnz : t.1 ≠ 0 := bin_kind hbi
     have HE : Hid (R = (Ps.nd 11 t.2.1 [] t.2.2, Ps.adv s)) := Hd (by rw [HU.out]; rw [if_neg (by rw [f0]; simp), if_pos (by rw [hbi]; simp)])
     have hlt : s.at_ < T.length := Ps.nx_lt (fin := fin) (by rw [HT.out]; exact hnz)
     have HBD := Hd (HB.out.adv hlt)
     clear k1 ht b b0 b1 b2 b3 b4 b5 b6 f1 k2 hbi hnz
     go_wp2_with (first | (go_at_call 30; refine (HBI.out _).mono ?_; rintro e w3b ⟨rfl, hb⟩; have E3b := E3.below hb; clear hb E3; have E3 := E3b; clear E3b; obtain ⟨a, a0, a1, a2⟩ := E3.c3 1 rfl) | (go_at_call 29; refine (ptake_any E3.pa (by omega)).mono ?_; rw [HT.out]; rintro e w4 ⟨rfl, hp⟩; have E4 := E3.call hp; clear hp; obtain ⟨b, b0, b1, b2, b3, b4, b5, b6⟩ := E4.c7 2 rfl; have f1 := E4.fz 2 rfl; obtain ⟨a, a0, a1, a2⟩ := E4.c3 1 rfl))
     have E9 := E4.put7 2 rfl (.int .i64 11) (.string ⟨(t.2.1).toArray⟩) (.slice none 0 0) (.slice none 0 0) (.slice none 0 0) (.int .i64 0) (.int .i64 (t.2.2 : Int))
     refine bodyPost_ret (ret26 rfl _ _ rfl (E9.blk 2 rfl)) rfl ?_
     rw [HE.out]
     exact ⟨_, rfl, E9.pp, HBD.out, TrM.leaf _ _ _ 11 (t.2.1) t.2.2⟩
    | false =>
     rw [hbi] at HBI
     cases m1 : Ps.isM t [35, 40] with
     | true =>
      rw [m1] at HM1
      have hlt : s.at_ < T.length := Ps.mark_lt (fin := fin) (x := [35, 40]) (by unfold Ps.is_; rw [ht]; exact m1)
      have HE : Hid (R = Ps.arr T fin F' s) := Hd (by rw [HU.out, if_neg (by rw [f0]; simp), if_neg (by rw [f0, g0, hbi]; decide), if_pos (by rw [m1]; rfl)])
      clear k1 k2 ht b b0 b1 b2 b3 b4 b5 b6 f1 hbi m1
      go_wp2_with (first
       | (go_at_call 30; refine (HBI.out _).mono ?_; rintro e w3b ⟨rfl, hb⟩; have E3b := E3.below hb; clear hb E3; have E3 := E3b; clear E3b; obtain ⟨a, a0, a1, a2⟩ := E3.c3 1 rfl)
       | (go_at_call 71; (with_reducible refine (HM1.out _).mono ?_); rintro e w3b ⟨rfl, hb⟩; have E3b := E3.below hb; clear hb E3; have E3 := E3b; clear E3b; obtain ⟨a, a0, a1, a2⟩ := E3.c3 1 rfl)
       | (go_at_call 158; refine ((IH.out F' (by omega)).arr s _ E3.pa HB.out HK.out hlt (by omega)).mono ?_; rintro e w5 ⟨cs5, rfl, hp5, hb5, ht5⟩; have hkl := (E3.blk 2 rfl).lt; have hko := E3.size; have E5 := E3.call hp5; have HT5 := Hd ht5; have HB5 := Hd hb5; obtain ⟨p0, p1, C1, o1, e1, C2, o2, e2, C3, o3, e3, p5, p6, rfl⟩ := ht5.form; obtain ⟨b, b0, b1, b2, b3, b4, b5, b6⟩ := E5.c7 2 rfl; have f1 := E5.fz 2 rfl; clear hp5 hb5 ht5))
      have E9 := E5.put7 2 rfl (.int .i64 (p0 : Int)) (.string ⟨p1.toArray⟩) (.slice C1 o1 e1) (.slice C2 o2 e2) (.slice C3 o3 e3) (.int .i64 (p5 : Int)) (.int .i64 (p6 : Int))
      refine bodyPost_ret (ret26 rfl _ _ rfl (E9.blk 2 rfl)) rfl ?_
      rw [HE.out]
      exact ⟨_, rfl, E9.pp, HB5.out, tr_ret HT5.out hkl (chg_set7 _ _ _ _ _ _ _ _ _) hko⟩
     | false =>
      rw [m1] at HM1
      cases m2 : Ps.isM t [40] with
      | true =>
       rw [m2] at HM2
       have hlt : s.at_ < T.length := Ps.mark_lt (fin := fin) (x := [40]) (by unfold Ps.is_; rw [ht]; exact m2)
       have HE : Hid (R = Ps.arr T fin F' s) := Hd (by rw [HU.out, if_neg (by rw [f0]; simp), if_neg (by rw [f0, g0, hbi]; decide), if_pos (by rw [m1, m2]; rfl)])
       clear k1 k2 ht b b0 b1 b2 b3 b4 b5 b6 f1 hbi m1 m2
       go_wp2_with (first
        | (go_at_call 30; refine (HBI.out _).mono ?_; rintro e w3b ⟨rfl, hb⟩; have E3b := E3.below hb; clear hb E3; have E3 := E3b; clear E3b; obtain ⟨a, a0, a1, a2⟩ := E3.c3 1 rfl)
        | (go_at_call 71; (with_reducible refine (HM1.out _).mono ?_); rintro e w3b ⟨rfl, hb⟩; have E3b := E3.below hb; clear hb E3; have E3 := E3b; clear E3b; obtain ⟨a, a0, a1, a2⟩ := E3.c3 1 rfl)
        | (go_at_call 71; (with_reducible refine (HM2.out _).mono ?_); rintro e w3b ⟨rfl, hb⟩; have E3b := E3.below hb; clear hb E3; have E3 := E3b; clear E3b; obtain ⟨a, a0, a1, a2⟩ := E3.c3 1 rfl)
        | (go_at_call 158; refine ((IH.out F' (by omega)).arr s _ E3.pa HB.out HK.out hlt (by omega)).mono ?_; rintro e w5 ⟨cs5, rfl, hp5, hb5, ht5⟩; have hkl := (E3.blk 2 rfl).lt; have hko := E3.size; have E5 := E3.call hp5; have HT5 := Hd ht5; have HB5 := Hd hb5; obtain ⟨p0, p1, C1, o1, e1, C2, o2, e2, C3, o3, e3, p5, p6, rfl⟩ := ht5.form; obtain ⟨b, b0, b1, b2, b3, b4, b5, b6⟩ := E5.c7 2 rfl; have f1 := E5.fz 2 rfl; clear hp5 hb5 ht5))
       have E9 := E5.put7 2 rfl (.int .i64 (p0 : Int)) (.string ⟨p1.toArray⟩) (.slice C1 o1 e1) (.slice C2 o2 e2) (.slice C3 o3 e3) (.int .i64 (p5 : Int)) (.int .i64 (p6 : Int))
       refine bodyPost_ret (ret26 rfl _ _ rfl (E9.blk 2 rfl)) rfl ?_
       rw [HE.out]
       exact ⟨_, rfl, E9.pp, HB5.out, tr_ret HT5.out hkl (chg_set7 _ _ _ _ _ _ _ _ _) hko⟩
      | false =>
       rw [m2] at HM2
       cases m3 : Ps.isM t [35, 91] with
       | true =>
        rw [m3] at HM3
        have hlt : s.at_ < T.length := Ps.mark_lt (fin := fin) (x := [35, 91]) (by unfold Ps.is_; rw [ht]; exact m3)
        have HE : Hid (R = Ps.bytes T fin s) := Hd (by rw [HU.out, if_neg (by rw [f0]; simp), if_neg (by rw [f0, g0, hbi]; decide), if_neg (by rw [m1, m2]; decide), if_pos m3])
        clear k1 k2 ht b b0 b1 b2 b3 b4 b5 b6 f1 hbi m1 m2 m3
        go_wp2_with (first
         | (go_at_call 30; refine (HBI.out _).mono ?_; rintro e w3b ⟨rfl, hb⟩; have E3b := E3.below hb; clear hb E3; have E3 := E3b; clear E3b; obtain ⟨a, a0, a1, a2⟩ := E3.c3 1 rfl)
         | (go_at_call 71; (with_reducible refine (HM1.out _).mono ?_); rintro e w3b ⟨rfl, hb⟩; have E3b := E3.below hb; clear hb E3; have E3 := E3b; clear E3b; obtain ⟨a, a0, a1, a2⟩ := E3.c3 1 rfl)
         | (go_at_call 71; (with_reducible refine (HM2.out _).mono ?_); rintro e w3b ⟨rfl, hb⟩; have E3b := E3.below hb; clear hb E3; have E3 := E3b; clear E3b; obtain ⟨a, a0, a1, a2⟩ := E3.c3 1 rfl)
         | (go_at_call 71; (with_reducible refine (HM3.out _).mono ?_); rintro e w3b ⟨rfl, hb⟩; have E3b := E3.below hb; clear hb E3; have E3 := E3b; clear E3b; obtain ⟨a, a0, a1, a2⟩ := E3.c3 1 rfl)
         | (go_at_call 159; refine (pbyt_any hT s _ E3.pa HB.out HK.out hlt).mono ?_; rintro e w5 ⟨cs5, rfl, hp5, hb5, ht5⟩; have hkl := (E3.blk 2 rfl).lt; have hko := E3.size; have E5 := E3.call hp5; have HT5 := Hd ht5; have HB5 := Hd hb5; obtain ⟨p0, p1, C1, o1, e1, C2, o2, e2, C3, o3, e3, p5, p6, rfl⟩ := ht5.form; obtain ⟨b, b0, b1, b2, b3, b4, b5, b6⟩ := E5.c7 2 rfl; have f1 := E5.fz 2 rfl; clear hp5 hb5 ht5))
        have E9 := E5.put7 2 rfl (.int .i64 (p0 : Int)) (.string ⟨p1.toArray⟩) (.slice C1 o1 e1) (.slice C2 o2 e2) (.slice C3 o3 e3) (.int .i64 (p5 : Int)) (.int .i64 (p6 : Int))
        refine bodyPost_ret (ret26 rfl _ _ rfl (E9.blk 2 rfl)) rfl ?_
        rw [HE.out]
        exact ⟨_, rfl, E9.pp, HB5.out, tr_ret HT5.out hkl (chg_set7 _ _ _ _ _ _ _ _ _) hko⟩
       | false =>
        rw [m3] at HM3
        have HE : Hid (R = (Ps.Tr.zero, Ps.odd T fin s)) := Hd (by rw [HU.out, if_neg (by rw [f0]; simp), if_neg (by rw [f0, g0, hbi]; decide), if_neg (by rw [m1, m2]; decide), if_neg (by rw [m3]; decide)])
        have HBO := Hd (HB.out.rf (t.2.2) 124)
        have HOD : Hid (Ps.odd T fin s = Ps.rf s t.2.2 124) := Hd (by unfold Ps.odd; rw [ht])
        clear k1 k2 ht b b0 b1 b2 b3 b4 b5 b6 f1 hbi m1 m2 m3
        go_wp2_with (first
         | (go_at_call 30; refine (HBI.out _).mono ?_; rintro e w3b ⟨rfl, hb⟩; have E3b := E3.below hb; clear hb E3; have E3 := E3b; clear E3b; obtain ⟨a, a0, a1, a2⟩ := E3.c3 1 rfl)
         | (go_at_call 71; (with_reducible refine (HM1.out _).mono ?_); rintro e w3b ⟨rfl, hb⟩; have E3b := E3.below hb; clear hb E3; have E3 := E3b; clear E3b; obtain ⟨a, a0, a1, a2⟩ := E3.c3 1 rfl)
         | (go_at_call 71; (with_reducible refine (HM2.out _).mono ?_); rintro e w3b ⟨rfl, hb⟩; have E3b := E3.below hb; clear hb E3; have E3 := E3b; clear E3b; obtain ⟨a, a0, a1, a2⟩ := E3.c3 1 rfl)
         | (go_at_call 71; (with_reducible refine (HM3.out _).mono ?_); rintro e w3b ⟨rfl, hb⟩; have E3b := E3.below hb; clear hb E3; have E3 := E3b; clear E3b; obtain ⟨a, a0, a1, a2⟩ := E3.c3 1 rfl)
         | (go_at_call 32; refine (podd_any E3.pa).mono ?_; rintro e w5 ⟨rfl, hp5⟩; have E5 := E3.call hp5; obtain ⟨b, b0, b1, b2, b3, b4, b5, b6⟩ := E5.c7 2 rfl; have f1 := E5.fz 2 rfl; clear hp5))
        have E9 := E5.put7 2 rfl (.int .i64 0) (.string ⟨#[]⟩) (.slice none 0 0) (.slice none 0 0) (.slice none 0 0) (.int .i64 0) (.int .i64 0)
        refine bodyPost_ret (ret26 rfl _ _ rfl (E9.blk 2 rfl)) rfl ?_
        rw [HE.out]
        exact ⟨_, rfl, E9.pp, by rw [HOD.out]; exact HBO.out, TrM.zero _ _ _⟩
set_option maxRecDepth 20000 in
theorem pprim_any {g c fin F : Nat} {A : Option Addr} {T : List Lx.Tk} (hT : Ps.Fits 65536 T) (ih : ∀ f, f < F → WAll g A c T fin f) (s : Ps.PS) (w : World) (h : PA w g A c T fin s) (hb : Bd T s) (hf : Ps.rem T s + 5 ≤ F) :
  Calls Tryz.prog 122 #[.pointer (some ⟨g, 0, none⟩)] w (NdP w g A c T fin w.heap.size (Ps.prim T fin F s)) := by
 have hTl := hT.len
 have hs := hb.at_
 have E0 := (Env.start h).box 27 [.int .i64 0, .string ⟨#[]⟩, .slice none 0 0, .slice none 0 0, .slice none 0 0, .int .i64 0, .int .i64 0] (by decide)
 obtain ⟨F', rfl⟩ : ∃ F', F = F' + 1 := ⟨F - 1, by omega⟩
 obtain ⟨t, ht⟩ : ∃ t, Ps.nx T fin s = t := ⟨_, rfl⟩
 obtain ⟨R, hR⟩ : ∃ R, Ps.prim T fin (F' + 1) s = R := ⟨_, rfl⟩
 rw [hR]
 have HN := Hd (pnext_any E0.pa)
 rw [ht] at HN
 have HB := Hd hb
 have IH := Hd ih
 have HT := Hd ht
 clear h hb ih
 go_enter Tryz.func122, Tryz.ntmps122
 go_upto_region 2 with (go_at_call 28; refine HN.out.mono ?_; rintro e w1 ⟨rfl, hb1⟩; have E1 := E0.below hb1; clear hb1)
 refine wp_env (E1.box 37 [_, _, _] (by decide)) fun w2 E2 => ?_
 clear E0 E1 HN
 have hg := E2.pa.lt
 cases hk : Ps.ok s with
 | false =>
  have HE : Hid (R = (Ps.Tr.zero, s)) := Hd (by rw [← hR, Ps.prim, if_pos (by rw [hk]; rfl)])
  obtain ⟨kq, k4⟩ := E2.pa.noc hk
  obtain ⟨b, b0, b1, b2, b3, b4, b5, b6⟩ := E2.c7 1 rfl
  have f1 := E2.fz 1 rfl
  clear hk hR ht
  go_wp2
  have E9 := E2.put7 1 rfl (.int .i64 0) (.string ⟨#[]⟩) (.slice none 0 0) (.slice none 0 0) (.slice none 0 0) (.int .i64 0) (.int .i64 0)
  refine bodyPost_ret (ret26 rfl _ _ rfl (E9.blk 1 rfl)) rfl ?_
  rw [HE.out]
  exact ⟨_, rfl, E9.pp, HB.out, TrM.zero _ _ _⟩
 | true =>
 have kq4 := E2.pa.okc hk
 have HK := Hd hk
 obtain ⟨q, hq⟩ : ∃ q, Ps.simple T fin s = q := ⟨_, rfl⟩
 have HSI := Hd fun (W : World) (h : PA W g A c T fin s) => psimp_any hT h HB.out
 rw [hq] at HSI
 clear hk
 go_upto_region 5 with (go_at_call 157; refine (HSI.out _ E2.pa).mono ?_; rintro e w3 ⟨cs3, rfl, hp3, hb3, ht3⟩; have E3 := E2.call hp3; have HB3 := Hd hb3; have HT3 := Hd ht3; obtain ⟨p0, p1, C1, o1, e1, C2, o2, e2, C3, o3, e3, p5, p6, rfl⟩ := ht3.form; clear hp3 hb3 ht3)
 have hlr := (E2.blk 1 rfl).lt
 have hlo := E2.size
 refine wp_env2 (E3.box 27 [_, _, _, _, _, _, _] (by decide)) (fun W => TrM W w2.heap.size (fun _ => False) _ (q.1.getD Ps.Tr.zero)) (HT3.out.below (new_below _ _)) fun w4 E4 ht4 => ?_
 have HT4 := Hd ht4
 clear ht4 HT3 E3 E2 hg kq4
 obtain ⟨b, b0, b1, b2, b3, b4, b5, b6⟩ := E4.c7 2 rfl
 have f1 := E4.fz 2 rfl
 obtain ⟨y, y0, y1, y2, y3, y4, y5, y6⟩ := E4.c7 0 rfl
 obtain ⟨q1, q2⟩ := q
 cases q1 with
 | some n =>
  have HE : Hid (R = (n, q2)) := Hd (by rw [← hR, Ps.prim, if_neg (by rw [HK.out]; decide), hq])
  clear hR hq
  dsimp only [Option.isSome] at *
  go_wp2
  have E9 := E4.put7 2 rfl (.int .i64 (p0 : Int)) (.string ⟨p1.toArray⟩) (.slice C1 o1 e1) (.slice C2 o2 e2) (.slice C3 o3 e3) (.int .i64 (p5 : Int)) (.int .i64 (p6 : Int))
  refine bodyPost_ret (ret26 rfl _ _ rfl (E9.blk 2 rfl)) rfl ?_
  rw [HE.out]
  exact ⟨_, rfl, E9.pp, HB3.out, tr_ret HT4.out hlr (chg_set7 _ _ _ _ _ _ _ _ _) hlo⟩
 | none =>
  have hq2 : s = q2 := by
   have := simple_st (T := T) (fin := fin) (s := s) (by rw [hq])
   rw [hq] at this
   exact this.symm
  subst hq2
  have HU : Hid (R = if (t.1 == 1) = true then (Ps.nd 8 t.2.1 [] t.2.2, Ps.adv s) else if Ps.isM t [35, 40] = true then Ps.arr T fin F' s else if Ps.isM t [35, 91] = true then Ps.bytes T fin s else if Ps.isM t [40] = true then ((Ps.expr T fin F' (Ps.opn T fin s)).1, Ps.shut T fin [41] (Ps.expr T fin F' (Ps.opn T fin s)).2) else if Ps.isM t [123] = true then (Ps.nd 14 [] (Ps.braL T fin F' [] (Ps.opn T fin s)).1 t.2.2, Ps.shut T fin [125] (Ps.braL T fin F' [] (Ps.opn T fin s)).2) else if Ps.isM t [91] = true then Ps.blk T fin F' s else (Ps.Tr.zero, Ps.odd T fin s)) := Hd (by rw [← hR, Ps.prim, if_neg (by rw [HK.out]; decide), hq, ht])
  have HM1 := Hd fun w => pmark_any t [35, 40] w
  have HM2 := Hd fun w => pmark_any t [35, 91] w
  have HM3 := Hd fun w => pmark_any t [40] w
  have HM4 := Hd fun w => pmark_any t [123] w
  have HM5 := Hd fun w => pmark_any t [91] w
  clear hR hq HSI HB3 HT4 y y0 y1 y2 y3 y4 y5 y6
  dsimp only [Option.isSome] at *
  have E3 := E4
  clear E4
  obtain ⟨a, a0, a1, a2⟩ := E3.c3 1 rfl
  go_upto_region 7 with fail
  by_cases k1 : t.1 = 1
  ·have d1 : ((t.1 : Int) == 1) = true := by rw [k1]; rfl
   have HE : Hid (R = (Ps.nd 8 t.2.1 [] t.2.2, Ps.adv s)) := Hd (by rw [HU.out, if_pos (by rw [k1]; rfl)])
   have hlt : s.at_ < T.length := Ps.nx_lt (fin := fin) (by rw [HT.out, k1]; decide)
   have HBD := Hd (HB.out.adv hlt)
   clear k1 ht b b0 b1 b2 b3 b4 b5 b6 f1
   go_wp2_with (go_at_call 29; refine (ptake_any E3.pa (by omega)).mono ?_; rw [HT.out]; rintro e w4 ⟨rfl, hp⟩; have E4 := E3.call hp; clear hp; obtain ⟨b, b0, b1, b2, b3, b4, b5, b6⟩ := E4.c7 2 rfl; have f1 := E4.fz 2 rfl; obtain ⟨a, a0, a1, a2⟩ := E4.c3 1 rfl)
   have E9 := E4.put7 2 rfl (.int .i64 8) (.string ⟨(t.2.1).toArray⟩) (.slice none 0 0) (.slice none 0 0) (.slice none 0 0) (.int .i64 0) (.int .i64 (t.2.2 : Int))
   refine bodyPost_ret (ret26 rfl _ _ rfl (E9.blk 2 rfl)) rfl ?_
   rw [HE.out]
   exact ⟨_, rfl, E9.pp, HBD.out, TrM.leaf _ _ _ 8 (t.2.1) t.2.2⟩
  have d1 : ((t.1 : Int) == 1) = false := natInt (by omega)
  have f0 : (t.1 == 1) = false := by simpa using k1
  cases m1 : Ps.isM t [35, 40] with
  | true =>
   rw [m1] at HM1
   have hlt : s.at_ < T.length := Ps.mark_lt (fin := fin) (x := [35, 40]) (by unfold Ps.is_; rw [ht]; exact m1)
   have HE : Hid (R = Ps.arr T fin F' s) := Hd (by rw [HU.out, if_neg (by rw [f0]; decide), if_pos m1])
   clear k1 ht b b0 b1 b2 b3 b4 b5 b6 f1 m1
   go_wp2_with (first
    | (go_at_call 71; (with_reducible refine (HM1.out _).mono ?_); rintro e w3b ⟨rfl, hb⟩; have E3b := E3.below hb; clear hb E3; have E3 := E3b; clear E3b; obtain ⟨a, a0, a1, a2⟩ := E3.c3 1 rfl)
    | (go_at_call 158; refine ((IH.out F' (by omega)).arr s _ E3.pa HB.out HK.out hlt (by omega)).mono ?_; rintro e w5 ⟨cs5, rfl, hp5, hb5, ht5⟩; have hkl := (E3.blk 2 rfl).lt; have hko := E3.size; have E5 := E3.call hp5; have HT5 := Hd ht5; have HB5 := Hd hb5; obtain ⟨p0, p1, C1, o1, e1, C2, o2, e2, C3, o3, e3, p5, p6, rfl⟩ := ht5.form; obtain ⟨b, b0, b1, b2, b3, b4, b5, b6⟩ := E5.c7 2 rfl; have f1 := E5.fz 2 rfl; clear hp5 hb5 ht5))
   have E9 := E5.put7 2 rfl (.int .i64 (p0 : Int)) (.string ⟨p1.toArray⟩) (.slice C1 o1 e1) (.slice C2 o2 e2) (.slice C3 o3 e3) (.int .i64 (p5 : Int)) (.int .i64 (p6 : Int))
   refine bodyPost_ret (ret26 rfl _ _ rfl (E9.blk 2 rfl)) rfl ?_
   rw [HE.out]
   exact ⟨_, rfl, E9.pp, HB5.out, tr_ret HT5.out hkl (chg_set7 _ _ _ _ _ _ _ _ _) hko⟩
  | false =>
  rw [m1] at HM1
  cases m2 : Ps.isM t [35, 91] with
  | true =>
   rw [m2] at HM2
   have hlt : s.at_ < T.length := Ps.mark_lt (fin := fin) (x := [35, 91]) (by unfold Ps.is_; rw [ht]; exact m2)
   have HE : Hid (R = Ps.bytes T fin s) := Hd (by rw [HU.out, if_neg (by rw [f0]; decide), if_neg (by rw [m1]; decide), if_pos m2])
   clear k1 ht b b0 b1 b2 b3 b4 b5 b6 f1 m1 m2
   go_wp2_with (first
    | (go_at_call 71; (with_reducible refine (HM1.out _).mono ?_); rintro e w3b ⟨rfl, hb⟩; have E3b := E3.below hb; clear hb E3; have E3 := E3b; clear E3b; obtain ⟨a, a0, a1, a2⟩ := E3.c3 1 rfl)
    | (go_at_call 71; (with_reducible refine (HM2.out _).mono ?_); rintro e w3b ⟨rfl, hb⟩; have E3b := E3.below hb; clear hb E3; have E3 := E3b; clear E3b; obtain ⟨a, a0, a1, a2⟩ := E3.c3 1 rfl)
    | (go_at_call 159; refine (pbyt_any hT s _ E3.pa HB.out HK.out hlt).mono ?_; rintro e w5 ⟨cs5, rfl, hp5, hb5, ht5⟩; have hkl := (E3.blk 2 rfl).lt; have hko := E3.size; have E5 := E3.call hp5; have HT5 := Hd ht5; have HB5 := Hd hb5; obtain ⟨p0, p1, C1, o1, e1, C2, o2, e2, C3, o3, e3, p5, p6, rfl⟩ := ht5.form; obtain ⟨b, b0, b1, b2, b3, b4, b5, b6⟩ := E5.c7 2 rfl; have f1 := E5.fz 2 rfl; clear hp5 hb5 ht5))
   have E9 := E5.put7 2 rfl (.int .i64 (p0 : Int)) (.string ⟨p1.toArray⟩) (.slice C1 o1 e1) (.slice C2 o2 e2) (.slice C3 o3 e3) (.int .i64 (p5 : Int)) (.int .i64 (p6 : Int))
   refine bodyPost_ret (ret26 rfl _ _ rfl (E9.blk 2 rfl)) rfl ?_
   rw [HE.out]
   exact ⟨_, rfl, E9.pp, HB5.out, tr_ret HT5.out hkl (chg_set7 _ _ _ _ _ _ _ _ _) hko⟩
  | false =>
  rw [m2] at HM2
  cases m3 : Ps.isM t [40] with
  | true =>
   rw [m3] at HM3
   have hlt : s.at_ < T.length := Ps.mark_lt (fin := fin) (x := [40]) (by unfold Ps.is_; rw [ht]; exact m3)
   obtain ⟨so, hso⟩ : ∃ x, Ps.opn T fin s = x := ⟨_, rfl⟩
   obtain ⟨pe, hpe⟩ : ∃ x, Ps.expr T fin F' so = x := ⟨_, rfl⟩
   have HE : Hid (R = (pe.1, Ps.shut T fin [41] pe.2)) := Hd (by rw [HU.out, if_neg (by rw [f0]; decide), if_neg (by rw [m1]; decide), if_neg (by rw [m2]; decide), if_pos m3, hso, hpe])
   have hra := Ps.rem_adv (T := T) (s := s) (s' := so) (by rw [← hso, Ps.opn_at]; omega) hlt
   have HBO := Hd (Bd.opn (fin := fin) HB.out HK.out hlt)
   have HOP := Hd fun (W : World) (h : PA W g A c T fin s) => popen_any h (by omega) (HB.out.deep hTl HK.out)
   have HEX := Hd fun (W : World) (h : PA W g A c T fin so) (hb : Bd T so) => (IH.out F' (by omega)).expr so W h hb (by omega)
   rw [hso] at HBO HOP
   rw [hpe] at HEX
   clear hso hpe
   clear k1 ht b b0 b1 b2 b3 b4 b5 b6 f1 m1 m2 m3
   go_upto_region 17 with (first
    | (go_at_call 71; (with_reducible refine (HM1.out _).mono ?_); rintro e w3b ⟨rfl, hb⟩; have E3b := E3.below hb; clear hb E3; have E3 := E3b; clear E3b; obtain ⟨a, a0, a1, a2⟩ := E3.c3 1 rfl)
    | (go_at_call 71; (with_reducible refine (HM2.out _).mono ?_); rintro e w3b ⟨rfl, hb⟩; have E3b := E3.below hb; clear hb E3; have E3 := E3b; clear E3b; obtain ⟨a, a0, a1, a2⟩ := E3.c3 1 rfl)
    | (go_at_call 71; (with_reducible refine (HM3.out _).mono ?_); rintro e w3b ⟨rfl, hb⟩; have E3b := E3.below hb; clear hb E3; have E3 := E3b; clear E3b; obtain ⟨a, a0, a1, a2⟩ := E3.c3 1 rfl)
    | (go_at_call 160; refine (HOP.out _ E3.pa).mono ?_; rintro e w4 ⟨rfl, hp⟩; have E4 := E3.call hp; clear hp)
    | (go_at_call 77; refine (HEX.out _ E4.pa HBO.out).mono ?_; rintro e w5 ⟨cs5, rfl, hp5, hb5, ht5⟩; have hkl := (E4.blk 2 rfl).lt; have hko := E4.size; have E5 := E4.call hp5; have HT5 := Hd ht5; have HB5 := Hd hb5; obtain ⟨p0, p1, C1, o1, e1, C2, o2, e2, C3, o3, e3, p5, p6, rfl⟩ := ht5.form; clear hp5 hb5 ht5))
   refine wp_env2 (E5.box 27 [_, _, _, _, _, _, _] (by decide)) (fun W => TrM W w4.heap.size (fun _ => False) _ pe.1) (HT5.out.below (new_below _ _)) fun w6 E6 ht6 => ?_
   have HT6 := Hd ht6
   clear ht6 HT5 E5 E4 E3 a a0 a1 a2
   have hg6 := E6.pa.lt
   cases hk6 : Ps.ok pe.2 with
   | false =>
    have HE2 : Hid (R = (pe.1, pe.2)) := Hd (by rw [HE.out, shut_no hk6])
    obtain ⟨kq, k4⟩ := E6.pa.noc hk6
    obtain ⟨b, b0, b1, b2, b3, b4, b5, b6⟩ := E6.c7 3 rfl
    have f1 := E6.fz 3 rfl
    obtain ⟨y, y0, y1, y2, y3, y4, y5, y6⟩ := E6.c7 0 rfl
    clear hk6
    go_wp2
    have E9 := E6.put7 3 rfl (.int .i64 (p0 : Int)) (.string ⟨p1.toArray⟩) (.slice C1 o1 e1) (.slice C2 o2 e2) (.slice C3 o3 e3) (.int .i64 (p5 : Int)) (.int .i64 (p6 : Int))
    refine bodyPost_ret (ret26 rfl _ _ rfl (E9.blk 3 rfl)) rfl ?_
    rw [HE2.out]
    exact ⟨_, rfl, E9.pp, HB5.out, tr_ret HT6.out hkl (chg_set7 _ _ _ _ _ _ _ _ _) hko⟩
   | true =>
    have HE2 : Hid (R = (pe.1, Ps.cls_ T fin [41] pe.2)) := Hd (by rw [HE.out, shut_ok hk6])
    have k4 := E6.pa.okc hk6
    have HCL := Hd fun (W : World) (h : PA W g A c T fin pe.2) => pclose_any h (HB5.out.lt hTl) (HB5.out.deep hTl hk6) [41]
    have HBC := Hd (HB5.out.cls (fin := fin) hk6 [41])
    clear hk6
    go_upto_region 19 with (go_at_call 161; refine (HCL.out _ E6.pa).mono ?_; rintro e w7 ⟨rfl, hp⟩; have E7 := E6.call hp; have HT7 := Hd (HT6.out.chg hp.1 (fun k hk _ _ e => by have := E6.gl; omega)); clear hp)
    obtain ⟨b, b0, b1, b2, b3, b4, b5, b6⟩ := E7.c7 3 rfl
    have f1 := E7.fz 3 rfl
    obtain ⟨y, y0, y1, y2, y3, y4, y5, y6⟩ := E7.c7 0 rfl
    go_wp2
    have E9 := E7.put7 3 rfl (.int .i64 (p0 : Int)) (.string ⟨p1.toArray⟩) (.slice C1 o1 e1) (.slice C2 o2 e2) (.slice C3 o3 e3) (.int .i64 (p5 : Int)) (.int .i64 (p6 : Int))
    refine bodyPost_ret (ret26 rfl _ _ rfl (E9.blk 3 rfl)) rfl ?_
    rw [HE2.out]
    exact ⟨_, rfl, E9.pp, HBC.out, tr_ret HT7.out hkl (chg_set7 _ _ _ _ _ _ _ _ _) hko⟩
  | false =>
  rw [m3] at HM3
  cases m4 : Ps.isM t [123] with
  | true =>
   rw [m4] at HM4
   have hlt : s.at_ < T.length := Ps.mark_lt (fin := fin) (x := [123]) (by unfold Ps.is_; rw [ht]; exact m4)
   have HE : Hid (R = (Ps.nd 14 [] (Ps.braL T fin F' [] (Ps.opn T fin s)).1 t.2.2, Ps.shut T fin [125] (Ps.braL T fin F' [] (Ps.opn T fin s)).2)) := Hd (by rw [HU.out, if_neg (by rw [f0]; decide), if_neg (by rw [m1]; decide), if_neg (by rw [m2]; decide), if_neg (by rw [m3]; decide), if_pos m4])
   have HBR := Hd fun (W : World) (h : PA W g A c T fin s) => (IH.out F' (by omega)).bra s W h HB.out HK.out hlt (by omega)
   rw [ht] at HBR
   clear k1 ht b b0 b1 b2 b3 b4 b5 b6 f1 m1 m2 m3 m4
   go_wp2_with (first
    | (go_at_call 71; (with_reducible refine (HM1.out _).mono ?_); rintro e w3b ⟨rfl, hb⟩; have E3b := E3.below hb; clear hb E3; have E3 := E3b; clear E3b; obtain ⟨a, a0, a1, a2⟩ := E3.c3 1 rfl)
    | (go_at_call 71; (with_reducible refine (HM2.out _).mono ?_); rintro e w3b ⟨rfl, hb⟩; have E3b := E3.below hb; clear hb E3; have E3 := E3b; clear E3b; obtain ⟨a, a0, a1, a2⟩ := E3.c3 1 rfl)
    | (go_at_call 71; (with_reducible refine (HM3.out _).mono ?_); rintro e w3b ⟨rfl, hb⟩; have E3b := E3.below hb; clear hb E3; have E3 := E3b; clear E3b; obtain ⟨a, a0, a1, a2⟩ := E3.c3 1 rfl)
    | (go_at_call 71; (with_reducible refine (HM4.out _).mono ?_); rintro e w3b ⟨rfl, hb⟩; have E3b := E3.below hb; clear hb E3; have E3 := E3b; clear E3b; obtain ⟨a, a0, a1, a2⟩ := E3.c3 1 rfl)
    | (go_at_call 162; refine (HBR.out _ E3.pa).mono ?_; rintro e w5 ⟨cs5, rfl, hp5, hb5, ht5⟩; have hkl := (E3.blk 2 rfl).lt; have hko := E3.size; have E5 := E3.call hp5; have HT5 := Hd ht5; have HB5 := Hd hb5; obtain ⟨p0, p1, C1, o1, e1, C2, o2, e2, C3, o3, e3, p5, p6, rfl⟩ := ht5.form; obtain ⟨b, b0, b1, b2, b3, b4, b5, b6⟩ := E5.c7 2 rfl; have f1 := E5.fz 2 rfl; clear hp5 hb5 ht5))
   have E9 := E5.put7 2 rfl (.int .i64 (p0 : Int)) (.string ⟨p1.toArray⟩) (.slice C1 o1 e1) (.slice C2 o2 e2) (.slice C3 o3 e3) (.int .i64 (p5 : Int)) (.int .i64 (p6 : Int))
   refine bodyPost_ret (ret26 rfl _ _ rfl (E9.blk 2 rfl)) rfl ?_
   rw [HE.out]
   exact ⟨_, rfl, E9.pp, HB5.out, tr_ret HT5.out hkl (chg_set7 _ _ _ _ _ _ _ _ _) hko⟩
  | false =>
  rw [m4] at HM4
  cases m5 : Ps.isM t [91] with
  | true =>
   rw [m5] at HM5
   have hlt : s.at_ < T.length := Ps.mark_lt (fin := fin) (x := [91]) (by unfold Ps.is_; rw [ht]; exact m5)
   have HE : Hid (R = Ps.blk T fin F' s) := Hd (by rw [HU.out, if_neg (by rw [f0]; decide), if_neg (by rw [m1]; decide), if_neg (by rw [m2]; decide), if_neg (by rw [m3]; decide), if_neg (by rw [m4]; decide), if_pos m5])
   clear k1 ht b b0 b1 b2 b3 b4 b5 b6 f1 m1 m2 m3 m4 m5
   go_wp2_with (first
    | (go_at_call 71; (with_reducible refine (HM1.out _).mono ?_); rintro e w3b ⟨rfl, hb⟩; have E3b := E3.below hb; clear hb E3; have E3 := E3b; clear E3b; obtain ⟨a, a0, a1, a2⟩ := E3.c3 1 rfl)
    | (go_at_call 71; (with_reducible refine (HM2.out _).mono ?_); rintro e w3b ⟨rfl, hb⟩; have E3b := E3.below hb; clear hb E3; have E3 := E3b; clear E3b; obtain ⟨a, a0, a1, a2⟩ := E3.c3 1 rfl)
    | (go_at_call 71; (with_reducible refine (HM3.out _).mono ?_); rintro e w3b ⟨rfl, hb⟩; have E3b := E3.below hb; clear hb E3; have E3 := E3b; clear E3b; obtain ⟨a, a0, a1, a2⟩ := E3.c3 1 rfl)
    | (go_at_call 71; (with_reducible refine (HM4.out _).mono ?_); rintro e w3b ⟨rfl, hb⟩; have E3b := E3.below hb; clear hb E3; have E3 := E3b; clear E3b; obtain ⟨a, a0, a1, a2⟩ := E3.c3 1 rfl)
    | (go_at_call 71; (with_reducible refine (HM5.out _).mono ?_); rintro e w3b ⟨rfl, hb⟩; have E3b := E3.below hb; clear hb E3; have E3 := E3b; clear E3b; obtain ⟨a, a0, a1, a2⟩ := E3.c3 1 rfl)
    | (go_at_call 163; refine ((IH.out F' (by omega)).blk s _ E3.pa HB.out HK.out hlt (by omega)).mono ?_; rintro e w5 ⟨cs5, rfl, hp5, hb5, ht5⟩; have hkl := (E3.blk 2 rfl).lt; have hko := E3.size; have E5 := E3.call hp5; have HT5 := Hd ht5; have HB5 := Hd hb5; obtain ⟨p0, p1, C1, o1, e1, C2, o2, e2, C3, o3, e3, p5, p6, rfl⟩ := ht5.form; obtain ⟨b, b0, b1, b2, b3, b4, b5, b6⟩ := E5.c7 2 rfl; have f1 := E5.fz 2 rfl; clear hp5 hb5 ht5))
   have E9 := E5.put7 2 rfl (.int .i64 (p0 : Int)) (.string ⟨p1.toArray⟩) (.slice C1 o1 e1) (.slice C2 o2 e2) (.slice C3 o3 e3) (.int .i64 (p5 : Int)) (.int .i64 (p6 : Int))
   refine bodyPost_ret (ret26 rfl _ _ rfl (E9.blk 2 rfl)) rfl ?_
   rw [HE.out]
   exact ⟨_, rfl, E9.pp, HB5.out, tr_ret HT5.out hkl (chg_set7 _ _ _ _ _ _ _ _ _) hko⟩
  | false =>
  rw [m5] at HM5
  have HE : Hid (R = (Ps.Tr.zero, Ps.odd T fin s)) := Hd (by rw [HU.out, if_neg (by rw [f0]; decide), if_neg (by rw [m1]; decide), if_neg (by rw [m2]; decide), if_neg (by rw [m3]; decide), if_neg (by rw [m4]; decide), if_neg (by rw [m5]; decide)])
  have HBO := Hd (HB.out.rf (t.2.2) 124)
  have HOD : Hid (Ps.odd T fin s = Ps.rf s t.2.2 124) := Hd (by unfold Ps.odd; rw [ht])
  clear k1 ht b b0 b1 b2 b3 b4 b5 b6 f1 m1 m2 m3 m4 m5
  go_wp2_with (first
   | (go_at_call 71; (with_reducible refine (HM1.out _).mono ?_); rintro e w3b ⟨rfl, hb⟩; have E3b := E3.below hb; clear hb E3; have E3 := E3b; clear E3b; obtain ⟨a, a0, a1, a2⟩ := E3.c3 1 rfl)
   | (go_at_call 71; (with_reducible refine (HM2.out _).mono ?_); rintro e w3b ⟨rfl, hb⟩; have E3b := E3.below hb; clear hb E3; have E3 := E3b; clear E3b; obtain ⟨a, a0, a1, a2⟩ := E3.c3 1 rfl)
   | (go_at_call 71; (with_reducible refine (HM3.out _).mono ?_); rintro e w3b ⟨rfl, hb⟩; have E3b := E3.below hb; clear hb E3; have E3 := E3b; clear E3b; obtain ⟨a, a0, a1, a2⟩ := E3.c3 1 rfl)
   | (go_at_call 71; (with_reducible refine (HM4.out _).mono ?_); rintro e w3b ⟨rfl, hb⟩; have E3b := E3.below hb; clear hb E3; have E3 := E3b; clear E3b; obtain ⟨a, a0, a1, a2⟩ := E3.c3 1 rfl)
   | (go_at_call 71; (with_reducible refine (HM5.out _).mono ?_); rintro e w3b ⟨rfl, hb⟩; have E3b := E3.below hb; clear hb E3; have E3 := E3b; clear E3b; obtain ⟨a, a0, a1, a2⟩ := E3.c3 1 rfl)
   | (go_at_call 32; refine (podd_any E3.pa).mono ?_; rintro e w5 ⟨rfl, hp5⟩; have E5 := E3.call hp5; obtain ⟨b, b0, b1, b2, b3, b4, b5, b6⟩ := E5.c7 2 rfl; have f1 := E5.fz 2 rfl; clear hp5))
  have E9 := E5.put7 2 rfl (.int .i64 0) (.string ⟨#[]⟩) (.slice none 0 0) (.slice none 0 0) (.slice none 0 0) (.int .i64 0) (.int .i64 0)
  refine bodyPost_ret (ret26 rfl _ _ rfl (E9.blk 2 rfl)) rfl ?_
  rw [HE.out]
  exact ⟨_, rfl, E9.pp, by rw [HOD.out]; exact HBO.out, TrM.zero _ _ _⟩
theorem AcS.put1 {w wr : World} {g c fin base ts t2 kind place lo : Nat} {A : Option Addr} {T : List Lx.Tk} {s' : Ps.PS} {nm : Lx.Txt} {v : Value} {tr : Ps.Tr} {x0 x1 x2 x3 x4 x5 x6 : Value} (h : AcS w g A c T fin base ts t2 kind place s' nm [] v wr) (ht : TrM wr lo (fun _ => False) [x0, x1, x2, x3, x4, x5, x6] tr) (hbl : base ≤ lo) (hlo : ts < lo ∧ t2 < lo) (hbw : base ≤ w.heap.size) :
  AcS w g A c T fin base ts t2 kind place s' nm [tr] (.slice (some ⟨wr.heap.size, 0, none⟩) 1 1) ((wr.setCell ⟨ts, 4, none⟩ (.slice (some ⟨wr.heap.size, 0, none⟩) 1 1)).alloc (.cells #[x0, x1, x2, x3, x4, x5, x6] 27)) := by
 obtain ⟨l1, l2, l3, l4, _⟩ := h.lts
 have hs := h.env.size
 rw [← set_alloc _ _ _ _ _ l1]
 have h1 := TsM.one (TrM.low (TrM.swap ht (X' := fun k => k = ts ∨ k = t2) fun k hk _ e => by omega) hbl) (by omega) (by omega)
 exact ⟨(h.env.alloc _).put 0 rfl 4 _, h1.store (chg_set _ _ _ _) fun _ e => .inl e, h.bd, fun k hk => by rw [slot_own hk]; omega⟩
set_option maxRecDepth 20000 in
theorem pmsg_base {g c fin F : Nat} {A : Option Addr} {T : List Lx.Tk} (hT : Ps.Fits 65536 T) (ih : ∀ f, f < F → WAll g A c T fin f) (s : Ps.PS) (w : World) (base : Nat) (h : PA w g A c T fin s) (hb : Bd T s) (hgb : g < base) (hbw : base ≤ w.heap.size) (hf : Ps.rem T s + 6 ≤ F) :
  Calls Tryz.prog 127 #[.pointer (some ⟨g, 0, none⟩)] w (NdP w g A c T fin base (Ps.msg T fin F s)) := by
 have hTl := hT.len
 have hs := hb.at_
 have E0 := (Env.start h).box 27 [.int .i64 0, .string ⟨#[]⟩, .slice none 0 0, .slice none 0 0, .slice none 0 0, .int .i64 0, .int .i64 0] (by decide)
 obtain ⟨F', rfl⟩ : ∃ F', F = F' + 1 := ⟨F - 1, by omega⟩
 obtain ⟨t, ht⟩ : ∃ t, Ps.nx T fin s = t := ⟨_, rfl⟩
 obtain ⟨R, hR⟩ : ∃ R, Ps.msg T fin (F' + 1) s = R := ⟨_, rfl⟩
 rw [hR]
 have HN := Hd (pnext_any E0.pa)
 rw [ht] at HN
 have HB := Hd hb
 have IH := Hd ih
 have HT := Hd ht
 have HBI := Hd fun w => pbin_any t w
 have HU : Hid (R = if (t.1 == 1) = true then (Ps.nd 7 t.2.1 [] t.2.2, Ps.adv s) else if Ps.binS t = true then (Ps.nd 7 t.2.1 [(Ps.unaL T fin (T.length + 2) (Ps.prim T fin F' (Ps.adv s)).1 (Ps.prim T fin F' (Ps.adv s)).2).1] t.2.2, (Ps.unaL T fin (T.length + 2) (Ps.prim T fin F' (Ps.adv s)).1 (Ps.prim T fin F' (Ps.adv s)).2).2) else if (t.1 == 2) = true then (Ps.nd 7 (Ps.keyL T fin F' [] [] s).1 (Ps.keyL T fin F' [] [] s).2.1 t.2.2, (Ps.keyL T fin F' [] [] s).2.2) else (Ps.nd 7 [] [] t.2.2, Ps.odd T fin s)) := Hd (by rw [← hR, Ps.msg, ht])
 have hf1 := fld1 (.int .i64 (t.1 : Int)) (.string ⟨t.2.1.toArray⟩) (.int .i64 (t.2.2 : Int))
 clear h hb ih hR
 go_enter Tryz.func127, Tryz.ntmps127
 go_upto_region 2 with (go_at_call 28; refine HN.out.mono ?_; rintro e w1 ⟨rfl, hb1⟩; have E1 := E0.below hb1; clear hb1)
 refine wp_env (E1.box 37 [_, _, _] (by decide)) fun w2 E2 => ?_
 clear E0 E1 HN
 obtain ⟨a, a0, a1, a2⟩ := E2.c3 0 rfl
 go_upto_block 0 with fail
 have hA := AcS.start (kind := 7) (base := base) E2 1 rfl rfl (TsM.nil w2 base (fun k => k = w.heap.size)) rfl HB.out (fun k hk => by simp [Value.ownBlock] at hk) (place := t.2.2) (nm := [])
 have hbk := ((E2.box 27 [.int .i64 7, .string ⟨#[]⟩, .slice none 0 0, .slice none 0 0, .slice none 0 0, .int .i64 0, .int .i64 (t.2.2 : Int)] (by decide)).blk 1 rfl)
 refine wp_world (fun W => AcS w g A c T fin base w2.heap.size w.heap.size 7 t.2.2 s [] [] (.slice none 0 0) W ∧ Blk W w1.heap.size 37 #[.int .i64 (t.1 : Int), .string ⟨t.2.1.toArray⟩, .int .i64 (t.2.2 : Int)]) ⟨hA, hbk⟩ fun w3 h3 => ?_
 have HA0 := Hd h3.1
 have HK0 := Hd h3.2
 clear h3 hA hbk a a0 a1 a2
 obtain ⟨ts, hts⟩ : ∃ ts, w2.heap.size = ts := ⟨_, rfl⟩
 rw [hts] at HA0 ⊢
 clear hts E2
 have a := HK0.out.lt
 have a0 := HK0.out.cell 0
 have a1 := HK0.out.cell 1
 have a2 := HK0.out.cell 2
 have hg2 := (HA0.out.lts).2.2.1
 by_cases k1 : t.1 = 1
 ·have d1 : ((t.1 : Int) == 1) = true := by rw [k1]; rfl
  have HE : Hid (R = (Ps.nd 7 t.2.1 [] t.2.2, Ps.adv s)) := Hd (by rw [HU.out, if_pos (by rw [k1]; rfl)])
  have hlt : s.at_ < T.length := Ps.nx_lt (fin := fin) (by rw [HT.out, k1]; decide)
  clear k1 ht
  go_upto_region 13 with (go_at_call 29; refine (ptake_any HA0.out.env.pa (by omega)).mono ?_; rw [HT.out]; rintro e w4 ⟨rfl, hp⟩; have HA4 := Hd (HA0.out.call hp (HB.out.adv hlt) hgb); obtain ⟨y, y0, y1, y2, y3, y4, y5, y6⟩ := HA4.out.env.c7 0 rfl; have fy := HA4.out.env.fz 0 rfl; clear hp)
  refine wp_world (fun W => AcS w g A c T fin base ts w.heap.size 7 t.2.2 (Ps.adv s) t.2.1 [] (.slice none 0 0) W) (HA4.out.named t.2.1) fun w5 h5 => ?_
  have HA5 := Hd h5
  clear h5 y y0 y1 y2 y3 y4 y5 y6 fy HA4 HA0
  obtain ⟨a, a0, a1, a2, a3, a4, a5, a6⟩ := HA5.out.env.c7 0 rfl
  obtain ⟨b, b0, b1, b2, b3, b4, b5, b6⟩ := HA5.out.env.c7 1 rfl
  have fz := HA5.out.env.fz 1 rfl
  go_wp2
  obtain ⟨hb4, hnd⟩ := HA5.out.done (R := R) HE.out
  exact bodyPost_ret (ret26 rfl _ _ rfl hb4) rfl hnd
 have d1 : ((t.1 : Int) == 1) = false := natInt (by omega)
 have f0 : (t.1 == 1) = false := by simpa using k1
 cases hbi : Ps.binS t with
 | true =>
  rw [hbi] at HBI
  have hlt : s.at_ < T.length := Ps.nx_lt (fin := fin) (by rw [HT.out]; exact bin_kind hbi)
  obtain ⟨pa, hpa⟩ : ∃ a, Ps.prim T fin F' (Ps.adv s) = a := ⟨_, rfl⟩
  obtain ⟨pu, hpu⟩ : ∃ u, Ps.unaL T fin (T.length + 2) pa.1 pa.2 = u := ⟨_, rfl⟩
  have HE : Hid (R = (Ps.nd 7 t.2.1 [pu.1] t.2.2, pu.2)) := Hd (by rw [HU.out, if_neg (by rw [f0]; decide), if_pos hbi, hpa, hpu])
  have hra := Ps.rem_adv (T := T) (s := s) (s' := Ps.adv s) (Nat.lt_succ_self _) hlt
  have HPR := Hd fun w5 (hp : PA w5 g A c T fin (Ps.adv s)) (hb : Bd T (Ps.adv s)) => (IH.out F' (by omega)).prim (Ps.adv s) w5 hp hb (by omega)
  rw [hpa] at HPR
  have HUN := Hd fun w6 (base' : Nat) (cs6 : List Value) (hp : PA w6 g A c T fin pa.2) (hb : Bd T pa.2) (ht6 : TrM w6 base' (fun _ => False) cs6 pa.1) (h7 : g < base') (h8 : base' ≤ w6.heap.size) => punar_any hp hb hTl ht6 h7 h8
  rw [hpu] at HUN
  clear k1 ht hbi hpa hpu
  go_upto_region 8 with (first
   | (go_at_call 30; refine (HBI.out _).mono ?_; rintro e w4 ⟨rfl, hb⟩; have HA1 := Hd (HA0.out.below hb); clear hb)
   | (go_at_call 29; refine (ptake_any HA1.out.env.pa (by omega)).mono ?_; rw [HT.out]; rintro e w5 ⟨rfl, hp⟩; have HA4 := Hd (HA1.out.call hp (HB.out.adv hlt) hgb); obtain ⟨y, y0, y1, y2, y3, y4, y5, y6⟩ := HA4.out.env.c7 0 rfl; have fy := HA4.out.env.fz 0 rfl; clear hp))
  refine wp_world (fun W => AcS w g A c T fin base ts w.heap.size 7 t.2.2 (Ps.adv s) t.2.1 [] (.slice none 0 0) W) (HA4.out.named t.2.1) fun w6 h6 => ?_
  have HA6 := Hd h6
  have hl6 := h6.lts
  have hz6 := h6.env.size
  clear h6 y y0 y1 y2 y3 y4 y5 y6 fy HA4 HA1 HA0 a a0 a1 a2 HK0
  go_upto_region 13 with (first
   | (go_at_call 122; refine (HPR.out _ HA6.out.env.pa HA6.out.bd).mono ?_; rintro e w7 ⟨cs7, rfl, hp7, hb7, ht7⟩; have hz7 := hp7.1.size; have HA7 := Hd (HA6.out.call hp7 hb7 hgb); have HT7 := Hd ht7; clear hp7 hb7 ht7)
   | (go_at_call 125; refine (HUN.out _ _ _ HA7.out.env.pa HA7.out.bd HT7.out (by omega) hz7).mono ?_; rintro e w8 ⟨cs8, rfl, hp8, hb8, ht8⟩; have hz8 := hp8.1.size; have HA8 := Hd (HA7.out.call hp8 hb8 hgb); have HT8 := Hd ht8; obtain ⟨p0, p1, C1, o1, e1, C2, o2, e2, C3, o3, e3, p5, p6, rfl⟩ := ht8.form; obtain ⟨y, y0, y1, y2, y3, y4, y5, y6⟩ := HA8.out.env.c7 0 rfl; have fy := HA8.out.env.fz 0 rfl; clear hp8 hb8 ht8))
  refine wp_world (fun W => AcS w g A c T fin base ts w.heap.size 7 t.2.2 pu.2 t.2.1 [pu.1] _ W) (HA8.out.put1 HT8.out (by omega) ⟨hl6.1, hl6.2.1⟩ hbw) fun w9 h9 => ?_
  have HA9 := Hd h9
  clear h9 y y0 y1 y2 y3 y4 y5 y6 fy HA8 HA7 HA6 HT7 HT8 HPR HUN
  obtain ⟨a, a0, a1, a2, a3, a4, a5, a6⟩ := HA9.out.env.c7 0 rfl
  obtain ⟨b, b0, b1, b2, b3, b4, b5, b6⟩ := HA9.out.env.c7 1 rfl
  have fz := HA9.out.env.fz 1 rfl
  go_wp2
  obtain ⟨hb4, hnd⟩ := HA9.out.done (R := R) HE.out
  exact bodyPost_ret (ret26 rfl _ _ rfl hb4) rfl hnd
 | false =>
  rw [hbi] at HBI
  by_cases k2 : t.1 = 2
  ·have d2 : ((t.1 : Int) == 2) = true := by rw [k2]; rfl
   obtain ⟨RK, hRK⟩ : ∃ RK, Ps.keyL T fin F' [] [] s = RK := ⟨_, rfl⟩
   have HE : Hid (R = (Ps.nd 7 RK.1 RK.2.1 t.2.2, RK.2.2)) := Hd (by rw [HU.out, if_neg (by rw [f0]; decide), if_neg (by rw [hbi]; decide), if_pos (by rw [k2]; rfl), hRK])
   have HRK := Hd hRK
   clear k1 ht hbi k2 hRK
   go_upto_block 1 with (go_at_call 30; refine (HBI.out _).mono ?_; rintro e w4 ⟨rfl, hb⟩; have HA1 := Hd (HA0.out.below hb); have HK1 := Hd (HK0.out.below hb HK0.out.lt); clear hb HA0 HK0; have HA0 := HA1; have HK0 := HK1; clear HA1 HK1; have a := HK0.out.lt; have a0 := HK0.out.cell 0; have a1 := HK0.out.cell 1; have a2 := HK0.out.cell 2)
   clear a a0 a1 a2 HK0 d1 d2 hf1
   go_wp2
   go_loopg [] F' (fun f wr => ∃ (s' : Ps.PS) (nm : Lx.Txt) (l : List Ps.Tr) (v : Value), f ≤ F' ∧ AcS w g A c T fin base ts w.heap.size 7 t.2.2 s' nm l v wr ∧ Ps.rem T s' + 1 ≤ f ∧ nm.length ≤ 65536 * s'.at_ ∧ l.length ≤ s'.at_ + 1 ∧ Ps.keyL T fin f nm l s' = RK)
   case atStart => exact ⟨s, [], [], _, Nat.le_refl _, HA0.out, by omega, by simp, by simp, HRK.out⟩
   case round =>
    obtain ⟨s', nm, l, v', hfF, hA, hrm, hnm, hll, hR⟩ := hrel
    have HA := Hd hA
    have HR2 := Hd hR
    have hg := hA.env.pa.lt
    obtain ⟨Av, cv, rfl, -, -⟩ := hA.row.form
    clear hA hR HA0 HRK
    obtain ⟨q, hq⟩ : ∃ q, Ps.nx T fin s' = q := ⟨_, rfl⟩
    have HNX := Hd (pnext_any HA.out.env.pa)
    rw [hq] at HNX
    have hq0 := fld0 (.int .i64 (q.1 : Int)) (.string ⟨q.2.1.toArray⟩) (.int .i64 (q.2.2 : Int))
    have hq1 := fld1 (.int .i64 (q.1 : Int)) (.string ⟨q.2.1.toArray⟩) (.int .i64 (q.2.2 : Int))
    cases hk : Ps.ok s' with
    | false =>
     have HE2 : Hid (RK = (nm, l, s')) := Hd (by rw [← HR2.out]; exact keyL_stop (by rw [hk]; rfl))
     obtain ⟨kq, k4⟩ := HA.out.env.pa.noc hk
     obtain ⟨a, a0, a1, a2, a3, a4, a5, a6⟩ := HA.out.env.c7 0 rfl
     obtain ⟨b, b0, b1, b2, b3, b4, b5, b6⟩ := HA.out.env.c7 1 rfl
     have fz := HA.out.env.fz 1 rfl
     clear hk
     go_wp2
     obtain ⟨hb4, hnd⟩ := HA.out.done (R := R) (by rw [HE.out, HE2.out])
     exact bodyPost_ret (ret26 rfl _ _ rfl hb4) rfl hnd
    | true =>
     have k4 := HA.out.env.pa.okc hk
     by_cases h1 : q.1 = 2
     ·have d1 : ((q.1 : Int) == 2) = true := by rw [h1]; rfl
      have hlt : s'.at_ < T.length := Ps.nx_lt (fin := fin) (by rw [hq, h1]; decide)
      have HTK := Hd fun (W : World) (h : PA W g A c T fin s') => ptake_any h (by omega)
      rw [hq] at HTK
      have hql := hT.txt _ (Ps.nx_mem (fin := fin) hlt)
      rw [hq] at hql
      have hat := HA.out.bd.at_
      have hcat : ¬ (9223372036854775807 < nm.length + q.2.1.length) := by omega
      have hstr := str_app nm q.2.1
      have HQ1 := Hd h1
      have HQT := Hd hq
      have HK := Hd hk
      clear h1 hq hk
      go_upto_region 11 with (go_at_call 28; refine HNX.out.mono ?_; rintro e w4 ⟨rfl, hb⟩; have HA5 := Hd (HA.out.below hb); clear hb)
      have HAK5 := HA5
      obtain ⟨c7, e0, e1, e2, e3, e4, e5, e6⟩ := HA5.out.env.c7 0 rfl
      have hS : w4.cell? ⟨ts, 1, none⟩ = some (.string ⟨nm.toArray⟩) := e1
      refine wp_region_x (s := 7) (S := fun W => W.cell? ⟨ts, 1, none⟩ = some (.string ⟨nm.toArray⟩)) (by kernel_rfl) hS (fun hHeld => ?_)
      refine xt (i := 0) ?_
      refine xt (i := 1) ?_
      refine xt (i := 2) ?_
      refine x1 (i := 3) (fun K2 hK2 => ?_)
      go_simp
      go_at_call 29
      refine (HTK.out _ HAK5.out.env.pa.drew).mono ?_
      rintro e w6 ⟨rfl, hp⟩
      have HA6 := Hd ((HA5.out.below (Below.refl _ _).drew).call hp (HA5.out.bd.adv hlt) hgb)
      obtain ⟨a, b0, b1, b2, b3, b4, b5, b6⟩ := HA6.out.env.c7 0 rfl
      have fz6 := HA6.out.env.fz 0 rfl
      clear hp
      refine hK2.out _ _ (b1) (fun hHeld => ?_)
      clear hK2 K2
      refine xt (i := 4) ?_
      refine x1 (i := 5) (fun K2 hK2 => ?_)
      go_simp
      refine hK2.out _ _ (hHeld) (fun hHeld => ?_)
      clear hK2 K2
      refine x1 (i := 6) (fun K2 hK2 => ?_)
      go_simp
      refine hK2.out _ _ (hHeld) (fun hHeld => ?_)
      clear hK2 K2
      try simp only [Act.put, List.setIfInBounds_toArray, List.set_cons_zero, List.set_cons_succ]
      refine xl (fun K2 hK2 => ?_)
      go_simp
      refine hK2.out _ _ ?_
      clear hK2 K2
      try simp only [Act.put, List.setIfInBounds_toArray, List.set_cons_zero, List.set_cons_succ]
      refine wpAnyX_done (by kernel_rfl) ?_ _
      go_upto_region 12 with fail
      refine wp_world (fun W => AcS w g A c T fin base ts w.heap.size 7 t.2.2 (Ps.adv s') (nm ++ q.2.1) l _ W) (HA6.out.named (nm ++ q.2.1)) fun w7 ha7 => ?_
      have HA7 := Hd ha7
      have HL7 := Hd ha7.lts
      obtain ⟨f, rfl⟩ : ∃ f, gk = f + 2 := ⟨gk - 2, by have := Ps.rem_adv (T := T) (s := s') (s' := Ps.adv s') (Nat.lt_succ_self _) hlt; omega⟩
      have hra := Ps.rem_adv (T := T) (s := s') (s' := Ps.adv s') (Nat.lt_succ_self _) hlt
      obtain ⟨pa, hpa⟩ : ∃ a, Ps.prim T fin f (Ps.adv s') = a := ⟨_, rfl⟩
      obtain ⟨pu, hpu⟩ : ∃ u, Ps.unaL T fin (T.length + 2) pa.1 pa.2 = u := ⟨_, rfl⟩
      obtain ⟨pb, hpb⟩ : ∃ u, Ps.binL_ T fin f pu.1 pu.2 = u := ⟨_, rfl⟩
      have hle1 : Ps.rem T pu.2 ≤ Ps.rem T (Ps.adv s') := Ps.rem_le (by rw [← hpu, ← hpa]; exact (((Ps.leAll T fin f).prim _).trans (Ps.le_unaL T fin _ _ _)).at_)
      have hat2 : (Ps.adv s').at_ ≤ pb.2.at_ := by rw [← hpb, ← hpu, ← hpa]; exact ((((Ps.leAll T fin f).prim _).trans (Ps.le_unaL T fin _ _ _)).trans ((Ps.leAll T fin f).binL_ _ _)).at_
      have hle2 : Ps.rem T pb.2 ≤ Ps.rem T (Ps.adv s') := Ps.rem_le hat2
      have hat3 : s'.at_ + 1 ≤ pb.2.at_ := hat2
      have HR3 : Hid (Ps.keyL T fin (f + 1) (nm ++ q.2.1) (l ++ [pb.1]) pb.2 = RK) := Hd (by rw [← HR2.out]; exact (keyL_go HQT.out HK.out HQ1.out hpa hpu hpb).symm)
      have HPR := Hd fun w5 (hp : PA w5 g A c T fin (Ps.adv s')) (hb : Bd T (Ps.adv s')) => (IH.out f (by omega)).prim (Ps.adv s') w5 hp hb (by omega)
      rw [hpa] at HPR
      have HUN := Hd fun w6 (base' : Nat) (cs6 : List Value) (hp : PA w6 g A c T fin pa.2) (hb : Bd T pa.2) (ht6 : TrM w6 base' (fun _ => False) cs6 pa.1) (h7 : g < base') (h8 : base' ≤ w6.heap.size) => punar_any hp hb hTl ht6 h7 h8
      rw [hpu] at HUN
      have HBN := Hd fun w6 (base' : Nat) (cs6 : List Value) (hp : PA w6 g A c T fin pu.2) (hb : Bd T pu.2) (ht6 : TrM w6 base' (fun _ => False) cs6 pu.1) (h7 : g < base') (h8 : base' ≤ w6.heap.size) => (IH.out f (by omega)).binL base' cs6 pu.1 pu.2 w6 hp hb ht6 h7 h8 (by omega)
      rw [hpb] at HBN
      obtain ⟨i0, hi, hz0, hz1, hz2⟩ := info_parts info26
      have h77 : g < w7.heap.size := ha7.env.pa.lt
      have hbw7 : w.heap.size ≤ w7.heap.size := ha7.env.size
      obtain ⟨c7', e0', e1', e2', e3', e4', e5', e6'⟩ := ha7.env.c7 0 rfl
      have hS4 : w7.cell? ⟨ts, 4, none⟩ = some (.slice Av l.length cv) := e4'
      clear hpa hpu hpb ha7 HA6 HA5 HAK5 HA HTK HNX HR2 b0 b1 b2 b3 b4 b5 b6 fz6 e0 e1 e2 e3 e4 e5 e6 hS
      refine wp_region_x (s := 11) (S := fun W => W.cell? ⟨ts, 4, none⟩ = some (.slice Av l.length cv)) (by kernel_rfl) hS4 (fun hHeld => ?_)
      refine xt (i := 0) ?_
      refine xt (i := 1) ?_
      refine xt (i := 2) ?_
      refine xt (i := 3) ?_
      refine xt (i := 4) ?_
      refine x1 (i := 5) (fun K2 hK2 => ?_)
      go_simp
      go_at_call 122
      refine (HPR.out _ HA7.out.env.pa.drew HA7.out.bd).mono ?_
      rintro e w8 ⟨cs8, rfl, hp8, hb8, ht8⟩
      have hz8 := hp8.1.size
      have HA8 := Hd ((HA7.out.below (Below.refl _ _).drew).call hp8 hb8 hgb)
      have HT8 := Hd ht8
      have k8 : w8.cell? ⟨ts, 4, none⟩ = some (.slice Av l.length cv) := (HA8.out.env.c7 0 rfl).2.2.2.2.2.1
      clear hp8 hb8 ht8
      refine hK2.out _ _ (k8) (fun hHeld => ?_)
      clear hK2 K2
      refine x1 (i := 6) (fun K2 hK2 => ?_)
      go_simp
      go_at_call 125
      refine (HUN.out _ _ _ HA8.out.env.pa HA8.out.bd HT8.out (by show g < w7.heap.size; omega) hz8).mono ?_
      rintro e w9 ⟨cs9, rfl, hp9, hb9, ht9⟩
      have hz9 := hp9.1.size
      have HA9 := Hd (HA8.out.call hp9 hb9 hgb)
      have HT9 := Hd ht9
      have k9 : w9.cell? ⟨ts, 4, none⟩ = some (.slice Av l.length cv) := (HA9.out.env.c7 0 rfl).2.2.2.2.2.1
      clear hp9 hb9 ht9
      refine hK2.out _ _ (k9) (fun hHeld => ?_)
      clear hK2 K2
      refine x1 (i := 7) (fun K2 hK2 => ?_)
      go_simp
      go_at_call 124
      refine (HBN.out _ _ _ HA9.out.env.pa HA9.out.bd HT9.out (by show g < w7.heap.size; omega) (Nat.le_trans hz8 hz9)).mono ?_
      rintro e wa ⟨csa, rfl, hpa, hba, hta⟩
      have hza := hpa.1.size
      have HAa := Hd (HA9.out.call hpa hba hgb)
      have HTa := Hd hta
      have ka : wa.cell? ⟨ts, 4, none⟩ = some (.slice Av l.length cv) := (HAa.out.env.c7 0 rfl).2.2.2.2.2.1
      obtain ⟨css, hcl, hown, hpush⟩ := HAa.out.push HTa.out (by show base ≤ w7.heap.size; omega) ⟨HL7.out.1, HL7.out.2.1, HL7.out.2.2.2.2⟩ hgb
      have HOWN := Hd hown
      have HPUSH := Hd hpush
      obtain ⟨p0, p1, C1, o1, e1', C2, o2, e2', C3, o3, e3', p5, p6, rfl⟩ := HTa.out.form
      have hsa : w.heap.size ≤ wa.heap.size := HAa.out.env.size
      clear hpa hba hta hown hpush hcl
      refine hK2.out _ _ (ka) (fun hHeld => ?_)
      clear hK2 K2
      refine x1 (i := 8) (fun K2 hK2 => ?_)
      go_simp
      refine hK2.out _ _ (by go_keep) (fun hHeld => ?_)
      clear hK2 K2
      refine x1 (i := 9) (fun K2 hK2 => ?_)
      refine step_append_any _ rfl (.tmp 56) (.tmp 63) 25 rfl base 27 i0 _ 7 112 Tryz.underlying25 hi hz0 hz1 hz2 rfl (by decide) (.slice Av l.length cv) l.length css.flatten (by rfl) (World.ownsRow.alloc HOWN.out _) (wa.heap.size + 1) (some ⟨wa.heap.size, 0, none⟩) 1 1 _ (by rfl) (Reads.builtN wa 27 [_, _, _, _, _, _, _] 1 7 rfl) (by intro u hu; simp only [List.mem_cons, List.not_mem_nil, or_false] at hu; rcases hu with rfl | rfl | rfl | rfl | rfl | rfl | rfl <;> rfl) (by simp only [maxLen]; omega) (by omega) (by simp; omega) ?_
      intro v6 wb hown6 hgrow6 hv6
      obtain ⟨A6, c6, rfl, _, _⟩ := own_form hown6
      obtain ⟨hcl, hfz, hlt6, hac⟩ := HPUSH.out _ _ _ hown6 hgrow6 (by simpa using hv6)
      have HAC := Hd hac
      have kb : wb.cell? ⟨ts, 4, none⟩ = some (.slice Av l.length cv) := by rw [hcl 4]; exact ka
      have kbf := hfz 4
      clear hown6 hgrow6 hv6 hcl hfz hac
      try go_simp
      refine hK2.out _ _ (kb) (fun hHeld => ?_)
      clear hK2 K2
      refine x1 (i := 10) (fun K2 hK2 => ?_)
      go_simp
      refine hK2.out _ _ (hHeld) (fun hHeld => ?_)
      clear hK2 K2
      try simp only [Act.put, List.setIfInBounds_toArray, List.set_cons_zero, List.set_cons_succ]
      refine xl (fun K2 hK2 => ?_)
      go_simp
      refine hK2.out _ _ ?_
      clear hK2 K2
      try simp only [Act.put, List.setIfInBounds_toArray, List.set_cons_zero, List.set_cons_succ]
      refine wpAnyX_done (by kernel_rfl) ?_ _
      go_wp2_with fail
      go_roundg (f + 1)
      case measure => omega
      case rel => exact ⟨pb.2, nm ++ q.2.1, l ++ [pb.1], _, by omega, HAC.out, by omega, by simp only [List.length_append]; omega, by simp only [List.length_append, List.length_singleton]; omega, HR3.out⟩
     ·have d1 : ((q.1 : Int) == 2) = false := natInt (by omega)
      have HE2 : Hid (RK = (nm, l, s')) := Hd (by rw [← HR2.out]; exact keyL_stop (by rw [hq, hk]; simpa using h1))
      clear hk h1 hq
      go_upto_region 13 with (go_at_call 28; refine HNX.out.mono ?_; rintro e w4 ⟨rfl, hb⟩; have HA5 := Hd (HA.out.below hb); clear hb)
      obtain ⟨a, a0, a1, a2, a3, a4, a5, a6⟩ := HA5.out.env.c7 0 rfl
      obtain ⟨b, b0, b1, b2, b3, b4, b5, b6⟩ := HA5.out.env.c7 1 rfl
      have fz := HA5.out.env.fz 1 rfl
      go_wp2
      obtain ⟨hb4, hnd⟩ := HA5.out.done (R := R) (by rw [HE.out, HE2.out])
      exact bodyPost_ret (ret26 rfl _ _ rfl hb4) rfl hnd
  ·have d2 : ((t.1 : Int) == 2) = false := natInt (by omega)
   have HE : Hid (R = (Ps.nd 7 [] [] t.2.2, Ps.odd T fin s)) := Hd (by rw [HU.out, if_neg (by rw [f0]; decide), if_neg (by rw [hbi]; decide), if_neg (by simpa using k2)])
   have HBO := Hd (HB.out.rf (t.2.2) 124)
   have HOD : Hid (Ps.odd T fin s = Ps.rf s t.2.2 124) := Hd (by unfold Ps.odd; rw [ht])
   clear k1 ht hbi k2
   go_upto_region 13 with (first
    | (go_at_call 30; refine (HBI.out _).mono ?_; rintro e w4 ⟨rfl, hb⟩; have HA1 := Hd (HA0.out.below hb); have HK1 := Hd (HK0.out.below hb HK0.out.lt); clear hb; have a := HK1.out.lt; have a0 := HK1.out.cell 0; have a1 := HK1.out.cell 1; have a2 := HK1.out.cell 2)
    | (go_at_call 32; refine (podd_any HA1.out.env.pa).mono ?_; rintro e w5 ⟨rfl, hp⟩; have HA5 := Hd (HA1.out.call hp (by rw [HOD.out]; exact HBO.out) hgb); clear hp))
   obtain ⟨a, a0, a1, a2, a3, a4, a5, a6⟩ := HA5.out.env.c7 0 rfl
   obtain ⟨b, b0, b1, b2, b3, b4, b5, b6⟩ := HA5.out.env.c7 1 rfl
   have fz := HA5.out.env.fz 1 rfl
   go_wp2
   obtain ⟨hb4, hnd⟩ := HA5.out.done (R := R) HE.out
   exact bodyPost_ret (ret26 rfl _ _ rfl hb4) rfl hnd
theorem pmsg_any {g c fin F : Nat} {A : Option Addr} {T : List Lx.Tk} (hT : Ps.Fits 65536 T) (ih : ∀ f, f < F → WAll g A c T fin f) (s : Ps.PS) (w : World) (h : PA w g A c T fin s) (hb : Bd T s) (hf : Ps.rem T s + 6 ≤ F) :
  Calls Tryz.prog 127 #[.pointer (some ⟨g, 0, none⟩)] w (NdP w g A c T fin w.heap.size (Ps.msg T fin F s)) := pmsg_base hT ih s w w.heap.size h hb h.lt (Nat.le_refl _) hf
end Go.Proofs.YtjhonaglmgmpiaaGreatDoor
