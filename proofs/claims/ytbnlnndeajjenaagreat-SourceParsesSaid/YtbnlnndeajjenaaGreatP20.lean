/-
  Parts RxJ of the proof. No statement of the seat is proved here.
-/
import Derived.Test.YtbnlnndeajjenaaGreatP19
set_option maxHeartbeats 4000000
namespace Go.Proofs.YtbnlnndeajjenaaGreat
open Go.RowKit
set_option maxRecDepth 20000 in
theorem rlit_any {g c fin F : Nat} {A : Option Addr} {T : List Lx.Tk} (hT : Ps.Fits 65536 T) (hfin : fin ≤ 65536) (ih : ∀ f, f < F → RWAll g A c T fin f) (s : Rs.RS) (w : World) (h : RA w g A c (Rs.toks T fin) s) (hb : Rs.Bd T s) (hk : Rs.bad s = false) (hf : Rs.rem T s + 3 ≤ F) :
  Calls Tryz.prog 105 #[.pointer (some ⟨g, 0, none⟩)] w (RNd w g A c T fin w.heap.size (Rs.lit (Rs.toks T fin) F s)) := by
 have hTl := hT.len
 have hgb := h.lt
 have hs := hb.le hTl
 have hsa := hb.at_
 have E0 := (Ev.start h).box 26 [.int .i64 0, .string ⟨#[]⟩, .slice none 0 0, .slice none 0 0, .slice none 0 0, .int .i64 0, .int .i64 0]
 obtain ⟨F', rfl⟩ : ∃ F', F = F' + 1 := ⟨F - 1, by omega⟩
 obtain ⟨t, ht⟩ : ∃ t, Rs.tok (Rs.toks T fin) s = t := ⟨_, rfl⟩
 obtain ⟨R, hR⟩ : ∃ R, Rs.lit (Rs.toks T fin) (F' + 1) s = R := ⟨_, rfl⟩
 have HE : Hid (R = if Rs.is_ (Rs.toks T fin) 4 [] s || Rs.neg (Rs.toks T fin) s then Rs.number (Rs.toks T fin) s else if Rs.is_ (Rs.toks T fin) 7 [40] s || Rs.is_ (Rs.toks T fin) 7 [35, 40] s then Rs.arr (Rs.toks T fin) F' s else if Rs.is_ (Rs.toks T fin) 7 [35, 91] s then Rs.bytes (Rs.toks T fin) s else if Rs.is_ (Rs.toks T fin) 5 [] s then (Ps.nd 10 t.2.1 [] t.2.2, Rs.adv s) else if Rs.is_ (Rs.toks T fin) 1 [] s && (t.2.1 == [116, 114, 117, 101] || t.2.1 == [102, 97, 108, 115, 101] || t.2.1 == [110, 105, 108]) then (Ps.nd 8 t.2.1 [] t.2.2, Rs.adv s) else if Rs.is_ (Rs.toks T fin) 1 [] s || Rs.is_ (Rs.toks T fin) 2 [] s || Rs.is_ (Rs.toks T fin) 3 [] s || Rs.is_ (Rs.toks T fin) 6 [] s || Rs.is_ (Rs.toks T fin) 7 [124] s then (Ps.nd 11 t.2.1 [] t.2.2, Rs.adv s) else (Ps.Tr.zero, Rs.fail s 124 t.2.2)) := Hd (by rw [← hR, Rs.lit, ht])
 have HTK := Hd fun (W : World) (h : RA W g A c (Rs.toks T fin) s) => rtok_any h (hb).lt
 rw [ht] at HTK
 have H1 := Hd fun (W : World) (h : RA W g A c (Rs.toks T fin) s) => ris_z h (hb).lt 1 [] (z := 1) rfl (xs := #[]) rfl
 have H2 := Hd fun (W : World) (h : RA W g A c (Rs.toks T fin) s) => ris_z h (hb).lt 2 [] (z := 2) rfl (xs := #[]) rfl
 have H3 := Hd fun (W : World) (h : RA W g A c (Rs.toks T fin) s) => ris_z h (hb).lt 3 [] (z := 3) rfl (xs := #[]) rfl
 have H4 := Hd fun (W : World) (h : RA W g A c (Rs.toks T fin) s) => ris_z h (hb).lt 4 [] (z := 4) rfl (xs := #[]) rfl
 have H5 := Hd fun (W : World) (h : RA W g A c (Rs.toks T fin) s) => ris_z h (hb).lt 5 [] (z := 5) rfl (xs := #[]) rfl
 have H6 := Hd fun (W : World) (h : RA W g A c (Rs.toks T fin) s) => ris_z h (hb).lt 6 [] (z := 6) rfl (xs := #[]) rfl
 have HA1 := Hd fun (W : World) (h : RA W g A c (Rs.toks T fin) s) => ris_z h (hb).lt 7 [35, 40] (z := 7) rfl (xs := #[35, 40]) rfl
 have HA2 := Hd fun (W : World) (h : RA W g A c (Rs.toks T fin) s) => ris_z h (hb).lt 7 [35, 91] (z := 7) rfl (xs := #[35, 91]) rfl
 have HA3 := Hd fun (W : World) (h : RA W g A c (Rs.toks T fin) s) => ris_z h (hb).lt 7 [40] (z := 7) rfl (xs := #[40]) rfl
 have HA6 := Hd fun (W : World) (h : RA W g A c (Rs.toks T fin) s) => ris_z h (hb).lt 7 [124] (z := 7) rfl (xs := #[124]) rfl
 have HNG := Hd fun (W : World) (h : RA W g A c (Rs.toks T fin) s) => rneg_any h (by rw [Ps.toks_len]; omega) hs (tok_place hT hfin s)
 have HNU := Hd fun (W : World) (h : RA W g A c (Rs.toks T fin) s) => rnum_any h (by rw [Ps.toks_len]; omega) hs (tok_place hT hfin s) (tok1_txt hT s)
 have HF := Hd fun (W : World) (h : RA W g A c (Rs.toks T fin) s) => rfail_any h 124 t.2.2 (by decide)
 have HB := Hd hb
 rw [hR]
 have IH := Hd ih
 have HE0 := Hd E0
 clear h hb ih hR ht E0
 go_enter Tryz.func105, Tryz.ntmps105
 go_upto_block 0 with (go_at_call 37; refine (HTK.out _ HE0.out.pa).mono ?_; rintro e w1 ⟨rfl, hp⟩; have HE1 := Hd (HE0.out.below hp); clear hp)
 refine wp_world (fun W => Ev w g A c (Rs.toks T fin) s _ W) (HE1.out.box 40 [_, _, _]) fun w2 E => ?_
 clear HE0 HE1 HTK
 cases h4 : Rs.is_ (Rs.toks T fin) 4 [] s with
 | true =>
  have HE2 : Hid (R = Rs.number (Rs.toks T fin) s) := Hd (by rw [HE.out, if_pos (by rw [h4]; rfl)])
  have HBQ := Hd (HB.out.mv (Rs.mv_number (by rw [h4]; rfl)))
  rw [h4] at H4
  go_upto_region 3 with (first
   | (go_at_call 38; with_reducible refine (H4.out _ E.pa).mono ?_; rintro e wx ⟨rfl, hb⟩; have E' := E.below hb; clear E hb; have E := E'; clear E'; obtain ⟨a, a0, a1, a2⟩ := E.c3 0 rfl))
  go_wp2_with (go_at_call 98; refine (HNU.out _ E.pa).mono ?_; rintro e wx ⟨cs, rfl, hp, ht⟩; have hlo := (E.blk 1 rfl).lt; have E' := E.call hp; have HT := Hd ht; obtain ⟨p0, p1, C1, o1, e1, C2, o2, e2, C3, o3, e3, p5, p6, rfl⟩ := ht.form; clear E hp ht; have E := E'; clear E'; obtain ⟨y, y0, y1, y2, y3, y4, y5, y6⟩ := E.c7 1 rfl; have f2 := E.fz 1 rfl)
  obtain ⟨hb4, hnd⟩ := RNd.put E 1 rfl rfl HT.out hlo HBQ.out HE2.out
  exact bodyPost_ret (ret26 rfl _ _ rfl hb4) rfl hnd
 | false =>
  rw [h4] at H4
  cases hn : Rs.neg (Rs.toks T fin) s with
  | true =>
   have HE2 : Hid (R = Rs.number (Rs.toks T fin) s) := Hd (by rw [HE.out, if_pos (by rw [h4, hn]; rfl)])
   have HBQ := Hd (HB.out.mv (Rs.mv_number (by rw [h4, hn]; rfl)))
   rw [hn] at HNG
   go_upto_region 3 with (first
    | (go_at_call 38; with_reducible refine (H4.out _ E.pa).mono ?_; rintro e wx ⟨rfl, hb⟩; have E' := E.below hb; clear E hb; have E := E'; clear E'; obtain ⟨a, a0, a1, a2⟩ := E.c3 0 rfl)
    | (go_at_call 97; with_reducible refine (HNG.out _ E.pa).mono ?_; rintro e wx ⟨rfl, hb⟩; have E' := E.below hb; clear E hb; have E := E'; clear E'; obtain ⟨a, a0, a1, a2⟩ := E.c3 0 rfl))
   go_wp2_with (go_at_call 98; refine (HNU.out _ E.pa).mono ?_; rintro e wx ⟨cs, rfl, hp, ht⟩; have hlo := (E.blk 1 rfl).lt; have E' := E.call hp; have HT := Hd ht; obtain ⟨p0, p1, C1, o1, e1, C2, o2, e2, C3, o3, e3, p5, p6, rfl⟩ := ht.form; clear E hp ht; have E := E'; clear E'; obtain ⟨y, y0, y1, y2, y3, y4, y5, y6⟩ := E.c7 1 rfl; have f2 := E.fz 1 rfl)
   obtain ⟨hb4, hnd⟩ := RNd.put E 1 rfl rfl HT.out hlo HBQ.out HE2.out
   exact bodyPost_ret (ret26 rfl _ _ rfl hb4) rfl hnd
  | false =>
   rw [hn] at HNG
   cases hg : Rs.is_ (Rs.toks T fin) 7 [40] s with
   | true =>
    have hlt := Rs.is_lt (by decide) hg
    have HE2 : Hid (R = Rs.arr (Rs.toks T fin) F' s) := Hd (by rw [HE.out, if_neg (by rw [h4, hn]; decide), if_pos (by rw [hg]; rfl)])
    rw [hg] at HA3
    have HCON := Hd fun (W : World) (h : RA W g A c (Rs.toks T fin) s) => (IH.out F' (by omega)).arr s W h HB.out hk hlt (by omega)
    rw [show Rs.arr (Rs.toks T fin) F' s = ((Rs.arr (Rs.toks T fin) F' s).1, (Rs.arr (Rs.toks T fin) F' s).2) from rfl] at HE2
    go_upto_region 5 with (first
     | (go_at_call 38; with_reducible refine (H4.out _ E.pa).mono ?_; rintro e wx ⟨rfl, hb⟩; have E' := E.below hb; clear E hb; have E := E'; clear E'; obtain ⟨a, a0, a1, a2⟩ := E.c3 0 rfl)
     | (go_at_call 97; with_reducible refine (HNG.out _ E.pa).mono ?_; rintro e wx ⟨rfl, hb⟩; have E' := E.below hb; clear E hb; have E := E'; clear E'; obtain ⟨a, a0, a1, a2⟩ := E.c3 0 rfl)
     | (go_at_call 38; with_reducible refine (HA3.out _ E.pa).mono ?_; rintro e wx ⟨rfl, hb⟩; have E' := E.below hb; clear E hb; have E := E'; clear E'; obtain ⟨a, a0, a1, a2⟩ := E.c3 0 rfl))
    go_wp2_with (go_at_call 99; refine (HCON.out _ E.pa).mono ?_; rintro e wx ⟨cs, rfl, hp, hbq, ht⟩; have hlo := (E.blk 1 rfl).lt; have E' := E.call hp; have HT := Hd ht; obtain ⟨p0, p1, C1, o1, e1, C2, o2, e2, C3, o3, e3, p5, p6, rfl⟩ := ht.form; clear E hp ht; have E := E'; clear E'; obtain ⟨y, y0, y1, y2, y3, y4, y5, y6⟩ := E.c7 1 rfl; have f2 := E.fz 1 rfl)
    obtain ⟨hb4, hnd⟩ := RNd.put E 1 rfl rfl HT.out hlo hbq HE2.out
    exact bodyPost_ret (ret26 rfl _ _ rfl hb4) rfl hnd
   | false =>
    rw [hg] at HA3
    cases ha : Rs.is_ (Rs.toks T fin) 7 [35, 40] s with
    | true =>
     have hlt := Rs.is_lt (by decide) ha
     have HE2 : Hid (R = Rs.arr (Rs.toks T fin) F' s) := Hd (by rw [HE.out, if_neg (by rw [h4, hn]; decide), if_pos (by rw [hg, ha]; rfl)])
     rw [ha] at HA1
     have HCON := Hd fun (W : World) (h : RA W g A c (Rs.toks T fin) s) => (IH.out F' (by omega)).arr s W h HB.out hk hlt (by omega)
     rw [show Rs.arr (Rs.toks T fin) F' s = ((Rs.arr (Rs.toks T fin) F' s).1, (Rs.arr (Rs.toks T fin) F' s).2) from rfl] at HE2
     go_upto_region 5 with (first
      | (go_at_call 38; with_reducible refine (H4.out _ E.pa).mono ?_; rintro e wx ⟨rfl, hb⟩; have E' := E.below hb; clear E hb; have E := E'; clear E'; obtain ⟨a, a0, a1, a2⟩ := E.c3 0 rfl)
      | (go_at_call 97; with_reducible refine (HNG.out _ E.pa).mono ?_; rintro e wx ⟨rfl, hb⟩; have E' := E.below hb; clear E hb; have E := E'; clear E'; obtain ⟨a, a0, a1, a2⟩ := E.c3 0 rfl)
      | (go_at_call 38; with_reducible refine (HA3.out _ E.pa).mono ?_; rintro e wx ⟨rfl, hb⟩; have E' := E.below hb; clear E hb; have E := E'; clear E'; obtain ⟨a, a0, a1, a2⟩ := E.c3 0 rfl)
      | (go_at_call 38; with_reducible refine (HA1.out _ E.pa).mono ?_; rintro e wx ⟨rfl, hb⟩; have E' := E.below hb; clear E hb; have E := E'; clear E'; obtain ⟨a, a0, a1, a2⟩ := E.c3 0 rfl))
     go_wp2_with (go_at_call 99; refine (HCON.out _ E.pa).mono ?_; rintro e wx ⟨cs, rfl, hp, hbq, ht⟩; have hlo := (E.blk 1 rfl).lt; have E' := E.call hp; have HT := Hd ht; obtain ⟨p0, p1, C1, o1, e1, C2, o2, e2, C3, o3, e3, p5, p6, rfl⟩ := ht.form; clear E hp ht; have E := E'; clear E'; obtain ⟨y, y0, y1, y2, y3, y4, y5, y6⟩ := E.c7 1 rfl; have f2 := E.fz 1 rfl)
     obtain ⟨hb4, hnd⟩ := RNd.put E 1 rfl rfl HT.out hlo hbq HE2.out
     exact bodyPost_ret (ret26 rfl _ _ rfl hb4) rfl hnd
    | false =>
     rw [ha] at HA1
     cases hy : Rs.is_ (Rs.toks T fin) 7 [35, 91] s with
     | true =>
      have hlt := Rs.is_lt (by decide) hy
      have HE2 : Hid (R = Rs.bytes (Rs.toks T fin) s) := Hd (by rw [HE.out, if_neg (by rw [h4, hn]; decide), if_neg (by rw [hg, ha]; decide), if_pos (by exact hy)])
      rw [hy] at HA2
      have HCON := Hd fun (W : World) (h : RA W g A c (Rs.toks T fin) s) => rbyt_any hT s W h HB.out hk hlt
      rw [show Rs.bytes (Rs.toks T fin) s = ((Rs.bytes (Rs.toks T fin) s).1, (Rs.bytes (Rs.toks T fin) s).2) from rfl] at HE2
      go_upto_region 7 with (first
       | (go_at_call 38; with_reducible refine (H4.out _ E.pa).mono ?_; rintro e wx ⟨rfl, hb⟩; have E' := E.below hb; clear E hb; have E := E'; clear E'; obtain ⟨a, a0, a1, a2⟩ := E.c3 0 rfl)
       | (go_at_call 97; with_reducible refine (HNG.out _ E.pa).mono ?_; rintro e wx ⟨rfl, hb⟩; have E' := E.below hb; clear E hb; have E := E'; clear E'; obtain ⟨a, a0, a1, a2⟩ := E.c3 0 rfl)
       | (go_at_call 38; with_reducible refine (HA3.out _ E.pa).mono ?_; rintro e wx ⟨rfl, hb⟩; have E' := E.below hb; clear E hb; have E := E'; clear E'; obtain ⟨a, a0, a1, a2⟩ := E.c3 0 rfl)
       | (go_at_call 38; with_reducible refine (HA1.out _ E.pa).mono ?_; rintro e wx ⟨rfl, hb⟩; have E' := E.below hb; clear E hb; have E := E'; clear E'; obtain ⟨a, a0, a1, a2⟩ := E.c3 0 rfl)
       | (go_at_call 38; with_reducible refine (HA2.out _ E.pa).mono ?_; rintro e wx ⟨rfl, hb⟩; have E' := E.below hb; clear E hb; have E := E'; clear E'; obtain ⟨a, a0, a1, a2⟩ := E.c3 0 rfl))
      go_wp2_with (go_at_call 100; refine (HCON.out _ E.pa).mono ?_; rintro e wx ⟨cs, rfl, hp, hbq, ht⟩; have hlo := (E.blk 1 rfl).lt; have E' := E.call hp; have HT := Hd ht; obtain ⟨p0, p1, C1, o1, e1, C2, o2, e2, C3, o3, e3, p5, p6, rfl⟩ := ht.form; clear E hp ht; have E := E'; clear E'; obtain ⟨y, y0, y1, y2, y3, y4, y5, y6⟩ := E.c7 1 rfl; have f2 := E.fz 1 rfl)
      obtain ⟨hb4, hnd⟩ := RNd.put E 1 rfl rfl HT.out hlo hbq HE2.out
      exact bodyPost_ret (ret26 rfl _ _ rfl hb4) rfl hnd
     | false =>
      rw [hy] at HA2
      cases h5 : Rs.is_ (Rs.toks T fin) 5 [] s with
      | true =>
       have hlt := Rs.is_lt (by decide) h5
       have HE2 : Hid (R = (Ps.nd 10 t.2.1 [] t.2.2, Rs.adv s)) := Hd (by rw [HE.out, if_neg (by rw [h4, hn]; decide), if_neg (by rw [hg, ha]; decide), if_neg (by rw [hy]; decide), if_pos (by exact h5)])
       rw [h5] at H5
       go_upto_region 9 with (first
        | (go_at_call 38; with_reducible refine (H4.out _ E.pa).mono ?_; rintro e wx ⟨rfl, hb⟩; have E' := E.below hb; clear E hb; have E := E'; clear E'; obtain ⟨a, a0, a1, a2⟩ := E.c3 0 rfl)
        | (go_at_call 97; with_reducible refine (HNG.out _ E.pa).mono ?_; rintro e wx ⟨rfl, hb⟩; have E' := E.below hb; clear E hb; have E := E'; clear E'; obtain ⟨a, a0, a1, a2⟩ := E.c3 0 rfl)
        | (go_at_call 38; with_reducible refine (HA3.out _ E.pa).mono ?_; rintro e wx ⟨rfl, hb⟩; have E' := E.below hb; clear E hb; have E := E'; clear E'; obtain ⟨a, a0, a1, a2⟩ := E.c3 0 rfl)
        | (go_at_call 38; with_reducible refine (HA1.out _ E.pa).mono ?_; rintro e wx ⟨rfl, hb⟩; have E' := E.below hb; clear E hb; have E := E'; clear E'; obtain ⟨a, a0, a1, a2⟩ := E.c3 0 rfl)
        | (go_at_call 38; with_reducible refine (HA2.out _ E.pa).mono ?_; rintro e wx ⟨rfl, hb⟩; have E' := E.below hb; clear E hb; have E := E'; clear E'; obtain ⟨a, a0, a1, a2⟩ := E.c3 0 rfl)
        | (go_at_call 38; with_reducible refine (H5.out _ E.pa).mono ?_; rintro e wx ⟨rfl, hb⟩; have E' := E.below hb; clear E hb; have E := E'; clear E'; obtain ⟨a, a0, a1, a2⟩ := E.c3 0 rfl))
       obtain ⟨k0, k1, k2, k3, k4⟩ := E.pa.cells
       have kf := E.pa.frz 1
       have hg := E.pa.lt
       go_upto_region 10 with fail
       refine wp_world (Ev w g A c (Rs.toks T fin) (Rs.adv s) _) (E.setAt (s.at_ + 1) _ (by first | rfl | omega)) fun w5 E5 => ?_
       clear k0 k1 k2 k3 k4 kf hg E
       have E := E5
       clear E5
       obtain ⟨a, a0, a1, a2⟩ := E.c3 0 rfl
       obtain ⟨b, b0, b1, b2, b3, b4, b5, b6⟩ := E.c7 1 rfl
       have f1 := E.fz 1 rfl
       go_wp2
       obtain ⟨hb4, hnd⟩ := RNd.leaf 10 t.2.1 t.2.2 E 1 rfl rfl (HB.out.adv hlt) HE2.out
       exact bodyPost_ret (ret26 rfl _ _ rfl hb4) rfl hnd
      | false =>
       rw [h5] at H5
       cases h1 : Rs.is_ (Rs.toks T fin) 1 [] s with
       | true =>
        have hlt := Rs.is_lt (by decide) h1
        have HQ1 := Hd h1
        rw [h1] at H1
        cases x0 : t.2.1 == [116, 114, 117, 101] with
        | true =>
         have HE2 : Hid (R = (Ps.nd 8 t.2.1 [] t.2.2, Rs.adv s)) := Hd (by rw [HE.out, if_neg (by rw [h4, hn]; decide), if_neg (by rw [hg, ha]; decide), if_neg (by rw [hy]; decide), if_neg (by rw [h5]; decide), if_pos (by rw [HQ1.out, x0]; rfl)])
         go_upto_region 12 with (first
          | (go_at_call 38; with_reducible refine (H4.out _ E.pa).mono ?_; rintro e wx ⟨rfl, hb⟩; have E' := E.below hb; clear E hb; have E := E'; clear E'; obtain ⟨a, a0, a1, a2⟩ := E.c3 0 rfl)
          | (go_at_call 97; with_reducible refine (HNG.out _ E.pa).mono ?_; rintro e wx ⟨rfl, hb⟩; have E' := E.below hb; clear E hb; have E := E'; clear E'; obtain ⟨a, a0, a1, a2⟩ := E.c3 0 rfl)
          | (go_at_call 38; with_reducible refine (HA3.out _ E.pa).mono ?_; rintro e wx ⟨rfl, hb⟩; have E' := E.below hb; clear E hb; have E := E'; clear E'; obtain ⟨a, a0, a1, a2⟩ := E.c3 0 rfl)
          | (go_at_call 38; with_reducible refine (HA1.out _ E.pa).mono ?_; rintro e wx ⟨rfl, hb⟩; have E' := E.below hb; clear E hb; have E := E'; clear E'; obtain ⟨a, a0, a1, a2⟩ := E.c3 0 rfl)
          | (go_at_call 38; with_reducible refine (HA2.out _ E.pa).mono ?_; rintro e wx ⟨rfl, hb⟩; have E' := E.below hb; clear E hb; have E := E'; clear E'; obtain ⟨a, a0, a1, a2⟩ := E.c3 0 rfl)
          | (go_at_call 38; with_reducible refine (H5.out _ E.pa).mono ?_; rintro e wx ⟨rfl, hb⟩; have E' := E.below hb; clear E hb; have E := E'; clear E'; obtain ⟨a, a0, a1, a2⟩ := E.c3 0 rfl)
          | (go_at_call 38; with_reducible refine (H1.out _ E.pa).mono ?_; rintro e wx ⟨rfl, hb⟩; have E' := E.below hb; clear E hb; have E := E'; clear E'; obtain ⟨a, a0, a1, a2⟩ := E.c3 0 rfl))
         obtain ⟨k0, k1, k2, k3, k4⟩ := E.pa.cells
         have kf := E.pa.frz 1
         have hg := E.pa.lt
         go_upto_region 13 with fail
         refine wp_world (Ev w g A c (Rs.toks T fin) (Rs.adv s) _) (E.setAt (s.at_ + 1) _ (by first | rfl | omega)) fun w5 E5 => ?_
         clear k0 k1 k2 k3 k4 kf hg E
         have E := E5
         clear E5
         obtain ⟨a, a0, a1, a2⟩ := E.c3 0 rfl
         obtain ⟨b, b0, b1, b2, b3, b4, b5, b6⟩ := E.c7 1 rfl
         have f1 := E.fz 1 rfl
         go_wp2
         obtain ⟨hb4, hnd⟩ := RNd.leaf 8 t.2.1 t.2.2 E 1 rfl rfl (HB.out.adv hlt) HE2.out
         exact bodyPost_ret (ret26 rfl _ _ rfl hb4) rfl hnd
        | false =>
         cases x1 : t.2.1 == [102, 97, 108, 115, 101] with
         | true =>
          have HE2 : Hid (R = (Ps.nd 8 t.2.1 [] t.2.2, Rs.adv s)) := Hd (by rw [HE.out, if_neg (by rw [h4, hn]; decide), if_neg (by rw [hg, ha]; decide), if_neg (by rw [hy]; decide), if_neg (by rw [h5]; decide), if_pos (by rw [HQ1.out, x0, x1]; rfl)])
          go_upto_region 12 with (first
           | (go_at_call 38; with_reducible refine (H4.out _ E.pa).mono ?_; rintro e wx ⟨rfl, hb⟩; have E' := E.below hb; clear E hb; have E := E'; clear E'; obtain ⟨a, a0, a1, a2⟩ := E.c3 0 rfl)
           | (go_at_call 97; with_reducible refine (HNG.out _ E.pa).mono ?_; rintro e wx ⟨rfl, hb⟩; have E' := E.below hb; clear E hb; have E := E'; clear E'; obtain ⟨a, a0, a1, a2⟩ := E.c3 0 rfl)
           | (go_at_call 38; with_reducible refine (HA3.out _ E.pa).mono ?_; rintro e wx ⟨rfl, hb⟩; have E' := E.below hb; clear E hb; have E := E'; clear E'; obtain ⟨a, a0, a1, a2⟩ := E.c3 0 rfl)
           | (go_at_call 38; with_reducible refine (HA1.out _ E.pa).mono ?_; rintro e wx ⟨rfl, hb⟩; have E' := E.below hb; clear E hb; have E := E'; clear E'; obtain ⟨a, a0, a1, a2⟩ := E.c3 0 rfl)
           | (go_at_call 38; with_reducible refine (HA2.out _ E.pa).mono ?_; rintro e wx ⟨rfl, hb⟩; have E' := E.below hb; clear E hb; have E := E'; clear E'; obtain ⟨a, a0, a1, a2⟩ := E.c3 0 rfl)
           | (go_at_call 38; with_reducible refine (H5.out _ E.pa).mono ?_; rintro e wx ⟨rfl, hb⟩; have E' := E.below hb; clear E hb; have E := E'; clear E'; obtain ⟨a, a0, a1, a2⟩ := E.c3 0 rfl)
           | (go_at_call 38; with_reducible refine (H1.out _ E.pa).mono ?_; rintro e wx ⟨rfl, hb⟩; have E' := E.below hb; clear E hb; have E := E'; clear E'; obtain ⟨a, a0, a1, a2⟩ := E.c3 0 rfl))
          obtain ⟨k0, k1, k2, k3, k4⟩ := E.pa.cells
          have kf := E.pa.frz 1
          have hg := E.pa.lt
          go_upto_region 13 with fail
          refine wp_world (Ev w g A c (Rs.toks T fin) (Rs.adv s) _) (E.setAt (s.at_ + 1) _ (by first | rfl | omega)) fun w5 E5 => ?_
          clear k0 k1 k2 k3 k4 kf hg E
          have E := E5
          clear E5
          obtain ⟨a, a0, a1, a2⟩ := E.c3 0 rfl
          obtain ⟨b, b0, b1, b2, b3, b4, b5, b6⟩ := E.c7 1 rfl
          have f1 := E.fz 1 rfl
          go_wp2
          obtain ⟨hb4, hnd⟩ := RNd.leaf 8 t.2.1 t.2.2 E 1 rfl rfl (HB.out.adv hlt) HE2.out
          exact bodyPost_ret (ret26 rfl _ _ rfl hb4) rfl hnd
         | false =>
          cases x2 : t.2.1 == [110, 105, 108] with
          | true =>
           have HE2 : Hid (R = (Ps.nd 8 t.2.1 [] t.2.2, Rs.adv s)) := Hd (by rw [HE.out, if_neg (by rw [h4, hn]; decide), if_neg (by rw [hg, ha]; decide), if_neg (by rw [hy]; decide), if_neg (by rw [h5]; decide), if_pos (by rw [HQ1.out, x0, x1, x2]; rfl)])
           go_upto_region 12 with (first
            | (go_at_call 38; with_reducible refine (H4.out _ E.pa).mono ?_; rintro e wx ⟨rfl, hb⟩; have E' := E.below hb; clear E hb; have E := E'; clear E'; obtain ⟨a, a0, a1, a2⟩ := E.c3 0 rfl)
            | (go_at_call 97; with_reducible refine (HNG.out _ E.pa).mono ?_; rintro e wx ⟨rfl, hb⟩; have E' := E.below hb; clear E hb; have E := E'; clear E'; obtain ⟨a, a0, a1, a2⟩ := E.c3 0 rfl)
            | (go_at_call 38; with_reducible refine (HA3.out _ E.pa).mono ?_; rintro e wx ⟨rfl, hb⟩; have E' := E.below hb; clear E hb; have E := E'; clear E'; obtain ⟨a, a0, a1, a2⟩ := E.c3 0 rfl)
            | (go_at_call 38; with_reducible refine (HA1.out _ E.pa).mono ?_; rintro e wx ⟨rfl, hb⟩; have E' := E.below hb; clear E hb; have E := E'; clear E'; obtain ⟨a, a0, a1, a2⟩ := E.c3 0 rfl)
            | (go_at_call 38; with_reducible refine (HA2.out _ E.pa).mono ?_; rintro e wx ⟨rfl, hb⟩; have E' := E.below hb; clear E hb; have E := E'; clear E'; obtain ⟨a, a0, a1, a2⟩ := E.c3 0 rfl)
            | (go_at_call 38; with_reducible refine (H5.out _ E.pa).mono ?_; rintro e wx ⟨rfl, hb⟩; have E' := E.below hb; clear E hb; have E := E'; clear E'; obtain ⟨a, a0, a1, a2⟩ := E.c3 0 rfl)
            | (go_at_call 38; with_reducible refine (H1.out _ E.pa).mono ?_; rintro e wx ⟨rfl, hb⟩; have E' := E.below hb; clear E hb; have E := E'; clear E'; obtain ⟨a, a0, a1, a2⟩ := E.c3 0 rfl))
           obtain ⟨k0, k1, k2, k3, k4⟩ := E.pa.cells
           have kf := E.pa.frz 1
           have hg := E.pa.lt
           go_upto_region 13 with fail
           refine wp_world (Ev w g A c (Rs.toks T fin) (Rs.adv s) _) (E.setAt (s.at_ + 1) _ (by first | rfl | omega)) fun w5 E5 => ?_
           clear k0 k1 k2 k3 k4 kf hg E
           have E := E5
           clear E5
           obtain ⟨a, a0, a1, a2⟩ := E.c3 0 rfl
           obtain ⟨b, b0, b1, b2, b3, b4, b5, b6⟩ := E.c7 1 rfl
           have f1 := E.fz 1 rfl
           go_wp2
           obtain ⟨hb4, hnd⟩ := RNd.leaf 8 t.2.1 t.2.2 E 1 rfl rfl (HB.out.adv hlt) HE2.out
           exact bodyPost_ret (ret26 rfl _ _ rfl hb4) rfl hnd
          | false =>
           have HE2 : Hid (R = (Ps.nd 11 t.2.1 [] t.2.2, Rs.adv s)) := Hd (by rw [HE.out, if_neg (by rw [h4, hn]; decide), if_neg (by rw [hg, ha]; decide), if_neg (by rw [hy]; decide), if_neg (by rw [h5]; decide), if_neg (by rw [HQ1.out, x0, x1, x2]; decide), if_pos (by rw [HQ1.out]; rfl)])
           go_upto_region 15 with (first
            | (go_at_call 38; with_reducible refine (H4.out _ E.pa).mono ?_; rintro e wx ⟨rfl, hb⟩; have E' := E.below hb; clear E hb; have E := E'; clear E'; obtain ⟨a, a0, a1, a2⟩ := E.c3 0 rfl)
            | (go_at_call 97; with_reducible refine (HNG.out _ E.pa).mono ?_; rintro e wx ⟨rfl, hb⟩; have E' := E.below hb; clear E hb; have E := E'; clear E'; obtain ⟨a, a0, a1, a2⟩ := E.c3 0 rfl)
            | (go_at_call 38; with_reducible refine (HA3.out _ E.pa).mono ?_; rintro e wx ⟨rfl, hb⟩; have E' := E.below hb; clear E hb; have E := E'; clear E'; obtain ⟨a, a0, a1, a2⟩ := E.c3 0 rfl)
            | (go_at_call 38; with_reducible refine (HA1.out _ E.pa).mono ?_; rintro e wx ⟨rfl, hb⟩; have E' := E.below hb; clear E hb; have E := E'; clear E'; obtain ⟨a, a0, a1, a2⟩ := E.c3 0 rfl)
            | (go_at_call 38; with_reducible refine (HA2.out _ E.pa).mono ?_; rintro e wx ⟨rfl, hb⟩; have E' := E.below hb; clear E hb; have E := E'; clear E'; obtain ⟨a, a0, a1, a2⟩ := E.c3 0 rfl)
            | (go_at_call 38; with_reducible refine (H5.out _ E.pa).mono ?_; rintro e wx ⟨rfl, hb⟩; have E' := E.below hb; clear E hb; have E := E'; clear E'; obtain ⟨a, a0, a1, a2⟩ := E.c3 0 rfl)
            | (go_at_call 38; with_reducible refine (H1.out _ E.pa).mono ?_; rintro e wx ⟨rfl, hb⟩; have E' := E.below hb; clear E hb; have E := E'; clear E'; obtain ⟨a, a0, a1, a2⟩ := E.c3 0 rfl))
           obtain ⟨k0, k1, k2, k3, k4⟩ := E.pa.cells
           have kf := E.pa.frz 1
           have hg := E.pa.lt
           go_upto_region 16 with fail
           refine wp_world (Ev w g A c (Rs.toks T fin) (Rs.adv s) _) (E.setAt (s.at_ + 1) _ (by first | rfl | omega)) fun w5 E5 => ?_
           clear k0 k1 k2 k3 k4 kf hg E
           have E := E5
           clear E5
           obtain ⟨a, a0, a1, a2⟩ := E.c3 0 rfl
           obtain ⟨b, b0, b1, b2, b3, b4, b5, b6⟩ := E.c7 1 rfl
           have f1 := E.fz 1 rfl
           go_wp2
           obtain ⟨hb4, hnd⟩ := RNd.leaf 11 t.2.1 t.2.2 E 1 rfl rfl (HB.out.adv hlt) HE2.out
           exact bodyPost_ret (ret26 rfl _ _ rfl hb4) rfl hnd
       | false =>
        rw [h1] at H1
        cases h2 : Rs.is_ (Rs.toks T fin) 2 [] s with
        | true =>
         have hlt := Rs.is_lt (by decide) h2
         have HE2 : Hid (R = (Ps.nd 11 t.2.1 [] t.2.2, Rs.adv s)) := Hd (by rw [HE.out, if_neg (by rw [h4, hn]; decide), if_neg (by rw [hg, ha]; decide), if_neg (by rw [hy]; decide), if_neg (by rw [h5]; decide), if_neg (by rw [h1]; simp), if_pos (by rw [h1, h2]; simp)])
         rw [h2] at H2
         go_upto_region 15 with (first
          | (go_at_call 38; with_reducible refine (H4.out _ E.pa).mono ?_; rintro e wx ⟨rfl, hb⟩; have E' := E.below hb; clear E hb; have E := E'; clear E'; obtain ⟨a, a0, a1, a2⟩ := E.c3 0 rfl)
          | (go_at_call 97; with_reducible refine (HNG.out _ E.pa).mono ?_; rintro e wx ⟨rfl, hb⟩; have E' := E.below hb; clear E hb; have E := E'; clear E'; obtain ⟨a, a0, a1, a2⟩ := E.c3 0 rfl)
          | (go_at_call 38; with_reducible refine (HA3.out _ E.pa).mono ?_; rintro e wx ⟨rfl, hb⟩; have E' := E.below hb; clear E hb; have E := E'; clear E'; obtain ⟨a, a0, a1, a2⟩ := E.c3 0 rfl)
          | (go_at_call 38; with_reducible refine (HA1.out _ E.pa).mono ?_; rintro e wx ⟨rfl, hb⟩; have E' := E.below hb; clear E hb; have E := E'; clear E'; obtain ⟨a, a0, a1, a2⟩ := E.c3 0 rfl)
          | (go_at_call 38; with_reducible refine (HA2.out _ E.pa).mono ?_; rintro e wx ⟨rfl, hb⟩; have E' := E.below hb; clear E hb; have E := E'; clear E'; obtain ⟨a, a0, a1, a2⟩ := E.c3 0 rfl)
          | (go_at_call 38; with_reducible refine (H5.out _ E.pa).mono ?_; rintro e wx ⟨rfl, hb⟩; have E' := E.below hb; clear E hb; have E := E'; clear E'; obtain ⟨a, a0, a1, a2⟩ := E.c3 0 rfl)
          | (go_at_call 38; with_reducible refine (H1.out _ E.pa).mono ?_; rintro e wx ⟨rfl, hb⟩; have E' := E.below hb; clear E hb; have E := E'; clear E'; obtain ⟨a, a0, a1, a2⟩ := E.c3 0 rfl)
          | (go_at_call 38; with_reducible refine (H2.out _ E.pa).mono ?_; rintro e wx ⟨rfl, hb⟩; have E' := E.below hb; clear E hb; have E := E'; clear E'; obtain ⟨a, a0, a1, a2⟩ := E.c3 0 rfl))
         obtain ⟨k0, k1, k2, k3, k4⟩ := E.pa.cells
         have kf := E.pa.frz 1
         have hg := E.pa.lt
         go_upto_region 16 with fail
         refine wp_world (Ev w g A c (Rs.toks T fin) (Rs.adv s) _) (E.setAt (s.at_ + 1) _ (by first | rfl | omega)) fun w5 E5 => ?_
         clear k0 k1 k2 k3 k4 kf hg E
         have E := E5
         clear E5
         obtain ⟨a, a0, a1, a2⟩ := E.c3 0 rfl
         obtain ⟨b, b0, b1, b2, b3, b4, b5, b6⟩ := E.c7 1 rfl
         have f1 := E.fz 1 rfl
         go_wp2
         obtain ⟨hb4, hnd⟩ := RNd.leaf 11 t.2.1 t.2.2 E 1 rfl rfl (HB.out.adv hlt) HE2.out
         exact bodyPost_ret (ret26 rfl _ _ rfl hb4) rfl hnd
        | false =>
         rw [h2] at H2
         cases h3 : Rs.is_ (Rs.toks T fin) 3 [] s with
         | true =>
          have hlt := Rs.is_lt (by decide) h3
          have HE2 : Hid (R = (Ps.nd 11 t.2.1 [] t.2.2, Rs.adv s)) := Hd (by rw [HE.out, if_neg (by rw [h4, hn]; decide), if_neg (by rw [hg, ha]; decide), if_neg (by rw [hy]; decide), if_neg (by rw [h5]; decide), if_neg (by rw [h1]; simp), if_pos (by rw [h1, h2, h3]; simp)])
          rw [h3] at H3
          go_upto_region 15 with (first
           | (go_at_call 38; with_reducible refine (H4.out _ E.pa).mono ?_; rintro e wx ⟨rfl, hb⟩; have E' := E.below hb; clear E hb; have E := E'; clear E'; obtain ⟨a, a0, a1, a2⟩ := E.c3 0 rfl)
           | (go_at_call 97; with_reducible refine (HNG.out _ E.pa).mono ?_; rintro e wx ⟨rfl, hb⟩; have E' := E.below hb; clear E hb; have E := E'; clear E'; obtain ⟨a, a0, a1, a2⟩ := E.c3 0 rfl)
           | (go_at_call 38; with_reducible refine (HA3.out _ E.pa).mono ?_; rintro e wx ⟨rfl, hb⟩; have E' := E.below hb; clear E hb; have E := E'; clear E'; obtain ⟨a, a0, a1, a2⟩ := E.c3 0 rfl)
           | (go_at_call 38; with_reducible refine (HA1.out _ E.pa).mono ?_; rintro e wx ⟨rfl, hb⟩; have E' := E.below hb; clear E hb; have E := E'; clear E'; obtain ⟨a, a0, a1, a2⟩ := E.c3 0 rfl)
           | (go_at_call 38; with_reducible refine (HA2.out _ E.pa).mono ?_; rintro e wx ⟨rfl, hb⟩; have E' := E.below hb; clear E hb; have E := E'; clear E'; obtain ⟨a, a0, a1, a2⟩ := E.c3 0 rfl)
           | (go_at_call 38; with_reducible refine (H5.out _ E.pa).mono ?_; rintro e wx ⟨rfl, hb⟩; have E' := E.below hb; clear E hb; have E := E'; clear E'; obtain ⟨a, a0, a1, a2⟩ := E.c3 0 rfl)
           | (go_at_call 38; with_reducible refine (H1.out _ E.pa).mono ?_; rintro e wx ⟨rfl, hb⟩; have E' := E.below hb; clear E hb; have E := E'; clear E'; obtain ⟨a, a0, a1, a2⟩ := E.c3 0 rfl)
           | (go_at_call 38; with_reducible refine (H2.out _ E.pa).mono ?_; rintro e wx ⟨rfl, hb⟩; have E' := E.below hb; clear E hb; have E := E'; clear E'; obtain ⟨a, a0, a1, a2⟩ := E.c3 0 rfl)
           | (go_at_call 38; with_reducible refine (H3.out _ E.pa).mono ?_; rintro e wx ⟨rfl, hb⟩; have E' := E.below hb; clear E hb; have E := E'; clear E'; obtain ⟨a, a0, a1, a2⟩ := E.c3 0 rfl))
          obtain ⟨k0, k1, k2, k3, k4⟩ := E.pa.cells
          have kf := E.pa.frz 1
          have hg := E.pa.lt
          go_upto_region 16 with fail
          refine wp_world (Ev w g A c (Rs.toks T fin) (Rs.adv s) _) (E.setAt (s.at_ + 1) _ (by first | rfl | omega)) fun w5 E5 => ?_
          clear k0 k1 k2 k3 k4 kf hg E
          have E := E5
          clear E5
          obtain ⟨a, a0, a1, a2⟩ := E.c3 0 rfl
          obtain ⟨b, b0, b1, b2, b3, b4, b5, b6⟩ := E.c7 1 rfl
          have f1 := E.fz 1 rfl
          go_wp2
          obtain ⟨hb4, hnd⟩ := RNd.leaf 11 t.2.1 t.2.2 E 1 rfl rfl (HB.out.adv hlt) HE2.out
          exact bodyPost_ret (ret26 rfl _ _ rfl hb4) rfl hnd
         | false =>
          rw [h3] at H3
          cases h6 : Rs.is_ (Rs.toks T fin) 6 [] s with
          | true =>
           have hlt := Rs.is_lt (by decide) h6
           have HE2 : Hid (R = (Ps.nd 11 t.2.1 [] t.2.2, Rs.adv s)) := Hd (by rw [HE.out, if_neg (by rw [h4, hn]; decide), if_neg (by rw [hg, ha]; decide), if_neg (by rw [hy]; decide), if_neg (by rw [h5]; decide), if_neg (by rw [h1]; simp), if_pos (by rw [h1, h2, h3, h6]; simp)])
           rw [h6] at H6
           go_upto_region 15 with (first
            | (go_at_call 38; with_reducible refine (H4.out _ E.pa).mono ?_; rintro e wx ⟨rfl, hb⟩; have E' := E.below hb; clear E hb; have E := E'; clear E'; obtain ⟨a, a0, a1, a2⟩ := E.c3 0 rfl)
            | (go_at_call 97; with_reducible refine (HNG.out _ E.pa).mono ?_; rintro e wx ⟨rfl, hb⟩; have E' := E.below hb; clear E hb; have E := E'; clear E'; obtain ⟨a, a0, a1, a2⟩ := E.c3 0 rfl)
            | (go_at_call 38; with_reducible refine (HA3.out _ E.pa).mono ?_; rintro e wx ⟨rfl, hb⟩; have E' := E.below hb; clear E hb; have E := E'; clear E'; obtain ⟨a, a0, a1, a2⟩ := E.c3 0 rfl)
            | (go_at_call 38; with_reducible refine (HA1.out _ E.pa).mono ?_; rintro e wx ⟨rfl, hb⟩; have E' := E.below hb; clear E hb; have E := E'; clear E'; obtain ⟨a, a0, a1, a2⟩ := E.c3 0 rfl)
            | (go_at_call 38; with_reducible refine (HA2.out _ E.pa).mono ?_; rintro e wx ⟨rfl, hb⟩; have E' := E.below hb; clear E hb; have E := E'; clear E'; obtain ⟨a, a0, a1, a2⟩ := E.c3 0 rfl)
            | (go_at_call 38; with_reducible refine (H5.out _ E.pa).mono ?_; rintro e wx ⟨rfl, hb⟩; have E' := E.below hb; clear E hb; have E := E'; clear E'; obtain ⟨a, a0, a1, a2⟩ := E.c3 0 rfl)
            | (go_at_call 38; with_reducible refine (H1.out _ E.pa).mono ?_; rintro e wx ⟨rfl, hb⟩; have E' := E.below hb; clear E hb; have E := E'; clear E'; obtain ⟨a, a0, a1, a2⟩ := E.c3 0 rfl)
            | (go_at_call 38; with_reducible refine (H2.out _ E.pa).mono ?_; rintro e wx ⟨rfl, hb⟩; have E' := E.below hb; clear E hb; have E := E'; clear E'; obtain ⟨a, a0, a1, a2⟩ := E.c3 0 rfl)
            | (go_at_call 38; with_reducible refine (H3.out _ E.pa).mono ?_; rintro e wx ⟨rfl, hb⟩; have E' := E.below hb; clear E hb; have E := E'; clear E'; obtain ⟨a, a0, a1, a2⟩ := E.c3 0 rfl)
            | (go_at_call 38; with_reducible refine (H6.out _ E.pa).mono ?_; rintro e wx ⟨rfl, hb⟩; have E' := E.below hb; clear E hb; have E := E'; clear E'; obtain ⟨a, a0, a1, a2⟩ := E.c3 0 rfl))
           obtain ⟨k0, k1, k2, k3, k4⟩ := E.pa.cells
           have kf := E.pa.frz 1
           have hg := E.pa.lt
           go_upto_region 16 with fail
           refine wp_world (Ev w g A c (Rs.toks T fin) (Rs.adv s) _) (E.setAt (s.at_ + 1) _ (by first | rfl | omega)) fun w5 E5 => ?_
           clear k0 k1 k2 k3 k4 kf hg E
           have E := E5
           clear E5
           obtain ⟨a, a0, a1, a2⟩ := E.c3 0 rfl
           obtain ⟨b, b0, b1, b2, b3, b4, b5, b6⟩ := E.c7 1 rfl
           have f1 := E.fz 1 rfl
           go_wp2
           obtain ⟨hb4, hnd⟩ := RNd.leaf 11 t.2.1 t.2.2 E 1 rfl rfl (HB.out.adv hlt) HE2.out
           exact bodyPost_ret (ret26 rfl _ _ rfl hb4) rfl hnd
          | false =>
           rw [h6] at H6
           cases h7 : Rs.is_ (Rs.toks T fin) 7 [124] s with
           | true =>
            have hlt := Rs.is_lt (by decide) h7
            have HE2 : Hid (R = (Ps.nd 11 t.2.1 [] t.2.2, Rs.adv s)) := Hd (by rw [HE.out, if_neg (by rw [h4, hn]; decide), if_neg (by rw [hg, ha]; decide), if_neg (by rw [hy]; decide), if_neg (by rw [h5]; decide), if_neg (by rw [h1]; simp), if_pos (by rw [h1, h2, h3, h6, h7]; simp)])
            rw [h7] at HA6
            go_upto_region 15 with (first
             | (go_at_call 38; with_reducible refine (H4.out _ E.pa).mono ?_; rintro e wx ⟨rfl, hb⟩; have E' := E.below hb; clear E hb; have E := E'; clear E'; obtain ⟨a, a0, a1, a2⟩ := E.c3 0 rfl)
             | (go_at_call 97; with_reducible refine (HNG.out _ E.pa).mono ?_; rintro e wx ⟨rfl, hb⟩; have E' := E.below hb; clear E hb; have E := E'; clear E'; obtain ⟨a, a0, a1, a2⟩ := E.c3 0 rfl)
             | (go_at_call 38; with_reducible refine (HA3.out _ E.pa).mono ?_; rintro e wx ⟨rfl, hb⟩; have E' := E.below hb; clear E hb; have E := E'; clear E'; obtain ⟨a, a0, a1, a2⟩ := E.c3 0 rfl)
             | (go_at_call 38; with_reducible refine (HA1.out _ E.pa).mono ?_; rintro e wx ⟨rfl, hb⟩; have E' := E.below hb; clear E hb; have E := E'; clear E'; obtain ⟨a, a0, a1, a2⟩ := E.c3 0 rfl)
             | (go_at_call 38; with_reducible refine (HA2.out _ E.pa).mono ?_; rintro e wx ⟨rfl, hb⟩; have E' := E.below hb; clear E hb; have E := E'; clear E'; obtain ⟨a, a0, a1, a2⟩ := E.c3 0 rfl)
             | (go_at_call 38; with_reducible refine (H5.out _ E.pa).mono ?_; rintro e wx ⟨rfl, hb⟩; have E' := E.below hb; clear E hb; have E := E'; clear E'; obtain ⟨a, a0, a1, a2⟩ := E.c3 0 rfl)
             | (go_at_call 38; with_reducible refine (H1.out _ E.pa).mono ?_; rintro e wx ⟨rfl, hb⟩; have E' := E.below hb; clear E hb; have E := E'; clear E'; obtain ⟨a, a0, a1, a2⟩ := E.c3 0 rfl)
             | (go_at_call 38; with_reducible refine (H2.out _ E.pa).mono ?_; rintro e wx ⟨rfl, hb⟩; have E' := E.below hb; clear E hb; have E := E'; clear E'; obtain ⟨a, a0, a1, a2⟩ := E.c3 0 rfl)
             | (go_at_call 38; with_reducible refine (H3.out _ E.pa).mono ?_; rintro e wx ⟨rfl, hb⟩; have E' := E.below hb; clear E hb; have E := E'; clear E'; obtain ⟨a, a0, a1, a2⟩ := E.c3 0 rfl)
             | (go_at_call 38; with_reducible refine (H6.out _ E.pa).mono ?_; rintro e wx ⟨rfl, hb⟩; have E' := E.below hb; clear E hb; have E := E'; clear E'; obtain ⟨a, a0, a1, a2⟩ := E.c3 0 rfl)
             | (go_at_call 38; with_reducible refine (HA6.out _ E.pa).mono ?_; rintro e wx ⟨rfl, hb⟩; have E' := E.below hb; clear E hb; have E := E'; clear E'; obtain ⟨a, a0, a1, a2⟩ := E.c3 0 rfl))
            obtain ⟨k0, k1, k2, k3, k4⟩ := E.pa.cells
            have kf := E.pa.frz 1
            have hg := E.pa.lt
            go_upto_region 16 with fail
            refine wp_world (Ev w g A c (Rs.toks T fin) (Rs.adv s) _) (E.setAt (s.at_ + 1) _ (by first | rfl | omega)) fun w5 E5 => ?_
            clear k0 k1 k2 k3 k4 kf hg E
            have E := E5
            clear E5
            obtain ⟨a, a0, a1, a2⟩ := E.c3 0 rfl
            obtain ⟨b, b0, b1, b2, b3, b4, b5, b6⟩ := E.c7 1 rfl
            have f1 := E.fz 1 rfl
            go_wp2
            obtain ⟨hb4, hnd⟩ := RNd.leaf 11 t.2.1 t.2.2 E 1 rfl rfl (HB.out.adv hlt) HE2.out
            exact bodyPost_ret (ret26 rfl _ _ rfl hb4) rfl hnd
           | false =>
            rw [h7] at HA6
            have HE2 : Hid (R = (Ps.Tr.zero, Rs.fail s 124 t.2.2)) := Hd (by rw [HE.out, if_neg (by rw [h4, hn]; decide), if_neg (by rw [hg, ha]; decide), if_neg (by rw [hy]; decide), if_neg (by rw [h5]; decide), if_neg (by rw [h1]; simp), if_neg (by rw [h1, h2, h3, h6, h7]; decide)])
            go_upto_region 17 with (first
             | (go_at_call 38; with_reducible refine (H4.out _ E.pa).mono ?_; rintro e wx ⟨rfl, hb⟩; have E' := E.below hb; clear E hb; have E := E'; clear E'; obtain ⟨a, a0, a1, a2⟩ := E.c3 0 rfl)
             | (go_at_call 97; with_reducible refine (HNG.out _ E.pa).mono ?_; rintro e wx ⟨rfl, hb⟩; have E' := E.below hb; clear E hb; have E := E'; clear E'; obtain ⟨a, a0, a1, a2⟩ := E.c3 0 rfl)
             | (go_at_call 38; with_reducible refine (HA3.out _ E.pa).mono ?_; rintro e wx ⟨rfl, hb⟩; have E' := E.below hb; clear E hb; have E := E'; clear E'; obtain ⟨a, a0, a1, a2⟩ := E.c3 0 rfl)
             | (go_at_call 38; with_reducible refine (HA1.out _ E.pa).mono ?_; rintro e wx ⟨rfl, hb⟩; have E' := E.below hb; clear E hb; have E := E'; clear E'; obtain ⟨a, a0, a1, a2⟩ := E.c3 0 rfl)
             | (go_at_call 38; with_reducible refine (HA2.out _ E.pa).mono ?_; rintro e wx ⟨rfl, hb⟩; have E' := E.below hb; clear E hb; have E := E'; clear E'; obtain ⟨a, a0, a1, a2⟩ := E.c3 0 rfl)
             | (go_at_call 38; with_reducible refine (H5.out _ E.pa).mono ?_; rintro e wx ⟨rfl, hb⟩; have E' := E.below hb; clear E hb; have E := E'; clear E'; obtain ⟨a, a0, a1, a2⟩ := E.c3 0 rfl)
             | (go_at_call 38; with_reducible refine (H1.out _ E.pa).mono ?_; rintro e wx ⟨rfl, hb⟩; have E' := E.below hb; clear E hb; have E := E'; clear E'; obtain ⟨a, a0, a1, a2⟩ := E.c3 0 rfl)
             | (go_at_call 38; with_reducible refine (H2.out _ E.pa).mono ?_; rintro e wx ⟨rfl, hb⟩; have E' := E.below hb; clear E hb; have E := E'; clear E'; obtain ⟨a, a0, a1, a2⟩ := E.c3 0 rfl)
             | (go_at_call 38; with_reducible refine (H3.out _ E.pa).mono ?_; rintro e wx ⟨rfl, hb⟩; have E' := E.below hb; clear E hb; have E := E'; clear E'; obtain ⟨a, a0, a1, a2⟩ := E.c3 0 rfl)
             | (go_at_call 38; with_reducible refine (H6.out _ E.pa).mono ?_; rintro e wx ⟨rfl, hb⟩; have E' := E.below hb; clear E hb; have E := E'; clear E'; obtain ⟨a, a0, a1, a2⟩ := E.c3 0 rfl)
             | (go_at_call 38; with_reducible refine (HA6.out _ E.pa).mono ?_; rintro e wx ⟨rfl, hb⟩; have E' := E.below hb; clear E hb; have E := E'; clear E'; obtain ⟨a, a0, a1, a2⟩ := E.c3 0 rfl))
            obtain ⟨a, a0, a1, a2⟩ := E.c3 0 rfl
            go_upto_region 18 with (go_at_call 42; refine (HF.out _ E.pa).mono ?_; rintro e wx ⟨rfl, hp⟩; have E' := E.call hp; clear E hp; have E := E'; clear E')
            clear a a0 a1 a2
            obtain ⟨b, b0, b1, b2, b3, b4, b5, b6⟩ := E.c7 1 rfl
            have f1 := E.fz 1 rfl
            go_wp2
            obtain ⟨hb4, hnd⟩ := RNd.zero E 1 rfl rfl (HB.out.mv (Rs.mv_fail _ _ _ _)) HE2.out
            exact bodyPost_ret (ret26 rfl _ _ rfl hb4) rfl hnd
end Go.Proofs.YtbnlnndeajjenaaGreat
