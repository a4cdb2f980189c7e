/-
  Parts RxI of the proof. No statement of the seat is proved here.
-/
import Derived.Test.YtbnlnndeajjenaaGreatP18
set_option maxHeartbeats 4000000
namespace Go.Proofs.YtbnlnndeajjenaaGreat
open Go.RowKit
section
variable {w W : World} {g c fin : Nat} {A : Option Addr} {T : List Lx.Tk} {s1 : Rs.RS} {Ls : List Lc} {tr : Ps.Tr} {R : Ps.Tr × Rs.RS} {cs0 : List Value}
theorem RNd.put {x0 x1 x2 x3 x4 x5 x6 : Value} {lo : Nat} (E : Ev w g A c (Rs.toks T fin) s1 Ls W) (i : Nat) (hi : Ls[i]? = some ⟨w.heap.size, 26, cs0⟩) (hc : cs0.length = 7) (ht : TrM W lo (fun _ => False) [x0, x1, x2, x3, x4, x5, x6] tr) (hlo : w.heap.size < lo) (hb : Rs.Bd T s1) (hR : R = (tr, s1)) :
  Blk (((((((W.setCell ⟨w.heap.size, 0, none⟩ x0).setCell ⟨w.heap.size, 1, none⟩ x1).setCell ⟨w.heap.size, 2, none⟩ x2).setCell ⟨w.heap.size, 3, none⟩ x3).setCell ⟨w.heap.size, 4, none⟩ x4).setCell ⟨w.heap.size, 5, none⟩ x5).setCell ⟨w.heap.size, 6, none⟩ x6) w.heap.size 26 #[x0, x1, x2, x3, x4, x5, x6] ∧
  RNd w g A c T fin w.heap.size R (.returned (.agg #[x0, x1, x2, x3, x4, x5, x6])) (((((((W.setCell ⟨w.heap.size, 0, none⟩ x0).setCell ⟨w.heap.size, 1, none⟩ x1).setCell ⟨w.heap.size, 2, none⟩ x2).setCell ⟨w.heap.size, 3, none⟩ x3).setCell ⟨w.heap.size, 4, none⟩ x4).setCell ⟨w.heap.size, 5, none⟩ x5).setCell ⟨w.heap.size, 6, none⟩ x6) := by
 subst hR
 match cs0, hc with
 | [y0, y1, y2, y3, y4, y5, y6], _ =>
  have E4 := E.put7 i hi x0 x1 x2 x3 x4 x5 x6
  have hil := (List.getElem?_eq_some_iff.1 hi).1
  refine ⟨E4.blk i (by rw [List.getElem?_set, if_pos rfl, if_pos hil]), _, rfl, E4.pp, hb, ?_⟩
  exact TrM.swap ((TrM.low (TrM.swap ht (X' := fun k => k = w.heap.size) fun k h1 _ e => by omega) (Nat.le_of_lt hlo)).store (chg_set7 _ _ _ _ _ _ _ _ _) fun k e => e) (fun k _ _ e => e.elim)
theorem RNd.leaf (kind : Nat) (name : Lx.Txt) (place : Nat) (E : Ev w g A c (Rs.toks T fin) s1 Ls W) (i : Nat) (hi : Ls[i]? = some ⟨w.heap.size, 26, cs0⟩) (hc : cs0.length = 7) (hb : Rs.Bd T s1) (hR : R = (Ps.nd kind name [] place, s1)) :
  Blk (((((((W.setCell ⟨w.heap.size, 0, none⟩ (.int .i64 (kind : Int))).setCell ⟨w.heap.size, 1, none⟩ (.string ⟨name.toArray⟩)).setCell ⟨w.heap.size, 2, none⟩ (.slice none 0 0)).setCell ⟨w.heap.size, 3, none⟩ (.slice none 0 0)).setCell ⟨w.heap.size, 4, none⟩ (.slice none 0 0)).setCell ⟨w.heap.size, 5, none⟩ (.int .i64 0)).setCell ⟨w.heap.size, 6, none⟩ (.int .i64 (place : Int))) w.heap.size 26 #[.int .i64 (kind : Int), .string ⟨name.toArray⟩, .slice none 0 0, .slice none 0 0, .slice none 0 0, .int .i64 0, .int .i64 (place : Int)] ∧
  RNd w g A c T fin w.heap.size R (.returned (.agg #[.int .i64 (kind : Int), .string ⟨name.toArray⟩, .slice none 0 0, .slice none 0 0, .slice none 0 0, .int .i64 0, .int .i64 (place : Int)])) (((((((W.setCell ⟨w.heap.size, 0, none⟩ (.int .i64 (kind : Int))).setCell ⟨w.heap.size, 1, none⟩ (.string ⟨name.toArray⟩)).setCell ⟨w.heap.size, 2, none⟩ (.slice none 0 0)).setCell ⟨w.heap.size, 3, none⟩ (.slice none 0 0)).setCell ⟨w.heap.size, 4, none⟩ (.slice none 0 0)).setCell ⟨w.heap.size, 5, none⟩ (.int .i64 0)).setCell ⟨w.heap.size, 6, none⟩ (.int .i64 (place : Int))) :=
 RNd.put E i hi hc (TrM.leaf W (w.heap.size + 1) _ kind name place) (Nat.lt_succ_self _) hb hR
theorem RNd.zero (E : Ev w g A c (Rs.toks T fin) s1 Ls W) (i : Nat) (hi : Ls[i]? = some ⟨w.heap.size, 26, cs0⟩) (hc : cs0.length = 7) (hb : Rs.Bd T s1) (hR : R = (Ps.Tr.zero, s1)) :
  Blk (((((((W.setCell ⟨w.heap.size, 0, none⟩ (.int .i64 0)).setCell ⟨w.heap.size, 1, none⟩ (.string ⟨#[]⟩)).setCell ⟨w.heap.size, 2, none⟩ (.slice none 0 0)).setCell ⟨w.heap.size, 3, none⟩ (.slice none 0 0)).setCell ⟨w.heap.size, 4, none⟩ (.slice none 0 0)).setCell ⟨w.heap.size, 5, none⟩ (.int .i64 0)).setCell ⟨w.heap.size, 6, none⟩ (.int .i64 0)) w.heap.size 26 #[.int .i64 0, .string ⟨#[]⟩, .slice none 0 0, .slice none 0 0, .slice none 0 0, .int .i64 0, .int .i64 0] ∧
  RNd w g A c T fin w.heap.size R (.returned (.agg #[.int .i64 0, .string ⟨#[]⟩, .slice none 0 0, .slice none 0 0, .slice none 0 0, .int .i64 0, .int .i64 0])) (((((((W.setCell ⟨w.heap.size, 0, none⟩ (.int .i64 0)).setCell ⟨w.heap.size, 1, none⟩ (.string ⟨#[]⟩)).setCell ⟨w.heap.size, 2, none⟩ (.slice none 0 0)).setCell ⟨w.heap.size, 3, none⟩ (.slice none 0 0)).setCell ⟨w.heap.size, 4, none⟩ (.slice none 0 0)).setCell ⟨w.heap.size, 5, none⟩ (.int .i64 0)).setCell ⟨w.heap.size, 6, none⟩ (.int .i64 0)) :=
 RNd.put E i hi hc (TrM.zero W (w.heap.size + 1) _) (Nat.lt_succ_self _) hb hR
end
set_option maxRecDepth 20000 in
theorem rprim_any {g c fin F : Nat} {A : Option Addr} {T : List Lx.Tk} (hT : Ps.Fits 65536 T) (hfin : fin ≤ 65536) (ih : ∀ f, f < F → RWAll g A c T fin f) (s : Rs.RS) (w : World) (h : RA w g A c (Rs.toks T fin) s) (hb : Rs.Bd T s) (hk : Rs.bad s = false) (hf : Rs.rem T s + 3 ≤ F) :
  Calls Tryz.prog 94 #[.pointer (some ⟨g, 0, none⟩)] w (RNd w g A c T fin w.heap.size (Rs.prim (Rs.toks T fin) F s)) := by
 have hTl := hT.len
 have hgb := h.lt
 have hs := hb.le hTl
 have hsa := hb.at_
 have E0 := (Ev.start h).box 26 [.int .i64 0, .string ⟨#[]⟩, .slice none 0 0, .slice none 0 0, .slice none 0 0, .int .i64 0, .int .i64 0]
 obtain ⟨F', rfl⟩ : ∃ F', F = F' + 1 := ⟨F - 1, by omega⟩
 obtain ⟨t, ht⟩ : ∃ t, Rs.tok (Rs.toks T fin) s = t := ⟨_, rfl⟩
 obtain ⟨R, hR⟩ : ∃ R, Rs.prim (Rs.toks T fin) (F' + 1) s = R := ⟨_, rfl⟩
 have HE : Hid (R = if Rs.is_ (Rs.toks T fin) 1 [] s then (Ps.nd 8 t.2.1 [] t.2.2, Rs.adv s) else if Rs.is_ (Rs.toks T fin) 4 [] s || Rs.neg (Rs.toks T fin) s then Rs.number (Rs.toks T fin) s else if Rs.is_ (Rs.toks T fin) 5 [] s then (Ps.nd 10 t.2.1 [] t.2.2, Rs.adv s) else if Rs.is_ (Rs.toks T fin) 6 [] s then (Ps.nd 11 t.2.1 [] t.2.2, Rs.adv s) else if Rs.is_ (Rs.toks T fin) 7 [35, 40] s then Rs.arr (Rs.toks T fin) F' s else if Rs.is_ (Rs.toks T fin) 7 [35, 91] s then Rs.bytes (Rs.toks T fin) s else if Rs.is_ (Rs.toks T fin) 7 [40] s then ((Rs.expr (Rs.toks T fin) F' (Rs.opn (Rs.toks T fin) s)).1, Rs.shut (Rs.toks T fin) [41] (Rs.expr (Rs.toks T fin) F' (Rs.opn (Rs.toks T fin) s)).2) else if Rs.is_ (Rs.toks T fin) 7 [123] s then (Ps.nd 14 [] (Rs.braL (Rs.toks T fin) F' [] (Rs.opn (Rs.toks T fin) s)).1 t.2.2, Rs.shut (Rs.toks T fin) [125] (Rs.braL (Rs.toks T fin) F' [] (Rs.opn (Rs.toks T fin) s)).2) else if Rs.is_ (Rs.toks T fin) 7 [91] s then Rs.blk (Rs.toks T fin) F' s else (Ps.Tr.zero, Rs.fail s 124 t.2.2)) := Hd (by rw [← hR, Rs.prim, if_neg (by rw [hk]; decide), ht])
 have HTK := Hd fun (W : World) (h : RA W g A c (Rs.toks T fin) s) => rtok_any h (hb).lt
 have HTE := Hd ht
 rw [ht] at HTK
 have HBD := Hd fun (W : World) (h : RA W g A c (Rs.toks T fin) s) => rbad_any h
 rw [hk] at HBD
 have H1 := Hd fun (W : World) (h : RA W g A c (Rs.toks T fin) s) => ris_z h (hb).lt 1 [] (z := 1) rfl (xs := #[]) rfl
 have H4 := Hd fun (W : World) (h : RA W g A c (Rs.toks T fin) s) => ris_z h (hb).lt 4 [] (z := 4) rfl (xs := #[]) rfl
 have H5 := Hd fun (W : World) (h : RA W g A c (Rs.toks T fin) s) => ris_z h (hb).lt 5 [] (z := 5) rfl (xs := #[]) rfl
 have H6 := Hd fun (W : World) (h : RA W g A c (Rs.toks T fin) s) => ris_z h (hb).lt 6 [] (z := 6) rfl (xs := #[]) rfl
 have HA1 := Hd fun (W : World) (h : RA W g A c (Rs.toks T fin) s) => ris_z h (hb).lt 7 [35, 40] (z := 7) rfl (xs := #[35, 40]) rfl
 have HA2 := Hd fun (W : World) (h : RA W g A c (Rs.toks T fin) s) => ris_z h (hb).lt 7 [35, 91] (z := 7) rfl (xs := #[35, 91]) rfl
 have HA3 := Hd fun (W : World) (h : RA W g A c (Rs.toks T fin) s) => ris_z h (hb).lt 7 [40] (z := 7) rfl (xs := #[40]) rfl
 have HA4 := Hd fun (W : World) (h : RA W g A c (Rs.toks T fin) s) => ris_z h (hb).lt 7 [123] (z := 7) rfl (xs := #[123]) rfl
 have HA5 := Hd fun (W : World) (h : RA W g A c (Rs.toks T fin) s) => ris_z h (hb).lt 7 [91] (z := 7) rfl (xs := #[91]) rfl
 have HNG := Hd fun (W : World) (h : RA W g A c (Rs.toks T fin) s) => rneg_any h (by rw [Ps.toks_len]; omega) hs (tok_place hT hfin s)
 have HNU := Hd fun (W : World) (h : RA W g A c (Rs.toks T fin) s) => rnum_any h (by rw [Ps.toks_len]; omega) hs (tok_place hT hfin s) (tok1_txt hT s)
 have HF := Hd fun (W : World) (h : RA W g A c (Rs.toks T fin) s) => rfail_any h 124 t.2.2 (by decide)
 have HB := Hd hb
 rw [hR]
 have IH := Hd ih
 have HE0 := Hd E0
 clear h hb ih hR ht E0
 go_enter Tryz.func94, Tryz.ntmps94
 go_upto_block 0 with (go_at_call 37; refine (HTK.out _ HE0.out.pa).mono ?_; rintro e w1 ⟨rfl, hp⟩; have HE1 := Hd (HE0.out.below hp); clear hp)
 refine wp_world (fun W => Ev w g A c (Rs.toks T fin) s _ W) (HE1.out.box 40 [_, _, _]) fun w2 E => ?_
 clear HE0 HE1 HTK
 cases h1 : Rs.is_ (Rs.toks T fin) 1 [] s with
 | true =>
  have hlt := Rs.is_lt (by decide) h1
  have HE2 : Hid (R = (Ps.nd 8 t.2.1 [] t.2.2, Rs.adv s)) := Hd (by rw [HE.out, if_pos (by exact h1)])
  rw [h1] at H1
  go_upto_region 5 with (first
   | (go_at_call 26; with_reducible refine (HBD.out _ E.pa).mono ?_; rintro e wx ⟨rfl, rfl⟩)
   | (go_at_call 38; with_reducible refine (H1.out _ E.pa).mono ?_; rintro e wx ⟨rfl, hb⟩; have E' := E.below hb; clear E hb; have E := E'; clear E'))
  obtain ⟨k0, k1, k2, k3, k4⟩ := E.pa.cells
  have kf := E.pa.frz 1
  have hg := E.pa.lt
  go_upto_region 6 with fail
  refine wp_world (Ev w g A c (Rs.toks T fin) (Rs.adv s) _) (E.setAt (s.at_ + 1) _ (by first | rfl | omega)) fun w5 E5 => ?_
  clear k0 k1 k2 k3 k4 kf hg E
  have E := E5
  clear E5
  obtain ⟨a, a0, a1, a2⟩ := E.c3 0 rfl
  obtain ⟨b, b0, b1, b2, b3, b4, b5, b6⟩ := E.c7 1 rfl
  have f1 := E.fz 1 rfl
  go_wp2
  obtain ⟨hb4, hnd⟩ := RNd.leaf 8 t.2.1 t.2.2 E 1 rfl rfl (HB.out.adv hlt) HE2.out
  exact bodyPost_ret (ret26 rfl _ _ rfl hb4) rfl hnd
 | false =>
  rw [h1] at H1
  cases h4 : Rs.is_ (Rs.toks T fin) 4 [] s with
  | true =>
   have HE2 : Hid (R = Rs.number (Rs.toks T fin) s) := Hd (by rw [HE.out, if_neg (by rw [h1]; decide), if_pos (by rw [h4]; rfl)])
   have HBQ := Hd (HB.out.mv (Rs.mv_number (by rw [h4]; rfl)))
   rw [h4] at H4
   go_upto_region 8 with (first
    | (go_at_call 26; with_reducible refine (HBD.out _ E.pa).mono ?_; rintro e wx ⟨rfl, rfl⟩)
    | (go_at_call 38; with_reducible refine (H1.out _ E.pa).mono ?_; rintro e wx ⟨rfl, hb⟩; have E' := E.below hb; clear E hb; have E := E'; clear E')
    | (go_at_call 38; with_reducible refine (H4.out _ E.pa).mono ?_; rintro e wx ⟨rfl, hb⟩; have E' := E.below hb; clear E hb; have E := E'; clear E'))
   go_wp2_with (go_at_call 98; refine (HNU.out _ E.pa).mono ?_; rintro e wx ⟨cs, rfl, hp, ht⟩; have hlo := (E.blk 1 rfl).lt; have E' := E.call hp; have HT := Hd ht; obtain ⟨p0, p1, C1, o1, e1, C2, o2, e2, C3, o3, e3, p5, p6, rfl⟩ := ht.form; clear E hp ht; have E := E'; clear E'; obtain ⟨y, y0, y1, y2, y3, y4, y5, y6⟩ := E.c7 1 rfl; have f2 := E.fz 1 rfl)
   obtain ⟨hb4, hnd⟩ := RNd.put E 1 rfl rfl HT.out hlo HBQ.out HE2.out
   exact bodyPost_ret (ret26 rfl _ _ rfl hb4) rfl hnd
  | false =>
   rw [h4] at H4
   cases hn : Rs.neg (Rs.toks T fin) s with
   | true =>
    have HE2 : Hid (R = Rs.number (Rs.toks T fin) s) := Hd (by rw [HE.out, if_neg (by rw [h1]; decide), if_pos (by rw [h4, hn]; rfl)])
    have HBQ := Hd (HB.out.mv (Rs.mv_number (by rw [h4, hn]; rfl)))
    rw [hn] at HNG
    go_upto_region 8 with (first
     | (go_at_call 26; with_reducible refine (HBD.out _ E.pa).mono ?_; rintro e wx ⟨rfl, rfl⟩)
     | (go_at_call 38; with_reducible refine (H1.out _ E.pa).mono ?_; rintro e wx ⟨rfl, hb⟩; have E' := E.below hb; clear E hb; have E := E'; clear E')
     | (go_at_call 38; with_reducible refine (H4.out _ E.pa).mono ?_; rintro e wx ⟨rfl, hb⟩; have E' := E.below hb; clear E hb; have E := E'; clear E')
     | (go_at_call 97; with_reducible refine (HNG.out _ E.pa).mono ?_; rintro e wx ⟨rfl, hb⟩; have E' := E.below hb; clear E hb; have E := E'; clear E'))
    go_wp2_with (go_at_call 98; refine (HNU.out _ E.pa).mono ?_; rintro e wx ⟨cs, rfl, hp, ht⟩; have hlo := (E.blk 1 rfl).lt; have E' := E.call hp; have HT := Hd ht; obtain ⟨p0, p1, C1, o1, e1, C2, o2, e2, C3, o3, e3, p5, p6, rfl⟩ := ht.form; clear E hp ht; have E := E'; clear E'; obtain ⟨y, y0, y1, y2, y3, y4, y5, y6⟩ := E.c7 1 rfl; have f2 := E.fz 1 rfl)
    obtain ⟨hb4, hnd⟩ := RNd.put E 1 rfl rfl HT.out hlo HBQ.out HE2.out
    exact bodyPost_ret (ret26 rfl _ _ rfl hb4) rfl hnd
   | false =>
    rw [hn] at HNG
    cases h5 : Rs.is_ (Rs.toks T fin) 5 [] s with
    | true =>
     have hlt := Rs.is_lt (by decide) h5
     have HE2 : Hid (R = (Ps.nd 10 t.2.1 [] t.2.2, Rs.adv s)) := Hd (by rw [HE.out, if_neg (by rw [h1]; decide), if_neg (by rw [h4, hn]; decide), if_pos (by exact h5)])
     rw [h5] at H5
     go_upto_region 10 with (first
      | (go_at_call 26; with_reducible refine (HBD.out _ E.pa).mono ?_; rintro e wx ⟨rfl, rfl⟩)
      | (go_at_call 38; with_reducible refine (H1.out _ E.pa).mono ?_; rintro e wx ⟨rfl, hb⟩; have E' := E.below hb; clear E hb; have E := E'; clear E')
      | (go_at_call 38; with_reducible refine (H4.out _ E.pa).mono ?_; rintro e wx ⟨rfl, hb⟩; have E' := E.below hb; clear E hb; have E := E'; clear E')
      | (go_at_call 97; with_reducible refine (HNG.out _ E.pa).mono ?_; rintro e wx ⟨rfl, hb⟩; have E' := E.below hb; clear E hb; have E := E'; clear E')
      | (go_at_call 38; with_reducible refine (H5.out _ E.pa).mono ?_; rintro e wx ⟨rfl, hb⟩; have E' := E.below hb; clear E hb; have E := E'; clear E'))
     obtain ⟨k0, k1, k2, k3, k4⟩ := E.pa.cells
     have kf := E.pa.frz 1
     have hg := E.pa.lt
     go_upto_region 11 with fail
     refine wp_world (Ev w g A c (Rs.toks T fin) (Rs.adv s) _) (E.setAt (s.at_ + 1) _ (by first | rfl | omega)) fun w5 E5 => ?_
     clear k0 k1 k2 k3 k4 kf hg E
     have E := E5
     clear E5
     obtain ⟨a, a0, a1, a2⟩ := E.c3 0 rfl
     obtain ⟨b, b0, b1, b2, b3, b4, b5, b6⟩ := E.c7 1 rfl
     have f1 := E.fz 1 rfl
     go_wp2
     obtain ⟨hb4, hnd⟩ := RNd.leaf 10 t.2.1 t.2.2 E 1 rfl rfl (HB.out.adv hlt) HE2.out
     exact bodyPost_ret (ret26 rfl _ _ rfl hb4) rfl hnd
    | false =>
     rw [h5] at H5
     cases h6 : Rs.is_ (Rs.toks T fin) 6 [] s with
     | true =>
      have hlt := Rs.is_lt (by decide) h6
      have HE2 : Hid (R = (Ps.nd 11 t.2.1 [] t.2.2, Rs.adv s)) := Hd (by rw [HE.out, if_neg (by rw [h1]; decide), if_neg (by rw [h4, hn]; decide), if_neg (by rw [h5]; decide), if_pos (by exact h6)])
      rw [h6] at H6
      go_upto_region 13 with (first
       | (go_at_call 26; with_reducible refine (HBD.out _ E.pa).mono ?_; rintro e wx ⟨rfl, rfl⟩)
       | (go_at_call 38; with_reducible refine (H1.out _ E.pa).mono ?_; rintro e wx ⟨rfl, hb⟩; have E' := E.below hb; clear E hb; have E := E'; clear E')
       | (go_at_call 38; with_reducible refine (H4.out _ E.pa).mono ?_; rintro e wx ⟨rfl, hb⟩; have E' := E.below hb; clear E hb; have E := E'; clear E')
       | (go_at_call 97; with_reducible refine (HNG.out _ E.pa).mono ?_; rintro e wx ⟨rfl, hb⟩; have E' := E.below hb; clear E hb; have E := E'; clear E')
       | (go_at_call 38; with_reducible refine (H5.out _ E.pa).mono ?_; rintro e wx ⟨rfl, hb⟩; have E' := E.below hb; clear E hb; have E := E'; clear E')
       | (go_at_call 38; with_reducible refine (H6.out _ E.pa).mono ?_; rintro e wx ⟨rfl, hb⟩; have E' := E.below hb; clear E hb; have E := E'; clear E'))
      obtain ⟨k0, k1, k2, k3, k4⟩ := E.pa.cells
      have kf := E.pa.frz 1
      have hg := E.pa.lt
      go_upto_region 14 with fail
      refine wp_world (Ev w g A c (Rs.toks T fin) (Rs.adv s) _) (E.setAt (s.at_ + 1) _ (by first | rfl | omega)) fun w5 E5 => ?_
      clear k0 k1 k2 k3 k4 kf hg E
      have E := E5
      clear E5
      obtain ⟨a, a0, a1, a2⟩ := E.c3 0 rfl
      obtain ⟨b, b0, b1, b2, b3, b4, b5, b6⟩ := E.c7 1 rfl
      have f1 := E.fz 1 rfl
      go_wp2
      obtain ⟨hb4, hnd⟩ := RNd.leaf 11 t.2.1 t.2.2 E 1 rfl rfl (HB.out.adv hlt) HE2.out
      exact bodyPost_ret (ret26 rfl _ _ rfl hb4) rfl hnd
     | false =>
      rw [h6] at H6
      cases ha : Rs.is_ (Rs.toks T fin) 7 [35, 40] s with
      | true =>
       have hlt := Rs.is_lt (by decide) ha
       have HE2 : Hid (R = Rs.arr (Rs.toks T fin) F' s) := Hd (by rw [HE.out, if_neg (by rw [h1]; decide), if_neg (by rw [h4, hn]; decide), if_neg (by rw [h5]; decide), if_neg (by rw [h6]; decide), if_pos (by exact ha)])
       rw [ha] at HA1
       have HCON := Hd fun (W : World) (h : RA W g A c (Rs.toks T fin) s) => (IH.out F' (by omega)).arr s W h HB.out hk hlt (by omega)
       rw [show Rs.arr (Rs.toks T fin) F' s = ((Rs.arr (Rs.toks T fin) F' s).1, (Rs.arr (Rs.toks T fin) F' s).2) from rfl] at HE2
       go_upto_region 16 with (first
        | (go_at_call 26; with_reducible refine (HBD.out _ E.pa).mono ?_; rintro e wx ⟨rfl, rfl⟩)
        | (go_at_call 38; with_reducible refine (H1.out _ E.pa).mono ?_; rintro e wx ⟨rfl, hb⟩; have E' := E.below hb; clear E hb; have E := E'; clear E')
        | (go_at_call 38; with_reducible refine (H4.out _ E.pa).mono ?_; rintro e wx ⟨rfl, hb⟩; have E' := E.below hb; clear E hb; have E := E'; clear E')
        | (go_at_call 97; with_reducible refine (HNG.out _ E.pa).mono ?_; rintro e wx ⟨rfl, hb⟩; have E' := E.below hb; clear E hb; have E := E'; clear E')
        | (go_at_call 38; with_reducible refine (H5.out _ E.pa).mono ?_; rintro e wx ⟨rfl, hb⟩; have E' := E.below hb; clear E hb; have E := E'; clear E')
        | (go_at_call 38; with_reducible refine (H6.out _ E.pa).mono ?_; rintro e wx ⟨rfl, hb⟩; have E' := E.below hb; clear E hb; have E := E'; clear E')
        | (go_at_call 38; with_reducible refine (HA1.out _ E.pa).mono ?_; rintro e wx ⟨rfl, hb⟩; have E' := E.below hb; clear E hb; have E := E'; clear E'))
       go_wp2_with (go_at_call 99; refine (HCON.out _ E.pa).mono ?_; rintro e wx ⟨cs, rfl, hp, hbq, ht⟩; have hlo := (E.blk 1 rfl).lt; have E' := E.call hp; have HT := Hd ht; obtain ⟨p0, p1, C1, o1, e1, C2, o2, e2, C3, o3, e3, p5, p6, rfl⟩ := ht.form; clear E hp ht; have E := E'; clear E'; obtain ⟨y, y0, y1, y2, y3, y4, y5, y6⟩ := E.c7 1 rfl; have f2 := E.fz 1 rfl)
       obtain ⟨hb4, hnd⟩ := RNd.put E 1 rfl rfl HT.out hlo hbq HE2.out
       exact bodyPost_ret (ret26 rfl _ _ rfl hb4) rfl hnd
      | false =>
       rw [ha] at HA1
       cases hy : Rs.is_ (Rs.toks T fin) 7 [35, 91] s with
       | true =>
        have hlt := Rs.is_lt (by decide) hy
        have HE2 : Hid (R = Rs.bytes (Rs.toks T fin) s) := Hd (by rw [HE.out, if_neg (by rw [h1]; decide), if_neg (by rw [h4, hn]; decide), if_neg (by rw [h5]; decide), if_neg (by rw [h6]; decide), if_neg (by rw [ha]; decide), if_pos (by exact hy)])
        rw [hy] at HA2
        have HCON := Hd fun (W : World) (h : RA W g A c (Rs.toks T fin) s) => rbyt_any hT s W h HB.out hk hlt
        rw [show Rs.bytes (Rs.toks T fin) s = ((Rs.bytes (Rs.toks T fin) s).1, (Rs.bytes (Rs.toks T fin) s).2) from rfl] at HE2
        go_upto_region 18 with (first
         | (go_at_call 26; with_reducible refine (HBD.out _ E.pa).mono ?_; rintro e wx ⟨rfl, rfl⟩)
         | (go_at_call 38; with_reducible refine (H1.out _ E.pa).mono ?_; rintro e wx ⟨rfl, hb⟩; have E' := E.below hb; clear E hb; have E := E'; clear E')
         | (go_at_call 38; with_reducible refine (H4.out _ E.pa).mono ?_; rintro e wx ⟨rfl, hb⟩; have E' := E.below hb; clear E hb; have E := E'; clear E')
         | (go_at_call 97; with_reducible refine (HNG.out _ E.pa).mono ?_; rintro e wx ⟨rfl, hb⟩; have E' := E.below hb; clear E hb; have E := E'; clear E')
         | (go_at_call 38; with_reducible refine (H5.out _ E.pa).mono ?_; rintro e wx ⟨rfl, hb⟩; have E' := E.below hb; clear E hb; have E := E'; clear E')
         | (go_at_call 38; with_reducible refine (H6.out _ E.pa).mono ?_; rintro e wx ⟨rfl, hb⟩; have E' := E.below hb; clear E hb; have E := E'; clear E')
         | (go_at_call 38; with_reducible refine (HA1.out _ E.pa).mono ?_; rintro e wx ⟨rfl, hb⟩; have E' := E.below hb; clear E hb; have E := E'; clear E')
         | (go_at_call 38; with_reducible refine (HA2.out _ E.pa).mono ?_; rintro e wx ⟨rfl, hb⟩; have E' := E.below hb; clear E hb; have E := E'; clear E'))
        go_wp2_with (go_at_call 100; refine (HCON.out _ E.pa).mono ?_; rintro e wx ⟨cs, rfl, hp, hbq, ht⟩; have hlo := (E.blk 1 rfl).lt; have E' := E.call hp; have HT := Hd ht; obtain ⟨p0, p1, C1, o1, e1, C2, o2, e2, C3, o3, e3, p5, p6, rfl⟩ := ht.form; clear E hp ht; have E := E'; clear E'; obtain ⟨y, y0, y1, y2, y3, y4, y5, y6⟩ := E.c7 1 rfl; have f2 := E.fz 1 rfl)
        obtain ⟨hb4, hnd⟩ := RNd.put E 1 rfl rfl HT.out hlo hbq HE2.out
        exact bodyPost_ret (ret26 rfl _ _ rfl hb4) rfl hnd
       | false =>
        rw [hy] at HA2
        cases hg2 : Rs.is_ (Rs.toks T fin) 7 [40] s with
        | true =>
         have hlt := Rs.is_lt (by decide) hg2
         obtain ⟨s1, hs1⟩ : ∃ s1, Rs.opn (Rs.toks T fin) s = s1 := ⟨_, rfl⟩
         obtain ⟨pe, hpe⟩ : ∃ x, Rs.expr (Rs.toks T fin) F' s1 = x := ⟨_, rfl⟩
         have HE2 : Hid (R = (pe.1, Rs.shut (Rs.toks T fin) [41] pe.2)) := Hd (by rw [HE.out, if_neg (by rw [h1]; decide), if_neg (by rw [h4, hn]; decide), if_neg (by rw [h5]; decide), if_neg (by rw [h6]; decide), if_neg (by rw [ha]; decide), if_neg (by rw [hy]; decide), if_pos (by exact hg2)]; rw [hs1, hpe])
         rw [hg2] at HA3
         have HOP := Hd fun (W : World) (h : RA W g A c (Rs.toks T fin) s) => ropen_any h HB.out.lt hs ⟨HB.out.lo, HB.out.hi⟩
         have HB1 := Hd (Rs.Bd.opn (fin := fin) HB.out hk hlt)
         have hra : Rs.bad s1 = false → Rs.rem T s1 + 10 ≤ Rs.rem T s := fun h1 => Rs.rem_adv (by rw [← hs1] at h1 ⊢; rw [Rs.opn_at h1]; omega) hlt
         have HHR := Hd hra
         rw [hs1] at HOP HB1
         have HMV : Hid (Rs.Mv T s1 pe.2) := Hd (by rw [← hpe]; exact (Rs.mvAll (T := T) (fin := fin) F').expr s1 HB1.out.at_)
         have HBE := Hd (HB1.out.mv HMV.out)
         have HSH := Hd fun (W : World) (h : RA W g A c (Rs.toks T fin) pe.2) => rshut_any h HBE.out.lt (HBE.out.le hTl) ⟨HBE.out.lo, HBE.out.hi⟩ [41]
         have HBS : Hid (Rs.Bd T (Rs.shut (Rs.toks T fin) [41] pe.2)) := Hd (HB.out.shutm hk hlt (by rw [hs1]; exact HMV.out) [41])
         have HCON := Hd fun (W : World) (h : RA W g A c (Rs.toks T fin) s1) => (IH.out F' (by omega)).expr s1 W h HB1.out (fun h1 => by have := HHR.out h1; omega)
         rw [hpe] at HCON
         clear hra hs1 hpe
         go_upto_region 22 with (first
          | (go_at_call 26; with_reducible refine (HBD.out _ E.pa).mono ?_; rintro e wx ⟨rfl, rfl⟩)
          | (go_at_call 38; with_reducible refine (H1.out _ E.pa).mono ?_; rintro e wx ⟨rfl, hb⟩; have E' := E.below hb; clear E hb; have E := E'; clear E')
          | (go_at_call 38; with_reducible refine (H4.out _ E.pa).mono ?_; rintro e wx ⟨rfl, hb⟩; have E' := E.below hb; clear E hb; have E := E'; clear E')
          | (go_at_call 97; with_reducible refine (HNG.out _ E.pa).mono ?_; rintro e wx ⟨rfl, hb⟩; have E' := E.below hb; clear E hb; have E := E'; clear E')
          | (go_at_call 38; with_reducible refine (H5.out _ E.pa).mono ?_; rintro e wx ⟨rfl, hb⟩; have E' := E.below hb; clear E hb; have E := E'; clear E')
          | (go_at_call 38; with_reducible refine (H6.out _ E.pa).mono ?_; rintro e wx ⟨rfl, hb⟩; have E' := E.below hb; clear E hb; have E := E'; clear E')
          | (go_at_call 38; with_reducible refine (HA1.out _ E.pa).mono ?_; rintro e wx ⟨rfl, hb⟩; have E' := E.below hb; clear E hb; have E := E'; clear E')
          | (go_at_call 38; with_reducible refine (HA2.out _ E.pa).mono ?_; rintro e wx ⟨rfl, hb⟩; have E' := E.below hb; clear E hb; have E := E'; clear E')
          | (go_at_call 38; with_reducible refine (HA3.out _ E.pa).mono ?_; rintro e wx ⟨rfl, hb⟩; have E' := E.below hb; clear E hb; have E := E'; clear E')
          | (go_at_call 101; refine (HOP.out _ E.pa).mono ?_; rintro e wx ⟨rfl, hp⟩; have E' := E.call hp; clear E hp; have E := E'; clear E')
          | (go_at_call 44; refine (HCON.out _ E.pa).mono ?_; rintro e wy ⟨cs, rfl, hp, hbq, ht⟩; have hlo := (E.blk 1 rfl).lt; have E' := E.call hp; have HT := Hd ht; obtain ⟨p0, p1, C1, o1, e1, C2, o2, e2, C3, o3, e3, p5, p6, rfl⟩ := ht.form; clear E hp ht; have E := E'; clear E'))
         have hlw := (E.blk 1 rfl).lt
         refine wp_world (fun W => Ev w g A c (Rs.toks T fin) pe.2 _ W ∧ TrM W _ (fun _ => False) _ pe.1) ⟨E.box 26 [_, _, _, _, _, _, _], HT.out.below (new_below _ _)⟩ fun w7 h7 => ?_
         obtain ⟨E7, ht7⟩ := h7
         have HT7 := Hd ht7
         clear E HT ht7
         go_upto_region 23 with (go_at_call 102; refine (HSH.out _ E7.pa).mono ?_; rintro e w8 ⟨rfl, hp⟩; have E8 := E7.call hp; have HT8 := Hd (HT7.out.call hp.1 (by omega)); clear hp E7)
         obtain ⟨a, a0, a1, a2, a3, a4, a5, a6⟩ := E8.c7 0 rfl
         obtain ⟨b, b0, b1, b2, b3, b4, b5, b6⟩ := E8.c7 2 rfl
         have f1 := E8.fz 2 rfl
         go_wp2
         obtain ⟨hb4, hnd⟩ := RNd.put E8 2 rfl rfl HT8.out hlo HBS.out HE2.out
         exact bodyPost_ret (ret26 rfl _ _ rfl hb4) rfl hnd
        | false =>
         rw [hg2] at HA3
         cases hc : Rs.is_ (Rs.toks T fin) 7 [123] s with
         | true =>
          have hlt := Rs.is_lt (by decide) hc
          have HE2 : Hid (R = (Ps.nd 14 [] (Rs.braL (Rs.toks T fin) F' [] (Rs.opn (Rs.toks T fin) s)).1 t.2.2, Rs.shut (Rs.toks T fin) [125] (Rs.braL (Rs.toks T fin) F' [] (Rs.opn (Rs.toks T fin) s)).2)) := Hd (by rw [HE.out, if_neg (by rw [h1]; decide), if_neg (by rw [h4, hn]; decide), if_neg (by rw [h5]; decide), if_neg (by rw [h6]; decide), if_neg (by rw [ha]; decide), if_neg (by rw [hy]; decide), if_neg (by rw [hg2]; decide), if_pos (by exact hc)])
          rw [hc] at HA4
          have HCON := Hd fun (W : World) (h : RA W g A c (Rs.toks T fin) s) => (IH.out F' (by omega)).bra s W h HB.out hk hlt (by omega)
          rw [HTE.out] at HCON
          go_upto_region 25 with (first
           | (go_at_call 26; with_reducible refine (HBD.out _ E.pa).mono ?_; rintro e wx ⟨rfl, rfl⟩)
           | (go_at_call 38; with_reducible refine (H1.out _ E.pa).mono ?_; rintro e wx ⟨rfl, hb⟩; have E' := E.below hb; clear E hb; have E := E'; clear E')
           | (go_at_call 38; with_reducible refine (H4.out _ E.pa).mono ?_; rintro e wx ⟨rfl, hb⟩; have E' := E.below hb; clear E hb; have E := E'; clear E')
           | (go_at_call 97; with_reducible refine (HNG.out _ E.pa).mono ?_; rintro e wx ⟨rfl, hb⟩; have E' := E.below hb; clear E hb; have E := E'; clear E')
           | (go_at_call 38; with_reducible refine (H5.out _ E.pa).mono ?_; rintro e wx ⟨rfl, hb⟩; have E' := E.below hb; clear E hb; have E := E'; clear E')
           | (go_at_call 38; with_reducible refine (H6.out _ E.pa).mono ?_; rintro e wx ⟨rfl, hb⟩; have E' := E.below hb; clear E hb; have E := E'; clear E')
           | (go_at_call 38; with_reducible refine (HA1.out _ E.pa).mono ?_; rintro e wx ⟨rfl, hb⟩; have E' := E.below hb; clear E hb; have E := E'; clear E')
           | (go_at_call 38; with_reducible refine (HA2.out _ E.pa).mono ?_; rintro e wx ⟨rfl, hb⟩; have E' := E.below hb; clear E hb; have E := E'; clear E')
           | (go_at_call 38; with_reducible refine (HA3.out _ E.pa).mono ?_; rintro e wx ⟨rfl, hb⟩; have E' := E.below hb; clear E hb; have E := E'; clear E')
           | (go_at_call 38; with_reducible refine (HA4.out _ E.pa).mono ?_; rintro e wx ⟨rfl, hb⟩; have E' := E.below hb; clear E hb; have E := E'; clear E'))
          go_wp2_with (go_at_call 103; refine (HCON.out _ E.pa).mono ?_; rintro e wx ⟨cs, rfl, hp, hbq, ht⟩; have hlo := (E.blk 1 rfl).lt; have E' := E.call hp; have HT := Hd ht; obtain ⟨p0, p1, C1, o1, e1, C2, o2, e2, C3, o3, e3, p5, p6, rfl⟩ := ht.form; clear E hp ht; have E := E'; clear E'; obtain ⟨y, y0, y1, y2, y3, y4, y5, y6⟩ := E.c7 1 rfl; have f2 := E.fz 1 rfl)
          obtain ⟨hb4, hnd⟩ := RNd.put E 1 rfl rfl HT.out hlo hbq HE2.out
          exact bodyPost_ret (ret26 rfl _ _ rfl hb4) rfl hnd
         | false =>
          rw [hc] at HA4
          cases hq : Rs.is_ (Rs.toks T fin) 7 [91] s with
          | true =>
           have hlt := Rs.is_lt (by decide) hq
           have HE2 : Hid (R = Rs.blk (Rs.toks T fin) F' s) := Hd (by rw [HE.out, if_neg (by rw [h1]; decide), if_neg (by rw [h4, hn]; decide), if_neg (by rw [h5]; decide), if_neg (by rw [h6]; decide), if_neg (by rw [ha]; decide), if_neg (by rw [hy]; decide), if_neg (by rw [hg2]; decide), if_neg (by rw [hc]; decide), if_pos (by exact hq)])
           rw [hq] at HA5
           have HCON := Hd fun (W : World) (h : RA W g A c (Rs.toks T fin) s) => (IH.out F' (by omega)).blk s W h HB.out hk hlt (by omega)
           rw [show Rs.blk (Rs.toks T fin) F' s = ((Rs.blk (Rs.toks T fin) F' s).1, (Rs.blk (Rs.toks T fin) F' s).2) from rfl] at HE2
           go_upto_region 27 with (first
            | (go_at_call 26; with_reducible refine (HBD.out _ E.pa).mono ?_; rintro e wx ⟨rfl, rfl⟩)
            | (go_at_call 38; with_reducible refine (H1.out _ E.pa).mono ?_; rintro e wx ⟨rfl, hb⟩; have E' := E.below hb; clear E hb; have E := E'; clear E')
            | (go_at_call 38; with_reducible refine (H4.out _ E.pa).mono ?_; rintro e wx ⟨rfl, hb⟩; have E' := E.below hb; clear E hb; have E := E'; clear E')
            | (go_at_call 97; with_reducible refine (HNG.out _ E.pa).mono ?_; rintro e wx ⟨rfl, hb⟩; have E' := E.below hb; clear E hb; have E := E'; clear E')
            | (go_at_call 38; with_reducible refine (H5.out _ E.pa).mono ?_; rintro e wx ⟨rfl, hb⟩; have E' := E.below hb; clear E hb; have E := E'; clear E')
            | (go_at_call 38; with_reducible refine (H6.out _ E.pa).mono ?_; rintro e wx ⟨rfl, hb⟩; have E' := E.below hb; clear E hb; have E := E'; clear E')
            | (go_at_call 38; with_reducible refine (HA1.out _ E.pa).mono ?_; rintro e wx ⟨rfl, hb⟩; have E' := E.below hb; clear E hb; have E := E'; clear E')
            | (go_at_call 38; with_reducible refine (HA2.out _ E.pa).mono ?_; rintro e wx ⟨rfl, hb⟩; have E' := E.below hb; clear E hb; have E := E'; clear E')
            | (go_at_call 38; with_reducible refine (HA3.out _ E.pa).mono ?_; rintro e wx ⟨rfl, hb⟩; have E' := E.below hb; clear E hb; have E := E'; clear E')
            | (go_at_call 38; with_reducible refine (HA4.out _ E.pa).mono ?_; rintro e wx ⟨rfl, hb⟩; have E' := E.below hb; clear E hb; have E := E'; clear E')
            | (go_at_call 38; with_reducible refine (HA5.out _ E.pa).mono ?_; rintro e wx ⟨rfl, hb⟩; have E' := E.below hb; clear E hb; have E := E'; clear E'))
           go_wp2_with (go_at_call 104; refine (HCON.out _ E.pa).mono ?_; rintro e wx ⟨cs, rfl, hp, hbq, ht⟩; have hlo := (E.blk 1 rfl).lt; have E' := E.call hp; have HT := Hd ht; obtain ⟨p0, p1, C1, o1, e1, C2, o2, e2, C3, o3, e3, p5, p6, rfl⟩ := ht.form; clear E hp ht; have E := E'; clear E'; obtain ⟨y, y0, y1, y2, y3, y4, y5, y6⟩ := E.c7 1 rfl; have f2 := E.fz 1 rfl)
           obtain ⟨hb4, hnd⟩ := RNd.put E 1 rfl rfl HT.out hlo hbq HE2.out
           exact bodyPost_ret (ret26 rfl _ _ rfl hb4) rfl hnd
          | false =>
           rw [hq] at HA5
           have HE2 : Hid (R = (Ps.Tr.zero, Rs.fail s 124 t.2.2)) := Hd (by rw [HE.out, if_neg (by rw [h1]; decide), if_neg (by rw [h4, hn]; decide), if_neg (by rw [h5]; decide), if_neg (by rw [h6]; decide), if_neg (by rw [ha]; decide), if_neg (by rw [hy]; decide), if_neg (by rw [hg2]; decide), if_neg (by rw [hc]; decide), if_neg (by rw [hq]; decide)])
           go_upto_region 2 with (first
            | (go_at_call 26; with_reducible refine (HBD.out _ E.pa).mono ?_; rintro e wx ⟨rfl, rfl⟩)
            | (go_at_call 38; with_reducible refine (H1.out _ E.pa).mono ?_; rintro e wx ⟨rfl, hb⟩; have E' := E.below hb; clear E hb; have E := E'; clear E')
            | (go_at_call 38; with_reducible refine (H4.out _ E.pa).mono ?_; rintro e wx ⟨rfl, hb⟩; have E' := E.below hb; clear E hb; have E := E'; clear E')
            | (go_at_call 97; with_reducible refine (HNG.out _ E.pa).mono ?_; rintro e wx ⟨rfl, hb⟩; have E' := E.below hb; clear E hb; have E := E'; clear E')
            | (go_at_call 38; with_reducible refine (H5.out _ E.pa).mono ?_; rintro e wx ⟨rfl, hb⟩; have E' := E.below hb; clear E hb; have E := E'; clear E')
            | (go_at_call 38; with_reducible refine (H6.out _ E.pa).mono ?_; rintro e wx ⟨rfl, hb⟩; have E' := E.below hb; clear E hb; have E := E'; clear E')
            | (go_at_call 38; with_reducible refine (HA1.out _ E.pa).mono ?_; rintro e wx ⟨rfl, hb⟩; have E' := E.below hb; clear E hb; have E := E'; clear E')
            | (go_at_call 38; with_reducible refine (HA2.out _ E.pa).mono ?_; rintro e wx ⟨rfl, hb⟩; have E' := E.below hb; clear E hb; have E := E'; clear E')
            | (go_at_call 38; with_reducible refine (HA3.out _ E.pa).mono ?_; rintro e wx ⟨rfl, hb⟩; have E' := E.below hb; clear E hb; have E := E'; clear E')
            | (go_at_call 38; with_reducible refine (HA4.out _ E.pa).mono ?_; rintro e wx ⟨rfl, hb⟩; have E' := E.below hb; clear E hb; have E := E'; clear E')
            | (go_at_call 38; with_reducible refine (HA5.out _ E.pa).mono ?_; rintro e wx ⟨rfl, hb⟩; have E' := E.below hb; clear E hb; have E := E'; clear E'))
           obtain ⟨a, a0, a1, a2⟩ := E.c3 0 rfl
           go_upto_region 28 with (go_at_call 42; refine (HF.out _ E.pa).mono ?_; rintro e wx ⟨rfl, hp⟩; have E' := E.call hp; clear E hp; have E := E'; clear E')
           clear a a0 a1 a2
           obtain ⟨b, b0, b1, b2, b3, b4, b5, b6⟩ := E.c7 1 rfl
           have f1 := E.fz 1 rfl
           go_wp2
           obtain ⟨hb4, hnd⟩ := RNd.zero E 1 rfl rfl (HB.out.mv (Rs.mv_fail _ _ _ _)) HE2.out
           exact bodyPost_ret (ret26 rfl _ _ rfl hb4) rfl hnd
end Go.Proofs.YtbnlnndeajjenaaGreat
