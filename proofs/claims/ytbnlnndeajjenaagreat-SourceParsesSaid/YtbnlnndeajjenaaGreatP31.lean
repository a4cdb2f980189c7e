/-
  Parts RxP, RxQ, RxR, RxS, RxT of the proof. No statement of the seat is proved here.
-/
import Derived.Test.YtbnlnndeajjenaaGreatP23
import Derived.Test.YtbnlnndeajjenaaGreatP27
import Derived.Test.YtbnlnndeajjenaaGreatP29
set_option maxHeartbeats 4000000
namespace Go.Proofs.YtbnlnndeajjenaaGreat
open Go.RowKit
theorem ret_rd {fn : Func} {p u1 : Tmp} (h : fn.results = #[.tmp u1, .cell p 56]) (tmps : Array Value) (w : World) {k : Nat} {x0 x1 : Value} (hp : tmps.getD p undef = .pointer (some ⟨k, 0, none⟩)) (hb : Blk w k 56 #[x0, x1]) :
  (results fn tmps).run Tryz.prog w = .ok (.tuple #[tmps.getD u1 undef, .agg #[x0, x1]]) w := by
 have hp' : tmps[p]?.getD undef = .pointer (some ⟨k, 0, none⟩) := by simpa using hp
 simp [results, h, hp', asAddr, run_loadVar_row w k 56 56 _ (0, 0) _ hb Tryz.underlying56 rfl (by kernel_rfl)]
def RdrP (x : Lx.Txt) (w : World) (e : Ending) (w' : World) : Prop :=
 Below w.heap.size w w' ∧ (((Lx.lexT x).2.2 ≠ 0 ∧ e = .returned (.tuple #[.pointer none, .agg #[.int .i64 ((Lx.lexT x).2.2 : Int), .int .i64 ((Lx.lexT x).2.1 : Int)]])) ∨ ((Lx.lexT x).2.2 = 0 ∧ ∃ (g : Nat) (A : Option Addr) (c : Nat), e = .returned (.tuple #[.pointer (some ⟨g, 0, none⟩), .agg #[.int .i64 0, .int .i64 0]]) ∧ w.heap.size ≤ g ∧ RA w' g A c (Rs.toks (Lx.lexT x).1 x.length) ⟨0, 0, none⟩))
set_option maxRecDepth 20000 in
theorem rreader_any (x : Lx.Txt) (w : World) (hm : x.length ≤ 9223372036854775807) : Calls Tryz.prog 21 #[.string ⟨x.toArray⟩] w (RdrP x w) := by
 have HL := Hd fun (W : World) => rlex_any ⟨x.toArray⟩ W (by show x.toArray.size ≤ _; simpa using hm)
 have hfit := Ps.lexT_fits x
 have HF := Hd hfit
 unfold RdrP
 generalize Lx.lexT x = r at *
 obtain ⟨T, pl, er⟩ := r
 dsimp only at HL HF hfit ⊢
 have hT := hfit.len
 obtain ⟨i0, hii, hz0, hz1, hz2⟩ := info_parts info40
 clear hfit
 go_enter Tryz.func21, Tryz.ntmps21
 go_upto_region 2 with (go_at_call 36; refine (HL.out _).mono ?_; rintro e w1 ⟨hb, v, rfl, ho⟩; have HB1 := Hd hb; have HO1 := Hd ho; obtain ⟨Av, cv, rfl, -, -⟩ := own_form ho; clear hb ho)
 have hs0 : w.heap.size < w1.heap.size := by have := HB1.out.size; simp at this; omega
 have HBW : Hid (Below w.heap.size w w1) := Hd ((new_below w _).trans (HB1.out.mono (by simp)))
 have HK1 : Hid (Blk w1 w.heap.size 56 #[.int .i64 0, .int .i64 0]) := Hd ((Blk.new w 56 #[.int .i64 0, .int .i64 0]).below HB1.out (by simp))
 have a0 := HK1.out.cell 0
 have a1 := HK1.out.cell 1
 have af := HK1.out.frozen
 have al := HK1.out.lt
 by_cases he : er = 0
 ·have d : ((er : Int) != 0) = false := by rw [he]; rfl
  have HER := Hd he
  clear he
  have HO2 : Hid (w1.ownsRow (w.heap.size + 1) 40 3 (.slice Av T.length cv) T.length (tksC T)) := Hd (by have := HO1.out; simpa using this)
  go_upto_region 5 with (at_builtin; refine wpList_append_any _ rfl (.tmp 18) (.tmp 22) 44 rfl (w.heap.size + 1) 40 i0 _ 3 32 Tryz.underlying44 hii hz0 hz1 hz2 rfl (by decide) (.slice Av T.length cv) T.length (tksC T) (by rfl) (World.ownsRow.alloc HO2.out _) (w1.heap.size + 1) (some ⟨w1.heap.size, 0, none⟩) 1 1 _ (by rfl) (Reads.builtN w1 40 [_, _, _] 1 3 rfl) (by intro u hu; simp only [List.mem_cons, List.not_mem_nil, or_false] at hu; rcases hu with rfl | rfl | rfl <;> rfl) (by simp only [maxLen]; omega) (by omega) (by simp; omega) ?_; intro v2 w2 hown2 hgrow2 hv2; have HG2 := Hd hgrow2; have HW2 := Hd hown2; obtain ⟨A2, c2, rfl, _, _⟩ := own_form hown2; have HV2 := Hd hv2; clear hown2 hgrow2 hv2)
  have HK2 : Hid (Blk w2 w.heap.size 56 #[.int .i64 0, .int .i64 0]) := Hd ((Blk.alloc HK1.out _).grown HG2.out (fun e => by have := (HO2.out.lt _ e.symm).1; omega))
  have HB2 : Hid (Below w.heap.size w w2) := Hd (((HBW.out.alloc (by omega) _)).grown HG2.out (by simp; omega) fun k hk => by have := (HO2.out.lt k hk).1; omega)
  have hs2 : w.heap.size + 1 ≤ w2.heap.size := by have := HK2.out.lt; omega
  clear a0 a1 af al HO1 HO2 HB1 HG2 HV2
  go_wp2_with (at_builtin; refine wpList_append_any _ rfl (.tmp 24) (.tmp 28) 44 rfl (w.heap.size + 1) 40 i0 _ 3 32 Tryz.underlying44 hii hz0 hz1 hz2 rfl (by decide) (.slice A2 (T.length + 1) c2) (T.length + 1) _ (by rfl) (World.ownsRow.alloc HW2.out _) (w2.heap.size + 1) (some ⟨w2.heap.size, 0, none⟩) 1 1 _ (by rfl) (Reads.builtN w2 40 [_, _, _] 1 3 rfl) (by intro u hu; simp only [List.mem_cons, List.not_mem_nil, or_false] at hu; rcases hu with rfl | rfl | rfl <;> rfl) (by simp only [maxLen]; omega) (by omega) (by simp; omega) ?_; intro v3 w3 hown3 hgrow3 hv3; have HG3 := Hd hgrow3; have HW3 := Hd hown3; obtain ⟨A3, c3, rfl, _, _⟩ := own_form hown3; have HK3 : Hid (Blk w3 w.heap.size 56 #[.int .i64 0, .int .i64 0]) := Hd ((Blk.alloc HK2.out _).grown hgrow3 (fun e => by have := (HW2.out.lt _ e.symm).1; omega)); have a0 := HK3.out.cell 0; have a1 := HK3.out.cell 1; have af := HK3.out.frozen; have al := HK3.out.lt; clear hown3 hgrow3 hv3)
  have HB3 : Hid (Below w.heap.size w w3) := Hd (((HB2.out.alloc (by omega) _)).grown HG3.out (by simp; omega) fun k hk => by have := (HW2.out.lt k hk).1; omega)
  have hbl := ((HK3.out.set_ 0 (.int .i64 0)).set_ 1 (.int .i64 0)).alloc (.cells #[.slice A3 (T.length + 1 + 1) c3, .int .i64 0, .int .i64 0, .int .i64 0, .int .i64 0] 64)
  have hz3 : ((w3.setCell ⟨w.heap.size, 0, none⟩ (.int .i64 0)).setCell ⟨w.heap.size, 1, none⟩ (.int .i64 0)).heap.size = w3.heap.size := by simp [World.setCell]
  refine bodyPost_ret (ret_rd rfl _ _ rfl hbl) rfl ⟨?_, .inr ⟨HER.out, w3.heap.size, A3, c3, rfl, ?_, ?_⟩⟩
  ·exact ((HB3.out.setCell (p := ⟨w.heap.size, 0, none⟩) (Nat.le_refl _) _).setCell (p := ⟨w.heap.size, 1, none⟩) (Nat.le_refl _) _).alloc (by rw [hz3]; omega) _
  ·omega
  ·have hrd : ReadsX w3 w3.heap.size 3 A3 (T.length + 1 + 1) (tksC (Rs.toks T x.length)) := by
    have e1 : tksC (Rs.toks T x.length) = tksC T ++ [.int .i64 0, .string ⟨#[]⟩, .int .i64 (x.length : Int)] ++ [.int .i64 0, .string ⟨#[]⟩, .int .i64 (x.length : Int)] := by
     unfold Rs.toks tksC
     simp [tkC]
    rw [e1]
    refine ⟨HW3.out.1, fun hn => ?_⟩
    obtain ⟨g, cap, hv, _, hlt⟩ := World.ownsRow.form HW3.out hn
    have hA : A3 = some ⟨g, 0, none⟩ := by injection hv
    subst hA
    refine ⟨g, 0, rfl, hlt, fun j u hu => ?_⟩
    have := World.ownsRow.cells HW3.out (g := g) rfl j u hu
    have e : (⟨g, 0, none⟩ : Addr).add j = ⟨g, 0 + j, none⟩ := by unfold Addr.add; split <;> simp_all
    rwa [e] at this
   refine ⟨?_, (fun p e h => by cases h), ?_⟩
   ·have := Blk.new ((w3.setCell ⟨w.heap.size, 0, none⟩ (.int .i64 0)).setCell ⟨w.heap.size, 1, none⟩ (.int .i64 0)) 64 #[.slice A3 (T.length + 1 + 1) c3, .int .i64 0, .int .i64 0, .int .i64 0, .int .i64 0]
    rw [hz3] at this
    rw [Ps.toks_len]
    exact this
   ·rw [Ps.toks_len]
    refine ReadsX.below (B := w3.heap.size) (w := (w3.setCell ⟨w.heap.size, 0, none⟩ (.int .i64 0)).setCell ⟨w.heap.size, 1, none⟩ (.int .i64 0)) ⟨hrd.1, fun hn => ?_⟩ ((Below.refl _ _).alloc (by rw [hz3]; exact Nat.le_refl _) _)
    obtain ⟨b, off, e, hb, hc⟩ := hrd.2 hn
    refine ⟨b, off, e, hb, fun j u hu => ?_⟩
    have hbw : b ≠ w.heap.size := fun e2 => by
     have hh := World.ownsRow.lt HW3.out b (by rw [e]; simp [Value.ownBlock])
     omega
    rw [World.cell?_setCell_other _ _ _ _ (fun h => by injection h with h1; exact hbw h1.symm), World.cell?_setCell_other _ _ _ _ (fun h => by injection h with h1; exact hbw h1.symm)]
    exact hc j u hu
 ·have d : ((er : Int) != 0) = true := by rw [bne_iff_ne]; omega
  have HER := Hd he
  clear he
  go_wp2
  refine bodyPost_ret (ret_rd rfl _ _ rfl ((HK1.out.set_ 0 (.int .i64 (er : Int))).set_ 1 (.int .i64 (pl : Int)))) rfl ⟨?_, .inl ⟨HER.out, rfl⟩⟩
  exact (HBW.out.setCell (p := ⟨w.heap.size, 0, none⟩) (Nat.le_refl _) _).setCell (p := ⟨w.heap.size, 1, none⟩) (Nat.le_refl _) _
theorem Ev.tail {w W : World} {g c : Nat} {A : Option Addr} {T : List Lx.Tk} {s : Rs.RS} {x : Lc} {L : List Lc} (h : Ev w g A c T s (x :: L) W) : Ev w g A c T s L W :=
 ⟨h.chg, h.pa, h.gl, fun i y hy => h.loc (i + 1) y (by simpa using hy), fun i j y z hy hz hij => h.nd (i + 1) (j + 1) y z (by simpa using hy) (by simpa using hz) (by omega)⟩
theorem Ev.names {w W w' : World} {g c : Nat} {A : Option Addr} {T : List Lx.Tk} {s s' : Rs.RS} {L : List Lc} {v : Value} {l : List Lx.Txt} (h : Ev w g A c T s L W) (hL : ∀ (i : Nat) (x : Lc), L[i]? = some x → x.t ≠ 9) (ho : SsN W w.heap.size v l) (hc : Chg (fun k => k = g ∨ v.ownBlock = some k) W w') (hp : RA w' g A c T s') : Ev w g A c T s' L w' :=
 h.row hc hp fun k hk => ⟨(World.ownsRow.lt ho k hk).1, fun i x hx e => by
  have hb := (h.loc i x hx).2
  rw [e] at hb
  exact own_blk_ne ho hb (fun e2 => hL i x hx e2.symm) hk⟩
def RPatP (w : World) (g : Nat) (A : Option Addr) (c : Nat) (L : List Lx.Tk) (k : Nat) (Ls : List Lc) (r : Lx.Txt × List Lx.Txt × Rs.RS) (e : Ending) (w' : World) : Prop :=
 ∃ v, e = .returned (.tuple #[]) ∧ Ev w g A c L r.2.2 (⟨k, 26, [.int .i64 1, .string ⟨r.1.toArray⟩, v, .slice none 0 0, .slice none 0 0, .int .i64 0, .int .i64 0]⟩ :: Ls) w' ∧ SsN w' w.heap.size v r.2.1
theorem Rs.patL_stop {L : List Lx.Tk} {f : Nat} {n : Lx.Txt} {l : List Lx.Txt} {s : Rs.RS} (h : Rs.is_ L 2 [] s = false) : Rs.patL L f n l s = (n, l, s) := by
 cases f with
 | zero => rfl
 | succ f => unfold Rs.patL; rw [if_neg (by rw [h]; decide)]
set_option maxRecDepth 20000 in
theorem rpat_any {g c fin k : Nat} {A : Option Addr} {T : List Lx.Tk} (hT : Ps.Fits 65536 T) (s : Rs.RS) (w w0 : World) (Ls : List Lc) (hLs : ∀ (i : Nat) (x : Lc), Ls[i]? = some x → x.t ≠ 9) (h : Ev w g A c (Rs.toks T fin) s (⟨k, 26, [.int .i64 1, .string ⟨#[]⟩, .slice none 0 0, .slice none 0 0, .slice none 0 0, .int .i64 0, .int .i64 0]⟩ :: Ls) w0) (hb : Rs.Bd T s) :
  Calls Tryz.prog 22 #[.pointer (some ⟨g, 0, none⟩), .pointer (some ⟨k, 0, none⟩)] w0 (RPatP w g A c (Rs.toks T fin) k Ls (Rs.pat (Rs.toks T fin) s)) := by
 have hTl := hT.len
 have hgb := h.gl
 have hs := hb.le hTl
 have hsa := hb.at_
 obtain ⟨t, ht⟩ : ∃ t, Rs.tok (Rs.toks T fin) s = t := ⟨_, rfl⟩
 obtain ⟨R, hR⟩ : ∃ R, Rs.pat (Rs.toks T fin) s = R := ⟨_, rfl⟩
 have HE : Hid (R = if Rs.is_ (Rs.toks T fin) 1 [] s then (t.2.1, [], Rs.adv s) else if Rs.bin (Rs.toks T fin) s then (t.2.1, (Rs.decl (Rs.toks T fin) [] (Rs.adv s)).1, (Rs.decl (Rs.toks T fin) [] (Rs.adv s)).2) else if Rs.is_ (Rs.toks T fin) 2 [] s then Rs.patL (Rs.toks T fin) (T.length + 4) [] [] s else ([], [], Rs.fail s 124 t.2.2)) := Hd (by rw [← hR, Rs.pat, ht, Ps.toks_len])
 rw [hR]
 have HTK := Hd fun (W : World) (h : RA W g A c (Rs.toks T fin) s) => rtok_any h (hb).lt
 rw [ht] at HTK
 have H1 := Hd fun (W : World) (h : RA W g A c (Rs.toks T fin) s) => ris_z h (hb).lt 1 [] (z := 1) rfl (xs := #[]) rfl
 have H2 := Hd fun (W : World) (h : RA W g A c (Rs.toks T fin) s) => ris_z h (hb).lt 2 [] (z := 2) rfl (xs := #[]) rfl
 have HBN := Hd fun (W : World) (h : RA W g A c (Rs.toks T fin) s) => rbin_any h (hb).lt
 have HB := Hd hb
 have HE0 := Hd h
 have HLS := Hd hLs
 have hk0 := (h.blk 0 rfl).lt
 clear h hb ht hR hLs
 go_enter Tryz.func22, Tryz.ntmps22
 go_upto_block 0 with (go_at_call 37; refine (HTK.out _ HE0.out.pa).mono ?_; rintro e w1 ⟨rfl, hp⟩; have HE1 := Hd (HE0.out.below hp); clear hp)
 refine wp_world (fun W => Ev w g A c (Rs.toks T fin) s (⟨w1.heap.size, 40, [.int .i64 (t.1 : Int), .string ⟨t.2.1.toArray⟩, .int .i64 (t.2.2 : Int)]⟩ :: _ :: Ls) W) (HE1.out.box 40 [_, _, _]) fun w2 E => ?_
 obtain ⟨tb, htb⟩ : ∃ tb, w1.heap.size = tb := ⟨_, rfl⟩
 rw [htb] at E ⊢
 clear HE0 HE1 HTK htb hk0
 cases h1 : Rs.is_ (Rs.toks T fin) 1 [] s with
 | true =>
  have hlt := Rs.is_lt (by decide) h1
  have HE2 : Hid (R = (t.2.1, [], Rs.adv s)) := Hd (by rw [HE.out, if_pos h1])
  rw [h1] at H1
  clear h1
  go_upto_region 3 with (first
   | (go_at_call 38; with_reducible refine (H1.out _ E.pa).mono ?_; rintro e wx ⟨rfl, hb⟩; have E' := E.below hb; clear E hb; have E := E'; clear E'))
  obtain ⟨b, b0, b1, b2⟩ := E.c3 0 rfl
  obtain ⟨a, a0, a1, a2, a3, a4, a5, a6⟩ := E.c7 1 rfl
  have fz := E.fz 1 rfl
  go_upto_region 4 with fail
  refine wp_world (Ev w g A c (Rs.toks T fin) s _) (E.put 1 rfl 1 (.string ⟨t.2.1.toArray⟩)) fun w5 E5 => ?_
  clear E a a0 a1 a2 a3 a4 a5 a6 fz b b0 b1 b2
  obtain ⟨k0, k1, k2, k3, k4⟩ := E5.pa.cells
  have kf := E5.pa.frz 1
  have hg := E5.pa.lt
  go_wp2
  go_end0
  rw [HE2.out]
  exact ⟨.slice none 0 0, rfl, (E5.setAt (s.at_ + 1) _ (by omega)).tail, SsN.nil _ _⟩
 | false =>
  rw [h1] at H1
  cases h2 : Rs.bin (Rs.toks T fin) s with
  | true =>
   obtain ⟨hlt, _⟩ := Rs.bin_lt h2
   have HBA := Hd (HB.out.adv hlt)
   obtain ⟨q, hq⟩ : ∃ q, Rs.decl (Rs.toks T fin) [] (Rs.adv s) = q := ⟨_, rfl⟩
   have HE2 : Hid (R = (t.2.1, q.1, q.2)) := Hd (by rw [HE.out, if_neg (by rw [h1]; decide), if_pos h2, hq])
   have HDC := Hd fun (W : World) (h : RA W g A c (Rs.toks T fin) (Rs.adv s)) (h3 : w.heap.size ≤ W.heap.size) => rdecl_any (base := w.heap.size) (l := []) h HBA.out.lt (by show s.at_ + 1 ≤ _; omega) (SsN.nil W w.heap.size) hgb h3 (by simp)
   rw [hq] at HDC
   rw [h2] at HBN
   clear h1 h2 hq
   go_upto_region 6 with (first
    | (go_at_call 38; with_reducible refine (H1.out _ E.pa).mono ?_; rintro e wx ⟨rfl, hb⟩; have E' := E.below hb; clear E hb; have E := E'; clear E')
    | (go_at_call 39; with_reducible refine (HBN.out _ E.pa).mono ?_; rintro e wx ⟨rfl, hb⟩; have E' := E.below hb; clear E hb; have E := E'; clear E'))
   obtain ⟨b, b0, b1, b2⟩ := E.c3 0 rfl
   obtain ⟨a, a0, a1, a2, a3, a4, a5, a6⟩ := E.c7 1 rfl
   have fz := E.fz 1 rfl
   go_upto_region 7 with fail
   refine wp_world (Ev w g A c (Rs.toks T fin) s _) (E.put 1 rfl 1 (.string ⟨t.2.1.toArray⟩)) fun w5 E5 => ?_
   clear E a a0 a1 a2 a3 a4 a5 a6 fz b b0 b1 b2
   obtain ⟨k0, k1, k2, k3, k4⟩ := E5.pa.cells
   have kf := E5.pa.frz 1
   have hg := E5.pa.lt
   go_upto_region 8 with fail
   refine wp_world (Ev w g A c (Rs.toks T fin) (Rs.adv s) _) (E5.setAt (s.at_ + 1) _ (by omega)) fun w6 E6 => ?_
   clear k0 k1 k2 k3 k4 kf hg E5
   go_wp2_with (go_at_call 40; refine (HDC.out _ E6.pa E6.size).mono ?_; rintro e w7 ⟨v7, rfl, hc7, hp7, ho7, hv7⟩; obtain ⟨A7, c7, rfl, -, -⟩ := SsN.form ho7; have HO7 := Hd ho7; have E7 := E6.row (v := .slice none 0 0) hc7 hp7 (fun k hk => by simp [Value.ownBlock] at hk); obtain ⟨a, a0, a1, a2, a3, a4, a5, a6⟩ := E7.c7 1 rfl; have fz := E7.fz 1 rfl; clear hc7 hp7 ho7 hv7)
   go_end0
   rw [HE2.out]
   exact ⟨_, rfl, (E7.put 1 rfl 2 _).tail, HO7.out.put (E7.blk 1 rfl) (by decide) (chg_set _ _ _ _)⟩
  | false =>
   rw [h2] at HBN
   cases h3 : Rs.is_ (Rs.toks T fin) 2 [] s with
   | false =>
    have HE2 : Hid (R = ([], [], Rs.fail s 124 t.2.2)) := Hd (by rw [HE.out, if_neg (by rw [h1]; decide), if_neg (by rw [h2]; decide), if_neg (by rw [h3]; decide)])
    have HF := Hd fun (W : World) (h : RA W g A c (Rs.toks T fin) s) => rfail_any h 124 t.2.2 (by decide)
    rw [h3] at H2
    clear h1 h2 h3
    go_upto_region 1 with (first
     | (go_at_call 38; with_reducible refine (H1.out _ E.pa).mono ?_; rintro e wx ⟨rfl, hb⟩; have E' := E.below hb; clear E hb; have E := E'; clear E')
     | (go_at_call 39; with_reducible refine (HBN.out _ E.pa).mono ?_; rintro e wx ⟨rfl, hb⟩; have E' := E.below hb; clear E hb; have E := E'; clear E')
     | (go_at_call 38; with_reducible refine (H2.out _ E.pa).mono ?_; rintro e wx ⟨rfl, hb⟩; have E' := E.below hb; clear E hb; have E := E'; clear E'))
    obtain ⟨b, b0, b1, b2⟩ := E.c3 0 rfl
    go_wp2_with (go_at_call 42; refine (HF.out _ E.pa).mono ?_; rintro e wx ⟨rfl, hp⟩; have E' := E.call hp; clear E hp; have E := E'; clear E')
    go_end0
    rw [HE2.out]
    exact ⟨.slice none 0 0, rfl, E.tail, SsN.nil _ _⟩
   | true =>
    have HRK : Hid (Rs.patL (Rs.toks T fin) (T.length + 4) [] [] s = R) := Hd (by rw [HE.out, if_neg (by rw [h1]; decide), if_neg (by rw [h2]; decide), if_pos h3])
    rw [h3] at H2
    clear h1 h2 h3
    go_upto_block 1 with (first
     | (go_at_call 38; with_reducible refine (H1.out _ E.pa).mono ?_; rintro e wx ⟨rfl, hb⟩; have E' := E.below hb; clear E hb; have E := E'; clear E')
     | (go_at_call 39; with_reducible refine (HBN.out _ E.pa).mono ?_; rintro e wx ⟨rfl, hb⟩; have E' := E.below hb; clear E hb; have E := E'; clear E')
     | (go_at_call 38; with_reducible refine (H2.out _ E.pa).mono ?_; rintro e wx ⟨rfl, hb⟩; have E' := E.below hb; clear E hb; have E := E'; clear E'))
    have HE6 := Hd E
    clear E H1 H2 HBN
    go_wp2
    go_loopg [] (T.length + 4) (fun f wr => ∃ (s' : Rs.RS) (nm : Lx.Txt) (l : List Lx.Txt) (v : Value), Ev w g A c (Rs.toks T fin) s' (⟨tb, 40, [.int .i64 (t.1 : Int), .string ⟨t.2.1.toArray⟩, .int .i64 (t.2.2 : Int)]⟩ :: ⟨k, 26, [.int .i64 1, .string ⟨(nm).toArray⟩, v, .slice none 0 0, .slice none 0 0, .int .i64 0, .int .i64 0]⟩ :: Ls) wr ∧ SsN wr w.heap.size v l ∧ Rs.Bd T s' ∧ (Rs.bad s' = false → T.length < s'.at_ + f) ∧ nm.length ≤ 65536 * s'.at_ ∧ l.length + f ≤ T.length + 4 ∧ Rs.patL (Rs.toks T fin) f nm l s' = R)
    case atStart => exact ⟨s, [], [], .slice none 0 0, HE6.out, SsN.nil _ _, HB.out, fun _ => by omega, by simp, by simp, HRK.out⟩
    case round =>
     obtain ⟨s', nm, l, v', hA, hO, hb, hok, hnm, hll, hR⟩ := hrel
     have HA := Hd hA
     have HO := Hd hO
     have HR2 := Hd hR
     have HBD := Hd hb
     have HOK := Hd hok
     obtain ⟨Av, cv, rfl, -, -⟩ := SsN.form HO.out
     have HI := Hd fun (W : World) (h : RA W g A c (Rs.toks T fin) s') => ris_z h (HBD.out).lt 2 [] (z := 2) rfl (xs := #[]) rfl
     have hat := hb.at_
     have hs' := hb.le hTl
     clear hA hO hR HE6 HRK hb hok
     cases hi : Rs.is_ (Rs.toks T fin) 2 [] s' with
     | false =>
      have HE3 : Hid (R = (nm, l, s')) := Hd (by rw [← HR2.out]; exact Rs.patL_stop hi)
      rw [hi] at HI
      clear hi
      go_wp2_with (go_at_call 38; with_reducible refine (HI.out _ HA.out.pa).mono ?_; rintro e w4 ⟨rfl, hb⟩; have HA5 := Hd (HA.out.below hb); have HO5 := Hd (HO.out.below hb); clear hb)
      go_end0
      rw [HE3.out]
      exact ⟨_, rfl, HA5.out.tail, HO5.out⟩
     | true =>
      rw [hi] at HI
      have hlt : s'.at_ < T.length := Rs.is_lt (by decide) hi
      have hfu := HOK.out (Rs.is_ok hi)
      obtain ⟨q, hq⟩ : ∃ q, Rs.tok (Rs.toks T fin) s' = q := ⟨_, rfl⟩
      have hql := tok_txt (fin := fin) hT s'
      have HTK := Hd fun (W : World) (h : RA W g A c (Rs.toks T fin) s') => rtake_z h (HBD.out).lt ((HBD.out).le hTl) 2 [] (z := 2) rfl (xs := #[]) rfl
      rw [Rs.take_yes hi, hq] at HTK
      rw [hq] at hql
      have hq1 := fld1 (.int .i64 (q.1 : Int)) (.string ⟨q.2.1.toArray⟩) (.int .i64 (q.2.2 : Int))
      have hcat : ¬ (9223372036854775807 < nm.length + q.2.1.length) := by omega
      have hstr := str_app nm q.2.1
      obtain ⟨f, rfl⟩ : ∃ f, gk = f + 1 := ⟨gk - 1, by omega⟩
      obtain ⟨pd, hpd⟩ : ∃ x, Rs.decl (Rs.toks T fin) l (Rs.adv s') = x := ⟨_, rfl⟩
      have HR3 : Hid (Rs.patL (Rs.toks T fin) f (nm ++ q.2.1) pd.1 pd.2 = R) := Hd (by rw [← HR2.out]; conv => rhs; unfold Rs.patL; rw [if_pos hi, hq, hpd])
      have HBA := Hd (HBD.out.adv hlt)
      have HMD : Hid (Rs.Mv T (Rs.adv s') pd.2) := Hd (by rw [← hpd]; exact Rs.mv_decl _ _)
      have HL : Hid (pd.1.length ≤ l.length + 1) := Hd (by rw [← hpd]; unfold Rs.decl; dsimp only; split <;> simp)
      have HDA : Hid (Rs.bad pd.2 = false → pd.2.at_ = s'.at_ + 1 + 1) := Hd fun h => by rw [← hpd] at h ⊢; exact (Rs.decl_adv h).1
      have hat3 : s'.at_ + 1 ≤ pd.2.at_ := (HMD.out.at_ hlt).1
      have HDC := Hd fun (W : World) (h : RA W g A c (Rs.toks T fin) (Rs.adv s')) (h2 : SsN W w.heap.size (.slice Av l.length cv) l) (h3 : w.heap.size ≤ W.heap.size) => rdecl_any (base := w.heap.size) (l := l) h HBA.out.lt (by show s'.at_ + 1 ≤ _; omega) h2 hgb h3 (by omega)
      rw [hpd] at HDC
      clear hi hq hpd
      go_upto_region 11 with (go_at_call 38; with_reducible refine (HI.out _ HA.out.pa).mono ?_; rintro e w4 ⟨rfl, hb⟩; have HA5 := Hd (HA.out.below hb); have HO5 := Hd (HO.out.below hb); clear hb)
      clear HA HO HI HR2
      obtain ⟨c7, e0, e1, e2, e3, e4, e5, e6⟩ := HA5.out.c7 1 rfl
      have hS : w4.cell? ⟨k, 1, none⟩ = some (.string ⟨nm.toArray⟩) := e1
      refine wp_region_x (s := 10) (S := fun W => W.cell? ⟨k, 1, none⟩ = some (.string ⟨nm.toArray⟩)) (by kernel_rfl) hS (fun hHeld => ?_)
      refine xt (i := 0) ?_
      refine xt (i := 1) ?_
      refine xt (i := 2) ?_
      refine xt (i := 3) ?_
      refine xt (i := 4) ?_
      refine Go.Proofs.YtbnlnndeajjenaaGreat.x1 (i := 5) (fun K2 hK2 => ?_)
      go_simp
      go_at_call 41
      refine (HTK.out _ HA5.out.pa.drew).mono ?_
      rintro e w6 ⟨rfl, hp⟩
      have HA6 := Hd ((HA5.out.below (Below.refl _ _).drew).call hp)
      have HO6 := Hd ((HO5.out.below (Below.refl _ _).drew).call hp.1 hgb)
      obtain ⟨a, b0, b1, b2, b3, b4, b5, b6⟩ := HA6.out.c7 1 rfl
      have fz6 := HA6.out.fz 1 rfl
      clear hp
      refine hK2.out _ _ (b1) (fun hHeld => ?_)
      clear hK2 K2
      refine xt (i := 6) ?_
      refine Go.Proofs.YtbnlnndeajjenaaGreat.x1 (i := 7) (fun K2 hK2 => ?_)
      go_simp
      refine hK2.out _ _ (hHeld) (fun hHeld => ?_)
      clear hK2 K2
      try simp only [Act.put, List.setIfInBounds_toArray, List.set_cons_zero, List.set_cons_succ]
      refine Go.Proofs.YtbnlnndeajjenaaGreat.x1 (i := 8) (fun K2 hK2 => ?_)
      go_simp
      refine hK2.out _ _ (hHeld) (fun hHeld => ?_)
      clear hK2 K2
      try simp only [Act.put, List.setIfInBounds_toArray, List.set_cons_zero, List.set_cons_succ]
      refine Go.Proofs.YtbnlnndeajjenaaGreat.x1 (i := 9) (fun K2 hK2 => ?_)
      go_simp
      refine hK2.out _ _ (hHeld) (fun hHeld => ?_)
      clear hK2 K2
      try simp only [Act.put, List.setIfInBounds_toArray, List.set_cons_zero, List.set_cons_succ]
      refine xl (fun K2 hK2 => ?_)
      go_simp
      refine hK2.out _ _ ?_
      clear hK2 K2
      try simp only [Act.put, List.setIfInBounds_toArray, List.set_cons_zero, List.set_cons_succ]
      refine wpAnyX_done (by kernel_rfl) ?_ _
      go_upto_region 12 with fail
      refine wp_world (fun W => Ev w g A c (Rs.toks T fin) (Rs.adv s') (⟨tb, 40, [.int .i64 (t.1 : Int), .string ⟨t.2.1.toArray⟩, .int .i64 (t.2.2 : Int)]⟩ :: ⟨k, 26, [.int .i64 1, .string ⟨(nm ++ q.2.1).toArray⟩, .slice Av l.length cv, .slice none 0 0, .slice none 0 0, .int .i64 0, .int .i64 0]⟩ :: Ls) W ∧ SsN W w.heap.size (.slice Av l.length cv) l) ⟨HA6.out.put 1 rfl 1 _, HO6.out.put (HA6.out.blk 1 rfl) (by decide) (chg_set _ _ _ _)⟩ fun w7 h7 => ?_
      have HA7 := Hd h7.1
      have HO7 := Hd h7.2
      clear h7 HA6 HA5 HO5 HO6 HTK b0 b1 b2 b3 b4 b5 b6 fz6 e0 e1 e2 e3 e4 e5 e6 hS hHeld
      have hnm7 : ∀ (i : Nat) (x : Lc), (⟨tb, 40, [.int .i64 (t.1 : Int), .string ⟨t.2.1.toArray⟩, .int .i64 (t.2.2 : Int)]⟩ :: ⟨k, 26, [.int .i64 1, .string ⟨(nm ++ q.2.1).toArray⟩, .slice Av l.length cv, .slice none 0 0, .slice none 0 0, .int .i64 0, .int .i64 0]⟩ :: Ls)[i]? = some x → x.t ≠ 9 := fun i x hx => by
       match i with
       | 0 => simp only [List.getElem?_cons_zero, Option.some.injEq] at hx; subst hx; show (40 : TypeId) ≠ 9; decide
       | 1 => simp only [List.getElem?_cons_succ, List.getElem?_cons_zero, Option.some.injEq] at hx; subst hx; show (26 : TypeId) ≠ 9; decide
       | i + 2 => exact HLS.out i x (by simpa using hx)
      have HNM := Hd hnm7
      obtain ⟨a, a0, a1, a2, a3, a4, a5, a6⟩ := HA7.out.c7 1 rfl
      clear hnm7
      go_wp2_with (go_at_call 40; refine (HDC.out _ HA7.out.pa HO7.out HA7.out.size).mono ?_; rintro e w8 ⟨v8, rfl, hc8, hp8, ho8, hv8⟩; obtain ⟨A8, c8, rfl, -, -⟩ := SsN.form ho8; have HO8 := Hd ho8; have HE8 := Hd (HA7.out.names HNM.out HO7.out hc8 hp8); obtain ⟨a, a0, a1, a2, a3, a4, a5, a6⟩ := HE8.out.c7 1 rfl; have fz := HE8.out.fz 1 rfl; clear hc8 hp8 ho8 hv8)
      go_roundg f
      case measure => omega
      case rel => exact ⟨pd.2, nm ++ q.2.1, pd.1, _, HE8.out.put 1 rfl 2 _, HO8.out.put (HE8.out.blk 1 rfl) (by decide) (chg_set _ _ _ _), HBA.out.mv HMD.out, fun hk => by have := HDA.out hk; omega, by simp only [List.length_append]; omega, by have := HL.out; omega, HR3.out⟩
theorem numL_stop {x : Lx.Txt} {n : Nat} (h : 255 < n) : Rs.numL x n = n := by
 cases x with
 | nil => rfl
 | cons b r => unfold Rs.numL; rw [if_neg (by omega)]
theorem numL_step {x : Lx.Txt} {k n : Nat} {b : UInt8} (h : x[k]? = some b) (hn : n ≤ 255) : Rs.numL (x.drop k) n = Rs.numL (x.drop (k + 1)) (n * 10 + (b - 48).toNat) := by
 obtain ⟨hk, rfl⟩ := List.getElem?_eq_some_iff.1 h
 rw [List.drop_eq_getElem_cons hk, Rs.numL, if_pos hn]
theorem sub48 (b : UInt8) : (((b - 48).toNat : Nat) : Int) = ((b.toNat : Int) - 48) % 256 := by
 rw [UInt8.toNat_sub]
 have : (48 : UInt8).toNat = 48 := rfl
 rw [this]
 omega
set_option maxRecDepth 20000 in
theorem rprimi_any {w : World} {g c fin : Nat} {A : Option Addr} {T : List Lx.Tk} {s : Rs.RS} (hT : Ps.Fits 65536 T) (h : RA w g A c (Rs.toks T fin) s) (hb : Rs.Bd T s) :
  Calls Tryz.prog 23 #[.pointer (some ⟨g, 0, none⟩)] w fun e w' => e = .returned (.int .i64 ((Rs.primi (Rs.toks T fin) s).1 : Nat)) ∧ RP w g A c (Rs.toks T fin) (Rs.primi (Rs.toks T fin) s).2 w' := by
 have hTl := hT.len
 have hs := hb.le hTl
 have hsa := hb.at_
 have E0 := Ev.start h
 have HI := Hd (ris_z h hb.lt 3 [60] (z := 3) rfl (xs := #[60]) rfl)
 have HB := Hd hb
 obtain ⟨R, hR⟩ : ∃ R, Rs.primi (Rs.toks T fin) s = R := ⟨_, rfl⟩
 rw [hR]
 clear h hb
 cases hi : Rs.is_ (Rs.toks T fin) 3 [60] s with
 | false =>
  have HE2 : Hid (R = (0, s)) := Hd (by rw [← hR, Rs.primi, if_pos (by rw [hi]; rfl)])
  rw [hi] at HI
  clear hi hR
  go_enter Tryz.func23, Tryz.ntmps23
  go_wp2_with (go_at_call 38; refine HI.out.mono ?_; rintro e w1 ⟨rfl, hb⟩; have E1 := E0.below hb)
  go_ret
  rw [HE2.out]
  exact ⟨rfl, E1.pp⟩
 | true =>
  rw [hi] at HI
  have hlt := Rs.is_lt (by decide) hi
  have HBA := Hd (HB.out.adv hlt)
  obtain ⟨q1, hq1⟩ : ∃ q, Rs.take (Rs.toks T fin) 2 [112, 114, 105, 109, 105, 116, 105, 118, 101, 58] (Rs.adv s) = q := ⟨_, rfl⟩
  have HM1 : Hid (Rs.Mv T (Rs.adv s) q1.2) := Hd (by rw [← hq1]; exact Rs.mv_take (by decide) _ _)
  have HB1 := Hd (HBA.out.mv HM1.out)
  obtain ⟨q2, hq2⟩ : ∃ q, Rs.take (Rs.toks T fin) 4 [] q1.2 = q := ⟨_, rfl⟩
  have HM2 : Hid (Rs.Mv T q1.2 q2.2) := Hd (by rw [← hq2]; exact Rs.mv_take (by decide) _ _)
  have HB2 := Hd (HB1.out.mv HM2.out)
  have hqt : Rs.bad q2.2 = false → q2.1.2.1.length ≤ 65536 := fun h => by
   rw [← hq2] at h ⊢
   rw [Rs.take_yes (Rs.take_adv h).2]
   exact tok_txt hT _
  have HQT := Hd hqt
  have HEB : Hid (R = if Rs.bad q2.2 then (0, q2.2) else (Rs.numL q2.1.2.1 0, (Rs.take (Rs.toks T fin) 3 [62] (if 255 < Rs.numL q2.1.2.1 0 then Rs.fail q2.2 123 q2.1.2.2 else q2.2)).2)) := Hd (by rw [← hR, Rs.primi, if_neg (by rw [hi]; decide), hq1]; dsimp only; rw [hq2])
  have HT1 := Hd fun (W : World) (h : RA W g A c (Rs.toks T fin) (Rs.adv s)) => rtake_z h (HBA.out).lt ((HBA.out).le hTl) 2 [112, 114, 105, 109, 105, 116, 105, 118, 101, 58] (z := 2) rfl (xs := #[112, 114, 105, 109, 105, 116, 105, 118, 101, 58]) rfl
  have HT2 := Hd fun (W : World) (h : RA W g A c (Rs.toks T fin) q1.2) => rtake_z h (HB1.out).lt ((HB1.out).le hTl) 4 [] (z := 4) rfl (xs := #[]) rfl
  rw [hq1] at HT1
  rw [hq2] at HT2
  clear hi hR hq1 hq2 hqt
  go_enter Tryz.func23, Tryz.ntmps23
  go_upto_region 3 with (go_at_call 38; refine HI.out.mono ?_; rintro e w1 ⟨rfl, hb⟩; have E1 := E0.below hb; clear hb)
  clear E0 HI
  obtain ⟨k0, k1, k2, k3, k4⟩ := E1.pa.cells
  have kf := E1.pa.frz 1
  have hg := E1.pa.lt
  go_upto_region 4 with fail
  refine wp_world (Ev w g A c (Rs.toks T fin) (Rs.adv s) []) (E1.setAt (s.at_ + 1) _ (by omega)) fun w2 E2 => ?_
  clear E1 k0 k1 k2 k3 k4 kf hg
  obtain ⟨t1, s1⟩ := q1
  obtain ⟨t, s2⟩ := q2
  dsimp only at HM1 HB1 HM2 HB2 HQT HEB HT1 HT2
  go_upto_region 6 with (first
   | (go_at_call 41; with_reducible refine (HT1.out _ E2.pa).mono ?_; rintro e w3 ⟨rfl, hp⟩; have E3 := E2.call hp; clear hp)
   | (go_at_call 41; with_reducible refine (HT2.out _ E3.pa).mono ?_; rintro e w4 ⟨rfl, hp⟩; have E4 := E3.call hp; clear hp))
  refine wp_world (Ev w g A c (Rs.toks T fin) s2 _) (E4.box 40 [_, _, _]) fun w5 E5 => ?_
  clear E2 E3 E4 HT1 HT2
  have HBD := Hd fun (W : World) (h : RA W g A c (Rs.toks T fin) s2) => rbad_any h
  cases hk : Rs.bad s2 with
  | true =>
   have HE2 : Hid (R = (0, s2)) := Hd (by rw [HEB.out, if_pos hk])
   rw [hk] at HBD
   clear hk
   go_wp2_with (go_at_call 26; refine (HBD.out _ E5.pa).mono ?_; rintro e w6 ⟨rfl, rfl⟩)
   go_ret
   rw [HE2.out]
   exact ⟨rfl, E5.pp⟩
  | false =>
   have htl := HQT.out hk
   obtain ⟨N, hN⟩ : ∃ N, Rs.numL t.2.1 0 = N := ⟨_, rfl⟩
   have HEC : Hid (R = (N, (Rs.take (Rs.toks T fin) 3 [62] (if 255 < N then Rs.fail s2 123 t.2.2 else s2)).2)) := Hd (by rw [HEB.out, if_neg (by rw [hk]; decide), hN])
   have HN := Hd hN
   rw [hk] at HBD
   clear hk hN
   obtain ⟨a, a0, a1, a2⟩ := E5.c3 0 rfl
   obtain ⟨sx, hsx⟩ : ∃ sx : ByteArray, (⟨t.2.1.toArray⟩ : ByteArray) = sx := ⟨_, rfl⟩
   have hsz : sx.size = t.2.1.length := by rw [← hsx]; show t.2.1.toArray.size = _; simp
   have HDL : Hid (sx.data.toList = t.2.1) := Hd (by rw [← hsx])
   rw [hsx] at a1
   obtain ⟨n0, hn0⟩ : ∃ n0, sx.size = n0 := ⟨_, rfl⟩
   have HE5 := Hd E5
   have HSZ := Hd hsz
   have hn0' : sx.size ≤ 65536 := by omega
   clear hsx E5 hsz hn0
   go_upto_block 0 with (go_at_call 26; refine (HBD.out _ HE5.out.pa).mono ?_; rintro e w6 ⟨rfl, rfl⟩)
   go_wp2
   go_loopw [4, 5] (fun nv iv wr => ∃ (k n : Nat), k ≤ sx.size ∧ iv = .int .i64 k ∧ nv = .int .i64 n ∧ n ≤ 3000 ∧ Rs.numL (t.2.1.drop k) n = N ∧ wr = w6) (fun _ iv _ => sx.size - (intOf iv).toNat)
   case atStart => exact ⟨0, 0, Nat.zero_le _, rfl, rfl, Nat.zero_le _, HN.out, rfl⟩
   case round =>
    obtain ⟨k, n, hk, rfl, rfl, hn, hnum, rfl⟩ := hrel
    have HNU := Hd hnum
    clear hnum HN
    by_cases hgo : k < sx.size ∧ n ≤ 255
    ·obtain ⟨hlt, hn255⟩ := hgo
     have d1 : ((k : Int) < (sx.size : Int)) := by omega
     have d2 : ((n : Int) ≤ 255) := by omega
     have hy := get_in hlt
     rw [HDL.out] at hy
     have HST := Hd (numL_step hy hn255)
     have HSB := Hd (sub48 (sx[k]'hlt))
     have hb256 := (sx[k]'hlt).toNat_lt
     have hbb : ((sx[k]'hlt) - 48).toNat < 256 := ((sx[k]'hlt) - 48).toNat_lt
     clear hy
     go_wp2
     go_roundw
     case rel => exact ⟨k + 1, n * 10 + ((sx[k]'hlt) - 48).toNat, hlt, by go_num, by rw [Int.natCast_add, HSB.out]; push_cast; rfl, by omega, by rw [← HST.out]; exact HNU.out, by first | rfl | trivial⟩
     case measure => simp [intOf]; omega
    ·have HNN : Hid (n = N) := Hd (by
      by_cases h1 : 255 < n
      ·rw [← HNU.out, numL_stop h1]
      ·rw [← HNU.out, List.drop_eq_nil_of_le (by rw [← HSZ.out]; omega)]; rfl)
     by_cases h1 : k < sx.size
     ·have h2 : ¬ n ≤ 255 := fun e => hgo ⟨h1, e⟩
      have d1 : decide ((k : Int) < (sx.size : Int)) = true := by simpa using h1
      have d2 : decide ((n : Int) ≤ 255) = false := by simp; omega
      clear hgo
      by_cases hbig : 255 < n
      ·have d3 : (255 : Int) < (n : Int) := by omega
       have HTQ := Hd fun (W : World) (h : RA W g A c (Rs.toks T fin) (Rs.fail s2 123 t.2.2)) => rtake_z h ((HB2.out.mv (Rs.mv_fail _ _ _ _))).lt (((HB2.out.mv (Rs.mv_fail _ _ _ _))).le hTl) 3 [62] (z := 3) rfl (xs := #[62]) rfl
       have HE2 : Hid (R = (n, (Rs.take (Rs.toks T fin) 3 [62] (Rs.fail s2 123 t.2.2)).2)) := Hd (by rw [HEC.out, ← HNN.out, if_pos hbig])
       go_wp2_with (first
        | (go_at_call 42; refine (rfail_any HE5.out.pa 123 t.2.2 (by decide)).mono ?_; rintro e w7 ⟨rfl, hp⟩; have E7 := HE5.out.call hp; clear hp)
        | (go_at_call 41; refine (HTQ.out _ E7.pa).mono ?_; rintro e w8 ⟨rfl, hp⟩; have E8 := E7.call hp; clear hp))
       go_ret
       rw [HE2.out]
       exact ⟨rfl, E8.pp⟩
      ·omega
     ·have d1 : decide ((k : Int) < (sx.size : Int)) = false := by simpa using h1
      clear hgo
      by_cases hbig : 255 < n
      ·have d3 : (255 : Int) < (n : Int) := by omega
       have HTQ := Hd fun (W : World) (h : RA W g A c (Rs.toks T fin) (Rs.fail s2 123 t.2.2)) => rtake_z h ((HB2.out.mv (Rs.mv_fail _ _ _ _))).lt (((HB2.out.mv (Rs.mv_fail _ _ _ _))).le hTl) 3 [62] (z := 3) rfl (xs := #[62]) rfl
       have HE2 : Hid (R = (n, (Rs.take (Rs.toks T fin) 3 [62] (Rs.fail s2 123 t.2.2)).2)) := Hd (by rw [HEC.out, ← HNN.out, if_pos hbig])
       go_wp2_with (first
        | (go_at_call 42; refine (rfail_any HE5.out.pa 123 t.2.2 (by decide)).mono ?_; rintro e w7 ⟨rfl, hp⟩; have E7 := HE5.out.call hp; clear hp)
        | (go_at_call 41; refine (HTQ.out _ E7.pa).mono ?_; rintro e w8 ⟨rfl, hp⟩; have E8 := E7.call hp; clear hp))
       go_ret
       rw [HE2.out]
       exact ⟨rfl, E8.pp⟩
      ·have d3 : ¬ ((255 : Int) < (n : Int)) := by omega
       have HTQ := Hd fun (W : World) (h : RA W g A c (Rs.toks T fin) s2) => rtake_z h (HB2.out).lt ((HB2.out).le hTl) 3 [62] (z := 3) rfl (xs := #[62]) rfl
       have HE2 : Hid (R = (n, (Rs.take (Rs.toks T fin) 3 [62] s2).2)) := Hd (by rw [HEC.out, ← HNN.out, if_neg hbig])
       go_wp2_with (go_at_call 41; refine (HTQ.out _ HE5.out.pa).mono ?_; rintro e w8 ⟨rfl, hp⟩; have E8 := HE5.out.call hp; clear hp)
       go_ret
       rw [HE2.out]
       exact ⟨rfl, E8.pp⟩
namespace Rs
theorem mv_patL {T : List Lx.Tk} {fin : Nat} : ∀ (f : Nat) (n : Lx.Txt) (l : List Lx.Txt) (s : RS), Mv T s (patL (toks T fin) f n l s).2.2
 | 0, _, _, s => Mv.refl T s
 | f + 1, n, l, s => by
  unfold patL
  split
  ·rename_i h; exact ((mv_adv (is_lt (by decide) h)).trans (mv_decl l _)).trans (mv_patL f _ _ _)
  ·exact Mv.refl T s
theorem mv_pat {T : List Lx.Tk} {fin : Nat} (s : RS) : Mv T s (pat (toks T fin) s).2.2 := by
 unfold pat
 dsimp only
 split
 ·rename_i h; exact mv_adv (is_lt (by decide) h)
 ·split
  ·rename_i h; exact (mv_adv (bin_lt h).1).trans (mv_decl _ _)
  ·split
   ·exact mv_patL _ _ _ _
   ·exact mv_fail _ _ _ _
theorem mv_primi {T : List Lx.Tk} {fin : Nat} (s : RS) : Mv T s (primi (toks T fin) s).2 := by
 unfold primi
 split
 ·exact Mv.refl T s
 ·rename_i h
  have h' : is_ (toks T fin) 3 [60] s = true := by simpa using h
  have h1 := (mv_adv (is_lt (by decide) h')).trans (mv_take (T := T) (fin := fin) (k := 2) (by decide) [112, 114, 105, 109, 105, 116, 105, 118, 101, 58] (adv s))
  have h2 := h1.trans (mv_take (T := T) (fin := fin) (k := 4) (by decide) [] _)
  dsimp only
  split
  ·exact h2
  ·refine Mv.trans (h2.trans ?_) (mv_take (by decide) _ _)
   split
   ·exact mv_fail _ _ _ _
   ·exact Mv.refl T _
end Rs
theorem own_setN {w : World} {base g j : Nat} {e : TypeId} {size n : Nat} {v : Value} {xs : List Value} (h : w.ownsRow base e size v n xs) (hg : v.ownBlock = some g) (u : Value) : (w.setCell ⟨g, j, none⟩ u).ownsRow base e size v n (xs.set j u) := by
 refine ⟨by rw [List.length_set]; exact h.1, ?_⟩
 rcases h.2 with ⟨rfl, _⟩ | ⟨g', cap, cur, rfl, hb, hgg, hn, hm, hc, ht⟩
 ·simp [Value.ownBlock] at hg
 ·have : g' = g := by simpa [Value.ownBlock] using hg
  subst this
  refine .inr ⟨g', cap, cur.setIfInBounds j u, rfl, hb, ?_, hn, hm, by simp [hc], ?_⟩
  ·simp [World.setCell, Array.getElem?_modify, hgg]
  ·rw [← ht]
   simp [List.take_set]
def TopP (w : World) (r : Ps.Tr × Nat × Nat) (e : Ending) (w' : World) : Prop := ∃ cs, e = .returned (.tuple #[.agg cs.toArray, .int .i64 (r.2.1 : Int), .int .i64 (r.2.2 : Int)]) ∧ Below w.heap.size w w' ∧ TrM w' w.heap.size (fun _ => False) cs r.1
structure RMe (w : World) (g : Nat) (A : Option Addr) (c : Nat) (L : List Lx.Tk) (k : Nat) (Ls : List Lc) (nm : Lx.Txt) (a : List Lx.Txt) (vA : Value) (b : List Lx.Txt) (vB : Value) (r : List Ps.Tr) (vR : Value) (pr : Nat) (s' : Rs.RS) (wr : World) : Prop where
 env : Ev w g A c L s' (⟨k, 26, [.int .i64 1, .string ⟨nm.toArray⟩, vA, vB, vR, .int .i64 (pr : Int), .int .i64 0]⟩ :: Ls) wr
 ra : SsN wr w.heap.size vA a
 rb : SsN wr w.heap.size vB b
 rr : TsM wr w.heap.size (· = k) vR r
section
variable {w wr w1 : World} {g c k pr pr' : Nat} {A : Option Addr} {L : List Lx.Tk} {Ls : List Lc} {nm : Lx.Txt} {s' s1 : Rs.RS} {a a' b b' : List Lx.Txt} {vA vB vR v' : Value} {r r' : List Ps.Tr}
theorem RMe.below (h : RMe w g A c L k Ls nm a vA b vB r vR pr s' wr) (hb : Below wr.heap.size wr w1) : RMe w g A c L k Ls nm a vA b vB r vR pr s' w1 := ⟨h.env.below hb, h.ra.below hb, h.rb.below hb, h.rr.below hb⟩
theorem RMe.call (h : RMe w g A c L k Ls nm a vA b vB r vR pr s' wr) (hp : RP wr g A c L s1 w1) : RMe w g A c L k Ls nm a vA b vB r vR pr s1 w1 := ⟨h.env.call hp, h.ra.call hp.1 h.env.gl, h.rb.call hp.1 h.env.gl, h.rr.call hp.1 h.env.gl⟩
theorem RMe.prim (h : RMe w g A c L k Ls nm a vA b vB r vR pr s' wr) (pr' : Nat) : RMe w g A c L k Ls nm a vA b vB r vR pr' s' (wr.setCell ⟨k, 5, none⟩ (.int .i64 (pr' : Int))) :=
 ⟨h.env.put 0 rfl 5 _, h.ra.put (h.env.blk 0 rfl) (by decide) (chg_set _ _ _ _), h.rb.put (h.env.blk 0 rfl) (by decide) (chg_set _ _ _ _), h.rr.store (chg_set _ _ _ _) fun _ e => e⟩
theorem RMe.temps (h : RMe w g A c L k Ls nm a vA b vB r vR pr s' wr) (ho : SsN wr w.heap.size v' b') : RMe w g A c L k Ls nm a vA b' v' r vR pr s' (wr.setCell ⟨k, 3, none⟩ v') :=
 ⟨h.env.put 0 rfl 3 _, h.ra.put (h.env.blk 0 rfl) (by decide) (chg_set _ _ _ _), ho.put (h.env.blk 0 rfl) (by decide) (chg_set _ _ _ _), h.rr.store (chg_set _ _ _ _) fun _ e => e⟩
theorem RMe.nodes (h : RMe w g A c L k Ls nm a vA b vB r vR pr s' wr) (ho : TsM wr w.heap.size (· = k) v' r') : RMe w g A c L k Ls nm a vA b vB r' v' pr s' (wr.setCell ⟨k, 4, none⟩ v') :=
 ⟨h.env.put 0 rfl 4 _, h.ra.put (h.env.blk 0 rfl) (by decide) (chg_set _ _ _ _), h.rb.put (h.env.blk 0 rfl) (by decide) (chg_set _ _ _ _), ho.store (chg_set _ _ _ _) fun _ e => e⟩
theorem RMe.tree {A1 A2 A3 : Option Addr} {n1 n2 n3 c1 c2 c3 : Nat} (h : RMe w g A c L k Ls nm a (.slice A1 n1 c1) b (.slice A2 n2 c2) r (.slice A3 n3 c3) pr s' wr) : TrM wr w.heap.size (fun _ => False) [.int .i64 1, .string ⟨nm.toArray⟩, .slice A1 n1 c1, .slice A2 n2 c2, .slice A3 n3 c3, .int .i64 (pr : Int), .int .i64 0] (.mk 1 nm a b r pr 0) := by
 obtain ⟨_, _, e1, _, _⟩ := SsN.form h.ra
 obtain ⟨_, _, e2, _, _⟩ := SsN.form h.rb
 obtain ⟨_, _, e3, _, _⟩ := h.rr.form
 injection e1 with _ e1 _
 injection e2 with _ e2 _
 injection e3 with _ e3 _
 subst e1 e2 e3
 have ne : ∀ (vX : Value) (x : List Lx.Txt), SsN wr w.heap.size vX x → ∀ q, vX.ownBlock = some q → ¬ (q = k) := fun vX x hx q hq e => by
  subst e
  exact own_blk_ne hx (h.env.blk 0 rfl) (by decide) hq
 exact TrM.swap (TrM.node 1 nm pr 0 h.ra (ne _ _ h.ra) h.rb (ne _ _ h.rb) h.rr) (fun q _ _ e => e.elim)
end
theorem TopP.put {w w0 W : World} {k2 : Nat} {x0 x1 x2 x3 x4 x5 x6 : Value} {tr : Ps.Tr} (hk : w.heap.size ≤ k2) (hk2 : k2 < w0.heap.size) (hB : Below w.heap.size w W) (ht : TrM W w0.heap.size (fun _ => False) [x0, x1, x2, x3, x4, x5, x6] tr) (p e : Nat) :
  TopP w (tr, p, e) (.returned (.tuple #[.agg #[x0, x1, x2, x3, x4, x5, x6], .int .i64 (p : Int), .int .i64 (e : Int)])) (((((((W.setCell ⟨k2, 0, none⟩ x0).setCell ⟨k2, 1, none⟩ x1).setCell ⟨k2, 2, none⟩ x2).setCell ⟨k2, 3, none⟩ x3).setCell ⟨k2, 4, none⟩ x4).setCell ⟨k2, 5, none⟩ x5).setCell ⟨k2, 6, none⟩ x6) :=
 ⟨_, rfl, below_set7 hB hk _ _ _ _ _ _ _, TrM.low (ht.chg (chg_set7 _ _ _ _ _ _ _ _ _) fun k h1 _ _ e => by omega) (by omega)⟩
theorem TopP.drew {w W : World} {r : Ps.Tr × Nat × Nat} {e : Ending} (h : TopP w r e W) : TopP w r e W.drew := by
 obtain ⟨cs, h1, h2, h3⟩ := h
 exact ⟨cs, h1, h2.drew, TrM.below h3 (Below.refl _ _).drew⟩
theorem lexT_len (x : Lx.Txt) (h : (Lx.lexT x).2.2 = 0) : x.length ≤ 65536 := by
 unfold Lx.lexT at h
 split at h
 ·cases h
 ·omega
def rTop (x : Lx.Txt) (m : List Lx.Tk → Nat → Ps.Tr × Rs.RS) : Ps.Tr × Nat × Nat := if (Lx.lexT x).2.2 = 0 then Rs.finish (m (Rs.toks (Lx.lexT x).1 x.length) (10 * (Lx.lexT x).1.length + 10)) else (Ps.Tr.zero, (Lx.lexT x).2.1, (Lx.lexT x).2.2)
set_option maxRecDepth 20000 in
theorem rparse_any (x : Lx.Txt) (w : World) (hm : x.length ≤ 9223372036854775807) : Calls Tryz.prog 5 #[.string ⟨x.toArray⟩] w (TopP w (rTop x fun L f => Rs.meth L f)) := by
 have HRD := Hd fun (W : World) => rreader_any x W hm
 have hfit := Ps.lexT_fits x
 have HLL := Hd (lexT_len x)
 unfold rTop
 unfold RdrP at HRD
 generalize Lx.lexT x = r at *
 obtain ⟨T, pl, er⟩ := r
 dsimp only at HRD hfit HLL ⊢
 have hT := hfit.len
 have HF := Hd hfit
 clear hfit
 go_enter Tryz.func5, Tryz.ntmps5
 go_upto_region 1 with fail
 have hk0 : Blk (w.alloc (.cells #[.int .i64 0, .string ⟨#[]⟩, .slice none 0 0, .slice none 0 0, .slice none 0 0, .int .i64 0, .int .i64 0] 26)) w.heap.size 26 #[.int .i64 0, .string ⟨#[]⟩, .slice none 0 0, .slice none 0 0, .slice none 0 0, .int .i64 0, .int .i64 0] := Blk.new _ _ _
 have hb0 : Below w.heap.size w (w.alloc (.cells #[.int .i64 0, .string ⟨#[]⟩, .slice none 0 0, .slice none 0 0, .slice none 0 0, .int .i64 0, .int .i64 0] 26)) := new_below _ _
 have hz0 : (w.alloc (.cells #[.int .i64 0, .string ⟨#[]⟩, .slice none 0 0, .slice none 0 0, .slice none 0 0, .int .i64 0, .int .i64 0] 26)).heap.size = w.heap.size + 1 := by simp
 refine wp_world (fun W => Blk W w.heap.size 26 #[.int .i64 0, .string ⟨#[]⟩, .slice none 0 0, .slice none 0 0, .slice none 0 0, .int .i64 0, .int .i64 0] ∧ Below w.heap.size w W ∧ W.heap.size = w.heap.size + 1) ⟨hk0, hb0, hz0⟩ fun w0 h0 => ?_
 obtain ⟨hk0, hb0, hz0⟩ := h0
 have HK0 := Hd hk0
 have HB0 := Hd hb0
 clear hk0 hb0
 by_cases he : er = 0
 ·rw [if_pos he]
  have HFT := Hd (HLL.out he)
  go_upto_region 2 with (go_at_call 21; refine (HRD.out _).mono ?_; rintro e w1 ⟨hb, h1⟩; rcases h1 with ⟨h1, -⟩ | ⟨-, g, A, c, rfl, hg, hra⟩; exact absurd he h1; have HB1 := Hd hb; have E0 := Ev.start hra; have HGG := Hd hg; clear hb hg hra)
  have HER := Hd he
  clear he
  have HK1 := Hd (HK0.out.below HB1.out HK0.out.lt)
  have HBW := Hd (HB0.out.trans (HB1.out.mono (by omega)))
  have hgw : w.heap.size < g := by have := HGG.out; omega
  have hk2l := HK1.out.lt
  refine wp_world (Ev w1 g A c (Rs.toks T x.length) ⟨0, 0, none⟩ _) (E0.box 56 [_, _]) fun w2 E1 => ?_
  clear E0
  have c6 := (E1.blk 0 rfl).cell 0
  have c6l := (E1.blk 0 rfl).lt
  go_upto_region 5 with fail
  refine wp_world (Ev w1 g A c (Rs.toks T x.length) ⟨0, 0, none⟩ _) (E1.box 26 [.int .i64 1, .string ⟨#[]⟩, .slice none 0 0, .slice none 0 0, .slice none 0 0, .int .i64 0, .int .i64 0]) fun w3 E2 => ?_
  clear E1 c6 c6l
  obtain ⟨t7, ht7⟩ : ∃ t7, w2.heap.size = t7 := ⟨_, rfl⟩
  rw [ht7] at E2 ⊢
  clear ht7
  have hBd0 : Rs.Bd T ⟨0, 0, none⟩ := ⟨Nat.zero_le _, by decide, by decide, fun _ => by decide⟩
  obtain ⟨pp, hpp⟩ : ∃ p, Rs.pat (Rs.toks T x.length) ⟨0, 0, none⟩ = p := ⟨_, rfl⟩
  have HM1 : Hid (Rs.Mv T ⟨0, 0, none⟩ pp.2.2) := Hd (by rw [← hpp]; exact Rs.mv_pat _)
  have HB1' := Hd (hBd0.mv HM1.out)
  obtain ⟨pq, hpq⟩ : ∃ p, Rs.primi (Rs.toks T x.length) pp.2.2 = p := ⟨_, rfl⟩
  have HM2 : Hid (Rs.Mv T pp.2.2 pq.2) := Hd (by rw [← hpq]; exact Rs.mv_primi _)
  have HB2 := Hd (HB1'.out.mv HM2.out)
  obtain ⟨pv, hpv⟩ : ∃ p, Rs.temps (Rs.toks T x.length) pq.2 = p := ⟨_, rfl⟩
  have HM3 : Hid (Rs.Mv T pq.2 pv.2) := Hd (by rw [← hpv]; exact Rs.mv_temps HB2.out.at_)
  have HB3 := Hd (HB2.out.mv HM3.out)
  obtain ⟨pr, hpr⟩ : ∃ p, Rs.stL (Rs.toks T x.length) (10 * T.length + 10) [] [] pv.2 = p := ⟨_, rfl⟩
  have HE : Hid (Rs.meth (Rs.toks T x.length) (10 * T.length + 10) = (.mk 1 pp.1 pp.2.1 pv.1 pr.1 pq.1 0, pr.2)) := Hd (by unfold Rs.meth; rw [hpp]; dsimp only; rw [hpq, hpv, hpr])
  have HPT := Hd (rpat_any HF.out ⟨0, 0, none⟩ w1 w3 _ (fun i x hx => by
   match i with
   | 0 => simp only [List.getElem?_cons_zero, Option.some.injEq] at hx; subst hx; show (56 : TypeId) ≠ 9; decide
   | i + 1 => simp at hx) E2 hBd0)
  have HPR := Hd fun (W : World) (h : RA W g A c (Rs.toks T x.length) pp.2.2) => rprimi_any HF.out h HB1'.out
  have HTM := Hd fun (W : World) (h : RA W g A c (Rs.toks T x.length) pq.2) => rtemps_any h HB2.out hT
  have HST := Hd fun (W : World) (h : RA W g A c (Rs.toks T x.length) pv.2) => (rwall_any HF.out HFT.out (10 * T.length + 10)).stL [] pv.2 W h HB3.out (fun _ => by unfold Rs.rem; omega)
  have HBD := Hd fun (W : World) (h : RA W g A c (Rs.toks T x.length) pr.2) => rbad_any h
  rw [hpp] at HPT
  rw [hpq] at HPR
  rw [hpv] at HTM
  rw [hpr] at HST
  clear hpp hpq hpv hpr hBd0 E2 HRD
  go_upto_region 6 with (go_at_call 22; refine HPT.out.mono ?_; rintro e w4 ⟨vN, rfl, hE, hN⟩; obtain ⟨Nv, nv, rfl, -, -⟩ := SsN.form hN; have HM : Hid (RMe w1 g A c (Rs.toks T x.length) t7 _ pp.1 pp.2.1 _ [] _ [] _ 0 pp.2.2 w4) := Hd ⟨hE, hN, SsN.nil _ _, TsM.nil _ _ _⟩; clear hE hN)
  obtain ⟨a, a0, a1, a2, a3, a4, a5, a6⟩ := HM.out.env.c7 0 rfl
  go_upto_region 7 with (go_at_call 23; refine (HPR.out _ HM.out.env.pa).mono ?_; rintro e w5 ⟨rfl, hp⟩; have HM5 := Hd (HM.out.call hp); obtain ⟨a, a0, a1, a2, a3, a4, a5, a6⟩ := HM5.out.env.c7 0 rfl; have fz := HM5.out.env.fz 0 rfl; clear hp)
  refine wp_world (RMe w1 g A c (Rs.toks T x.length) t7 _ pp.1 pp.2.1 _ [] _ [] _ pq.1 pq.2) (HM5.out.prim pq.1) fun w6 hm6 => ?_
  have HM6 := Hd hm6
  clear hm6 HM HM5 a a0 a1 a2 a3 a4 a5 a6 fz
  go_upto_region 8 with (go_at_call 24; refine (HTM.out _ HM6.out.env.pa).mono ?_; rintro e w7 ⟨vT, rfl, hp, ho⟩; obtain ⟨Tv, tv, rfl, -, -⟩ := SsN.form ho; have HM7 := Hd (HM6.out.call hp); have HO7 : Hid (SsN w7 w1.heap.size _ pv.1) := Hd (own_low ho HM6.out.env.size); obtain ⟨a, a0, a1, a2, a3, a4, a5, a6⟩ := HM7.out.env.c7 0 rfl; have fz := HM7.out.env.fz 0 rfl; clear hp ho)
  refine wp_world (RMe w1 g A c (Rs.toks T x.length) t7 _ pp.1 pp.2.1 _ pv.1 _ [] _ pq.1 pv.2) (HM7.out.temps HO7.out) fun w8 hm8 => ?_
  have HM8 := Hd hm8
  clear hm8 HM6 HM7 HO7 a a0 a1 a2 a3 a4 a5 a6 fz
  have hk7 := (HM8.out.env.blk 0 rfl).lt
  go_upto_region 9 with (go_at_call 25; refine (HST.out _ HM8.out.env.pa).mono ?_; rintro e w9 ⟨vS, rfl, hp, hbs, hts⟩; obtain ⟨Sv, tvs, rfl, -, -⟩ := hts.form; have HM9 := Hd (HM8.out.call hp); have HO9 : Hid (TsM w9 w1.heap.size (· = t7) _ pr.1) := Hd ((hts.swap (X' := (· = t7)) fun k h1 _ e => by omega).low HM8.out.env.size); obtain ⟨a, a0, a1, a2, a3, a4, a5, a6⟩ := HM9.out.env.c7 0 rfl; have fz := HM9.out.env.fz 0 rfl; clear hp hts)
  refine wp_world (RMe w1 g A c (Rs.toks T x.length) t7 _ pp.1 pp.2.1 _ pv.1 _ pr.1 _ pq.1 pr.2) (HM9.out.nodes HO9.out) fun w10 hm10 => ?_
  have HM10 := Hd hm10
  clear hm10 HM8 HM9 HO9 a a0 a1 a2 a3 a4 a5 a6 fz hk7
  have HK10 := Hd (HM10.out.env.chg.blk HK1.out (by omega))
  have HBT : Hid (Below w.heap.size w w10) := Hd (HBW.out.trans (HM10.out.env.chg.below (by omega) fun k hk e => by omega))
  have b := HK10.out.lt
  have b0 := HK10.out.cell 0
  have b1 := HK10.out.cell 1
  have b2 := HK10.out.cell 2
  have b3 := HK10.out.cell 3
  have b4 := HK10.out.cell 4
  have b5 := HK10.out.cell 5
  have b6 := HK10.out.cell 6
  have fz := HK10.out.frozen
  cases hk : Rs.bad pr.2 with
  | false =>
   have hw : pr.2.wrong = none := by
    unfold Rs.bad at hk
    cases hs : pr.2.wrong with
    | none => rfl
    | some y => rw [hs] at hk; cases hk
   have HE2 : Hid (Rs.finish (Ps.Tr.mk 1 pp.1 pp.2.1 pv.1 pr.1 pq.1 0, pr.2) = (.mk 1 pp.1 pp.2.1 pv.1 pr.1 pq.1 0, 0, 0)) := Hd (by unfold Rs.finish; rw [hw])
   rw [hk] at HBD
   clear hk hw
   obtain ⟨a, a0, a1, a2, a3, a4, a5, a6⟩ := HM10.out.env.c7 0 rfl
   go_wp2_with (go_at_call 26; refine (HBD.out _ HM10.out.env.pa).mono ?_; rintro e w11 ⟨rfl, rfl⟩)
   refine bodyPost_ret (ret26x rfl _ _ rfl (HK10.out.set7 _ _ _ _ _ _ _)) rfl ?_
   rw [HE.out, HE2.out]
   exact TopP.put (Nat.le_refl _) hk2l HBT.out HM10.out.tree 0 0
  | true =>
   obtain ⟨y, hy⟩ : ∃ y, pr.2.wrong = some y := by
    unfold Rs.bad at hk
    cases hs : pr.2.wrong with
    | none => rw [hs] at hk; cases hk
    | some y => exact ⟨y, rfl⟩
   have HE2 : Hid (Rs.finish (Ps.Tr.mk 1 pp.1 pp.2.1 pv.1 pr.1 pq.1 0, pr.2) = (Ps.Tr.zero, y.1, y.2)) := Hd (by unfold Rs.finish; rw [hy])
   rw [hk] at HBD
   obtain ⟨g0, g1, g2, g3, g4⟩ := HM10.out.env.pa.cells
   have e3 : wrE pr.2 = y.2 := by unfold wrE; rw [hy]
   have e4 : wrP pr.2 = y.1 := by unfold wrP; rw [hy]
   rw [e3] at g3
   rw [e4] at g4
   have hgl := HM10.out.env.pa.lt
   have n1 : w.heap.size ≠ g := by omega
   clear hk hy e3 e4 g0 g1 g2
   go_upto_region 10 with (go_at_call 26; refine (HBD.out _ HM10.out.env.pa).mono ?_; rintro e w11 ⟨rfl, rfl⟩)
   go_region_held3 (fun W => W.cell? ⟨g, 3, none⟩ = some (.int .i64 (y.2 : Int)) ∧ W.cell? ⟨g, 4, none⟩ = some (.int .i64 (y.1 : Int))) (first | go_keep) ((first | fail))
   all_goals
    go_wp2
    refine bodyPost_ret (ret26x rfl _ _ rfl (HK10.out.set7 (.int .i64 0) (.string ⟨#[]⟩) (.slice none 0 0) (.slice none 0 0) (.slice none 0 0) (.int .i64 0) (.int .i64 0)).drew) rfl ?_
    rw [HE.out, HE2.out]
    exact (TopP.put (w0 := w1) (Nat.le_refl _) hk2l HBT.out (TrM.zero _ _ _) y.1 y.2).drew
 ·rw [if_neg he]
  have HER := Hd he
  go_upto_region 2 with (go_at_call 21; refine (HRD.out _).mono ?_; rintro e w1 ⟨hb, h1⟩; obtain ⟨-, rfl⟩ := h1.resolve_right (fun h => he h.1); have HB1 := Hd hb; clear hb)
  have d1 : ((er : Int) != 0) = true := by rw [bne_iff_ne]; omega
  clear he
  have HK1 := Hd (HK0.out.below HB1.out HK0.out.lt)
  have HBW := Hd (HB0.out.trans (HB1.out.mono (by omega)))
  have hk2l := HK1.out.lt
  refine wp_world (fun W => Blk W w1.heap.size 56 #[.int .i64 (er : Int), .int .i64 (pl : Int)] ∧ Blk W w.heap.size 26 #[.int .i64 0, .string ⟨#[]⟩, .slice none 0 0, .slice none 0 0, .slice none 0 0, .int .i64 0, .int .i64 0] ∧ Below w.heap.size w W) ⟨Blk.new _ _ _, HK1.out.alloc _, HBW.out.trans ((new_below _ _).mono (by omega))⟩ fun w2 h2 => ?_
  have HW2 := Hd h2.1
  have HK2 := Hd h2.2.1
  have HB2 := Hd h2.2.2
  clear h2 HK1 HBW
  have c0 := HW2.out.cell 0
  have c1 := HW2.out.cell 1
  have cl := HW2.out.lt
  have b := HK2.out.lt
  have b0 := HK2.out.cell 0
  have b1 := HK2.out.cell 1
  have b2 := HK2.out.cell 2
  have b3 := HK2.out.cell 3
  have b4 := HK2.out.cell 4
  have b5 := HK2.out.cell 5
  have b6 := HK2.out.cell 6
  have fz := HK2.out.frozen
  have n1 : w.heap.size ≠ w1.heap.size := by omega
  go_upto_region 3 with fail
  go_region_held3 (fun W => W.cell? ⟨w1.heap.size, 0, none⟩ = some (.int .i64 (er : Int)) ∧ W.cell? ⟨w1.heap.size, 1, none⟩ = some (.int .i64 (pl : Int))) (first | go_keep) ((first | fail))
  all_goals
   go_wp2
   refine bodyPost_ret (ret26x rfl _ _ rfl (HK2.out.set7 (.int .i64 0) (.string ⟨#[]⟩) (.slice none 0 0) (.slice none 0 0) (.slice none 0 0) (.int .i64 0) (.int .i64 0)).drew) rfl ?_
   exact (TopP.put (w0 := w1) (Nat.le_refl _) hk2l HB2.out (TrM.zero _ _ _) pl er).drew
section
variable {w : World} {base b : Nat} {X : Nat → Prop} {v : Value} {l0 : List Ps.Tr} {y y' : Ps.Tr}
theorem TsM.last (h : TsM w base X v (l0 ++ [y])) : ∃ b cap cs cur, v = .slice (some ⟨b, 0, none⟩) (l0.length + 1) cap ∧ base ≤ b ∧ ¬ X b ∧ l0.length + 1 ≤ maxLen ∧ Blk w b 26 cur ∧ TrM w base (fun q => X q ∨ q = b) cs y ∧ ∀ j u, cs[j]? = some u → w.cell? ⟨b, l0.length * 7 + j, none⟩ = some u := by
 obtain ⟨css, h1, h2, h4, h3⟩ := h
 have hl : (l0 ++ [y]).length = l0.length + 1 := by simp
 rw [hl] at h1 h2
 obtain ⟨css0, cs, rfl⟩ : ∃ a c, css = a ++ [c] := by
  rcases List.eq_nil_or_concat css with rfl | ⟨a, c, e⟩
  ·simp at h1
  ·exact ⟨a, c, by simpa using e⟩
 have h10 : css0.length = l0.length := by simpa using h1
 have hlast := h3 l0.length cs y (by rw [← h10]; simp) (by simp)
 have h7 : ∀ c ∈ css0, c.length = 7 := fun c hc => by
  obtain ⟨q, hq, rfl⟩ := List.getElem_of_mem hc
  exact TrIn.len (h3 q css0[q] l0[q] (by rw [List.getElem?_append_left hq]; exact List.getElem?_eq_getElem hq) (by rw [List.getElem?_append_left (by omega)]; exact List.getElem?_eq_getElem (by omega)))
 have hf := flat7 h7
 have hcel : ∀ g, v.ownBlock = some g → ∀ j u, (css0 ++ [cs]).flatten[j]? = some u → w.cell? ((⟨g, 0, none⟩ : Addr).add j) = some u := fun g hg => h2.cells hg
 rcases h2.2 with ⟨-, h0⟩ | ⟨g, cap, cur, rfl, hg, hb, hn, hm, hs, ht⟩
 ·omega
 ·refine ⟨g, cap, cs, cur, rfl, hg, h4 g rfl, by omega, hb, hlast.more fun k hk _ => ⟨hk.1, hk.2.1, fun e => ?_⟩, fun j u hu => ?_⟩
  ·rcases e with e | e
   ·exact hk.2.2.1 e
   ·exact hk.2.2.2 (by subst e; rfl)
  ·have := hcel g rfl (l0.length * 7 + j) u (by
    rw [List.flatten_append, List.getElem?_append_right (by omega), hf, h10]
    simpa using hu)
   have e : (⟨g, 0, none⟩ : Addr).add (l0.length * 7 + j) = ⟨g, l0.length * 7 + j, none⟩ := by unfold Addr.add; split <;> simp_all
   rwa [e] at this
theorem TsM.setLast {x0 x1 x2 x3 x4 x5 x6 : Value} (h : TsM w base X v (l0 ++ [y])) (hv : v.ownBlock = some b) (ht : TrM w base (fun q => X q ∨ q = b) [x0, x1, x2, x3, x4, x5, x6] y') :
  TsM (((((((w.setCell ⟨b, l0.length * 7, none⟩ x0).setCell ⟨b, l0.length * 7 + 1, none⟩ x1).setCell ⟨b, l0.length * 7 + 2, none⟩ x2).setCell ⟨b, l0.length * 7 + 3, none⟩ x3).setCell ⟨b, l0.length * 7 + 4, none⟩ x4).setCell ⟨b, l0.length * 7 + 5, none⟩ x5).setCell ⟨b, l0.length * 7 + 6, none⟩ x6) base X v (l0 ++ [y']) ∧
  Chg (· = b) w (((((((w.setCell ⟨b, l0.length * 7, none⟩ x0).setCell ⟨b, l0.length * 7 + 1, none⟩ x1).setCell ⟨b, l0.length * 7 + 2, none⟩ x2).setCell ⟨b, l0.length * 7 + 3, none⟩ x3).setCell ⟨b, l0.length * 7 + 4, none⟩ x4).setCell ⟨b, l0.length * 7 + 5, none⟩ x5).setCell ⟨b, l0.length * 7 + 6, none⟩ x6) := by
 have hC : Chg (· = b) w (((((((w.setCell ⟨b, l0.length * 7, none⟩ x0).setCell ⟨b, l0.length * 7 + 1, none⟩ x1).setCell ⟨b, l0.length * 7 + 2, none⟩ x2).setCell ⟨b, l0.length * 7 + 3, none⟩ x3).setCell ⟨b, l0.length * 7 + 4, none⟩ x4).setCell ⟨b, l0.length * 7 + 5, none⟩ x5).setCell ⟨b, l0.length * 7 + 6, none⟩ x6) :=
  ((((((chg_set w b (l0.length * 7) x0).setCell (p := ⟨b, l0.length * 7 + 1, none⟩) (fun _ => rfl) x1).setCell (p := ⟨b, l0.length * 7 + 2, none⟩) (fun _ => rfl) x2).setCell (p := ⟨b, l0.length * 7 + 3, none⟩) (fun _ => rfl) x3).setCell (p := ⟨b, l0.length * 7 + 4, none⟩) (fun _ => rfl) x4).setCell (p := ⟨b, l0.length * 7 + 5, none⟩) (fun _ => rfl) x5).setCell (p := ⟨b, l0.length * 7 + 6, none⟩) (fun _ => rfl) x6
 refine ⟨?_, hC⟩
 obtain ⟨css, h1, h2, h4, h3⟩ := h
 have hl : ∀ z : Ps.Tr, (l0 ++ [z]).length = l0.length + 1 := fun z => by simp
 rw [hl] at h1 h2
 obtain ⟨css0, cs, rfl⟩ : ∃ a c, css = a ++ [c] := by
  rcases List.eq_nil_or_concat css with rfl | ⟨a, c, e⟩
  ·simp at h1
  ·exact ⟨a, c, by simpa using e⟩
 have h10 : css0.length = l0.length := by simpa using h1
 have hlast := h3 l0.length cs y (by rw [← h10]; simp) (by simp)
 have h7 : ∀ c ∈ css0, c.length = 7 := fun c hc => by
  obtain ⟨q, hq, rfl⟩ := List.getElem_of_mem hc
  exact TrIn.len (h3 q css0[q] l0[q] (by rw [List.getElem?_append_left hq]; exact List.getElem?_eq_getElem hq) (by rw [List.getElem?_append_left (by omega)]; exact List.getElem?_eq_getElem (by omega)))
 have hf := flat7 h7
 obtain ⟨_, _, _, _, _, _, _, _, _, _, _, _, _, e7, -, -, -, -, -⟩ := hlast.seven
 refine ⟨css0 ++ [[x0, x1, x2, x3, x4, x5, x6]], by simp [h10], ?_, h4, fun i cs' t' hc' ht' => ?_⟩
 ·have hF : (css0 ++ [cs]).flatten = css0.flatten ++ cs := by simp
  have hF' : (css0 ++ [[x0, x1, x2, x3, x4, x5, x6]]).flatten = css0.flatten ++ [x0, x1, x2, x3, x4, x5, x6] := by simp
  rw [hl, hF']
  rw [hF] at h2
  have hst : ∀ (c : List Value) (j : Nat) (u : Value), (css0.flatten ++ c).set (l0.length * 7 + j) u = css0.flatten ++ c.set j u := fun c j u => by
   rw [List.set_append_right _ _ (by omega), hf, h10]
   congr 2
   omega
  have k := own_setN h2 hv (j := l0.length * 7 + 0) x0
  have k := own_setN k hv (j := l0.length * 7 + 1) x1
  have k := own_setN k hv (j := l0.length * 7 + 2) x2
  have k := own_setN k hv (j := l0.length * 7 + 3) x3
  have k := own_setN k hv (j := l0.length * 7 + 4) x4
  have k := own_setN k hv (j := l0.length * 7 + 5) x5
  have k := own_setN k hv (j := l0.length * 7 + 6) x6
  rw [hst, hst, hst, hst, hst, hst, hst, e7] at k
  exact k
 ·rcases Nat.lt_or_ge i l0.length with hi | hi
  ·rw [List.getElem?_append_left (by omega)] at hc' ht'
   refine ((h3 i cs' t' (by rw [List.getElem?_append_left (by omega)]; exact hc') (by rw [List.getElem?_append_left hi]; exact ht')).keep hC.size fun k hk hkl => hC.block k hkl fun e => hk.2.2.2 (by rw [hv, e])).more fun k hk _ => ⟨hk.1, Nat.lt_of_lt_of_le hk.2.1 hC.size, hk.2.2⟩
  ·rw [List.getElem?_append_right (by omega), h10] at hc'
   rw [List.getElem?_append_right hi] at ht'
   have h0 : i - l0.length = 0 := by
    rcases Nat.eq_zero_or_pos (i - l0.length) with e | e
    ·exact e
    ·rw [List.getElem?_eq_none (by simp; omega)] at hc'; cases hc'
   rw [h0] at hc' ht'
   simp only [List.getElem?_cons_zero, Option.some.injEq] at hc' ht'
   subst hc' ht'
   exact (TrIn.keep ht hC.size fun k hk hkl => hC.block k hkl fun e => hk.2.2 (.inr e)).more fun k hk _ => ⟨hk.1, Nat.lt_of_lt_of_le hk.2.1 hC.size, fun e => hk.2.2 (.inl e), fun e => hk.2.2 (.inr (by rw [hv] at e; injection e))⟩
end
end Go.Proofs.YtbnlnndeajjenaaGreat
