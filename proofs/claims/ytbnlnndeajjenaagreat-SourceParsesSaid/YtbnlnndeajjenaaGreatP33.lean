/-
 THE STATEMENT 'SourceParses' (effigylaw12.SourceParses): whatever the text, the law returns true, and the text reads behind the call as it read before.
-/
import Derived.Test.YtbnlnndeajjenaaGreatP31
import Derived.Test.YtbnlnndeajjenaaGreatP32
import Derived.Test.YtbnlnndeajjenaaGreatP09
import Derived.Test.YtbnlnndeajjenaaGreatP04
import Derived.Test.YtbnlnndeajjenaaGreatRows
import Derived.WalkKit
import Derived.ProofKit
import Derived.OpenShut
import Derived.ChangeOld
import Derived.ChangeMaps5
import Derived.Below
set_option maxHeartbeats 4000000
namespace Go.Proofs.YtbnlnndeajjenaaGreat
open Go.RowKit
theorem setN_alloc (w : World) (o : Obj) (k i0 i1 i2 i3 i4 i5 i6 : Nat) (y0 y1 y2 y3 y4 y5 y6 : Value) (hk : k < w.heap.size) :
  (((((((w.setCell ⟨k, i0, none⟩ y0).setCell ⟨k, i1, none⟩ y1).setCell ⟨k, i2, none⟩ y2).setCell ⟨k, i3, none⟩ y3).setCell ⟨k, i4, none⟩ y4).setCell ⟨k, i5, none⟩ y5).setCell ⟨k, i6, none⟩ y6).alloc o =
  ((((((((w.alloc o).setCell ⟨k, i0, none⟩ y0).setCell ⟨k, i1, none⟩ y1).setCell ⟨k, i2, none⟩ y2).setCell ⟨k, i3, none⟩ y3).setCell ⟨k, i4, none⟩ y4).setCell ⟨k, i5, none⟩ y5).setCell ⟨k, i6, none⟩ y6) := by
 have hs : ∀ (w : World) (i : Nat) (u : Value), (w.setCell ⟨k, i, none⟩ u).heap.size = w.heap.size := fun w i u => by simp [World.setCell]
 rw [set_alloc w o k i0 y0 hk, set_alloc _ o k i1 y1 (by rw [hs]; exact hk), set_alloc _ o k i2 y2 (by rw [hs, hs]; exact hk), set_alloc _ o k i3 y3 (by rw [hs, hs, hs]; exact hk), set_alloc _ o k i4 y4 (by rw [hs, hs, hs, hs]; exact hk), set_alloc _ o k i5 y5 (by rw [hs, hs, hs, hs, hs]; exact hk), set_alloc _ o k i6 y6 (by rw [hs, hs, hs, hs, hs, hs]; exact hk)]
theorem Env.other {w W W' : World} {g c fin b : Nat} {A : Option Addr} {T : List Lx.Tk} {s : Ps.PS} {L : List Lc} {cur : Array Value} (h : Env w g A c T fin s L W) (hc : Chg (· = b) W W') (hb : w.heap.size ≤ b) (hB : Blk W b 26 cur) (hL : ∀ (i : Nat) (x : Lc), L[i]? = some x → x.k ≠ b) : Env w g A c T fin s L W' := by
 have hgl := h.gl
 refine ⟨h.chg.trans hc (fun j hj e => by omega), ?_, hgl, fun i x hx => ⟨(h.loc i x hx).1, (h.loc i x hx).2.1, hc.blk (h.loc i x hx).2.2 (hL i x hx)⟩, h.nd⟩
 obtain ⟨⟨fv, p1, p2⟩, p3⟩ := h.pa
 have hgW := p1.lt
 refine ⟨⟨fv, hc.blk p1 (by omega), ?_⟩, ⟨p3.1, fun hn => ?_⟩⟩
 ·cases hs : s.fault with
  | none => rw [hs] at p2; exact p2
  | some x =>
   rw [hs] at p2
   obtain ⟨q, e, p2⟩ := p2
   exact ⟨q, e, hc.blk p2 (Blk.ne_ p2 hB (by decide))⟩
 ·obtain ⟨b', off, e, hb', hcl⟩ := p3.2 hn
  exact ⟨b', off, e, hb', fun j u hu => (cell_of_heap (hc.block b' (by omega) (by omega))).trans (hcl j u hu)⟩
theorem PMe.last {w wr : World} {g c k pr fin b : Nat} {A : Option Addr} {T : List Lx.Tk} {nm : Lx.Txt} {s' : Ps.PS} {a d : List Lx.Txt} {vA vB vR : Value} {l0 : List Ps.Tr} {y y' : Ps.Tr} {cur : Array Value} {x0 x1 x2 x3 x4 x5 x6 : Value}
  (h : PMe w g A c T fin k [] nm a vA d vB (l0 ++ [y]) vR pr s' wr) (hv : vR.ownBlock = some b) (hbk : b ≠ k) (hb : w.heap.size ≤ b) (hB : Blk wr b 26 cur) (ht : TrM wr w.heap.size (fun q => q = k ∨ q = b) [x0, x1, x2, x3, x4, x5, x6] y') :
  PMe w g A c T fin k [] nm a vA d vB (l0 ++ [y']) vR pr s' (((((((wr.setCell ⟨b, l0.length * 7, none⟩ x0).setCell ⟨b, l0.length * 7 + 1, none⟩ x1).setCell ⟨b, l0.length * 7 + 2, none⟩ x2).setCell ⟨b, l0.length * 7 + 3, none⟩ x3).setCell ⟨b, l0.length * 7 + 4, none⟩ x4).setCell ⟨b, l0.length * 7 + 5, none⟩ x5).setCell ⟨b, l0.length * 7 + 6, none⟩ x6) := by
 obtain ⟨h1, hC⟩ := h.rr.setLast hv ht
 exact ⟨h.env.other hC hb hB fun i x hx => by
  match i with
  | 0 => simp only [List.getElem?_cons_zero, Option.some.injEq] at hx; subst hx; exact Ne.symm hbk
  | i + 1 => simp at hx, own_chg h.ra hC fun q hq e => own_blk_ne h.ra hB (by decide) (by rw [hq, e]), own_chg h.rb hC fun q hq e => own_blk_ne h.rb hB (by decide) (by rw [hq, e]), h1⟩
set_option maxRecDepth 20000 in
theorem pparsedo_any (x : Lx.Txt) (w : World) (hm : x.length ≤ 9223372036854775807) : Calls Tryz.prog 8 #[.string ⟨x.toArray⟩] w (TopP w (pTop x fun T fin f => Ps.doit T fin f)) := by
 have HRD := Hd fun (W : World) => pbegin_any x W hm
 have hfit := Ps.lexT_fits x
 have HLL := Hd (lexT_len x)
 unfold pTop
 unfold BegP at HRD
 generalize Lx.lexT x = r at *
 obtain ⟨T, pl, er⟩ := r
 dsimp only at HRD hfit HLL ⊢
 have hT := hfit.len
 have HF := Hd hfit
 clear hfit
 by_cases he : er = 0
 ·rw [if_pos he]
  have HFT := Hd (HLL.out he)
  have d0 : ((er : Int) != 0) = false := by rw [he]; rfl
  have HER := Hd he
  clear he
  go_enter Tryz.func8, Tryz.ntmps8
  go_upto_region 1 with fail
  have hk0 : Blk (w.alloc (.cells #[.int .i64 0, .string ⟨#[]⟩, .slice none 0 0, .slice none 0 0, .slice none 0 0, .int .i64 0, .int .i64 0] 26)) w.heap.size 26 #[.int .i64 0, .string ⟨#[]⟩, .slice none 0 0, .slice none 0 0, .slice none 0 0, .int .i64 0, .int .i64 0] := Blk.new _ _ _
  have hb0 : Below w.heap.size w (w.alloc (.cells #[.int .i64 0, .string ⟨#[]⟩, .slice none 0 0, .slice none 0 0, .slice none 0 0, .int .i64 0, .int .i64 0] 26)) := new_below _ _
  have hz0 : (w.alloc (.cells #[.int .i64 0, .string ⟨#[]⟩, .slice none 0 0, .slice none 0 0, .slice none 0 0, .int .i64 0, .int .i64 0] 26)).heap.size = w.heap.size + 1 := by simp
  refine wp_world (fun W => Blk W w.heap.size 26 #[.int .i64 0, .string ⟨#[]⟩, .slice none 0 0, .slice none 0 0, .slice none 0 0, .int .i64 0, .int .i64 0] ∧ Below w.heap.size w W ∧ W.heap.size = w.heap.size + 1) ⟨hk0, hb0, hz0⟩ fun w0 h0 => ?_
  obtain ⟨hk0, hb0, hz0⟩ := h0
  have HK0 := Hd hk0
  have HB0 := Hd hb0
  clear hk0 hb0
  go_upto_region 2 with (go_at_call 10; refine (HRD.out _).mono ?_; rintro e w1 ⟨g, A, c, rfl, hb, hg, hra⟩; have HB1 := Hd hb; have HRA := Hd hra; have HGG := Hd hg; clear hb hg hra)
  have HK1 := Hd (HK0.out.below HB1.out HK0.out.lt)
  have HBW := Hd (HB0.out.trans (HB1.out.mono (by omega)))
  have hgw : w.heap.size < g := by have := HGG.out; omega
  have hk2l := HK1.out.lt
  clear HRD
  have E0 := Env.start HRA.out
  have HBd0 : Hid (Bd T ⟨0, 0, none⟩) := Hd ⟨by show 0 ≤ _; omega, fun _ => ⟨Nat.zero_le _, by decide, by decide⟩⟩
  obtain ⟨pv, hpv⟩ : ∃ p, Ps.temps T x.length ⟨0, 0, none⟩ = p := ⟨_, rfl⟩
  have HB3 : Hid (Bd T pv.2) := Hd (by rw [← hpv]; exact HBd0.out.temps)
  obtain ⟨pr, hpr⟩ : ∃ p, Ps.stL T x.length (10 * T.length + 9) [] [] pv.2 = p := ⟨_, rfl⟩
  obtain ⟨L, hL⟩ : ∃ L, (if pr.1.isEmpty then [Ps.nd 8 [110, 105, 108] [] x.length] else pr.1) = L := ⟨_, rfl⟩
  have HE : Hid (Ps.doit T x.length (10 * T.length + 9) = (.mk 1 [100, 111, 73, 116] [] pv.1 (L.dropLast ++ [if (L.getLastD Ps.Tr.zero).kind == 3 then L.getLastD Ps.Tr.zero else Ps.nd 3 [] [L.getLastD Ps.Tr.zero] (L.getLastD Ps.Tr.zero).place]) 0 0, pr.2)) := Hd (by unfold Ps.doit; dsimp only; rw [hpv, hpr, hL])
  have HLL2 := Hd hL
  have HTM := Hd fun (W : World) (h : PA W g A c T x.length ⟨0, 0, none⟩) => ptemps_any h hT
  have HST := Hd fun (W : World) (h : PA W g A c T x.length pv.2) => (wall_any HF.out (10 * T.length + 9)).stL [] pv.2 W h HB3.out (by unfold Ps.rem; omega)
  rw [hpv] at HTM
  rw [hpr] at HST
  clear hpv hpr hL
  go_upto_region 5 with (go_at_call 18; refine (HTM.out _ E0.pa).mono ?_; rintro e w3 ⟨vT, rfl, hp, ho⟩; obtain ⟨Tv, tv, rfl, -, -⟩ := SsN.form ho; have E1 := E0.call hp; have HO := Hd ho; clear hp ho)
  clear E0
  refine wp_world (fun W => PMe w1 g A c T x.length w3.heap.size [] [100, 111, 73, 116] [] (.slice none 0 0) pv.1 _ [] (.slice none 0 0) 0 pv.2 W) ⟨E1.box 26 [.int .i64 1, .string ⟨#[100, 111, 73, 116]⟩, .slice none 0 0, .slice Tv pv.1.length tv, .slice none 0 0, .int .i64 0, .int .i64 0] (by decide), SsN.nil _ _, HO.out.below (new_below _ _), TsM.nil _ _ _⟩ fun w8 hm8 => ?_
  obtain ⟨t7, ht7⟩ : ∃ t7, w3.heap.size = t7 := ⟨_, rfl⟩
  rw [ht7] at hm8 ⊢
  have HM8 := Hd hm8
  clear hm8 E1 HO HTM ht7
  have hk7 := (HM8.out.env.blk 0 rfl).lt
  go_upto_region 6 with (go_at_call 19; refine (HST.out _ HM8.out.env.pa).mono ?_; rintro e w9 ⟨vS, rfl, hp, hbs, hts⟩; obtain ⟨Sv, tvs, rfl, -, -⟩ := hts.form; have HM9 := Hd (HM8.out.call hp); have HO9 : Hid (TsM w9 w1.heap.size (· = t7) _ pr.1) := Hd ((hts.swap (X' := (· = t7)) fun k h1 _ e => by omega).low HM8.out.env.size); obtain ⟨a, a0, a1, a2, a3, a4, a5, a6⟩ := HM9.out.env.c7 0 rfl; have fz := HM9.out.env.fz 0 rfl; clear hp hts)
  refine wp_world (PMe w1 g A c T x.length t7 _ _ _ _ pv.1 _ pr.1 _ 0 pr.2) (HM9.out.nodes HO9.out) fun w10 hm10 => ?_
  have HM10 := Hd hm10
  clear hm10 HM8 HM9 HO9 a a0 a1 a2 a3 a4 a5 a6 fz hk7 HST
  obtain ⟨a, a0, a1, a2, a3, a4, a5, a6⟩ := HM10.out.env.c7 0 rfl
  have fz := HM10.out.env.fz 0 rfl
  go_upto_if 30 with fail
  go_cut [] (fun wx => ∃ A2 c2, PMe w1 g A c T x.length t7 [] [100, 111, 73, 116] [] (.slice none 0 0) pv.1 (.slice Tv pv.1.length tv) L (.slice A2 L.length c2) 0 pr.2 wx ∧ L ≠ [])
  case first =>
   by_cases h0 : pr.1.length = 0
   ·have d1 : ((pr.1.length : Int) == 0) = true := by rw [h0]; rfl
    have h00 : pr.1 = [] := List.length_eq_zero_iff.mp h0
    have HL3 : Hid (L = [Ps.nd 8 [110, 105, 108] [] x.length]) := Hd (by rw [← HLL2.out, h00]; rfl)
    clear h00 h0
    go_wp2
    go_meet
    rw [HL3.out]
    refine ⟨some ⟨w10.heap.size, 0, none⟩, 1, ?_, by simp⟩
    rw [← set_alloc _ _ _ _ _ a]
    have hs10 := HM10.out.env.size
    exact (HM10.out.below (new_below _ _)).nodes (TsM.one (cs := [_, _, _, _, _, _, _]) (TrM.leaf _ _ _ 8 [110, 105, 108] x.length) (by omega) (by omega))
   ·have d1 : ((pr.1.length : Int) == 0) = false := by rw [beq_eq_false_iff_ne]; omega
    have HL3 : Hid (L = pr.1 ∧ L ≠ []) := Hd (by
     have h00 : pr.1 ≠ [] := fun e => h0 (by rw [e]; rfl)
     have : pr.1.isEmpty = false := by simpa using h00
     rw [← HLL2.out, this]
     exact ⟨rfl, h00⟩)
    clear h0
    go_wp2
    go_meet
    rw [HL3.out.1]
    exact ⟨_, _, HM10.out, by rw [← HL3.out.1]; exact HL3.out.2⟩
  case rest =>
   obtain ⟨A2, c2, hM, hne⟩ := hcut
   clear a a0 a1 a2 a3 a4 a5 a6 fz HM10
   obtain ⟨l0, y, rfl⟩ : ∃ l0 y, L = l0 ++ [y] := ⟨L.dropLast, L.getLast hne, (List.dropLast_concat_getLast hne).symm⟩
   have HM := Hd hM
   clear hM hne
   obtain ⟨b, cap, cs, cur, hv, hbg, hbX, hbm, hblk, htr, hcells⟩ := HM.out.rr.last
   obtain ⟨ky, nm, B1, n1, d1, B2, n2, d2, B3, n3, d3', py, ply, rfl, hky, -, hpl, hn3, hn3c⟩ := htr.seven
   have e0 := hcells 0 _ rfl
   have e1 := hcells 1 _ rfl
   have e2 := hcells 2 _ rfl
   have e3 := hcells 3 _ rfl
   have e4 := hcells 4 _ rfl
   have e5 := hcells 5 _ rfl
   have e6 := hcells 6 _ rfl
   rw [Nat.add_zero] at e0
   have fz := hblk.frozen
   have HBK := Hd hblk
   have hB2 := Hd hblk.lt
   have HTR := Hd htr
   clear hblk htr hcells
   injection hv with hA hn hc
   subst hA hc
   obtain ⟨a, a0, a1, a2, a3, a4, a5, a6⟩ := HM.out.env.c7 0 rfl
   have hlen : (l0 ++ [y]).length = l0.length + 1 := by simp
   rw [hlen] at a4
   have HTT := Hd HM.out.tree
   rw [hlen] at HTT
   have HLN := Hd hlen
   clear hn hlen
   have hwr : IntKind.i64.wrap (l0.length : Int) = (l0.length : Int) := by rw [IntKind.wrap_i64]; simp only [maxLen] at hbm; omega
   by_cases h3 : ky = 3
   ·have d3 : ((ky : Int) != 3) = false := by rw [h3]; rfl
    have HEY : Hid (Ps.doit T x.length (10 * T.length + 9) = (.mk 1 [100, 111, 73, 116] [] pv.1 (l0 ++ [y]) 0 0, pr.2)) := Hd (by
     rw [HE.out, List.getLastD_concat, List.dropLast_concat, if_pos (by rw [hky, h3]; rfl)])
    clear h3
    have HK10 := Hd (HM.out.env.chg.blk HK1.out (by omega))
    have HBT : Hid (Below w.heap.size w wc) := Hd (HBW.out.trans (HM.out.env.chg.below (by omega) fun k hk e => by omega))
    obtain ⟨a, a0, a1, a2, a3, a4, a5, a6⟩ := HM.out.env.c7 0 rfl
    have HFN := Hd (pfin_any HM.out.env.pa HTT.out)
    obtain ⟨fl, hfl⟩ : ∃ fl, pr.2.fault = fl := ⟨_, rfl⟩
    rw [hfl] at HFN
    have HFL := Hd hfl
    clear hfl
    cases fl with
    | none =>
     have HE2 : Hid (Ps.finish (Ps.Tr.mk 1 [100, 111, 73, 116] [] pv.1 (l0 ++ [y]) 0 0, pr.2) = (Ps.Tr.mk 1 [100, 111, 73, 116] [] pv.1 (l0 ++ [y]) 0 0, 0, 0)) := Hd (by unfold Ps.finish; rw [HFL.out])
     go_wp2_with (go_at_call 20; refine HFN.out.mono ?_; rintro e w11 ⟨hb, rfl⟩; have HB11 := Hd hb; have HK11 := Hd (HK10.out.below hb HK10.out.lt); have b := HK11.out.lt; have b0 := HK11.out.cell 0; have b1 := HK11.out.cell 1; have b2 := HK11.out.cell 2; have b3 := HK11.out.cell 3; have b4 := HK11.out.cell 4; have b5 := HK11.out.cell 5; have b6 := HK11.out.cell 6; have fz := HK11.out.frozen; clear hb)
     refine bodyPost_ret (ret26x rfl _ _ rfl (HK11.out.set7 _ _ _ _ _ _ _)) rfl ?_
     rw [HEY.out, HE2.out]
     exact TopP.put (w0 := w1) (Nat.le_refl _) hk2l (HBT.out.trans (HB11.out.mono HBT.out.size)) (HTT.out.below HB11.out) 0 0
    | some z =>
     have HE2 : Hid (Ps.finish (Ps.Tr.mk 1 [100, 111, 73, 116] [] pv.1 (l0 ++ [y]) 0 0, pr.2) = (Ps.Tr.zero, z.1, z.2)) := Hd (by unfold Ps.finish; rw [HFL.out])
     go_wp2_with (go_at_call 20; refine HFN.out.mono ?_; rintro e w11 ⟨hb, rfl⟩; have HB11 := Hd hb; have HK11 := Hd (HK10.out.below hb HK10.out.lt); have b := HK11.out.lt; have b0 := HK11.out.cell 0; have b1 := HK11.out.cell 1; have b2 := HK11.out.cell 2; have b3 := HK11.out.cell 3; have b4 := HK11.out.cell 4; have b5 := HK11.out.cell 5; have b6 := HK11.out.cell 6; have fz := HK11.out.frozen; clear hb)
     refine bodyPost_ret (ret26x rfl _ _ rfl (HK11.out.set7 _ _ _ _ _ _ _)) rfl ?_
     rw [HEY.out, HE2.out]
     exact TopP.put (w0 := w1) (Nat.le_refl _) hk2l (HBT.out.trans (HB11.out.mono HBT.out.size)) (TrM.zero _ _ _) z.1 z.2
   ·have d3 : ((ky : Int) != 3) = true := by rw [bne_iff_ne]; omega
    have HEY : Hid (Ps.doit T x.length (10 * T.length + 9) = (.mk 1 [100, 111, 73, 116] [] pv.1 (l0 ++ [Ps.nd 3 [] [y] ply]) 0 0, pr.2)) := Hd (by
     rw [HE.out, List.getLastD_concat, List.dropLast_concat, if_neg (by rw [hky]; simpa using h3), hpl])
    clear h3
    have hs10 := HM.out.env.size
    have hbl := hB2.out
    have HKC := Hd (new_below wc (.cells #[.int .i64 (ky : Int), .string ⟨nm.toArray⟩, .slice B1 n1 d1, .slice B2 n2 d2, .slice B3 n3 d3', .int .i64 (py : Int), .int .i64 (ply : Int)] 26))
    have HTK : Hid (TrM _ w1.heap.size (fun q => q = t7 ∨ q = b) _ (Ps.nd 3 [] [y] ply)) := Hd (TrM.nd 3 [] ply (TsM.one HTR.out (by omega) (by omega)))
    have HM11 := Hd (PMe.last ((by have hm := HM.out; rw [HLN.out] at hm; exact hm : PMe w1 g A c T x.length t7 [] [100, 111, 73, 116] [] (.slice none 0 0) pv.1 (.slice Tv pv.1.length tv) (l0 ++ [y]) (.slice (some ⟨b, 0, none⟩) (l0.length + 1) c2) 0 pr.2 wc).below HKC.out) rfl hbX hbg (HBK.out.below HKC.out hbl) HTK.out)
    go_upto_region 10 with fail
    have hS : wc.drew.cell? ⟨b, l0.length * 7, none⟩ = some (.int .i64 (ky : Int)) ∧ wc.drew.cell? ⟨b, l0.length * 7 + 1, none⟩ = some (.string ⟨nm.toArray⟩) ∧ wc.drew.cell? ⟨b, l0.length * 7 + 2, none⟩ = some (.slice B1 n1 d1) ∧ wc.drew.cell? ⟨b, l0.length * 7 + 3, none⟩ = some (.slice B2 n2 d2) ∧ wc.drew.cell? ⟨b, l0.length * 7 + 4, none⟩ = some (.slice B3 n3 d3') ∧ wc.drew.cell? ⟨b, l0.length * 7 + 5, none⟩ = some (.int .i64 (py : Int)) ∧ wc.drew.cell? ⟨b, l0.length * 7 + 6, none⟩ = some (.int .i64 (ply : Int)) := ⟨e0, e1, e2, e3, e4, e5, e6⟩
    have hKP := Hd fun (o : Obj) => (⟨((Below.refl wc.drew.heap.size wc.drew).alloc (Nat.le_refl _) o).cell (p := ⟨b, l0.length * 7, none⟩) hbl |>.trans e0, ((Below.refl wc.drew.heap.size wc.drew).alloc (Nat.le_refl _) o).cell (p := ⟨b, l0.length * 7 + 1, none⟩) hbl |>.trans e1, ((Below.refl wc.drew.heap.size wc.drew).alloc (Nat.le_refl _) o).cell (p := ⟨b, l0.length * 7 + 2, none⟩) hbl |>.trans e2, ((Below.refl wc.drew.heap.size wc.drew).alloc (Nat.le_refl _) o).cell (p := ⟨b, l0.length * 7 + 3, none⟩) hbl |>.trans e3, ((Below.refl wc.drew.heap.size wc.drew).alloc (Nat.le_refl _) o).cell (p := ⟨b, l0.length * 7 + 4, none⟩) hbl |>.trans e4, ((Below.refl wc.drew.heap.size wc.drew).alloc (Nat.le_refl _) o).cell (p := ⟨b, l0.length * 7 + 5, none⟩) hbl |>.trans e5, ((Below.refl wc.drew.heap.size wc.drew).alloc (Nat.le_refl _) o).cell (p := ⟨b, l0.length * 7 + 6, none⟩) hbl |>.trans e6⟩ : (wc.drew.alloc o).cell? ⟨b, l0.length * 7, none⟩ = some (.int .i64 (ky : Int)) ∧ (wc.drew.alloc o).cell? ⟨b, l0.length * 7 + 1, none⟩ = some (.string ⟨nm.toArray⟩) ∧ (wc.drew.alloc o).cell? ⟨b, l0.length * 7 + 2, none⟩ = some (.slice B1 n1 d1) ∧ (wc.drew.alloc o).cell? ⟨b, l0.length * 7 + 3, none⟩ = some (.slice B2 n2 d2) ∧ (wc.drew.alloc o).cell? ⟨b, l0.length * 7 + 4, none⟩ = some (.slice B3 n3 d3') ∧ (wc.drew.alloc o).cell? ⟨b, l0.length * 7 + 5, none⟩ = some (.int .i64 (py : Int)) ∧ (wc.drew.alloc o).cell? ⟨b, l0.length * 7 + 6, none⟩ = some (.int .i64 (ply : Int)))
    refine wp_region_x (s := 11) (S := fun W => W.cell? ⟨b, l0.length * 7, none⟩ = some (.int .i64 (ky : Int)) ∧ W.cell? ⟨b, l0.length * 7 + 1, none⟩ = some (.string ⟨nm.toArray⟩) ∧ W.cell? ⟨b, l0.length * 7 + 2, none⟩ = some (.slice B1 n1 d1) ∧ W.cell? ⟨b, l0.length * 7 + 3, none⟩ = some (.slice B2 n2 d2) ∧ W.cell? ⟨b, l0.length * 7 + 4, none⟩ = some (.slice B3 n3 d3') ∧ W.cell? ⟨b, l0.length * 7 + 5, none⟩ = some (.int .i64 (py : Int)) ∧ W.cell? ⟨b, l0.length * 7 + 6, none⟩ = some (.int .i64 (ply : Int))) (by kernel_rfl) hS (fun hHeld => ?_)
    refine xt (i := 0) ?_
    refine xt (i := 1) ?_
    refine xt (i := 2) ?_
    refine xt (i := 3) ?_
    refine xt (i := 5) ?_
    refine xt (i := 6) ?_
    refine xt (i := 7) ?_
    refine xt (i := 8) ?_
    refine x1 (i := 4) (fun K2 hK2 => ?_)
    go_simp
    refine hK2.out _ _ (hKP.out _) (fun hHeld => ?_)
    clear hK2 K2
    refine xt (i := 9) ?_
    refine x1 (i := 10) (fun K2 hK2 => ?_)
    go_simp
    refine hK2.out _ _ (hHeld) (fun hHeld => ?_)
    clear hK2 K2
    try simp only [Act.put, List.setIfInBounds_toArray, List.set_cons_zero, List.set_cons_succ]
    refine xl (fun K2 hK2 => ?_)
    go_simp
    refine hK2.out _ _ ?_
    clear hK2 K2
    try simp only [Act.put, List.setIfInBounds_toArray, List.set_cons_zero, List.set_cons_succ]
    refine wpAnyX_done (by kernel_rfl) ?_ _
    go_upto_region 11 with fail
    refine wp_world (PMe w1 g A c T x.length t7 [] [100, 111, 73, 116] [] (.slice none 0 0) pv.1 (.slice Tv pv.1.length tv) (l0 ++ [Ps.nd 3 [] [y] ply]) (.slice (some ⟨b, 0, none⟩) (l0.length + 1) c2) 0 pr.2) (by
     rw [setN_alloc (hk := hB2.out)]
     exact HM11.out.below (Below.refl _ _).drew) fun w12 hm12 => ?_
    have HM12 := Hd hm12
    clear hm12 HM11 hHeld hKP hS HKC
    have HK10 := Hd (HM12.out.env.chg.blk HK1.out (by omega))
    have HBT : Hid (Below w.heap.size w w12) := Hd (HBW.out.trans (HM12.out.env.chg.below (by omega) fun k hk e => by omega))
    obtain ⟨a, a0, a1, a2, a3, a4, a5, a6⟩ := HM12.out.env.c7 0 rfl
    have HFN := Hd (pfin_any HM12.out.env.pa HM12.out.tree)
    obtain ⟨fl, hfl⟩ : ∃ fl, pr.2.fault = fl := ⟨_, rfl⟩
    rw [hfl] at HFN
    have HFL := Hd hfl
    clear hfl
    cases fl with
    | none =>
     have HE2 : Hid (Ps.finish (Ps.Tr.mk 1 [100, 111, 73, 116] [] pv.1 (l0 ++ [Ps.nd 3 [] [y] ply]) 0 0, pr.2) = (Ps.Tr.mk 1 [100, 111, 73, 116] [] pv.1 (l0 ++ [Ps.nd 3 [] [y] ply]) 0 0, 0, 0)) := Hd (by unfold Ps.finish; rw [HFL.out])
     go_wp2_with (go_at_call 20; refine HFN.out.mono ?_; rintro e w11 ⟨hb, rfl⟩; have HB11 := Hd hb; have HK11 := Hd (HK10.out.below hb HK10.out.lt); have b := HK11.out.lt; have b0 := HK11.out.cell 0; have b1 := HK11.out.cell 1; have b2 := HK11.out.cell 2; have b3 := HK11.out.cell 3; have b4 := HK11.out.cell 4; have b5 := HK11.out.cell 5; have b6 := HK11.out.cell 6; have fz := HK11.out.frozen; clear hb)
     refine bodyPost_ret (ret26x rfl _ _ rfl (HK11.out.set7 _ _ _ _ _ _ _)) rfl ?_
     rw [HEY.out, HE2.out]
     exact TopP.put (w0 := w1) (Nat.le_refl _) hk2l (HBT.out.trans (HB11.out.mono HBT.out.size)) (HM12.out.tree.below HB11.out) 0 0
    | some z =>
     have HE2 : Hid (Ps.finish (Ps.Tr.mk 1 [100, 111, 73, 116] [] pv.1 (l0 ++ [Ps.nd 3 [] [y] ply]) 0 0, pr.2) = (Ps.Tr.zero, z.1, z.2)) := Hd (by unfold Ps.finish; rw [HFL.out])
     go_wp2_with (go_at_call 20; refine HFN.out.mono ?_; rintro e w11 ⟨hb, rfl⟩; have HB11 := Hd hb; have HK11 := Hd (HK10.out.below hb HK10.out.lt); have b := HK11.out.lt; have b0 := HK11.out.cell 0; have b1 := HK11.out.cell 1; have b2 := HK11.out.cell 2; have b3 := HK11.out.cell 3; have b4 := HK11.out.cell 4; have b5 := HK11.out.cell 5; have b6 := HK11.out.cell 6; have fz := HK11.out.frozen; clear hb)
     refine bodyPost_ret (ret26x rfl _ _ rfl (HK11.out.set7 _ _ _ _ _ _ _)) rfl ?_
     rw [HEY.out, HE2.out]
     exact TopP.put (w0 := w1) (Nat.le_refl _) hk2l (HBT.out.trans (HB11.out.mono HBT.out.size)) (TrM.zero _ _ _) z.1 z.2
 ·rw [if_neg he]
  have d0 : ((er : Int) != 0) = true := by rw [bne_iff_ne]; omega
  clear he
  go_enter Tryz.func8, Tryz.ntmps8
  go_upto_region 1 with fail
  have hk0 : Blk (w.alloc (.cells #[.int .i64 0, .string ⟨#[]⟩, .slice none 0 0, .slice none 0 0, .slice none 0 0, .int .i64 0, .int .i64 0] 26)) w.heap.size 26 #[.int .i64 0, .string ⟨#[]⟩, .slice none 0 0, .slice none 0 0, .slice none 0 0, .int .i64 0, .int .i64 0] := Blk.new _ _ _
  have hb0 : Below w.heap.size w (w.alloc (.cells #[.int .i64 0, .string ⟨#[]⟩, .slice none 0 0, .slice none 0 0, .slice none 0 0, .int .i64 0, .int .i64 0] 26)) := new_below _ _
  have hz0 : (w.alloc (.cells #[.int .i64 0, .string ⟨#[]⟩, .slice none 0 0, .slice none 0 0, .slice none 0 0, .int .i64 0, .int .i64 0] 26)).heap.size = w.heap.size + 1 := by simp
  refine wp_world (fun W => Blk W w.heap.size 26 #[.int .i64 0, .string ⟨#[]⟩, .slice none 0 0, .slice none 0 0, .slice none 0 0, .int .i64 0, .int .i64 0] ∧ Below w.heap.size w W ∧ W.heap.size = w.heap.size + 1) ⟨hk0, hb0, hz0⟩ fun w0 h0 => ?_
  obtain ⟨hk0, hb0, hz0⟩ := h0
  have HK0 := Hd hk0
  have HB0 := Hd hb0
  clear hk0 hb0
  go_upto_region 2 with (go_at_call 10; refine (HRD.out _).mono ?_; rintro e w1 ⟨g, A, c, rfl, hb, hg, hra⟩; have HB1 := Hd hb; have HRA := Hd hra; have HGG := Hd hg; clear hb hg hra)
  have HK1 := Hd (HK0.out.below HB1.out HK0.out.lt)
  have HBW := Hd (HB0.out.trans (HB1.out.mono (by omega)))
  have hgw : w.heap.size < g := by have := HGG.out; omega
  have hk2l := HK1.out.lt
  clear HRD
  have b := HK1.out.lt
  have b0 := HK1.out.cell 0
  have b1 := HK1.out.cell 1
  have b2 := HK1.out.cell 2
  have b3 := HK1.out.cell 3
  have b4 := HK1.out.cell 4
  have b5 := HK1.out.cell 5
  have b6 := HK1.out.cell 6
  have fz := HK1.out.frozen
  go_wp2
  refine bodyPost_ret (ret26x rfl _ _ rfl (HK1.out.set7 (.int .i64 0) (.string ⟨#[]⟩) (.slice none 0 0) (.slice none 0 0) (.slice none 0 0) (.int .i64 0) (.int .i64 0))) rfl ?_
  exact TopP.put (w0 := w1) (Nat.le_refl _) hk2l HBW.out (TrM.zero _ _ _) pl er
theorem Ev.other {w W W' : World} {g c b : Nat} {A : Option Addr} {T : List Lx.Tk} {s : Rs.RS} {L : List Lc} (h : Ev w g A c T s L W) (hc : Chg (· = b) W W') (hb : w.heap.size ≤ b) (hL : ∀ (i : Nat) (x : Lc), L[i]? = some x → x.k ≠ b) : Ev w g A c T s L W' := by
 have hgl := h.gl
 refine ⟨h.chg.trans hc (fun j hj e => by omega), ?_, hgl, fun i x hx => ⟨(h.loc i x hx).1, hc.blk (h.loc i x hx).2 (hL i x hx)⟩, h.nd⟩
 obtain ⟨p1, p2, p3⟩ := h.pa
 have hgW := p1.lt
 refine ⟨hc.blk p1 (by omega), p2, ⟨p3.1, fun hn => ?_⟩⟩
 obtain ⟨b', off, e, hb', hcl⟩ := p3.2 hn
 exact ⟨b', off, e, hb', fun j u hu => (cell_of_heap (hc.block b' (by omega) (by omega))).trans (hcl j u hu)⟩
theorem RMe.last {w wr : World} {g c k pr b : Nat} {A : Option Addr} {L : List Lx.Tk} {Ls : List Lc} {nm : Lx.Txt} {s' : Rs.RS} {a d : List Lx.Txt} {vA vB vR : Value} {l0 : List Ps.Tr} {y y' : Ps.Tr} {cur : Array Value} {x0 x1 x2 x3 x4 x5 x6 : Value}
  (h : RMe w g A c L k Ls nm a vA d vB (l0 ++ [y]) vR pr s' wr) (hv : vR.ownBlock = some b) (hLs : ∀ (i : Nat) (x : Lc), Ls[i]? = some x → x.k ≠ b) (hbk : b ≠ k) (hb : w.heap.size ≤ b) (hB : Blk wr b 26 cur) (ht : TrM wr w.heap.size (fun q => q = k ∨ q = b) [x0, x1, x2, x3, x4, x5, x6] y') :
  RMe w g A c L k Ls nm a vA d vB (l0 ++ [y']) vR pr s' (((((((wr.setCell ⟨b, l0.length * 7, none⟩ x0).setCell ⟨b, l0.length * 7 + 1, none⟩ x1).setCell ⟨b, l0.length * 7 + 2, none⟩ x2).setCell ⟨b, l0.length * 7 + 3, none⟩ x3).setCell ⟨b, l0.length * 7 + 4, none⟩ x4).setCell ⟨b, l0.length * 7 + 5, none⟩ x5).setCell ⟨b, l0.length * 7 + 6, none⟩ x6) := by
 obtain ⟨h1, hC⟩ := h.rr.setLast hv ht
 exact ⟨h.env.other hC hb fun i x hx => by
  match i with
  | 0 => simp only [List.getElem?_cons_zero, Option.some.injEq] at hx; subst hx; exact Ne.symm hbk
  | i + 1 => exact hLs i x (by simpa using hx), own_chg h.ra hC fun q hq e => own_blk_ne h.ra hB (by decide) (by rw [hq, e]), own_chg h.rb hC fun q hq e => own_blk_ne h.rb hB (by decide) (by rw [hq, e]), h1⟩
set_option maxRecDepth 20000 in
theorem rparsedo_any (x : Lx.Txt) (w : World) (hm : x.length ≤ 9223372036854775807) : Calls Tryz.prog 9 #[.string ⟨x.toArray⟩] w (TopP w (rTop x fun L f => Rs.doit L x.length f)) := by
 have HRD := Hd fun (W : World) => rreader_any x W hm
 have hfit := Ps.lexT_fits x
 have HLL := Hd (lexT_len x)
 unfold rTop
 unfold RdrP at HRD
 generalize Lx.lexT x = r at *
 obtain ⟨T, pl, er⟩ := r
 dsimp only at HRD hfit HLL ⊢
 have hT := hfit.len
 have HF := Hd hfit
 clear hfit
 go_enter Tryz.func9, Tryz.ntmps9
 go_upto_region 1 with fail
 have hk0 : Blk (w.alloc (.cells #[.int .i64 0, .string ⟨#[]⟩, .slice none 0 0, .slice none 0 0, .slice none 0 0, .int .i64 0, .int .i64 0] 26)) w.heap.size 26 #[.int .i64 0, .string ⟨#[]⟩, .slice none 0 0, .slice none 0 0, .slice none 0 0, .int .i64 0, .int .i64 0] := Blk.new _ _ _
 have hb0 : Below w.heap.size w (w.alloc (.cells #[.int .i64 0, .string ⟨#[]⟩, .slice none 0 0, .slice none 0 0, .slice none 0 0, .int .i64 0, .int .i64 0] 26)) := new_below _ _
 have hz0 : (w.alloc (.cells #[.int .i64 0, .string ⟨#[]⟩, .slice none 0 0, .slice none 0 0, .slice none 0 0, .int .i64 0, .int .i64 0] 26)).heap.size = w.heap.size + 1 := by simp
 refine wp_world (fun W => Blk W w.heap.size 26 #[.int .i64 0, .string ⟨#[]⟩, .slice none 0 0, .slice none 0 0, .slice none 0 0, .int .i64 0, .int .i64 0] ∧ Below w.heap.size w W ∧ W.heap.size = w.heap.size + 1) ⟨hk0, hb0, hz0⟩ fun w0 h0 => ?_
 obtain ⟨hk0, hb0, hz0⟩ := h0
 have HK0 := Hd hk0
 have HB0 := Hd hb0
 clear hk0 hb0
 by_cases he : er = 0
 ·rw [if_pos he]
  have HFT := Hd (HLL.out he)
  go_upto_region 2 with (go_at_call 21; refine (HRD.out _).mono ?_; rintro e w1 ⟨hb, h1⟩; rcases h1 with ⟨h1, -⟩ | ⟨-, g, A, c, rfl, hg, hra⟩; exact absurd he h1; have HB1 := Hd hb; have E0 := Ev.start hra; have HGG := Hd hg; clear hb hg hra)
  have HER := Hd he
  clear he
  have HK1 := Hd (HK0.out.below HB1.out HK0.out.lt)
  have HBW := Hd (HB0.out.trans (HB1.out.mono (by omega)))
  have hgw : w.heap.size < g := by have := HGG.out; omega
  have hk2l := HK1.out.lt
  refine wp_world (Ev w1 g A c (Rs.toks T x.length) ⟨0, 0, none⟩ _) (E0.box 56 [_, _]) fun w2 E1 => ?_
  clear E0
  have c6 := (E1.blk 0 rfl).cell 0
  have c6l := (E1.blk 0 rfl).lt
  go_upto_region 4 with fail
  refine wp_world (Ev w1 g A c (Rs.toks T x.length) ⟨0, 0, none⟩ _) E1 fun w2 E1 => ?_
  go_upto_region 5 with fail
  refine wp_world (Ev w1 g A c (Rs.toks T x.length) ⟨0, 0, none⟩ _) (E1.box 26 [.int .i64 1, .string ⟨#[100, 111, 73, 116]⟩, .slice none 0 0, .slice none 0 0, .slice none 0 0, .int .i64 0, .int .i64 0]) fun w3 E2 => ?_
  clear E1 c6 c6l
  obtain ⟨t7, ht7⟩ : ∃ t7, w2.heap.size = t7 := ⟨_, rfl⟩
  rw [ht7] at E2 ⊢
  clear ht7
  obtain ⟨t6, ht6⟩ : ∃ t6, w1.heap.size = t6 := ⟨_, rfl⟩
  have hBd0 : Rs.Bd T ⟨0, 0, none⟩ := ⟨Nat.zero_le _, by decide, by decide, fun _ => by decide⟩
  obtain ⟨pv, hpv⟩ : ∃ p, Rs.temps (Rs.toks T x.length) ⟨0, 0, none⟩ = p := ⟨_, rfl⟩
  have HM3 : Hid (Rs.Mv T ⟨0, 0, none⟩ pv.2) := Hd (by rw [← hpv]; exact Rs.mv_temps hBd0.at_)
  have HB3 := Hd (hBd0.mv HM3.out)
  obtain ⟨pr, hpr⟩ : ∃ p, Rs.stL (Rs.toks T x.length) (10 * T.length + 10) [] [] pv.2 = p := ⟨_, rfl⟩
  obtain ⟨L, hL⟩ : ∃ L, (if pr.1.isEmpty then [Ps.nd 8 [110, 105, 108] [] x.length] else pr.1) = L := ⟨_, rfl⟩
  have HE : Hid (Rs.doit (Rs.toks T x.length) x.length (10 * T.length + 10) = (.mk 1 [100, 111, 73, 116] [] pv.1 (L.dropLast ++ [if (L.getLastD Ps.Tr.zero).kind == 3 then L.getLastD Ps.Tr.zero else Ps.nd 3 [] [L.getLastD Ps.Tr.zero] (L.getLastD Ps.Tr.zero).place]) 0 0, pr.2)) := Hd (by unfold Rs.doit; dsimp only; rw [hpv, hpr, hL])
  have HLL2 := Hd hL
  have HTM := Hd fun (W : World) (h : RA W g A c (Rs.toks T x.length) ⟨0, 0, none⟩) => rtemps_any h hBd0 hT
  have HST := Hd fun (W : World) (h : RA W g A c (Rs.toks T x.length) pv.2) => (rwall_any HF.out HFT.out (10 * T.length + 10)).stL [] pv.2 W h HB3.out (fun _ => by unfold Rs.rem; omega)
  have HBD := Hd fun (W : World) (h : RA W g A c (Rs.toks T x.length) pr.2) => rbad_any h
  rw [hpv] at HTM
  rw [hpr] at HST
  clear hpv hpr hL hBd0 HRD
  have HM6 : Hid (RMe w1 g A c (Rs.toks T x.length) t7 _ [100, 111, 73, 116] [] (.slice none 0 0) [] _ [] _ 0 ⟨0, 0, none⟩ w3) := Hd ⟨E2, SsN.nil _ _, SsN.nil _ _, TsM.nil _ _ _⟩
  clear E2 ht6
  go_upto_region 6 with (go_at_call 24; refine (HTM.out _ HM6.out.env.pa).mono ?_; rintro e w7 ⟨vT, rfl, hp, ho⟩; obtain ⟨Tv, tv, rfl, -, -⟩ := SsN.form ho; have HM7 := Hd (HM6.out.call hp); have HO7 : Hid (SsN w7 w1.heap.size _ pv.1) := Hd (own_low ho HM6.out.env.size); obtain ⟨a, a0, a1, a2, a3, a4, a5, a6⟩ := HM7.out.env.c7 0 rfl; have fz := HM7.out.env.fz 0 rfl; clear hp ho)
  refine wp_world (RMe w1 g A c (Rs.toks T x.length) t7 _ [100, 111, 73, 116] [] _ pv.1 _ [] _ 0 pv.2) (HM7.out.temps HO7.out) fun w8 hm8 => ?_
  have HM8 := Hd hm8
  clear hm8 HM6 HM7 HO7 a a0 a1 a2 a3 a4 a5 a6 fz
  have hk7 := (HM8.out.env.blk 0 rfl).lt
  go_upto_region 7 with (go_at_call 25; refine (HST.out _ HM8.out.env.pa).mono ?_; rintro e w9 ⟨vS, rfl, hp, hbs, hts⟩; obtain ⟨Sv, tvs, rfl, -, -⟩ := hts.form; have HM9 := Hd (HM8.out.call hp); have HO9 : Hid (TsM w9 w1.heap.size (· = t7) _ pr.1) := Hd ((hts.swap (X' := (· = t7)) fun k h1 _ e => by omega).low HM8.out.env.size); obtain ⟨a, a0, a1, a2, a3, a4, a5, a6⟩ := HM9.out.env.c7 0 rfl; have fz := HM9.out.env.fz 0 rfl; clear hp hts)
  refine wp_world (RMe w1 g A c (Rs.toks T x.length) t7 _ [100, 111, 73, 116] [] _ pv.1 _ pr.1 _ 0 pr.2) (HM9.out.nodes HO9.out) fun w10 hm10 => ?_
  have HM10 := Hd hm10
  clear hm10 HM8 HM9 HO9 a a0 a1 a2 a3 a4 a5 a6 fz hk7 HTM HST
  have HK10 := Hd (HM10.out.env.chg.blk HK1.out (by omega))
  have HBT : Hid (Below w.heap.size w w10) := Hd (HBW.out.trans (HM10.out.env.chg.below (by omega) fun k hk e => by omega))
  cases hk : Rs.bad pr.2 with
  | false =>
   have hw : pr.2.wrong = none := by
    unfold Rs.bad at hk
    cases hs : pr.2.wrong with
    | none => rfl
    | some y => rw [hs] at hk; cases hk
   have HW := Hd hw
   rw [hk] at HBD
   clear hk hw HK10 HBT
   obtain ⟨a, a0, a1, a2, a3, a4, a5, a6⟩ := HM10.out.env.c7 0 rfl
   have fz := HM10.out.env.fz 0 rfl
   go_upto_if 46 with (go_at_call 26; refine (HBD.out _ HM10.out.env.pa).mono ?_; rintro e w11 ⟨rfl, rfl⟩)
   go_cut [] (fun wx => ∃ A2 c2, RMe w1 g A c (Rs.toks T x.length) t7 [⟨w1.heap.size, 56, [.int .i64 0, .int .i64 0]⟩] [100, 111, 73, 116] [] (.slice none 0 0) pv.1 (.slice Tv pv.1.length tv) L (.slice A2 L.length c2) 0 pr.2 wx ∧ L ≠ [])
   case first =>
    by_cases h0 : pr.1.length = 0
    ·have d1 : ((pr.1.length : Int) == 0) = true := by rw [h0]; rfl
     have h00 : pr.1 = [] := List.length_eq_zero_iff.mp h0
     have HL3 : Hid (L = [Ps.nd 8 [110, 105, 108] [] x.length]) := Hd (by rw [← HLL2.out, h00]; rfl)
     clear h00 h0
     go_wp2
     go_meet
     rw [HL3.out]
     refine ⟨some ⟨w11.heap.size, 0, none⟩, 1, ?_, by simp⟩
     rw [← set_alloc _ _ _ _ _ a]
     have hs10 := HM10.out.env.size
     exact (HM10.out.below (new_below _ _)).nodes (TsM.one (cs := [_, _, _, _, _, _, _]) (TrM.leaf _ _ _ 8 [110, 105, 108] x.length) (by omega) (by omega))
    ·have d1 : ((pr.1.length : Int) == 0) = false := by rw [beq_eq_false_iff_ne]; omega
     have HL3 : Hid (L = pr.1 ∧ L ≠ []) := Hd (by
      have h00 : pr.1 ≠ [] := fun e => h0 (by rw [e]; rfl)
      have : pr.1.isEmpty = false := by simpa using h00
      rw [← HLL2.out, this]
      exact ⟨rfl, h00⟩)
     clear h0
     go_wp2
     go_meet
     rw [HL3.out.1]
     exact ⟨_, _, HM10.out, by rw [← HL3.out.1]; exact HL3.out.2⟩
   case rest =>
    obtain ⟨A2, c2, hM, hne⟩ := hcut
    clear a a0 a1 a2 a3 a4 a5 a6 fz HM10
    obtain ⟨l0, y, rfl⟩ : ∃ l0 y, L = l0 ++ [y] := ⟨L.dropLast, L.getLast hne, (List.dropLast_concat_getLast hne).symm⟩
    have HM := Hd hM
    clear hM hne
    obtain ⟨b, cap, cs, cur, hv, hbg, hbX, hbm, hblk, htr, hcells⟩ := HM.out.rr.last
    obtain ⟨ky, nm, B1, n1, d1, B2, n2, d2, B3, n3, d3', py, ply, rfl, hky, -, hpl, hn3, hn3c⟩ := htr.seven
    have e0 := hcells 0 _ rfl
    have e1 := hcells 1 _ rfl
    have e2 := hcells 2 _ rfl
    have e3 := hcells 3 _ rfl
    have e4 := hcells 4 _ rfl
    have e5 := hcells 5 _ rfl
    have e6 := hcells 6 _ rfl
    rw [Nat.add_zero] at e0
    have HFZ := Hd hblk.frozen
    have HBK := Hd hblk
    have HTR := Hd htr
    clear hblk htr hcells
    injection hv with hA hn hc
    subst hA hc
    obtain ⟨a, a0, a1, a2, a3, a4, a5, a6⟩ := HM.out.env.c7 0 rfl
    have hlen : (l0 ++ [y]).length = l0.length + 1 := by simp
    have HMB : Hid (RMe w1 g A c (Rs.toks T x.length) t7 [⟨w1.heap.size, 56, [.int .i64 0, .int .i64 0]⟩] [100, 111, 73, 116] [] (.slice none 0 0) pv.1 (.slice Tv pv.1.length tv) (l0 ++ [y]) (.slice (some ⟨b, 0, none⟩) (l0.length + 1) c2) 0 pr.2 wc) := Hd (by have hm := HM.out; rw [hlen] at hm; exact hm)
    rw [hlen] at a4
    clear hn hlen HM
    have hwr : IntKind.i64.wrap (l0.length : Int) = (l0.length : Int) := by rw [IntKind.wrap_i64]; simp only [maxLen] at hbm; omega
    go_upto_region 13 with fail
    have HKC := Hd (new_below wc (.cells #[.int .i64 (ky : Int), .string ⟨nm.toArray⟩, .slice B1 n1 d1, .slice B2 n2 d2, .slice B3 n3 d3', .int .i64 (py : Int), .int .i64 (ply : Int)] 26))
    have hs10 := HMB.out.env.size
    have hbl := HBK.out.lt
    have hb6 : w1.heap.size ≠ b := fun e => by
     have h6 := HMB.out.env.blk 1 rfl
     rw [e] at h6
     exact absurd rfl (Blk.ne_ h6 HBK.out (by decide))
    refine wp_world (fun W => RMe w1 g A c (Rs.toks T x.length) t7 [⟨w1.heap.size, 56, [.int .i64 0, .int .i64 0]⟩] [100, 111, 73, 116] [] (.slice none 0 0) pv.1 (.slice Tv pv.1.length tv) (l0 ++ [y]) (.slice (some ⟨b, 0, none⟩) (l0.length + 1) c2) 0 pr.2 W ∧ Blk W b 26 cur ∧ Blk W wc.heap.size 26 #[.int .i64 (ky : Int), .string ⟨nm.toArray⟩, .slice B1 n1 d1, .slice B2 n2 d2, .slice B3 n3 d3', .int .i64 (py : Int), .int .i64 (ply : Int)] ∧ TrM W w1.heap.size (fun q => q = t7 ∨ q = b) [.int .i64 (ky : Int), .string ⟨nm.toArray⟩, .slice B1 n1 d1, .slice B2 n2 d2, .slice B3 n3 d3', .int .i64 (py : Int), .int .i64 (ply : Int)] y ∧ ∀ j, W.cell? ⟨b, j, none⟩ = wc.cell? ⟨b, j, none⟩) ⟨HMB.out.below HKC.out, HBK.out.below HKC.out hbl, Blk.new _ _ _, HTR.out.below HKC.out, fun j => HKC.out.cell (p := ⟨b, j, none⟩) hbl⟩ fun w13 h13 => ?_
    have HM13 := Hd h13.1
    have HBK13 := Hd h13.2.1
    have HN13 := Hd h13.2.2.1
    have HTR13 := Hd h13.2.2.2.1
    have f0 := (h13.2.2.2.2 _).trans e0
    have f1 := (h13.2.2.2.2 _).trans e1
    have f2 := (h13.2.2.2.2 _).trans e2
    have f3 := (h13.2.2.2.2 _).trans e3
    have f4 := (h13.2.2.2.2 _).trans e4
    have f5 := (h13.2.2.2.2 _).trans e5
    have f6 := (h13.2.2.2.2 _).trans e6
    clear h13 HMB HBK HTR HKC e0 e1 e2 e3 e4 e5 e6 a a0 a1 a2 a3 a4 a5 a6 HFZ hs10
    have hs13 := HM13.out.env.size
    have hbl13 := HBK13.out.lt
    have hn9 := HN13.out.lt
    obtain ⟨a, a0, a1, a2, a3, a4, a5, a6⟩ := HM13.out.env.c7 0 rfl
    have q := HN13.out.lt
    have q0 := HN13.out.cell 0
    have q1 := HN13.out.cell 1
    have q2 := HN13.out.cell 2
    have q3 := HN13.out.cell 3
    have q4 := HN13.out.cell 4
    have q5 := HN13.out.cell 5
    have q6 := HN13.out.cell 6
    obtain ⟨t9, ht9⟩ : ∃ t9, wc.heap.size = t9 := ⟨_, rfl⟩
    rw [ht9] at q q0 q1 q2 q3 q4 q5 q6 hn9 ⊢
    clear ht9 HN13
    have hfb := HBK13.out.frozen
    by_cases h3 : ky = 3
    ·have d3 : ((ky : Int) != 3) = false := by rw [h3]; rfl
     have HEY : Hid (Rs.finish (Rs.doit (Rs.toks T x.length) x.length (10 * T.length + 10)) = (.mk 1 [100, 111, 73, 116] [] pv.1 (l0 ++ [y]) 0 0, 0, 0)) := Hd (by
      rw [HE.out, List.getLastD_concat, List.dropLast_concat, if_pos (by rw [hky, h3]; rfl)]; unfold Rs.finish; rw [HW.out])
     have HTT := Hd HM13.out.tree
     clear h3 hfb
     have HK12 := Hd (HM13.out.env.chg.blk HK1.out (by omega))
     have HBT := Hd (HBW.out.trans (HM13.out.env.chg.below (by omega) fun k hk e => by omega))
     have b := HK12.out.lt
     have b0 := HK12.out.cell 0
     have b1 := HK12.out.cell 1
     have b2 := HK12.out.cell 2
     have b3 := HK12.out.cell 3
     have b4 := HK12.out.cell 4
     have b5 := HK12.out.cell 5
     have b6 := HK12.out.cell 6
     have fz := HK12.out.frozen
     clear a a0 a1 a2 a3 a4 a5 a6
     obtain ⟨a, a0, a1, a2, a3, a4, a5, a6⟩ := HM13.out.env.c7 0 rfl
     go_wp2
     refine bodyPost_ret (ret26x rfl _ _ rfl (HK12.out.set7 _ _ _ _ _ _ _)) rfl ?_
     rw [HEY.out]
     exact TopP.put (w0 := w1) (Nat.le_refl _) hk2l HBT.out HTT.out 0 0
    ·have d3 : ((ky : Int) != 3) = true := by rw [bne_iff_ne]; omega
     have HEY : Hid (Rs.finish (Rs.doit (Rs.toks T x.length) x.length (10 * T.length + 10)) = (.mk 1 [100, 111, 73, 116] [] pv.1 (l0 ++ [Ps.nd 3 [] [y] ply]) 0 0, 0, 0)) := Hd (by
      rw [HE.out, List.getLastD_concat, List.dropLast_concat, if_neg (by rw [hky]; simpa using h3), hpl]; unfold Rs.finish; rw [HW.out])
     clear h3
     have HKD := Hd (new_below w13 (.cells #[.int .i64 (ky : Int), .string ⟨nm.toArray⟩, .slice B1 n1 d1, .slice B2 n2 d2, .slice B3 n3 d3', .int .i64 (py : Int), .int .i64 (ply : Int)] 26))
     have HTN : Hid (TrM _ w1.heap.size (fun q => q = t7 ∨ q = b) _ (Ps.nd 3 [] [y] ply)) := Hd (TrM.nd 3 [] ply (TsM.one HTR13.out (by omega) (by have := (HM13.out.env.blk 0 rfl).lt; omega)))
     have HM14 := Hd (RMe.last (HM13.out.below HKD.out) rfl (fun i x hx => by
      match i with
      | 0 => simp only [List.getElem?_cons_zero, Option.some.injEq] at hx; subst hx; exact hb6
      | i + 1 => simp at hx) hbX hbg (HBK13.out.below HKD.out hbl13) HTN.out)
     go_upto_region 15 with fail
     refine wp_world (RMe w1 g A c (Rs.toks T x.length) t7 [⟨w1.heap.size, 56, [.int .i64 0, .int .i64 0]⟩] [100, 111, 73, 116] [] (.slice none 0 0) pv.1 (.slice Tv pv.1.length tv) (l0 ++ [Ps.nd 3 [] [y] ply]) (.slice (some ⟨b, 0, none⟩) (l0.length + 1) c2) 0 pr.2) ?_ fun w15 hm15 => ?_
     ·rw [setN_alloc (hk := hbl13)]
      exact HM14.out
     have HM15 := Hd hm15
     clear hm15 HM14 HKD HTN HM13 hfb q q0 q1 q2 q3 q4 q5 q6
     have HTT := Hd HM15.out.tree
     have HK12 := Hd (HM15.out.env.chg.blk HK1.out (by omega))
     have HBT := Hd (HBW.out.trans (HM15.out.env.chg.below (by omega) fun k hk e => by omega))
     have b := HK12.out.lt
     have b0 := HK12.out.cell 0
     have b1 := HK12.out.cell 1
     have b2 := HK12.out.cell 2
     have b3 := HK12.out.cell 3
     have b4 := HK12.out.cell 4
     have b5 := HK12.out.cell 5
     have b6 := HK12.out.cell 6
     have fz := HK12.out.frozen
     clear a a0 a1 a2 a3 a4 a5 a6
     obtain ⟨a, a0, a1, a2, a3, a4, a5, a6⟩ := HM15.out.env.c7 0 rfl
     go_wp2
     refine bodyPost_ret (ret26x rfl _ _ rfl (HK12.out.set7 _ _ _ _ _ _ _)) rfl ?_
     rw [HEY.out]
     exact TopP.put (w0 := w1) (Nat.le_refl _) hk2l HBT.out HTT.out 0 0
  | true =>
   obtain ⟨y, hy⟩ : ∃ y, pr.2.wrong = some y := by
    unfold Rs.bad at hk
    cases hs : pr.2.wrong with
    | none => rw [hs] at hk; cases hk
    | some y => exact ⟨y, rfl⟩
   have HE2 : Hid (∀ tr, Rs.finish (tr, pr.2) = (Ps.Tr.zero, y.1, y.2)) := Hd (fun tr => by unfold Rs.finish; rw [hy])
   rw [hk] at HBD
   have b := HK10.out.lt
   have b0 := HK10.out.cell 0
   have b1 := HK10.out.cell 1
   have b2 := HK10.out.cell 2
   have b3 := HK10.out.cell 3
   have b4 := HK10.out.cell 4
   have b5 := HK10.out.cell 5
   have b6 := HK10.out.cell 6
   have fz := HK10.out.frozen
   obtain ⟨g0, g1, g2, g3, g4⟩ := HM10.out.env.pa.cells
   have e3 : wrE pr.2 = y.2 := by unfold wrE; rw [hy]
   have e4 : wrP pr.2 = y.1 := by unfold wrP; rw [hy]
   rw [e3] at g3
   rw [e4] at g4
   have hgl := HM10.out.env.pa.lt
   have n1 : w.heap.size ≠ g := by omega
   clear hk hy e3 e4 g0 g1 g2
   go_upto_region 8 with (go_at_call 26; refine (HBD.out _ HM10.out.env.pa).mono ?_; rintro e w11 ⟨rfl, rfl⟩)
   go_region_held3 (fun W => W.cell? ⟨g, 3, none⟩ = some (.int .i64 (y.2 : Int)) ∧ W.cell? ⟨g, 4, none⟩ = some (.int .i64 (y.1 : Int))) (first | go_keep) ((first | fail))
   all_goals
    go_wp2
    refine bodyPost_ret (ret26x rfl _ _ rfl (HK10.out.set7 (.int .i64 0) (.string ⟨#[]⟩) (.slice none 0 0) (.slice none 0 0) (.slice none 0 0) (.int .i64 0) (.int .i64 0)).drew) rfl ?_
    rw [HE.out, HE2.out]
    exact (TopP.put (w0 := w1) (Nat.le_refl _) hk2l HBT.out (TrM.zero _ _ _) y.1 y.2).drew
 ·rw [if_neg he]
  have HER := Hd he
  go_upto_region 2 with (go_at_call 21; refine (HRD.out _).mono ?_; rintro e w1 ⟨hb, h1⟩; obtain ⟨-, rfl⟩ := h1.resolve_right (fun h => he h.1); have HB1 := Hd hb; clear hb)
  have d1 : ((er : Int) != 0) = true := by rw [bne_iff_ne]; omega
  clear he
  have HK1 := Hd (HK0.out.below HB1.out HK0.out.lt)
  have HBW := Hd (HB0.out.trans (HB1.out.mono (by omega)))
  have hk2l := HK1.out.lt
  refine wp_world (fun W => Blk W w1.heap.size 56 #[.int .i64 (er : Int), .int .i64 (pl : Int)] ∧ Blk W w.heap.size 26 #[.int .i64 0, .string ⟨#[]⟩, .slice none 0 0, .slice none 0 0, .slice none 0 0, .int .i64 0, .int .i64 0] ∧ Below w.heap.size w W) ⟨Blk.new _ _ _, HK1.out.alloc _, HBW.out.trans ((new_below _ _).mono (by omega))⟩ fun w2 h2 => ?_
  have HW2 := Hd h2.1
  have HK2 := Hd h2.2.1
  have HB2 := Hd h2.2.2
  clear h2 HK1 HBW
  have c0 := HW2.out.cell 0
  have c1 := HW2.out.cell 1
  have cl := HW2.out.lt
  have b := HK2.out.lt
  have b0 := HK2.out.cell 0
  have b1 := HK2.out.cell 1
  have b2 := HK2.out.cell 2
  have b3 := HK2.out.cell 3
  have b4 := HK2.out.cell 4
  have b5 := HK2.out.cell 5
  have b6 := HK2.out.cell 6
  have fz := HK2.out.frozen
  have n1 : w.heap.size ≠ w1.heap.size := by omega
  go_upto_region 3 with fail
  go_region_held3 (fun W => W.cell? ⟨w1.heap.size, 0, none⟩ = some (.int .i64 (er : Int)) ∧ W.cell? ⟨w1.heap.size, 1, none⟩ = some (.int .i64 (pl : Int))) (first | go_keep) ((first | fail))
  all_goals
   go_wp2
   refine bodyPost_ret (ret26x rfl _ _ rfl (HK2.out.set7 (.int .i64 0) (.string ⟨#[]⟩) (.slice none 0 0) (.slice none 0 0) (.slice none 0 0) (.int .i64 0) (.int .i64 0)).drew) rfl ?_
   exact (TopP.put (w0 := w1) (Nat.le_refl _) hk2l HB2.out (TrM.zero _ _ _) pl er).drew
theorem top_meth (x : Lx.Txt) : rTop x (fun L f => Rs.meth L f) = pTop x (fun T fin f => Ps.meth T fin f) := by
 unfold rTop pTop
 by_cases h : (Lx.lexT x).2.2 = 0
 ·rw [if_pos h, if_pos h]
  exact (Ps.meth_alike (Ps.lexT_good x) (Nat.le_refl _) (Nat.le_refl _)).symm
 ·rw [if_neg h, if_neg h]
theorem top_doit (x : Lx.Txt) : rTop x (fun L f => Rs.doit L x.length f) = pTop x (fun T fin f => Ps.doit T fin f) := by
 unfold rTop pTop
 by_cases h : (Lx.lexT x).2.2 = 0
 ·rw [if_pos h, if_pos h]
  exact (Ps.doit_alike (Ps.lexT_good x) (Nat.le_refl _) (Nat.le_refl _)).symm
 ·rw [if_neg h, if_neg h]
theorem num_any (e : Int) (w : World) : Calls Tryz.prog 7 #[.int .i64 e] w fun r w' => r = .returned (.int .i64 e) ∧ Below w.heap.size w w' := by
 go_enter Tryz.func7, Tryz.ntmps7
 go_wp2
 go_ret
 exact ⟨rfl, Below.refl _ _⟩
theorem TopP.named {w W : World} {r : Ps.Tr × Nat × Nat} {e : Ending} (h : TopP w r e W) : ∃ (k : Nat) (n : Lx.Txt) (A : Option Addr) (x a : Nat) (B : Option Addr) (y b : Nat) (C : Option Addr) (z c p l : Nat), e = .returned (.tuple #[.agg #[.int .i64 (k : Int), .string ⟨n.toArray⟩, .slice A x a, .slice B y b, .slice C z c, .int .i64 (p : Int), .int .i64 (l : Int)], .int .i64 (r.2.1 : Int), .int .i64 (r.2.2 : Int)]) ∧ Below w.heap.size w W ∧ TrM W w.heap.size (fun _ => False) [.int .i64 (k : Int), .string ⟨n.toArray⟩, .slice A x a, .slice B y b, .slice C z c, .int .i64 (p : Int), .int .i64 (l : Int)] r.1 := by
 obtain ⟨cs, h1, h2, h3⟩ := h
 obtain ⟨k, n, A, x, a, B, y, b, C, z, c, p, l, rfl, -⟩ := TrIn.seven h3
 exact ⟨k, n, A, x, a, B, y, b, C, z, c, p, l, h1, h2, h3⟩
set_option maxRecDepth 20000 in
theorem parses_any (s : ByteArray) (w : World) (hm : s.size ≤ 9223372036854775807) : Calls Tryz.prog 3 #[.string s] w (YesP w) := by
 obtain ⟨x, hx, hl⟩ : ∃ x : Lx.Txt, s = ⟨x.toArray⟩ ∧ x.length = s.size := ⟨s.data.toList, by rw [Array.toArray_toList], by rw [Array.length_toList]; rfl⟩
 subst hx
 have hm2 : x.length ≤ 9223372036854775807 := by omega
 obtain ⟨m, hmm⟩ : ∃ m, pTop x (fun T fin f => Ps.meth T fin f) = m := ⟨_, rfl⟩
 obtain ⟨d, hdd⟩ : ∃ d, pTop x (fun T fin f => Ps.doit T fin f) = d := ⟨_, rfl⟩
 have H4 : Hid (∀ W, Calls Tryz.prog 4 #[.string ⟨x.toArray⟩] W (TopP W m)) := Hd fun W => by rw [← hmm]; exact pparse_any x W hm2
 have H5 : Hid (∀ W, Calls Tryz.prog 5 #[.string ⟨x.toArray⟩] W (TopP W m)) := Hd fun W => by rw [← hmm, ← top_meth]; exact rparse_any x W hm2
 have H8 : Hid (∀ W, Calls Tryz.prog 8 #[.string ⟨x.toArray⟩] W (TopP W d)) := Hd fun W => by rw [← hdd]; exact pparsedo_any x W hm2
 have H9 : Hid (∀ W, Calls Tryz.prog 9 #[.string ⟨x.toArray⟩] W (TopP W d)) := Hd fun W => by rw [← hdd, ← top_doit]; exact rparsedo_any x W hm2
 have HNU := Hd fun (e : Int) (W : World) => num_any e W
 clear hmm hdd hl hm hm2
 have e1 : ((m.2.1 : Int) != (m.2.1 : Int)) = false := by simp
 have e2 : ((m.2.2 : Int) != (m.2.2 : Int)) = false := by simp
 have e3 : ((d.2.1 : Int) == (d.2.1 : Int)) = true := by simp
 have e4 : ((d.2.2 : Int) == (d.2.2 : Int)) = true := by simp
 go_enter Tryz.func3, Tryz.ntmps3
 go_upto_region 2 with (go_at_call 4; refine (H4.out _).mono ?_; intro e w1 h; obtain ⟨xk, xn, xA, xx, xa, xB, xy, xb, xC, xz, xc, xp, xl, rfl, hb, ht⟩ := h.named; have HB := Hd hb; have HT := Hd ht; clear h hb ht)
 refine wp_world (fun W => Blk W w1.heap.size 26 #[.int .i64 (xk : Int), .string ⟨xn.toArray⟩, .slice xA xx xa, .slice xB xy xb, .slice xC xz xc, .int .i64 (xp : Int), .int .i64 (xl : Int)] ∧ TrM W w.heap.size (fun _ => False) [.int .i64 (xk : Int), .string ⟨xn.toArray⟩, .slice xA xx xa, .slice xB xy xb, .slice xC xz xc, .int .i64 (xp : Int), .int .i64 (xl : Int)] m.1 ∧ Below w.heap.size w W) ⟨Blk.new _ _ _, TrM.below HT.out (new_below _ _), HB.out.trans ((new_below _ _).mono HB.out.size)⟩ fun w2 h2 => ?_
 have HK3 := Hd h2.1
 have HT3 := Hd h2.2.1
 have HW2 := Hd h2.2.2
 have hz1 := HB.out.size
 obtain ⟨k3, hk3⟩ : ∃ k3, w1.heap.size = k3 := ⟨_, rfl⟩
 rw [hk3] at HK3 hz1 ⊢
 have hl3 := HK3.out.lt
 have hz2 := HW2.out.size
 clear h2 hk3 HB HT
 go_upto_region 3 with (go_at_call 5; refine (H5.out _).mono ?_; intro e w3 h; obtain ⟨uk, un, uA, ux, ua, uB, uy, ub, uC, uz, uc, up, ul, rfl, hb, ht⟩ := h.named; have HB := Hd hb; have HT := Hd ht; clear h hb ht)
 refine wp_world (fun W => Blk W k3 26 #[.int .i64 (xk : Int), .string ⟨xn.toArray⟩, .slice xA xx xa, .slice xB xy xb, .slice xC xz xc, .int .i64 (xp : Int), .int .i64 (xl : Int)] ∧ Blk W w3.heap.size 26 #[.int .i64 (uk : Int), .string ⟨un.toArray⟩, .slice uA ux ua, .slice uB uy ub, .slice uC uz uc, .int .i64 (up : Int), .int .i64 (ul : Int)] ∧ TrM W w.heap.size (fun _ => False) [.int .i64 (xk : Int), .string ⟨xn.toArray⟩, .slice xA xx xa, .slice xB xy xb, .slice xC xz xc, .int .i64 (xp : Int), .int .i64 (xl : Int)] m.1 ∧ TrM W w2.heap.size (fun _ => False) [.int .i64 (uk : Int), .string ⟨un.toArray⟩, .slice uA ux ua, .slice uB uy ub, .slice uC uz uc, .int .i64 (up : Int), .int .i64 (ul : Int)] m.1 ∧ Below w.heap.size w W) ⟨(HK3.out.below HB.out hl3).alloc _, Blk.new _ _ _, TrM.below (TrM.below HT3.out HB.out) (new_below _ _), TrM.below HT.out (new_below _ _), (HW2.out.trans (HB.out.mono hz2)).trans ((new_below _ _).mono (Nat.le_trans hz2 HB.out.size))⟩ fun w4 h4 => ?_
 have HK3' := Hd h4.1
 have hl3' := h4.1.lt
 have HK6 := Hd h4.2.1
 have HTA := Hd h4.2.2.1
 have HTB := Hd h4.2.2.2.1
 have HW4 := Hd h4.2.2.2.2
 have hz3 := HB.out.size
 obtain ⟨k6, hk6⟩ : ∃ k6, w3.heap.size = k6 := ⟨_, rfl⟩
 rw [hk6] at HK6 hz3 ⊢
 have hl6 := HK6.out.lt
 clear h4 hk6 HB HT HK3 HT3 HW2
 have a0 := HK3'.out.cell 0; have a1 := HK3'.out.cell 1; have a2 := HK3'.out.cell 2; have a3 := HK3'.out.cell 3; have a4 := HK3'.out.cell 4; have a5 := HK3'.out.cell 5; have a6 := HK3'.out.cell 6; have al := HK3'.out.lt; have az := HK3'.out.frozen
 have b0 := HK6.out.cell 0; have b1 := HK6.out.cell 1; have b2 := HK6.out.cell 2; have b3 := HK6.out.cell 3; have b4 := HK6.out.cell 4; have b5 := HK6.out.cell 5; have b6 := HK6.out.cell 6; have bl := HK6.out.lt; have bz := HK6.out.frozen
 go_upto_region 5 with (first
  | (go_at_call 6; refine (alike_any HTA.out HTB.out _ (Below.refl _ _)).mono ?_; rintro e w5 ⟨rfl, hb⟩; have HB5 := Hd hb; clear hb)
  | (go_at_call 7; refine (HNU.out _ _).mono ?_; rintro e w6 ⟨rfl, hb⟩; have HB6 := Hd hb; clear hb))
 have HB46 := Hd (HB5.out.trans (HB6.out.mono HB5.out.size))
 have HK3 := Hd (HK3'.out.below HB46.out hl3')
 have HK7 := Hd (HK6.out.below HB46.out hl6)
 have HW6 := Hd (HW4.out.trans (HB46.out.mono HW4.out.size))
 have hl36 := HK3.out.lt
 have hl66 := HK7.out.lt
 have hz6 := HW6.out.size
 clear HB5 HB6 HB46 HK3' HK6 HTA HTB HW4 a0 a1 a2 a3 a4 a5 a6 al az b0 b1 b2 b3 b4 b5 b6 bl bz
 go_upto_region 6 with (go_at_call 8; refine (H8.out _).mono ?_; intro e w7 h; obtain ⟨vk, vn, vA, vx, va, vB, vy, vb, vC, vz, vc, vp, vl, rfl, hb, ht⟩ := h.named; have HB := Hd hb; have HT := Hd ht; have HK37 := Hd (HK3.out.below hb hl36); clear h hb ht; have a0 := HK37.out.cell 0; have a1 := HK37.out.cell 1; have a2 := HK37.out.cell 2; have a3 := HK37.out.cell 3; have a4 := HK37.out.cell 4; have a5 := HK37.out.cell 5; have a6 := HK37.out.cell 6; have al := HK37.out.lt; have az := HK37.out.frozen)
 refine wp_world (fun W => Blk W k3 26 #[.int .i64 (vk : Int), .string ⟨vn.toArray⟩, .slice vA vx va, .slice vB vy vb, .slice vC vz vc, .int .i64 (vp : Int), .int .i64 (vl : Int)] ∧ Blk W k6 26 #[.int .i64 (uk : Int), .string ⟨un.toArray⟩, .slice uA ux ua, .slice uB uy ub, .slice uC uz uc, .int .i64 (up : Int), .int .i64 (ul : Int)] ∧ TrM W w6.heap.size (fun _ => False) [.int .i64 (vk : Int), .string ⟨vn.toArray⟩, .slice vA vx va, .slice vB vy vb, .slice vC vz vc, .int .i64 (vp : Int), .int .i64 (vl : Int)] d.1 ∧ Below w.heap.size w W ∧ w6.heap.size ≤ W.heap.size) ⟨HK37.out.set7 _ _ _ _ _ _ _, (chg_set7 _ _ _ _ _ _ _ _ _).blk (HK7.out.below HB.out hl66) (by omega), TrM.chg HT.out (chg_set7 _ _ _ _ _ _ _ _ _) (fun k h1 _ _ e => by omega), below_set7 (HW6.out.trans (HB.out.mono hz6)) hz1 _ _ _ _ _ _ _, Nat.le_trans HB.out.size (chg_set7 _ _ _ _ _ _ _ _ _).size⟩ fun w8 h8 => ?_
 have HK38 := Hd h8.1
 have HK68 := Hd h8.2.1
 have HT8 := Hd h8.2.2.1
 have HW8 := Hd h8.2.2.2.1
 have hz8 := h8.2.2.2.2
 have hl38 := HK38.out.lt
 have hl68 := HK68.out.lt
 have hzw8 := HW8.out.size
 clear h8 HB HT HK37 HK3 HK7 HW6 a0 a1 a2 a3 a4 a5 a6 al az
 go_upto_region 7 with (go_at_call 9; refine (H9.out _).mono ?_; intro e w9 h; obtain ⟨yk, yn, yA, yx, ya, yB, yy, yb, yC, yz, yc, yp, yl, rfl, hb, ht⟩ := h.named; have HB := Hd hb; have HT := Hd ht; have HK69 := Hd (HK68.out.below hb hl68); clear h hb ht; have a0 := HK69.out.cell 0; have a1 := HK69.out.cell 1; have a2 := HK69.out.cell 2; have a3 := HK69.out.cell 3; have a4 := HK69.out.cell 4; have a5 := HK69.out.cell 5; have a6 := HK69.out.cell 6; have al := HK69.out.lt; have az := HK69.out.frozen)
 refine wp_world (fun W => Blk W k3 26 #[.int .i64 (vk : Int), .string ⟨vn.toArray⟩, .slice vA vx va, .slice vB vy vb, .slice vC vz vc, .int .i64 (vp : Int), .int .i64 (vl : Int)] ∧ Blk W k6 26 #[.int .i64 (yk : Int), .string ⟨yn.toArray⟩, .slice yA yx ya, .slice yB yy yb, .slice yC yz yc, .int .i64 (yp : Int), .int .i64 (yl : Int)] ∧ TrM W w6.heap.size (fun _ => False) [.int .i64 (vk : Int), .string ⟨vn.toArray⟩, .slice vA vx va, .slice vB vy vb, .slice vC vz vc, .int .i64 (vp : Int), .int .i64 (vl : Int)] d.1 ∧ TrM W w8.heap.size (fun _ => False) [.int .i64 (yk : Int), .string ⟨yn.toArray⟩, .slice yA yx ya, .slice yB yy yb, .slice yC yz yc, .int .i64 (yp : Int), .int .i64 (yl : Int)] d.1 ∧ Below w.heap.size w W) ⟨(chg_set7 _ _ _ _ _ _ _ _ _).blk (HK38.out.below HB.out hl38) (by omega), HK69.out.set7 _ _ _ _ _ _ _, TrM.chg (TrM.below HT8.out HB.out) (chg_set7 _ _ _ _ _ _ _ _ _) (fun k h1 _ _ e => by omega), TrM.chg HT.out (chg_set7 _ _ _ _ _ _ _ _ _) (fun k h1 _ _ e => by omega), below_set7 (HW8.out.trans (HB.out.mono hzw8)) (by omega) _ _ _ _ _ _ _⟩ fun w10 h10 => ?_
 have HK3 := Hd h10.1
 have HK6 := Hd h10.2.1
 have HTA := Hd h10.2.2.1
 have HTB := Hd h10.2.2.2.1
 have HW10 := Hd h10.2.2.2.2
 clear h10 HB HT HK69 HK38 HK68 HT8 HW8 a0 a1 a2 a3 a4 a5 a6 al az
 have a0 := HK3.out.cell 0; have a1 := HK3.out.cell 1; have a2 := HK3.out.cell 2; have a3 := HK3.out.cell 3; have a4 := HK3.out.cell 4; have a5 := HK3.out.cell 5; have a6 := HK3.out.cell 6; have al := HK3.out.lt; have az := HK3.out.frozen
 have b0 := HK6.out.cell 0; have b1 := HK6.out.cell 1; have b2 := HK6.out.cell 2; have b3 := HK6.out.cell 3; have b4 := HK6.out.cell 4; have b5 := HK6.out.cell 5; have b6 := HK6.out.cell 6; have bl := HK6.out.lt; have bz := HK6.out.frozen
 go_wp2_with (first
  | (go_at_call 6; refine (alike_any HTA.out HTB.out _ (Below.refl _ _)).mono ?_; rintro e w11 ⟨rfl, hb⟩; have HB5 := Hd hb; clear hb)
  | (go_at_call 7; refine (HNU.out _ _).mono ?_; rintro e w12 ⟨rfl, hb⟩; have HB6 := Hd hb; clear hb))
 go_ret
 exact ⟨rfl, HW10.out.trans ((HB5.out.trans (HB6.out.mono HB5.out.size)).mono HW10.out.size)⟩
end Go.Proofs.YtbnlnndeajjenaaGreat
namespace Go.Proofs.YtbnlnndeajjenaaGreat
open Go.ChangeShapes Go.WideShapes Go.ChangeAt Go.RowKit
namespace LawP
theorem own : ownKnob Tryz.prog.godebug = none := by kernel_rfl
theorem laidOut : laidOutB Tryz.prog = true := by kernel_rfl
set_option maxRecDepth 100000 in
theorem lifted (os : Os) (started : os.Started) (H : Type) (enc : TypeId × Value → H) :
  ReturnsInHanded {} Tryz.checked os 3 .any (Rows.sourceParsesSpec.pre6 enc Tryz.prog Tryz.f3 Rows.sourceParsesRow.domain false) (Rows.sourceParsesSpec.post enc Tryz.prog Tryz.f3 false true false false) := by
 refine returnsInHanded_of_change (C := Tryz.checked) own started (by kernel_rfl) Tryz.func3
  (ChangeSpec.witness6 (enc := enc) (C := Tryz.checked) false ⟨#[], #[.string ⟨#[]⟩], []⟩ 8 (by kernel_rfl) (by kernel_rfl) (by kernel_rfl) (by kernel_rfl)) ?_
 intro W base args ds gs before hval0 hW hcnd _
 have hval : ∀ (j : Nat) t v, Tryz.f3.params[j]? = some t → args[j]? = some v → Value.okWide Tryz.prog W .any base t v := hval0
 have hW' := hW
 obtain ⟨p, q, hA0, hV, rfl, hfz, hnd⟩ := hW
 have hA : DataW.TrodAll enc Tryz.prog W 0 (fun _ => true) true Tryz.f3.params.toList args.toList ds p := hA0
 rw [Tryz.params3] at hA hval
 obtain ⟨v0, vs0, d0, ds0, p0, q0, hargs, rfl, rfl, h0, r0⟩ := trodAll_cons hA
 obtain ⟨rfl, rfl, rfl⟩ := trodAll_nil r0
 obtain rfl : args = #[v0] := by cases args; simp_all
 obtain ⟨rfl, rfl⟩ := trodVars_none hV
 have k0 := h0
 have lt0 : ∀ x ∈ p0, x.block < W.heap.size := by obtain ⟨m, hm⟩ := k0; exact DataW.trod_lt m _ _ _ hm
 obtain ⟨s, rfl⟩ := okWide_string Tryz.underlying9 (hval 0 9 v0 rfl rfl)
 obtain ⟨m, hm⟩ := h0
 obtain ⟨s', hs', _, hsz⟩ := DataW.trod_string Tryz.underlying9 hm
 simp only [Value.cells, List.cons.injEq, and_true, Value.string.injEq] at hs'
 subst hs'
 clear hA0 hval0
 have hm2 : s.size ≤ 9223372036854775807 := Nat.le_trans (by omega) (show maxLen ≤ 9223372036854775807 by decide)
 refine (parses_any s W hm2).mono fun e W' ⟨he, bel⟩ => ?_
 subst he
 exact ⟨_, rfl, _, _, _, [], _, [], hW', trodAll_mk1 (shut_bool Tryz.underlying4 _), (trodAll_cons_mk (Below.trod laidOut (by kernel_rfl) (of_decide_eq_true (by kernel_rfl)) k0 bel lt0) trodAll_mk0), rfl, bel.frame _, fun h => by cases h⟩
theorem over : Rows.sourceParsesRow.holds Tryz.pinned (OpenSpec.ofChange Rows.sourceParsesSpec) :=
 OpenClaim.holds_of_wide 3 Tryz.f3 rfl rfl rfl rfl rfl rfl rfl ⟨rfl, rfl, rfl, rfl, rfl⟩ rfl rfl rfl rfl rfl (by kernel_rfl) Tryz.func3 (by kernel_rfl)
  (of_decide_eq_true (by kernel_rfl)) (by unfold Func.isWrapper; first | (rw [if_pos (by decide +kernel)]; kernel_rfl) | (rw [if_neg (by decide +kernel)]; exact ⟨rfl, rfl⟩))
  (fun os started H enc _ => lifted os started H enc)
end LawP
theorem sourceParses_holds : Rows.SourceParsesSaid := LawP.over
end Go.Proofs.YtbnlnndeajjenaaGreat
