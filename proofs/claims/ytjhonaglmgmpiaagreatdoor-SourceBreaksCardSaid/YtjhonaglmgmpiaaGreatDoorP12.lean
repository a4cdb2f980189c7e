/-
  Parts Wo, Wp, Wq of the proof. No statement of the seat is proved here.
-/
import Derived.Test.YtjhonaglmgmpiaaGreatDoorP11
set_option maxHeartbeats 4000000
namespace Go.Proofs.YtjhonaglmgmpiaaGreatDoor
open Go.RowKit
namespace Ps
mutual
def szB : Tr → Bool
 | .mk _ n a b l _ _ => decide (n.length < 4294967281) && a.all (fun x => decide (x.length < 4294967281)) && b.all (fun x => decide (x.length < 4294967281)) && szL l
def szL : List Tr → Bool
 | [] => true
 | t :: r => szB t && szL r
end
theorem szL_at : ∀ {l : List Tr} {i : Nat} {t : Tr}, szL l = true → l[i]? = some t → szB t = true
 | [], i, t, _, h => by simp at h
 | a :: r, 0, t, hs, h => by
  rw [szL, Bool.and_eq_true] at hs
  obtain rfl : a = t := by simpa using h
  exact hs.1
 | a :: r, i + 1, t, hs, h => by
  rw [szL, Bool.and_eq_true] at hs
  exact szL_at hs.2 (by simpa using h)
theorem szB_parts {k : Nat} {n : Lx.Txt} {a b : List Lx.Txt} {l : List Tr} {p x : Nat} (h : szB (.mk k n a b l p x) = true) : n.length < 4294967281 ∧ (∀ y ∈ a, y.length < 4294967281) ∧ (∀ y ∈ b, y.length < 4294967281) ∧ szL l = true := by
 rw [szB] at h
 simp only [Bool.and_eq_true, decide_eq_true_eq, List.all_eq_true] at h
 exact ⟨h.1.1.1, h.1.1.2, h.1.2, h.2⟩
theorem kid_rank (t : Tr) : (kid t).1.rank = rankT t.kind t.name := by cases t; rw [kid]; rfl
theorem kid_name (t : Tr) : (kid t).1.name = t.name := by cases t; rw [kid]; rfl
end Ps
theorem Blk.c7 {W : World} {k : Nat} {t : TypeId} {x0 x1 x2 x3 x4 x5 x6 : Value} (h : Blk W k t #[x0, x1, x2, x3, x4, x5, x6]) :
 k < W.heap.size ∧ W.cell? ⟨k, 0, none⟩ = some x0 ∧ W.cell? ⟨k, 1, none⟩ = some x1 ∧ W.cell? ⟨k, 2, none⟩ = some x2 ∧ W.cell? ⟨k, 3, none⟩ = some x3 ∧ W.cell? ⟨k, 4, none⟩ = some x4 ∧ W.cell? ⟨k, 5, none⟩ = some x5 ∧ W.cell? ⟨k, 6, none⟩ = some x6 :=
 ⟨h.lt, h.cell 0, h.cell 1, h.cell 2, h.cell 3, h.cell 4, h.cell 5, h.cell 6⟩
theorem rankTr_le (t : Ps.Tr) : rankTr t ≤ 4 := by
 unfold rankTr Ps.rankT
 have := rankS_le t.name
 repeat' split
 all_goals omega
theorem new_blk {W w1 : World} {X : Array Value} {t : TypeId} (hb : Below (W.alloc (.cells X t)).heap.size (W.alloc (.cells X t)) w1) : Blk w1 W.heap.size t X := (hb.block _ (by simp)).trans (Blk.new W t X)
theorem below_draw {w w2 : World} (hb : Below w.drew.heap.size w.drew w2) : Below w.heap.size w w2 := (Below.refl _ w).drew.trans hb
def WC (g base : Nat) (v : Value) (s' : Ps.Wr) (W : World) (e : Ending) (w' : World) : Prop := e = .returned (.tuple #[]) ∧ WP g base v s' W w'
def ExC (w0 : World) (g base : Nat) (cs : List Value) (t : Ps.Tr) : Prop := ∀ (W : World) (v : Value) (s : Ps.Wr), Below g w0 W → WA W g base v s → Calls Tryz.prog 120 #[.pointer (some ⟨g, 0, none⟩), .agg cs.toArray] W (WC g base v (Ps.evs (Ps.kid t).1.ex s) W)
set_option maxRecDepth 20000 in
theorem wwithin_any {w0 : World} {S : Nat → Prop} {g base : Nat} {cs : List Value} {t : Ps.Tr} (hE : ExC w0 g base cs t) (hT : TpIn w0 S cs t) (hx : t.name.length < 4294967281) (most : Nat) (W : World) (v : Value) (s : Ps.Wr) (hB : Below g w0 W) (hw : WA W g base v s) :
  Calls Tryz.prog 194 #[.pointer (some ⟨g, 0, none⟩), .agg cs.toArray, .int .i64 (most : Int)] W (WC g base v (Ps.evs (Ps.wi most (Ps.kid t).1) s) W) := by
 have HRK := Hd fun W => wrank_any hT (by omega) W
 have HE := Hd hE
 have HB := Hd hB
 have HW := Hd hw
 have hrl := rankTr_le t
 have hkr := Ps.kid_rank t
 have hrk : rankTr t = Ps.rankT t.kind t.name := rfl
 rw [← hrk] at hkr
 have HGW : Hid (g < W.heap.size) := Hd hw.blk.lt
 generalize hks : (Ps.kid t).1 = kt at *
 unfold ExC at HE
 rw [hks] at HE
 generalize rankTr t = rk at *
 cases hT with
 | mk k name names temps nodes prim place z A1 c1 A2 c2 A3 c3 css h1 h2 hl h3 h4 h5 =>
  clear h1 h2 hl h3 h4 h5 hE hB hw hks hrk hx
  by_cases hle : rk ≤ most
  ·have HX : Hid (Ps.wi most kt = kt.ex) := Hd (by unfold Ps.wi; rw [hkr, if_pos hle])
   have d1 : (rk : Int) ≤ (most : Int) := by omega
   clear hkr hle
   have HBG := Hd (new_below W (.cells #[.int .i64 (k : Int), .string ⟨name.toArray⟩, .slice A1 names.length c1, .slice A2 temps.length c2, .slice A3 nodes.length c3, .int .i64 (prim : Int), .int .i64 z] 27))
   go_enter Tryz.func194, Tryz.ntmps194
   go_wp2_with (first
    | (go_at_call 215; refine (HRK.out _).mono ?_; rintro e w1 ⟨rfl, hb⟩; have HB1 := Hd (HBG.out.trans (hb.mono HBG.out.size)); have HK := Hd (new_blk hb); obtain ⟨a, b0, b1, b2, b3, b4, b5, b6⟩ := HK.out.c7; clear hb)
    | (go_at_call 120; refine (HE.out _ _ _ (HB.out.trans (HB1.out.mono (by have := HGW.out; omega))) (HW.out.below HB1.out)).mono ?_; rintro e w2 ⟨rfl, hp⟩; have HP := Hd hp; clear hp))
   (try simp only [Exit.inBlock, Exit.then]); refine bodyPost_ret (results_none rfl _ _ _) rfl ?_
   rw [HX.out]
   exact ⟨rfl, WP.from HB1.out HP.out⟩
  ·have HX : Hid (∀ s, Ps.evs (Ps.wi most kt) s = Ps.ev (.c [41]) (Ps.evs kt.ex (Ps.ev (.o [40]) s))) := Hd fun s => by unfold Ps.wi; rw [hkr, if_neg hle, Ps.evs, Ps.evs_append]; rfl
   have d1 : ¬ ((rk : Int) ≤ (most : Int)) := by omega
   clear hkr hle
   have HBG := Hd (new_below W (.cells #[.int .i64 (k : Int), .string ⟨name.toArray⟩, .slice A1 names.length c1, .slice A2 temps.length c2, .slice A3 nodes.length c3, .int .i64 (prim : Int), .int .i64 z] 27))
   go_enter Tryz.func194, Tryz.ntmps194
   go_upto_region 3 with (go_at_call 215; refine (HRK.out _).mono ?_; rintro e w1 ⟨rfl, hb⟩; have HB1 := Hd (HBG.out.trans (hb.mono HBG.out.size)); have HK := Hd (new_blk hb); clear hb)
   have HW1 := Hd (HW.out.below HB1.out)
   have HB2 := Hd (HB.out.trans (HB1.out.mono (by have := HGW.out; omega)))
   generalize W.heap.size = wk at HK ⊢
   have HO := Hd (wopen_any [40] HW1.out (by decide))
   go_upto_region 4 with (go_at_call 199; refine HO.out.mono ?_; rintro e w2 ⟨rfl, hp⟩; have HK2 := Hd (hp.blk HW1.out HK.out (by decide) (by decide)); obtain ⟨v2, hx⟩ := hp.x; have HX2 := Hd hx; clear hp hx)
   obtain ⟨a, b0, b1, b2, b3, b4, b5, b6⟩ := HK2.out.c7
   have HB3 := Hd (HB2.out.trans (HX2.out.low HW1.out))
   go_upto_region 5 with (go_at_call 120; refine (HE.out _ _ _ HB3.out HX2.out.wa).mono ?_; rintro e w3 ⟨rfl, hp⟩; obtain ⟨v3, hx⟩ := HX2.out.step hp; have HX3 := Hd hx; clear hp hx)
   have HC := Hd (wclose_any [41] HX3.out.wa (by decide))
   go_wp2_with (go_at_call 200; refine HC.out.mono ?_; rintro e w4 ⟨rfl, hp⟩; obtain ⟨v4, hx⟩ := HX3.out.step hp; have HX4 := Hd hx; clear hp hx)
   go_end0
   rw [HX.out]
   exact ⟨rfl, WP.from HB1.out HX4.out.wp⟩
set_option maxRecDepth 20000 in
theorem wreceiver_any {w0 : World} {S : Nat → Prop} {g base : Nat} {cs : List Value} {t : Ps.Tr} (hE : ExC w0 g base cs t) (hT : TpIn w0 S cs t) (hx : t.name.length < 4294967281) (n : Lx.Txt) (hn : n.length < 4294967281) (W : World) (v : Value) (s : Ps.Wr) (hB : Below g w0 W) (hw : WA W g base v s) :
  Calls Tryz.prog 151 #[.pointer (some ⟨g, 0, none⟩), .agg cs.toArray, .string ⟨n.toArray⟩] W (WC g base v (Ps.evs (Ps.rcE n (Ps.kid t).1) s) W) := by
 have HRK := Hd fun W => wrankof_any n W (by omega)
 have HW1 : Hid (∀ W v s, Below g w0 W → WA W g base v s → Calls Tryz.prog 194 #[.pointer (some ⟨g, 0, none⟩), .agg cs.toArray, .int .i64 (min (IntKind.i64.wrap 1) 2)] W (WC g base v (Ps.evs (Ps.wi 1 (Ps.kid t).1) s) W)) := Hd fun W v s hB hw => by rw [show (min (IntKind.i64.wrap 1) 2 : Int) = 1 by decide]; exact wwithin_any hE hT hx 1 W v s hB hw
 have HW2 : Hid (∀ W v s, Below g w0 W → WA W g base v s → Calls Tryz.prog 194 #[.pointer (some ⟨g, 0, none⟩), .agg cs.toArray, .int .i64 (min (IntKind.i64.wrap 2) 2)] W (WC g base v (Ps.evs (Ps.wi 2 (Ps.kid t).1) s) W)) := Hd fun W v s hB hw => by rw [show (min (IntKind.i64.wrap 2) 2 : Int) = 2 by decide]; exact wwithin_any hE hT hx 2 W v s hB hw
 have HW3 : Hid (∀ W v s, Below g w0 W → WA W g base v s → Calls Tryz.prog 194 #[.pointer (some ⟨g, 0, none⟩), .agg cs.toArray, .int .i64 (min (IntKind.i64.wrap 3) 2)] W (WC g base v (Ps.evs (Ps.wi 2 (Ps.kid t).1) s) W)) := Hd fun W v s hB hw => by rw [show (min (IntKind.i64.wrap 3) 2 : Int) = 2 by decide]; exact wwithin_any hE hT hx 2 W v s hB hw
 have HX : Hid (∀ s, Ps.evs (Ps.rcE n (Ps.kid t).1) s = Ps.evs [.t [32]] (Ps.evs (Ps.wi (min (Ps.rankS n + 1) 2) (Ps.kid t).1) s)) := Hd fun s => by unfold Ps.rcE; rw [Ps.evs_append]
 have HB := Hd hB
 have HW := Hd hw
 have HGW : Hid (g < W.heap.size) := Hd hw.blk.lt
 have hrl := rankS_le n
 generalize hks : (Ps.kid t).1 = kt at *
 generalize Ps.rankS n = rs at *
 cases hT with
 | mk k name names temps nodes prim place z A1 c1 A2 c2 A3 c3 css h1 h2 hl h3 h4 h5 =>
  clear h1 h2 hl h3 h4 h5 hE hB hw hks hx hn
  have HBG := Hd (new_below W (.cells #[.int .i64 (k : Int), .string ⟨name.toArray⟩, .slice A1 names.length c1, .slice A2 temps.length c2, .slice A3 nodes.length c3, .int .i64 (prim : Int), .int .i64 z] 27))
  have HK0 := Hd (Blk.new W 27 #[.int .i64 (k : Int), .string ⟨name.toArray⟩, .slice A1 names.length c1, .slice A2 temps.length c2, .slice A3 nodes.length c3, .int .i64 (prim : Int), .int .i64 z])
  obtain rfl | rfl | rfl : rs = 0 ∨ rs = 1 ∨ rs = 2 := by omega
  ·go_enter Tryz.func151, Tryz.ntmps151
   go_upto_region 1 with fail
   have HW0 := Hd (HW.out.below HBG.out)
   have HB0 := Hd (HB.out.trans (HBG.out.mono (by have := HGW.out; omega)))
   generalize (W.alloc (.cells #[.int .i64 (k : Int), .string ⟨name.toArray⟩, .slice A1 names.length c1, .slice A2 temps.length c2, .slice A3 nodes.length c3, .int .i64 (prim : Int), .int .i64 z] 27)) = w1 at *
   obtain ⟨a, b0, b1, b2, b3, b4, b5, b6⟩ := HK0.out.c7
   go_region_held3 (fun W' => W'.cell? ⟨W.heap.size, 0, none⟩ = some (.int .i64 (k : Int)) ∧ W'.cell? ⟨W.heap.size, 1, none⟩ = some (.string ⟨name.toArray⟩) ∧ W'.cell? ⟨W.heap.size, 2, none⟩ = some (.slice A1 names.length c1) ∧ W'.cell? ⟨W.heap.size, 3, none⟩ = some (.slice A2 temps.length c2) ∧ W'.cell? ⟨W.heap.size, 4, none⟩ = some (.slice A3 nodes.length c3) ∧ W'.cell? ⟨W.heap.size, 5, none⟩ = some (.int .i64 (prim : Int)) ∧ W'.cell? ⟨W.heap.size, 6, none⟩ = some (.int .i64 z))
    (first | exact HK2.out.c7.2 | exact HK3.out.c7.2 | go_keep)
    (first
     | (go_at_call 195; ((with_reducible refine (HRK.out _).mono ?_); rintro e w2 ⟨rfl, hb⟩; have HB2 := Hd (below_draw hb); have HK2 := Hd (HK0.out.below HB2.out HK0.out.lt); clear hb))
     | (go_at_call 194; ((with_reducible refine (HW1.out _ _ _ (HB0.out.trans (HB2.out.mono (Nat.le_of_lt HW0.out.blk.lt))) (HW0.out.below HB2.out)).mono ?_); rintro e w3 ⟨rfl, hp⟩; have HK3 := Hd (hp.blk (HW0.out.below HB2.out) HK2.out (by decide) (by decide)); obtain ⟨v3, hx⟩ := hp.x; have HX3 := Hd hx; clear hp hx)))
   have HPT := Hd (wput_new [[32]] HX3.out.wa (by decide) (by decide))
   go_wp2_with (go_at_call 66; refine HPT.out.mono ?_; rintro e w4 ⟨rfl, hp⟩; obtain ⟨v4, hx⟩ := HX3.out.step hp; have HX4 := Hd hx; clear hp hx)
   go_end0
   rw [HX.out]
   exact ⟨rfl, WP.from (HBG.out.trans (HB2.out.mono HBG.out.size)) HX4.out.wp⟩
  ·go_enter Tryz.func151, Tryz.ntmps151
   go_upto_region 1 with fail
   have HW0 := Hd (HW.out.below HBG.out)
   have HB0 := Hd (HB.out.trans (HBG.out.mono (by have := HGW.out; omega)))
   generalize (W.alloc (.cells #[.int .i64 (k : Int), .string ⟨name.toArray⟩, .slice A1 names.length c1, .slice A2 temps.length c2, .slice A3 nodes.length c3, .int .i64 (prim : Int), .int .i64 z] 27)) = w1 at *
   obtain ⟨a, b0, b1, b2, b3, b4, b5, b6⟩ := HK0.out.c7
   go_region_held3 (fun W' => W'.cell? ⟨W.heap.size, 0, none⟩ = some (.int .i64 (k : Int)) ∧ W'.cell? ⟨W.heap.size, 1, none⟩ = some (.string ⟨name.toArray⟩) ∧ W'.cell? ⟨W.heap.size, 2, none⟩ = some (.slice A1 names.length c1) ∧ W'.cell? ⟨W.heap.size, 3, none⟩ = some (.slice A2 temps.length c2) ∧ W'.cell? ⟨W.heap.size, 4, none⟩ = some (.slice A3 nodes.length c3) ∧ W'.cell? ⟨W.heap.size, 5, none⟩ = some (.int .i64 (prim : Int)) ∧ W'.cell? ⟨W.heap.size, 6, none⟩ = some (.int .i64 z))
    (first | exact HK2.out.c7.2 | exact HK3.out.c7.2 | go_keep)
    (first
     | (go_at_call 195; ((with_reducible refine (HRK.out _).mono ?_); rintro e w2 ⟨rfl, hb⟩; have HB2 := Hd (below_draw hb); have HK2 := Hd (HK0.out.below HB2.out HK0.out.lt); clear hb))
     | (go_at_call 194; ((with_reducible refine (HW2.out _ _ _ (HB0.out.trans (HB2.out.mono (Nat.le_of_lt HW0.out.blk.lt))) (HW0.out.below HB2.out)).mono ?_); rintro e w3 ⟨rfl, hp⟩; have HK3 := Hd (hp.blk (HW0.out.below HB2.out) HK2.out (by decide) (by decide)); obtain ⟨v3, hx⟩ := hp.x; have HX3 := Hd hx; clear hp hx)))
   have HPT := Hd (wput_new [[32]] HX3.out.wa (by decide) (by decide))
   go_wp2_with (go_at_call 66; refine HPT.out.mono ?_; rintro e w4 ⟨rfl, hp⟩; obtain ⟨v4, hx⟩ := HX3.out.step hp; have HX4 := Hd hx; clear hp hx)
   go_end0
   rw [HX.out]
   exact ⟨rfl, WP.from (HBG.out.trans (HB2.out.mono HBG.out.size)) HX4.out.wp⟩
  ·go_enter Tryz.func151, Tryz.ntmps151
   go_upto_region 1 with fail
   have HW0 := Hd (HW.out.below HBG.out)
   have HB0 := Hd (HB.out.trans (HBG.out.mono (by have := HGW.out; omega)))
   generalize (W.alloc (.cells #[.int .i64 (k : Int), .string ⟨name.toArray⟩, .slice A1 names.length c1, .slice A2 temps.length c2, .slice A3 nodes.length c3, .int .i64 (prim : Int), .int .i64 z] 27)) = w1 at *
   obtain ⟨a, b0, b1, b2, b3, b4, b5, b6⟩ := HK0.out.c7
   go_region_held3 (fun W' => W'.cell? ⟨W.heap.size, 0, none⟩ = some (.int .i64 (k : Int)) ∧ W'.cell? ⟨W.heap.size, 1, none⟩ = some (.string ⟨name.toArray⟩) ∧ W'.cell? ⟨W.heap.size, 2, none⟩ = some (.slice A1 names.length c1) ∧ W'.cell? ⟨W.heap.size, 3, none⟩ = some (.slice A2 temps.length c2) ∧ W'.cell? ⟨W.heap.size, 4, none⟩ = some (.slice A3 nodes.length c3) ∧ W'.cell? ⟨W.heap.size, 5, none⟩ = some (.int .i64 (prim : Int)) ∧ W'.cell? ⟨W.heap.size, 6, none⟩ = some (.int .i64 z))
    (first | exact HK2.out.c7.2 | exact HK3.out.c7.2 | go_keep)
    (first
     | (go_at_call 195; ((with_reducible refine (HRK.out _).mono ?_); rintro e w2 ⟨rfl, hb⟩; have HB2 := Hd (below_draw hb); have HK2 := Hd (HK0.out.below HB2.out HK0.out.lt); clear hb))
     | (go_at_call 194; ((with_reducible refine (HW3.out _ _ _ (HB0.out.trans (HB2.out.mono (Nat.le_of_lt HW0.out.blk.lt))) (HW0.out.below HB2.out)).mono ?_); rintro e w3 ⟨rfl, hp⟩; have HK3 := Hd (hp.blk (HW0.out.below HB2.out) HK2.out (by decide) (by decide)); obtain ⟨v3, hx⟩ := hp.x; have HX3 := Hd hx; clear hp hx)))
   have HPT := Hd (wput_new [[32]] HX3.out.wa (by decide) (by decide))
   go_wp2_with (go_at_call 66; refine HPT.out.mono ?_; rintro e w4 ⟨rfl, hp⟩; obtain ⟨v4, hx⟩ := HX3.out.step hp; have HX4 := Hd hx; clear hp hx)
   go_end0
   rw [HX.out]
   exact ⟨rfl, WP.from (HBG.out.trans (HB2.out.mono HBG.out.size)) HX4.out.wp⟩
namespace Ps
theorem kwE_snoc : ∀ (k : Nat) (first : Bool) (l : List Lx.Txt) (ks : List Kid) (x : Lx.Txt), l[k]? = some x → kwE first (l.take (k + 1)) ks = kwE first (l.take k) ks ++ ((if first && k == 0 then [] else [.t [32]]) ++ (.t x :: .t [32] :: wi 2 (ks.getD k Kid.no)))
 | 0, first, [], ks, x, h => by simp at h
 | 0, first, a :: r, ks, x, h => by
  obtain rfl : a = x := by simpa using h
  have e : ks.getD 0 Kid.no = ks.headD Kid.no := by cases ks <;> rfl
  rw [e]
  cases first <;> simp [kwE]
 | k + 1, first, [], ks, x, h => by simp at h
 | k + 1, first, a :: r, ks, x, h => by
  have ih := kwE_snoc k false r ks.tail x (by simpa using h)
  have e : ks.tail.getD k Kid.no = ks.getD (k + 1) Kid.no := by cases ks <;> simp
  rw [e] at ih
  rw [List.take_succ_cons, List.take_succ_cons, kwE, kwE, ih]
  cases first <;> simp
end Ps
def ArC (w0 : World) (S : Nat → Prop) (g base : Nat) (A : Option Addr) (l : List Ps.Tr) : Prop :=
 ∃ css : List (List Value), css.length = l.length ∧ ReadsI w0 S 7 A l.length css.flatten ∧ ∀ (i : Nat) (cs' : List Value) (t' : Ps.Tr), css[i]? = some cs' → l[i]? = some t' → TpIn w0 S cs' t' ∧ ExC w0 g base cs' t' ∧ t'.name.length < 4294967281
theorem flat_at : ∀ {css : List (List Value)} (_ : ∀ c ∈ css, c.length = 7) (i j : Nat) (c : List Value), css[i]? = some c → j < 7 → css.flatten[i * 7 + j]? = c[j]?
 | [], _, i, j, c, h, _ => by simp at h
 | a :: r, h7, 0, j, c, h, hj => by
  obtain rfl : a = c := by simpa using h
  rw [List.flatten_cons, Nat.zero_mul, Nat.zero_add, List.getElem?_append_left (by rw [h7 a (by simp)]; exact hj)]
 | a :: r, h7, i + 1, j, c, h, hj => by
  rw [List.flatten_cons, List.getElem?_append_right (by rw [h7 a (by simp)]; omega), h7 a (by simp), show (i + 1) * 7 + j - 7 = i * 7 + j by omega]
  exact flat_at (fun c hc => h7 c (List.mem_cons_of_mem _ hc)) i j c (by simpa using h) hj
theorem list7 {cs : List Value} (h : cs.length = 7) : ∃ x0 x1 x2 x3 x4 x5 x6, cs = [x0, x1, x2, x3, x4, x5, x6] := by
 match cs, h with
 | [x0, x1, x2, x3, x4, x5, x6], _ => exact ⟨x0, x1, x2, x3, x4, x5, x6, rfl⟩
set_option maxRecDepth 20000 in
theorem ArC.at_ {w0 W : World} {S : Nat → Prop} {g base : Nat} {A : Option Addr} {l : List Ps.Tr} (h : ArC w0 S g base A l) (hS : ∀ k, S k → k < g) (hB : Below g w0 W) {i : Nat} {t : Ps.Tr} (hi : l[i]? = some t) :
 ∃ b off x0 x1 x2 x3 x4 x5 x6, A = some ⟨b, off, none⟩ ∧ b < g ∧ b < W.heap.size ∧ TpIn w0 S [x0, x1, x2, x3, x4, x5, x6] t ∧ ExC w0 g base [x0, x1, x2, x3, x4, x5, x6] t ∧ t.name.length < 4294967281 ∧
  W.cell? ⟨b, off + i * 7, none⟩ = some x0 ∧ W.cell? ⟨b, off + i * 7 + 1, none⟩ = some x1 ∧ W.cell? ⟨b, off + i * 7 + 2, none⟩ = some x2 ∧ W.cell? ⟨b, off + i * 7 + 3, none⟩ = some x3 ∧ W.cell? ⟨b, off + i * 7 + 4, none⟩ = some x4 ∧ W.cell? ⟨b, off + i * 7 + 5, none⟩ = some x5 ∧ W.cell? ⟨b, off + i * 7 + 6, none⟩ = some x6 := by
 obtain ⟨css, hl, hr, hc⟩ := h
 have hil := (List.getElem?_eq_some_iff.1 hi).1
 obtain ⟨b, off, e, hSb, hbl, hcl⟩ := hr.2 (by omega)
 have h7 : ∀ c ∈ css, c.length = 7 := fun c hm => by
  obtain ⟨q, hq, rfl⟩ := List.getElem_of_mem hm
  exact (hc q _ _ (List.getElem?_eq_getElem hq) (List.getElem?_eq_getElem (by omega))).1.len
 have hx : css[i]? = some (css[i]'(by omega)) := List.getElem?_eq_getElem (by omega)
 obtain ⟨h1, h2, h3⟩ := hc i _ t hx hi
 have key : ∀ j u, (css[i]'(by omega))[j]? = some u → j < 7 → W.cell? ⟨b, off + i * 7 + j, none⟩ = some u := fun j u hu hj => by
  rw [hB.cell (p := ⟨b, off + i * 7 + j, none⟩) (hS b hSb), Nat.add_assoc]
  exact hcl _ u (by rw [flat_at h7 i j _ hx hj]; exact hu)
 have hlen := h1.len
 generalize css[i]'(by omega) = cs at *
 obtain ⟨x0, x1, x2, x3, x4, x5, x6, rfl⟩ := list7 hlen
 exact ⟨b, off, x0, x1, x2, x3, x4, x5, x6, e, hS b hSb, Nat.lt_of_lt_of_le hbl hB.size, h1, h2, h3, key 0 _ rfl (by omega), key 1 _ rfl (by omega), key 2 _ rfl (by omega), key 3 _ rfl (by omega), key 4 _ rfl (by omega), key 5 _ rfl (by omega), key 6 _ rfl (by omega)⟩
theorem kids_getD {l : List Ps.Tr} {i : Nat} {t : Ps.Tr} (h : l[i]? = some t) : (l.map fun t => (Ps.kid t).1).getD i Ps.Kid.no = (Ps.kid t).1 := by
 rw [List.getD_eq_getElem?_getD, List.getElem?_map, h]; rfl
theorem kwsF_len {y : Lx.Txt} : ∀ {x cur : Lx.Txt}, y ∈ Ps.kwsF cur x → y.length ≤ cur.length + x.length
 | [], cur, h => by simp [Ps.kwsF] at h
 | c :: t, cur, h => by
  rw [Ps.kwsF] at h
  split at h
  ·rcases List.mem_cons.1 h with e | e
   ·subst e; simp only [List.length_append, List.length_cons, List.length_nil]; omega
   ·have := kwsF_len e; simp only [List.length_cons, List.length_nil] at this ⊢; omega
  ·have := kwsF_len h; simp only [List.length_append, List.length_cons, List.length_nil] at this ⊢; omega
theorem kws_len {x y : Lx.Txt} (h : y ∈ Ps.kws x) : y.length ≤ x.length := by have := kwsF_len h; simpa using this
structure MsL (W : World) (g base : Nat) (v : Value) (s : Ps.Wr) (n r : Lx.Txt) (ks : List Ps.Kid) (kb : Nat) (k : Nat) (wr : World) (v1 : Value) : Prop where
 x : WPx g base v v1 (Ps.evs (Ps.kwE true ((Ps.kws n).take k) ks) s) W wr
 b : Blk wr kb 9 (List.map sv (Ps.kws n) ++ [sv r]).toArray
def MsR (W : World) (g base : Nat) (v : Value) (s : Ps.Wr) (n r : Lx.Txt) (ks : List Ps.Kid) (kb : Nat) (i : Value) (wr : World) : Prop := ∃ k v1, k ≤ (Ps.kws n).length ∧ i = .int .i64 k ∧ MsL W g base v s n r ks kb k wr v1
set_option maxRecDepth 20000 in
set_option maxHeartbeats 8000000 in
theorem wmessage_any {w0 : World} {S : Nat → Prop} {g base c m : Nat} {A : Option Addr} {l : List Ps.Tr} (hA : ArC w0 S g base A l) (hS : ∀ k, S k → k < g) (n : Lx.Txt) (hn : n.length < 4294967281) (hm : l.length = m) (har : Ps.rankS n = 0 ∨ (Ps.rankS n = 1 ∧ 1 ≤ m) ∨ (Ps.rankS n = 2 ∧ (Ps.kws n).length ≤ m)) (hmc : m ≤ 9223372036854775807) (W : World) (v : Value) (s : Ps.Wr) (hB : Below g w0 W) (hw : WA W g base v s) :
  Calls Tryz.prog 152 #[.pointer (some ⟨g, 0, none⟩), .string ⟨n.toArray⟩, .slice A m c] W (WC g base v (Ps.evs (Ps.msE n (l.map fun t => (Ps.kid t).1)) s) W) := by
 have HRK := Hd fun W => wrankof_any n W (by omega)
 have HB := Hd hB
 have HW := Hd hw
 have HA := Hd hA
 have HS := Hd hS
 have HN := Hd hn
 clear hB hw hA hS
 rcases har with h0 | ⟨h1, hm1⟩ | ⟨h2, hk2⟩
 ·have HX : Hid (Ps.evs (Ps.msE n (l.map fun t => (Ps.kid t).1)) s = Ps.evs [.t n] s) := Hd (by unfold Ps.msE; rw [if_pos h0])
  rw [h0] at HRK
  clear h0
  go_enter Tryz.func152, Tryz.ntmps152
  go_upto_region 10 with (go_at_call 195; refine (HRK.out _).mono ?_; rintro e w1 ⟨rfl, hb⟩; have HW1 := Hd (HW.out.below hb); have HB1 := Hd hb; clear hb)
  have HPT := Hd (wput_new [n] HW1.out (by simp; have := HN.out; omega) (by simp))
  go_wp2_with (go_at_call 66; refine HPT.out.mono ?_; rintro e w4 ⟨rfl, hp⟩; have HP := Hd hp; clear hp)
  go_end0
  rw [HX.out]
  exact ⟨rfl, WP.from HB1.out HP.out⟩
 ·have h0 : ∃ t, l[0]? = some t := ⟨_, List.getElem?_eq_getElem (by omega)⟩
  obtain ⟨t, ht⟩ := h0
  have HX : Hid (Ps.evs (Ps.msE n (l.map fun t => (Ps.kid t).1)) s = Ps.evs (Ps.wi 1 (Ps.kid t).1) (Ps.evs [.t n, .t [32]] s)) := Hd (by
   unfold Ps.msE
   rw [h1, if_neg (by decide), if_pos rfl]
   have e : (l.map fun t => (Ps.kid t).1).headD Ps.Kid.no = (Ps.kid t).1 := by cases l with
    | nil => cases ht
    | cons a r => obtain rfl : a = t := by simpa using ht
                  rfl
   rw [e]; rfl)
  rw [h1] at HRK
  have HAT := Hd fun W' (hb : Below g w0 W') => ArC.at_ HA.out HS.out hb ht
  have l2 : (0 : Int) < (m : Int) := by omega
  clear h1 ht hm hm1 HA
  go_enter Tryz.func152, Tryz.ntmps152
  go_upto_region 12 with (go_at_call 195; refine (HRK.out _).mono ?_; rintro e w1 ⟨rfl, hb⟩; have HW1 := Hd (HW.out.below hb); have HB1 := Hd hb; clear hb)
  have HPT := Hd (wput_new [n, [32]] HW1.out (by simp; have := HN.out; omega) (by simp))
  go_upto_region 13 with (go_at_call 66; refine HPT.out.mono ?_; rintro e w4 ⟨rfl, hp⟩; obtain ⟨v4, hx⟩ := hp.x; have HX4 := Hd hx; clear hp hx)
  have HB4 := Hd ((HB.out.trans (HB1.out.mono (Nat.le_of_lt HW.out.blk.lt))).trans (HX4.out.low HW1.out))
  obtain ⟨b, off, x0, x1, x2, x3, x4, x5, x6, rfl, hbg, hbl, hT, hE, hx, a0, a1, a2, a3, a4, a5, a6⟩ := HAT.out w4 HB4.out
  simp only [Nat.zero_mul, Nat.add_zero] at a0 a1 a2 a3 a4 a5 a6
  have HWI : Hid (Calls Tryz.prog 194 #[.pointer (some ⟨g, 0, none⟩), .agg #[x0, x1, x2, x3, x4, x5, x6], .int .i64 1] w4 (WC g base v4 (Ps.evs (Ps.wi 1 (Ps.kid t).1) (Ps.evs [.t n, .t [32]] s)) w4)) := Hd (wwithin_any hE hT hx 1 w4 v4 _ HB4.out HX4.out.wa)
  clear hT hE hx HAT
  go_wp2_with (go_at_call 194; refine HWI.out.mono ?_; rintro e w5 ⟨rfl, hp⟩; obtain ⟨v5, hx⟩ := HX4.out.step hp; have HX5 := Hd hx; clear hp hx)
  go_end0
  rw [HX.out]
  exact ⟨rfl, WP.from HB1.out HX5.out.wp⟩
 ·have HX : Hid (Ps.evs (Ps.msE n (l.map fun t => (Ps.kid t).1)) s = Ps.evs (Ps.kwE true (Ps.kws n) (l.map fun t => (Ps.kid t).1)) s) := Hd (by unfold Ps.msE; rw [h2, if_neg (by decide), if_neg (by decide)])
  rw [h2] at HRK
  have HKS := Hd fun W => wkws_any n W (by omega)
  obtain ⟨nk, hnk⟩ : ∃ nk, (Ps.kws n).length = nk := ⟨_, rfl⟩
  have HNK := Hd hnk
  rw [hnk] at hk2 HKS
  have HNL : Hid (∀ x ∈ Ps.kws n, x.length ≤ 140737488355328) := Hd fun x hx => by have := kws_len hx; have := HN.out; omega
  have hnk9 : nk ≤ 9223372036854775807 := by omega
  have HM := Hd hm
  clear h2 hnk hm
  go_enter Tryz.func152, Tryz.ntmps152
  go_upto_region 1 with (go_at_call 195; refine (HRK.out _).mono ?_; rintro e w1 ⟨rfl, hb⟩; have HW1 := Hd (HW.out.below hb); have HB1 := Hd hb; clear hb)
  go_wp2_with (go_at_call 115; refine (HKS.out _).mono ?_; rintro e w2 ⟨r, rfl, rfl⟩)
  have HX2 := Hd ((WPx.start HW1.out).below (new_below w1 (.cells (List.map sv (Ps.kws n) ++ [sv r]).toArray 9)))
  have HK2 := Hd (Blk.new w1 9 (List.map sv (Ps.kws n) ++ [sv r]).toArray)
  generalize (w1.alloc (.cells (List.map sv (Ps.kws n) ++ [sv r]).toArray 9)) = w2 at *
  generalize w1.heap.size = kb at *
  have HB1g := Hd (HB.out.trans (HB1.out.mono (Nat.le_of_lt HW.out.blk.lt)))
  go_loopw [13] (fun i wr => MsR w1 g base v s n r (l.map fun t => (Ps.kid t).1) kb i wr) (fun i _ => nk - (intOf i).toNat)
  case atStart => exact ⟨0, v, Nat.zero_le _, rfl, HX2.out, HK2.out⟩
  case round =>
   clear HX2 HK2
   obtain ⟨k, v1, hk, rfl, hx, hkb⟩ := hrel
   have HX1 := Hd hx
   have HKB := Hd hkb
   clear hx hkb
   rw [HNK.out] at hk
   have l1 : (0 : Int) ≤ (k : Int) := by omega
   by_cases hlt : k < nk
   rotate_left
   ·have HT : Hid ((Ps.kws n).take k = Ps.kws n) := Hd (List.take_of_length_le (by rw [HNK.out]; omega))
    go_wp2
    go_end0
    refine ⟨rfl, WP.from HB1.out ?_⟩
    rw [HX.out, ← HT.out]
    exact HX1.out.wp
   ·have hxk := List.getElem?_eq_getElem (l := Ps.kws n) (i := k) (by rw [HNK.out]; exact hlt)
    have hxl := HNL.out ((Ps.kws n)[k]'(by rw [HNK.out]; exact hlt)) (List.getElem_mem _)
    generalize (Ps.kws n)[k]'(by rw [HNK.out]; exact hlt) = x at hxk hxl
    have hkm : k < m := by omega
    obtain ⟨t, ht⟩ : ∃ t, l[k]? = some t := ⟨_, List.getElem?_eq_getElem (by rw [HM.out]; exact hkm)⟩
    have HAT := Hd fun W' (hb : Below g w0 W') => ArC.at_ HA.out HS.out hb ht
    have HSN := Hd (Ps.kwE_snoc k true (Ps.kws n) (l.map fun t => (Ps.kid t).1) x hxk)
    rw [kids_getD ht] at HSN
    have hcx : wr.cell? ⟨kb, k, none⟩ = some (.string ⟨x.toArray⟩) := by
     rw [HKB.out.cell k, List.getElem?_toArray, List.getElem?_append_left (by rw [List.length_map, HNK.out]; exact hlt), List.getElem?_map, hxk]; rfl
    have hkl := HKB.out.lt
    have l2 : (k : Int) < (nk : Int) := by omega
    have l3 : (k : Int) < (m : Int) := by omega
    clear hxk ht
    have HST : Hid (∀ s', Ps.evs (Ps.kwE true ((Ps.kws n).take k) (l.map fun t => (Ps.kid t).1)) s = s' → Ps.evs (Ps.kwE true ((Ps.kws n).take (k + 1)) (l.map fun t => (Ps.kid t).1)) s = Ps.evs (Ps.wi 2 (Ps.kid t).1) (Ps.evs [.t x, .t [32]] (Ps.evs (if k = 0 then [] else [.t [32]]) s'))) := Hd fun s' e => by
     rw [HSN.out, Ps.evs_append, e, Ps.evs_append]
     cases k <;> rfl
    rcases Nat.eq_zero_or_pos k with hk0 | hk0
    ·subst hk0
     have HPT := Hd (wput_new [x, [32]] HX1.out.wa (by simp; omega) (by simp))
     go_upto_region 7 with (go_at_call 66; refine HPT.out.mono ?_; rintro e w4 ⟨rfl, hp⟩; have HK4 := Hd (hp.blk HX1.out.wa HKB.out (by decide) (by decide)); obtain ⟨v4, hx⟩ := HX1.out.step hp; have HX4 := Hd hx; clear hp hx)
     have HB4 := Hd (HB1g.out.trans (HX4.out.low HW1.out))
     obtain ⟨b, off, x0, x1, x2, x3, x4, x5, x6, rfl, hbg, hbl, hT, hE, hxn, a0, a1, a2, a3, a4, a5, a6⟩ := HAT.out w4 HB4.out
     simp only [Nat.zero_mul, Nat.add_zero] at a0 a1 a2 a3 a4 a5 a6
     have HWI : Hid (Calls Tryz.prog 194 #[.pointer (some ⟨g, 0, none⟩), .agg #[x0, x1, x2, x3, x4, x5, x6], .int .i64 2] w4 (WC g base v4 (Ps.evs (Ps.wi 2 (Ps.kid t).1) (Ps.evs [.t x, .t [32]] (Ps.evs (Ps.kwE true ((Ps.kws n).take 0) (l.map fun t => (Ps.kid t).1)) s))) w4)) := Hd (wwithin_any hE hT hxn 2 w4 v4 _ HB4.out HX4.out.wa)
     clear hT hE hxn HAT
     go_wp2_with (go_at_call 194; refine HWI.out.mono ?_; rintro e w5 ⟨rfl, hp⟩; have HK5 := Hd (hp.blk HX4.out.wa HK4.out (by decide) (by decide)); obtain ⟨v5, hx⟩ := HX4.out.step hp; have HX5 := Hd hx; clear hp hx)
     refine ⟨⟨0 + 1, v5, by rw [HNK.out]; omega, rfl, ?_, HK5.out⟩, by simp [intOf]; omega⟩
     have h5 := HX5.out
     rw [HST.out _ rfl]
     exact h5
    ·have l4 : (0 : Int) < (k : Int) := by omega
     have hkn : ¬ k = 0 := by omega
     simp only [if_neg hkn] at HST
     have HP0 := Hd (wput_new [[32]] HX1.out.wa (by simp) (by simp))
     go_upto_region 6 with (go_at_call 66; refine HP0.out.mono ?_; rintro e w3 ⟨rfl, hp⟩; have HK3 := Hd (hp.blk HX1.out.wa HKB.out (by decide) (by decide)); obtain ⟨v3, hx⟩ := HX1.out.step hp; have HX3 := Hd hx; clear hp hx)
     clear hcx hkl
     have HPT := Hd (wput_new [x, [32]] HX3.out.wa (by simp; omega) (by simp))
     go_upto_region 7 with (go_at_call 66; refine HPT.out.mono ?_; rintro e w4 ⟨rfl, hp⟩; have HK4 := Hd (hp.blk HX3.out.wa HK3.out (by decide) (by decide)); obtain ⟨v4, hx⟩ := HX3.out.step hp; have HX4 := Hd hx; clear hp hx)
     have HB4 := Hd (HB1g.out.trans (HX4.out.low HW1.out))
     obtain ⟨b, off, x0, x1, x2, x3, x4, x5, x6, rfl, hbg, hbl, hT, hE, hxn, a0, a1, a2, a3, a4, a5, a6⟩ := HAT.out w4 HB4.out
     skip
     have HWI : Hid (Calls Tryz.prog 194 #[.pointer (some ⟨g, 0, none⟩), .agg #[x0, x1, x2, x3, x4, x5, x6], .int .i64 2] w4 (WC g base v4 (Ps.evs (Ps.wi 2 (Ps.kid t).1) (Ps.evs [.t x, .t [32]] (Ps.evs [.t [32]] (Ps.evs (Ps.kwE true ((Ps.kws n).take k) (l.map fun t => (Ps.kid t).1)) s)))) w4)) := Hd (wwithin_any hE hT hxn 2 w4 v4 _ HB4.out HX4.out.wa)
     clear hT hE hxn HAT
     go_wp2_with (go_at_call 194; refine HWI.out.mono ?_; rintro e w5 ⟨rfl, hp⟩; have HK5 := Hd (hp.blk HX4.out.wa HK4.out (by decide) (by decide)); obtain ⟨v5, hx⟩ := HX4.out.step hp; have HX5 := Hd hx; clear hp hx)
     refine ⟨⟨k + 1, v5, by rw [HNK.out]; omega, rfl, ?_, HK5.out⟩, by simp [intOf]; omega⟩
     have h5 := HX5.out
     rw [HST.out _ rfl]
     exact h5
namespace Ps
mutual
def fwB : Tr → Bool
 | .mk k _ _ _ l _ _ => (k == 4 || k == 5 || k == 6 || k == 7 || k == 8 || k == 9) && fwL l
def fwL : List Tr → Bool
 | [] => true
 | t :: r => fwB t && fwL r
end
theorem fwL_at : ∀ {l : List Tr} {i : Nat} {t : Tr}, fwL l = true → l[i]? = some t → fwB t = true
 | [], i, t, _, h => by simp at h
 | a :: r, 0, t, hs, h => by
  rw [fwL, Bool.and_eq_true] at hs
  obtain rfl : a = t := by simpa using h
  exact hs.1
 | a :: r, i + 1, t, hs, h => by
  rw [fwL, Bool.and_eq_true] at hs
  exact fwL_at hs.2 (by simpa using h)
theorem fwB_parts {k : Nat} {n : Lx.Txt} {a b : List Lx.Txt} {l : List Tr} {p x : Nat} (h : fwB (.mk k n a b l p x) = true) : (k = 4 ∨ k = 5 ∨ k = 6 ∨ k = 7 ∨ k = 8 ∨ k = 9) ∧ fwL l = true := by
 rw [fwB] at h
 simp only [Bool.and_eq_true, Bool.or_eq_true, beq_iff_eq] at h
 refine ⟨?_, h.2⟩
 omega
end Ps
theorem ArC.none_ {w0 : World} {S : Nat → Prop} {g base : Nat} (A : Option Addr) : ArC w0 S g base A [] := ⟨[], rfl, ⟨rfl, fun h => absurd h (by simp)⟩, fun i cs' t' h => by simp at h⟩
theorem ArC.tail {w0 : World} {S : Nat → Prop} {g base b off : Nat} {t : Ps.Tr} {l : List Ps.Tr} (h : ArC w0 S g base (some ⟨b, off, none⟩) (t :: l)) {A : Option Addr} (hA : l ≠ [] → A = some ⟨b, off + 7, none⟩) : ArC w0 S g base A l := by
 cases l with
 | nil => exact .none_ A
 | cons u r =>
  rw [hA (by simp)]
  obtain ⟨css, hl, hr, hc⟩ := h
  cases css with
  | nil => simp at hl
  | cons c cs =>
   have h7 := (hc 0 c t rfl rfl).1.len
   refine ⟨cs, by simpa using hl, ⟨by have := hr.1; rw [List.flatten_cons, List.length_append, h7] at this; simp only [List.length_cons] at this ⊢; omega, fun _ => ?_⟩, fun i cs' t' h1 h2 => hc (i + 1) cs' t' (by simpa using h1) (by simpa using h2)⟩
   obtain ⟨b', off', e, hSb, hbl, hcl⟩ := hr.2 (by simp)
   injection e with e
   injection e with e1 e2 _
   subst e1 e2
   refine ⟨b, off + 7, rfl, hSb, hbl, fun j u' hu => ?_⟩
   have := hcl (7 + j) u' (by rw [List.flatten_cons, List.getElem?_append_right (by omega), h7, Nat.add_sub_cancel_left]; exact hu)
   rwa [← Nat.add_assoc] at this
def ExM (w0 : World) (S : Nat → Prop) (g base : Nat) (cs : List Value) (t : Ps.Tr) : Prop :=
 Ps.szB t = true → Ps.fwB t = true → ((Ps.vkid t).ex = true → ExC w0 g base cs t) ∧ ((Ps.vkid t).msg = true → ∀ A n c, cs[4]? = some (.slice A n c) → n = t.nodes.length ∧ n ≤ 9223372036854775807 ∧ ArC w0 S g base A t.nodes)
theorem drew_below (w : World) : Below w.heap.size w w.drew := (Below.refl _ w).drew
theorem drew_low (w : World) (g : Nat) : Below g w w.drew := (Below.refl _ w).drew
theorem and_assoc8 {a b c d e f h i j : Prop} (x : a ∧ b ∧ c ∧ d ∧ e ∧ f ∧ h) (y : i) (z : j) : a ∧ b ∧ c ∧ d ∧ e ∧ f ∧ h ∧ i ∧ j := ⟨x.1, x.2.1, x.2.2.1, x.2.2.2.1, x.2.2.2.2.1, x.2.2.2.2.2.1, x.2.2.2.2.2.2, y, z⟩
theorem and_assoc7 {a b c d e f h i : Prop} (x : a ∧ b ∧ c ∧ d ∧ e ∧ f ∧ h) (y : i) : a ∧ b ∧ c ∧ d ∧ e ∧ f ∧ h ∧ i := ⟨x.1, x.2.1, x.2.2.1, x.2.2.2.1, x.2.2.2.2.1, x.2.2.2.2.2.1, x.2.2.2.2.2.2, y⟩
namespace Ps
theorem ex_of {k : Nat} {n : Lx.Txt} {a b : List Lx.Txt} {l : List Tr} {p x : Nat} (h : (vkid (.mk k n a b l p x)).ex = true) (hk : k ≠ 2) : exV k n (l.map vkid) = true := by
 rw [vkid, vkids_map] at h
 dsimp only at h
 rw [if_neg hk, Bool.and_eq_true] at h
 exact h.2
theorem msg_of {k : Nat} {n : Lx.Txt} {a b : List Lx.Txt} {l : List Tr} {p x : Nat} (h : (vkid (.mk k n a b l p x)).msg = true) : k = 7 ∧ 0 ≤ Lx.arityF n ∧ (l.length : Int) = Lx.arityF n ∧ ∀ t ∈ l, (vkid t).ex = true := by
 rw [vkid, vkids_map] at h
 simp only [Bool.and_eq_true, beq_iff_eq, decide_eq_true_eq, List.length_map, List.all_eq_true, List.mem_map] at h
 exact ⟨h.1.1.1.1, h.1.1.2, h.1.2, fun t ht => h.2 _ ⟨t, ht, rfl⟩⟩
theorem ex4 {n : Lx.Txt} {l : List Tr} (h : exV 4 n (l.map vkid) = true) : l.length = 1 ∧ ∀ t ∈ l, (vkid t).ex = true := by
 unfold exV at h
 rw [if_pos rfl] at h
 simp only [Bool.and_eq_true, beq_iff_eq, List.length_map, List.all_eq_true, List.mem_map] at h
 exact ⟨h.1.2, fun t ht => h.2 _ ⟨t, ht, rfl⟩⟩
theorem ex5 {n : Lx.Txt} {l : List Tr} (h : exV 5 n (l.map vkid) = true) : 0 ≤ Lx.arityF n ∧ (l.length : Int) = Lx.arityF n + 1 ∧ ∀ t ∈ l, (vkid t).ex = true := by
 unfold exV at h
 rw [if_neg (by decide), if_pos rfl] at h
 simp only [Bool.and_eq_true, decide_eq_true_eq, List.length_map, List.all_eq_true, List.mem_map] at h
 exact ⟨h.1.1, h.1.2, fun t ht => h.2 _ ⟨t, ht, rfl⟩⟩
theorem ex6 {n : Lx.Txt} {l : List Tr} (h : exV 6 n (l.map vkid) = true) : 3 ≤ l.length ∧ (∀ t, l[0]? = some t → (vkid t).ex = true) ∧ ∀ i t, l[i + 1]? = some t → (vkid t).msg = true := by
 unfold exV at h
 rw [if_neg (by decide), if_neg (by decide), if_pos rfl] at h
 simp only [Bool.and_eq_true, decide_eq_true_eq, List.length_map, List.all_eq_true] at h
 cases l with
 | nil => simp at h
 | cons a r =>
  refine ⟨h.1.1.2, fun t ht => ?_, fun i t ht => ?_⟩
  ·obtain rfl : a = t := by simpa using ht
   exact h.1.2 _ (by simp)
  ·exact h.2 _ (by rw [List.map_cons, List.tail_cons]; exact List.mem_map.2 ⟨t, List.mem_of_getElem? (show r[i]? = some t by simpa using ht), rfl⟩)
theorem parL_count : ∀ {l cur : Lx.Txt} {n m : Nat}, Lx.parL l cur n = some m → m = n + l.count 58
 | [], cur, n, m, h => by
  unfold Lx.parL at h
  split at h
  ·injection h with h; rw [← h]; rfl
  ·cases h
 | c :: t, cur, n, m, h => by
  unfold Lx.parL at h
  split at h
  ·rename_i hc
   subst hc
   split at h
   ·have := parL_count h; rw [List.count_cons]; simp; omega
   ·cases h
  ·rename_i hc
   have := parL_count h; rw [List.count_cons]; simp [hc]; omega
theorem ar_of {n : Lx.Txt} {m : Nat} (h0 : 0 ≤ Lx.arityF n) (h : (m : Int) = Lx.arityF n) : rankS n = 0 ∨ (rankS n = 1 ∧ 1 ≤ m) ∨ (rankS n = 2 ∧ (kws n).length ≤ m) := by
 unfold Lx.arityF at h0 h
 unfold rankS
 by_cases h1 : Lx.wordB n = true
 ·exact .inl (by rw [if_pos h1])
 by_cases h2 : Lx.binsB n = true
 ·rw [if_neg h1, if_pos h2] at h
  exact .inr (.inl ⟨by rw [if_neg h1, if_pos h2], by omega⟩)
 ·rw [if_neg h1, if_neg h2] at h h0
  refine .inr (.inr ⟨by rw [if_neg h1, if_neg h2], ?_⟩)
  obtain ⟨r, _, hk⟩ := Lx.split_kws (n.count 58) n rfl
  unfold kws
  rw [hk]
  unfold Lx.parN at h h0
  cases hp : Lx.parL n [] 0 with
  | none => rw [hp] at h0; exact absurd h0 (by decide)
  | some q =>
   have hc := parL_count hp
   rw [hp] at h h0
   cases q with
   | zero => exact absurd h0 (by decide)
   | succ q =>
    have : Lx.parV (some (q + 1)) = (q : Int) + 1 := rfl
    omega
end Ps
theorem el7 {w w' : World} {g b o : Nat} {x0 x1 x2 x3 x4 x5 x6 : Value} (hb : Below g w w') (hbg : b < g) (h : w.cell? ⟨b, o, none⟩ = some x0 ∧ w.cell? ⟨b, o + 1, none⟩ = some x1 ∧ w.cell? ⟨b, o + 2, none⟩ = some x2 ∧ w.cell? ⟨b, o + 3, none⟩ = some x3 ∧ w.cell? ⟨b, o + 4, none⟩ = some x4 ∧ w.cell? ⟨b, o + 5, none⟩ = some x5 ∧ w.cell? ⟨b, o + 6, none⟩ = some x6) :
 w'.cell? ⟨b, o, none⟩ = some x0 ∧ w'.cell? ⟨b, o + 1, none⟩ = some x1 ∧ w'.cell? ⟨b, o + 2, none⟩ = some x2 ∧ w'.cell? ⟨b, o + 3, none⟩ = some x3 ∧ w'.cell? ⟨b, o + 4, none⟩ = some x4 ∧ w'.cell? ⟨b, o + 5, none⟩ = some x5 ∧ w'.cell? ⟨b, o + 6, none⟩ = some x6 := by
 have e : ∀ j, w'.cell? ⟨b, j, none⟩ = w.cell? ⟨b, j, none⟩ := fun j => hb.cell (p := ⟨b, j, none⟩) hbg
 rw [e, e, e, e, e, e, e]
 exact h
set_option maxRecDepth 20000 in
theorem wex8_any {w0 : World} {g base : Nat} {name : Lx.Txt} {A1 : Option Addr} {n1 c1 : Nat} {A2 : Option Addr} {n2 c2 : Nat} {A3 : Option Addr} {nl c3 prim : Nat} {z : Int} (hx : name.length < 4294967281) (W : World) (v : Value) (s : Ps.Wr) (hB : Below g w0 W) (hw : WA W g base v s) :
 Calls Tryz.prog 120 #[.pointer (some ⟨g, 0, none⟩), .agg #[.int .i64 8, .string ⟨name.toArray⟩, .slice A1 n1 c1, .slice A2 n2 c2, .slice A3 nl c3, .int .i64 (prim : Int), .int .i64 z]] W (WC g base v (Ps.evs [.t name] s) W) := by
 have HB := Hd hB
 have HW := Hd hw
 have HGW : Hid (g < W.heap.size) := Hd hw.blk.lt
 clear hB hw
 have HBG := Hd (new_below W (.cells #[.int .i64 8, .string ⟨name.toArray⟩, .slice A1 n1 c1, .slice A2 n2 c2, .slice A3 nl c3, .int .i64 (prim : Int), .int .i64 z] 27))
 have HK1 := Hd (Blk.new W 27 #[.int .i64 8, .string ⟨name.toArray⟩, .slice A1 n1 c1, .slice A2 n2 c2, .slice A3 nl c3, .int .i64 (prim : Int), .int .i64 z])
 go_enter Tryz.func120, Tryz.ntmps120
 go_upto_region 19 with fail
 have HW1 := Hd (HW.out.below HBG.out)
 have HB1 := Hd (HB.out.trans (HBG.out.mono (Nat.le_of_lt HGW.out)))
 have HBW := Hd HBG.out
 generalize W.heap.size = kb at HK1 HBG ⊢
 generalize (W.alloc (.cells #[.int .i64 8, .string ⟨name.toArray⟩, .slice A1 n1 c1, .slice A2 n2 c2, .slice A3 nl c3, .int .i64 (prim : Int), .int .i64 z] 27)) = w1 at *
 obtain ⟨a, b0, b1, b2, b3, b4, b5, b6⟩ := HK1.out.c7
 have HPT := Hd (wput_new [name] HW1.out (by simp; omega) (by simp))
 go_wp2_with (go_at_call 66; refine HPT.out.mono ?_; rintro e w4 ⟨rfl, hp⟩; have HP := Hd hp; clear hp)
 go_end0
 exact ⟨rfl, WP.from HBW.out HP.out⟩
set_option maxRecDepth 20000 in
theorem wex9_any {w0 : World} {g base : Nat} {name : Lx.Txt} {A1 : Option Addr} {n1 c1 : Nat} {A2 : Option Addr} {n2 c2 : Nat} {A3 : Option Addr} {nl c3 prim : Nat} {z : Int} (hx : name.length < 4294967281) (W : World) (v : Value) (s : Ps.Wr) (hB : Below g w0 W) (hw : WA W g base v s) :
 Calls Tryz.prog 120 #[.pointer (some ⟨g, 0, none⟩), .agg #[.int .i64 9, .string ⟨name.toArray⟩, .slice A1 n1 c1, .slice A2 n2 c2, .slice A3 nl c3, .int .i64 (prim : Int), .int .i64 z]] W (WC g base v (Ps.evs [.t name] s) W) := by
 have HB := Hd hB
 have HW := Hd hw
 have HGW : Hid (g < W.heap.size) := Hd hw.blk.lt
 clear hB hw
 have HBG := Hd (new_below W (.cells #[.int .i64 9, .string ⟨name.toArray⟩, .slice A1 n1 c1, .slice A2 n2 c2, .slice A3 nl c3, .int .i64 (prim : Int), .int .i64 z] 27))
 have HK1 := Hd (Blk.new W 27 #[.int .i64 9, .string ⟨name.toArray⟩, .slice A1 n1 c1, .slice A2 n2 c2, .slice A3 nl c3, .int .i64 (prim : Int), .int .i64 z])
 go_enter Tryz.func120, Tryz.ntmps120
 go_upto_region 19 with fail
 have HW1 := Hd (HW.out.below HBG.out)
 have HB1 := Hd (HB.out.trans (HBG.out.mono (Nat.le_of_lt HGW.out)))
 have HBW := Hd HBG.out
 generalize W.heap.size = kb at HK1 HBG ⊢
 generalize (W.alloc (.cells #[.int .i64 9, .string ⟨name.toArray⟩, .slice A1 n1 c1, .slice A2 n2 c2, .slice A3 nl c3, .int .i64 (prim : Int), .int .i64 z] 27)) = w1 at *
 obtain ⟨a, b0, b1, b2, b3, b4, b5, b6⟩ := HK1.out.c7
 have HPT := Hd (wput_new [name] HW1.out (by simp; omega) (by simp))
 go_wp2_with (go_at_call 66; refine HPT.out.mono ?_; rintro e w4 ⟨rfl, hp⟩; have HP := Hd hp; clear hp)
 go_end0
 exact ⟨rfl, WP.from HBW.out HP.out⟩
set_option maxRecDepth 20000 in
theorem wex4_any {w0 : World} {S : Nat → Prop} {g base : Nat} {name : Lx.Txt} {A1 : Option Addr} {n1 c1 : Nat} {A2 : Option Addr} {n2 c2 : Nat} {A3 : Option Addr} {nl c3 prim : Nat} {z : Int} (hx : name.length < 4294967281) {t : Ps.Tr} (hA : ArC w0 S g base A3 [t]) (hS : ∀ k, S k → k < g) (hnl : nl = 1) (W : World) (v : Value) (s : Ps.Wr) (hB : Below g w0 W) (hw : WA W g base v s) :
 Calls Tryz.prog 120 #[.pointer (some ⟨g, 0, none⟩), .agg #[.int .i64 4, .string ⟨name.toArray⟩, .slice A1 n1 c1, .slice A2 n2 c2, .slice A3 nl c3, .int .i64 (prim : Int), .int .i64 z]] W (WC g base v (Ps.evs (Ps.kid t).1.ex (Ps.evs [.t name, .t [32, 58, 61, 32]] s)) W) := by
 subst hnl
 have ht : [t][0]? = some t := rfl
 obtain ⟨b, off, x0, x1, x2, x3, x4, x5, x6, rfl, hbg, hbl, hT, hE, hxt, a0, a1, a2, a3, a4, a5, a6⟩ := ArC.at_ hA hS hB ht
 simp only [Nat.zero_mul, Nat.add_zero] at a0 a1 a2 a3 a4 a5 a6
 have HE := Hd hE
 have HEL := Hd (⟨a0, a1, a2, a3, a4, a5, a6⟩ : W.cell? ⟨b, off, none⟩ = some x0 ∧ W.cell? ⟨b, off + 1, none⟩ = some x1 ∧ W.cell? ⟨b, off + 2, none⟩ = some x2 ∧ W.cell? ⟨b, off + 3, none⟩ = some x3 ∧ W.cell? ⟨b, off + 4, none⟩ = some x4 ∧ W.cell? ⟨b, off + 5, none⟩ = some x5 ∧ W.cell? ⟨b, off + 6, none⟩ = some x6)
 clear a0 a1 a2 a3 a4 a5 a6 hT hE hA hS ht hxt
 have HB := Hd hB
 have HW := Hd hw
 have HGW : Hid (g < W.heap.size) := Hd hw.blk.lt
 clear hB hw
 have HBG := Hd (new_below W (.cells #[.int .i64 4, .string ⟨name.toArray⟩, .slice A1 n1 c1, .slice A2 n2 c2, .slice (some ⟨b, off, none⟩) 1 c3, .int .i64 (prim : Int), .int .i64 z] 27))
 have HK1 := Hd (Blk.new W 27 #[.int .i64 4, .string ⟨name.toArray⟩, .slice A1 n1 c1, .slice A2 n2 c2, .slice (some ⟨b, off, none⟩) 1 c3, .int .i64 (prim : Int), .int .i64 z])
 go_enter Tryz.func120, Tryz.ntmps120
 go_upto_region 3 with fail
 have HW1 := Hd (HW.out.below HBG.out)
 have HB1 := Hd (HB.out.trans (HBG.out.mono (Nat.le_of_lt HGW.out)))
 have HBW := Hd HBG.out
 generalize W.heap.size = kb at HK1 HBG ⊢
 generalize (W.alloc (.cells #[.int .i64 4, .string ⟨name.toArray⟩, .slice A1 n1 c1, .slice A2 n2 c2, .slice (some ⟨b, off, none⟩) 1 c3, .int .i64 (prim : Int), .int .i64 z] 27)) = w1 at *
 obtain ⟨a, b0, b1, b2, b3, b4, b5, b6⟩ := HK1.out.c7
 have HPT := Hd (wput_new [name, [32, 58, 61, 32]] HW1.out (by simp; omega) (by simp))
 go_upto_region 4 with (go_at_call 66; refine HPT.out.mono ?_; rintro e w2 ⟨rfl, hp⟩; have HK2 := Hd (hp.blk HW1.out HK1.out (by decide) (by decide)); obtain ⟨v2, hx⟩ := hp.x; have HX2 := Hd hx; clear hp hx)
 have HB2 := Hd (HB1.out.trans (HX2.out.low HW1.out))
 have HL2 := Hd ((HBW.out.mono (Nat.le_of_lt HGW.out)).trans (HX2.out.low HW1.out))
 clear a b0 b1 b2 b3 b4 b5 b6
 obtain ⟨a, b0, b1, b2, b3, b4, b5, b6⟩ := HK2.out.c7
 obtain ⟨a0, a1, a2, a3, a4, a5, a6⟩ := el7 HL2.out hbg HEL.out
 have hbl2 : b < w2.heap.size := Nat.lt_of_lt_of_le hbl HL2.out.size
 go_wp2_with (go_at_call 120; refine (HE.out _ _ _ HB2.out HX2.out.wa).mono ?_; rintro e w3 ⟨rfl, hp⟩; obtain ⟨v3, hx⟩ := HX2.out.step hp; have HX3 := Hd hx; clear hp hx)
 go_end0
 exact ⟨rfl, WP.from HBW.out HX3.out.wp⟩
set_option maxRecDepth 20000 in
theorem wex5_any {w0 : World} {S : Nat → Prop} {g base : Nat} {name : Lx.Txt} {A1 : Option Addr} {n1 c1 : Nat} {A2 : Option Addr} {n2 c2 : Nat} {A3 : Option Addr} {nl c3 prim : Nat} {z : Int} (hx : name.length < 4294967281) {t : Ps.Tr} {l : List Ps.Tr} (hA : ArC w0 S g base A3 (t :: l)) (hS : ∀ k, S k → k < g) (hnl : nl = l.length + 1) (hc : nl ≤ c3) (hc9 : nl ≤ 9223372036854775807)
 (har : Ps.rankS name = 0 ∨ (Ps.rankS name = 1 ∧ 1 ≤ l.length) ∨ (Ps.rankS name = 2 ∧ (Ps.kws name).length ≤ l.length)) (W : World) (v : Value) (s : Ps.Wr) (hB : Below g w0 W) (hw : WA W g base v s) :
 Calls Tryz.prog 120 #[.pointer (some ⟨g, 0, none⟩), .agg #[.int .i64 5, .string ⟨name.toArray⟩, .slice A1 n1 c1, .slice A2 n2 c2, .slice A3 nl c3, .int .i64 (prim : Int), .int .i64 z]] W (WC g base v (Ps.evs (Ps.msE name (l.map fun t => (Ps.kid t).1)) (Ps.evs (Ps.rcE name (Ps.kid t).1) s)) W) := by
 have ht : (t :: l)[0]? = some t := rfl
 have hA' := hA
 obtain ⟨b, off, x0, x1, x2, x3, x4, x5, x6, rfl, hbg, hbl, hT, hE, hxt, a0, a1, a2, a3, a4, a5, a6⟩ := ArC.at_ hA hS hB ht
 simp only [Nat.zero_mul, Nat.add_zero] at a0 a1 a2 a3 a4 a5 a6
 have HEL := Hd (⟨a0, a1, a2, a3, a4, a5, a6⟩ : W.cell? ⟨b, off, none⟩ = some x0 ∧ W.cell? ⟨b, off + 1, none⟩ = some x1 ∧ W.cell? ⟨b, off + 2, none⟩ = some x2 ∧ W.cell? ⟨b, off + 3, none⟩ = some x3 ∧ W.cell? ⟨b, off + 4, none⟩ = some x4 ∧ W.cell? ⟨b, off + 5, none⟩ = some x5 ∧ W.cell? ⟨b, off + 6, none⟩ = some x6)
 have HRC : Hid (∀ (W : World) (v : Value) (s : Ps.Wr), Below g w0 W → WA W g base v s → Calls Tryz.prog 151 #[.pointer (some ⟨g, 0, none⟩), .agg #[x0, x1, x2, x3, x4, x5, x6], .string ⟨name.toArray⟩] W (WC g base v (Ps.evs (Ps.rcE name (Ps.kid t).1) s) W)) := Hd fun W v s hB hw => wreceiver_any hE hT hxt name hx W v s hB hw
 have HTL := Hd fun (A : Option Addr) (h : l ≠ [] → A = some ⟨b, off + 7, none⟩) => hA'.tail h
 obtain ⟨ml, hml⟩ : ∃ ml, l.length = ml := ⟨_, rfl⟩
 have HML := Hd hml
 have HAR := Hd har
 have HS := Hd hS
 have hl0 : l = [] ∨ 1 ≤ ml := by cases l with
  | nil => exact .inl rfl
  | cons a r => exact .inr (by rw [← hml]; simp)
 have HL0 := Hd hl0
 rw [hml] at hnl
 have HX := Hd hx
 clear a0 a1 a2 a3 a4 a5 a6 hT hE hA hA' hS ht hxt hml har hl0 hx
 have q0 : 0 < nl := by omega
 have q2 : (1 : Int) ≤ (nl : Int) := by omega
 have q3 : (nl : Int) ≤ (c3 : Int) := by omega
 have HNL := Hd hnl
 have HB := Hd hB
 have HW := Hd hw
 have HGW : Hid (g < W.heap.size) := Hd hw.blk.lt
 clear hB hw
 have HBG := Hd (new_below W (.cells #[.int .i64 5, .string ⟨name.toArray⟩, .slice A1 n1 c1, .slice A2 n2 c2, .slice (some ⟨b, off, none⟩) nl c3, .int .i64 (prim : Int), .int .i64 z] 27))
 have HK1 := Hd (Blk.new W 27 #[.int .i64 5, .string ⟨name.toArray⟩, .slice A1 n1 c1, .slice A2 n2 c2, .slice (some ⟨b, off, none⟩) nl c3, .int .i64 (prim : Int), .int .i64 z])
 go_enter Tryz.func120, Tryz.ntmps120
 clear hnl
 go_upto_region 6 with fail
 have HW1 := Hd (HW.out.below HBG.out)
 have HB1 := Hd (HB.out.trans (HBG.out.mono (Nat.le_of_lt HGW.out)))
 have HBW := Hd HBG.out
 generalize W.heap.size = kb at HK1 HBG ⊢
 generalize (W.alloc (.cells #[.int .i64 5, .string ⟨name.toArray⟩, .slice A1 n1 c1, .slice A2 n2 c2, .slice (some ⟨b, off, none⟩) nl c3, .int .i64 (prim : Int), .int .i64 z] 27)) = w1 at *
 obtain ⟨a, b0, b1, b2, b3, b4, b5, b6⟩ := HK1.out.c7
 obtain ⟨a0, a1, a2, a3, a4, a5, a6⟩ := el7 (HBW.out.mono (Nat.le_of_lt HGW.out)) hbg HEL.out
 have hbl1 : b < w1.heap.size := Nat.lt_of_lt_of_le hbl HBW.out.size
 go_region_held3 (fun W' => W'.cell? ⟨kb, 1, none⟩ = some (.string ⟨name.toArray⟩) ∧ W'.cell? ⟨kb, 4, none⟩ = some (.slice (some ⟨b, off, none⟩) nl c3) ∧ W'.cell? ⟨b, off, none⟩ = some x0 ∧ W'.cell? ⟨b, off + 1, none⟩ = some x1 ∧ W'.cell? ⟨b, off + 2, none⟩ = some x2 ∧ W'.cell? ⟨b, off + 3, none⟩ = some x3 ∧ W'.cell? ⟨b, off + 4, none⟩ = some x4 ∧ W'.cell? ⟨b, off + 5, none⟩ = some x5 ∧ W'.cell? ⟨b, off + 6, none⟩ = some x6 ∧ b < W'.heap.size)
  (first | exact HS2.out | go_keep)
  ((first
   | (go_at_call 151; ((with_reducible refine (HRC.out w1.drew v s (HB1.out.trans (drew_low w1 g)) (HW1.out.below (drew_below w1))).mono ?_); rintro e w2 ⟨rfl, hp⟩; have HK2 := Hd (hp.blk (HW1.out.below (drew_below w1)) (HK1.out.below (drew_below w1) HK1.out.lt) (by decide) (by decide)); obtain ⟨v2, hx⟩ := (WP.from (drew_below w1) hp).x; have HX2 := Hd hx; have HL2 := Hd ((HBW.out.mono (Nat.le_of_lt HGW.out)).trans (hx.low HW1.out)); have HS2 := Hd (And.intro HK2.out.c7.2.2.1 (And.intro HK2.out.c7.2.2.2.2.2.1 (and_assoc7 (el7 HL2.out hbg HEL.out) (Nat.lt_of_lt_of_le hbl HL2.out.size)))); clear hp hx))))
 go_upto_region 7 with fail
 obtain ⟨g1, g4, e0, e1, e2, e3, e4, e5, e6, hbl2⟩ := HS2.out
 have hkb2 := HK2.out.lt
 have HB2 := Hd (HB1.out.trans (HX2.out.low HW1.out))
 clear HS2
 by_cases hc1 : c3 = 1
 ·subst hc1
  have HMS : Hid (∀ (W : World) (v : Value) (s : Ps.Wr), Below g w0 W → WA W g base v s → Calls Tryz.prog 152 #[.pointer (some ⟨g, 0, none⟩), .string ⟨name.toArray⟩, .slice (some ⟨b, off, none⟩) 0 0] W (WC g base v (Ps.evs (Ps.msE name (l.map fun t => (Ps.kid t).1)) s) W)) := Hd fun W v s hB hw => by
   have e1 : ml = 0 := by have := HNL.out; omega
   refine wmessage_any (HTL.out _ fun hne => ?_) HS.out name HX.out (HML.out.trans e1) (by have hh := HAR.out; rw [HML.out, e1] at hh; exact hh) (by omega) W v s hB hw
   have := HL0.out.resolve_left hne
   omega
  refine wp_region_held_drew (S := fun W' => W'.cell? ⟨kb, 1, none⟩ = some (.string ⟨name.toArray⟩) ∧ W'.cell? ⟨kb, 4, none⟩ = some (.slice (some ⟨b, off, none⟩) nl 1)) (by kernel_rfl) ⟨g1, g4⟩ (fun hHeld => ?_)
  refine ht (i := 0) ?_
  refine ht (i := 1) ?_
  refine ht (i := 2) ?_
  refine ht (i := 3) ?_
  refine ht (i := 4) ?_
  refine ht (i := 5) ?_
  refine wpAnyH_ready (rs := [6]) (by kernel_rfl) (by simp) ?_
  refine AllReadyH.cons (by simp only [List.getElem?_toArray, List.getElem?_cons_succ, List.getElem?_cons_zero]; rfl) (fun K hK => ?_) AllReadyH.nil
  go_simp
  go_at_call 152
  with_reducible refine (HMS.out w2.drew v2 _ (HB2.out.trans (drew_low w2 g)) (HX2.out.wa.below (drew_below w2))).mono ?_
  rintro e w3 ⟨rfl, hp⟩
  have HK3 := Hd (hp.blk (HX2.out.wa.below (drew_below w2)) (HK2.out.below (drew_below w2) HK2.out.lt) (by decide) (by decide))
  obtain ⟨v3, hx⟩ := HX2.out.step (WP.from (drew_below w2) hp)
  have HX3 := Hd hx
  clear hp hx
  try go_simp
  refine hK.out _ _ (And.intro HK3.out.c7.2.2.1 HK3.out.c7.2.2.2.2.2.1) (fun hHeld => ?_)
  clear hK K
  try simp only [Act.put, List.setIfInBounds_toArray, List.set_cons_zero, List.set_cons_succ]
  refine wpAnyH_done (by kernel_rfl) ?_ _
  go_wp2
  go_end0
  exact ⟨rfl, WP.from HBW.out HX3.out.wp⟩
 ·skip
  have HMS : Hid (∀ (W : World) (v : Value) (s : Ps.Wr), Below g w0 W → WA W g base v s → Calls Tryz.prog 152 #[.pointer (some ⟨g, 0, none⟩), .string ⟨name.toArray⟩, .slice (some ⟨b, off + 7, none⟩) (nl - 1) (c3 - 1)] W (WC g base v (Ps.evs (Ps.msE name (l.map fun t => (Ps.kid t).1)) s) W)) := Hd fun W v s hB hw => by
   have e1 : nl - 1 = ml := by rw [HNL.out]; omega
   rw [e1]
   refine wmessage_any (HTL.out _ fun hne => ?_) HS.out name HX.out HML.out (HML.out ▸ HAR.out) (by omega) W v s hB hw
   have := HL0.out.resolve_left hne
   rfl
  refine wp_region_held_drew (S := fun W' => W'.cell? ⟨kb, 1, none⟩ = some (.string ⟨name.toArray⟩) ∧ W'.cell? ⟨kb, 4, none⟩ = some (.slice (some ⟨b, off, none⟩) nl c3)) (by kernel_rfl) ⟨g1, g4⟩ (fun hHeld => ?_)
  refine ht (i := 0) ?_
  refine ht (i := 1) ?_
  refine ht (i := 2) ?_
  refine ht (i := 3) ?_
  refine ht (i := 4) ?_
  refine ht (i := 5) ?_
  refine wpAnyH_ready (rs := [6]) (by kernel_rfl) (by simp) ?_
  refine AllReadyH.cons (by simp only [List.getElem?_toArray, List.getElem?_cons_succ, List.getElem?_cons_zero]; rfl) (fun K hK => ?_) AllReadyH.nil
  go_simp
  go_at_call 152
  with_reducible refine (HMS.out w2.drew v2 _ (HB2.out.trans (drew_low w2 g)) (HX2.out.wa.below (drew_below w2))).mono ?_
  rintro e w3 ⟨rfl, hp⟩
  have HK3 := Hd (hp.blk (HX2.out.wa.below (drew_below w2)) (HK2.out.below (drew_below w2) HK2.out.lt) (by decide) (by decide))
  obtain ⟨v3, hx⟩ := HX2.out.step (WP.from (drew_below w2) hp)
  have HX3 := Hd hx
  clear hp hx
  try go_simp
  refine hK.out _ _ (And.intro HK3.out.c7.2.2.1 HK3.out.c7.2.2.2.2.2.1) (fun hHeld => ?_)
  clear hK K
  try simp only [Act.put, List.setIfInBounds_toArray, List.set_cons_zero, List.set_cons_succ]
  refine wpAnyH_done (by kernel_rfl) ?_ _
  go_wp2
  go_end0
  exact ⟨rfl, WP.from HBW.out HX3.out.wp⟩
end Go.Proofs.YtjhonaglmgmpiaaGreatDoor
