/-
  Parts RyC, RyD, PwB, PwC, PwD, PwF of the proof. No statement of the seat is proved here.
-/
import Derived.Test.YtbnlnndeajjenaaGreatP08
import Derived.Test.YtbnlnndeajjenaaGreatP07
set_option maxHeartbeats 4000000
namespace Go.Proofs.YtbnlnndeajjenaaGreat
open Go.RowKit
def ElP (w : World) (A3 B3 : Option Addr) (i : Nat) : Prop := ∃ (b o b' o' : Nat) (x0 x1 x2 x3 x4 x5 x6 y0 y1 y2 y3 y4 y5 y6 : Value), A3 = some ⟨b, o, none⟩ ∧ B3 = some ⟨b', o', none⟩ ∧ b < w.heap.size ∧ b' < w.heap.size ∧ (w.cell? ⟨b, o + i * 7, none⟩ = some x0 ∧ w.cell? ⟨b, o + i * 7 + 1, none⟩ = some x1 ∧ w.cell? ⟨b, o + i * 7 + 2, none⟩ = some x2 ∧ w.cell? ⟨b, o + i * 7 + 3, none⟩ = some x3 ∧ w.cell? ⟨b, o + i * 7 + 4, none⟩ = some x4 ∧ w.cell? ⟨b, o + i * 7 + 5, none⟩ = some x5 ∧ w.cell? ⟨b, o + i * 7 + 6, none⟩ = some x6) ∧ (w.cell? ⟨b', o' + i * 7, none⟩ = some y0 ∧ w.cell? ⟨b', o' + i * 7 + 1, none⟩ = some y1 ∧ w.cell? ⟨b', o' + i * 7 + 2, none⟩ = some y2 ∧ w.cell? ⟨b', o' + i * 7 + 3, none⟩ = some y3 ∧ w.cell? ⟨b', o' + i * 7 + 4, none⟩ = some y4 ∧ w.cell? ⟨b', o' + i * 7 + 5, none⟩ = some y5 ∧ w.cell? ⟨b', o' + i * 7 + 6, none⟩ = some y6) ∧ ∀ W, Below w.heap.size w W → Calls Tryz.prog 6 #[.agg #[x0, x1, x2, x3, x4, x5, x6], .agg #[y0, y1, y2, y3, y4, y5, y6]] W (YesP W)
theorem two_new (W : World) (X Y : Array Value) : Blk (((W.alloc (.cells X 26)).alloc (.cells Y 26)).drew) W.heap.size 26 X ∧ Blk (((W.alloc (.cells X 26)).alloc (.cells Y 26)).drew) (W.heap.size + 1) 26 Y ∧ Below W.heap.size W (((W.alloc (.cells X 26)).alloc (.cells Y 26)).drew) :=
 ⟨((Blk.new W 26 X).alloc _).drew, by have := (Blk.new (W.alloc (.cells X 26)) 26 Y).drew; simpa using this, ((new_below _ _).trans ((new_below _ _).mono (by simp))).drew⟩
set_option maxRecDepth 20000 in
theorem alike_step {w : World} {S S' : Nat → Prop} (kind : Nat) (name : Lx.Txt) (names temps : List Lx.Txt) (nodes : List Ps.Tr) (prim place : Nat) (A1 : Option Addr) (c1 : Nat) (A2 : Option Addr) (c2 : Nat) (A3 : Option Addr) (c3 : Nat) (B1 : Option Addr) (d1 : Nat) (B2 : Option Addr) (d2 : Nat) (B3 : Option Addr) (d3 : Nat)
  (h1 : ReadsI w S 1 A1 names.length (names.map sv)) (h2 : ReadsI w S 1 A2 temps.length (temps.map sv)) (h3 : ∀ i, i < nodes.length → ElP w A3 B3 i)
  (hm : nodes.length ≤ maxLen ∧ names.length ≤ maxLen ∧ temps.length ≤ maxLen)
  (h1' : ReadsI w S' 1 B1 names.length (names.map sv)) (h2' : ReadsI w S' 1 B2 temps.length (temps.map sv)) :
  Calls Tryz.prog 6 #[.agg #[.int .i64 (kind : Int), .string ⟨name.toArray⟩, .slice A1 names.length c1, .slice A2 temps.length c2, .slice A3 nodes.length c3, .int .i64 (prim : Int), .int .i64 (place : Int)], .agg #[.int .i64 (kind : Int), .string ⟨name.toArray⟩, .slice B1 names.length d1, .slice B2 temps.length d2, .slice B3 nodes.length d3, .int .i64 (prim : Int), .int .i64 (place : Int)]] w (YesP w) := by
 have HSM := Hd fun (W : World) (hb : Below w.heap.size w W) => same_any (k := kind) (p := prim) (pl := place) (nm := name) (c1 := c1) (c2 := c2) (d1 := d1) (d2 := d2) (h1.below hb) (h1'.below hb) (h2.below hb) (h2'.below hb) hm.2.1 hm.2.2
 have hn := hm.1
 have H3 := Hd h3
 clear h1 h1' h2 h2' h3 hm
 go_enter Tryz.func6, Tryz.ntmps6
 go_upto_region 1 with fail
 refine wp_world (fun W => Blk W w.heap.size 26 #[.int .i64 (kind : Int), .string ⟨name.toArray⟩, .slice A1 names.length c1, .slice A2 temps.length c2, .slice A3 nodes.length c3, .int .i64 (prim : Int), .int .i64 (place : Int)] ∧ Blk W (w.heap.size + 1) 26 #[.int .i64 (kind : Int), .string ⟨name.toArray⟩, .slice B1 names.length d1, .slice B2 temps.length d2, .slice B3 nodes.length d3, .int .i64 (prim : Int), .int .i64 (place : Int)] ∧ Below w.heap.size w W) ⟨(Blk.new _ _ _).alloc _, by have := Blk.new (w.alloc (.cells #[.int .i64 (kind : Int), .string ⟨name.toArray⟩, .slice A1 names.length c1, .slice A2 temps.length c2, .slice A3 nodes.length c3, .int .i64 (prim : Int), .int .i64 (place : Int)] 26)) 26 #[.int .i64 (kind : Int), .string ⟨name.toArray⟩, .slice B1 names.length d1, .slice B2 temps.length d2, .slice B3 nodes.length d3, .int .i64 (prim : Int), .int .i64 (place : Int)]; simpa using this, (new_below _ _).trans ((new_below _ _).mono (by simp))⟩ fun w2 h2 => ?_
 have HA2 := Hd h2.1
 have HB2 := Hd h2.2.1
 have HW2 := Hd h2.2.2
 clear h2
 have e1 : ((place : Int) != (place : Int)) = false := by simp
 have e2 : ((nodes.length : Int) != (nodes.length : Int)) = false := by simp
 have a0 := HA2.out.cell 0; have a1 := HA2.out.cell 1; have a2 := HA2.out.cell 2; have a3 := HA2.out.cell 3; have a4 := HA2.out.cell 4; have a5 := HA2.out.cell 5; have a6 := HA2.out.cell 6; have al := HA2.out.lt; have az := HA2.out.frozen
 have b0 := HB2.out.cell 0; have b1 := HB2.out.cell 1; have b2 := HB2.out.cell 2; have b3 := HB2.out.cell 3; have b4 := HB2.out.cell 4; have b5 := HB2.out.cell 5; have b6 := HB2.out.cell 6; have bl := HB2.out.lt; have bz := HB2.out.frozen
 go_upto_region 3 with fail
 go_cut [5, 6] (fun v5 v6 wx => ∃ k5 k6, v5 = .pointer (some ⟨k5, 0, none⟩) ∧ v6 = .pointer (some ⟨k6, 0, none⟩) ∧ k5 ≠ k6 ∧ w2.heap.size ≤ k5 ∧ w2.heap.size ≤ k6 ∧ Blk wx k5 26 #[.int .i64 (kind : Int), .string ⟨name.toArray⟩, .slice A1 names.length c1, .slice A2 temps.length c2, .slice A3 nodes.length c3, .int .i64 (prim : Int), .int .i64 (place : Int)] ∧ Blk wx k6 26 #[.int .i64 (kind : Int), .string ⟨name.toArray⟩, .slice B1 names.length d1, .slice B2 temps.length d2, .slice B3 nodes.length d3, .int .i64 (prim : Int), .int .i64 (place : Int)] ∧ Below w2.heap.size w2 wx)
 case first =>
  go_region_law (first | fail)
  all_goals
   go_wp2
   go_meet
   first
    | exact ⟨_, _, rfl, rfl, by omega, by omega, by omega, (two_new _ _ _).1, (two_new _ _ _).2.1, (two_new _ _ _).2.2⟩
    | exact ⟨_, _, rfl, rfl, by omega, by omega, by omega, (two_new _ _ _).2.1, (two_new _ _ _).1, (two_new _ _ _).2.2⟩
 case rest =>
  obtain ⟨k5, k6, rfl, rfl, hk, h5, h6, hA, hB, hb⟩ := hcut
  have hz2 := HW2.out.size
  have hl2 := HB2.out.lt
  have HC := Hd (HA2.out.below hb HA2.out.lt)
  have HD := Hd (HB2.out.below hb HB2.out.lt)
  have HWc := Hd (HW2.out.trans (hb.mono hz2))
  have HK5 := Hd hA
  have HK6 := Hd hB
  have hzc := hb.size
  clear hA hB hb a0 a1 a2 a3 a4 a5 a6 al az b0 b1 b2 b3 b4 b5 b6 bl bz
  have p4 := HK5.out.cell 4
  have pl := HK5.out.lt
  have pz := HK5.out.frozen
  have q4 := HK6.out.cell 4
  have ql := HK6.out.lt
  have qz := HK6.out.frozen
  go_upto_region 5 with fail
  refine wp_world (fun W => Blk W k5 26 #[.int .i64 (kind : Int), .string ⟨name.toArray⟩, .slice A1 names.length c1, .slice A2 temps.length c2, .slice none 0 0, .int .i64 (prim : Int), .int .i64 (place : Int)] ∧ Blk W k6 26 #[.int .i64 (kind : Int), .string ⟨name.toArray⟩, .slice B1 names.length d1, .slice B2 temps.length d2, .slice none 0 0, .int .i64 (prim : Int), .int .i64 (place : Int)] ∧ Blk W w.heap.size 26 #[.int .i64 (kind : Int), .string ⟨name.toArray⟩, .slice A1 names.length c1, .slice A2 temps.length c2, .slice A3 nodes.length c3, .int .i64 (prim : Int), .int .i64 (place : Int)] ∧ Blk W (w.heap.size + 1) 26 #[.int .i64 (kind : Int), .string ⟨name.toArray⟩, .slice B1 names.length d1, .slice B2 temps.length d2, .slice B3 nodes.length d3, .int .i64 (prim : Int), .int .i64 (place : Int)] ∧ Below w.heap.size w W) ⟨(chg_set _ _ _ _).blk (HK5.out.set_ 4 _) hk, ((chg_set _ _ _ _).blk HK6.out (fun e => hk e.symm)).set_ 4 _, (chg_set _ _ _ _).blk ((chg_set _ _ _ _).blk HC.out (by omega)) (by omega), (chg_set _ _ _ _).blk ((chg_set _ _ _ _).blk HD.out (by omega)) (by omega), (HWc.out.trans ((chg_set wc k5 4 _).below (by omega) fun k hk e => by omega)).trans ((chg_set _ k6 4 _).below (by simp [World.setCell]; omega) fun k hk e => by omega)⟩ fun w3 h3 => ?_
  have HP := Hd h3.1
  have HQ := Hd h3.2.1
  have HA3 := Hd h3.2.2.1
  have HB3 := Hd h3.2.2.2.1
  have HW3 := Hd h3.2.2.2.2
  clear h3 HC HD HWc HK5 HK6 p4 pl pz q4 ql qz HA2 HB2 HW2 hzc hz2 hl2
  have a0 := HP.out.cell 0; have a1 := HP.out.cell 1; have a2 := HP.out.cell 2; have a3 := HP.out.cell 3; have a4 := HP.out.cell 4; have a5 := HP.out.cell 5; have a6 := HP.out.cell 6; have al := HP.out.lt; have az := HP.out.frozen
  have b0 := HQ.out.cell 0; have b1 := HQ.out.cell 1; have b2 := HQ.out.cell 2; have b3 := HQ.out.cell 3; have b4 := HQ.out.cell 4; have b5 := HQ.out.cell 5; have b6 := HQ.out.cell 6; have bl := HQ.out.lt; have bz := HQ.out.frozen
  go_upto_region 7 with (go_at_call 27; with_reducible refine (HSM.out _ HW3.out).mono ?_; rintro e w4 ⟨rfl, hb⟩; have HA4 := Hd (HA3.out.below hb HA3.out.lt); have HB4 := Hd (HB3.out.below hb HB3.out.lt); have HW4 := Hd (HW3.out.trans (hb.mono HW3.out.size)); clear hb)
  clear a0 a1 a2 a3 a4 a5 a6 al az b0 b1 b2 b3 b4 b5 b6 bl bz HP HQ HA3 HB3 HW3 HSM hk h5 h6
  go_wp2
  go_loopg [7] (nodes.length + 1) (fun f v wr => ∃ i : Nat, v = .int .i64 (i : Int) ∧ i ≤ nodes.length ∧ nodes.length < i + f ∧ Blk wr w.heap.size 26 #[.int .i64 (kind : Int), .string ⟨name.toArray⟩, .slice A1 names.length c1, .slice A2 temps.length c2, .slice A3 nodes.length c3, .int .i64 (prim : Int), .int .i64 (place : Int)] ∧ Blk wr (w.heap.size + 1) 26 #[.int .i64 (kind : Int), .string ⟨name.toArray⟩, .slice B1 names.length d1, .slice B2 temps.length d2, .slice B3 nodes.length d3, .int .i64 (prim : Int), .int .i64 (place : Int)] ∧ Below w.heap.size w wr)
  case atStart => exact ⟨0, rfl, by omega, by omega, HA4.out, HB4.out, HW4.out⟩
  case round =>
   obtain ⟨i, rfl, hil, hif, hA, hB, hb⟩ := hrel
   have HA5 := Hd hA
   have HB5 := Hd hB
   have HW5 := Hd hb
   clear hA hB hb HA4 HB4 HW4
   have a4 := HA5.out.cell 4
   have al := HA5.out.lt
   have hnn : nodes.length ≤ 9223372036854775807 := hn
   by_cases hi : i < nodes.length
   ·obtain ⟨f, rfl⟩ : ∃ f, gk = f + 1 := ⟨gk - 1, by omega⟩
    obtain ⟨b, o, b', o', x0, x1, x2, x3, x4, x5, x6, y0, y1, y2, y3, y4, y5, y6, rfl, rfl, hb1, hb2, ⟨f0, f1, f2, f3, f4, f5, f6⟩, ⟨g0, g1, g2, g3, g4, g5, g6⟩, hc⟩ := H3.out i hi
    have hbl : b < wr.heap.size := Nat.lt_of_lt_of_le hb1 HW5.out.size
    have hbl' : b' < wr.heap.size := Nat.lt_of_lt_of_le hb2 HW5.out.size
    have HC := Hd hc
    have hwr : IntKind.i64.wrap ((i : Int) + 1) = (i : Int) + 1 := by rw [IntKind.wrap_i64]; omega
    have HS : Hid (∀ W, Below wr.heap.size wr W → (fun W => W.cell? ⟨w.heap.size, 4, none⟩ = some (.slice (some ⟨b, o, none⟩) nodes.length c3) ∧ W.cell? ⟨w.heap.size + 1, 4, none⟩ = some (.slice (some ⟨b', o', none⟩) nodes.length d3) ∧ W.cell? ⟨b, o + i * 7, none⟩ = some x0 ∧ W.cell? ⟨b, o + i * 7 + 1, none⟩ = some x1 ∧ W.cell? ⟨b, o + i * 7 + 2, none⟩ = some x2 ∧ W.cell? ⟨b, o + i * 7 + 3, none⟩ = some x3 ∧ W.cell? ⟨b, o + i * 7 + 4, none⟩ = some x4 ∧ W.cell? ⟨b, o + i * 7 + 5, none⟩ = some x5 ∧ W.cell? ⟨b, o + i * 7 + 6, none⟩ = some x6 ∧ W.cell? ⟨b', o' + i * 7, none⟩ = some y0 ∧ W.cell? ⟨b', o' + i * 7 + 1, none⟩ = some y1 ∧ W.cell? ⟨b', o' + i * 7 + 2, none⟩ = some y2 ∧ W.cell? ⟨b', o' + i * 7 + 3, none⟩ = some y3 ∧ W.cell? ⟨b', o' + i * 7 + 4, none⟩ = some y4 ∧ W.cell? ⟨b', o' + i * 7 + 5, none⟩ = some y5 ∧ W.cell? ⟨b', o' + i * 7 + 6, none⟩ = some y6) W) := Hd fun W hb => ⟨(hb.cell (p := ⟨w.heap.size, 4, none⟩) HA5.out.lt).trans (HA5.out.cell 4), (hb.cell (p := ⟨w.heap.size + 1, 4, none⟩) HB5.out.lt).trans (HB5.out.cell 4), (hb.cell (p := ⟨b, o + i * 7, none⟩) hbl).trans ((HW5.out.cell (p := ⟨b, o + i * 7, none⟩) hb1).trans f0), (hb.cell (p := ⟨b, o + i * 7 + 1, none⟩) hbl).trans ((HW5.out.cell (p := ⟨b, o + i * 7 + 1, none⟩) hb1).trans f1), (hb.cell (p := ⟨b, o + i * 7 + 2, none⟩) hbl).trans ((HW5.out.cell (p := ⟨b, o + i * 7 + 2, none⟩) hb1).trans f2), (hb.cell (p := ⟨b, o + i * 7 + 3, none⟩) hbl).trans ((HW5.out.cell (p := ⟨b, o + i * 7 + 3, none⟩) hb1).trans f3), (hb.cell (p := ⟨b, o + i * 7 + 4, none⟩) hbl).trans ((HW5.out.cell (p := ⟨b, o + i * 7 + 4, none⟩) hb1).trans f4), (hb.cell (p := ⟨b, o + i * 7 + 5, none⟩) hbl).trans ((HW5.out.cell (p := ⟨b, o + i * 7 + 5, none⟩) hb1).trans f5), (hb.cell (p := ⟨b, o + i * 7 + 6, none⟩) hbl).trans ((HW5.out.cell (p := ⟨b, o + i * 7 + 6, none⟩) hb1).trans f6), (hb.cell (p := ⟨b', o' + i * 7, none⟩) hbl').trans ((HW5.out.cell (p := ⟨b', o' + i * 7, none⟩) hb2).trans g0), (hb.cell (p := ⟨b', o' + i * 7 + 1, none⟩) hbl').trans ((HW5.out.cell (p := ⟨b', o' + i * 7 + 1, none⟩) hb2).trans g1), (hb.cell (p := ⟨b', o' + i * 7 + 2, none⟩) hbl').trans ((HW5.out.cell (p := ⟨b', o' + i * 7 + 2, none⟩) hb2).trans g2), (hb.cell (p := ⟨b', o' + i * 7 + 3, none⟩) hbl').trans ((HW5.out.cell (p := ⟨b', o' + i * 7 + 3, none⟩) hb2).trans g3), (hb.cell (p := ⟨b', o' + i * 7 + 4, none⟩) hbl').trans ((HW5.out.cell (p := ⟨b', o' + i * 7 + 4, none⟩) hb2).trans g4), (hb.cell (p := ⟨b', o' + i * 7 + 5, none⟩) hbl').trans ((HW5.out.cell (p := ⟨b', o' + i * 7 + 5, none⟩) hb2).trans g5), (hb.cell (p := ⟨b', o' + i * 7 + 6, none⟩) hbl').trans ((HW5.out.cell (p := ⟨b', o' + i * 7 + 6, none⟩) hb2).trans g6)⟩
    clear hc f0 f1 f2 f3 f4 f5 f6 g0 g1 g2 g3 g4 g5 g6
    go_upto_region 10 with fail
    refine wp_region_held_drew (S := fun W => W.cell? ⟨w.heap.size, 4, none⟩ = some (.slice (some ⟨b, o, none⟩) nodes.length c3) ∧ W.cell? ⟨w.heap.size + 1, 4, none⟩ = some (.slice (some ⟨b', o', none⟩) nodes.length d3) ∧ W.cell? ⟨b, o + i * 7, none⟩ = some x0 ∧ W.cell? ⟨b, o + i * 7 + 1, none⟩ = some x1 ∧ W.cell? ⟨b, o + i * 7 + 2, none⟩ = some x2 ∧ W.cell? ⟨b, o + i * 7 + 3, none⟩ = some x3 ∧ W.cell? ⟨b, o + i * 7 + 4, none⟩ = some x4 ∧ W.cell? ⟨b, o + i * 7 + 5, none⟩ = some x5 ∧ W.cell? ⟨b, o + i * 7 + 6, none⟩ = some x6 ∧ W.cell? ⟨b', o' + i * 7, none⟩ = some y0 ∧ W.cell? ⟨b', o' + i * 7 + 1, none⟩ = some y1 ∧ W.cell? ⟨b', o' + i * 7 + 2, none⟩ = some y2 ∧ W.cell? ⟨b', o' + i * 7 + 3, none⟩ = some y3 ∧ W.cell? ⟨b', o' + i * 7 + 4, none⟩ = some y4 ∧ W.cell? ⟨b', o' + i * 7 + 5, none⟩ = some y5 ∧ W.cell? ⟨b', o' + i * 7 + 6, none⟩ = some y6) (by kernel_rfl) (HS.out _ (Below.refl _ _).drew) (fun hHeld => ?_)
    refine ht (i := 0) ?_
    refine ht (i := 1) ?_
    refine ht (i := 2) ?_
    refine ht (i := 3) ?_
    refine ht (i := 4) ?_
    refine ht (i := 5) ?_
    refine ht (i := 6) ?_
    refine ht (i := 7) ?_
    refine ht (i := 8) ?_
    refine ht (i := 9) ?_
    refine wpAnyH_ready (rs := [10]) (by kernel_rfl) (by simp) ?_
    refine AllReadyH.cons (by simp only [List.getElem?_toArray, List.getElem?_cons_succ, List.getElem?_cons_zero]; rfl) (fun K hK => ?_) AllReadyH.nil
    go_simp
    go_at_call 6
    refine (HC.out _ HW5.out.drew).mono ?_
    rintro e w6 ⟨rfl, hb⟩
    have HA6 := Hd (HA5.out.drew.below hb HA5.out.lt)
    have HB6 := Hd (HB5.out.drew.below hb HB5.out.lt)
    have HW6 := Hd (HW5.out.drew.trans (hb.mono HW5.out.size))
    have HS6 := Hd (HS.out _ ((Below.refl _ wr).drew.trans hb))
    clear hb
    refine hK.out _ _ (HS6.out) (fun hHeld => ?_)
    clear hK K
    refine ht (i := 11) ?_
    refine wpAnyH_done (by kernel_rfl) ?_ _
    go_wp2
    go_roundg f
    case measure => omega
    case rel => exact ⟨i + 1, by simp, by omega, by omega, HA6.out, HB6.out, HW6.out⟩
   ·go_wp2
    go_ret
    exact ⟨rfl, HW5.out⟩
theorem flat_at : ∀ {css : List (List Value)} (_ : ∀ c ∈ css, c.length = 7) (i j : Nat) (c : List Value), css[i]? = some c → j < 7 → css.flatten[i * 7 + j]? = c[j]?
 | [], _, i, _, _, hi, _ => by simp at hi
 | a :: r, h, 0, j, c, hi, hj => by
  simp only [List.getElem?_cons_zero, Option.some.injEq] at hi
  subst hi
  have := h a (by simp)
  rw [List.flatten_cons, Nat.zero_mul, Nat.zero_add, List.getElem?_append_left (by omega)]
 | a :: r, h, i + 1, j, c, hi, hj => by
  have h7 := h a (by simp)
  rw [List.flatten_cons, List.getElem?_append_right (by omega), h7]
  have e : (i + 1) * 7 + j - 7 = i * 7 + j := by omega
  rw [e]
  exact flat_at (fun c hc => h c (List.mem_cons_of_mem _ hc)) i j c (by simpa using hi) hj
theorem row_at {w : World} {S : Nat → Prop} {A : Option Addr} {nodes : List Ps.Tr} {css : List (List Value)} (hl : css.length = nodes.length) (h : ReadsI w S 7 A nodes.length css.flatten) (h7 : ∀ (i : Nat) (cs' : List Value) (t' : Ps.Tr), css[i]? = some cs' → nodes[i]? = some t' → cs'.length = 7) {i : Nat} (hi : i < nodes.length) :
  ∃ (b o : Nat) (x0 x1 x2 x3 x4 x5 x6 : Value), A = some ⟨b, o, none⟩ ∧ b < w.heap.size ∧ css[i]? = some [x0, x1, x2, x3, x4, x5, x6] ∧ (w.cell? ⟨b, o + i * 7, none⟩ = some x0 ∧ w.cell? ⟨b, o + i * 7 + 1, none⟩ = some x1 ∧ w.cell? ⟨b, o + i * 7 + 2, none⟩ = some x2 ∧ w.cell? ⟨b, o + i * 7 + 3, none⟩ = some x3 ∧ w.cell? ⟨b, o + i * 7 + 4, none⟩ = some x4 ∧ w.cell? ⟨b, o + i * 7 + 5, none⟩ = some x5 ∧ w.cell? ⟨b, o + i * 7 + 6, none⟩ = some x6) := by
 have hall : ∀ c ∈ css, c.length = 7 := fun c hc => by
  obtain ⟨q, hq, rfl⟩ := List.getElem_of_mem hc
  exact h7 q _ _ (List.getElem?_eq_getElem hq) (List.getElem?_eq_getElem (by omega))
 obtain ⟨b, o, e, -, hb, hc⟩ := h.2 (by omega)
 have hci : css[i]? = some css[i] := List.getElem?_eq_getElem (by omega)
 have hlen := hall css[i] (List.getElem_mem _)
 generalize css[i] = c at hci hlen
 match c, hlen with
 | [x0, x1, x2, x3, x4, x5, x6], _ =>
  have hx : ∀ j u, j < 7 → [x0, x1, x2, x3, x4, x5, x6][j]? = some u → w.cell? ⟨b, o + i * 7 + j, none⟩ = some u := fun j u hj hu => by
   rw [Nat.add_assoc]
   exact hc (i * 7 + j) u (by rw [flat_at hall i j _ hci hj]; exact hu)
  exact ⟨b, o, x0, x1, x2, x3, x4, x5, x6, e, hb, hci, hx 0 _ (by omega) rfl, hx 1 _ (by omega) rfl, hx 2 _ (by omega) rfl, hx 3 _ (by omega) rfl, hx 4 _ (by omega) rfl, hx 5 _ (by omega) rfl, hx 6 _ (by omega) rfl⟩
theorem alike_any {w : World} {S S' : Nat → Prop} {cs cs' : List Value} {t : Ps.Tr} (h : TrIn w S cs t) (h' : TrIn w S' cs' t) : ∀ W, Below w.heap.size w W → Calls Tryz.prog 6 #[.agg cs.toArray, .agg cs'.toArray] W (YesP W) := by
 induction h generalizing cs' with
 | mk kind name names temps nodes prim place A1 c1 A2 c2 A3 c3 css h1 h2 hl h3 hc hT ih =>
  intro W hb
  cases h' with
  | mk _ _ _ _ _ _ _ B1 d1 B2 d2 B3 d3 css' h1' h2' hl' h3' hc' hT' =>
   refine alike_step kind name names temps nodes prim place A1 c1 A2 c2 A3 c3 B1 d1 B2 d2 B3 d3 (h1.below hb) (h2.below hb) (fun i hi => ?_) hc.2 (h1'.below hb) (h2'.below hb)
   obtain ⟨b, o, x0, x1, x2, x3, x4, x5, x6, e, hbl, hci, hx⟩ := row_at hl (h3.below hb) (fun i cs' t' hcs ht => (hT i cs' t' hcs ht).len) hi
   obtain ⟨b', o', y0, y1, y2, y3, y4, y5, y6, e', hbl', hci', hy⟩ := row_at hl' (h3'.below hb) (fun i cs' t' hcs ht => (hT' i cs' t' hcs ht).len) hi
   have ht : nodes[i]? = some nodes[i] := List.getElem?_eq_getElem hi
   exact ⟨b, o, b', o', x0, x1, x2, x3, x4, x5, x6, y0, y1, y2, y3, y4, y5, y6, e, e', hbl, hbl', hx, hy, fun W' hb' => ih i _ _ hci ht (hT' i _ _ hci' ht) W' (hb.trans (hb'.mono hb.size))⟩
theorem kd_neb (n k : Nat) : ((n : Int) != (k : Int)) = (n != k) := by rw [bne, kd_eqb]; rfl
set_option maxRecDepth 20000 in
theorem pwant_any {w : World} {g c fin : Nat} {A : Option Addr} {T : List Lx.Tk} {s : Ps.PS} (h : PA w g A c T fin s) (hs : s.at_ ≤ 100000) (k : Nat) (x : Lx.Txt) :
  Calls Tryz.prog 16 #[.pointer (some ⟨g, 0, none⟩), .int .i64 (k : Int), .string ⟨x.toArray⟩] w fun e' w' => e' = .returned (.agg #[.int .i64 (((Ps.want T fin k x s).1).1 : Int), .string ⟨((Ps.want T fin k x s).1).2.1.toArray⟩, .int .i64 (((Ps.want T fin k x s).1).2.2 : Int)]) ∧ PP w g A c T fin (Ps.want T fin k x s).2 w' := by
 have E0 := (Env.start h).box 40 [.int .i64 0, .string ⟨#[]⟩, .int .i64 0] (by decide)
 have HN := Hd (pnext_any E0.pa)
 obtain ⟨t, ht⟩ : ∃ t, Ps.nx T fin s = t := ⟨_, rfl⟩
 have HW : Hid (Ps.want T fin k x s = if t.1 != k || (!x.isEmpty && t.2.1 != x) then ((0, [], 0), Ps.odd T fin s) else (t, Ps.adv s)) := Hd (by unfold Ps.want; rw [ht])
 rw [ht] at HN
 clear h
 have d1 := kd_neb t.1 k
 have d2 := str_eqb t.2.1 x
 have d3 := str_eqb x []
 go_enter Tryz.func16, Tryz.ntmps16
 go_upto_region 2 with (go_at_call 11; refine HN.out.mono ?_; rintro e w1 ⟨rfl, hb1⟩; have E1 := E0.below hb1; clear hb1)
 refine wp_env (E1.box 40 [_, _, _] (by decide)) fun w2 E2 => ?_
 clear E0 E1 HN
 obtain ⟨a, a0, a1, a2⟩ := E2.c3 0 rfl
 obtain ⟨b, b0, b1, b2⟩ := E2.c3 1 rfl
 have f1 := E2.fz 1 rfl
 have HT := Hd (ptake_any E2.pa hs)
 have HO := Hd (podd_any E2.pa)
 rw [ht] at HT
 by_cases h1 : t.1 = k
 ·have e1 : (t.1 != k) = false := by simp [h1]
  rw [e1] at d1
  have HK := Hd h1
  clear h1
  cases x with
  | nil =>
   have HE : Hid (Ps.want T fin k [] s = (t, Ps.adv s)) := Hd (by rw [HW.out, e1]; rfl)
   clear d2 d3 e1
   go_wp2_with (go_at_call 12; refine HT.out.mono ?_; rintro e w3 ⟨rfl, hp⟩; have E3 := E2.call hp; clear hp; obtain ⟨b, b0, b1, b2⟩ := E3.c3 1 rfl; have f1 := E3.fz 1 rfl)
   have E4 := E3.put3 1 rfl (.int .i64 (t.1 : Int)) (.string ⟨t.2.1.toArray⟩) (.int .i64 (t.2.2 : Int))
   refine bodyPost_ret (ret40 rfl _ _ rfl (E4.blk 1 rfl)) rfl ?_
   rw [HE.out]
   exact ⟨rfl, E4.pp⟩
  | cons x0 x1 =>
   by_cases h2 : t.2.1 = x0 :: x1
   ·have HE : Hid (Ps.want T fin k (x0 :: x1) s = (t, Ps.adv s)) := Hd (by rw [HW.out, e1, h2]; simp)
    have d2' : (t.2.1 == x0 :: x1) = true := by rw [h2]; simp
    clear d2 d3 e1 h2
    go_wp2_with (go_at_call 12; refine HT.out.mono ?_; rintro e w3 ⟨rfl, hp⟩; have E3 := E2.call hp; clear hp; obtain ⟨b, b0, b1, b2⟩ := E3.c3 1 rfl; have f1 := E3.fz 1 rfl)
    have E4 := E3.put3 1 rfl (.int .i64 (t.1 : Int)) (.string ⟨t.2.1.toArray⟩) (.int .i64 (t.2.2 : Int))
    refine bodyPost_ret (ret40 rfl _ _ rfl (E4.blk 1 rfl)) rfl ?_
    rw [HE.out]
    exact ⟨rfl, E4.pp⟩
   ·have HE : Hid (Ps.want T fin k (x0 :: x1) s = ((0, [], 0), Ps.odd T fin s)) := Hd (by rw [HW.out, e1]; simp [h2])
    have d2' : (t.2.1 == x0 :: x1) = false := by simpa using h2
    clear d2 d3 e1 h2
    go_wp2_with (go_at_call 15; refine HO.out.mono ?_; rintro e w3 ⟨rfl, hp⟩; have E3 := E2.call hp; clear hp; obtain ⟨b, b0, b1, b2⟩ := E3.c3 1 rfl; have f1 := E3.fz 1 rfl)
    have E4 := E3.put3 1 rfl (.int .i64 0) (.string ⟨#[]⟩) (.int .i64 0)
    refine bodyPost_ret (ret40 rfl _ _ rfl (E4.blk 1 rfl)) rfl ?_
    rw [HE.out]
    exact ⟨rfl, E4.pp⟩
 ·have e1 : (t.1 != k) = true := by simp [h1]
  rw [e1] at d1
  have HE : Hid (Ps.want T fin k x s = ((0, [], 0), Ps.odd T fin s)) := Hd (by rw [HW.out, e1]; rfl)
  clear d2 d3 e1 h1
  go_wp2_with (go_at_call 15; refine HO.out.mono ?_; rintro e w3 ⟨rfl, hp⟩; have E3 := E2.call hp; clear hp; obtain ⟨b, b0, b1, b2⟩ := E3.c3 1 rfl; have f1 := E3.fz 1 rfl)
  have E4 := E3.put3 1 rfl (.int .i64 0) (.string ⟨#[]⟩) (.int .i64 0)
  refine bodyPost_ret (ret40 rfl _ _ rfl (E4.blk 1 rfl)) rfl ?_
  rw [HE.out]
  exact ⟨rfl, E4.pp⟩
set_option maxRecDepth 20000 in
theorem popen_any {w : World} {g c fin : Nat} {A : Option Addr} {T : List Lx.Tk} {s : Ps.PS} (h : PA w g A c T fin s) (hs : s.at_ ≤ 100000) (hd : -100000 ≤ s.deep ∧ s.deep ≤ 100000) :
  Calls Tryz.prog 79 #[.pointer (some ⟨g, 0, none⟩)] w fun e' w' => e' = .returned (.agg #[.int .i64 ((Ps.nx T fin s).1 : Int), .string ⟨(Ps.nx T fin s).2.1.toArray⟩, .int .i64 ((Ps.nx T fin s).2.2 : Int)]) ∧ PP w g A c T fin (Ps.opn T fin s) w' := by
 obtain ⟨hd1, hd2⟩ := hd
 have E0 := (Env.start h).box 40 [.int .i64 0, .string ⟨#[]⟩, .int .i64 0] (by decide)
 have HN := Hd (pnext_any E0.pa)
 obtain ⟨t, ht⟩ : ∃ t, Ps.nx T fin s = t := ⟨_, rfl⟩
 have HW : Hid (Ps.opn T fin s = Ps.adv { (if s.deep = 100 then Ps.rf s t.2.2 125 else s) with deep := s.deep + 1 }) := Hd (by unfold Ps.opn; rw [ht])
 have HT := Hd ht
 rw [ht] at HN
 clear h ht
 rw [HT.out]
 go_enter Tryz.func79, Tryz.ntmps79
 go_upto_region 2 with (go_at_call 11; refine HN.out.mono ?_; rintro e w1 ⟨rfl, hb1⟩; have E1 := E0.below hb1; clear hb1)
 refine wp_env (E1.box 40 [_, _, _] (by decide)) fun w2 E2 => ?_
 clear E0 E1 HN
 obtain ⟨k0, k1, k2, k3⟩ := E2.pa.cells
 have hg := E2.pa.lt
 by_cases h1 : s.deep = 100
 ·have HE : Hid (Ps.opn T fin s = Ps.adv { Ps.rf s t.2.2 125 with deep := s.deep + 1 }) := Hd (by rw [HW.out, if_pos h1])
  have d1 : (s.deep == 100) = true := by simp [h1]
  have HD := Hd h1
  clear h1
  obtain ⟨a, a0, a1, a2⟩ := E2.c3 0 rfl
  go_upto_region 4 with (go_at_call 32; refine (prefuse_any E2.pa t.2.2 125).mono ?_; rintro e w3 ⟨rfl, hp⟩; have E3 := E2.call hp; clear hp)
  have e1 : (Ps.rf s t.2.2 125).deep = s.deep := rfl
  have e2 : (Ps.rf s t.2.2 125).at_ = s.at_ := rfl
  clear a a0 a1 a2 E2 HW
  generalize Ps.rf s t.2.2 125 = s3 at *
  clear k0 k1 k2 k3 hg
  obtain ⟨k0, k1, k2, k3⟩ := E3.pa.cells
  have kf := E3.pa.frz 3
  have hg := E3.pa.lt
  rw [e1] at k3
  go_upto_region 5 with fail
  refine wp_env (E3.setDeep (s.deep + 1)) fun w4 E4 => ?_
  have HK := ptake_any E4.pa (by dsimp only; omega)
  have e3 : Ps.nx T fin { s3 with deep := s.deep + 1 } = t := by rw [← HT.out]; unfold Ps.nx; dsimp only; try rw [e2]
  rw [e3] at HK
  have HKH := Hd HK
  clear k0 k1 k2 k3 kf hg E3 HK e3
  go_wp2_with (go_at_call 12; refine HKH.out.mono ?_; rintro e w5 ⟨rfl, hp⟩; have E5 := E4.call hp; clear hp; obtain ⟨b, b0, b1, b2⟩ := E5.c3 1 rfl; have f1 := E5.fz 1 rfl)
  have E6 := E5.put3 1 rfl (.int .i64 (t.1 : Int)) (.string ⟨t.2.1.toArray⟩) (.int .i64 (t.2.2 : Int))
  refine bodyPost_ret (ret40 rfl _ _ rfl (E6.blk 1 rfl)) rfl ?_
  rw [HE.out]
  exact ⟨rfl, E6.pp⟩
 ·have HE : Hid (Ps.opn T fin s = Ps.adv { s with deep := s.deep + 1 }) := Hd (by rw [HW.out, if_neg h1])
  have d1 : (s.deep == 100) = false := by simpa using h1
  clear h1 HW
  go_upto_region 4 with fail
  have E3 := E2
  have e1 : s.deep = s.deep := rfl
  have e2 : s.at_ = s.at_ := rfl
  clear E2
  clear k0 k1 k2 k3 hg
  obtain ⟨k0, k1, k2, k3⟩ := E3.pa.cells
  have kf := E3.pa.frz 3
  have hg := E3.pa.lt
  go_upto_region 5 with fail
  refine wp_env (E3.setDeep (s.deep + 1)) fun w4 E4 => ?_
  have HK := ptake_any E4.pa (by dsimp only; omega)
  have e3 : Ps.nx T fin { s with deep := s.deep + 1 } = t := by rw [← HT.out]; unfold Ps.nx; dsimp only; try rw [e2]
  rw [e3] at HK
  have HKH := Hd HK
  clear k0 k1 k2 k3 kf hg E3 HK e3
  go_wp2_with (go_at_call 12; refine HKH.out.mono ?_; rintro e w5 ⟨rfl, hp⟩; have E5 := E4.call hp; clear hp; obtain ⟨b, b0, b1, b2⟩ := E5.c3 1 rfl; have f1 := E5.fz 1 rfl)
  have E6 := E5.put3 1 rfl (.int .i64 (t.1 : Int)) (.string ⟨t.2.1.toArray⟩) (.int .i64 (t.2.2 : Int))
  refine bodyPost_ret (ret40 rfl _ _ rfl (E6.blk 1 rfl)) rfl ?_
  rw [HE.out]
  exact ⟨rfl, E6.pp⟩
set_option maxRecDepth 20000 in
theorem pclose_any {w : World} {g c fin : Nat} {A : Option Addr} {T : List Lx.Tk} {s : Ps.PS} (h : PA w g A c T fin s) (hs : s.at_ ≤ 100000) (hd : -100000 ≤ s.deep ∧ s.deep ≤ 100000) (x : Lx.Txt) :
  Calls Tryz.prog 80 #[.pointer (some ⟨g, 0, none⟩), .string ⟨x.toArray⟩] w fun e' w' => e' = .returned (.tuple #[]) ∧ PP w g A c T fin (Ps.cls_ T fin x s) w' := by
 obtain ⟨hd1, hd2⟩ := hd
 have E2 := Env.start h
 have HW : Hid (Ps.cls_ T fin x s = (Ps.want T fin 7 x { s with deep := s.deep - 1 }).2) := Hd rfl
 clear h
 obtain ⟨k0, k1, k2, k3⟩ := E2.pa.cells
 have kf := E2.pa.frz 3
 have hg := E2.pa.lt
 go_enter Tryz.func80, Tryz.ntmps80
 go_upto_region 1 with fail
 refine wp_env (E2.setDeep (s.deep - 1)) fun w4 E4 => ?_
 have HK := Hd (pwant_any E4.pa (by dsimp only; omega) 7 x)
 clear k0 k1 k2 k3 kf hg E2
 go_wp2_with (go_at_call 16; refine HK.out.mono ?_; rintro e w5 ⟨rfl, hp⟩; have E5 := E4.call hp; clear hp)
 go_end0
 exact ⟨rfl, by rw [HW.out]; exact E5.pp⟩
set_option maxRecDepth 20000 in
theorem pclosed_any {w : World} {g c fin : Nat} {A : Option Addr} {T : List Lx.Tk} {s : Ps.PS} (h : PA w g A c T fin s) (x : Lx.Txt) :
  Calls Tryz.prog 34 #[.pointer (some ⟨g, 0, none⟩), .string ⟨x.toArray⟩] w fun e' w' => e' = .returned (.bool (Ps.closed T fin x s)) ∧ Below w.heap.size w w' := by
 have HI := Hd (pis_any h x)
 obtain ⟨k0, k1, k2, k3⟩ := h.cells
 have hg := h.lt
 clear h
 cases x with
 | nil =>
  have HE : Hid (Ps.closed T fin [] s = decide (T.length ≤ s.at_)) := Hd rfl
  go_enter Tryz.func34, Tryz.ntmps34
  go_wp2
  go_quiet (fail)
  go_wp2
  go_ret
  exact ⟨ret_bool (by rw [HE.out]), below_drewN (Below.refl _ _) _⟩
 | cons x0 x1 =>
  have HE : Hid (Ps.closed T fin (x0 :: x1) s = Ps.is_ T fin s (x0 :: x1)) := Hd rfl
  go_enter Tryz.func34, Tryz.ntmps34
  go_wp2_with (go_at_call 33; refine HI.out.mono ?_; rintro e w5 ⟨rfl, hb⟩)
  go_ret
  exact ⟨ret_bool (by rw [HE.out]), hb⟩
theorem SsN.at_ {w : World} {base n c : Nat} {A : Option Addr} {l : List Lx.Txt} (h : SsN w base (.slice A n c) l) (hn : n = l.length) {k : Nat} {x : Lx.Txt} (hx : l[k]? = some x) : ∃ b, A = some ⟨b, 0, none⟩ ∧ b < w.heap.size ∧ w.cell? ⟨b, k, none⟩ = some (.string ⟨x.toArray⟩) := by
 subst hn
 have hk := (List.getElem?_eq_some_iff.1 hx).1
 obtain ⟨g, cap, hv, _, hlt⟩ := World.ownsRow.form h (by omega)
 have hA : A = some ⟨g, 0, none⟩ := by injection hv
 subst hA
 refine ⟨g, rfl, hlt, ?_⟩
 have := World.ownsRow.cells h (g := g) rfl k (sv x) (by rw [List.getElem?_map, hx]; rfl)
 have e : (⟨g, 0, none⟩ : Addr).add k = ⟨g, k, none⟩ := by unfold Addr.add; split <;> simp_all
 rw [e] at this
 exact this
def hasT (l : List Lx.Txt) (x : Lx.Txt) : Bool := l.contains x
def IdxT (l : List Lx.Txt) (x : Lx.Txt) (w : World) (e : Ending) (w' : World) : Prop := ∃ r : Int, e = .returned (.int .i64 r) ∧ decide (0 ≤ r) = hasT l x ∧ w = w'
theorem has_step {l : List Lx.Txt} {k : Nat} {y : Lx.Txt} (h : l[k]? = some y) (x : Lx.Txt) : hasT (l.drop k) x = (x == y || hasT (l.drop (k + 1)) x) := by
 obtain ⟨hk, rfl⟩ := List.getElem?_eq_some_iff.1 h
 unfold hasT
 rw [List.drop_eq_getElem_cons hk, List.contains_cons]
set_option maxRecDepth 20000 in
theorem pindex_any {w : World} {base c : Nat} {A : Option Addr} {l : List Lx.Txt} (x : Lx.Txt) (h : SsN w base (.slice A l.length c) l) (hl : l.length ≤ 1000000000) :
  Calls Tryz.prog 47 #[.slice A l.length c, .string ⟨x.toArray⟩] w (IdxT l x w) := by
 have H := Hd h
 clear h
 obtain ⟨n, hn⟩ : ∃ n, n = l.length := ⟨_, rfl⟩
 have HN := Hd hn
 rw [← hn] at hl ⊢
 rw [← hn] at H
 clear hn
 go_enter Tryz.func47, Tryz.ntmps47
 go_wp2
 go_loopw [8] (fun i wr => ∃ k : Nat, k ≤ n ∧ i = .int .i64 k ∧ hasT (l.drop k) x = hasT l x ∧ w = wr) (fun i _ => n - (intOf i).toNat)
 case atStart => exact ⟨0, Nat.zero_le _, rfl, rfl, rfl⟩
 case round =>
  obtain ⟨k, hk, rfl, hall, rfl⟩ := hrel
  have HALL := Hd hall
  clear hall
  by_cases hlt : k < n
  ·have hy := List.getElem?_eq_getElem (l := l) (i := k) (by rw [← HN.out]; exact hlt)
   generalize l[k]'_ = y at hy
   obtain ⟨b, rfl, hb, hc⟩ := SsN.at_ H.out HN.out hy
   have HD := Hd (has_step hy x)
   have l1 : (0 : Int) ≤ (k : Int) := by omega
   have l2 : (k : Int) < (n : Int) := by omega
   clear hy
   cases he : (x == y) with
   | true =>
    have d := (str_eqb x y).trans he
    have HE : Hid (hasT l x = true) := Hd (by rw [← HALL.out, HD.out, he]; rfl)
    go_wp2
    go_ret
    exact ⟨_, rfl, by rw [HE.out]; simp, rfl⟩
   | false =>
    have d := (str_eqb x y).trans he
    have HE : Hid (hasT (l.drop (k + 1)) x = hasT l x) := Hd (by rw [← HALL.out, HD.out, he]; rfl)
    go_wp2
    go_roundw
    case rel => exact ⟨k + 1, by omega, by go_num, HE.out, by first | rfl | trivial⟩
    case measure => simp [intOf]; omega
  ·have HE : Hid (hasT l x = false) := Hd (by rw [← HALL.out, List.drop_eq_nil_of_le (by rw [← HN.out]; omega)]; rfl)
   go_wp2
   go_ret
   exact ⟨_, rfl, by rw [HE.out]; rfl, rfl⟩
set_option maxRecDepth 20000 in
theorem phas_any {w : World} {base c : Nat} {A : Option Addr} {l : List Lx.Txt} (x : Lx.Txt) (h : SsN w base (.slice A l.length c) l) (hl : l.length ≤ 1000000000) :
  Calls Tryz.prog 31 #[.slice A l.length c, .string ⟨x.toArray⟩] w fun e w' => e = .returned (.bool (hasT l x)) ∧ w' = w := by
 have HI := Hd (pindex_any x h hl)
 clear h hl
 go_enter Tryz.func31, Tryz.ntmps31
 go_wp2_with (go_at_call 47; refine HI.out.mono ?_; rintro e w1 ⟨r, rfl, hr, rfl⟩; have HR := Hd hr; clear hr)
 go_ret
 exact ⟨ret_bool (by rw [← HR.out]), rfl⟩
set_option maxRecDepth 20000 in
theorem preserved_any (x : Lx.Txt) (w : World) : Calls Tryz.prog 30 #[.string ⟨x.toArray⟩] w fun e w' => e = .returned (.bool (Ps.resv x)) ∧ Below w.heap.size w w' := by
 have HS : Hid (SsN (w.alloc (.cells #[.string ⟨#[115, 101, 108, 102]⟩, .string ⟨#[115, 117, 112, 101, 114]⟩, .string ⟨#[110, 105, 108]⟩, .string ⟨#[116, 114, 117, 101]⟩, .string ⟨#[102, 97, 108, 115, 101]⟩, .string ⟨#[116, 104, 105, 115, 67, 111, 110, 116, 101, 120, 116]⟩] 9)) w.heap.size (.slice (some ⟨w.heap.size, 0, none⟩) 6 6) [[115, 101, 108, 102], [115, 117, 112, 101, 114], [110, 105, 108], [116, 114, 117, 101], [102, 97, 108, 115, 101], [116, 104, 105, 115, 67, 111, 110, 116, 101, 120, 116]]) :=
  Hd (World.ownsRow_lit (base := w.heap.size) (e := 9) (size := 1) w _ 6 (Nat.le_refl _) (by decide) (by simp))
 have HE : Hid (Ps.resv x = hasT [[115, 101, 108, 102], [115, 117, 112, 101, 114], [110, 105, 108], [116, 114, 117, 101], [102, 97, 108, 115, 101], [116, 104, 105, 115, 67, 111, 110, 116, 101, 120, 116]] x) := Hd rfl
 go_enter Tryz.func30, Tryz.ntmps30
 go_wp2_with (go_at_call 31; refine (phas_any x HS.out (by simp)).mono ?_; rintro e w1 ⟨rfl, rfl⟩)
 go_ret
 exact ⟨ret_bool (by rw [HE.out]), (Below.refl _ _).alloc (Nat.le_refl _) _⟩
def DclP (w : World) (g : Nat) (A : Option Addr) (c : Nat) (T : List Lx.Tk) (fin base : Nat) (v : Value) (r : List Lx.Txt × Ps.PS) (e : Ending) (w' : World) : Prop :=
 ∃ v', e = .returned v' ∧ Chg (fun k => k = g ∨ v.ownBlock = some k) w w' ∧ PA w' g A c T fin r.2 ∧ SsN w' base v' r.1 ∧ (v'.ownBlock = v.ownBlock ∨ ∃ k, v'.ownBlock = some k ∧ w.heap.size ≤ k)
theorem info9 : (Tryz.prog.info? 9).map (fun i => (i.zero, i.size, i.bytes)) = some (some (.string ⟨#[]⟩), 1, 16) := by kernel_rfl
theorem sv_one (l : List Lx.Txt) : ∀ u ∈ l.map sv, u.oneCell' = true := by
 intro u hu
 obtain ⟨x, _, rfl⟩ := List.mem_map.1 hu
 rfl
theorem wpList_snocT {P : Program} {w : World} {ops : Array Oper} {rest : List Oper} {o : Oper} {a : Act} {Q : Exit → Act → World → Prop} (hgd : o.guard = none) (s x : Operand) (t : TypeId)
  (ho : o.op = .call { callee := .builtin .append, args := #[s, x], argTypes := #[t, t] })
  (hinfo : (P.info? 9).map (fun i => (i.zero, i.size, i.bytes)) = some (some (.string ⟨#[]⟩), 1, 16)) (ht : P.underlying t = some (.slice 9))
  (base : Nat) (v : Value) (l : List Lx.Txt) (str : Lx.Txt) (g c : Nat) (hs : a.eval s = v) (hx : a.eval x = .slice (some ⟨g, 0, none⟩) 1 c) (hown : SsN w base v l) (hg : g < w.heap.size)
  (hcell : w.cell? ⟨g, 0, none⟩ = some (.string ⟨str.toArray⟩)) (hb : l.length ≤ 1000000000) (hbase : base ≤ w.heap.size)
  (h : ∀ v' w', SsN w' base v' (l ++ [str]) → App w v w' v' → wpList P ops Q rest (a.put o.dst v') w') : wpList P ops Q (o :: rest) a w := by
 obtain ⟨i, hi, hz, hsz, hby⟩ := info_parts hinfo
 refine wpList_append_any w hgd s x t ho base 9 i _ 1 16 ht hi hz hsz hby rfl (by omega) v l.length (l.map sv) hs hown w.heap.size (some ⟨g, 0, none⟩) 1 c [sv str] hx ⟨rfl, fun _ => ⟨_, rfl, hg, fun j u hu => ?_⟩⟩ (sv_one [str]) (by simp only [maxLen]; omega) (by omega) hbase fun v' w' h1 h2 h3 => h v' w' ?_ ⟨h2, ?_⟩
 ·cases j with
  | zero => simp only [List.getElem?_cons_zero, Option.some.injEq] at hu; subst hu; exact hcell
  | succ j => simp at hu
 ·show w'.ownsRow base 9 1 v' (l ++ [str]).length ((l ++ [str]).map sv)
  rw [List.length_append, List.map_append]
  exact h1
 ·rcases h3 with h3 | h3
  ·exact .inl h3
  ·exact .inr ⟨_, h3, Nat.le_refl _⟩
theorem SsN.form {w : World} {base : Nat} {v : Value} {l : List Lx.Txt} (h : SsN w base v l) : ∃ A c, v = .slice A l.length c ∧ l.length ≤ c ∧ c ≤ maxLen := own_form h
theorem SsN.below {w w' : World} {base : Nat} {v : Value} {l : List Lx.Txt} (h : SsN w base v l) (hb : Below w.heap.size w w') : SsN w' base v l := own_same h fun k hk => hb.block k (World.ownsRow.lt h k hk).2
theorem SsN.call {w w' : World} {base g : Nat} {v : Value} {l : List Lx.Txt} (h : SsN w base v l) (hc : Chg (· = g) w w') (hg : g < base) : SsN w' base v l := own_chg h hc fun k hk e => by have := (World.ownsRow.lt h k hk).1; omega
theorem SsN.put {w : World} {base k : Nat} {t : TypeId} {cs : Array Value} {v : Value} {l : List Lx.Txt} (h : SsN w base v l) (hb : Blk w k t cs) (ht : t ≠ 9) {w' : World} (hc : Chg (· = k) w w') : SsN w' base v l := own_chg h hc fun q hq e => by subst e; exact own_blk_ne h hb (Ne.symm ht) hq
theorem DclP.end_ {w w3 w' : World} {g c fin base : Nat} {A : Option Addr} {T : List Lx.Tk} {s3 : Ps.PS} {L : List Lc} {v v' : Value} {l l' : List Lx.Txt} {o : Obj} (h : Env w g A c T fin s3 L w3) (hgb : g < base) (h3 : SsN w3 base v l') (ho : SsN w' base v' l) (ha : App (w3.alloc o) v w' v') : DclP w g A c T fin base v (l, s3) (.returned v') w' := by
 have ha := ha.from
 refine ⟨v', rfl, (h.chg.mono (G := fun k => k = g ∨ v.ownBlock = some k) fun i _ e => .inl e).trans (Chg.of_grown ha.1 (F := fun k => v.ownBlock = some k) fun k e => e) (fun i _ e => .inr e), h.pa.grown h3 (by decide) hgb ha.1, ho, ?_⟩
 rcases ha.2 with e | ⟨k, e, hk⟩
 ·exact .inl e
 ·exact .inr ⟨k, e, Nat.le_trans h.size hk⟩
set_option maxRecDepth 20000 in
theorem pdecl_any {w : World} {g c fin : Nat} {A : Option Addr} {T : List Lx.Tk} {s : Ps.PS} {base : Nat} {v : Value} {l : List Lx.Txt} (h : PA w g A c T fin s) (hs : s.at_ ≤ 100000) (ho : SsN w base v l) (hgb : g < base) (hbw : base ≤ w.heap.size) (hl : l.length ≤ 1000000) :
  Calls Tryz.prog 14 #[.pointer (some ⟨g, 0, none⟩), v] w (DclP w g A c T fin base v (Ps.decl T fin l s)) := by
 have E0 := Env.start h
 have HN := Hd (pwant_any E0.pa hs 1 [])
 have HO := Hd ho
 obtain ⟨r, hr⟩ : ∃ r, Ps.want T fin 1 [] s = r := ⟨_, rfl⟩
 have HW : Hid (Ps.decl T fin l s = (l ++ [r.1.2.1], if Ps.ok r.2 && (Ps.resv r.1.2.1 || hasT l r.1.2.1) then Ps.rf r.2 r.1.2.2 126 else r.2)) := Hd (by unfold Ps.decl; rw [hr]; rfl)
 rw [hr] at HN
 clear h ho hr
 obtain ⟨Av, cv, rfl, -, -⟩ := SsN.form HO.out
 obtain ⟨n, hn⟩ : ∃ n, n = l.length := ⟨_, rfl⟩
 obtain ⟨t, s1⟩ := r
 dsimp only at HN HW
 go_enter Tryz.func14, Tryz.ntmps14
 go_upto_region 2 with (go_at_call 16; refine HN.out.mono ?_; rintro e w1 ⟨rfl, hp⟩; have E1 := E0.call hp; clear hp)
 have HO1 := Hd (HO.out.call E1.chg hgb)
 refine wp_env2 (E1.box 40 [_, _, _] (by decide)) (fun W => SsN W base (.slice Av l.length cv) l) (HO1.out.below (new_below _ _)) fun w2 E2 ho2 => ?_
 have HO2 := Hd ho2
 clear E0 E1 HO HO1 ho2 HN
 obtain ⟨a, a0, a1, a2⟩ := E2.c3 0 rfl
 have hg := E2.pa.lt
 cases hk : Ps.ok s1 with
 | false =>
  have HE : Hid (Ps.decl T fin l s = (l ++ [t.2.1], s1)) := Hd (by rw [HW.out, hk]; rfl)
  obtain ⟨kq, k4⟩ := E2.pa.noc hk
  have E3 := E2
  have HO3 := HO2
  clear hk HW E2 HO2
  go_upto_region 4 with fail
  go_wp2_with (at_builtin; refine wpList_snocT rfl (.tmp 28) (.tmp 31) 23 rfl info9 Tryz.underlying23 base (.slice Av l.length cv) l t.2.1 _ _ rfl rfl (World.ownsRow.alloc HO3.out _) (by simp) ((Blk.new _ _ _).cell 0) (by omega) (by have := E3.size; simp; omega) ?_; intro v' w' hown happ; have HO5 := Hd hown; have HA5 := Hd happ; clear hown happ)
  go_ret
  rw [HE.out]
  exact DclP.end_ E3 hgb HO3.out HO5.out HA5.out
 | true =>
  have k4 := E2.pa.okc hk
  have HRV := Hd fun w => preserved_any t.2.1 w
  have HHS := Hd fun w ho => phas_any (w := w) (base := base) (c := cv) (A := Av) (l := l) t.2.1 ho (by omega)
  cases hv : Ps.resv t.2.1 with
  | true =>
   have HE : Hid (Ps.decl T fin l s = (l ++ [t.2.1], Ps.rf s1 t.2.2 126)) := Hd (by rw [HW.out, hk, hv]; rfl)
   rw [hv] at HRV
   clear hk hv HW
   go_upto_region 4 with (first
    | (go_at_call 30; refine (HRV.out _).mono ?_; rintro e w3 ⟨rfl, hb⟩; have E3 := E2.below hb; have HO3 := Hd (HO2.out.below hb); obtain ⟨a, a0, a1, a2⟩ := E3.c3 0 rfl; clear hb)
    | (go_at_call 32; refine (prefuse_any E3.pa t.2.2 126).mono ?_; rintro e w4 ⟨rfl, hp⟩; have E4 := E3.call hp; have HO4 := Hd (HO3.out.call hp.1 hgb); clear hp))
   clear E3 HO3 a a0 a1 a2
   have E3 := E4
   have HO3 := HO4
   obtain ⟨a, a0, a1, a2⟩ := E3.c3 0 rfl
   go_wp2_with (at_builtin; refine wpList_snocT rfl (.tmp 28) (.tmp 31) 23 rfl info9 Tryz.underlying23 base (.slice Av l.length cv) l t.2.1 _ _ rfl rfl (World.ownsRow.alloc HO3.out _) (by simp) ((Blk.new _ _ _).cell 0) (by omega) (by have := E3.size; simp; omega) ?_; intro v' w' hown happ; have HO5 := Hd hown; have HA5 := Hd happ; clear hown happ)
   go_ret
   rw [HE.out]
   exact DclP.end_ E3 hgb HO3.out HO5.out HA5.out
  | false =>
   rw [hv] at HRV
   cases hh : hasT l t.2.1 with
   | true =>
    have HE : Hid (Ps.decl T fin l s = (l ++ [t.2.1], Ps.rf s1 t.2.2 126)) := Hd (by rw [HW.out, hk, hv, hh]; rfl)
    rw [hh] at HHS
    clear hk hv hh HW
    go_upto_region 4 with (first
     | (go_at_call 30; refine (HRV.out _).mono ?_; rintro e w3 ⟨rfl, hb⟩; have E3 := E2.below hb; have HO3 := Hd (HO2.out.below hb); obtain ⟨a, a0, a1, a2⟩ := E3.c3 0 rfl; clear hb)
     | (go_at_call 31; refine (HHS.out _ HO3.out).mono ?_; rintro e w3b ⟨rfl, rfl⟩)
     | (go_at_call 32; refine (prefuse_any E3.pa t.2.2 126).mono ?_; rintro e w4 ⟨rfl, hp⟩; have E4 := E3.call hp; have HO4 := Hd (HO3.out.call hp.1 hgb); clear hp))
    clear E3 HO3 a a0 a1 a2
    have E3 := E4
    have HO3 := HO4
    obtain ⟨a, a0, a1, a2⟩ := E3.c3 0 rfl
    go_wp2_with (at_builtin; refine wpList_snocT rfl (.tmp 28) (.tmp 31) 23 rfl info9 Tryz.underlying23 base (.slice Av l.length cv) l t.2.1 _ _ rfl rfl (World.ownsRow.alloc HO3.out _) (by simp) ((Blk.new _ _ _).cell 0) (by omega) (by have := E3.size; simp; omega) ?_; intro v' w' hown happ; have HO5 := Hd hown; have HA5 := Hd happ; clear hown happ)
    go_ret
    rw [HE.out]
    exact DclP.end_ E3 hgb HO3.out HO5.out HA5.out
   | false =>
    have HE : Hid (Ps.decl T fin l s = (l ++ [t.2.1], s1)) := Hd (by rw [HW.out, hk, hv, hh]; rfl)
    rw [hh] at HHS
    clear hk hv hh HW
    go_upto_region 4 with (first
     | (go_at_call 30; refine (HRV.out _).mono ?_; rintro e w3 ⟨rfl, hb⟩; have E3 := E2.below hb; have HO3 := Hd (HO2.out.below hb); obtain ⟨a, a0, a1, a2⟩ := E3.c3 0 rfl; clear hb)
     | (go_at_call 31; refine (HHS.out _ HO3.out).mono ?_; rintro e w3b ⟨rfl, rfl⟩))
    go_wp2_with (at_builtin; refine wpList_snocT rfl (.tmp 28) (.tmp 31) 23 rfl info9 Tryz.underlying23 base (.slice Av l.length cv) l t.2.1 _ _ rfl rfl (World.ownsRow.alloc HO3.out _) (by simp) ((Blk.new _ _ _).cell 0) (by omega) (by have := E3.size; simp; omega) ?_; intro v' w' hown happ; have HO5 := Hd hown; have HA5 := Hd happ; clear hown happ)
    go_ret
    rw [HE.out]
    exact DclP.end_ E3 hgb HO3.out HO5.out HA5.out
theorem decl_at' {T : List Lx.Tk} {fin : Nat} {l : List Lx.Txt} {s : Ps.PS} (h : s.at_ ≤ T.length) : (Ps.decl T fin l s).2.at_ ≤ T.length ∧ s.at_ ≤ (Ps.decl T fin l s).2.at_ ∧ (Ps.ok (Ps.decl T fin l s).2 = true → (Ps.decl T fin l s).2.at_ = s.at_ + 1) := by
 have key : ∀ r : Lx.Tk × Ps.PS, r = Ps.want T fin 1 [] s → r.2.at_ ≤ T.length ∧ s.at_ ≤ r.2.at_ ∧ (Ps.ok r.2 = true → r.2.at_ = s.at_ + 1) := by
  rintro r rfl
  unfold Ps.want
  split
  ·refine ⟨h, Nat.le_refl _, fun hk => ?_⟩
   have : Ps.ok (Ps.odd T fin s) = false := Ps.rf_no _ _ _
   rw [this] at hk
   cases hk
  ·rename_i hc
   have : (Ps.nx T fin s).1 = 1 := by
    by_cases h1 : (Ps.nx T fin s).1 = 1
    ·exact h1
    ·exact absurd (by simp [h1]) hc
   have hlt : s.at_ < T.length := Ps.nx_lt (fin := fin) (by rw [this]; decide)
   exact ⟨hlt, Nat.le_succ _, fun _ => rfl⟩
 unfold Ps.decl
 have := key _ rfl
 generalize Ps.want T fin 1 [] s = r at this
 dsimp only
 split
 ·refine ⟨this.1, this.2.1, fun hk => ?_⟩
  rw [Ps.rf_no] at hk
  cases hk
 ·exact this
theorem tmpL_stop {T : List Lx.Tk} {fin f : Nat} {l : List Lx.Txt} {s : Ps.PS} (h : (Ps.ok s && !Ps.is_ T fin s [124]) = false) : Ps.tmpL T fin f l s = (l, s) := by
 cases f with
 | zero => rfl
 | succ f => unfold Ps.tmpL; rw [if_neg (by rw [h]; decide)]
def NmsP (w : World) (g : Nat) (A : Option Addr) (c : Nat) (T : List Lx.Tk) (fin : Nat) (r : List Lx.Txt × Ps.PS) (e : Ending) (w' : World) : Prop := ∃ v, e = .returned v ∧ PP w g A c T fin r.2 w' ∧ SsN w' w.heap.size v r.1
set_option maxRecDepth 20000 in
theorem ptemps_any {w : World} {g c fin : Nat} {A : Option Addr} {T : List Lx.Tk} {s : Ps.PS} (h : PA w g A c T fin s) (hT : T.length ≤ 65536) :
  Calls Tryz.prog 18 #[.pointer (some ⟨g, 0, none⟩)] w (NmsP w g A c T fin (Ps.temps T fin s)) := by
 have E0 := Env.start h
 have HI := Hd (pis_any h [124])
 clear h
 cases hi : Ps.is_ T fin s [124] with
 | false =>
  have HE : Hid (Ps.temps T fin s = ([], s)) := Hd (by unfold Ps.temps; rw [hi]; rfl)
  rw [hi] at HI
  clear hi
  go_enter Tryz.func18, Tryz.ntmps18
  go_wp2_with (go_at_call 33; refine HI.out.mono ?_; rintro e w1 ⟨rfl, hb⟩; have E1 := E0.below hb)
  go_ret
  exact ⟨_, rfl, by rw [HE.out]; exact E1.pp, by rw [HE.out]; exact SsN.nil _ _⟩
 | true =>
  obtain ⟨R, hR⟩ : ∃ R, Ps.tmpL T fin (T.length + 2) [] (Ps.adv s) = R := ⟨_, rfl⟩
  have HE : Hid (Ps.temps T fin s = (R.1, Ps.adv R.2)) := Hd (by unfold Ps.temps; rw [hi, hR]; rfl)
  have hlt : s.at_ < T.length := Ps.mark_lt (fin := fin) hi
  have HR := Hd hR
  rw [hi] at HI
  clear hi hR
  go_enter Tryz.func18, Tryz.ntmps18
  go_upto_block 0 with (first
   | (go_at_call 33; refine HI.out.mono ?_; rintro e w1 ⟨rfl, hb⟩; have E1 := E0.below hb; clear hb)
   | (go_at_call 12; refine (ptake_any E1.pa (by omega)).mono ?_; rintro e w2 ⟨rfl, hp⟩; have E2 := E1.call hp; clear hp))
  clear E0 E1 HI
  go_wp2
  go_loopg [3] (T.length + 2) (fun f v wr => ∃ (l : List Lx.Txt) (s' : Ps.PS), Env w g A c T fin s' [] wr ∧ SsN wr w.heap.size v l ∧ (Ps.ok s' = true → T.length < s'.at_ + f) ∧ s'.at_ ≤ T.length ∧ l.length + f ≤ T.length + 2 ∧ Ps.tmpL T fin f l s' = R)
  case atStart => exact ⟨[], Ps.adv s, E2, SsN.nil _ _, fun _ => by show T.length < s.at_ + 1 + _; omega, hlt, by simp, HR.out⟩
  case round =>
   obtain ⟨l, s', E1, hO, hok, hat, hlen, hR⟩ := hrel
   have HO1 := Hd hO
   have HOK := Hd hok
   have HR := Hd hR
   have HIS := Hd (pis_any E1.pa [124])
   have hg := E1.pa.lt
   clear hO hok hR E2
   cases hk : Ps.ok s' with
   | false =>
    obtain ⟨kq, k4⟩ := E1.pa.noc hk
    have HE2 : Hid (R = (l, s')) := Hd (by rw [← HR.out]; exact tmpL_stop (by rw [hk]; rfl))
    have HKT := Hd (ptake_any E1.pa (by omega))
    clear hk
    go_wp2_with (go_at_call 12; refine HKT.out.mono ?_; rintro e w5 ⟨rfl, hp⟩; have E5 := E1.call hp; have HO5 := Hd (HO1.out.call hp.1 E1.gl); clear hp)
    go_ret
    exact ⟨_, rfl, by rw [HE.out, HE2.out]; exact E5.pp, by rw [HE.out, HE2.out]; exact HO5.out⟩
   | true =>
    have k4 := E1.pa.okc hk
    have hf := HOK.out hk
    cases hi : Ps.is_ T fin s' [124] with
    | true =>
     have HE2 : Hid (R = (l, s')) := Hd (by rw [← HR.out]; exact tmpL_stop (by rw [hk, hi]; rfl))
     rw [hi] at HIS
     clear hk hi hf
     go_wp2_with (first
      | (go_at_call 33; refine HIS.out.mono ?_; rintro e w4 ⟨rfl, hb⟩; have E4 := E1.below hb; have HO4 := Hd (HO1.out.below hb); clear hb)
      | (go_at_call 12; refine (ptake_any E4.pa (by omega)).mono ?_; rintro e w5 ⟨rfl, hp⟩; have E5 := E4.call hp; have HO5 := Hd (HO4.out.call hp.1 E1.gl); clear hp))
     go_ret
     exact ⟨_, rfl, by rw [HE.out, HE2.out]; exact E5.pp, by rw [HE.out, HE2.out]; exact HO5.out⟩
    | false =>
     obtain ⟨f, rfl⟩ : ∃ f, gk = f + 1 := ⟨gk - 1, by omega⟩
     have HD := decl_at' (fin := fin) (l := l) hat
     have HR2 : Hid (Ps.tmpL T fin f (Ps.decl T fin l s').1 (Ps.decl T fin l s').2 = R) := Hd (by rw [← HR.out]; show _ = Ps.tmpL T fin (f + 1) l s'; rw [Ps.tmpL, if_pos (by rw [hk, hi]; rfl)])
     have HL : Hid ((Ps.decl T fin l s').1.length = l.length + 1) := Hd (by simp [Ps.decl])
     rw [hi] at HIS
     have HDH := Hd HD
     clear hk hi HD
     go_wp2_with (first
      | (go_at_call 33; refine HIS.out.mono ?_; rintro e w4 ⟨rfl, hb⟩; have E4 := E1.below hb; have HO4 := Hd (HO1.out.below hb); clear hb)
      | (go_at_call 14; refine (pdecl_any E4.pa (by omega) HO4.out E1.gl E4.size (by omega)).mono ?_; rintro e w5 ⟨v5, rfl, hc5, hp5, ho5, hv5⟩; have E5 := E4.row hc5 hp5 (fun k hk => ⟨(World.ownsRow.lt HO4.out k hk).1, fun i x hx => by simp at hx⟩); have HO5 := Hd ho5; clear hc5 hp5 ho5 hv5))
     go_roundg f
     case measure => omega
     case rel => exact ⟨_, _, E5, HO5.out, fun hk => by have := HDH.out.2.2 hk; omega, HDH.out.1, by rw [HL.out]; omega, HR2.out⟩
def smF (limit n : Nat) (l : Lx.Txt) : Nat := l.foldl (fun n b => min (10 * n + (b - 48).toNat) (limit + 1)) n
theorem sm_int {b : UInt8} {n limit : Nat} : (if (limit : Int) + 1 < 10 * (n : Int) + ((b.toNat : Int) - 48) % 256 then (limit : Int) + 1 else 10 * (n : Int) + ((b.toNat : Int) - 48) % 256) = ((min (10 * n + (b - 48).toNat) (limit + 1) : Nat) : Int) := by
 have h : (((b - 48).toNat : Nat) : Int) = ((b.toNat : Int) - 48) % 256 := by
  rw [UInt8.toNat_sub]
  have : (48 : UInt8).toNat = 48 := rfl
  rw [this]
  omega
 rw [← h]
 split <;> omega
theorem smF_step {limit n k : Nat} {l : Lx.Txt} {b : UInt8} (h : l[k]? = some b) : smF limit n (l.drop k) = smF limit (min (10 * n + (b - 48).toNat) (limit + 1)) (l.drop (k + 1)) := by
 obtain ⟨hk, rfl⟩ := List.getElem?_eq_some_iff.1 h
 unfold smF
 rw [List.drop_eq_getElem_cons hk, List.foldl_cons]
set_option maxRecDepth 20000 in
theorem psmall_any {w : World} {g c fin : Nat} {A : Option Addr} {T : List Lx.Tk} {s : Ps.PS} (h : PA w g A c T fin s) (t : Lx.Tk) (limit : Nat) (hl : limit ≤ 1000) (ht : t.2.1.length ≤ 65536) :
  Calls Tryz.prog 17 #[.pointer (some ⟨g, 0, none⟩), .agg #[.int .i64 ((t).1 : Int), .string ⟨(t).2.1.toArray⟩, .int .i64 ((t).2.2 : Int)], .int .i64 (limit : Int)] w fun e' w' => e' = .returned (.int .i64 (Ps.small t.2.1 limit : Nat)) ∧ PP w g A c T fin (Ps.smallS t limit s) w' := by
 have E0 := (Env.start h).box 40 [.int .i64 (t.1 : Int), .string ⟨t.2.1.toArray⟩, .int .i64 (t.2.2 : Int)] (by decide)
 have HR : Hid (smF limit 0 t.2.1 = Ps.small t.2.1 limit) := Hd rfl
 have HS : Hid (Ps.smallS t limit s = if limit < Ps.small t.2.1 limit then Ps.rf s t.2.2 123 else s) := Hd rfl
 have hcv := fun (w : World) => Lib.run_convert_string_bytes (P := Tryz.prog) w 9 70 5 ⟨t.2.1.toArray⟩ Tryz.underlying9 Tryz.underlying70 Tryz.underlying5
 generalize Ps.small t.2.1 limit = R at *
 clear h
 go_enter Tryz.func17, Tryz.ntmps17
 go_wp2
 clear hcv
 have hsz : (w.alloc (.cells #[.int .i64 (t.1 : Int), .string ⟨t.2.1.toArray⟩, .int .i64 (t.2.2 : Int)] 40)).heap.size = w.heap.size + 1 := by simp
 have hdr := DR.new (w.alloc (.cells #[.int .i64 (t.1 : Int), .string ⟨t.2.1.toArray⟩, .int .i64 (t.2.2 : Int)] 40)) ⟨t.2.1.toArray⟩
 rw [hsz] at hdr
 have E1 := E0.below (Joins.below_bytesWorld _ _ 5 ⟨t.2.1.toArray⟩ (Nat.le_refl _))
 go_loopw [7, 9, 14] (fun v _ i wr => ∃ k n : Nat, k ≤ t.2.1.length ∧ i = .int .i64 k ∧ v = .int .i64 n ∧ n ≤ limit + 1 ∧ smF limit n (t.2.1.drop k) = R ∧ Env w g A c T fin s [⟨w.heap.size, 40, [.int .i64 (t.1 : Int), .string ⟨t.2.1.toArray⟩, .int .i64 (t.2.2 : Int)]⟩] wr ∧ DR wr (w.heap.size + 1) t.2.1) (fun _ _ i _ => t.2.1.length - (intOf i).toNat)
 case atStart => exact ⟨0, 0, Nat.zero_le _, rfl, rfl, Nat.zero_le _, HR.out, E1, hdr⟩
 case round =>
  obtain ⟨k, n, hk, rfl, rfl, hn, hf, E2, hd⟩ := hrel
  have HF := Hd hf
  have HD := Hd hd
  clear hf hd E0 E1 hdr
  by_cases hlt : k < t.2.1.length
  ·have hy := List.getElem?_eq_getElem hlt
   generalize t.2.1[k] = b at hy
   have hc := HD.out.cell hy
   have hdl := HD.out.lt
   have HB := Hd (smF_step (limit := limit) (n := n) hy)
   have l1 : (0 : Int) ≤ (k : Int) := by omega
   have l2 : (k : Int) < (t.2.1.length : Int) := by omega
   have hb256 := b.toNat_lt
   clear hy
   go_wp2
   go_roundw
   case rel => exact ⟨k + 1, min (10 * n + (b - 48).toNat) (limit + 1), hlt, by go_num, by rw [sm_int], Nat.min_le_right _ _, by rw [← HB.out]; exact HF.out, E2, HD.out⟩
   case measure => simp [intOf]; omega
  ·have HE : Hid (n = R) := Hd (by have := HF.out; rw [List.drop_eq_nil_of_le (by omega)] at this; exact this)
   have HE2 := HE
   obtain ⟨a, a0, a1, a2⟩ := E2.c3 0 rfl
   by_cases hq : limit < n
   ·have HS2 : Hid (Ps.smallS t limit s = Ps.rf s t.2.2 123) := Hd (by rw [HS.out, ← HE.out, if_pos hq])
    go_wp2_with (go_at_call 32; refine (prefuse_any E2.pa t.2.2 123).mono ?_; rintro e w4 ⟨rfl, hp⟩; have E4 := E2.call hp; clear hp)
    go_ret
    exact ⟨by rw [HE.out]; rfl, by rw [HS2.out]; exact E4.pp⟩
   ·have HS2 : Hid (Ps.smallS t limit s = s) := Hd (by rw [HS.out, ← HE.out, if_neg hq])
    go_wp2
    go_ret
    exact ⟨by rw [HE.out]; rfl, by rw [HS2.out]; exact E2.pp⟩
set_option maxRecDepth 20000 in
theorem palike_any {w : World} {cs1 cs2 : List Value} {a n : Ps.Tr} {S1 S2 : Nat → Prop} (h1 : TrIn w S1 cs1 a) (h2 : TrIn w S2 cs2 n) (w0 : World) :
  Calls Tryz.prog 83 #[.agg cs1.toArray, .agg cs2.toArray] w0 fun e w' => e = .returned (.bool (a.place == n.place && a.kind == n.kind)) ∧ Below w0.heap.size w0 w' := by
 obtain ⟨p0, p1, A1, n1, c1, A2, n2, c2, A3, n3, c3, p5, p6, rfl, rfl, -, rfl, -⟩ := h1.seven
 obtain ⟨q0, q1, B1, m1, d1, B2, m2, d2, B3, m3, d3, q5, q6, rfl, rfl, -, rfl, -⟩ := h2.seven
 clear h1 h2
 generalize a.place = ap
 generalize a.kind = ak
 generalize n.place = np
 generalize n.kind = nk
 have e1 := kd_eqb ap np
 have HB : Hid (Below w0.heap.size w0 ((w0.alloc (.cells #[.int .i64 (ak : Int), .string ⟨p1.toArray⟩, .slice A1 n1 c1, .slice A2 n2 c2, .slice A3 n3 c3, .int .i64 (p5 : Int), .int .i64 (ap : Int)] 26)).alloc (.cells #[.int .i64 (nk : Int), .string ⟨q1.toArray⟩, .slice B1 m1 d1, .slice B2 m2 d2, .slice B3 m3 d3, .int .i64 (q5 : Int), .int .i64 (np : Int)] 26))) := Hd ((new_below _ _).trans ((new_below _ _).mono (by simp)))
 cases h : (ap == np) with
 | true =>
  rw [h] at e1
  clear h
  go_enter Tryz.func83, Tryz.ntmps83
  go_wp2
  go_ret
  exact ⟨ret_bool (by rw [← kd_eqb]; rfl), HB.out⟩
 | false =>
  rw [h] at e1
  clear h
  go_enter Tryz.func83, Tryz.ntmps83
  go_wp2
  go_ret
  exact ⟨ret_bool rfl, HB.out⟩
set_option maxRecDepth 20000 in
theorem psent_any {w : World} {cs1 cs2 : List Value} {a n : Ps.Tr} {S1 S2 : Nat → Prop} (h1 : TrIn w S1 cs1 a) (h2 : TrIn w S2 cs2 n) (w0 : World) :
  Calls Tryz.prog 52 #[.agg cs1.toArray, .agg cs2.toArray] w0 fun e w' => e = .returned (.bool (Ps.sent a n)) ∧ Below w0.heap.size w0 w' := by
 have HA := Hd fun w0 => palike_any h1 h2 w0
 have HE : Hid (Ps.sent a n = (n.kind == 5 && !(a.place == n.place && a.kind == n.kind))) := Hd rfl
 obtain ⟨p0, p1, A1, n1, c1, A2, n2, c2, A3, n3, c3, p5, p6, rfl, -⟩ := h1.seven
 obtain ⟨q0, q1, B1, m1, d1, B2, m2, d2, B3, m3, d3, q5, q6, rfl, rfl, -⟩ := h2.seven
 clear h1 h2
 obtain ⟨r, hr⟩ : ∃ r, (a.place == n.place && a.kind == n.kind) = r := ⟨_, rfl⟩
 rw [hr] at HA HE
 clear hr
 generalize n.kind = nk at *
 have e1 := kd_eqb nk 5
 cases h : (nk == 5) with
 | true =>
  rw [h] at e1 HE
  clear h
  have d1 : ((nk : Int) == 5) = true := e1
  clear e1
  go_enter Tryz.func52, Tryz.ntmps52
  go_wp2_with (go_at_call 83; refine (HA.out _).mono ?_; rintro e w4 ⟨rfl, hb⟩; have HB := Hd hb; clear hb)
  go_ret
  exact ⟨ret_bool (by rw [HE.out]; rfl), ((new_below _ _).trans ((new_below _ _).mono (by simp))).trans (HB.out.mono (by simp; omega))⟩
 | false =>
  rw [h] at e1 HE
  clear h
  have d1 : ((nk : Int) == 5) = false := e1
  clear e1
  go_enter Tryz.func52, Tryz.ntmps52
  go_wp2
  go_ret
  exact ⟨ret_bool (by rw [HE.out]; rfl), (new_below _ _).trans ((new_below _ _).mono (by simp))⟩
end Go.Proofs.YtbnlnndeajjenaaGreat
