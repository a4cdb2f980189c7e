/-
  The law ClientNil f9. No statement of the seat is proved here.
-/
import Derived.Test.YtjhkfpemcplaaaaClQ
namespace Go.Proofs.Ytjhkfpemcplaaaa
open Go.RowKit

theorem rputc_good {kind : Int} {hd : Nat} {A : Option Addr} {n c : Nat} {ns : List Int} {s : ByteArray} {w : World} {good : Bool} (hh : hd < 18446744073709551616) (hr : RdI w w.heap.size A n ns) (hu : ∀ z ∈ ns, I64 z) (hg : good = true ↔ goodC kind hd ns s.data.toList) :
    Calls Try.prog 14 #[.agg #[.int .i64 kind, .int .u64 hd, .slice A n c, .string s]] w fun e w' => ∃ A n c, e = .returned (.tuple #[.slice A n c, .bool good]) ∧ Below w.heap.size w w' := by
  refine (rputc_any kind hd A n c ns s w hh hr hu).mono ?_
  rintro e w' ⟨hb, h | ⟨h1, A2, n2, c2, he⟩⟩
  · obtain ⟨h1, v, he, ho⟩ := h
    obtain ⟨A2, c2, rfl, _, _⟩ := own_formL ho
    rw [← hg] at h1
    subst h1
    exact ⟨A2, _, c2, he, hb⟩
  · have : good = false := by cases good with
      | true => exact absurd (hg.1 rfl) h1
      | false => rfl
    subst this
    exact ⟨A2, n2, c2, he, hb⟩
def NilP (w : World) (e : Ending) (w' : World) : Prop := e = .returned (.bool true) ∧ Below w.heap.size w w'
set_option maxRecDepth 20000 in
set_option maxHeartbeats 4000000 in
theorem lawnil_any (K xk : Int) (xh : Nat) (xA : Option Addr) (xn xc : Nat) (xs : ByteArray) (k : Int) (t s a : Nat) (A : Option Addr) (n c : Nat) (B : Option Addr) (nb cb : Nat) (Z : Int) (ns : List Int) (body bb : List UInt8) (w : World)
    (hrx : RdI w w.heap.size xA xn ns) (hu : ∀ z ∈ ns, I64 z) (hxh : xh < 18446744073709551616)
    (hr : RdB w w.heap.size A n body) (hrb : RdB w w.heap.size B nb bb) (ht : t < 18446744073709551616) (hs : s < 18446744073709551616) (ha : a < 18446744073709551616) (hnb : nb ≤ 140737488351232) :
    Calls Try.prog 9 #[.agg (ddV K xk xh xA xn xc xs k t s a A n c B nb cb Z)] w (NilP w) := by
  have HCK := Lib.hid fun (w' : World) (hb : Below w.heap.size w w') => chunk_any K xk xh xA xn xc xs k t s a A n c B nb cb Z body bb w' ((hr.below hb).more hb.size) ((hrb.below hb).more hb.size) ht hs ha hnb
  obtain ⟨good, hgd⟩ : ∃ g : Bool, g = true ↔ goodC xk xh ns xs.data.toList := by
    by_cases h : goodC xk xh ns xs.data.toList
    · exact ⟨true, fun _ => h, fun _ => rfl⟩
    · exact ⟨false, (fun e => by cases e), fun e => absurd e h⟩
  have HPC := Lib.hid fun (w' : World) (hb : Below w.heap.size w w') => rputc_good (c := xc) (w := w') hxh ((hrx.below hb).more hb.size) hu hgd
  have HIS := Lib.hid fun (v : Value) (w' : World) (hb : Below w.heap.size w w') (hd : Dull w' v) => issue_dull xk xh xA xn xc ns xs good hd hxh ((hrx.below hb).more hb.size) hu hgd
  have hg2 : good = true ∨ good = false := by cases good <;> simp
  clear hgd hrx hu hxh hr hrb ht hs ha hnb
  unfold ddV at *
  go_enter Try.func9, Try.ntmps9
  go_upto_region 3 with fail
  obtain ⟨w1, hw1⟩ : ∃ w1, ((w.alloc (.cells #[.int .i64 K, .int .i64 xk, .int .u64 (xh : Int), .slice xA xn xc, .string xs, .int .i64 k, .int .u64 (t : Int), .int .u64 (s : Int), .int .u64 (a : Int), .slice A n c, .slice B nb cb, .int .i64 Z] 41)).alloc (.cells #[.int .u64 0, .int .i64 0, .int .i64 0, .pointer none, .slice none 0 0, .slice none 0 0, .slice none 0 0, .int .u64 0, .bool false, .bool false, .int .u64 0, .int .u64 0, .int .u64 0, .int .i64 0, .bool false, .int .i64 0] 98)).alloc (.cells #[.pointer none, .pointer (some ⟨w.heap.size + 1, 0, none⟩)] 24) = w1 := ⟨_, rfl⟩
  have hb1 : Below w.heap.size w w1 := hw1 ▸ (((Below.refl _ _).alloc (Nat.le_refl _) _).alloc (by simp) _).alloc (by simp; omega) _
  have hX : Blk w1 w.heap.size 41 #[.int .i64 K, .int .i64 xk, .int .u64 (xh : Int), .slice xA xn xc, .string xs, .int .i64 k, .int .u64 (t : Int), .int .u64 (s : Int), .int .u64 (a : Int), .slice A n c, .slice B nb cb, .int .i64 Z] := hw1 ▸ ((Blk.new w 41 _).alloc _).alloc _
  have hZ : Blk w1 (w.heap.size + 1) 98 #[.int .u64 0, .int .i64 0, .int .i64 0, .pointer none, .slice none 0 0, .slice none 0 0, .slice none 0 0, .int .u64 0, .bool false, .bool false, .int .u64 0, .int .u64 0, .int .u64 0, .int .i64 0, .bool false, .int .i64 0] := hw1 ▸ (Blk.new' _ 98 _ _ (by simp)).alloc _
  have hS : Blk w1 (w.heap.size + 1 + 1) 24 #[.pointer none, .pointer (some ⟨w.heap.size + 1, 0, none⟩)] := hw1 ▸ Blk.new' _ 24 _ _ (by simp)
  rw [hw1]
  clear hw1
  have HB1 := Lib.hid hb1
  have HX := Lib.hid hX
  have HS := Lib.hid hS
  have HD : Hid (∀ i : Nat, i < 2 → ∃ x : Option Addr, w1.cell? ⟨w.heap.size + 1 + 1, i, none⟩ = some (.pointer x) ∧ Dull w1 (.pointer x)) := Lib.hid fun i hi => by
    match i, hi with
    | 0, _ => exact ⟨_, hS.cell 0, dull_nil _⟩
    | 1, _ => exact ⟨_, hS.cell 1, dull_zero (hZ.cell 0) hZ.lt⟩
  clear hb1 hX hZ hS
  generalize w.heap.size + 1 + 1 = b3 at *
  rcases hg2 with rfl | rfl
  all_goals simp only [reduceIte, Bool.false_eq_true] at HIS
  all_goals go_wp2
  · go_loopw [5] (fun V wr => ∃ i : Nat, i ≤ 2 ∧ V = .int .i64 (i : Int) ∧ Below w1.heap.size w1 wr) (fun V _ => 2 - (intOf V).toNat)
    case atStart => exact ⟨0, by omega, rfl, Below.refl _ _⟩
    case round =>
      obtain ⟨i, hi9, rfl, hbr⟩ := hrel
      by_cases hlt : i < 2
      · obtain ⟨x, hx, hdl⟩ := HD.out i hlt
        have l1 : (0 : Int) ≤ (i : Int) := by omega
        have l2 : (i : Int) < 2 := by omega
        have ci : wr.cell? ⟨b3, i, none⟩ = some (.pointer x) := (hbr.cell (p := ⟨b3, i, none⟩) HS.out.lt).trans hx
        have HBW := Lib.hid fun (w' : World) (h : Below w1.heap.size w1 w') => HB1.out.trans (h.mono HB1.out.size)
        have HDL := Lib.hid fun (w' : World) (h : Below w1.heap.size w1 w') => hdl.below h
        have HC := Lib.hid fun (w' : World) (h : Below w1.heap.size w1 w') (j : Nat) => (h.cell (p := ⟨w.heap.size, j, none⟩) HX.out.lt).trans (HX.out.cell j)
        have HBR := Lib.hid hbr
        have y1 : wr.cell? ⟨w.heap.size, 1, none⟩ = some (.int .i64 xk) := HC.out _ hbr 1
        have y2 : wr.cell? ⟨w.heap.size, 2, none⟩ = some (.int .u64 (xh : Int)) := HC.out _ hbr 2
        have y3 : wr.cell? ⟨w.heap.size, 3, none⟩ = some (.slice xA xn xc) := HC.out _ hbr 3
        have y4 : wr.cell? ⟨w.heap.size, 4, none⟩ = some (.string xs) := HC.out _ hbr 4
        clear hbr hx hdl hi9
        go_upto_region 11 with (go_at_call 14; refine (HPC.out _ (HBW.out _ HBR.out)).mono ?_; rintro e w2 ⟨A2, n2, c2, rfl, hb2⟩; have HB2 := Lib.hid (HBR.out.trans (hb2.mono HBR.out.size)); have z1 : w2.cell? ⟨w.heap.size, 1, none⟩ = some (.int .i64 xk) := HC.out _ HB2.out 1; have z2 : w2.cell? ⟨w.heap.size, 2, none⟩ = some (.int .u64 (xh : Int)) := HC.out _ HB2.out 2; have z3 : w2.cell? ⟨w.heap.size, 3, none⟩ = some (.slice xA xn xc) := HC.out _ HB2.out 3; have z4 : w2.cell? ⟨w.heap.size, 4, none⟩ = some (.string xs) := HC.out _ HB2.out 4; clear hb2 y1 y2 y3 y4 ci)
        have hne : ∀ w : World, (binOp BinOp.neq 45 (.agg #[.int .u64 0, .bool false, .bool false, .int .u64 0, .int .u64 0, .int .u64 0, .int .i64 0, .bool false, .int .i64 0]) (.agg #[.int .u64 0, .bool false, .bool false, .int .u64 0, .int .u64 0, .int .u64 0, .int .i64 0, .bool false, .int .i64 0])).run Try.prog w = .ok (.bool false) w := fun w => by kernel_rfl
        go_upto_region 16 with (first
          | (go_at_call 21; refine (HIS.out _ _ (HBW.out _ HB2.out) (HDL.out _ HB2.out)).mono ?_; rintro e w3 ⟨rfl, hb3⟩; have HB3 := Lib.hid (HB2.out.trans (hb3.mono HB2.out.size)); clear hb3 z1 z2 z3 z4)
          | (go_at_call 20; refine (connect_dull (HDL.out _ HB3.out)).mono ?_; rintro e w4 ⟨rfl, rfl⟩)
          | (go_at_call 37; refine (bye_dull (HDL.out _ HB3.out)).mono ?_; rintro e w4 ⟨rfl, rfl⟩)
          | (go_at_call 38; refine (cut_dull (HDL.out _ HB3.out)).mono ?_; rintro e w4 ⟨rfl, rfl⟩)
          | (go_at_call 13; refine (num_any _ _).mono ?_; rintro e w4 ⟨rfl, rfl⟩))
        have z0 : w3.cell? ⟨w.heap.size, 0, none⟩ = some (.int .i64 K) := HC.out _ HB3.out 0
        have z1 : w3.cell? ⟨w.heap.size, 1, none⟩ = some (.int .i64 xk) := HC.out _ HB3.out 1
        have z2 : w3.cell? ⟨w.heap.size, 2, none⟩ = some (.int .u64 (xh : Int)) := HC.out _ HB3.out 2
        have z3 : w3.cell? ⟨w.heap.size, 3, none⟩ = some (.slice xA xn xc) := HC.out _ HB3.out 3
        have z4 : w3.cell? ⟨w.heap.size, 4, none⟩ = some (.string xs) := HC.out _ HB3.out 4
        have z5 : w3.cell? ⟨w.heap.size, 5, none⟩ = some (.int .i64 k) := HC.out _ HB3.out 5
        have z6 : w3.cell? ⟨w.heap.size, 6, none⟩ = some (.int .u64 (t : Int)) := HC.out _ HB3.out 6
        have z7 : w3.cell? ⟨w.heap.size, 7, none⟩ = some (.int .u64 (s : Int)) := HC.out _ HB3.out 7
        have z8 : w3.cell? ⟨w.heap.size, 8, none⟩ = some (.int .u64 (a : Int)) := HC.out _ HB3.out 8
        have z9 : w3.cell? ⟨w.heap.size, 9, none⟩ = some (.slice A n c) := HC.out _ HB3.out 9
        have z10 : w3.cell? ⟨w.heap.size, 10, none⟩ = some (.slice B nb cb) := HC.out _ HB3.out 10
        have z11 : w3.cell? ⟨w.heap.size, 11, none⟩ = some (.int .i64 Z) := HC.out _ HB3.out 11
        go_wp2_with (first
          | (go_at_call 39; refine (HCK.out _ (HBW.out _ HB3.out)).mono ?_; rintro e w4 ⟨A4, n4, c4, rfl, hn4, hr4, hb4⟩; have HB4 := Lib.hid (HB3.out.trans (hb4.mono HB3.out.size)); have u11 : w4.cell? ⟨w.heap.size, 11, none⟩ = some (.int .i64 Z) := HC.out _ HB4.out 11; clear hn4 hr4 hb4 z0 z1 z2 z3 z4 z5 z6 z7 z8 z9 z10 z11)
          | (go_at_call 22; refine (receive_dull _ _ _ (HDL.out _ HB4.out)).mono ?_; rintro e w5 ⟨rfl, rfl⟩)
          | (go_at_call 24; refine (tick_dull _ (HDL.out _ HB4.out)).mono ?_; rintro e w5 ⟨rfl, rfl⟩)
          | (go_at_call 15; refine (state_dull (HDL.out _ HB4.out)).mono ?_; unfold zst; rintro e w5 ⟨rfl, hb5⟩; have HB5 := Lib.hid (HB4.out.trans (hb5.mono HB4.out.size)); clear hb5)
          | (go_at_call 25; refine (replies_dull (HDL.out _ HB5.out)).mono ?_; rintro e w6 ⟨rfl, rfl⟩)
          | (go_at_call 26; refine (events_dull (HDL.out _ HB5.out)).mono ?_; rintro e w6 ⟨rfl, rfl⟩))
        go_roundw
        case rel => exact ⟨i + 1, by omega, by go_num, HB5.out⟩
        case measure => simp [intOf]; omega
      · obtain rfl : i = 2 := by omega
        go_wp2_with (go_at_call 12; refine (awake_any _).mono ?_; rintro e w2 ⟨rfl, hb2⟩; have HB2 := Lib.hid hb2; clear hb2)
        go_ret
        exact ⟨rfl, HB1.out.trans ((hbr.trans (HB2.out.mono hbr.size)).mono HB1.out.size)⟩
  · go_loopw [5] (fun V wr => ∃ i : Nat, i ≤ 2 ∧ V = .int .i64 (i : Int) ∧ Below w1.heap.size w1 wr) (fun V _ => 2 - (intOf V).toNat)
    case atStart => exact ⟨0, by omega, rfl, Below.refl _ _⟩
    case round =>
      obtain ⟨i, hi9, rfl, hbr⟩ := hrel
      by_cases hlt : i < 2
      · obtain ⟨x, hx, hdl⟩ := HD.out i hlt
        have l1 : (0 : Int) ≤ (i : Int) := by omega
        have l2 : (i : Int) < 2 := by omega
        have ci : wr.cell? ⟨b3, i, none⟩ = some (.pointer x) := (hbr.cell (p := ⟨b3, i, none⟩) HS.out.lt).trans hx
        have HBW := Lib.hid fun (w' : World) (h : Below w1.heap.size w1 w') => HB1.out.trans (h.mono HB1.out.size)
        have HDL := Lib.hid fun (w' : World) (h : Below w1.heap.size w1 w') => hdl.below h
        have HC := Lib.hid fun (w' : World) (h : Below w1.heap.size w1 w') (j : Nat) => (h.cell (p := ⟨w.heap.size, j, none⟩) HX.out.lt).trans (HX.out.cell j)
        have HBR := Lib.hid hbr
        have y1 : wr.cell? ⟨w.heap.size, 1, none⟩ = some (.int .i64 xk) := HC.out _ hbr 1
        have y2 : wr.cell? ⟨w.heap.size, 2, none⟩ = some (.int .u64 (xh : Int)) := HC.out _ hbr 2
        have y3 : wr.cell? ⟨w.heap.size, 3, none⟩ = some (.slice xA xn xc) := HC.out _ hbr 3
        have y4 : wr.cell? ⟨w.heap.size, 4, none⟩ = some (.string xs) := HC.out _ hbr 4
        clear hbr hx hdl hi9
        go_upto_region 11 with (go_at_call 14; refine (HPC.out _ (HBW.out _ HBR.out)).mono ?_; rintro e w2 ⟨A2, n2, c2, rfl, hb2⟩; have HB2 := Lib.hid (HBR.out.trans (hb2.mono HBR.out.size)); have z1 : w2.cell? ⟨w.heap.size, 1, none⟩ = some (.int .i64 xk) := HC.out _ HB2.out 1; have z2 : w2.cell? ⟨w.heap.size, 2, none⟩ = some (.int .u64 (xh : Int)) := HC.out _ HB2.out 2; have z3 : w2.cell? ⟨w.heap.size, 3, none⟩ = some (.slice xA xn xc) := HC.out _ HB2.out 3; have z4 : w2.cell? ⟨w.heap.size, 4, none⟩ = some (.string xs) := HC.out _ HB2.out 4; clear hb2 y1 y2 y3 y4 ci)
        have hne : ∀ w : World, (binOp BinOp.neq 45 (.agg #[.int .u64 0, .bool false, .bool false, .int .u64 0, .int .u64 0, .int .u64 0, .int .i64 0, .bool false, .int .i64 0]) (.agg #[.int .u64 0, .bool false, .bool false, .int .u64 0, .int .u64 0, .int .u64 0, .int .i64 0, .bool false, .int .i64 0])).run Try.prog w = .ok (.bool false) w := fun w => by kernel_rfl
        go_upto_region 16 with (first
          | (go_at_call 21; refine (HIS.out _ _ (HBW.out _ HB2.out) (HDL.out _ HB2.out)).mono ?_; rintro e w3 ⟨rfl, hb3⟩; have HB3 := Lib.hid (HB2.out.trans (hb3.mono HB2.out.size)); clear hb3 z1 z2 z3 z4)
          | (go_at_call 20; refine (connect_dull (HDL.out _ HB3.out)).mono ?_; rintro e w4 ⟨rfl, rfl⟩)
          | (go_at_call 37; refine (bye_dull (HDL.out _ HB3.out)).mono ?_; rintro e w4 ⟨rfl, rfl⟩)
          | (go_at_call 38; refine (cut_dull (HDL.out _ HB3.out)).mono ?_; rintro e w4 ⟨rfl, rfl⟩)
          | (go_at_call 13; refine (num_any _ _).mono ?_; rintro e w4 ⟨rfl, rfl⟩))
        have z0 : w3.cell? ⟨w.heap.size, 0, none⟩ = some (.int .i64 K) := HC.out _ HB3.out 0
        have z1 : w3.cell? ⟨w.heap.size, 1, none⟩ = some (.int .i64 xk) := HC.out _ HB3.out 1
        have z2 : w3.cell? ⟨w.heap.size, 2, none⟩ = some (.int .u64 (xh : Int)) := HC.out _ HB3.out 2
        have z3 : w3.cell? ⟨w.heap.size, 3, none⟩ = some (.slice xA xn xc) := HC.out _ HB3.out 3
        have z4 : w3.cell? ⟨w.heap.size, 4, none⟩ = some (.string xs) := HC.out _ HB3.out 4
        have z5 : w3.cell? ⟨w.heap.size, 5, none⟩ = some (.int .i64 k) := HC.out _ HB3.out 5
        have z6 : w3.cell? ⟨w.heap.size, 6, none⟩ = some (.int .u64 (t : Int)) := HC.out _ HB3.out 6
        have z7 : w3.cell? ⟨w.heap.size, 7, none⟩ = some (.int .u64 (s : Int)) := HC.out _ HB3.out 7
        have z8 : w3.cell? ⟨w.heap.size, 8, none⟩ = some (.int .u64 (a : Int)) := HC.out _ HB3.out 8
        have z9 : w3.cell? ⟨w.heap.size, 9, none⟩ = some (.slice A n c) := HC.out _ HB3.out 9
        have z10 : w3.cell? ⟨w.heap.size, 10, none⟩ = some (.slice B nb cb) := HC.out _ HB3.out 10
        have z11 : w3.cell? ⟨w.heap.size, 11, none⟩ = some (.int .i64 Z) := HC.out _ HB3.out 11
        go_wp2_with (first
          | (go_at_call 39; refine (HCK.out _ (HBW.out _ HB3.out)).mono ?_; rintro e w4 ⟨A4, n4, c4, rfl, hn4, hr4, hb4⟩; have HB4 := Lib.hid (HB3.out.trans (hb4.mono HB3.out.size)); have u11 : w4.cell? ⟨w.heap.size, 11, none⟩ = some (.int .i64 Z) := HC.out _ HB4.out 11; clear hn4 hr4 hb4 z0 z1 z2 z3 z4 z5 z6 z7 z8 z9 z10 z11)
          | (go_at_call 22; refine (receive_dull _ _ _ (HDL.out _ HB4.out)).mono ?_; rintro e w5 ⟨rfl, rfl⟩)
          | (go_at_call 24; refine (tick_dull _ (HDL.out _ HB4.out)).mono ?_; rintro e w5 ⟨rfl, rfl⟩)
          | (go_at_call 15; refine (state_dull (HDL.out _ HB4.out)).mono ?_; unfold zst; rintro e w5 ⟨rfl, hb5⟩; have HB5 := Lib.hid (HB4.out.trans (hb5.mono HB4.out.size)); clear hb5)
          | (go_at_call 25; refine (replies_dull (HDL.out _ HB5.out)).mono ?_; rintro e w6 ⟨rfl, rfl⟩)
          | (go_at_call 26; refine (events_dull (HDL.out _ HB5.out)).mono ?_; rintro e w6 ⟨rfl, rfl⟩))
        go_roundw
        case rel => exact ⟨i + 1, by omega, by go_num, HB5.out⟩
        case measure => simp [intOf]; omega
      · obtain rfl : i = 2 := by omega
        go_wp2_with (go_at_call 12; refine (awake_any _).mono ?_; rintro e w2 ⟨rfl, hb2⟩; have HB2 := Lib.hid hb2; clear hb2)
        go_ret
        exact ⟨rfl, HB1.out.trans ((hbr.trans (HB2.out.mono hbr.size)).mono HB1.out.size)⟩
end Go.Proofs.Ytjhkfpemcplaaaa
