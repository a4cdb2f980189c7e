/-
  Parts Vc, Vd, Ve, Vf, Vg, Wu, Pq of the proof. No statement of the seat is proved here.
-/
import Derived.Test.YtjhonaglmgmpiaaGreatDoorP13
import Derived.Test.YtjhonaglmgmpiaaGreatDoorP12
import Derived.Test.YtjhonaglmgmpiaaGreatDoorP09
import Derived.Test.YtjhonaglmgmpiaaGreatDoorP04
set_option maxHeartbeats 4000000
namespace Go.Proofs.YtjhonaglmgmpiaaGreatDoor
open Go.RowKit
namespace Ps
mutual
def nnB : Tr → Bool
 | .mk k n _ _ l _ _ => (k != 9 || n.head? != some 45) && nnL l
def nnL : List Tr → Bool
 | [] => true
 | t :: r => nnB t && nnL r
end
theorem nnL_at : ∀ {l : List Tr} {i : Nat} {t : Tr}, nnL l = true → l[i]? = some t → nnB t = true
 | [], i, t, _, h => by simp at h
 | a :: r, 0, t, hs, h => by
  rw [nnL, Bool.and_eq_true] at hs
  obtain rfl : a = t := by simpa using h
  exact hs.1
 | a :: r, i + 1, t, hs, h => by
  rw [nnL, Bool.and_eq_true] at hs
  exact nnL_at hs.2 (by simpa using h)
end Ps
set_option maxRecDepth 20000 in
theorem wbare_any (k : Int) (name : Lx.Txt) (A1 : Option Addr) (c1 : Nat) (A2 : Option Addr) (c2 : Nat) (A3 : Option Addr) (nl c3 : Nat) (z : Int) (W : World) : Calls Tryz.prog 146 #[.agg #[.int .i64 k, .string ⟨name.toArray⟩, .slice A1 0 c1, .slice A2 0 c2, .slice A3 nl c3, .int .i64 0, .int .i64 z]] W (YesB W) := by
 go_enter Tryz.func146, Tryz.ntmps146
 go_wp2
 go_ret
 exact ⟨rfl, new_below _ _⟩
set_option maxRecDepth 20000 in
theorem vex8_any {name : Lx.Txt} {A1 : Option Addr} {c1 : Nat} {A2 : Option Addr} {c2 : Nat} {A3 : Option Addr} {nl c3 : Nat} {z : Int} (hw : Lx.wordB name = true) (hx : name.length < 4294967281) (hnl : nl = 0) (W : World) : Calls Tryz.prog 145 #[.agg #[.int .i64 8, .string ⟨name.toArray⟩, .slice A1 0 c1, .slice A2 0 c2, .slice A3 nl c3, .int .i64 0, .int .i64 z]] W (YesB W) := by
 subst hnl
 have HN := Hd fun W => isname_any ⟨name.toArray⟩ W (by rw [txt_size]; omega)
 rw [txt_list, hw] at HN
 clear hw hx
 have HBR := Hd fun W => wbare_any 8 name A1 c1 A2 c2 A3 0 c3 z W
 have HBG := Hd (new_below W (.cells #[.int .i64 8, .string ⟨name.toArray⟩, .slice A1 0 c1, .slice A2 0 c2, .slice A3 0 c3, .int .i64 0, .int .i64 z] 27))
 have HK1 := Hd (Blk.new W 27 #[.int .i64 8, .string ⟨name.toArray⟩, .slice A1 0 c1, .slice A2 0 c2, .slice A3 0 c3, .int .i64 0, .int .i64 z])
 have HWS : Hid (W.heap.size < (W.alloc (.cells #[.int .i64 8, .string ⟨name.toArray⟩, .slice A1 0 c1, .slice A2 0 c2, .slice A3 0 c3, .int .i64 0, .int .i64 z] 27)).heap.size) := Hd (by simp)
 generalize hw1 : (W.alloc (.cells #[.int .i64 8, .string ⟨name.toArray⟩, .slice A1 0 c1, .slice A2 0 c2, .slice A3 0 c3, .int .i64 0, .int .i64 z] 27)) = w1 at *
 have HKB : Hid (∀ w2, Below w1.heap.size w1 w2 → Blk w2 W.heap.size 27 #[.int .i64 8, .string ⟨name.toArray⟩, .slice A1 0 c1, .slice A2 0 c2, .slice A3 0 c3, .int .i64 0, .int .i64 z] ∧ Below W.heap.size W w2) := Hd fun w2 hb => ⟨HK1.out.below hb HWS.out, HBG.out.trans (hb.mono HBG.out.size)⟩
 obtain ⟨a, b0, b1, b2, b3, b4, b5, b6⟩ := HK1.out.c7
 go_enter Tryz.func145, Tryz.ntmps145
 go_wp2_with (first
  | (go_at_call 146; refine (HBR.out _).mono ?_; rintro e w2 ⟨rfl, hb⟩; have HB2 := Hd hb; obtain ⟨a', b0', b1', b2', b3', b4', b5', b6'⟩ := (HKB.out _ hb).1.c7; clear hb)
  | (go_at_call 113; refine (HN.out _).mono ?_; rintro e w3 ⟨rfl, hb⟩; have HB3 := Hd (HB2.out.trans (hb.mono HB2.out.size)); obtain ⟨a3, e0, e1, e2, e3, e4, e5, e6⟩ := (HKB.out _ HB3.out).1.c7; clear hb))
 go_ret
 exact ⟨rfl, (HKB.out _ HB3.out).2⟩
set_option maxRecDepth 20000 in
theorem vex9_any {name : Lx.Txt} {A1 : Option Addr} {c1 : Nat} {A2 : Option Addr} {c2 : Nat} {A3 : Option Addr} {nl c3 : Nat} {z : Int} (hw : Ps.intF name = true) (hn : name.head? ≠ some 45) (hnl : nl = 0) (W : World) : Calls Tryz.prog 145 #[.agg #[.int .i64 9, .string ⟨name.toArray⟩, .slice A1 0 c1, .slice A2 0 c2, .slice A3 nl c3, .int .i64 0, .int .i64 z]] W (YesB W) := by
 subst hnl
 have HN := Hd fun W => isint_any name W hw hn
 clear hw hn
 have HBR := Hd fun W => wbare_any 9 name A1 c1 A2 c2 A3 0 c3 z W
 have HBG := Hd (new_below W (.cells #[.int .i64 9, .string ⟨name.toArray⟩, .slice A1 0 c1, .slice A2 0 c2, .slice A3 0 c3, .int .i64 0, .int .i64 z] 27))
 have HK1 := Hd (Blk.new W 27 #[.int .i64 9, .string ⟨name.toArray⟩, .slice A1 0 c1, .slice A2 0 c2, .slice A3 0 c3, .int .i64 0, .int .i64 z])
 have HWS : Hid (W.heap.size < (W.alloc (.cells #[.int .i64 9, .string ⟨name.toArray⟩, .slice A1 0 c1, .slice A2 0 c2, .slice A3 0 c3, .int .i64 0, .int .i64 z] 27)).heap.size) := Hd (by simp)
 generalize hw1 : (W.alloc (.cells #[.int .i64 9, .string ⟨name.toArray⟩, .slice A1 0 c1, .slice A2 0 c2, .slice A3 0 c3, .int .i64 0, .int .i64 z] 27)) = w1 at *
 have HKB : Hid (∀ w2, Below w1.heap.size w1 w2 → Blk w2 W.heap.size 27 #[.int .i64 9, .string ⟨name.toArray⟩, .slice A1 0 c1, .slice A2 0 c2, .slice A3 0 c3, .int .i64 0, .int .i64 z] ∧ Below W.heap.size W w2) := Hd fun w2 hb => ⟨HK1.out.below hb HWS.out, HBG.out.trans (hb.mono HBG.out.size)⟩
 obtain ⟨a, b0, b1, b2, b3, b4, b5, b6⟩ := HK1.out.c7
 go_enter Tryz.func145, Tryz.ntmps145
 go_wp2_with (first
  | (go_at_call 146; refine (HBR.out _).mono ?_; rintro e w2 ⟨rfl, hb⟩; have HB2 := Hd hb; obtain ⟨a', b0', b1', b2', b3', b4', b5', b6'⟩ := (HKB.out _ hb).1.c7; clear hb)
  | (go_at_call 184; refine (HN.out _).mono ?_; rintro e w3 ⟨rfl, hb⟩; have HB3 := Hd (HB2.out.trans (hb.mono HB2.out.size)); obtain ⟨a3, e0, e1, e2, e3, e4, e5, e6⟩ := (HKB.out _ HB3.out).1.c7; clear hb))
 go_ret
 exact ⟨rfl, (HKB.out _ HB3.out).2⟩
set_option maxRecDepth 20000 in
theorem vex4_any {w0 : World} {g : Nat} {name : Lx.Txt} {A1 : Option Addr} {c1 : Nat} {A2 : Option Addr} {c2 : Nat} {A3 : Option Addr} {nl c3 : Nat} {z : Int} {S : Nat → Prop} {t : Ps.Tr} (hw : Lx.wordB name = true) (hr : Ps.resv name = false) (hx : name.length < 4294967281) (hA : RwC (SayP w0 g 145) w0 S A3 [t]) (hS : ∀ k, S k → k < g) (hnl : nl = 1) (W : World) (hB : Below g w0 W) (hg : g ≤ W.heap.size) : Calls Tryz.prog 145 #[.agg #[.int .i64 4, .string ⟨name.toArray⟩, .slice A1 0 c1, .slice A2 0 c2, .slice A3 nl c3, .int .i64 0, .int .i64 z]] W (YesB W) := by
 subst hnl
 have ht : [t][0]? = some t := rfl
 obtain ⟨b, off, x0, x1, x2, x3, x4, x5, x6, rfl, hbg, hbl, hP, a0, a1, a2, a3, a4, a5, a6⟩ := hA.at_ hS hB ht
 simp only [Nat.zero_mul, Nat.add_zero] at a0 a1 a2 a3 a4 a5 a6
 have HP : Hid (∀ W, Below g w0 W → Calls Tryz.prog 145 #[.agg #[x0, x1, x2, x3, x4, x5, x6]] W (YesB W)) := Hd hP.2
 have HEL := Hd (⟨a0, a1, a2, a3, a4, a5, a6⟩ : W.cell? ⟨b, off, none⟩ = some x0 ∧ W.cell? ⟨b, off + 1, none⟩ = some x1 ∧ W.cell? ⟨b, off + 2, none⟩ = some x2 ∧ W.cell? ⟨b, off + 3, none⟩ = some x3 ∧ W.cell? ⟨b, off + 4, none⟩ = some x4 ∧ W.cell? ⟨b, off + 5, none⟩ = some x5 ∧ W.cell? ⟨b, off + 6, none⟩ = some x6)
 have HBB := Hd hB
 clear a0 a1 a2 a3 a4 a5 a6 hP
 have HN := Hd fun W => isname_any ⟨name.toArray⟩ W (by rw [txt_size]; omega)
 rw [txt_list, hw] at HN
 have HR := Hd fun W => preserved_any name W
 rw [hr] at HR
 clear hw hr hx hA hS ht hB
 have HBR := Hd fun W => wbare_any 4 name A1 c1 A2 c2 (some ⟨b, off, none⟩) 1 c3 z W
 have HBG := Hd (new_below W (.cells #[.int .i64 4, .string ⟨name.toArray⟩, .slice A1 0 c1, .slice A2 0 c2, .slice (some ⟨b, off, none⟩) 1 c3, .int .i64 0, .int .i64 z] 27))
 have HK1 := Hd (Blk.new W 27 #[.int .i64 4, .string ⟨name.toArray⟩, .slice A1 0 c1, .slice A2 0 c2, .slice (some ⟨b, off, none⟩) 1 c3, .int .i64 0, .int .i64 z])
 have HWS : Hid (W.heap.size < (W.alloc (.cells #[.int .i64 4, .string ⟨name.toArray⟩, .slice A1 0 c1, .slice A2 0 c2, .slice (some ⟨b, off, none⟩) 1 c3, .int .i64 0, .int .i64 z] 27)).heap.size) := Hd (by simp)
 generalize hw1 : (W.alloc (.cells #[.int .i64 4, .string ⟨name.toArray⟩, .slice A1 0 c1, .slice A2 0 c2, .slice (some ⟨b, off, none⟩) 1 c3, .int .i64 0, .int .i64 z] 27)) = w1 at *
 have HKB : Hid (∀ w2, Below w1.heap.size w1 w2 → Blk w2 W.heap.size 27 #[.int .i64 4, .string ⟨name.toArray⟩, .slice A1 0 c1, .slice A2 0 c2, .slice (some ⟨b, off, none⟩) 1 c3, .int .i64 0, .int .i64 z] ∧ Below W.heap.size W w2) := Hd fun w2 hb => ⟨HK1.out.below hb HWS.out, HBG.out.trans (hb.mono HBG.out.size)⟩
 obtain ⟨a, b0, b1, b2, b3, b4, b5, b6⟩ := HK1.out.c7
 have HEC : Hid (∀ w2, Below w1.heap.size w1 w2 → (w2.cell? ⟨b, off, none⟩ = some x0 ∧ w2.cell? ⟨b, off + 1, none⟩ = some x1 ∧ w2.cell? ⟨b, off + 2, none⟩ = some x2 ∧ w2.cell? ⟨b, off + 3, none⟩ = some x3 ∧ w2.cell? ⟨b, off + 4, none⟩ = some x4 ∧ w2.cell? ⟨b, off + 5, none⟩ = some x5 ∧ w2.cell? ⟨b, off + 6, none⟩ = some x6) ∧ b < w2.heap.size ∧ Below g w0 w2) := Hd fun w2 hb => by
  have h2 := (HKB.out w2 hb).2
  exact ⟨el7 (h2.mono hg) hbg HEL.out, Nat.lt_of_lt_of_le hbl h2.size, HBB.out.trans (h2.mono hg)⟩
 go_enter Tryz.func145, Tryz.ntmps145
 go_wp2_with (first
  | (go_at_call 146; refine (HBR.out _).mono ?_; rintro e w2 ⟨rfl, hb⟩; have HB2 := Hd hb; obtain ⟨a', b0', b1', b2', b3', b4', b5', b6'⟩ := (HKB.out _ hb).1.c7; obtain ⟨⟨c20, c21, c22, c23, c24, c25, c26⟩, cb2, bg2⟩ := HEC.out _ hb; clear hb)
  | (go_at_call 113; refine (HN.out _).mono ?_; rintro e w3 ⟨rfl, hb⟩; have HB3 := Hd (HB2.out.trans (hb.mono HB2.out.size)); obtain ⟨a3_, e30, e31, e32, e33, e34, e35, e36⟩ := (HKB.out _ HB3.out).1.c7; obtain ⟨⟨c30, c31, c32, c33, c34, c35, c36⟩, cb3, bg3⟩ := HEC.out _ HB3.out; clear hb)
  | (go_at_call 72; refine (HR.out _).mono ?_; rintro e w4 ⟨rfl, hb⟩; have HB4 := Hd (HB3.out.trans (hb.mono HB3.out.size)); obtain ⟨a4_, e40, e41, e42, e43, e44, e45, e46⟩ := (HKB.out _ HB4.out).1.c7; obtain ⟨⟨c40, c41, c42, c43, c44, c45, c46⟩, cb4, bg4⟩ := HEC.out _ HB4.out; clear hb)
  | (go_at_call 145; refine (HP.out _ bg4).mono ?_; rintro e w5 ⟨rfl, hb⟩; have HB5 := Hd (HB4.out.trans (hb.mono HB4.out.size)); clear hb))
 go_ret
 exact ⟨rfl, (HKB.out _ HB5.out).2⟩
set_option maxRecDepth 20000 in
theorem vex5_any {w0 : World} {g : Nat} {name : Lx.Txt} {A1 : Option Addr} {c1 : Nat} {A2 : Option Addr} {c2 : Nat} {A3 : Option Addr} {c3 : Nat} {z : Int} {S : Nat → Prop} {ml : Nat} {l : List Ps.Tr} (ha : Lx.arityF name = (ml : Int)) (hx : name.length < 4294967281) (hA : RwC (SayP w0 g 145) w0 S A3 l) (hS : ∀ k, S k → k < g) (hl : l.length = ml + 1) (hl9 : ml + 1 ≤ 9223372036854775807) (W : World) (hB : Below g w0 W) (hg : g ≤ W.heap.size) : Calls Tryz.prog 145 #[.agg #[.int .i64 5, .string ⟨name.toArray⟩, .slice A1 0 c1, .slice A2 0 c2, .slice A3 (ml + 1) c3, .int .i64 0, .int .i64 z]] W (YesB W) := by
 have HAR := Hd fun W => arity_any ⟨name.toArray⟩ W (by rw [txt_size]; omega)
 rw [txt_list, ha] at HAR
 have HAL := Hd fun W2 (h1 : Below g w0 W2) (h2 : g ≤ W2.heap.size) => wall_of (W := W2) (c := c3) (.inl rfl) hA hS hl hl9 h1 h2
 have HBB := Hd hB
 have q1 : (0 : Int) ≤ (ml : Int) := by omega
 have q2 : (ml : Int) + 1 ≤ 9223372036854775807 := by omega
 clear ha hx hA hS hB hl
 have HBR := Hd fun W => wbare_any 5 name A1 c1 A2 c2 A3 (ml + 1) c3 z W
 have HBG := Hd (new_below W (.cells #[.int .i64 5, .string ⟨name.toArray⟩, .slice A1 0 c1, .slice A2 0 c2, .slice A3 (ml + 1) c3, .int .i64 0, .int .i64 z] 27))
 have HK1 := Hd (Blk.new W 27 #[.int .i64 5, .string ⟨name.toArray⟩, .slice A1 0 c1, .slice A2 0 c2, .slice A3 (ml + 1) c3, .int .i64 0, .int .i64 z])
 have HWS : Hid (W.heap.size < (W.alloc (.cells #[.int .i64 5, .string ⟨name.toArray⟩, .slice A1 0 c1, .slice A2 0 c2, .slice A3 (ml + 1) c3, .int .i64 0, .int .i64 z] 27)).heap.size) := Hd (by simp)
 generalize hw1 : (W.alloc (.cells #[.int .i64 5, .string ⟨name.toArray⟩, .slice A1 0 c1, .slice A2 0 c2, .slice A3 (ml + 1) c3, .int .i64 0, .int .i64 z] 27)) = w1 at *
 have HKB : Hid (∀ w2, Below w1.heap.size w1 w2 → Blk w2 W.heap.size 27 #[.int .i64 5, .string ⟨name.toArray⟩, .slice A1 0 c1, .slice A2 0 c2, .slice A3 (ml + 1) c3, .int .i64 0, .int .i64 z] ∧ Below W.heap.size W w2) := Hd fun w2 hb => ⟨HK1.out.below hb HWS.out, HBG.out.trans (hb.mono HBG.out.size)⟩
 obtain ⟨a, b0, b1, b2, b3, b4, b5, b6⟩ := HK1.out.c7
 have HEC : Hid (∀ w2, Below w1.heap.size w1 w2 → Below g w0 w2 ∧ g ≤ w2.heap.size) := Hd fun w2 hb => by
  have h2 := (HKB.out w2 hb).2
  exact ⟨HBB.out.trans (h2.mono hg), Nat.le_trans hg h2.size⟩
 go_enter Tryz.func145, Tryz.ntmps145
 go_wp2_with (first
  | (go_at_call 146; refine (HBR.out _).mono ?_; rintro e w2 ⟨rfl, hb⟩; have HB2 := Hd hb; obtain ⟨a', b0', b1', b2', b3', b4', b5', b6'⟩ := (HKB.out _ hb).1.c7; clear hb)
  | (go_at_call 110; refine (HAR.out _).mono ?_; rintro e w3 ⟨rfl, hb⟩; have HB3 := Hd (HB2.out.trans (hb.mono HB2.out.size)); obtain ⟨a3, e0, e1, e2, e3, e4, e5, e6⟩ := (HKB.out _ HB3.out).1.c7; clear hb)
  | (go_at_call 182; refine (HAL.out _ (HEC.out _ HB3.out).1 (HEC.out _ HB3.out).2).mono ?_; rintro e w4 ⟨rfl, hb⟩; have HB4 := Hd (HB3.out.trans (hb.mono HB3.out.size)); clear hb))
 go_ret
 exact ⟨rfl, (HKB.out _ HB4.out).2⟩
set_option maxRecDepth 20000 in
theorem vmg_any {w0 : World} {g : Nat} {name : Lx.Txt} {A1 : Option Addr} {c1 : Nat} {A2 : Option Addr} {c2 : Nat} {A3 : Option Addr} {nl c3 : Nat} {z : Int} {S : Nat → Prop} {l : List Ps.Tr} (ha : Lx.arityF name = (nl : Int)) (hx : name.length < 4294967281) (hA : RwC (SayP w0 g 145) w0 S A3 l) (hS : ∀ k, S k → k < g) (hl : l.length = nl) (hl9 : nl ≤ 9223372036854775807) (W : World) (hB : Below g w0 W) (hg : g ≤ W.heap.size) : Calls Tryz.prog 183 #[.agg #[.int .i64 7, .string ⟨name.toArray⟩, .slice A1 0 c1, .slice A2 0 c2, .slice A3 nl c3, .int .i64 0, .int .i64 z]] W (YesB W) := by
 have HAR := Hd fun W => arity_any ⟨name.toArray⟩ W (by rw [txt_size]; omega)
 rw [txt_list, ha] at HAR
 have HAL := Hd fun W2 (h1 : Below g w0 W2) (h2 : g ≤ W2.heap.size) => wall_of (W := W2) (c := c3) (.inl rfl) hA hS hl hl9 h1 h2
 have HBB := Hd hB
 have q1 : (0 : Int) ≤ (nl : Int) := by omega
 clear ha hx hA hS hB hl
 have HBR := Hd fun W => wbare_any 7 name A1 c1 A2 c2 A3 nl c3 z W
 have HBG := Hd (new_below W (.cells #[.int .i64 7, .string ⟨name.toArray⟩, .slice A1 0 c1, .slice A2 0 c2, .slice A3 nl c3, .int .i64 0, .int .i64 z] 27))
 have HK1 := Hd (Blk.new W 27 #[.int .i64 7, .string ⟨name.toArray⟩, .slice A1 0 c1, .slice A2 0 c2, .slice A3 nl c3, .int .i64 0, .int .i64 z])
 have HWS : Hid (W.heap.size < (W.alloc (.cells #[.int .i64 7, .string ⟨name.toArray⟩, .slice A1 0 c1, .slice A2 0 c2, .slice A3 nl c3, .int .i64 0, .int .i64 z] 27)).heap.size) := Hd (by simp)
 generalize hw1 : (W.alloc (.cells #[.int .i64 7, .string ⟨name.toArray⟩, .slice A1 0 c1, .slice A2 0 c2, .slice A3 nl c3, .int .i64 0, .int .i64 z] 27)) = w1 at *
 have HKB : Hid (∀ w2, Below w1.heap.size w1 w2 → Blk w2 W.heap.size 27 #[.int .i64 7, .string ⟨name.toArray⟩, .slice A1 0 c1, .slice A2 0 c2, .slice A3 nl c3, .int .i64 0, .int .i64 z] ∧ Below W.heap.size W w2) := Hd fun w2 hb => ⟨HK1.out.below hb HWS.out, HBG.out.trans (hb.mono HBG.out.size)⟩
 obtain ⟨a, b0, b1, b2, b3, b4, b5, b6⟩ := HK1.out.c7
 have HEC : Hid (∀ w2, Below w1.heap.size w1 w2 → Below g w0 w2 ∧ g ≤ w2.heap.size) := Hd fun w2 hb => by
  have h2 := (HKB.out w2 hb).2
  exact ⟨HBB.out.trans (h2.mono hg), Nat.le_trans hg h2.size⟩
 go_enter Tryz.func183, Tryz.ntmps183
 go_upto_region 1 with fail
 go_region_held3 (fun W' => W'.cell? ⟨W.heap.size, 0, none⟩ = some (.int .i64 7) ∧ W'.cell? ⟨W.heap.size, 1, none⟩ = some (.string ⟨name.toArray⟩) ∧ W'.cell? ⟨W.heap.size, 2, none⟩ = some (.slice A1 0 c1) ∧ W'.cell? ⟨W.heap.size, 3, none⟩ = some (.slice A2 0 c2) ∧ W'.cell? ⟨W.heap.size, 4, none⟩ = some (.slice A3 nl c3) ∧ W'.cell? ⟨W.heap.size, 5, none⟩ = some (.int .i64 0) ∧ W'.cell? ⟨W.heap.size, 6, none⟩ = some (.int .i64 z))
  (first | exact (HKB.out _ HB5.out).1.c7.2 | exact (HKB.out _ HB4.out).1.c7.2 | exact (HKB.out _ HB3.out).1.c7.2 | exact (HKB.out _ HB2.out).1.c7.2 | go_keep)
  ((first
   | (go_at_call 146; ((with_reducible refine (HBR.out w1.drew).mono ?_); rintro e w2 ⟨rfl, hb⟩; have HB2 := Hd (below_draw hb); clear hb))
   | (go_at_call 110; ((with_reducible refine (HAR.out w2).mono ?_); rintro e w3 ⟨rfl, hb⟩; have HB3 := Hd (HB2.out.trans (hb.mono HB2.out.size)); clear hb))
   | (go_at_call 110; ((with_reducible refine (HAR.out w3).mono ?_); rintro e w4 ⟨rfl, hb⟩; have HB4 := Hd (HB3.out.trans (hb.mono HB3.out.size)); clear hb))
   | (go_at_call 182; ((with_reducible refine (HAL.out w4 (HEC.out _ HB4.out).1 (HEC.out _ HB4.out).2).mono ?_); rintro e w5 ⟨rfl, hb⟩; have HB5 := Hd (HB4.out.trans (hb.mono HB4.out.size)); clear hb))))
 go_wp2
 go_ret
 exact ⟨rfl, (HKB.out _ HB5.out).2⟩
set_option maxRecDepth 20000 in
theorem vex6_any {w0 : World} {g : Nat} {A1 : Option Addr} {c1 : Nat} {A2 : Option Addr} {c2 : Nat} {A3 : Option Addr} {nl c3 : Nat} {z : Int} {S : Nat → Prop} {t : Ps.Tr} {l : List Ps.Tr} (hA : RwC (SayP w0 g 145) w0 S A3 [t]) (hM : ∀ A, (∀ b off, A3 = some ⟨b, off, none⟩ → A = some ⟨b, off + 7, none⟩) → RwC (SayP w0 g 183) w0 S A l) (hS : ∀ k, S k → k < g) (hnl : nl = l.length + 1) (hl3 : 3 ≤ nl) (hc : nl ≤ c3) (hc9 : nl ≤ 9223372036854775807) (W : World) (hB : Below g w0 W) (hg : g ≤ W.heap.size) : Calls Tryz.prog 145 #[.agg #[.int .i64 6, .string ⟨#[]⟩, .slice A1 0 c1, .slice A2 0 c2, .slice A3 nl c3, .int .i64 0, .int .i64 z]] W (YesB W) := by
 have ht : [t][0]? = some t := rfl
 have hB' := hB
 obtain ⟨b, off, x0, x1, x2, x3, x4, x5, x6, rfl, hbg, hbl, hP, a0, a1, a2, a3, a4, a5, a6⟩ := hA.at_ hS hB ht
 simp only [Nat.zero_mul, Nat.add_zero] at a0 a1 a2 a3 a4 a5 a6
 have HP : Hid (∀ W, Below g w0 W → Calls Tryz.prog 145 #[.agg #[x0, x1, x2, x3, x4, x5, x6]] W (YesB W)) := Hd hP.2
 have HEL := Hd (⟨a0, a1, a2, a3, a4, a5, a6⟩ : W.cell? ⟨b, off, none⟩ = some x0 ∧ W.cell? ⟨b, off + 1, none⟩ = some x1 ∧ W.cell? ⟨b, off + 2, none⟩ = some x2 ∧ W.cell? ⟨b, off + 3, none⟩ = some x3 ∧ W.cell? ⟨b, off + 4, none⟩ = some x4 ∧ W.cell? ⟨b, off + 5, none⟩ = some x5 ∧ W.cell? ⟨b, off + 6, none⟩ = some x6)
 have HBB := Hd hB
 clear a0 a1 a2 a3 a4 a5 a6 hP
 have hM0 := hM (some ⟨b, off + 7, none⟩) (fun b' o' e => by injection e with e; injection e with e1 e2 _; rw [e1, e2])
 have HAL := Hd fun W2 (h1 : Below g w0 W2) (h2 : g ≤ W2.heap.size) => wall_of (W := W2) (m := nl - 1) (c := c3 - 1) (.inr (.inl rfl)) hM0 hS (by omega) (by omega) h1 h2
 clear hM hM0 hA hS ht hB hB' hnl
 have q0 : 0 < nl := by omega
 have q1 : (3 : Int) ≤ (nl : Int) := by omega
 have q2 : (1 : Int) ≤ (nl : Int) := by omega
 have q3 : (nl : Int) ≤ (c3 : Int) := by omega
 have q5 : ¬ c3 = 1 := by omega
 have HBR := Hd fun W => wbare_any 6 [] A1 c1 A2 c2 (some ⟨b, off, none⟩) nl c3 z W
 have HBG := Hd (new_below W (.cells #[.int .i64 6, .string ⟨#[]⟩, .slice A1 0 c1, .slice A2 0 c2, .slice (some ⟨b, off, none⟩) nl c3, .int .i64 0, .int .i64 z] 27))
 have HK1 := Hd (Blk.new W 27 #[.int .i64 6, .string ⟨#[]⟩, .slice A1 0 c1, .slice A2 0 c2, .slice (some ⟨b, off, none⟩) nl c3, .int .i64 0, .int .i64 z])
 have HWS : Hid (W.heap.size < (W.alloc (.cells #[.int .i64 6, .string ⟨#[]⟩, .slice A1 0 c1, .slice A2 0 c2, .slice (some ⟨b, off, none⟩) nl c3, .int .i64 0, .int .i64 z] 27)).heap.size) := Hd (by simp)
 generalize hw1 : (W.alloc (.cells #[.int .i64 6, .string ⟨#[]⟩, .slice A1 0 c1, .slice A2 0 c2, .slice (some ⟨b, off, none⟩) nl c3, .int .i64 0, .int .i64 z] 27)) = w1 at *
 have HKB : Hid (∀ w2, Below w1.heap.size w1 w2 → Blk w2 W.heap.size 27 #[.int .i64 6, .string ⟨#[]⟩, .slice A1 0 c1, .slice A2 0 c2, .slice (some ⟨b, off, none⟩) nl c3, .int .i64 0, .int .i64 z] ∧ Below W.heap.size W w2) := Hd fun w2 hb => ⟨HK1.out.below hb HWS.out, HBG.out.trans (hb.mono HBG.out.size)⟩
 obtain ⟨a, b0, b1, b2, b3, b4, b5, b6⟩ := HK1.out.c7
 have HEC : Hid (∀ w2, Below w1.heap.size w1 w2 → (w2.cell? ⟨b, off, none⟩ = some x0 ∧ w2.cell? ⟨b, off + 1, none⟩ = some x1 ∧ w2.cell? ⟨b, off + 2, none⟩ = some x2 ∧ w2.cell? ⟨b, off + 3, none⟩ = some x3 ∧ w2.cell? ⟨b, off + 4, none⟩ = some x4 ∧ w2.cell? ⟨b, off + 5, none⟩ = some x5 ∧ w2.cell? ⟨b, off + 6, none⟩ = some x6) ∧ b < w2.heap.size ∧ Below g w0 w2) := Hd fun w2 hb => by
  have h2 := (HKB.out w2 hb).2
  exact ⟨el7 (h2.mono hg) hbg HEL.out, Nat.lt_of_lt_of_le hbl h2.size, HBB.out.trans (h2.mono hg)⟩
 go_enter Tryz.func145, Tryz.ntmps145
 go_wp2_with (first
  | (go_at_call 146; refine (HBR.out _).mono ?_; rintro e w2 ⟨rfl, hb⟩; have HB2 := Hd hb; obtain ⟨a', b0', b1', b2', b3', b4', b5', b6'⟩ := (HKB.out _ hb).1.c7; obtain ⟨⟨c20, c21, c22, c23, c24, c25, c26⟩, cb2, bg2⟩ := HEC.out _ hb; clear hb)
  | (go_at_call 145; refine (HP.out _ bg2).mono ?_; rintro e w3 ⟨rfl, hb⟩; have HB3 := Hd (HB2.out.trans (hb.mono HB2.out.size)); obtain ⟨a3_, e30, e31, e32, e33, e34, e35, e36⟩ := (HKB.out _ HB3.out).1.c7; have bg3 := (HEC.out _ HB3.out).2.2; have hg3 := Nat.le_trans hg (HKB.out _ HB3.out).2.size; clear hb)
  | (go_at_call 182; refine (HAL.out _ bg3 hg3).mono ?_; rintro e w4 ⟨rfl, hb⟩; have HB4 := Hd (HB3.out.trans (hb.mono HB3.out.size)); clear hb))
 go_ret
 exact ⟨rfl, (HKB.out _ HB4.out).2⟩
def VxM (w0 : World) (g : Nat) (cs : List Value) (t : Ps.Tr) : Prop := Ps.szB t = true → Ps.fwB t = true → Ps.nnB t = true → ((Ps.vkid t).ex = true → SayP w0 g 145 cs t) ∧ ((Ps.vkid t).msg = true → SayP w0 g 183 cs t)
namespace Ps
theorem bare_of {k : Nat} {n : Lx.Txt} {a b : List Lx.Txt} {l : List Tr} {p x : Nat} (h : (vkid (.mk k n a b l p x)).ex = true) (hk : k ≠ 2) : a = [] ∧ b = [] ∧ p = 0 := by
 rw [vkid] at h
 dsimp only at h
 rw [if_neg hk] at h
 simp only [Bool.and_eq_true, List.isEmpty_iff, beq_iff_eq] at h
 exact ⟨h.1.1.1, h.1.1.2, h.1.2⟩
theorem bare_mg {k : Nat} {n : Lx.Txt} {a b : List Lx.Txt} {l : List Tr} {p x : Nat} (h : (vkid (.mk k n a b l p x)).msg = true) : a = [] ∧ b = [] ∧ p = 0 := by
 rw [vkid] at h
 simp only [Bool.and_eq_true, List.isEmpty_iff, beq_iff_eq] at h
 exact ⟨h.1.1.1.2.1.1, h.1.1.1.2.1.2, h.1.1.1.2.2⟩
theorem ex4' {n : Lx.Txt} {ks : List Vk} (h : exV 4 n ks = true) : Lx.wordB n = true ∧ resv n = false := by
 unfold exV at h
 rw [if_pos rfl] at h
 simp only [Bool.and_eq_true, Bool.not_eq_true'] at h
 exact ⟨h.1.1.1, h.1.1.2⟩
theorem ex6' {n : Lx.Txt} {ks : List Vk} (h : exV 6 n ks = true) : n = [] := by
 unfold exV at h
 rw [if_neg (by decide), if_neg (by decide), if_pos rfl] at h
 simp only [Bool.and_eq_true, List.isEmpty_iff] at h
 exact h.1.1.1
theorem ex8' {n : Lx.Txt} {l : List Tr} (h : exV 8 n (l.map vkid) = true) : Lx.wordB n = true ∧ l = [] := by
 unfold exV at h
 rw [if_neg (by decide), if_neg (by decide), if_neg (by decide), if_pos rfl] at h
 simp only [Bool.and_eq_true, List.isEmpty_iff, List.map_eq_nil_iff] at h
 exact h
theorem ex9' {n : Lx.Txt} {l : List Tr} (h : exV 9 n (l.map vkid) = true) : intF n = true ∧ l = [] := by
 unfold exV at h
 rw [if_neg (by decide), if_neg (by decide), if_neg (by decide), if_neg (by decide), if_pos rfl] at h
 simp only [Bool.and_eq_true, List.isEmpty_iff, List.map_eq_nil_iff] at h
 exact h
end Ps
theorem say_of {w0 : World} {S : Nat → Prop} {g F : Nat} {cs : List Value} {t : Ps.Tr} (h : TpIn w0 S cs t) (hc : ∀ W, Below g w0 W → Calls Tryz.prog F #[.agg cs.toArray] W (YesB W)) : SayP w0 g F cs t := by
 refine ⟨?_, hc⟩
 cases h with
 | mk k name names temps nodes prim place z A1 c1 A2 c2 A3 c3 css h1 h2 hl h3 h4 h5 => exact ⟨_, _, _, _, _, _, _, _, _, _, _, _, _, rfl⟩
set_option maxRecDepth 20000 in
theorem vex_all {w0 : World} {S : Nat → Prop} {g : Nat} {cs : List Value} {t : Ps.Tr} (hS : ∀ k, S k → k < g) (hg0 : g ≤ w0.heap.size) (h : TpIn w0 S cs t) : VxM w0 g cs t := by
 induction h with
 | mk kind name names temps nodes prim place z A1 c1 A2 c2 A3 c3 css h1 h2 hl h3 h4 h5 ih =>
  intro hz hf hnn
  have hT : TpIn w0 S [.int .i64 (kind : Int), .string ⟨name.toArray⟩, .slice A1 names.length c1, .slice A2 temps.length c2, .slice A3 nodes.length c3, .int .i64 (prim : Int), .int .i64 z] (.mk kind name names temps nodes prim place) := .mk _ _ _ _ _ _ _ _ _ _ _ _ _ _ css h1 h2 hl h3 h4 h5
  obtain ⟨hn, _, _, hzl⟩ := Ps.szB_parts hz
  obtain ⟨hk, hfl⟩ := Ps.fwB_parts hf
  have hnn' := hnn
  rw [Ps.nnB, Bool.and_eq_true] at hnn'
  obtain ⟨hn9, hnl⟩ := hnn'
  have hx : ∀ (i : Nat) (cs' : List Value) (t' : Ps.Tr), css[i]? = some cs' → nodes[i]? = some t' → ((Ps.vkid t').ex = true → SayP w0 g 145 cs' t') ∧ ((Ps.vkid t').msg = true → SayP w0 g 183 cs' t') := fun i cs' t' e1 e2 => ih i cs' t' e1 e2 (Ps.szL_at hzl e2) (Ps.fwL_at hfl e2) (Ps.nnL_at hnl e2)
  have harc : (∀ t ∈ nodes, (Ps.vkid t).ex = true) → RwC (SayP w0 g 145) w0 S A3 nodes := fun ha => ⟨css, hl, h3, fun i cs' t' e1 e2 => ⟨(h5 i cs' t' e1 e2).len, (hx i cs' t' e1 e2).1 (ha t' (List.mem_of_getElem? e2))⟩⟩
  have hm9 : nodes.length ≤ 9223372036854775807 := h4.2.1
  have hgW : ∀ {W}, Below g w0 W → g ≤ W.heap.size := fun hb => Nat.le_trans hg0 hb.size
  refine ⟨fun hex => say_of hT fun W hB => ?_, fun hmsg => say_of hT fun W hB => ?_⟩
  rotate_left
  ·obtain ⟨rfl, ha, hb, hall⟩ := Ps.msg_of hmsg
   obtain ⟨rfl, rfl, rfl⟩ := Ps.bare_mg hmsg
   exact vmg_any hb.symm hn (harc hall) hS rfl hm9 W hB (hgW hB)
  ·have hv := Ps.ex_of hex (by omega)
   obtain ⟨rfl, rfl, rfl⟩ := Ps.bare_of hex (by omega)
   rcases hk with rfl | rfl | rfl | rfl | rfl | rfl
   ·obtain ⟨hl1, hall⟩ := Ps.ex4 hv
    obtain ⟨hw, hr⟩ := Ps.ex4' hv
    match nodes, hl1, harc hall with
    | [t0], _, hA => exact vex4_any hw hr hn hA hS rfl W hB (hgW hB)
   ·obtain ⟨ha, hb, hall⟩ := Ps.ex5 hv
    obtain ⟨ml, hml⟩ : ∃ ml, nodes.length = ml + 1 := ⟨nodes.length - 1, by omega⟩
    have := harc hall
    rw [hml]
    exact vex5_any (by omega) hn (harc hall) hS hml (by omega) W hB (hgW hB)
   ·obtain ⟨ha, hb, hc⟩ := Ps.ex6 hv
    obtain rfl := Ps.ex6' hv
    match nodes, hl, h3, h4, h5, hx, ha, hb, hc, hm9 with
    | t0 :: l0, hl, h3, h4, h5, hx, ha, hb, hc, hm9 =>
     have hA1 : RwC (SayP w0 g 145) w0 S A3 [t0] := by
      obtain ⟨c0, csr, hcs⟩ : ∃ c0 csr, css = c0 :: csr := by cases css with
       | nil => simp at hl
       | cons a r => exact ⟨a, r, rfl⟩
      obtain ⟨b, off, e, hSb, hbl, hcl⟩ := h3.2 (by simp)
      have e0 : css[0]? = some c0 := by rw [hcs]; rfl
      have h70 := (h5 0 c0 t0 e0 rfl).len
      refine ⟨[c0], rfl, ⟨by simp [h70], fun _ => ⟨b, off, e, hSb, hbl, fun j u' hu => hcl j u' ?_⟩⟩, fun i cs' t' q1 q2 => ?_⟩
      ·rw [hcs, List.flatten_cons]
       rw [List.flatten_cons, List.flatten_nil, List.append_nil] at hu
       rw [List.getElem?_append_left (List.getElem?_eq_some_iff.1 hu).1]; exact hu
      ·cases i with
       | zero =>
        obtain rfl : c0 = cs' := by simpa using q1
        obtain rfl : t0 = t' := by simpa using q2
        exact ⟨h70, (hx 0 c0 t0 e0 rfl).1 (hb t0 rfl)⟩
       | succ i => simp at q1
     exact vex6_any hA1 (fun A hA => RwC.of_tail hl h3 (fun i cs' t' q1 q2 => (h5 i cs' t' q1 q2).len) (fun i cs' t' q1 q2 => (hx (i + 1) cs' t' q1 (by simpa using q2)).2 (hc i t' (by simpa using q2))) A hA) hS (by simp) (by simpa using ha) (by have := h4.1; simpa using this) hm9 W hB (hgW hB)
   ·exact absurd hv (by unfold Ps.exV; simp)
   ·obtain ⟨hw, rfl⟩ := Ps.ex8' hv
    exact vex8_any hw hn rfl W
   ·obtain ⟨hw, rfl⟩ := Ps.ex9' hv
    exact vex9_any hw (by simpa using hn9) rfl W
set_option maxRecDepth 20000 in
theorem rindex_any {w : World} {S : Nat → Prop} {n c : Nat} {A : Option Addr} {l : List Lx.Txt} (x : Lx.Txt) (h : ReadsI w S 1 A l.length (l.map sv)) (hn : l.length = n) (hl : n ≤ 9223372036854775807) :
  Calls Tryz.prog 121 #[.slice A n c, .string ⟨x.toArray⟩] w (IdxT l x w) := by
 have H := Hd h
 have HN := Hd hn
 clear h hn
 go_enter Tryz.func121, Tryz.ntmps121
 go_wp2
 go_loopw [8] (fun i wr => ∃ k : Nat, k ≤ n ∧ i = .int .i64 k ∧ hasT (l.drop k) x = hasT l x ∧ w = wr) (fun i _ => n - (intOf i).toNat)
 case atStart => exact ⟨0, Nat.zero_le _, rfl, rfl, rfl⟩
 case round =>
  obtain ⟨k, hk, rfl, hall, rfl⟩ := hrel
  have HALL := Hd hall
  clear hall
  by_cases hlt : k < n
  ·have hy := List.getElem?_eq_getElem (l := l) (i := k) (by rw [HN.out]; exact hlt)
   generalize l[k]'_ = y at hy
   obtain ⟨b, off, rfl, _, hb, hc⟩ := ReadsI.str H.out hy
   have HD := Hd (has_step hy x)
   have l1 : (0 : Int) ≤ (k : Int) := by omega
   have l2 : (k : Int) < (n : Int) := by omega
   clear hy
   cases he : (x == y) with
   | true =>
    have d := (str_eqb x y).trans he
    have HE : Hid (hasT l x = true) := Hd (by rw [← HALL.out, HD.out, he]; rfl)
    go_wp2
    go_ret
    exact ⟨_, rfl, by rw [HE.out]; simp, rfl⟩
   | false =>
    have d := (str_eqb x y).trans he
    have HE : Hid (hasT (l.drop (k + 1)) x = hasT l x) := Hd (by rw [← HALL.out, HD.out, he]; rfl)
    go_wp2
    go_roundw
    case rel => exact ⟨k + 1, by omega, by go_num, HE.out, by first | rfl | trivial⟩
    case measure => simp [intOf]; omega
  ·have HE : Hid (hasT l x = false) := Hd (by rw [← HALL.out, List.drop_eq_nil_of_le (by rw [HN.out]; omega)]; rfl)
   go_wp2
   go_ret
   exact ⟨_, rfl, by rw [HE.out]; rfl, rfl⟩
set_option maxRecDepth 20000 in
theorem rhas_any {w : World} {S : Nat → Prop} {n c : Nat} {A : Option Addr} {l : List Lx.Txt} (x : Lx.Txt) (h : ReadsI w S 1 A l.length (l.map sv)) (hn : l.length = n) (hl : n ≤ 9223372036854775807) :
  Calls Tryz.prog 73 #[.slice A n c, .string ⟨x.toArray⟩] w fun e w' => e = .returned (.bool (hasT l x)) ∧ w' = w := by
 have HI := Hd (rindex_any (c := c) x h hn hl)
 clear h hl hn
 go_enter Tryz.func73, Tryz.ntmps73
 go_wp2_with (go_at_call 121; refine HI.out.mono ?_; rintro e w1 ⟨r, rfl, hr, rfl⟩; have HR := Hd hr; clear hr)
 go_ret
 exact ⟨ret_bool (by rw [← HR.out]), rfl⟩
theorem ReadsI.take {w : World} {S : Nat → Prop} {A : Option Addr} {l : List Lx.Txt} (h : ReadsI w S 1 A l.length (l.map sv)) {k : Nat} (hk : k ≤ l.length) : ReadsI w S 1 A (l.take k).length ((l.take k).map sv) := by
 refine ⟨by simp, fun hn => ?_⟩
 rw [List.length_take] at hn
 obtain ⟨b, off, e, hb, hl, hc⟩ := h.2 (by omega)
 refine ⟨b, off, e, hb, hl, fun j u hu => hc j u ?_⟩
 rw [List.map_take] at hu
 have hj := (List.getElem?_eq_some_iff.1 hu).1
 rw [List.getElem?_take] at hu
 split at hu
 ·exact hu
 ·cases hu
theorem decl_at : ∀ {l seen : List Lx.Txt} {k : Nat} {x : Lx.Txt}, Ps.declF seen l = true → l[k]? = some x → Lx.wordB x = true ∧ Ps.resv x = false ∧ (seen ++ l.take k).contains x = false
 | [], _, k, x, _, h => by simp at h
 | a :: r, seen, 0, x, hd, h => by
  obtain rfl : a = x := by simpa using h
  rw [Ps.declF] at hd
  simp only [Bool.and_eq_true, Bool.not_eq_true'] at hd
  exact ⟨hd.1.1.1, hd.1.1.2, by simpa using hd.1.2⟩
 | a :: r, seen, k + 1, x, hd, h => by
  rw [Ps.declF] at hd
  simp only [Bool.and_eq_true, Bool.not_eq_true'] at hd
  have := decl_at (k := k) hd.2 (by simpa using h)
  rw [List.append_assoc] at this
  simpa using this
set_option maxRecDepth 20000 in
theorem wdecl_any {w0 W : World} {S : Nat → Prop} {g n c : Nat} {A : Option Addr} {l : List Lx.Txt} (h : ReadsI w0 S 1 A l.length (l.map sv)) (hS : ∀ k, S k → k < g) (hd : Ps.declF [] l = true) (hsz : ∀ x ∈ l, x.length < 4294967281) (hn : l.length = n) (hc : n ≤ c) (hl : n ≤ 9223372036854775807) (hB : Below g w0 W) (hg : g ≤ W.heap.size) :
  Calls Tryz.prog 111 #[.slice A n c] W (YesB W) := by
 have H : Hid (∀ W2, Below g w0 W2 → ReadsI W2 S 1 A l.length (l.map sv)) := Hd fun W2 hb => h.keep hb.size fun k hk _ => hb.block k (hS k hk)
 have HD := Hd hd
 have HN := Hd hn
 have HSZ := Hd hsz
 have HB := Hd hB
 have HG := Hd hg
 clear h hS hd hsz hn hB hg
 go_enter Tryz.func111, Tryz.ntmps111
 go_wp2
 go_loopw [7] (fun i wr => ∃ k : Nat, k ≤ n ∧ i = .int .i64 k ∧ Below W.heap.size W wr) (fun i _ => n - (intOf i).toNat)
 case atStart => exact ⟨0, Nat.zero_le _, rfl, Below.refl _ _⟩
 case round =>
  obtain ⟨k, hk, rfl, hb⟩ := hrel
  have HB2 := Hd hb
  clear hb
  by_cases hlt : k < n
  ·have hy := List.getElem?_eq_getElem (l := l) (i := k) (by rw [HN.out]; exact hlt)
   have hyl := HSZ.out (l[k]'(by rw [HN.out]; exact hlt)) (List.getElem_mem _)
   generalize l[k]'_ = y at hy hyl
   have HB3 := Hd (HB.out.trans (HB2.out.mono HG.out))
   obtain ⟨b, off, rfl, _, hb, hcl⟩ := ReadsI.str (H.out wr HB3.out) hy
   obtain ⟨d1, d2, d3⟩ := decl_at HD.out hy
   have HNM := Hd fun W2 => isname_any ⟨y.toArray⟩ W2 (by rw [txt_size]; omega)
   rw [txt_list, d1] at HNM
   have HRS := Hd fun W2 => preserved_any y W2
   rw [d2] at HRS
   have HHS : Hid (∀ W2, Below g w0 W2 → Calls Tryz.prog 73 #[.slice (some ⟨b, off, none⟩) k c, .string ⟨y.toArray⟩] W2 fun e w' => e = .returned (.bool false) ∧ w' = W2) := Hd fun W2 hb2 => by
    have hr := rhas_any (c := c) y (ReadsI.take (H.out W2 hb2) (k := k) (by rw [HN.out]; omega)) (n := k) (by rw [List.length_take, HN.out]; omega) (by omega)
    have e : hasT (l.take k) y = false := by unfold hasT; simpa using d3
    rw [e] at hr
    exact hr
   have l1 : (0 : Int) ≤ (k : Int) := by omega
   have l2 : (k : Int) < (n : Int) := by omega
   have l3 : (k : Int) ≤ (c : Int) := by omega
   clear hy d1 d2 d3
   go_wp2_with (first
    | (go_at_call 113; refine (HNM.out _).mono ?_; rintro e w1 ⟨rfl, hb1⟩; have HB4 := Hd (HB2.out.trans (hb1.mono HB2.out.size)); clear hb1)
    | (go_at_call 72; refine (HRS.out _).mono ?_; rintro e w2 ⟨rfl, hb1⟩; have HB5 := Hd (HB4.out.trans (hb1.mono HB4.out.size)); clear hb1)
    | (go_at_call 73; refine (HHS.out _ (HB.out.trans (HB5.out.mono HG.out))).mono ?_; rintro e w3 ⟨rfl, rfl⟩))
   go_roundw
   case rel => exact ⟨k + 1, by omega, by go_num, HB5.out⟩
   case measure => simp [intOf]; omega
  ·go_wp2
   go_ret
   exact ⟨rfl, HB2.out⟩
def StP (w0 : World) (g : Nat) (cs : List Value) (t : Ps.Tr) : Prop := SayP w0 g 145 cs t ∧ ∀ z : Int, cs[0]? = some (.int .i64 z) → (z != 3) = true
set_option maxRecDepth 20000 in
theorem wsts_any {w0 W : World} {S : Nat → Prop} {g m c : Nat} {A : Option Addr} {l : List Ps.Tr} (hA : RwC (StP w0 g) w0 S A l) (hS : ∀ k, S k → k < g) (hm : l.length = m) (hm9 : m ≤ 9223372036854775807) (hB : Below g w0 W) (hg : g ≤ W.heap.size) :
 Calls Tryz.prog 112 #[.slice A m c] W (YesB W) := by
 have HA := Hd hA
 have HS := Hd hS
 have HM := Hd hm
 have HB := Hd hB
 have HG := Hd hg
 clear hA hS hm hB hg
 go_enter Tryz.func112, Tryz.ntmps112
 go_wp2
 go_loopw [7] (fun i wr => ∃ k : Nat, k ≤ m ∧ i = .int .i64 k ∧ Below W.heap.size W wr) (fun i _ => m - (intOf i).toNat)
 case atStart => exact ⟨0, Nat.zero_le _, rfl, Below.refl _ _⟩
 case round =>
  obtain ⟨k, hk, rfl, hb⟩ := hrel
  have HB2 := Hd hb
  clear hb
  by_cases hlt : k < m
  ·obtain ⟨q, hq⟩ : ∃ q, l[k]? = some q := ⟨_, List.getElem?_eq_getElem (by rw [HM.out]; exact hlt)⟩
   have HB3 := Hd (HB.out.trans (HB2.out.mono HG.out))
   obtain ⟨b, off, x0, x1, x2, x3, x4, x5, x6, rfl, hbg, hbl, hP, a0, a1, a2, a3, a4, a5, a6⟩ := HA.out.at_ HS.out HB3.out hq
   obtain ⟨⟨⟨y0, y5, y6, nm, B, r, d, B', r', d', A', n, c', e⟩, hsay⟩, hz⟩ := hP
   injection e with e0 e
   injection e with e1 e
   injection e with e2 e
   injection e with e3 e
   injection e with e4 e
   injection e with e5 e
   injection e with e6 _
   subst e0 e1 e2 e3 e4 e5 e6
   have d3 : (y0 != 3) = true := hz y0 rfl
   have HSY : Hid (∀ W, Below g w0 W → Calls Tryz.prog 145 #[.agg #[.int .i64 y0, .string ⟨nm.toArray⟩, .slice B r d, .slice B' r' d', .slice A' n c', .int .i64 y5, .int .i64 y6]] W (YesB W)) := Hd hsay
   have hz2 := HB2.out.size
   have HBN := Hd (new_below wr (.cells #[.int .i64 y0, .string ⟨nm.toArray⟩, .slice B r d, .slice B' r' d', .slice A' n c', .int .i64 y5, .int .i64 y6] 27))
   have HB4 := Hd (HB3.out.trans (HBN.out.mono (Nat.le_trans HG.out hz2)))
   have l1 : (0 : Int) ≤ (k : Int) := by omega
   have l2 : (k : Int) < (m : Int) := by omega
   clear hsay hz hq
   go_wp2_with (go_at_call 145; refine (HSY.out _ HB4.out).mono ?_; rintro e w1 ⟨rfl, hb⟩; have HB5 := Hd (HB2.out.trans ((HBN.out.trans (hb.mono HBN.out.size)).mono HB2.out.size)); clear hb)
   go_roundw
   case rel => exact ⟨k + 1, by omega, by go_num, HB5.out⟩
   case measure => simp [intOf]; omega
  ·go_wp2
   go_ret
   exact ⟨rfl, HB2.out⟩
namespace Ps
theorem stsV_no : ∀ {ks : List Vk}, stsV ks = true → (∀ v ∈ ks, v.ret = false) → ∀ v ∈ ks, v.ex = true
 | [], _, _, v, hv => by cases hv
 | [a], h, hn, v, hv => by
  obtain rfl : v = a := by simpa using hv
  rw [stsV, hn v (by simp), Bool.or_false] at h
  exact h
 | a :: b :: r, h, hn, v, hv => by
  rw [stsV.eq_3 a (b :: r) (by simp), Bool.and_eq_true] at h
  rcases List.mem_cons.1 hv with e | e
  ·subst e; exact h.1
  ·exact stsV_no h.2 (fun v hv => hn v (List.mem_cons_of_mem _ hv)) v e
theorem ret_no {t : Tr} (h : fwB t = true) : (vkid t).ret = false := by
 cases t with
 | mk k n a b l p x =>
  obtain ⟨hk, _⟩ := fwB_parts h
  rw [vkid]
  dsimp only
  have : (k == 3) = false := beq_eq_false_iff_ne.2 (by omega)
  rw [this]; rfl
end Ps
set_option maxRecDepth 20000 in
theorem vmt_any {w0 : World} {g : Nat} {S : Nat → Prop} {name : Lx.Txt} {names temps : List Lx.Txt} {A1 : Option Addr} {n1 c1 : Nat} {A2 : Option Addr} {n2 c2 : Nat} {A3 : Option Addr} {nl c3 prim : Nat} {z : Int} {l : List Ps.Tr}
 (ha : Lx.arityF name = (n1 : Int)) (hx : name.length < 4294967281) (hp : prim ≤ 255) (h1 : ReadsI w0 S 1 A1 names.length (names.map sv)) (h2 : ReadsI w0 S 1 A2 temps.length (temps.map sv)) (d1 : Ps.declF [] names = true) (d2 : Ps.declF [] temps = true)
 (s1 : ∀ x ∈ names, x.length < 4294967281) (s2 : ∀ x ∈ temps, x.length < 4294967281) (hn1 : names.length = n1) (hn2 : temps.length = n2) (hc1 : n1 ≤ c1) (hc2 : n2 ≤ c2) (hm1 : n1 ≤ 9223372036854775807) (hm2 : n2 ≤ 9223372036854775807)
 (hA : RwC (StP w0 g) w0 S A3 l) (hS : ∀ k, S k → k < g) (hl : l.length = nl) (hl9 : nl ≤ 9223372036854775807) (W : World) (hB : Below g w0 W) (hg : g ≤ W.heap.size) : Calls Tryz.prog 64 #[.agg #[.int .i64 1, .string ⟨name.toArray⟩, .slice A1 n1 c1, .slice A2 n2 c2, .slice A3 nl c3, .int .i64 (prim : Int), .int .i64 z]] W (YesB W) := by
 have HAR := Hd fun W => arity_any ⟨name.toArray⟩ W (by rw [txt_size]; omega)
 rw [txt_list, ha] at HAR
 have HD1 := Hd fun W2 (h3 : Below g w0 W2) (h4 : g ≤ W2.heap.size) => wdecl_any h1 hS d1 s1 hn1 hc1 hm1 h3 h4
 have HD2 := Hd fun W2 (h3 : Below g w0 W2) (h4 : g ≤ W2.heap.size) => wdecl_any h2 hS d2 s2 hn2 hc2 hm2 h3 h4
 have HAL := Hd fun W2 (h3 : Below g w0 W2) (h4 : g ≤ W2.heap.size) => wsts_any (W := W2) (c := c3) hA hS hl hl9 h3 h4
 have HBB := Hd hB
 have q1 : (0 : Int) ≤ (n1 : Int) := by omega
 have q2 : (0 : Int) ≤ (prim : Int) := by omega
 have q3 : (prim : Int) ≤ 255 := by omega
 clear ha hx hp h1 h2 d1 d2 s1 s2 hn1 hn2 hm1 hm2 hA hS hl hB
 have HBG := Hd (new_below W (.cells #[.int .i64 1, .string ⟨name.toArray⟩, .slice A1 n1 c1, .slice A2 n2 c2, .slice A3 nl c3, .int .i64 (prim : Int), .int .i64 z] 27))
 have HK1 := Hd (Blk.new W 27 #[.int .i64 1, .string ⟨name.toArray⟩, .slice A1 n1 c1, .slice A2 n2 c2, .slice A3 nl c3, .int .i64 (prim : Int), .int .i64 z])
 have HWS : Hid (W.heap.size < (W.alloc (.cells #[.int .i64 1, .string ⟨name.toArray⟩, .slice A1 n1 c1, .slice A2 n2 c2, .slice A3 nl c3, .int .i64 (prim : Int), .int .i64 z] 27)).heap.size) := Hd (by simp)
 generalize hw1 : (W.alloc (.cells #[.int .i64 1, .string ⟨name.toArray⟩, .slice A1 n1 c1, .slice A2 n2 c2, .slice A3 nl c3, .int .i64 (prim : Int), .int .i64 z] 27)) = w1 at *
 have HKB : Hid (∀ w2, Below w1.heap.size w1 w2 → Blk w2 W.heap.size 27 #[.int .i64 1, .string ⟨name.toArray⟩, .slice A1 n1 c1, .slice A2 n2 c2, .slice A3 nl c3, .int .i64 (prim : Int), .int .i64 z] ∧ Below W.heap.size W w2) := Hd fun w2 hb => ⟨HK1.out.below hb HWS.out, HBG.out.trans (hb.mono HBG.out.size)⟩
 obtain ⟨a, b0, b1, b2, b3, b4, b5, b6⟩ := HK1.out.c7
 have HEC : Hid (∀ w2, Below w1.heap.size w1 w2 → Below g w0 w2 ∧ g ≤ w2.heap.size) := Hd fun w2 hb => by
  have h2 := (HKB.out w2 hb).2
  exact ⟨HBB.out.trans (h2.mono hg), Nat.le_trans hg h2.size⟩
 go_enter Tryz.func64, Tryz.ntmps64
 go_upto_region 1 with fail
 go_region_held3 (fun W' => W'.cell? ⟨W.heap.size, 0, none⟩ = some (.int .i64 1) ∧ W'.cell? ⟨W.heap.size, 1, none⟩ = some (.string ⟨name.toArray⟩) ∧ W'.cell? ⟨W.heap.size, 2, none⟩ = some (.slice A1 n1 c1) ∧ W'.cell? ⟨W.heap.size, 3, none⟩ = some (.slice A2 n2 c2) ∧ W'.cell? ⟨W.heap.size, 4, none⟩ = some (.slice A3 nl c3) ∧ W'.cell? ⟨W.heap.size, 5, none⟩ = some (.int .i64 (prim : Int)) ∧ W'.cell? ⟨W.heap.size, 6, none⟩ = some (.int .i64 z))
  (first | exact (HKB.out _ HB5.out).1.c7.2 | exact (HKB.out _ HB4.out).1.c7.2 | exact (HKB.out _ HB3.out).1.c7.2 | exact (HKB.out _ HB2.out).1.c7.2 | go_keep)
  ((first
   | (go_at_call 110; ((with_reducible refine (HAR.out w1.drew).mono ?_); rintro e w2 ⟨rfl, hb⟩; have HB2 : Hid (Below w1.heap.size w1 w2) := Hd (by first | exact hb | exact below_draw hb); clear hb))
   | (go_at_call 111; ((with_reducible refine (HD1.out w2 (HEC.out _ HB2.out).1 (HEC.out _ HB2.out).2).mono ?_); rintro e w3 ⟨rfl, hb⟩; have HB3 := Hd (HB2.out.trans (hb.mono HB2.out.size)); clear hb))
   | (go_at_call 111; ((with_reducible refine (HD2.out w3 (HEC.out _ HB3.out).1 (HEC.out _ HB3.out).2).mono ?_); rintro e w4 ⟨rfl, hb⟩; have HB4 := Hd (HB3.out.trans (hb.mono HB3.out.size)); clear hb))
   | (go_at_call 112; ((with_reducible refine (HAL.out w4 (HEC.out _ HB4.out).1 (HEC.out _ HB4.out).2).mono ?_); rintro e w5 ⟨rfl, hb⟩; have HB5 := Hd (HB4.out.trans (hb.mono HB4.out.size)); clear hb))))
 go_wp2
 go_ret
 exact ⟨rfl, (HKB.out _ HB5.out).2⟩
namespace Ps
def tempsOf : Tr → List Lx.Txt
 | .mk _ _ _ b _ _ _ => b
def primOf : Tr → Nat
 | .mk _ _ _ _ _ p _ => p
theorem methV_parts {k : Nat} {n : Lx.Txt} {a b : List Lx.Txt} {l : List Tr} {p x : Nat} (h : methV (.mk k n a b l p x) = true) : k = 1 ∧ Lx.arityF n = (a.length : Int) ∧ p ≤ 255 ∧ declF [] a = true ∧ declF [] b = true ∧ stsV (l.map vkid) = true := by
 rw [methV, vkids_map] at h
 simp only [Bool.and_eq_true, beq_iff_eq, decide_eq_true_eq] at h
 exact ⟨h.1.1.1.1.1, h.1.1.1.1.2, h.1.1.1.2, h.1.1.2, h.1.2, h.2⟩
theorem few_ne {t : Tr} (h : fwB t = true) : t.kind ≠ 3 := by
 cases t with
 | mk k n a b l p x =>
  obtain ⟨hk, _⟩ := fwB_parts h
  show k ≠ 3
  omega
theorem sts_ex {l : List Tr} (h : stsV (l.map vkid) = true) (hf : fwL l = true) : ∀ t ∈ l, (vkid t).ex = true := fun t ht => by
 refine stsV_no h (fun v hv => ?_) (vkid t) (List.mem_map_of_mem ht)
 obtain ⟨u, hu, rfl⟩ := List.mem_map.1 hv
 obtain ⟨i, hi⟩ := List.getElem?_of_mem hu
 exact ret_no (fwL_at hf hi)
theorem metE_few {n : Lx.Txt} {a : List Lx.Txt} {l : List Tr} {k x : Nat} : metE (.mk k n a [] l 0 x) = patE n a ++ mstE ((kids l).map Prod.snd) := rfl
end Ps
theorem TpIn.kind0 {w : World} {S : Nat → Prop} {cs : List Value} {t : Ps.Tr} (h : TpIn w S cs t) {z : Int} (hz : cs[0]? = some (.int .i64 z)) : z = (t.kind : Int) := by
 cases h with
 | mk kind name names temps nodes prim place z' A1 c1 A2 c2 A3 c3 css h1 h2 hl h3 h4 h5 =>
  simp only [List.getElem?_cons_zero, Option.some.injEq, Value.int.injEq] at hz
  exact hz.2.symm
structure PrL (w2 : World) (g base : Nat) (v : Value) (fin : Ps.Wr) (ss : List (List Ps.Ev)) (k : Nat) (wr : World) (v1 : Value) (s1 : Ps.Wr) : Prop where
 x : WPx g base v v1 s1 w2 wr
 f : Ps.evs (Ps.mstE (ss.drop k)) s1 = fin
def PrR (w2 : World) (g base : Nat) (v : Value) (fin : Ps.Wr) (ss : List (List Ps.Ev)) (nl : Nat) (i : Value) (wr : World) : Prop := ∃ k v1 s1, k ≤ nl ∧ i = .int .i64 k ∧ PrL w2 g base v fin ss k wr v1 s1
def PrP (W : World) (r : Lx.Txt × Nat) (e : Ending) (w' : World) : Prop := e = .returned (.tuple #[.string ⟨r.1.toArray⟩, .int .i64 (r.2 : Int)]) ∧ Below W.heap.size W w'
set_option maxRecDepth 20000 in
set_option maxHeartbeats 8000000 in
theorem wprint_any {W : World} {S : Nat → Prop} {cs : List Value} {t : Ps.Tr} (h : TpIn W S cs t) (hS : ∀ k, S k → k < W.heap.size) (hv : Ps.methV t = true) (ht : Ps.tempsOf t = []) (hp : Ps.primOf t = 0) (hr : Ps.rankS t.name = 2) (hz : Ps.szB t = true) (hf : Ps.fwL t.nodes = true) (hnn : Ps.nnL t.nodes = true) :
  Calls Tryz.prog 24 #[.agg cs.toArray] W (PrP W (Ps.printF t)) := by
 cases h with
 | mk kind name names temps nodes prim place z A1 c1 A2 c2 A3 c3 css h1 h2 hl h3 h4 h5 =>
  obtain rfl : temps = [] := ht
  obtain rfl : prim = 0 := hp
  obtain ⟨rfl, har, _, hd1, hd2, hst⟩ := Ps.methV_parts hv
  obtain ⟨hn, hz1, _, hzl⟩ := Ps.szB_parts hz
  have hex := Ps.sts_ex hst hf
  replace hr : Ps.rankS name = 2 := hr
  replace hf : Ps.fwL nodes = true := hf
  replace hnn : Ps.nnL nodes = true := hnn
  have hka : (Ps.kws name).length ≤ names.length := by
   rcases Ps.ar_of (n := name) (m := names.length) (by omega) har.symm with e | e | e
   ·omega
   ·omega
   ·exact e.2
  obtain ⟨n1, hn1⟩ : ∃ n1, names.length = n1 := ⟨_, rfl⟩
  obtain ⟨nl, hnl⟩ : ∃ nl, nodes.length = nl := ⟨_, rfl⟩
  have HIM : Hid (∀ W2, Below W.heap.size W W2 → Calls Tryz.prog 64 #[.agg #[.int .i64 1, .string ⟨name.toArray⟩, .slice A1 n1 c1, .slice A2 0 c2, .slice A3 nl c3, .int .i64 ((0 : Nat) : Int), .int .i64 z]] W2 (YesB W2)) := Hd fun W2 hb => by
   subst hn1 hnl
   exact vmt_any har hn (by omega) h1 h2 hd1 hd2 hz1 (fun x hx => by cases hx) rfl rfl h4.2.2.2.2.1 h4.2.2.2.2.2 h4.2.2.1 (Nat.zero_le _)
    ⟨css, hl, h3, fun i cs' t' e1 e2 => ⟨(h5 i cs' t' e1 e2).len, ((vex_all hS (Nat.le_refl _) (h5 i cs' t' e1 e2)) (Ps.szL_at hzl e2) (Ps.fwL_at hf e2) (Ps.nnL_at hnn e2)).1 (hex t' (List.mem_of_getElem? e2)), fun z hz => by
      have := (h5 i cs' t' e1 e2).kind0 hz
      have := Ps.few_ne (Ps.fwL_at hf e2)
      simp only [bne_iff_ne, ne_eq]
      omega⟩⟩ hS rfl h4.2.1 W2 hb hb.size
  have HAC : Hid (∀ w2 g base, Below W.heap.size W w2 → W.heap.size ≤ g → ArC w2 S g base A3 nodes) := Hd fun w2 g base hb hg => by
   have hk : ∀ k, S k → k < W.heap.size → w2.heap[k]? = W.heap[k]? := fun k hk _ => hb.block k (hS k hk)
   exact ⟨css, hl, h3.keep hb.size hk, fun i cs' t' e1 e2 => by
    have ht := (h5 i cs' t' e1 e2).keep hb.size hk
    exact ⟨ht, ((wexpr_all (fun k hk => Nat.lt_of_lt_of_le (hS k hk) hg) ht) (Ps.szL_at hzl e2) (Ps.fwL_at hf e2)).1 (hex t' (List.mem_of_getElem? e2)), Ps.name_sz hzl e2⟩⟩
  have HPA : Hid (∀ w2 g base v s, Below W.heap.size W w2 → W.heap.size ≤ g → WA w2 g base v s → Calls Tryz.prog 65 #[.pointer (some ⟨g, 0, none⟩), .agg #[.int .i64 1, .string ⟨name.toArray⟩, .slice A1 n1 c1, .slice A2 0 c2, .slice A3 nl c3, .int .i64 ((0 : Nat) : Int), .int .i64 z]] w2 (WC g base v (Ps.evs (Ps.patE name names) s) w2)) := Hd fun w2 g base v s hb hg hw => by
   have hk : ∀ k, S k → k < W.heap.size → w2.heap[k]? = W.heap[k]? := fun k hk _ => hb.block k (hS k hk)
   exact wpat_any (w0 := w2) (h1.keep hb.size hk) (fun k hk => Nat.lt_of_lt_of_le (hS k hk) hg) hn hr (by omega) hn1 (by have := h4.2.2.1; simp only [maxLen] at this; omega) hz1 w2 v s (Below.refl _ _) hw
  have HFW := Hd hf
  have HNL := Hd hnl
  have HX : Hid (∀ s, Ps.evs (Ps.patE name names) ⟨[], 0, 0, false⟩ = s → Ps.printF (.mk 1 name names [] nodes 0 place) = (if 100 < (Ps.evs (Ps.mstE ((Ps.kids nodes).map Prod.snd)) s).most then ([], 125) else if (Ps.evs (Ps.mstE ((Ps.kids nodes).map Prod.snd)) s).gone then ([], 2) else ((Ps.evs (Ps.mstE ((Ps.kids nodes).map Prod.snd)) s).b, 0))) := Hd fun s e => by
   unfold Ps.printF
   rw [Ps.metE_few, Ps.evs_append, e]
  have hl9 : nl ≤ 9223372036854775807 := by have := h4.2.1; simp only [maxLen] at this; omega
  have HSv := Hd hS
  clear h1 h2 hl h3 h4 h5 hS hv hr hz hf hnn har hd1 hd2 hst hn hz1 hzl hex hka
  simp only [hn1, hnl, List.length_nil]
  clear hn1 hnl
  generalize Ps.printF (.mk 1 name names [] nodes 0 place) = PF at *
  have HBG := Hd (new_below W (.cells #[.int .i64 1, .string ⟨name.toArray⟩, .slice A1 n1 c1, .slice A2 0 c2, .slice A3 nl c3, .int .i64 ((0 : Nat) : Int), .int .i64 z] 27))
  go_enter Tryz.func24, Tryz.ntmps24
  go_upto_region 3 with (go_at_call 64; refine (HIM.out _ HBG.out).mono ?_; rintro e w1 ⟨rfl, hb⟩; have HB1 := Hd (HBG.out.trans (hb.mono HBG.out.size)); have HK1 := Hd (new_blk hb); clear hb)
  go_upto_region 4 with fail
  have HK2 := Hd (HK1.out.alloc (.cells #[.slice none 0 0, .int .i64 0, .int .i64 0, .bool false] 114))
  have HW2 : Hid (WA (w1.alloc (.cells #[.slice none 0 0, .int .i64 0, .int .i64 0, .bool false] 114)) w1.heap.size (w1.heap.size + 1) (.slice none 0 0) ⟨[], 0, 0, false⟩) := Hd ⟨Blk.new _ _ _, World.ownsRow_nil _ _ _ _, Nat.lt_succ_self _, by simp, Nat.zero_le _⟩
  have HB2 := Hd (HB1.out.trans ((new_below w1 (.cells #[.slice none 0 0, .int .i64 0, .int .i64 0, .bool false] 114)).mono HB1.out.size))
  have hgw : W.heap.size ≤ w1.heap.size := HB1.out.size
  generalize (w1.alloc (.cells #[.slice none 0 0, .int .i64 0, .int .i64 0, .bool false] 114)) = w2 at *
  obtain ⟨g, hg⟩ : ∃ g, w1.heap.size = g := ⟨_, rfl⟩
  rw [hg] at HW2 hgw ⊢
  have HPT := Hd (HPA.out w2 g (g + 1) _ _ HB2.out hgw HW2.out)
  have HA := Hd (HAC.out w2 g (g + 1) HB2.out hgw)
  have HSg : Hid (∀ k, S k → k < g) := Hd fun k hk => Nat.lt_of_lt_of_le (HSv.out k hk) hgw
  have HMB : Hid (∀ wr v1 s1, WPx g (g + 1) (.slice none 0 0) v1 s1 w2 wr → Blk wr W.heap.size 27 #[.int .i64 1, .string ⟨name.toArray⟩, .slice A1 n1 c1, .slice A2 0 c2, .slice A3 nl c3, .int .i64 ((0 : Nat) : Int), .int .i64 z]) := Hd fun wr v1 s1 h => h.wp.blk HW2.out HK2.out (by decide) (by decide)
  have HBE : Hid (∀ wr v1 s1, WPx g (g + 1) (.slice none 0 0) v1 s1 w2 wr → Below W.heap.size W wr) := Hd fun wr v1 s1 h => HB2.out.trans ((h.low HW2.out).mono hgw)
  have HLO : Hid (∀ wr v1 s1, WPx g (g + 1) (.slice none 0 0) v1 s1 w2 wr → Below g w2 wr) := Hd fun wr v1 s1 h => h.low HW2.out
  obtain ⟨a, b0, b1, b2, b3, b4, b5, b6⟩ := HK2.out.c7
  obtain ⟨nb, hnb⟩ : ∃ nb, W.heap.size = nb := ⟨_, rfl⟩
  rw [hnb] at HMB HK2 a b0 b1 b2 b3 b4 b5 b6 ⊢
  clear hnb
  clear HPA HAC HIM hg hgw HSv HK1 HBG HB1
  go_upto_region 5 with (go_at_call 65; refine HPT.out.mono ?_; rintro e w3 ⟨rfl, hp⟩; obtain ⟨v3, hx⟩ := hp.x; have HX3 := Hd hx; clear hp hx)
  clear HPT HK2 a b0 b1 b2 b3 b4 b5 b6
  obtain ⟨a, b0, b1, b2, b3, b4, b5, b6⟩ := (HMB.out _ _ _ HX3.out).c7
  obtain ⟨s3, hs3⟩ : ∃ s3, Ps.evs (Ps.patE name names) ⟨[], 0, 0, false⟩ = s3 := ⟨_, rfl⟩
  rw [hs3] at HX3
  have HPF := Hd (HX.out s3 hs3)
  obtain ⟨ss, hss⟩ : ∃ ss, (Ps.kids nodes).map Prod.snd = ss := ⟨_, rfl⟩
  rw [hss] at HPF
  obtain ⟨fin, hfin⟩ : ∃ fin, Ps.evs (Ps.mstE ss) s3 = fin := ⟨_, rfl⟩
  rw [hfin] at HPF
  have HFIN := Hd hfin
  have HSS : Hid (ss = nodes.map fun t => (Ps.kid t).2) := Hd (by rw [← hss, Ps.kids_map, List.map_map]; rfl)
  clear hs3 hss hfin HX
  go_wp2
  go_loopw [37] (fun i wr => PrR w2 g (g + 1) (.slice none 0 0) fin ss nl i wr) (fun i _ => nl - (intOf i).toNat)
  case atStart => exact ⟨0, v3, s3, Nat.zero_le _, rfl, HX3.out, HFIN.out⟩
  case round =>
   clear HX3 HFIN a b0 b1 b2 b3 b4 b5 b6
   obtain ⟨k, v1, s1, hk, rfl, hx, hf⟩ := hrel
   have HX1 := Hd hx
   have HF := Hd hf
   clear hx hf
   have HM1 := Hd (HMB.out _ _ _ HX1.out)
   obtain ⟨a, b0, b1, b2, b3, b4, b5, b6⟩ := HM1.out.c7
   have l1 : (0 : Int) ≤ (k : Int) := by omega
   by_cases hlt : k < nl
   rotate_left
   ·have HT : Hid (s1 = fin) := Hd (by
     have h := HF.out
     rw [List.drop_eq_nil_of_le (by rw [HSS.out, List.length_map, HNL.out]; omega)] at h
     exact h)
    rw [← HT.out] at HPF
    have c0 := HX1.out.wa.blk.cell 0
    have c2 := HX1.out.wa.blk.cell 2
    have c3' := HX1.out.wa.blk.cell 3
    have cl := HX1.out.wa.blk.lt
    obtain ⟨VA, vc, hv1, hvl, _⟩ := HX1.out.wa.row.form
    subst hv1
    have hst : (convert 47 9 (.slice VA s1.b.length vc)).run Tryz.prog wr = .ok (.string ⟨s1.b.toArray⟩) wr := run_string_of wr 47 9 5 (OwnB.reads HX1.out.wa.row rfl) Tryz.underlying47 Tryz.underlying5 Tryz.underlying9
    obtain ⟨sb, sd, sm, sg⟩ := s1
    by_cases hm : 100 < sm
    ·rw [if_pos hm] at HPF
     go_wp2
     go_ret2
     exact ⟨by rw [HPF.out]; rfl, HBE.out _ _ _ HX1.out⟩
    ·rw [if_neg hm] at HPF
     cases sg with
     | true =>
      go_wp2
      go_ret2
      exact ⟨by rw [HPF.out]; rfl, HBE.out _ _ _ HX1.out⟩
     | false =>
      go_wp2
      go_ret2
      exact ⟨by rw [HPF.out]; rfl, HBE.out _ _ _ HX1.out⟩
   ·obtain ⟨q, hq⟩ : ∃ q, nodes[k]? = some q := ⟨_, List.getElem?_eq_getElem (by rw [HNL.out]; exact hlt)⟩
    have HST : Hid (Ps.mstE (ss.drop k) = .t [9] :: ((Ps.kid q).2 ++ ((if k + 1 < ss.length then [.t [46]] else []) ++ .t [10] :: Ps.mstE (ss.drop (k + 1))))) := Hd (Ps.mst_step (by rw [HSS.out, List.getElem?_map, hq]; rfl))
    rw [HSS.out, List.length_map, HNL.out, ← HSS.out] at HST
    have HFQ := Hd (Ps.few_ne (Ps.fwL_at HFW.out hq))
    obtain ⟨b, off, x0, x1, x2, x3, x4, x5, x6, rfl, hbg, hbl, hT, hE, hxn, a0, a1, a2, a3, a4, a5, a6⟩ := HA.out.at_ HSg.out (HLO.out _ _ _ HX1.out) hq
    have HTQ := Hd hT
    have HEQ := Hd hE
    clear hq hE hxn
    have l2 : (k : Int) < (nl : Int) := by omega
    cases hT with
    | mk kk nm na te no pr pl zz B1 d1 B2 d2 B3 d3 cssx _ _ _ _ _ _ =>
     have HSM : Hid (∀ W v s, Below g w2 W → WA W g (g + 1) v s → Calls Tryz.prog 69 #[.pointer (some ⟨g, 0, none⟩), .agg #[.int .i64 (kk : Int), .string ⟨nm.toArray⟩, .slice B1 na.length d1, .slice B2 te.length d2, .slice B3 no.length d3, .int .i64 (pr : Int), .int .i64 zz]] W (WC g (g + 1) v (Ps.evs (Ps.kid (.mk kk nm na te no pr pl)).2 s) W)) := Hd fun W v s hb hw => wstm_any HEQ.out HTQ.out HFQ.out W v s hb hw
     generalize (Ps.kid (.mk kk nm na te no pr pl)).2 = kq at *
     generalize na.length = nal at *
     generalize te.length = tel at *
     generalize no.length = nol at *
     clear HTQ HEQ HFQ
     go_upto_region 12 with fail
     refine wp_world (fun W => WPx g (g + 1) (.slice none 0 0) v1 s1 w2 W ∧ Blk W wr.heap.size 27 #[.int .i64 (kk : Int), .string ⟨nm.toArray⟩, .slice B1 nal d1, .slice B2 tel d2, .slice B3 nol d3, .int .i64 (pr : Int), .int .i64 zz]) ⟨HX1.out.below (new_below _ _), Blk.new _ _ _⟩ fun w4 h4 => ?_
     have HX4 := Hd h4.1
     have HT4 := Hd h4.2
     generalize wr.heap.size = tb at *
     clear h4 HM1 a b0 b1 b2 b3 b4 b5 b6 a0 a1 a2 a3 a4 a5 a6 hbl
     have HP0 := Hd (wput_new [[9]] HX4.out.wa (by simp) (by simp))
     go_upto_region 13 with (go_at_call 66; refine HP0.out.mono ?_; rintro e w5 ⟨rfl, hp⟩; have HT5 := Hd (hp.blk HX4.out.wa HT4.out (by decide) (by decide)); obtain ⟨v5, hx⟩ := HX4.out.step hp; have HX5 := Hd hx; clear hp hx)
     obtain ⟨a, a0, a1, a2, a3, a4, a5, a6⟩ := HT5.out.c7
     go_upto_region 14 with (go_at_call 69; refine (HSM.out _ _ _ (HLO.out _ _ _ HX5.out) HX5.out.wa).mono ?_; rintro e w6 ⟨rfl, hp⟩; obtain ⟨v6, hx⟩ := HX5.out.step hp; have HX6 := Hd hx; clear hp hx)
     clear HT4 HT5 a a0 a1 a2 a3 a4 a5 a6
     obtain ⟨a, b0, b1, b2, b3, b4, b5, b6⟩ := (HMB.out _ _ _ HX6.out).c7
     by_cases hlast : k + 1 < nl
     ·rw [if_pos hlast] at HST
      have l3 : (k : Int) < (nl : Int) - 1 := by omega
      have HP1 := Hd (wput_new [[46]] HX6.out.wa (by simp) (by simp))
      go_upto_region 16 with (go_at_call 66; refine HP1.out.mono ?_; rintro e w7 ⟨rfl, hp⟩; obtain ⟨v7, hx⟩ := HX6.out.step hp; have HX7 := Hd hx; clear hp hx)
      have HP2 := Hd (wput_new [[10]] HX7.out.wa (by simp) (by simp))
      go_wp2_with (go_at_call 66; refine HP2.out.mono ?_; rintro e w8 ⟨rfl, hp⟩; obtain ⟨v8, hx⟩ := HX7.out.step hp; have HX8 := Hd hx; clear hp hx)
      refine ⟨⟨k + 1, v8, _, by omega, by go_num, HX8.out, ?_⟩, by simp [intOf]; omega⟩
      rw [← HF.out, HST.out, Ps.evs, Ps.evs_append]
      rfl
     ·rw [if_neg hlast] at HST
      have l3 : ¬ (k : Int) < (nl : Int) - 1 := by omega
      have HP2 := Hd (wput_new [[10]] HX6.out.wa (by simp) (by simp))
      go_wp2_with (go_at_call 66; refine HP2.out.mono ?_; rintro e w8 ⟨rfl, hp⟩; obtain ⟨v8, hx⟩ := HX6.out.step hp; have HX8 := Hd hx; clear hp hx)
      refine ⟨⟨k + 1, v8, _, by omega, by go_num, HX8.out, ?_⟩, by simp [intOf]; omega⟩
      rw [← HF.out, HST.out, Ps.evs, Ps.evs_append]
      rfl
end Go.Proofs.YtjhonaglmgmpiaaGreatDoor
namespace Go.Proofs.YtjhonaglmgmpiaaGreatDoor
namespace Ps
open Lx
def awT : Txt := [97, 116, 58, 32, 105, 32, 112, 117, 116, 58, 32, 118, 32, 97, 32, 102, 111, 111, 58, 32, 49, 32, 43, 32, 50, 32, 98, 97, 114, 59, 32, 98, 97, 122, 59, 32, 97, 116, 58, 32, 51]
def awO : Txt := [97, 116, 58, 32, 105, 32, 112, 117, 116, 58, 32, 118, 10, 9, 97, 32, 102, 111, 111, 58, 32, 49, 32, 43, 32, 50, 32, 98, 97, 114, 59, 32, 98, 97, 122, 59, 32, 97, 116, 58, 32, 51, 10]
def awF : Tr × Nat × Nat := finish (meth (lexT awT).1 awT.length (10 * (lexT awT).1.length + 9))
theorem aw_lex : (lexT awT).2.2 = 0 := by decide +kernel
theorem aw_ok : awF.2 = (0, 0) := by decide +kernel
theorem aw_valid : methV awF.1 = true := by decide +kernel
theorem aw_print : printF awF.1 = (awO, 0) := by decide +kernel
theorem aw_nodes : awF.1.nodes.length = 1 ∧ (awF.1.nodes.headD Tr.zero).kind = 6 ∧ (awF.1.nodes.headD Tr.zero).nodes.length = 4 := by decide +kernel
end Ps
end Go.Proofs.YtjhonaglmgmpiaaGreatDoor
