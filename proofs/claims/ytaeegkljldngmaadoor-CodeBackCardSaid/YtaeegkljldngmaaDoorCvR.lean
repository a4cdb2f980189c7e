/-
  The law's awake f14. No statement of the seat is proved here.
-/
import Derived.Test.YtaeegkljldngmaaDoorCvQ
import Derived.Test.YtaeegkljldngmaaDoorCdL
namespace Go.Proofs.YtaeegkljldngmaaDoor
open Go.RowKit

def awIn : List Ins := [⟨7, 0, 0, 0, -2⟩, ⟨21, 0, 0, 0, 0⟩]
def awB : List UInt8 := [3, 20, 0, 1, 1, 22]
def awS : Shp := ⟨0, 0, 0, []⟩
theorem aw_enc : encF [] awIn = (0, [7, 255, 254, 21]) := by decide
theorem aw_dec : (decL awB).1 = [⟨3, 0, 0, 0, 0⟩, ⟨20, 0, 0, 0, 1⟩, ⟨1, 0, 0, 0, 0⟩, ⟨22, 0, 0, 0, 0⟩] := by kernel_rfl
theorem aw_ver : verB awS awB = (0, 5, 53) := by kernel_rfl
theorem aw_spl : SplitsOk awS (decL awB).1 := by
  rw [aw_dec]
  refine splits_flat _ fun k hk => ?_
  have : ∀ k : Fin 4, (insD [⟨3, 0, 0, 0, 0⟩, ⟨20, 0, 0, 0, 1⟩, ⟨1, 0, 0, 0, 0⟩, ⟨22, 0, 0, 0, 0⟩] k.1).op ≠ 24 := by decide
  exact this ⟨k, hk⟩
def AwP (w : World) (e : Ending) (w' : World) : Prop := e = .returned (.bool true) ∧ Below w.heap.size w w'
set_option maxRecDepth 100000 in
set_option maxHeartbeats 4000000 in
theorem awake_any (w : World) : Calls Tryd.prog 4 #[] w (AwP w) := by
  have HE := Lib.hid aw_enc
  have HV := Lib.hid aw_ver
  have h21 := Header_ok 1 2 3 w (by decide)
  have HI : Hid (RdI (w.alloc (.cells #[.int .i64 7, .int .i64 0, .int .i64 0, .int .i64 0, .int .i64 (-2), .int .i64 21, .int .i64 0, .int .i64 0, .int .i64 0, .int .i64 0] 34)) (w.alloc (.cells #[.int .i64 7, .int .i64 0, .int .i64 0, .int .i64 0, .int .i64 (-2), .int .i64 21, .int .i64 0, .int .i64 0, .int .i64 0, .int .i64 0] 34)).heap.size (some ⟨w.heap.size, 0, none⟩) 2 awIn) :=
    Lib.hid (RdI.of_own (World.ownsRow_lit (base := w.heap.size) (e := 34) (size := 5) w #[.int .i64 7, .int .i64 0, .int .i64 0, .int .i64 0, .int .i64 (-2), .int .i64 21, .int .i64 0, .int .i64 0, .int .i64 0, .int .i64 0] 2 (Nat.le_refl _) (by decide) rfl))
  have H10 := Lib.hid (Encode_any _ 2 2 awIn _ HI.out (by decide))
  rw [HE.out] at H10
  clear HI HE
  go_enter Tryd.func4, Tryd.ntmps4
  go_upto_region 2 with (go_at_call 12; refine h21.mono ?_; rintro e w' ⟨rfl, rfl⟩)
  clear h21
  go_upto_region 3 with (go_at_call 5; refine H10.out.mono ?_; rintro e w1 ⟨v, rfl, ho, hb⟩; have HO1 := Lib.hid ho; have HB1 := Lib.hid (((Below.refl _ _).alloc (Nat.le_refl _) _).trans (hb.mono (by simp))); clear ho hb)
  clear H10
  obtain ⟨A1, c1, rfl, _, _⟩ := HO1.out.form
  have HV1 := Lib.hid (OwnB.built 5 w1 w1.heap.size (awB.map bv).toArray awB (Nat.le_refl _) (by decide) rfl)
  have H15 := Lib.hid (verify_any (some ⟨w1.heap.size, 0, none⟩) 6 6 awB awS none 0 (w1.alloc (.cells (awB.map bv).toArray 5)) (HV1.out.reads rfl) Reads.none_ aw_spl)
  rw [HV.out] at H15
  have HO2 := Lib.hid (HO1.out.alloc (.cells (awB.map bv).toArray 5))
  have HB2 := Lib.hid (HB1.out.alloc HB1.out.size (.cells (awB.map bv).toArray 5))
  have hal : w1.alloc (.cells #[.int .u8 3, .int .u8 20, .int .u8 0, .int .u8 1, .int .u8 1, .int .u8 22] 5) = w1.alloc (.cells (awB.map bv).toArray 5) := rfl
  go_upto_region 4 with (first | (go_at_call 13; refine H15.out.mono ?_; rintro e w2 ⟨rfl, hb⟩; have HB3 := Lib.hid (HB2.out.trans (hb.mono HB2.out.size)); have HO3 : Hid (OwnB 5 w2 _ _ _) := Lib.hid (own_same HO2.out fun k hk => hb.block k (World.ownsRow.lt HO2.out k hk).2); clear hb))
  clear HO1 HB1 HV1 H15 HO2 HB2 hal HV
  have HW := Lib.hid (OwnB.built 5 w2 w2.heap.size (([7, 255, 254, 21] : List UInt8).map bv).toArray [7, 255, 254, 21] (Nat.le_refl _) (by decide) rfl)
  have H12 := Lib.hid (same_any A1 (some ⟨w2.heap.size, 0, none⟩) 4 4 c1 4 _ _ [7, 255, 254, 21] [7, 255, 254, 21] (w2.alloc (.cells (([7, 255, 254, 21] : List UInt8).map bv).toArray 5)) (OwnB.reads (e := 5) (bs := [7, 255, 254, 21]) (c := c1) (World.ownsRow.alloc HO3.out (.cells (([7, 255, 254, 21] : List UInt8).map bv).toArray 5)) rfl) (HW.out.reads rfl) (by decide))
  have HD : Hid (decide (([7, 255, 254, 21] : List UInt8) = [7, 255, 254, 21]) = true) := Lib.hid (by decide)
  rw [HD.out] at H12
  go_wp2_with (go_at_call 10; refine H12.out.mono ?_; rintro e w3 ⟨rfl, n, rfl⟩)
  go_ret
  exact ⟨rfl, below_drewN (HB3.out.alloc HB3.out.size _) n⟩
end Go.Proofs.YtaeegkljldngmaaDoor
