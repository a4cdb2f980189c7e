/-
  The document's Encode f11. No statement of the seat is proved here.
-/
import Derived.Test.YtaeegkljldngmaaCwE
namespace Go.Proofs.Ytaeegkljldngmaa
open Go.RowKit

set_option maxRecDepth 100000 in
set_option maxHeartbeats 4000000 in
theorem Rencode_any (A : Option Addr) (n c : Nat) (l : List Ins) (w : World) (hl : RdI w w.heap.size A n l) (hn : n ≤ 3518437208883) : Calls Try.prog 11 #[.slice A n c] w (EncP (encF [] l) w) := by
  obtain ⟨R, hR⟩ : ∃ R, encF [] l = R := ⟨_, rfl⟩
  rw [hR]
  have HR := Lib.hid hR
  have HL := Lib.hid hl
  have hln := hl.1
  have z43 := zero43
  subst hln
  clear hR hl
  go_enter Try.func11, Try.ntmps11
  go_wp2
  go_loopw [4, 10] (fun u i wr => ∃ (k : Nat) (acc : List UInt8), k ≤ l.length ∧ i = .int .i64 k ∧ OwnB 5 wr w.heap.size u acc ∧ Below w.heap.size w wr ∧ acc.length ≤ 6 * k ∧ encF acc (l.drop k) = R) (fun _ i _ => l.length - (intOf i).toNat)
  case atStart => exact ⟨0, [], by omega, rfl, OwnB.nil 5 _ _, Below.refl _ _, by simp, HR.out⟩
  case round =>
    obtain ⟨k, acc, hk, rfl, hown, hbel, hacc, hrest⟩ := hrel
    have HB := Lib.hid hbel
    have HO := Lib.hid hown
    have hws := hbel.size
    obtain ⟨Au, cu, rfl, hc1, hc2⟩ := hown.form
    clear hbel hown
    by_cases hlt : k < l.length
    · obtain ⟨x, hx⟩ : ∃ x, l[k]? = some x := ⟨_, List.getElem?_eq_getElem hlt⟩
      have hd : l.drop k = x :: l.drop (k + 1) := by
        rw [List.drop_eq_getElem_cons hlt]
        rw [List.getElem?_eq_getElem hlt] at hx
        injection hx with hx
        rw [hx]
      rw [hd] at hrest
      have HE := Lib.hid hrest
      obtain ⟨b, o, rfl, hb, hcs⟩ := (HL.out.below HB.out).2 k x hx
      obtain ⟨e0, e1, e2, e3, e4⟩ := cs43 hcs
      clear hrest hd hx hcs
      have H33 := Lib.hid (Rmay_any x)
      have HLY := Lib.hid fun (h : mayE x = 0) w => Lay_any x w h
      have HLL := Lib.hid (layI_len x)
      have HE0 : Hid (mayE x = 0 → encF (acc ++ layI x) (l.drop (k + 1)) = R) := Lib.hid fun h => by
        have := HE.out
        unfold encF at this
        rw [if_pos h] at this
        exact this
      have HEN : Hid (mayE x ≠ 0 → (mayE x, []) = R) := Lib.hid fun h => by
        have := HE.out
        unfold encF at this
        rw [if_neg h] at this
        exact this
      simp only [Ins.val] at H33 HLY
      clear HE
      generalize layI x = L at *
      generalize mayE x = er at *
      obtain ⟨op, a1, a2, a3, a4⟩ := x
      dsimp only at e0 e1 e2 e3 e4 H33 HLY
      have l1 : (0 : Int) ≤ (k : Int) := by omega
      have l2 : (k : Int) < (l.length : Int) := by omega
      have hbw : b < wr.heap.size := by omega
      go_upto_region 6 with (go_at_call 33; refine (H33.out _).mono ?_; rintro e w1 ⟨rfl, hb1⟩; have HB1 := Lib.hid hb1; clear hb1)
      have HX1 := Lib.hid ((Blk.new wr 43 #[.int .i64 op, .int .i64 a1, .int .i64 a2, .int .i64 a3, .int .i64 a4]).below HB1.out (by simp))
      have HW1 : Hid (Below wr.heap.size wr w1) := Lib.hid (((Below.refl _ _).alloc (Nat.le_refl _) _).trans (HB1.out.mono (by simp)))
      have HO1 : Hid (OwnB 5 w1 w.heap.size (.slice Au acc.length cu) acc) := Lib.hid (own_same HO.out fun j hj => HW1.out.block j (World.ownsRow.lt HO.out j hj).2)
      have HB2 := Lib.hid (HB.out.trans (HW1.out.mono hws))
      clear HB1 HW1 HO HB e0 e1 e2 e3 e4 hb hbw H33
      by_cases her : er = 0
      · subst her
        have HLY2 := Lib.hid (HLY.out rfl)
        have HN := Lib.hid (HE0.out rfl)
        have f0 : w1.cell? ⟨wr.heap.size, 0, none⟩ = some (.int .i64 op) := HX1.out.cell 0
        have f1 : w1.cell? ⟨wr.heap.size, 1, none⟩ = some (.int .i64 a1) := HX1.out.cell 1
        have f2 : w1.cell? ⟨wr.heap.size, 2, none⟩ = some (.int .i64 a2) := HX1.out.cell 2
        have f3 : w1.cell? ⟨wr.heap.size, 3, none⟩ = some (.int .i64 a3) := HX1.out.cell 3
        have f4 : w1.cell? ⟨wr.heap.size, 4, none⟩ = some (.int .i64 a4) := HX1.out.cell 4
        clear HLY HE0 HEN
        go_wp2_with (first
          | (go_at_call 34; refine (HLY2.out _).mono ?_; rintro e w2 ⟨v2, rfl, ho2, hb2⟩; have HO2 : Hid (OwnB 5 w2 w.heap.size (.slice Au acc.length cu) acc) := Lib.hid (own_same HO1.out fun j hj => hb2.block j (World.ownsRow.lt HO1.out j hj).2); have HV2 := Lib.hid ho2; have HB3 := Lib.hid (HB2.out.trans (hb2.mono HB2.out.size)); obtain ⟨A2, c2, rfl, _, _⟩ := ho2.form; clear ho2 hb2)
          | (at_builtin; refine wpList_app rfl _ _ _ rfl w.heap.size 5 info5 Try.underlying23 _ acc rfl HO2.out _ _ _ _ L rfl (HV2.out.reads rfl) (by have := HLL.out; simp; omega) HB3.out.size ?_; intro v3 w3 ho3 ha3; have HO3 := Lib.hid ho3; have HB4 := Lib.hid (HB3.out.trans (ha3.below HB3.out.size fun j hj => (World.ownsRow.lt HO2.out j hj).1)); clear ho3 ha3))
        go_roundw
        case rel => exact ⟨k + 1, _, by omega, by go_num, HO3.out, HB4.out, by have := HLL.out; simp; omega, HN.out⟩
        case measure => simp [intOf]; omega
      · have HF := Lib.hid (HEN.out her)
        have d : (er != 0) = true := by simpa using her
        clear HE0 HEN HLY her
        go_wp2
        go_ret2
        exact EncP.bad_ HF.out HB2.out
    · have hke : l.drop k = [] := List.drop_eq_nil_of_le (by omega)
      rw [hke] at hrest
      unfold encF at hrest
      by_cases h32 : 32767 < acc.length
      · rw [if_pos h32] at hrest
        have HM := Lib.hid hrest
        clear hrest
        go_wp2
        go_ret2
        exact EncP.bad_ HM.out HB.out
      · rw [if_neg h32] at hrest
        have HM := Lib.hid hrest
        clear hrest
        go_wp2
        go_ret2
        exact EncP.ok_ HM.out HO.out HB.out
end Go.Proofs.Ytaeegkljldngmaa
