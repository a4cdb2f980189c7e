/-
  The walk of chunk. No statement of the seat is proved here.
-/
import Derived.Test.YtjhkfpemcplaaaaClP
import Derived.Test.YtjhkfpemcplaaaaPu
namespace Go.Proofs.Ytjhkfpemcplaaaa
open Go.RowKit

theorem _root_.Go.RowKit.Below.trans_grown {w w1 w2 : World} {e : TypeId} {size n : Nat} {v : Value} {xs : List Value} (h : Below w.heap.size w w1) (ho : w1.ownsRow w.heap.size e size v n xs) (hg : w1.grownBy w2 v.ownBlock) : Below w.heap.size w w2 :=
  h.trans ⟨hg.os, hg.tape, hg.output, hg.size, fun k hk => hg.block k (by have := h.size; omega) (fun e => by have := (World.ownsRow.lt ho k e.symm).1; omega)⟩
/-- a deed in memory -/
def ddV (K xk : Int) (xh : Nat) (xA : Option Addr) (xn xc : Nat) (xs : ByteArray) (k : Int) (t s a : Nat) (A : Option Addr) (n c : Nat) (B : Option Addr) (nb cb : Nat) (Z : Int) : Array Value :=
  #[.int .i64 K, .int .i64 xk, .int .u64 (xh : Int), .slice xA xn xc, .string xs, .int .i64 k, .int .u64 (t : Int), .int .u64 (s : Int), .int .u64 (a : Int), .slice A n c, .slice B nb cb, .int .i64 Z]
/-- what arrives -/
def chunkB (K k : Int) (t s a : Nat) (body bb : List UInt8) : List UInt8 := if K.tmod 10 = 5 ∨ mayB k body.length = false then bb else packB k t s a body ++ bb
def ChP (w : World) (bs : List UInt8) (e : Ending) (w' : World) : Prop := ∃ A n c, e = .returned (.slice A n c) ∧ n = bs.length ∧ RdB w' w'.heap.size A n bs ∧ Below w.heap.size w w'
set_option maxRecDepth 20000 in
set_option maxHeartbeats 2000000 in
theorem chunk_any (K xk : Int) (xh : Nat) (xA : Option Addr) (xn xc : Nat) (xs : ByteArray) (k : Int) (t s a : Nat) (A : Option Addr) (n c : Nat) (B : Option Addr) (nb cb : Nat) (Z : Int) (body bb : List UInt8) (w : World)
    (hr : RdB w w.heap.size A n body) (hrb : RdB w w.heap.size B nb bb) (ht : t < 18446744073709551616) (hs : s < 18446744073709551616) (ha : a < 18446744073709551616) (hnb : nb ≤ 140737488351232) :
    Calls Try.prog 39 #[.agg (ddV K xk xh xA xn xc xs k t s a A n c B nb cb Z)] w (ChP w (chunkB K k t s a body bb)) := by
  unfold ddV
  have hb1 : Below w.heap.size w (w.alloc (.cells #[.int .i64 K, .int .i64 xk, .int .u64 (xh : Int), .slice xA xn xc, .string xs, .int .i64 k, .int .u64 (t : Int), .int .u64 (s : Int), .int .u64 (a : Int), .slice A n c, .slice B nb cb, .int .i64 Z] 41)) := (Below.refl _ _).alloc (Nat.le_refl _) _
  have HB1 := Lib.hid hb1
  have HR1 := Lib.hid ((hr.below hb1).more hb1.size)
  have HRB := Lib.hid ((hrb.below hb1).more hb1.size)
  have hX := Blk.new w 41 #[.int .i64 K, .int .i64 xk, .int .u64 (xh : Int), .slice xA xn xc, .string xs, .int .i64 k, .int .u64 (t : Int), .int .u64 (s : Int), .int .u64 (a : Int), .slice A n c, .slice B nb cb, .int .i64 Z]
  have HBN : Hid (bb.length = nb) := Lib.hid hrb.len1
  have HLN : Hid (body.length = n) := Lib.hid hr.len1
  clear hr hrb hb1
  generalize hw1 : w.alloc (.cells #[.int .i64 K, .int .i64 xk, .int .u64 (xh : Int), .slice xA xn xc, .string xs, .int .i64 k, .int .u64 (t : Int), .int .u64 (s : Int), .int .u64 (a : Int), .slice A n c, .slice B nb cb, .int .i64 Z] 41) = w1 at *
  have hbx := hX.lt
  generalize hbb : w.heap.size = b at *
  have y0 : w1.cell? ⟨b, 0, none⟩ = some (.int .i64 K) := hX.cell 0
  have y5 : w1.cell? ⟨b, 5, none⟩ = some (.int .i64 k) := hX.cell 5
  have y6 : w1.cell? ⟨b, 6, none⟩ = some (.int .u64 (t : Int)) := hX.cell 6
  have y7 : w1.cell? ⟨b, 7, none⟩ = some (.int .u64 (s : Int)) := hX.cell 7
  have y8 : w1.cell? ⟨b, 8, none⟩ = some (.int .u64 (a : Int)) := hX.cell 8
  have y9 : w1.cell? ⟨b, 9, none⟩ = some (.slice A n c) := hX.cell 9
  have y10 : w1.cell? ⟨b, 10, none⟩ = some (.slice B nb cb) := hX.cell 10
  have HM := Lib.hid fun w => rmay_any k (.int .u64 (t : Int)) (.int .u64 (s : Int)) (.int .u64 (a : Int)) A n c w ⟨_, rfl⟩ ⟨_, rfl⟩ ⟨_, rfl⟩
  have HQT : Hid (K.tmod 10 = 5 ∨ mayB k body.length = false → ∀ w', Below w1.heap.size w1 w' → ChP w (chunkB K k t s a body bb) (.returned (.slice B nb cb)) w') := Lib.hid fun h w' hb => by
    unfold chunkB
    rw [if_pos h]
    exact ⟨B, nb, cb, rfl, HBN.out.symm, (HRB.out.below hb).more hb.size, by rw [hbb]; exact HB1.out.trans (hb.mono (Nat.le_of_lt hbx))⟩
  clear hX
  by_cases h5 : K.tmod 10 = 5
  · have e5 : (K.tmod 10 == 5) = true := by simp [h5]
    have HQ := Lib.hid (HQT.out (.inl h5))
    clear HM HQT y5 y6 y7 y8 y9
    go_enter Try.func39, Try.ntmps39
    go_wp2
    go_ret
    exact HQ.out _ (Below.refl _ _)
  · have e5 : (K.tmod 10 == 5) = false := by simp [h5]
    cases hm : mayB k n with
    | false =>
      have HQ := Lib.hid (HQT.out (.inr (by rw [HLN.out]; exact hm)))
      rw [hm] at HM
      clear HQT hm h5
      go_enter Try.func39, Try.ntmps39
      go_wp2_with (go_at_call 47; refine (HM.out _).mono ?_; rintro e w2 ⟨rfl, rfl⟩)
      go_ret
      exact HQ.out _ ((Below.refl _ _).alloc (Nat.le_refl _) _)
    | true =>
      have HM2 : Hid (Calls Try.prog 47 #[.agg #[.int .i64 k, .int .u64 (t : Int), .int .u64 (s : Int), .int .u64 (a : Int), .slice A n c]] w1 fun e w' => e = .returned (.bool true) ∧ Below w1.heap.size w1 w') := Lib.hid ((HM.out w1).mono fun e w' ⟨h1, h2⟩ => ⟨by rw [h1, hm], h2 ▸ (Below.refl _ _).alloc (Nat.le_refl _) _⟩)
      have HPK := Lib.hid fun (w' : World) (hb : Below w1.heap.size w1 w') => rpack_ok k t s a A n c body w' ((HR1.out.below hb).more hb.size) hm ht hs ha
      have HCH : Hid (chunkB K k t s a body bb = packB k t s a body ++ bb) := Lib.hid (by
        unfold chunkB
        rw [if_neg (by rw [HLN.out, hm]; simp [h5])])
      have HL : Hid ((packB k t s a body).length ≤ 1088) := Lib.hid (by
        obtain ⟨_, _, h9⟩ := mayB_no hm
        have h8 := (inner_len k t s a body (by rw [HLN.out]; exact h9)).2
        unfold packB
        rw [frame_len]
        omega)
      clear HQT HM h5 ht hs ha
      go_enter Try.func39, Try.ntmps39
      go_upto_region 3 with (go_at_call 47; refine HM2.out.mono ?_; rintro e w2 ⟨rfl, hb2⟩; have HB2 := Lib.hid hb2; clear hb2)
      obtain ⟨i0, hi, hz0, hz1, hz2⟩ := info_parts info5
      have x10 : ∀ w3, Below w1.heap.size w1 w3 → w3.cell? ⟨b, 5, none⟩ = some (.int .i64 k) ∧ w3.cell? ⟨b, 6, none⟩ = some (.int .u64 (t : Int)) ∧ w3.cell? ⟨b, 7, none⟩ = some (.int .u64 (s : Int)) ∧ w3.cell? ⟨b, 8, none⟩ = some (.int .u64 (a : Int)) ∧ w3.cell? ⟨b, 9, none⟩ = some (.slice A n c) ∧ w3.cell? ⟨b, 10, none⟩ = some (.slice B nb cb) := fun w3 h => ⟨(h.cell hbx).trans y5, (h.cell hbx).trans y6, (h.cell hbx).trans y7, (h.cell hbx).trans y8, (h.cell hbx).trans y9, (h.cell hbx).trans y10⟩
      clear y0 y5 y6 y7 y8 y9 y10
      refine wp_region_held_drew (S := fun W => W.cell? ⟨b, 5, none⟩ = some (.int .i64 k) ∧ W.cell? ⟨b, 6, none⟩ = some (.int .u64 (t : Int)) ∧ W.cell? ⟨b, 7, none⟩ = some (.int .u64 (s : Int)) ∧ W.cell? ⟨b, 8, none⟩ = some (.int .u64 (a : Int)) ∧ W.cell? ⟨b, 9, none⟩ = some (.slice A n c) ∧ W.cell? ⟨b, 10, none⟩ = some (.slice B nb cb)) (by kernel_rfl) (x10 _ HB2.out.drew) (fun hHeld => ?_)
      refine wpAnyH_take (i := 0) (v := ?_) (by simp only [List.getElem?_toArray, List.getElem?_cons_zero]; rfl) (by kernel_rfl) (by kernel_rfl) (by kernel_rfl) (by exact fun _ _ _ h => h) (Or.inl ⟨by rfl, ?_⟩) (by assumption) ?_
      rotate_left
      · intro w hSw; (try dsimp only at hSw); go_split_ands; go_simp <;> with_reducible rfl
      try simp only [Act.put, List.setIfInBounds_toArray, List.set_cons_zero, List.set_cons_succ]
      refine wpAnyH_take (i := 1) (v := ?_) (by simp only [List.getElem?_toArray, List.getElem?_cons_succ, List.getElem?_cons_zero]; rfl) (by kernel_rfl) (by kernel_rfl) (by kernel_rfl) (by exact fun _ _ _ h => h) (Or.inl ⟨by rfl, ?_⟩) (by assumption) ?_
      rotate_left
      · intro w hSw; (try dsimp only at hSw); go_split_ands; go_simp <;> with_reducible rfl
      try simp only [Act.put, List.setIfInBounds_toArray, List.set_cons_zero, List.set_cons_succ]
      refine wpAnyH_take (i := 3) (v := ?_) (by simp only [List.getElem?_toArray, List.getElem?_cons_succ, List.getElem?_cons_zero]; rfl) (by kernel_rfl) (by kernel_rfl) (by kernel_rfl) (by exact fun _ _ _ h => h) (Or.inl ⟨by rfl, ?_⟩) (by assumption) ?_
      rotate_left
      · intro w hSw; (try dsimp only at hSw); go_split_ands; go_simp <;> with_reducible rfl
      try simp only [Act.put, List.setIfInBounds_toArray, List.set_cons_zero, List.set_cons_succ]
      refine wpAnyH_take (i := 4) (v := ?_) (by simp only [List.getElem?_toArray, List.getElem?_cons_succ, List.getElem?_cons_zero]; rfl) (by kernel_rfl) (by kernel_rfl) (by kernel_rfl) (by exact fun _ _ _ h => h) (Or.inl ⟨by rfl, ?_⟩) (by assumption) ?_
      rotate_left
      · intro w hSw; (try dsimp only at hSw); go_split_ands; go_simp <;> with_reducible rfl
      try simp only [Act.put, List.setIfInBounds_toArray, List.set_cons_zero, List.set_cons_succ]
      refine wpAnyH_ready (rs := [2]) (by kernel_rfl) (by simp) ?_
      refine AllReadyH.cons (by simp only [List.getElem?_toArray, List.getElem?_cons_succ, List.getElem?_cons_zero]; rfl) (fun K hK => ?_) AllReadyH.nil
      go_simp
      go_at_call 23
      refine (HPK.out _ HB2.out.drew).mono ?_
      rintro e w3 ⟨v3, rfl, ho3, hb3⟩
      obtain ⟨A3, c3, rfl, _, _⟩ := own_formL ho3
      have HB3 : Hid (Below w2.heap.size w2 w3) := Lib.hid ⟨hb3.os, hb3.tape, hb3.output, hb3.size, hb3.block⟩
      have HO3 : Hid (OwnB 5 w3 w2.heap.size (.slice A3 (packB k t s a body).length c3) (packB k t s a body)) := Lib.hid ho3
      have HBC : Hid (Below w1.heap.size w1 w3) := Lib.hid (HB2.out.trans (HB3.out.mono HB2.out.size))
      have hS3 := x10 w3 HBC.out
      clear ho3 hb3
      try go_simp
      refine hK.out _ _ (hS3) (fun hHeld => ?_)
      clear hK K
      try simp only [Act.put, List.setIfInBounds_toArray, List.set_cons_zero, List.set_cons_succ]
      refine wpAnyH_ready (rs := [5]) (by kernel_rfl) (by simp) ?_
      refine AllReadyH.cons (by simp only [List.getElem?_toArray, List.getElem?_cons_succ, List.getElem?_cons_zero]; rfl) (fun K hK => ?_) AllReadyH.nil
      (refine step_append_any _ rfl (.tmp 17) (.tmp 19) 37 rfl w2.heap.size 5 i0 _ 1 1 Try.underlying37 hi hz0 hz1 hz2 rfl (by decide) (.slice A3 (packB k t s a body).length c3) (packB k t s a body).length ((packB k t s a body).map bv) (by rfl) HO3.out w1.heap.size B nb cb (bb.map bv) (by rfl) (HRB.out.below HBC.out) (by simp [Value.oneCell', bv]) (by have := HL.out; simp only [maxLen]; omega) (by have := HL.out; omega) HB3.out.size ?_; intro v5 w5 hr5 hg5 hv5; have hr6 : OwnB 5 w5 w2.heap.size v5 (packB k t s a body ++ bb) := (by unfold OwnB; rw [List.map_append, List.length_append, HBN.out]; exact hr5); obtain ⟨A5, c5, rfl, _, _⟩ := own_formL hr6; have HRR : Hid (RdB w5 w5.heap.size A5 (packB k t s a body ++ bb).length (packB k t s a body ++ bb)) := Lib.hid (OwnB.reads (e := 5) (c := c5) hr6 rfl); have hB5 : Below w2.heap.size w2 w5 := HB3.out.trans_grown HO3.out hg5; have HB5 : Hid (Below w1.heap.size w1 w5) := Lib.hid (HB2.out.trans (hB5.mono HB2.out.size)); have hS5 := x10 w5 HB5.out; clear hr5 hg5 hv5 hB5 hr6)
      try go_simp
      refine hK.out _ _ (hS5) (fun hHeld => ?_)
      clear hK K
      try simp only [Act.put, List.setIfInBounds_toArray, List.set_cons_zero, List.set_cons_succ]
      refine wpAnyH_ready (rs := [6]) (by kernel_rfl) (by simp) ?_
      refine AllReadyH.cons (by simp only [List.getElem?_toArray, List.getElem?_cons_succ, List.getElem?_cons_zero]; rfl) (fun K hK => ?_) AllReadyH.nil
      go_simp
      refine hK.out _ _ (hHeld) (fun hHeld => ?_)
      clear hK K
      try simp only [Act.put, List.setIfInBounds_toArray, List.set_cons_zero, List.set_cons_succ]
      refine wpAnyH_done (by kernel_rfl) ?_ _
      go_wp2
      go_ret
      exact ⟨A5, _, c5, rfl, by rw [HCH.out, List.length_append, HBN.out], by rw [HCH.out]; have h9 := HRR.out; rw [List.length_append] at h9; exact h9, by rw [hbb]; exact HB1.out.trans (HB5.out.mono (Nat.le_of_lt hbx))⟩
end Go.Proofs.Ytjhkfpemcplaaaa
