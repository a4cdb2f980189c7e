/-
  The walk of OopBytes: it returns true, and writes nothing that was there.
-/
import Derived.Test.YtlopmhnakehnaaaDoorHdr4
import Derived.Test.YtlopmhnakehnaaaDoorSame
import Derived.Test.YtlopmhnakehnaaaDoorRpk
import Derived.Test.YtlopmhnakehnaaaDoorRunb
namespace Go.Proofs.YtlopmhnakehnaaaDoor
open Go.RowKit

theorem Spares.below {w w' : World} (h : Spares w) (hb : Below w.heap.size w w') (hz : 0 < w.heap.size) : Spares w' := fun i hi => by rw [hb.cell (p := ⟨0, i, none⟩) hz]; exact h i hi
/-- the world of the walk -/
def SB (w0 : World) (A A2 A3 A4 : Option Addr) (bs : List UInt8) (ws : List Nat) (W : World) : Prop :=
  RdB W W.heap.size A bs.length bs ∧ RdB W W.heap.size A3 bs.length bs ∧ RdW W W.heap.size A2 ws.length ws ∧ RdW W W.heap.size A4 ws.length ws ∧ Spares W ∧ 0 < W.heap.size ∧ Below w0.heap.size w0 W
theorem SB.below {w0 W W' : World} {A A2 A3 A4 : Option Addr} {bs : List UInt8} {ws : List Nat} (h : SB w0 A A2 A3 A4 bs ws W) (hb : Below W.heap.size W W') : SB w0 A A2 A3 A4 bs ws W' := by
  obtain ⟨h1, h2, h3, h4, h5, h6, h7⟩ := h
  exact ⟨(h1.below hb).more hb.size, (h2.below hb).more hb.size, (h3.below hb).more hb.size, (h4.below hb).more hb.size, h5.below hb h6, Nat.lt_of_lt_of_le h6 hb.size, h7.trans (hb.mono h7.size)⟩
theorem unpR_len (ws : List Nat) (sp : Int) : (unpR ws sp).1.length ≤ 262140 := by
  unfold unpR
  split
  · simp
  · split
    · simp
    · split
      · have := unpB_len ws
        simp only [List.length_take]
        omega
      · simp
set_option maxRecDepth 20000 in
theorem packb_long (A : Option Addr) (n c : Nat) (w : World) (hn : 262140 < n) (hm : n ≤ 140737488355328) :
    Calls Tryd.prog 27 #[.slice A n c] w fun e w' => e = .returned (.tuple #[.slice none 0 0, .int .i64 0, .int .i64 2]) ∧ w = w' := by
  have HL := Lib.hid (length_out (n : Int) w (.inr (by omega)))
  go_enter Tryd.func27, Tryd.ntmps27
  go_wp2_with fail
  refine HL.out.mono ?_
  rintro e w' ⟨rfl, rfl⟩
  go_wp2
  go_ret3
  exact ⟨rfl, rfl⟩
set_option maxRecDepth 20000 in
set_option maxHeartbeats 8000000 in
theorem lawb_short (A A2 : Option Addr) (c c2 : Nat) (bs : List UInt8) (ws : List Nat) (sp : Int) (w : World) (hs : Spares w) (hz : 0 < w.heap.size) (h : RdB w w.heap.size A bs.length bs) (h2 : RdW w w.heap.size A2 ws.length ws)
    (hx32 : ∀ x ∈ ws, x < 4294967296) (hm : bs.length ≤ 140737488355328) (hm2 : ws.length * 4 ≤ 140737488355328) (hl : bs.length ≤ 262140) :
    Calls Tryd.prog 7 #[.slice A bs.length c, .slice A2 ws.length c2, .int .i64 sp] w fun e w' => e = .returned (.bool true) ∧ Below w.heap.size w w' := by
  have H := Lib.hid h
  have H2 := Lib.hid h2
  have HS := Lib.hid hs
  have HX32 := Lib.hid hx32
  have HM2 := Lib.hid hm2
  clear h h2 hs hx32 hm2
  go_enter Tryd.func7, Tryd.ntmps7
  go_upto_region 2 with (at_builtin; refine wpList_app rfl _ (.tmp 18) 53 rfl w.heap.size 5 info5 Tryd.underlying53 _ [] rfl (OwnB.nil 5 w _) _ A bs.length c bs rfl H.out (by simp; omega) (Nat.le_refl _) ?_; intro v1 w1 hown1 happ1; obtain ⟨A3, c3, hv1, -⟩ := OwnB.form hown1; rw [List.nil_append] at hv1 hown1; subst hv1)
  have HO1 := Lib.hid hown1
  have HB1 := Lib.hid (happ1.below (base := w.heap.size) (Nat.le_refl _) (fun k hk => by cases hk))
  clear hown1 happ1
  go_upto_region 3 with (at_builtin; refine wpList_appE rfl _ (.tmp 20) 54 rfl w.heap.size 22 (.int .u32 0) 1 4 info22 Tryd.underlying54 rfl (by omega) _ 0 [] rfl (World.ownsRow_nil w1 w.heap.size 22 1) _ A2 ws.length c2 (ws.map wv) rfl (H2.out.below HB1.out) (wv_one _) (by have := HM2.out; simp only [maxLen]; omega) (by have := HM2.out; omega) HB1.out.size ?_; intro v2 w2 hown2 hg2; obtain ⟨A4, c4, hv2⟩ := own_form hown2; rw [Nat.zero_add, List.nil_append] at hown2; rw [Nat.zero_add] at hv2; subst hv2)
  have hg3 : w1.grownBy w2 none := hg2
  have hb2 : Below w.heap.size w w2 := HB1.out.grown hg3 HB1.out.size (fun k hk => by cases hk)
  have HSB : Hid (SB w A A2 A3 A4 bs ws w2) := Lib.hid ⟨(H.out.below hb2).more hb2.size, OwnB.reads (World.ownsRow.kept HO1.out hg3 (by cases (Value.slice A3 bs.length c3).ownBlock <;> simp)) rfl, (H2.out.below hb2).more hb2.size, Reads.of_own hown2, HS.out.below hb2 hz, Nat.lt_of_lt_of_le hz hb2.size, hb2⟩
  clear hown2 hg2 hg3 hb2 HO1 HB1 H H2 HS hz
  go_wp2_with fail
  refine (packb_any A c bs w2 HSB.out.1 hl).mono ?_
  rintro e w3 ⟨g, F, hF, rfl, hb3, hrow, hg⟩
  obtain ⟨pws, HPW⟩ : ∃ pws, Hid (pws = (List.range F).map (pk bs bs.length)) := ⟨_, rfl⟩
  have hP : RdW w3 w3.heap.size (some ⟨g, 0, none⟩) F pws := by rw [HPW.out]; exact Reads.of_rowIs hrow
  have HSB := Lib.hid (HSB.out.below hb3)
  have HP := Lib.hid hP
  have HF := Lib.hid hF
  clear hb3 hrow hg hP hF
  go_wp2_with fail
  refine (unpackb_any A2 ws.length c2 ws sp w3 HSB.out.2.2.1 HX32.out (by have := HM2.out; omega)).mono ?_
  rintro e w4 ⟨hb4, A5, c5, rfl, hr5⟩
  have HP := Lib.hid ((HP.out.below hb4).more hb4.size)
  have HSB := Lib.hid (HSB.out.below hb4)
  have hul := unpR_len ws sp
  obtain ⟨U, HU⟩ : ∃ U, Hid ((unpR ws sp).1 = U) := ⟨_, rfl⟩
  obtain ⟨K, HK⟩ : ∃ K, Hid ((unpR ws sp).2 = K) := ⟨_, rfl⟩
  rw [HU.out] at hr5 hul
  rw [HU.out, HK.out]
  have HR5 := Lib.hid hr5
  clear hb4 hr5
  go_wp2_with fail
  refine (awake_any _ HSB.out.2.2.2.2.1 HSB.out.2.2.2.2.2.1).mono ?_
  rintro e w5 ⟨rfl, hb⟩
  have HP := Lib.hid ((HP.out.below hb).more hb.size)
  have HSB := Lib.hid (HSB.out.below hb)
  have HR5 := Lib.hid ((HR5.out.below hb).more hb.size)
  clear hb
  go_wp2_with fail
  refine (bytes_any A A3 bs.length c c3 bs _ HSB.out.1 HSB.out.2.1 (by omega)).mono ?_
  rintro e w6 ⟨rfl, hb⟩
  have HP := Lib.hid ((HP.out.below hb).more hb.size)
  have HSB := Lib.hid (HSB.out.below hb)
  have HR5 := Lib.hid ((HR5.out.below hb).more hb.size)
  clear hb
  go_wp2_with fail
  refine (words_any A2 A4 ws.length c2 c4 ws _ HSB.out.2.2.1 HSB.out.2.2.2.1 (by have := HM2.out; omega)).mono ?_
  rintro e w7 ⟨rfl, hb⟩
  have HP := Lib.hid ((HP.out.below hb).more hb.size)
  have HSB := Lib.hid (HSB.out.below hb)
  have HR5 := Lib.hid ((HR5.out.below hb).more hb.size)
  clear hb
  go_wp2_with fail
  refine (rlength_in (bs.length : Int) _ (by omega) (by omega)).mono ?_
  rintro e w8 ⟨rfl, rfl⟩
  have hcd : ((bs.length : Int) + 3) / 4 = (F : Int) := by have := HF.out; omega
  rw [hcd]
  clear hcd
  go_wp2_with fail
  refine (rpackb_any A c bs _ HSB.out.1 hl).mono ?_
  rintro e w8 ⟨g', F', hF', rfl, hb, hrow, hg⟩
  obtain rfl : F' = F := hF'.trans HF.out.symm
  have hP' : RdW w8 w8.heap.size (some ⟨g', 0, none⟩) F' pws := by rw [HPW.out]; exact Reads.of_rowIs hrow
  have HP' := Lib.hid hP'
  clear hrow hg hP' hF'
  have HP := Lib.hid ((HP.out.below hb).more hb.size)
  have HSB := Lib.hid (HSB.out.below hb)
  have HR5 := Lib.hid ((HR5.out.below hb).more hb.size)
  clear hb
  go_wp2_with fail
  refine (words_any _ _ F' F' F' pws _ HP.out HP'.out (by have := HF.out; omega)).mono ?_
  rintro e w9 ⟨rfl, hb⟩
  have HSB := Lib.hid (HSB.out.below hb)
  have HR5 := Lib.hid ((HR5.out.below hb).more hb.size)
  clear hb
  go_wp2_with fail
  refine (runpackb_any A2 ws.length c2 ws sp _ HSB.out.2.2.1 HX32.out (by have := HM2.out; omega)).mono ?_
  rintro e w10 ⟨hb, A6, c6, rfl, hr6⟩
  rw [HU.out] at hr6
  rw [HU.out, HK.out]
  have HR6 := Lib.hid hr6
  have HSB := Lib.hid (HSB.out.below hb)
  have HR5 := Lib.hid ((HR5.out.below hb).more hb.size)
  clear hb hr6
  go_wp2_with fail
  refine (bytes_any A5 A6 U.length c5 c6 U _ HR5.out HR6.out (by omega)).mono ?_
  rintro e w11 ⟨rfl, hb⟩
  have HSB := Lib.hid (HSB.out.below hb)
  clear hb
  go_wp2_with fail
  go_ret
  exact ⟨rfl, HSB.out.2.2.2.2.2.2⟩
set_option maxRecDepth 20000 in
set_option maxHeartbeats 8000000 in
theorem lawb_long (A A2 : Option Addr) (c c2 : Nat) (bs : List UInt8) (ws : List Nat) (sp : Int) (w : World) (hs : Spares w) (hz : 0 < w.heap.size) (h : RdB w w.heap.size A bs.length bs) (h2 : RdW w w.heap.size A2 ws.length ws)
    (hx32 : ∀ x ∈ ws, x < 4294967296) (hm : bs.length ≤ 140737488355328) (hm2 : ws.length * 4 ≤ 140737488355328) (hl : 262140 < bs.length) :
    Calls Tryd.prog 7 #[.slice A bs.length c, .slice A2 ws.length c2, .int .i64 sp] w fun e w' => e = .returned (.bool true) ∧ Below w.heap.size w w' := by
  have H := Lib.hid h
  have H2 := Lib.hid h2
  have HS := Lib.hid hs
  have HX32 := Lib.hid hx32
  have HM2 := Lib.hid hm2
  clear h h2 hs hx32 hm2
  go_enter Tryd.func7, Tryd.ntmps7
  go_upto_region 2 with (at_builtin; refine wpList_app rfl _ (.tmp 18) 53 rfl w.heap.size 5 info5 Tryd.underlying53 _ [] rfl (OwnB.nil 5 w _) _ A bs.length c bs rfl H.out (by simp; omega) (Nat.le_refl _) ?_; intro v1 w1 hown1 happ1; obtain ⟨A3, c3, hv1, -⟩ := OwnB.form hown1; rw [List.nil_append] at hv1 hown1; subst hv1)
  have HO1 := Lib.hid hown1
  have HB1 := Lib.hid (happ1.below (base := w.heap.size) (Nat.le_refl _) (fun k hk => by cases hk))
  clear hown1 happ1
  go_upto_region 3 with (at_builtin; refine wpList_appE rfl _ (.tmp 20) 54 rfl w.heap.size 22 (.int .u32 0) 1 4 info22 Tryd.underlying54 rfl (by omega) _ 0 [] rfl (World.ownsRow_nil w1 w.heap.size 22 1) _ A2 ws.length c2 (ws.map wv) rfl (H2.out.below HB1.out) (wv_one _) (by have := HM2.out; simp only [maxLen]; omega) (by have := HM2.out; omega) HB1.out.size ?_; intro v2 w2 hown2 hg2; obtain ⟨A4, c4, hv2⟩ := own_form hown2; rw [Nat.zero_add, List.nil_append] at hown2; rw [Nat.zero_add] at hv2; subst hv2)
  have hg3 : w1.grownBy w2 none := hg2
  have hb2 : Below w.heap.size w w2 := HB1.out.grown hg3 HB1.out.size (fun k hk => by cases hk)
  have HSB : Hid (SB w A A2 A3 A4 bs ws w2) := Lib.hid ⟨(H.out.below hb2).more hb2.size, OwnB.reads (World.ownsRow.kept HO1.out hg3 (by cases (Value.slice A3 bs.length c3).ownBlock <;> simp)) rfl, (H2.out.below hb2).more hb2.size, Reads.of_own hown2, HS.out.below hb2 hz, Nat.lt_of_lt_of_le hz hb2.size, hb2⟩
  clear hown2 hg2 hg3 hb2 HO1 HB1 H H2 HS hz
  go_wp2_with fail
  refine (packb_long A bs.length c w2 hl hm).mono ?_
  rintro e w3 ⟨rfl, rfl⟩
  go_wp2_with fail
  refine (unpackb_any A2 ws.length c2 ws sp w2 HSB.out.2.2.1 HX32.out (by have := HM2.out; omega)).mono ?_
  rintro e w4 ⟨hb4, A5, c5, rfl, hr5⟩
  have HSB := Lib.hid (HSB.out.below hb4)
  have hul := unpR_len ws sp
  obtain ⟨U, HU⟩ : ∃ U, Hid ((unpR ws sp).1 = U) := ⟨_, rfl⟩
  obtain ⟨K, HK⟩ : ∃ K, Hid ((unpR ws sp).2 = K) := ⟨_, rfl⟩
  rw [HU.out] at hr5 hul
  rw [HU.out, HK.out]
  have HR5 := Lib.hid hr5
  clear hb4 hr5
  go_wp2_with fail
  refine (awake_any _ HSB.out.2.2.2.2.1 HSB.out.2.2.2.2.2.1).mono ?_
  rintro e w5 ⟨rfl, hb⟩
  have HSB := Lib.hid (HSB.out.below hb)
  have HR5 := Lib.hid ((HR5.out.below hb).more hb.size)
  clear hb
  go_wp2_with fail
  refine (bytes_any A A3 bs.length c c3 bs _ HSB.out.1 HSB.out.2.1 (by omega)).mono ?_
  rintro e w6 ⟨rfl, hb⟩
  have HSB := Lib.hid (HSB.out.below hb)
  have HR5 := Lib.hid ((HR5.out.below hb).more hb.size)
  clear hb
  go_wp2_with fail
  refine (words_any A2 A4 ws.length c2 c4 ws _ HSB.out.2.2.1 HSB.out.2.2.2.1 (by have := HM2.out; omega)).mono ?_
  rintro e w7 ⟨rfl, hb⟩
  have HSB := Lib.hid (HSB.out.below hb)
  have HR5 := Lib.hid ((HR5.out.below hb).more hb.size)
  clear hb
  go_wp2_with fail
  refine (runpackb_any A2 ws.length c2 ws sp _ HSB.out.2.2.1 HX32.out (by have := HM2.out; omega)).mono ?_
  rintro e w10 ⟨hb, A6, c6, rfl, hr6⟩
  rw [HU.out] at hr6
  rw [HU.out, HK.out]
  have HR6 := Lib.hid hr6
  have HSB := Lib.hid (HSB.out.below hb)
  have HR5 := Lib.hid ((HR5.out.below hb).more hb.size)
  clear hb hr6
  go_wp2_with fail
  refine (bytes_any A5 A6 U.length c5 c6 U _ HR5.out HR6.out (by omega)).mono ?_
  rintro e w11 ⟨rfl, hb⟩
  have HSB := Lib.hid (HSB.out.below hb)
  clear hb
  go_wp2_with fail
  go_ret
  exact ⟨rfl, HSB.out.2.2.2.2.2.2⟩
theorem lawb_any (A A2 : Option Addr) (n c n2 c2 : Nat) (bs : List UInt8) (ws : List Nat) (sp : Int) (w : World) (hs : Spares w) (hz : 0 < w.heap.size) (h : RdB w w.heap.size A n bs) (h2 : RdW w w.heap.size A2 n2 ws)
    (hx32 : ∀ x ∈ ws, x < 4294967296) (hm : n ≤ 140737488355328) (hm2 : n2 * 4 ≤ 140737488355328) :
    Calls Tryd.prog 7 #[.slice A n c, .slice A2 n2 c2, .int .i64 sp] w fun e w' => e = .returned (.bool true) ∧ Below w.heap.size w w' := by
  obtain rfl : bs.length = n := h.len1
  obtain rfl : ws.length = n2 := h2.lenW
  by_cases hl : bs.length ≤ 262140
  · exact lawb_short A A2 c c2 bs ws sp w hs hz h h2 hx32 hm hm2 hl
  · exact lawb_long A A2 c c2 bs ws sp w hs hz h h2 hx32 hm hm2 (by omega)
end Go.Proofs.YtlopmhnakehnaaaDoor
