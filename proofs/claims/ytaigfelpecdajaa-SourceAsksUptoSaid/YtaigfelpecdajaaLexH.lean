/-
  The walk of the lexer's token, second part.
-/
import Derived.Test.YtaigfelpecdajaaLexG
namespace Go.Proofs.Ytaigfelpecdajaa
open Go.RowKit

set_option maxRecDepth 20000 in
set_option maxHeartbeats 4000000 in
theorem ltok_ass (base g : Nat) (s : ByteArray) (i : Nat) (v : Value) (l : List Lx.Tk) (w : World) (h : LxS w base g s (i : Int) v l) (hb0 : base ≤ w.heap.size) (hl : l.length ≤ 65536) (hs : s.size ≤ 65536) (hi : i < s.size) (hb : s[i]'hi = 58) (hq : Lx.isAt s.data.toList (i + 1) 61 = true) :
    Calls Try.prog 30 #[.pointer (some ⟨g, 0, none⟩)] w (TokP base g s l i (Lx.stepF s.data.toList i) w) := by
  have HS := Lib.hid h
  have hcell0 : w.cell? ⟨g, 0, none⟩ = some (.string s) := h.1.cell 0
  have hcell1 : w.cell? ⟨g, 1, none⟩ = some (.int .i64 (i : Int)) := h.1.cell 1
  clear h
  have HE := Lib.hid (stepF_ass (l := s.data.toList) (i := i) (by rw [get_in hi, hb]) hq)
  have hcl : Lx.cls (s[i]'hi) = 5 := by rw [hb]; decide
  have d1 : ((clsAt s.data.toList i : Int) == 1) = false := natInt (by rw [clsAt_in hi, hcl]; omega)
  have d2 : ((clsAt s.data.toList i : Int) == 2) = false := natInt (by rw [clsAt_in hi, hcl]; omega)
  have d3 : ((clsAt s.data.toList i : Int) == 3) = false := natInt (by rw [clsAt_in hi, hcl]; omega)
  have d4 : ((clsAt s.data.toList i : Int) == 4) = false := natInt (by rw [clsAt_in hi, hcl]; omega)
  have d5 : ((clsAt s.data.toList i : Int) == 5) = true := by rw [clsAt_in hi, hcl]; rfl
  have e58 : (((s[i]'hi).toNat : Int) == 58) = true := eqb_yes (b := 58) rfl hb
  have hi2 : i + 1 < s.size := by
    rcases Nat.lt_or_ge (i + 1) s.size with h | h
    · exact h
    · rw [isAt_out (by omega)] at hq; cases hq
  clear hcl hb
  go_enter Try.func30, Try.ntmps30
  go_wp2
  go_quiet (fail)
  have HS1 := Lib.hid (HS.out.drewN nq)
  have HB1 : Hid (Below base w (w.drewN nq)) := Lib.hid (below_drewN (Below.refl _ _) nq)
  generalize w.drewN nq = w1 at HS1 HB1 ⊢
  clear hcell0 hcell1
  have hcell1 : w1.cell? ⟨g, 1, none⟩ = some (.int .i64 (i : Int)) := HS1.out.1.cell 1
  go_wp2_with fail
  refine (lclass_any g s _ i _ HS1.out.lxr rfl).mono ?_
  rintro e w2 ⟨rfl, hb2, hc2⟩
  have HS2 := Lib.hid (HS1.out.below hb2)
  have HB2 := Lib.hid (bnextB HB1.out hb2 hb0)
  have hcat2 : w2.cell? ⟨g, 1, none⟩ = some (.int .i64 (i : Int)) := HS2.out.1.cell 1
  have hfat2 : w2.frozen? ⟨g, 1, none⟩ = false := HS2.out.1.frozen 1
  clear hb2 hcell1
  have hx0 : w2.cell? ⟨g, 0, none⟩ = some (.string s) := HS2.out.1.cell 0
  have HS2d := Lib.hid HS2.out.drew
  have HB2d := Lib.hid HB2.out.drew
  go_wp2_with fail
  refine (lis_any g s _ (i + 1) 61 _ _ HS2.out.lxr (by go_num) rfl).mono ?_
  rintro e w' ⟨rfl, rfl⟩
  rw [hq]
  have k2 : (i : Int) ≤ (i : Int) + 1 + 1 := by omega
  have k3 : (i : Int) + 1 + 1 ≤ (s.size : Int) := by omega
  go_upto_region 22 with fail
  go_still_tail 12, (by kernel_rfl)
  change wpList _ _ _ _ _ w2.drew
  go_wp2_with fail
  rw [str_cut s i (i + 1 + 1), show ((i : Int) + 1 + 1) = ((i + 2 : Nat) : Int) from by omega]
  refine (lput_any base g s i v l 7 (Lx.cut s.data.toList i (i + 1 + 1)) _ _ HS2d.out (Nat.le_trans hb0 HB2d.out.size) hl).mono ?_
  rintro e w7 ⟨rfl, hb7, hs7⟩
  have HB7 := Lib.hid hb7
  have HS7 := Lib.hid hs7
  clear hb7 hs7
  go_wp2
  go_ret2
  exact TokP.tok_ HE.out (by decide) (HB2d.out.trans HB7.out) HS7.out
set_option maxRecDepth 20000 in
set_option maxHeartbeats 4000000 in
theorem ltok_no58 (base g : Nat) (s : ByteArray) (i : Nat) (v : Value) (l : List Lx.Tk) (w : World) (h : LxS w base g s (i : Int) v l) (hb0 : base ≤ w.heap.size) (hl : l.length ≤ 65536) (hs : s.size ≤ 65536) (hi : i < s.size) (hcl : Lx.cls (s[i]'hi) = 5) (hb : ¬ s[i]'hi = 58) :
    Calls Try.prog 30 #[.pointer (some ⟨g, 0, none⟩)] w (TokP base g s l i (Lx.stepF s.data.toList i) w) := by
  have HS := Lib.hid h
  have hcell0 : w.cell? ⟨g, 0, none⟩ = some (.string s) := h.1.cell 0
  have hcell1 : w.cell? ⟨g, 1, none⟩ = some (.int .i64 (i : Int)) := h.1.cell 1
  clear h
  have HE := Lib.hid (stepF_mark (get_in hi) hcl (fun h => hb h.1))
  have d1 : ((clsAt s.data.toList i : Int) == 1) = false := natInt (by rw [clsAt_in hi, hcl]; omega)
  have d2 : ((clsAt s.data.toList i : Int) == 2) = false := natInt (by rw [clsAt_in hi, hcl]; omega)
  have d3 : ((clsAt s.data.toList i : Int) == 3) = false := natInt (by rw [clsAt_in hi, hcl]; omega)
  have d4 : ((clsAt s.data.toList i : Int) == 4) = false := natInt (by rw [clsAt_in hi, hcl]; omega)
  have d5 : ((clsAt s.data.toList i : Int) == 5) = true := by rw [clsAt_in hi, hcl]; rfl
  have e58 : (((s[i]'hi).toNat : Int) == 58) = false := eqb_no (b := 58) rfl hb
  clear hcl hb
  go_enter Try.func30, Try.ntmps30
  go_wp2
  go_quiet (fail)
  have HS1 := Lib.hid (HS.out.drewN nq)
  have HB1 : Hid (Below base w (w.drewN nq)) := Lib.hid (below_drewN (Below.refl _ _) nq)
  generalize w.drewN nq = w1 at HS1 HB1 ⊢
  clear hcell0 hcell1
  have hcell1 : w1.cell? ⟨g, 1, none⟩ = some (.int .i64 (i : Int)) := HS1.out.1.cell 1
  go_wp2_with fail
  refine (lclass_any g s _ i _ HS1.out.lxr rfl).mono ?_
  rintro e w2 ⟨rfl, hb2, hc2⟩
  have HS2 := Lib.hid (HS1.out.below hb2)
  have HB2 := Lib.hid (bnextB HB1.out hb2 hb0)
  have hcat2 : w2.cell? ⟨g, 1, none⟩ = some (.int .i64 (i : Int)) := HS2.out.1.cell 1
  have hfat2 : w2.frozen? ⟨g, 1, none⟩ = false := HS2.out.1.frozen 1
  clear hb2 hcell1
  have hx0 : w2.cell? ⟨g, 0, none⟩ = some (.string s) := HS2.out.1.cell 0
  have HS2d := Lib.hid HS2.out.drew
  have HB2d := Lib.hid HB2.out.drew
  have k2 : (i : Int) ≤ (i : Int) + 1 := by omega
  have k3 : (i : Int) + 1 ≤ (s.size : Int) := by omega
  go_upto_region 22 with fail
  go_still_tail 12, (by kernel_rfl)
  change wpList _ _ _ _ _ w2.drew
  go_wp2_with fail
  rw [str_cut s i (i + 1), show ((i : Int) + 1) = ((i + 1 : Nat) : Int) from by omega]
  refine (lput_any base g s i v l 7 (Lx.cut s.data.toList i (i + 1)) _ _ HS2d.out (Nat.le_trans hb0 HB2d.out.size) hl).mono ?_
  rintro e w7 ⟨rfl, hb7, hs7⟩
  have HB7 := Lib.hid hb7
  have HS7 := Lib.hid hs7
  clear hb7 hs7
  go_wp2
  go_ret2
  exact TokP.tok_ HE.out (by decide) (HB2d.out.trans HB7.out) HS7.out
set_option maxRecDepth 20000 in
set_option maxHeartbeats 4000000 in
theorem ltok_noeq (base g : Nat) (s : ByteArray) (i : Nat) (v : Value) (l : List Lx.Tk) (w : World) (h : LxS w base g s (i : Int) v l) (hb0 : base ≤ w.heap.size) (hl : l.length ≤ 65536) (hs : s.size ≤ 65536) (hi : i < s.size) (hcl : Lx.cls (s[i]'hi) = 5) (hb : s[i]'hi = 58) (hq : Lx.isAt s.data.toList (i + 1) 61 = false) :
    Calls Try.prog 30 #[.pointer (some ⟨g, 0, none⟩)] w (TokP base g s l i (Lx.stepF s.data.toList i) w) := by
  have HS := Lib.hid h
  have hcell0 : w.cell? ⟨g, 0, none⟩ = some (.string s) := h.1.cell 0
  have hcell1 : w.cell? ⟨g, 1, none⟩ = some (.int .i64 (i : Int)) := h.1.cell 1
  clear h
  have HE := Lib.hid (stepF_mark (get_in hi) hcl (fun h => by rw [h.2] at hq; cases hq))
  have d1 : ((clsAt s.data.toList i : Int) == 1) = false := natInt (by rw [clsAt_in hi, hcl]; omega)
  have d2 : ((clsAt s.data.toList i : Int) == 2) = false := natInt (by rw [clsAt_in hi, hcl]; omega)
  have d3 : ((clsAt s.data.toList i : Int) == 3) = false := natInt (by rw [clsAt_in hi, hcl]; omega)
  have d4 : ((clsAt s.data.toList i : Int) == 4) = false := natInt (by rw [clsAt_in hi, hcl]; omega)
  have d5 : ((clsAt s.data.toList i : Int) == 5) = true := by rw [clsAt_in hi, hcl]; rfl
  have e58 : (((s[i]'hi).toNat : Int) == 58) = true := eqb_yes (b := 58) rfl hb
  clear hcl hb
  go_enter Try.func30, Try.ntmps30
  go_wp2
  go_quiet (fail)
  have HS1 := Lib.hid (HS.out.drewN nq)
  have HB1 : Hid (Below base w (w.drewN nq)) := Lib.hid (below_drewN (Below.refl _ _) nq)
  generalize w.drewN nq = w1 at HS1 HB1 ⊢
  clear hcell0 hcell1
  have hcell1 : w1.cell? ⟨g, 1, none⟩ = some (.int .i64 (i : Int)) := HS1.out.1.cell 1
  go_wp2_with fail
  refine (lclass_any g s _ i _ HS1.out.lxr rfl).mono ?_
  rintro e w2 ⟨rfl, hb2, hc2⟩
  have HS2 := Lib.hid (HS1.out.below hb2)
  have HB2 := Lib.hid (bnextB HB1.out hb2 hb0)
  have hcat2 : w2.cell? ⟨g, 1, none⟩ = some (.int .i64 (i : Int)) := HS2.out.1.cell 1
  have hfat2 : w2.frozen? ⟨g, 1, none⟩ = false := HS2.out.1.frozen 1
  clear hb2 hcell1
  have hx0 : w2.cell? ⟨g, 0, none⟩ = some (.string s) := HS2.out.1.cell 0
  have HS2d := Lib.hid HS2.out.drew
  have HB2d := Lib.hid HB2.out.drew
  go_wp2_with fail
  refine (lis_any g s _ (i + 1) 61 _ _ HS2.out.lxr (by go_num) rfl).mono ?_
  rintro e w' ⟨rfl, rfl⟩
  rw [hq]
  have k2 : (i : Int) ≤ (i : Int) + 1 := by omega
  have k3 : (i : Int) + 1 ≤ (s.size : Int) := by omega
  go_upto_region 22 with fail
  go_still_tail 12, (by kernel_rfl)
  change wpList _ _ _ _ _ w2.drew
  go_wp2_with fail
  rw [str_cut s i (i + 1), show ((i : Int) + 1) = ((i + 1 : Nat) : Int) from by omega]
  refine (lput_any base g s i v l 7 (Lx.cut s.data.toList i (i + 1)) _ _ HS2d.out (Nat.le_trans hb0 HB2d.out.size) hl).mono ?_
  rintro e w7 ⟨rfl, hb7, hs7⟩
  have HB7 := Lib.hid hb7
  have HS7 := Lib.hid hs7
  clear hb7 hs7
  go_wp2
  go_ret2
  exact TokP.tok_ HE.out (by decide) (HB2d.out.trans HB7.out) HS7.out
set_option maxRecDepth 20000 in
set_option maxHeartbeats 4000000 in
theorem ltok_com (base g : Nat) (s : ByteArray) (i : Nat) (v : Value) (l : List Lx.Tk) (w : World) (h : LxS w base g s (i : Int) v l) (hb0 : base ≤ w.heap.size) (hs : s.size ≤ 65536) (hi : i < s.size) (hb : s[i]'hi = 34) :
    Calls Try.prog 30 #[.pointer (some ⟨g, 0, none⟩)] w (TokP base g s l i (Lx.stepF s.data.toList i) w) := by
  have HS := Lib.hid h
  have hcell0 : w.cell? ⟨g, 0, none⟩ = some (.string s) := h.1.cell 0
  have hcell1 : w.cell? ⟨g, 1, none⟩ = some (.int .i64 (i : Int)) := h.1.cell 1
  clear h
  have HX : Hid (s.data.toList[i]? = some 34) := Lib.hid (by rw [get_in hi, hb])
  have hcl : Lx.cls (s[i]'hi) = 0 := by rw [hb]; decide
  have d0 : ((clsAt s.data.toList i : Int) == 5) = false := natInt (by rw [clsAt_in hi, hcl]; omega)
  have d1 : ((clsAt s.data.toList i : Int) == 1) = false := natInt (by rw [clsAt_in hi, hcl]; omega)
  have d2 : ((clsAt s.data.toList i : Int) == 2) = false := natInt (by rw [clsAt_in hi, hcl]; omega)
  have d3 : ((clsAt s.data.toList i : Int) == 3) = false := natInt (by rw [clsAt_in hi, hcl]; omega)
  have d4 : ((clsAt s.data.toList i : Int) == 4) = false := natInt (by rw [clsAt_in hi, hcl]; omega)
  have d5 : ((clsAt s.data.toList i : Int) == 5) = false := natInt (by rw [clsAt_in hi, hcl]; omega)
  have e34 : (((s[i]'hi).toNat : Int) == 34) = true := eqb_yes (b := 34) rfl hb
  clear hcl hb
  go_enter Try.func30, Try.ntmps30
  go_wp2
  go_quiet (fail)
  have HS1 := Lib.hid (HS.out.drewN nq)
  have HB1 : Hid (Below base w (w.drewN nq)) := Lib.hid (below_drewN (Below.refl _ _) nq)
  generalize w.drewN nq = w1 at HS1 HB1 ⊢
  clear hcell0 hcell1
  have hcell1 : w1.cell? ⟨g, 1, none⟩ = some (.int .i64 (i : Int)) := HS1.out.1.cell 1
  go_wp2_with fail
  refine (lclass_any g s _ i _ HS1.out.lxr rfl).mono ?_
  rintro e w2 ⟨rfl, hb2, hc2⟩
  have HS2 := Lib.hid (HS1.out.below hb2)
  have HB2 := Lib.hid (bnextB HB1.out hb2 hb0)
  have hcat2 : w2.cell? ⟨g, 1, none⟩ = some (.int .i64 (i : Int)) := HS2.out.1.cell 1
  have hfat2 : w2.frozen? ⟨g, 1, none⟩ = false := HS2.out.1.frozen 1
  clear hb2 hcell1
  have hx0 : w2.cell? ⟨g, 0, none⟩ = some (.string s) := HS2.out.1.cell 0
  go_wp2
  go_loop [8] (fun e => ∃ k : Nat, k ≤ s.size ∧ e = .int .i64 k ∧ Lx.runF (fun x => x != 34) s.data.toList k = Lx.runF (fun x => x != 34) s.data.toList (i + 1)) (fun e => s.size - (intOf e).toNat)
  case atStart => exact ⟨i + 1, hi, by go_num, rfl⟩
  case round =>
    obtain ⟨k, hk, rfl, hrun⟩ := hrel
    have HRUN := Lib.hid hrun
    clear hrun
    by_cases hkl : k < s.size
    · have HK := Lib.hid (get_in hkl)
      by_cases hq : s[k]'hkl = 34
      · have e34k : (((s[k]'hkl).toNat : Int) == 34) = true := eqb_yes (b := 34) rfl hq
        have HST := Lib.hid ((Lx.runF_stop (p := fun x => x != 34) HK.out (by simp [hq])).symm.trans HRUN.out)
        have HE := Lib.hid (stepF_com HX.out (by rw [← HST.out]; simpa using hkl))
        rw [← HST.out] at HE
        have HN := Lib.hid (HS2.out.setAt (en := ((k + 1 : Nat) : Int)))
        rw [show ((k + 1 : Nat) : Int) = (k : Int) + 1 from by omega] at HN
        clear hq
        go_wp2
        go_ret2
        exact TokP.skip_ HE.out (HB2.out.trans HN.out.2) ⟨v, by rw [show ((k + 1 : Nat) : Int) = (k : Int) + 1 from by omega]; exact HN.out.1⟩
      · have e34k : (((s[k]'hkl).toNat : Int) == 34) = false := eqb_no (b := 34) rfl hq
        have HST := Lib.hid ((Lx.runF_step (p := fun x => x != 34) HK.out (by simpa using hq)).trans HRUN.out)
        clear hq
        go_wp2
        go_round
        case rel => exact ⟨k + 1, hkl, by go_num, HST.out⟩
        case measure => simp [intOf]; omega
    · have HST := Lib.hid ((Lx.runF_end (p := fun x => x != 34) (l := s.data.toList) (i := k) (by simp; omega)).symm.trans HRUN.out)
      have HE := Lib.hid (stepF_com0 HX.out (by rw [← HST.out]; simpa using hkl))
      go_wp2
      go_ret2
      exact TokP.bad_ (p := i) (er := 122) HE.out (by decide) HB2.out
set_option maxRecDepth 20000 in
set_option maxHeartbeats 4000000 in
theorem ltok_str (base g : Nat) (s : ByteArray) (i : Nat) (v : Value) (l : List Lx.Tk) (w : World) (h : LxS w base g s (i : Int) v l) (hb0 : base ≤ w.heap.size) (hl : l.length ≤ 65536) (hs : s.size ≤ 65536) (hi : i < s.size) (hb : s[i]'hi = 39) :
    Calls Try.prog 30 #[.pointer (some ⟨g, 0, none⟩)] w (TokP base g s l i (Lx.stepF s.data.toList i) w) := by
  have HS := Lib.hid h
  have hcell0 : w.cell? ⟨g, 0, none⟩ = some (.string s) := h.1.cell 0
  have hcell1 : w.cell? ⟨g, 1, none⟩ = some (.int .i64 (i : Int)) := h.1.cell 1
  clear h
  have HX : Hid (s.data.toList[i]? = some 39) := Lib.hid (by rw [get_in hi, hb])
  have hcl : Lx.cls (s[i]'hi) = 0 := by rw [hb]; decide
  have d0 : ((clsAt s.data.toList i : Int) == 5) = false := natInt (by rw [clsAt_in hi, hcl]; omega)
  have d1 : ((clsAt s.data.toList i : Int) == 1) = false := natInt (by rw [clsAt_in hi, hcl]; omega)
  have d2 : ((clsAt s.data.toList i : Int) == 2) = false := natInt (by rw [clsAt_in hi, hcl]; omega)
  have d3 : ((clsAt s.data.toList i : Int) == 3) = false := natInt (by rw [clsAt_in hi, hcl]; omega)
  have d4 : ((clsAt s.data.toList i : Int) == 4) = false := natInt (by rw [clsAt_in hi, hcl]; omega)
  have d5 : ((clsAt s.data.toList i : Int) == 5) = false := natInt (by rw [clsAt_in hi, hcl]; omega)
  have e34 : (((s[i]'hi).toNat : Int) == 34) = false := eqb_no (b := 34) rfl (by rw [hb]; decide)
  have e39 : (((s[i]'hi).toNat : Int) == 39) = true := eqb_yes (b := 39) rfl hb
  clear hcl hb
  cases hq : Lx.qF s.data.toList i with
  | none =>
    have HE := Lib.hid (stepF_str0 HX.out hq)
    have HQ := Lib.hid hq
    clear hq
    go_enter Try.func30, Try.ntmps30
    go_wp2
    go_quiet (fail)
    have HS1 := Lib.hid (HS.out.drewN nq)
    have HB1 : Hid (Below base w (w.drewN nq)) := Lib.hid (below_drewN (Below.refl _ _) nq)
    generalize w.drewN nq = w1 at HS1 HB1 ⊢
    clear hcell0 hcell1
    have hcell1 : w1.cell? ⟨g, 1, none⟩ = some (.int .i64 (i : Int)) := HS1.out.1.cell 1
    go_wp2_with fail
    refine (lclass_any g s _ i _ HS1.out.lxr rfl).mono ?_
    rintro e w2 ⟨rfl, hb2, hc2⟩
    have HS2 := Lib.hid (HS1.out.below hb2)
    have HB2 := Lib.hid (bnextB HB1.out hb2 hb0)
    have hcat2 : w2.cell? ⟨g, 1, none⟩ = some (.int .i64 (i : Int)) := HS2.out.1.cell 1
    have hfat2 : w2.frozen? ⟨g, 1, none⟩ = false := HS2.out.1.frozen 1
    clear hb2 hcell1
    go_wp2_with fail
    refine (lquoted_any g s _ i _ HS2.out.lxr hs rfl hi).mono ?_
    rintro e w3 ⟨rfl, hb3⟩
    rw [HQ.out, quoVn]
    have HB3 := Lib.hid (bnextB HB2.out hb3 hb0)
    have hcell3 : w3.cell? ⟨g, 1, none⟩ = some (.int .i64 (i : Int)) := (HS2.out.below hb3).1.cell 1
    clear hb3
    go_wp2
    go_ret2
    exact TokP.bad_ (p := i) (er := 121) HE.out (by decide) HB3.out
  | some r =>
    obtain ⟨t, n⟩ := r
    have HE := Lib.hid (stepF_str1 HX.out hq)
    have HQ := Lib.hid hq
    clear hq
    go_enter Try.func30, Try.ntmps30
    go_wp2
    go_quiet (fail)
    have HS1 := Lib.hid (HS.out.drewN nq)
    have HB1 : Hid (Below base w (w.drewN nq)) := Lib.hid (below_drewN (Below.refl _ _) nq)
    generalize w.drewN nq = w1 at HS1 HB1 ⊢
    clear hcell0 hcell1
    have hcell1 : w1.cell? ⟨g, 1, none⟩ = some (.int .i64 (i : Int)) := HS1.out.1.cell 1
    go_wp2_with fail
    refine (lclass_any g s _ i _ HS1.out.lxr rfl).mono ?_
    rintro e w2 ⟨rfl, hb2, hc2⟩
    have HS2 := Lib.hid (HS1.out.below hb2)
    have HB2 := Lib.hid (bnextB HB1.out hb2 hb0)
    have hcat2 : w2.cell? ⟨g, 1, none⟩ = some (.int .i64 (i : Int)) := HS2.out.1.cell 1
    have hfat2 : w2.frozen? ⟨g, 1, none⟩ = false := HS2.out.1.frozen 1
    clear hb2 hcell1
    go_wp2_with fail
    refine (lquoted_any g s _ i _ HS2.out.lxr hs rfl hi).mono ?_
    rintro e w3 ⟨rfl, hb3⟩
    rw [HQ.out, quoVs]
    have HS3 := Lib.hid (HS2.out.below hb3)
    have HB3 := Lib.hid (bnextB HB2.out hb3 hb0)
    clear hb3
    go_wp2_with fail
    refine (lput_any base g s i v l 5 t _ _ HS3.out (Nat.le_trans hb0 HB3.out.size) hl).mono ?_
    rintro e w7 ⟨rfl, hb7, hs7⟩
    have HB7 := Lib.hid hb7
    have HS7 := Lib.hid hs7
    clear hb7 hs7
    go_wp2
    go_ret2
    exact TokP.tok_ HE.out (by decide) (HB3.out.trans HB7.out) HS7.out
set_option maxRecDepth 20000 in
set_option maxHeartbeats 4000000 in
theorem ltok_sym (base g : Nat) (s : ByteArray) (i : Nat) (v : Value) (l : List Lx.Tk) (w : World) (h : LxS w base g s (i : Int) v l) (hb0 : base ≤ w.heap.size) (hl : l.length ≤ 65536) (hs : s.size ≤ 65536) (hi : i < s.size) (hb : s[i]'hi = 35) :
    Calls Try.prog 30 #[.pointer (some ⟨g, 0, none⟩)] w (TokP base g s l i (Lx.stepF s.data.toList i) w) := by
  have HS := Lib.hid h
  have hcell0 : w.cell? ⟨g, 0, none⟩ = some (.string s) := h.1.cell 0
  have hcell1 : w.cell? ⟨g, 1, none⟩ = some (.int .i64 (i : Int)) := h.1.cell 1
  clear h
  have HE := Lib.hid (stepF_sym (l := s.data.toList) (i := i) (by rw [get_in hi, hb]))
  have hcl : Lx.cls (s[i]'hi) = 0 := by rw [hb]; decide
  have d0 : ((clsAt s.data.toList i : Int) == 5) = false := natInt (by rw [clsAt_in hi, hcl]; omega)
  have d1 : ((clsAt s.data.toList i : Int) == 1) = false := natInt (by rw [clsAt_in hi, hcl]; omega)
  have d2 : ((clsAt s.data.toList i : Int) == 2) = false := natInt (by rw [clsAt_in hi, hcl]; omega)
  have d3 : ((clsAt s.data.toList i : Int) == 3) = false := natInt (by rw [clsAt_in hi, hcl]; omega)
  have d4 : ((clsAt s.data.toList i : Int) == 4) = false := natInt (by rw [clsAt_in hi, hcl]; omega)
  have d5 : ((clsAt s.data.toList i : Int) == 5) = false := natInt (by rw [clsAt_in hi, hcl]; omega)
  have e34 : (((s[i]'hi).toNat : Int) == 34) = false := eqb_no (b := 34) rfl (by rw [hb]; decide)
  have e39 : (((s[i]'hi).toNat : Int) == 39) = false := eqb_no (b := 39) rfl (by rw [hb]; decide)
  have e35 : (((s[i]'hi).toNat : Int) == 35) = true := eqb_yes (b := 35) rfl hb
  clear hcl hb
  go_enter Try.func30, Try.ntmps30
  go_wp2
  go_quiet (fail)
  have HS1 := Lib.hid (HS.out.drewN nq)
  have HB1 : Hid (Below base w (w.drewN nq)) := Lib.hid (below_drewN (Below.refl _ _) nq)
  generalize w.drewN nq = w1 at HS1 HB1 ⊢
  clear hcell0 hcell1
  have hcell1 : w1.cell? ⟨g, 1, none⟩ = some (.int .i64 (i : Int)) := HS1.out.1.cell 1
  go_wp2_with fail
  refine (lclass_any g s _ i _ HS1.out.lxr rfl).mono ?_
  rintro e w2 ⟨rfl, hb2, hc2⟩
  have HS2 := Lib.hid (HS1.out.below hb2)
  have HB2 := Lib.hid (bnextB HB1.out hb2 hb0)
  have hcat2 : w2.cell? ⟨g, 1, none⟩ = some (.int .i64 (i : Int)) := HS2.out.1.cell 1
  have hfat2 : w2.frozen? ⟨g, 1, none⟩ = false := HS2.out.1.frozen 1
  clear hb2 hcell1
  go_wp2_with fail
  refine (lsymbol_any base g s i v l _ HS2.out (Nat.le_trans hb0 HB2.out.size) hl hs hi).mono ?_
  rintro e w3 hP
  have HP := Lib.hid hP
  rcases hP with ⟨_, ⟨_, rfl, _⟩ | ⟨_, rfl⟩⟩
  all_goals
    go_wp2
    go_ret2
    exact TokP.from HP.out HE.out HB2.out
set_option maxRecDepth 20000 in
set_option maxHeartbeats 4000000 in
theorem ltok_else (base g : Nat) (s : ByteArray) (i : Nat) (v : Value) (l : List Lx.Tk) (w : World) (h : LxS w base g s (i : Int) v l) (hb0 : base ≤ w.heap.size) (hi : i < s.size) (hcl : Lx.cls (s[i]'hi) = 0) (h34 : ¬ s[i]'hi = 34) (h39 : ¬ s[i]'hi = 39) (h35 : ¬ s[i]'hi = 35) :
    Calls Try.prog 30 #[.pointer (some ⟨g, 0, none⟩)] w (TokP base g s l i (Lx.stepF s.data.toList i) w) := by
  have HS := Lib.hid h
  have hcell0 : w.cell? ⟨g, 0, none⟩ = some (.string s) := h.1.cell 0
  have hcell1 : w.cell? ⟨g, 1, none⟩ = some (.int .i64 (i : Int)) := h.1.cell 1
  clear h
  have HE := Lib.hid (stepF_else (get_in hi) hcl h34 h39 h35)
  have d0 : ((clsAt s.data.toList i : Int) == 5) = false := natInt (by rw [clsAt_in hi, hcl]; omega)
  have d1 : ((clsAt s.data.toList i : Int) == 1) = false := natInt (by rw [clsAt_in hi, hcl]; omega)
  have d2 : ((clsAt s.data.toList i : Int) == 2) = false := natInt (by rw [clsAt_in hi, hcl]; omega)
  have d3 : ((clsAt s.data.toList i : Int) == 3) = false := natInt (by rw [clsAt_in hi, hcl]; omega)
  have d4 : ((clsAt s.data.toList i : Int) == 4) = false := natInt (by rw [clsAt_in hi, hcl]; omega)
  have d5 : ((clsAt s.data.toList i : Int) == 5) = false := natInt (by rw [clsAt_in hi, hcl]; omega)
  have e34 : (((s[i]'hi).toNat : Int) == 34) = false := eqb_no (b := 34) rfl h34
  have e39 : (((s[i]'hi).toNat : Int) == 39) = false := eqb_no (b := 39) rfl h39
  have e35 : (((s[i]'hi).toNat : Int) == 35) = false := eqb_no (b := 35) rfl h35
  clear hcl h34 h39 h35
  go_enter Try.func30, Try.ntmps30
  go_wp2
  go_quiet (fail)
  have HS1 := Lib.hid (HS.out.drewN nq)
  have HB1 : Hid (Below base w (w.drewN nq)) := Lib.hid (below_drewN (Below.refl _ _) nq)
  generalize w.drewN nq = w1 at HS1 HB1 ⊢
  clear hcell0 hcell1
  have hcell1 : w1.cell? ⟨g, 1, none⟩ = some (.int .i64 (i : Int)) := HS1.out.1.cell 1
  go_wp2_with fail
  refine (lclass_any g s _ i _ HS1.out.lxr rfl).mono ?_
  rintro e w2 ⟨rfl, hb2, hc2⟩
  have HS2 := Lib.hid (HS1.out.below hb2)
  have HB2 := Lib.hid (bnextB HB1.out hb2 hb0)
  have hcat2 : w2.cell? ⟨g, 1, none⟩ = some (.int .i64 (i : Int)) := HS2.out.1.cell 1
  have hfat2 : w2.frozen? ⟨g, 1, none⟩ = false := HS2.out.1.frozen 1
  clear hb2 hcell1
  go_wp2
  go_ret2
  exact TokP.bad_ (p := i) (er := 120) HE.out (by decide) HB2.out
set_option maxRecDepth 100000 in
theorem cls_le (x : UInt8) : Lx.cls x ≤ 5 := by
  have := Lx.all_u8 (p := fun x => decide (Lx.cls x ≤ 5)) (by decide) x
  simpa using this
theorem ltoken_any (base g : Nat) (s : ByteArray) (i : Nat) (v : Value) (l : List Lx.Tk) (w : World) (h : LxS w base g s (i : Int) v l) (hb0 : base ≤ w.heap.size) (hl : l.length ≤ 65536) (hs : s.size ≤ 65536) (hi : i < s.size) :
    Calls Try.prog 30 #[.pointer (some ⟨g, 0, none⟩)] w (TokP base g s l i (Lx.stepF s.data.toList i) w) := by
  have hle := cls_le (s[i]'hi)
  by_cases c1 : Lx.cls (s[i]'hi) = 1
  · exact ltok_blank base g s i v l w h hb0 hs hi c1
  by_cases c2 : Lx.cls (s[i]'hi) = 2
  · cases hq : (Lx.isAt s.data.toList (Lx.runF Lx.ldB s.data.toList i) 58 && !Lx.isAt s.data.toList (Lx.runF Lx.ldB s.data.toList i + 1) 61) with
    | true => exact ltok_key base g s i v l w h hb0 hl hs hi c2 hq
    | false => exact ltok_name base g s i v l w h hb0 hl hs hi c2 hq
  by_cases c3 : Lx.cls (s[i]'hi) = 3
  · exact ltok_num base g s i v l w h hb0 hl hs hi c3
  by_cases c4 : Lx.cls (s[i]'hi) = 4
  · exact ltok_bin base g s i v l w h hb0 hl hs hi c4
  by_cases c5 : Lx.cls (s[i]'hi) = 5
  · by_cases hb : s[i]'hi = 58
    · cases hq : Lx.isAt s.data.toList (i + 1) 61 with
      | true => exact ltok_ass base g s i v l w h hb0 hl hs hi hb hq
      | false => exact ltok_noeq base g s i v l w h hb0 hl hs hi c5 hb hq
    · exact ltok_no58 base g s i v l w h hb0 hl hs hi c5 hb
  have c0 : Lx.cls (s[i]'hi) = 0 := by omega
  by_cases b1 : s[i]'hi = 34
  · exact ltok_com base g s i v l w h hb0 hs hi b1
  by_cases b2 : s[i]'hi = 39
  · exact ltok_str base g s i v l w h hb0 hl hs hi b2
  by_cases b3 : s[i]'hi = 35
  · exact ltok_sym base g s i v l w h hb0 hl hs hi b3
  exact ltok_else base g s i v l w h hb0 hi c0 b1 b2 b3
end Go.Proofs.Ytaigfelpecdajaa
