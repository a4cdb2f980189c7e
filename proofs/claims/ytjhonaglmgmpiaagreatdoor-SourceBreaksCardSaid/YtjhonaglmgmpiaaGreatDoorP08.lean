/-
  Parts LexF, HeldX, PwA, PwB of the proof. No statement of the seat is proved here.
-/
import Derived.Test.YtjhonaglmgmpiaaGreatDoorP07
import Derived.StillTailTactics
import Derived.Test.YtjhonaglmgmpiaaGreatDoorP01
import Derived.Deep.RegionHeld3
import Derived.Test.YtjhonaglmgmpiaaGreatDoorP06
import Derived.Deep.CutBlock
set_option maxHeartbeats 4000000
namespace Go.Proofs.YtjhonaglmgmpiaaGreatDoor
open Go.RowKit
section
variable {l : List UInt8} {i : Nat} {b : UInt8}
theorem symF_none (h : l[i + 1]? = none) : Lx.symF l i = Lx.bad i 120 := by unfold Lx.symF; rw [h]
theorem symF_let (h : l[i + 1]? = some b) (hc : Lx.cls b = 2) : Lx.symF l i = Lx.tok 6 (Lx.cut l (i + 1) (Lx.runF Lx.symB l (i + 1))) (Lx.runF Lx.symB l (i + 1)) := by
 unfold Lx.symF; rw [h]; simp only [if_pos hc]
theorem symF_bin (h : l[i + 1]? = some b) (h4 : Lx.cls b = 4) : Lx.symF l i = Lx.tok 6 (Lx.cut l (i + 1) (Lx.binF l (i + 2))) (Lx.binF l (i + 2)) := by
 unfold Lx.symF; rw [h]; simp only [if_neg (show ¬ Lx.cls b = 2 by omega), if_pos h4]
theorem symF_bar (h : l[i + 1]? = some 124) : Lx.symF l i = Lx.tok 6 [124] (i + 2) := by
 unfold Lx.symF; rw [h]; rfl
theorem symF_quo0 (h : l[i + 1]? = some 39) (hq : Lx.qF l (i + 1) = none) : Lx.symF l i = Lx.bad (i + 1) 121 := by
 unfold Lx.symF; rw [h, hq]; rfl
theorem symF_quo1 (h : l[i + 1]? = some 39) {r : List UInt8 × Nat} (hq : Lx.qF l (i + 1) = some r) : Lx.symF l i = Lx.tok 6 r.1 r.2 := by
 unfold Lx.symF; rw [h, hq]; rfl
theorem symF_open (h : l[i + 1]? = some b) (hb : b = 40 ∨ b = 91) : Lx.symF l i = Lx.tok 7 (Lx.cut l i (i + 2)) (i + 2) := by
 unfold Lx.symF; rw [h]
 rcases hb with rfl | rfl <;> rfl
theorem symF_else (h : l[i + 1]? = some b) (h2 : ¬ Lx.cls b = 2) (h4 : ¬ Lx.cls b = 4) (h124 : ¬ b = 124) (h39 : ¬ b = 39) (ho : ¬ (b = 40 ∨ b = 91)) : Lx.symF l i = Lx.bad i 120 := by
 unfold Lx.symF; rw [h]; simp only [if_neg h2, if_neg h4, if_neg h124, if_neg h39, if_neg ho]
end
theorem eqb_no {x b : UInt8} {c : Int} (hc : c = (b.toNat : Int)) (h : ¬ x = b) : ((x.toNat : Int) == c) = false := by rw [hc, u8_eq_int]; simpa using h
theorem eqb_yes {x b : UInt8} {c : Int} (hc : c = (b.toNat : Int)) (h : x = b) : ((x.toNat : Int) == c) = true := by rw [hc, u8_eq_int]; simpa using h
theorem quoVn : quoV none = .tuple #[.string ⟨#[]⟩, .int .i64 0, .bool false] := rfl
theorem quoVs (t : List UInt8) (n : Nat) : quoV (some (t, n)) = .tuple #[.string ⟨t.toArray⟩, .int .i64 (n : Int), .bool true] := rfl
theorem str_cut (s : ByteArray) (a b : Nat) : s.extract a b = ⟨(Lx.cut s.data.toList a b).toArray⟩ := by
 rw [← extract_cut]
theorem natInt {a : Nat} {c : Int} (h : ¬ (a : Int) = c) : ((a : Int) == c) = false := by simpa using h
set_option maxRecDepth 20000 in
theorem lsym_none (base g : Nat) (s : ByteArray) (i : Nat) (v : Value) (l : List Lx.Tk) (w : World) (h : LxS w base g s (i : Int) v l) (hs : s.size ≤ 65536) (hi : i < s.size) (h1 : ¬ i + 1 < s.size) :
  Calls Tryz.prog 96 #[.pointer (some ⟨g, 0, none⟩)] w (TokP base g s l i (Lx.symF s.data.toList i) w) := by
 have HS := Hd h
 have hcell0 : w.cell? ⟨g, 0, none⟩ = some (.string s) := h.1.cell 0
 have hcell1 : w.cell? ⟨g, 1, none⟩ = some (.int .i64 (i : Int)) := h.1.cell 1
 clear h
 have HE := Hd (symF_none (l := s.data.toList) (i := i) (get_out h1))
 have d0 : ((i : Int) + 1 == (s.size : Int)) = true := by rw [beq_iff_eq]; omega
 go_enter Tryz.func96, Tryz.ntmps96
 go_wp2
 go_ret2
 exact TokP.bad_ (p := i) (er := 120) HE.out (by decide) (Below.refl _ _)
set_option maxRecDepth 20000 in
theorem lsym_let (base g : Nat) (s : ByteArray) (i : Nat) (v : Value) (l : List Lx.Tk) (w : World) (h : LxS w base g s (i : Int) v l) (hb0 : base ≤ w.heap.size) (hl : l.length ≤ 65536) (hs : s.size ≤ 65536) (h1 : i + 1 < s.size) (hc2 : Lx.cls (s[i + 1]'h1) = 2) :
  Calls Tryz.prog 96 #[.pointer (some ⟨g, 0, none⟩)] w (TokP base g s l i (Lx.symF s.data.toList i) w) := by
 have HS := Hd h
 have hcell0 : w.cell? ⟨g, 0, none⟩ = some (.string s) := h.1.cell 0
 have hcell1 : w.cell? ⟨g, 1, none⟩ = some (.int .i64 (i : Int)) := h.1.cell 1
 clear h
 have d0 : ((i : Int) + 1 == (s.size : Int)) = false := by rw [beq_eq_false_iff_ne]; omega
 have HE := Hd (symF_let (get_in h1) hc2)
 have dA : ((clsAt s.data.toList (i + 1) : Int) == 2) = true := by rw [clsAt_in h1, hc2]; rfl
 clear hc2
 go_enter Tryz.func96, Tryz.ntmps96
 go_wp2_with fail
 refine (lclass_any g s _ (i + 1) _ HS.out.lxr (by go_num)).mono ?_
 rintro e w1 ⟨rfl, hb1, hc1⟩
 have HS1 := Hd (HS.out.below hb1)
 have HB1 := Hd (hb1.mono hb0)
 clear hb1
 go_upto_block 1 with fail
 go_cut [6] (fun s6 wx => s6 = .int .i64 (Lx.runF Lx.symB s.data.toList (i + 1) : Nat) ∧ LxS wx base g s (i : Int) v l ∧ Below base w wx)
 case first =>
  go_wp2
  go_loopw [6] (fun e wx => ∃ k : Nat, k ≤ s.size ∧ e = .int .i64 k ∧ Lx.runF Lx.symB s.data.toList k = Lx.runF Lx.symB s.data.toList (i + 1) ∧ LxS wx base g s (i : Int) v l ∧ Below base w wx) (fun e _ => s.size - (intOf e).toNat)
  case atStart => exact ⟨i + 1, by omega, by go_num, rfl, HS1.out, HB1.out⟩
  case round =>
   obtain ⟨k, hk, rfl, hrun, hS, hB⟩ := hrel
   have HRUN := Hd hrun
   have HS4 := Hd hS
   have HB4 := Hd hB
   clear hrun hS hB
   by_cases hkl : k < s.size
   ·have HC := Hd (clsAt_in hkl)
    have HX := Hd (get_in hkl)
    by_cases hf : Lx.symB (s[k]'hkl) = true
    ·have HST := Hd ((Lx.runF_step HX.out hf).trans HRUN.out)
     by_cases h2 : Lx.cls (s[k]'hkl) = 2
     ·have d2 : ((clsAt s.data.toList k : Int) == 2) = true := by rw [HC.out, h2]; rfl
      clear h2 hf
      go_wp2_with (first | (go_at_call 89; refine (lclass_any g s _ k _ (by first | exact HS4.out.lxr | exact (HS4.out.below (by assumption)).lxr) rfl).mono ?_; rintro e w' ⟨rfl, hb, hc⟩))
      go_roundw
      case rel => exact ⟨k + 1, hkl, by go_num, HST.out, HS4.out.below hb, bnextB HB4.out hb hb0⟩
      case measure => simp [intOf]; omega
     ·have d2 : ((clsAt s.data.toList k : Int) == 2) = false := natInt (by rw [HC.out]; omega)
      by_cases h3 : Lx.cls (s[k]'hkl) = 3
      ·have d3 : ((clsAt s.data.toList k : Int) == 3) = true := by rw [HC.out, h3]; rfl
       clear h2 h3 hf
       go_wp2_with (first | (go_at_call 89; refine (lclass_any g s _ k _ (by first | exact HS4.out.lxr | exact (HS4.out.below (by assumption)).lxr) rfl).mono ?_; rintro e w' ⟨rfl, hb, hc⟩))
       go_roundw
       case rel => exact ⟨k + 1, hkl, by go_num, HST.out, HS4.out.below (bnext (by assumption) hb), bnextB HB4.out (bnext (by assumption) hb) hb0⟩
       case measure => simp [intOf]; omega
      ·have d3 : ((clsAt s.data.toList k : Int) == 3) = false := natInt (by rw [HC.out]; omega)
       have dI : Lx.isAt s.data.toList k 58 = true := by
        rw [isAt_in hkl]
        unfold Lx.symB Lx.letB Lx.digB at hf
        simpa [h2, h3] using hf
       clear h2 h3 hf
       go_wp2_with (first | (go_at_call 89; refine (lclass_any g s _ k _ (by first | exact HS4.out.lxr | exact (HS4.out.below (by assumption)).lxr) rfl).mono ?_; rintro e w' ⟨rfl, hb, hc⟩) | (go_at_call 91; refine (lis_any g s _ k 58 _ _ (by first | exact (HS4.out.below (by assumption)).lxr | exact (HS4.out.below (bnext (by assumption) (by assumption))).lxr) rfl rfl).mono ?_; rintro e w'' ⟨rfl, rfl⟩; rw [dI]))
       go_roundw
       case rel => exact ⟨k + 1, hkl, by go_num, HST.out, HS4.out.below (bnext (by assumption) hb), bnextB HB4.out (bnext (by assumption) hb) hb0⟩
       case measure => simp [intOf]; omega
    ·have hf' : Lx.symB (s[k]'hkl) = false := by simpa using hf
     have HST := Hd ((Lx.runF_stop HX.out hf').symm.trans HRUN.out)
     unfold Lx.symB Lx.letB Lx.digB at hf'
     simp only [Bool.or_eq_false_iff, beq_eq_false_iff_ne] at hf'
     have d2 : ((clsAt s.data.toList k : Int) == 2) = false := natInt (by rw [HC.out]; omega)
     have d3 : ((clsAt s.data.toList k : Int) == 3) = false := natInt (by rw [HC.out]; omega)
     have dI : Lx.isAt s.data.toList k 58 = false := by
      rw [isAt_in hkl]
      simpa using hf'.2
     clear hf hf'
     go_wp2_with (first | (go_at_call 89; refine (lclass_any g s _ k _ (by first | exact HS4.out.lxr | exact (HS4.out.below (by assumption)).lxr) rfl).mono ?_; rintro e w' ⟨rfl, hb, hc⟩) | (go_at_call 91; refine (lis_any g s _ k 58 _ _ (by first | exact (HS4.out.below (by assumption)).lxr | exact (HS4.out.below (bnext (by assumption) (by assumption))).lxr) rfl rfl).mono ?_; rintro e w'' ⟨rfl, rfl⟩; rw [dI]))
     go_meet
     exact ⟨by rw [HST.out], HS4.out.below (bnext (by assumption) hb), bnextB HB4.out (bnext (by assumption) hb) hb0⟩
   ·have HST := Hd ((Lx.runF_end (p := Lx.symB) (l := s.data.toList) (i := k) (by simp; omega)).symm.trans HRUN.out)
    have HC := Hd (clsAt_out hkl)
    have d2 : ((clsAt s.data.toList k : Int) == 2) = false := natInt (by rw [HC.out]; omega)
    have d3 : ((clsAt s.data.toList k : Int) == 3) = false := natInt (by rw [HC.out]; omega)
    have dI : Lx.isAt s.data.toList k 58 = false := isAt_out hkl 58
    go_wp2_with (first | (go_at_call 89; refine (lclass_any g s _ k _ (by first | exact HS4.out.lxr | exact (HS4.out.below (by assumption)).lxr) rfl).mono ?_; rintro e w' ⟨rfl, hb, hc⟩) | (go_at_call 91; refine (lis_any g s _ k 58 _ _ (by first | exact (HS4.out.below (by assumption)).lxr | exact (HS4.out.below (bnext (by assumption) (by assumption))).lxr) rfl rfl).mono ?_; rintro e w'' ⟨rfl, rfl⟩; rw [dI]))
    go_meet
    exact ⟨by rw [HST.out], HS4.out.below (bnext (by assumption) hb), bnextB HB4.out (bnext (by assumption) hb) hb0⟩
 case rest =>
 obtain ⟨rfl, hS, hB⟩ := hcut
 have HK1 := Lx.runF_ge Lx.symB s.data.toList (i + 1)
 have HK2 : Lx.runF Lx.symB s.data.toList (i + 1) ≤ s.size := by have := Lx.runF_le Lx.symB s.data.toList (i + 1) (by simp; omega); simpa using this
 generalize Lx.runF Lx.symB s.data.toList (i + 1) = k at *
 have HS4 := Hd hS
 have HB4 := Hd hB
 have hx0 : wc.cell? ⟨g, 0, none⟩ = some (.string s) := hS.1.cell 0
 have k3 : (i : Int) + 1 ≤ (k : Int) := by omega
 have k4 : (k : Int) ≤ (s.size : Int) := by omega
 clear hS hB
 go_wp2_with fail
 rw [str_cut s (i + 1) k]
 refine (lput_any base g s i v l 6 (Lx.cut s.data.toList (i + 1) k) _ _ HS4.out (Nat.le_trans hb0 HB4.out.size) hl).mono ?_
 rintro e w7 ⟨rfl, hb7, hs7⟩
 have HB7 := Hd hb7
 have HS7 := Hd hs7
 clear hb7 hs7
 go_wp2
 go_ret2
 exact TokP.tok_ HE.out (by decide) (HB4.out.trans HB7.out) HS7.out
set_option maxRecDepth 20000 in
theorem lsym_bin (base g : Nat) (s : ByteArray) (i : Nat) (v : Value) (l : List Lx.Tk) (w : World) (h : LxS w base g s (i : Int) v l) (hb0 : base ≤ w.heap.size) (hl : l.length ≤ 65536) (hs : s.size ≤ 65536) (h1 : i + 1 < s.size) (hc4 : Lx.cls (s[i + 1]'h1) = 4) :
  Calls Tryz.prog 96 #[.pointer (some ⟨g, 0, none⟩)] w (TokP base g s l i (Lx.symF s.data.toList i) w) := by
 have HS := Hd h
 have hcell0 : w.cell? ⟨g, 0, none⟩ = some (.string s) := h.1.cell 0
 have hcell1 : w.cell? ⟨g, 1, none⟩ = some (.int .i64 (i : Int)) := h.1.cell 1
 clear h
 have d0 : ((i : Int) + 1 == (s.size : Int)) = false := by rw [beq_eq_false_iff_ne]; omega
 have HE := Hd (symF_bin (get_in h1) hc4)
 have dA : ((clsAt s.data.toList (i + 1) : Int) == 2) = false := natInt (by rw [clsAt_in h1]; omega)
 have dB : ((clsAt s.data.toList (i + 1) : Int) == 4) = true := by rw [clsAt_in h1, hc4]; rfl
 clear hc4
 go_enter Tryz.func96, Tryz.ntmps96
 go_wp2_with fail
 refine (lclass_any g s _ (i + 1) _ HS.out.lxr (by go_num)).mono ?_
 rintro e w1 ⟨rfl, hb1, hc1⟩
 have HS1 := Hd (HS.out.below hb1)
 have HB1 := Hd (hb1.mono hb0)
 clear hb1
 go_wp2_with fail
 refine (lclass_any g s _ (i + 1) _ HS1.out.lxr (by go_num)).mono ?_
 rintro e w2 ⟨rfl, hb2, hc2⟩
 have HS2 := Hd (HS1.out.below hb2)
 have HB2 := Hd (bnextB HB1.out hb2 hb0)
 have hcat2 : w2.cell? ⟨g, 1, none⟩ = some (.int .i64 (i : Int)) := HS2.out.1.cell 1
 clear hb2
 go_wp2_with fail
 refine (lbinary_any g s _ (i + 1) _ HS2.out.lxr hs (by go_num) h1).mono ?_
 rintro e w3 ⟨rfl, hb3⟩
 have HS3 := Hd (HS2.out.below hb3)
 have HB3 := Hd (bnextB HB2.out hb3 hb0)
 have HK1 := Lx.binF_ge s.data.toList (i + 2)
 have HK2 : Lx.binF s.data.toList (i + 2) ≤ s.size := by have := Lx.binF_le s.data.toList (i + 2) (by simp; omega); simpa using this
 rw [show i + 1 + 1 = i + 2 from rfl]
 generalize Lx.binF s.data.toList (i + 2) = k at *
 have hx0 : w3.cell? ⟨g, 0, none⟩ = some (.string s) := HS3.out.1.cell 0
 have k3 : (i : Int) + 1 ≤ (k : Int) := by omega
 have k4 : (k : Int) ≤ (s.size : Int) := by omega
 clear hb3
 go_wp2_with fail
 rw [str_cut s (i + 1) k]
 refine (lput_any base g s i v l 6 (Lx.cut s.data.toList (i + 1) k) _ _ HS3.out (Nat.le_trans hb0 HB3.out.size) hl).mono ?_
 rintro e w7 ⟨rfl, hb7, hs7⟩
 have HB7 := Hd hb7
 have HS7 := Hd hs7
 clear hb7 hs7
 go_wp2
 go_ret2
 exact TokP.tok_ HE.out (by decide) (HB3.out.trans HB7.out) HS7.out
set_option maxRecDepth 20000 in
theorem lsym_bar (base g : Nat) (s : ByteArray) (i : Nat) (v : Value) (l : List Lx.Tk) (w : World) (h : LxS w base g s (i : Int) v l) (hb0 : base ≤ w.heap.size) (hl : l.length ≤ 65536) (hs : s.size ≤ 65536) (h1 : i + 1 < s.size) (hb : s[i + 1]'h1 = 124) :
  Calls Tryz.prog 96 #[.pointer (some ⟨g, 0, none⟩)] w (TokP base g s l i (Lx.symF s.data.toList i) w) := by
 have HS := Hd h
 have hcell0 : w.cell? ⟨g, 0, none⟩ = some (.string s) := h.1.cell 0
 have hcell1 : w.cell? ⟨g, 1, none⟩ = some (.int .i64 (i : Int)) := h.1.cell 1
 clear h
 have d0 : ((i : Int) + 1 == (s.size : Int)) = false := by rw [beq_eq_false_iff_ne]; omega
 have HE := Hd (symF_bar (l := s.data.toList) (i := i) (by rw [get_in h1, hb]))
 have hcb : Lx.cls (s[i + 1]'h1) = 5 := by rw [hb]; decide
 have dA : ((clsAt s.data.toList (i + 1) : Int) == 2) = false := natInt (by rw [clsAt_in h1]; omega)
 have dB : ((clsAt s.data.toList (i + 1) : Int) == 4) = false := natInt (by rw [clsAt_in h1]; omega)
 have e124 : (((s[i + 1]'h1).toNat : Int) == 124) = true := eqb_yes (b := 124) rfl hb
 clear hb hcb
 go_enter Tryz.func96, Tryz.ntmps96
 go_wp2_with fail
 refine (lclass_any g s _ (i + 1) _ HS.out.lxr (by go_num)).mono ?_
 rintro e w1 ⟨rfl, hb1, hc1⟩
 have HS1 := Hd (HS.out.below hb1)
 have HB1 := Hd (hb1.mono hb0)
 clear hb1
 go_wp2_with fail
 refine (lclass_any g s _ (i + 1) _ HS1.out.lxr (by go_num)).mono ?_
 rintro e w2 ⟨rfl, hb2, hc2⟩
 have HS2 := Hd (HS1.out.below hb2)
 have HB2 := Hd (bnextB HB1.out hb2 hb0)
 have hcat2 : w2.cell? ⟨g, 1, none⟩ = some (.int .i64 (i : Int)) := HS2.out.1.cell 1
 clear hb2
 go_wp2_with fail
 rw [show ((i : Int) + 1 + 1) = ((i + 2 : Nat) : Int) from by omega]
 refine (lput_any base g s i v l 6 [124] _ _ HS2.out (Nat.le_trans hb0 HB2.out.size) hl).mono ?_
 rintro e w7 ⟨rfl, hb7, hs7⟩
 have HB7 := Hd hb7
 have HS7 := Hd hs7
 clear hb7 hs7
 go_wp2
 go_ret2
 exact TokP.tok_ HE.out (by decide) (HB2.out.trans HB7.out) HS7.out
set_option maxRecDepth 20000 in
theorem lsym_quo (base g : Nat) (s : ByteArray) (i : Nat) (v : Value) (l : List Lx.Tk) (w : World) (h : LxS w base g s (i : Int) v l) (hb0 : base ≤ w.heap.size) (hl : l.length ≤ 65536) (hs : s.size ≤ 65536) (h1 : i + 1 < s.size) (hb : s[i + 1]'h1 = 39) :
  Calls Tryz.prog 96 #[.pointer (some ⟨g, 0, none⟩)] w (TokP base g s l i (Lx.symF s.data.toList i) w) := by
 have HS := Hd h
 have hcell0 : w.cell? ⟨g, 0, none⟩ = some (.string s) := h.1.cell 0
 have hcell1 : w.cell? ⟨g, 1, none⟩ = some (.int .i64 (i : Int)) := h.1.cell 1
 clear h
 have d0 : ((i : Int) + 1 == (s.size : Int)) = false := by rw [beq_eq_false_iff_ne]; omega
 have hcb : Lx.cls (s[i + 1]'h1) = 0 := by rw [hb]; decide
 have HX : Hid (s.data.toList[i + 1]? = some 39) := Hd (by rw [get_in h1, hb])
 have dA : ((clsAt s.data.toList (i + 1) : Int) == 2) = false := natInt (by rw [clsAt_in h1]; omega)
 have dB : ((clsAt s.data.toList (i + 1) : Int) == 4) = false := natInt (by rw [clsAt_in h1]; omega)
 have e124 : (((s[i + 1]'h1).toNat : Int) == 124) = false := eqb_no (b := 124) rfl (by rw [hb]; decide)
 have e39 : (((s[i + 1]'h1).toNat : Int) == 39) = true := eqb_yes (b := 39) rfl hb
 clear hb hcb
 cases hq : Lx.qF s.data.toList (i + 1) with
 | none =>
  have HE := Hd (symF_quo0 HX.out hq)
  have HQ := Hd hq
  clear hq
  go_enter Tryz.func96, Tryz.ntmps96
  go_wp2_with fail
  refine (lclass_any g s _ (i + 1) _ HS.out.lxr (by go_num)).mono ?_
  rintro e w1 ⟨rfl, hb1, hc1⟩
  have HS1 := Hd (HS.out.below hb1)
  have HB1 := Hd (hb1.mono hb0)
  clear hb1
  go_wp2_with fail
  refine (lclass_any g s _ (i + 1) _ HS1.out.lxr (by go_num)).mono ?_
  rintro e w2 ⟨rfl, hb2, hc2⟩
  have HS2 := Hd (HS1.out.below hb2)
  have HB2 := Hd (bnextB HB1.out hb2 hb0)
  have hcat2 : w2.cell? ⟨g, 1, none⟩ = some (.int .i64 (i : Int)) := HS2.out.1.cell 1
  clear hb2
  go_wp2_with fail
  refine (lquoted_any g s _ (i + 1) _ HS2.out.lxr hs (by go_num) h1).mono ?_
  rintro e w3 ⟨rfl, hb3⟩
  rw [HQ.out, quoVn]
  have HB3 := Hd (bnextB HB2.out hb3 hb0)
  clear hb3
  go_wp2
  go_ret2
  exact TokP.bad_ (p := i + 1) (er := 121) HE.out (by decide) HB3.out
 | some r =>
  obtain ⟨t, n⟩ := r
  have HE := Hd (symF_quo1 HX.out hq)
  have HQ := Hd hq
  clear hq
  go_enter Tryz.func96, Tryz.ntmps96
  go_wp2_with fail
  refine (lclass_any g s _ (i + 1) _ HS.out.lxr (by go_num)).mono ?_
  rintro e w1 ⟨rfl, hb1, hc1⟩
  have HS1 := Hd (HS.out.below hb1)
  have HB1 := Hd (hb1.mono hb0)
  clear hb1
  go_wp2_with fail
  refine (lclass_any g s _ (i + 1) _ HS1.out.lxr (by go_num)).mono ?_
  rintro e w2 ⟨rfl, hb2, hc2⟩
  have HS2 := Hd (HS1.out.below hb2)
  have HB2 := Hd (bnextB HB1.out hb2 hb0)
  have hcat2 : w2.cell? ⟨g, 1, none⟩ = some (.int .i64 (i : Int)) := HS2.out.1.cell 1
  clear hb2
  go_wp2_with fail
  refine (lquoted_any g s _ (i + 1) _ HS2.out.lxr hs (by go_num) h1).mono ?_
  rintro e w3 ⟨rfl, hb3⟩
  rw [HQ.out, quoVs]
  have HS3 := Hd (HS2.out.below hb3)
  have HB3 := Hd (bnextB HB2.out hb3 hb0)
  clear hb3
  go_wp2_with fail
  refine (lput_any base g s i v l 6 t _ _ HS3.out (Nat.le_trans hb0 HB3.out.size) hl).mono ?_
  rintro e w7 ⟨rfl, hb7, hs7⟩
  have HB7 := Hd hb7
  have HS7 := Hd hs7
  clear hb7 hs7
  go_wp2
  go_ret2
  exact TokP.tok_ HE.out (by decide) (HB3.out.trans HB7.out) HS7.out
set_option maxRecDepth 20000 in
theorem lsym_open (base g : Nat) (s : ByteArray) (i : Nat) (v : Value) (l : List Lx.Tk) (w : World) (h : LxS w base g s (i : Int) v l) (hb0 : base ≤ w.heap.size) (hl : l.length ≤ 65536) (hs : s.size ≤ 65536) (h1 : i + 1 < s.size) (hb : s[i + 1]'h1 = 40 ∨ s[i + 1]'h1 = 91) :
  Calls Tryz.prog 96 #[.pointer (some ⟨g, 0, none⟩)] w (TokP base g s l i (Lx.symF s.data.toList i) w) := by
 have HS := Hd h
 have hcell0 : w.cell? ⟨g, 0, none⟩ = some (.string s) := h.1.cell 0
 have hcell1 : w.cell? ⟨g, 1, none⟩ = some (.int .i64 (i : Int)) := h.1.cell 1
 clear h
 have d0 : ((i : Int) + 1 == (s.size : Int)) = false := by rw [beq_eq_false_iff_ne]; omega
 have HE := Hd (symF_open (get_in h1) hb)
 have hcb : Lx.cls (s[i + 1]'h1) = 5 := by rcases hb with hb | hb <;> (rw [hb]; decide)
 have dA : ((clsAt s.data.toList (i + 1) : Int) == 2) = false := natInt (by rw [clsAt_in h1]; omega)
 have dB : ((clsAt s.data.toList (i + 1) : Int) == 4) = false := natInt (by rw [clsAt_in h1]; omega)
 have e124 : (((s[i + 1]'h1).toNat : Int) == 124) = false := eqb_no (b := 124) rfl (by rcases hb with hb | hb <;> (rw [hb]; decide))
 have e39 : (((s[i + 1]'h1).toNat : Int) == 39) = false := eqb_no (b := 39) rfl (by rcases hb with hb | hb <;> (rw [hb]; decide))
 have w2i : IntKind.i64.wrap ((i : Int) + 1 + 1) = (i : Int) + 1 + 1 := IntWalk.i64_in _ (by omega)
 have k2 : (i : Int) ≤ (i : Int) + 1 + 1 := by omega
 have k3 : (i : Int) + 1 + 1 ≤ (s.size : Int) := by omega
 rcases hb with hb | hb
 ·have e40 : (((s[i + 1]'h1).toNat : Int) == 40) = true := eqb_yes (b := 40) rfl hb
  clear hb hcb
  go_enter Tryz.func96, Tryz.ntmps96
  go_wp2_with fail
  refine (lclass_any g s _ (i + 1) _ HS.out.lxr (by go_num)).mono ?_
  rintro e w1 ⟨rfl, hb1, hc1⟩
  have HS1 := Hd (HS.out.below hb1)
  have HB1 := Hd (hb1.mono hb0)
  clear hb1
  go_wp2_with fail
  refine (lclass_any g s _ (i + 1) _ HS1.out.lxr (by go_num)).mono ?_
  rintro e w2 ⟨rfl, hb2, hc2⟩
  have HS2 := Hd (HS1.out.below hb2)
  have HB2 := Hd (bnextB HB1.out hb2 hb0)
  have hcat2 : w2.cell? ⟨g, 1, none⟩ = some (.int .i64 (i : Int)) := HS2.out.1.cell 1
  clear hb2
  have hx0 : w2.cell? ⟨g, 0, none⟩ = some (.string s) := HS2.out.1.cell 0
  have HS2d := Hd HS2.out.drew
  have HB2d := Hd HB2.out.drew
  go_upto_region 22 with fail
  go_still_tail 14, (by kernel_rfl)
  change wpList _ _ _ _ _ w2.drew
  go_wp2_with fail
  rw [str_cut s i (i + 1 + 1), show ((i : Int) + 1 + 1) = ((i + 2 : Nat) : Int) from by omega]
  refine (lput_any base g s i v l 7 (Lx.cut s.data.toList i (i + 1 + 1)) _ _ HS2d.out (Nat.le_trans hb0 HB2d.out.size) hl).mono ?_
  rintro e w7 ⟨rfl, hb7, hs7⟩
  have HB7 := Hd hb7
  have HS7 := Hd hs7
  clear hb7 hs7
  go_wp2
  go_ret2
  exact TokP.tok_ HE.out (by decide) (HB2d.out.trans HB7.out) HS7.out
 ·have e40 : (((s[i + 1]'h1).toNat : Int) == 40) = false := eqb_no (b := 40) rfl (by rw [hb]; decide)
  have e91 : (((s[i + 1]'h1).toNat : Int) == 91) = true := eqb_yes (b := 91) rfl hb
  clear hb hcb
  go_enter Tryz.func96, Tryz.ntmps96
  go_wp2_with fail
  refine (lclass_any g s _ (i + 1) _ HS.out.lxr (by go_num)).mono ?_
  rintro e w1 ⟨rfl, hb1, hc1⟩
  have HS1 := Hd (HS.out.below hb1)
  have HB1 := Hd (hb1.mono hb0)
  clear hb1
  go_wp2_with fail
  refine (lclass_any g s _ (i + 1) _ HS1.out.lxr (by go_num)).mono ?_
  rintro e w2 ⟨rfl, hb2, hc2⟩
  have HS2 := Hd (HS1.out.below hb2)
  have HB2 := Hd (bnextB HB1.out hb2 hb0)
  have hcat2 : w2.cell? ⟨g, 1, none⟩ = some (.int .i64 (i : Int)) := HS2.out.1.cell 1
  clear hb2
  have hx0 : w2.cell? ⟨g, 0, none⟩ = some (.string s) := HS2.out.1.cell 0
  have HS2d := Hd HS2.out.drew
  have HB2d := Hd HB2.out.drew
  go_upto_region 22 with fail
  go_still_tail 14, (by kernel_rfl)
  change wpList _ _ _ _ _ w2.drew
  go_wp2_with fail
  rw [str_cut s i (i + 1 + 1), show ((i : Int) + 1 + 1) = ((i + 2 : Nat) : Int) from by omega]
  refine (lput_any base g s i v l 7 (Lx.cut s.data.toList i (i + 1 + 1)) _ _ HS2d.out (Nat.le_trans hb0 HB2d.out.size) hl).mono ?_
  rintro e w7 ⟨rfl, hb7, hs7⟩
  have HB7 := Hd hb7
  have HS7 := Hd hs7
  clear hb7 hs7
  go_wp2
  go_ret2
  exact TokP.tok_ HE.out (by decide) (HB2d.out.trans HB7.out) HS7.out
set_option maxRecDepth 20000 in
theorem lsym_else (base g : Nat) (s : ByteArray) (i : Nat) (v : Value) (l : List Lx.Tk) (w : World) (h : LxS w base g s (i : Int) v l) (hb0 : base ≤ w.heap.size) (hs : s.size ≤ 65536) (h1 : i + 1 < s.size) (hc2 : ¬ Lx.cls (s[i + 1]'h1) = 2) (hc4 : ¬ Lx.cls (s[i + 1]'h1) = 4) (h124 : ¬ s[i + 1]'h1 = 124) (h39 : ¬ s[i + 1]'h1 = 39) (ho : ¬ (s[i + 1]'h1 = 40 ∨ s[i + 1]'h1 = 91)) :
  Calls Tryz.prog 96 #[.pointer (some ⟨g, 0, none⟩)] w (TokP base g s l i (Lx.symF s.data.toList i) w) := by
 have HS := Hd h
 have hcell0 : w.cell? ⟨g, 0, none⟩ = some (.string s) := h.1.cell 0
 have hcell1 : w.cell? ⟨g, 1, none⟩ = some (.int .i64 (i : Int)) := h.1.cell 1
 clear h
 have d0 : ((i : Int) + 1 == (s.size : Int)) = false := by rw [beq_eq_false_iff_ne]; omega
 have HE := Hd (symF_else (get_in h1) hc2 hc4 h124 h39 ho)
 have dA : ((clsAt s.data.toList (i + 1) : Int) == 2) = false := natInt (by rw [clsAt_in h1]; omega)
 have dB : ((clsAt s.data.toList (i + 1) : Int) == 4) = false := natInt (by rw [clsAt_in h1]; omega)
 have e124 : (((s[i + 1]'h1).toNat : Int) == 124) = false := eqb_no (b := 124) rfl h124
 have e39 : (((s[i + 1]'h1).toNat : Int) == 39) = false := eqb_no (b := 39) rfl h39
 have e40 : (((s[i + 1]'h1).toNat : Int) == 40) = false := eqb_no (b := 40) rfl (fun h => ho (.inl h))
 have e91 : (((s[i + 1]'h1).toNat : Int) == 91) = false := eqb_no (b := 91) rfl (fun h => ho (.inr h))
 clear hc2 hc4 h124 h39 ho
 go_enter Tryz.func96, Tryz.ntmps96
 go_wp2_with fail
 refine (lclass_any g s _ (i + 1) _ HS.out.lxr (by go_num)).mono ?_
 rintro e w1 ⟨rfl, hb1, hc1⟩
 have HS1 := Hd (HS.out.below hb1)
 have HB1 := Hd (hb1.mono hb0)
 clear hb1
 go_wp2_with fail
 refine (lclass_any g s _ (i + 1) _ HS1.out.lxr (by go_num)).mono ?_
 rintro e w2 ⟨rfl, hb2, hc2⟩
 have HS2 := Hd (HS1.out.below hb2)
 have HB2 := Hd (bnextB HB1.out hb2 hb0)
 have hcat2 : w2.cell? ⟨g, 1, none⟩ = some (.int .i64 (i : Int)) := HS2.out.1.cell 1
 clear hb2
 go_wp2
 go_ret2
 exact TokP.bad_ (p := i) (er := 120) HE.out (by decide) HB2.out
theorem lsymbol_any (base g : Nat) (s : ByteArray) (i : Nat) (v : Value) (l : List Lx.Tk) (w : World) (h : LxS w base g s (i : Int) v l) (hb0 : base ≤ w.heap.size) (hl : l.length ≤ 65536) (hs : s.size ≤ 65536) (hI : i < s.size) :
  Calls Tryz.prog 96 #[.pointer (some ⟨g, 0, none⟩)] w (TokP base g s l i (Lx.symF s.data.toList i) w) := by
 by_cases h1 : i + 1 < s.size
 ·by_cases hc2 : Lx.cls (s[i + 1]'h1) = 2
  ·exact lsym_let base g s i v l w h hb0 hl hs h1 hc2
  ·by_cases hc4 : Lx.cls (s[i + 1]'h1) = 4
   ·exact lsym_bin base g s i v l w h hb0 hl hs h1 hc4
   ·by_cases h124 : s[i + 1]'h1 = 124
    ·exact lsym_bar base g s i v l w h hb0 hl hs h1 h124
    ·by_cases h39 : s[i + 1]'h1 = 39
     ·exact lsym_quo base g s i v l w h hb0 hl hs h1 h39
     ·by_cases ho : s[i + 1]'h1 = 40 ∨ s[i + 1]'h1 = 91
      ·exact lsym_open base g s i v l w h hb0 hl hs h1 ho
      ·exact lsym_else base g s i v l w h hb0 hs h1 hc2 hc4 h124 h39 ho
 ·exact lsym_none base g s i v l w h hs hI h1
end Go.Proofs.YtjhonaglmgmpiaaGreatDoor
namespace Go.Proofs.YtjhonaglmgmpiaaGreatDoor
open Go
section
variable {P : Program} {md : Region.Mode} {ops : Array Oper} {Q : Exit → Act → World → Prop} {S : World → Prop}
def wpAnyX (P : Program) (md : Region.Mode) (ops : Array Oper) (Q : Exit → Act → World → Prop) (S : World → Prop) (s : Nat) : Nat → Array Bool → Act → World → Prop
 | 0, lst, a, w => Region.ready md ops lst = [] ∧ Q .normal a w
 | f + 1, lst, a, w => (Region.ready md ops lst = [] → Q .normal a w) ∧ ∀ i ∈ Region.ready md ops lst, wpOp P ops Q i (fun a' w' => (i = s ∨ S w') ∧ wpAnyX P md ops Q S s f (lst.setIfInBounds i true) a' w') a w
theorem wpAny_of_x {s : Nat} : ∀ (f : Nat) (lst : Array Bool) (a : Act) (w : World), wpAnyX P md ops Q S s f lst a w → wpAny P md ops Q f lst a w
 | 0, _, _, _, h => h
 | f + 1, _, _, _, h => ⟨h.1, fun i hi => wpOp_mono (fun _ _ k => wpAny_of_x f _ _ _ k.2) (h.2 i hi)⟩
theorem wpAnyX_first {s i : Nat} {oi : Oper} {v : Value} (hi : ops[i]? = some oi) (hsel : ∀ (j : Nat) (o : Oper) cs b, ops[j]? = some o → o.op ≠ .select cs b)
  (hQ : ∀ c a w, Q (.panic c) (a.put oi.dst v) w → Q (.panic c) a w) (hlast : ∀ os, ops[s]? = some os → ∃ e ∈ os.after, Region.binds md e = true ∧ e.on = i) :
  ∀ (f : Nat) (lst : Array Bool) (a : Act) (w : World),
   (∀ j oj, ops[j]? = some oj → j ≠ i → lst.getD j true = false → (∀ e ∈ oj.after, Region.binds md e = true → e.on ≠ i) → oi.apart ops oj = true) →
   i ∈ Region.ready md ops lst → YieldsIf P ops S oi v a → S w → wpAnyX P md ops Q S s f (lst.setIfInBounds i true) (a.put oi.dst v) w → wpAnyX P md ops Q S s (f + 1) lst a w := by
 intro f
 induction f with
 | zero =>
  intro lst a w _ hr hy hS H
  refine ⟨fun h => by (rw [h] at hr; cases hr), fun j hj => ?_⟩
  by_cases hji : j = i
  ·subst hji
   exact hy.wpOp hi hS ⟨.inr hS, H⟩
  ·have h1 := ready_mono hj hji
   rw [H.1] at h1
   cases h1
 | succ f ih =>
  intro lst a w hfree hr hy hS H
  refine ⟨fun h => by (rw [h] at hr; cases hr), fun j hj => ?_⟩
  by_cases hji : j = i
  ·subst hji
   exact hy.wpOp hi hS ⟨.inr hS, H⟩
  ·have h1 := H.2 j (ready_mono hj hji)
   obtain ⟨hjun, oj, hoj, hall⟩ := mem_ready.1 hj
   have hnot : ∀ e ∈ oj.after, Region.binds md e = true → e.on ≠ i := fun e he hb heq => by
    have k1 := hall e he hb
    have k0 := (mem_ready.1 hr).1
    rw [heq] at k1
    rcases Nat.lt_or_ge i lst.size with h' | h'
    ·simp [h'] at k0 k1
     rw [k0] at k1; cases k1
    ·simp [Array.getElem?_eq_none h'] at k1
   have hjs : j ≠ s := fun e => by
    subst e
    obtain ⟨e, he, hb, ho⟩ := hlast oj hoj
    exact hnot e he hb ho
   have h2 := wpOp_putIf hoj (hfree j oj hoj hji hjun hnot) (fun cs b => hsel i oi cs b hi) (fun cs b => hsel j oj cs b hoj) hQ hy h1
   have hfree' : ∀ k ok, ops[k]? = some ok → k ≠ i → (lst.setIfInBounds j true).getD k true = false → (∀ e ∈ ok.after, Region.binds md e = true → e.on ≠ i) → oi.apart ops ok = true := fun k ok hk hki hun hno => by
    refine hfree k ok hk hki ?_ hno
    by_cases hjk : j = k
    ·subst hjk; exact hjun
    ·rw [getD_set_ne true hjk] at hun; exact hun
   refine wpOp_mono (fun a' w' h3 => ?_) h2
   have hS' : S w' := h3.2.1.resolve_left hjs
   refine ⟨.inr hS', ih (lst.setIfInBounds j true) a' w' hfree' (ready_mono hr (Ne.symm hji)) h3.1 hS' ?_⟩
   rw [Array.setIfInBounds_comm _ _ hji]
   exact h3.2.2
def waitsB (md : Region.Mode) (ops : Array Oper) (s i : Nat) : Bool := match ops[s]? with
 | some o => o.after.any fun e => Region.binds md e && e.on == i
 | none => true
theorem wpAnyX_take {s i : Nat} {oi : Oper} {v : Value} {f : Nat} {lst : Array Bool} {a : Act} {w : World} (hi : ops[i]? = some oi)
  (hs : Region.noSelect ops = true) (hf : Region.free md ops lst i = true) (hr : (Region.ready md ops lst).contains i = true) (hw : waitsB md ops s i = true)
  (hQ : ∀ c a w, Q (.panic c) (a.put oi.dst v) w → Q (.panic c) a w) (hy : YieldsIf P ops S oi v a) (hS : S w)
  (h : wpAnyX P md ops Q S s f (lst.setIfInBounds i true) (a.put oi.dst v) w) : wpAnyX P md ops Q S s (f + 1) lst a w :=
 wpAnyX_first hi (Region.noSelect_spec hs) hQ (fun os ho => by
  unfold waitsB at hw
  rw [ho] at hw
  dsimp only at hw
  rw [Array.any_eq_true] at hw
  obtain ⟨k, hk, h1⟩ := hw
  rw [Bool.and_eq_true, beq_iff_eq] at h1
  exact ⟨_, Array.getElem_mem hk, h1.1, h1.2⟩) f lst a w (Region.free_spec hi hf) (by simpa using hr) hy hS h
theorem wpAnyX_done {s : Nat} {lst : Array Bool} {a : Act} {w : World} (hr : Region.ready md ops lst = []) (h : Q .normal a w) : ∀ f, wpAnyX P md ops Q S s f lst a w
 | 0 => ⟨hr, h⟩
 | _ + 1 => ⟨fun _ => h, by rw [hr]; simp⟩
theorem wp_region_x {s id : Nat} {a : Act} {w : World} (hm : P.follows .mixedOrders = true) (hS : S w.drew)
  (h : S w.drew → wpAnyX P .any ops Q S s ops.size (Array.replicate ops.size false) a w.drew) : (Code.region id ops true).wp P Q a w :=
 wp_region_any hm (wpAny_of_x _ _ _ _ (h hS))
theorem wpAnyX_one {s i : Nat} {o : Oper} {f : Nat} {lst : Array Bool} {a : Act} {w : World} (hr : Region.ready md ops lst = [i]) (hi : ops[i]? = some o)
  (h : ∀ K : Act → World → Prop, Shut (∀ a w, S w → (S w → wpAnyX P md ops Q S s f (lst.setIfInBounds i true) a w) → K a w) → if Region.wanted o (yielded ops a.tmps) = true then Oper.wp P o a w K Q else K (a.put o.dst undef) w) : wpAnyX P md ops Q S s (f + 1) lst a w :=
 ⟨fun h0 => by (rw [hr] at h0; cases h0), fun j hj => by
  rw [hr, List.mem_singleton] at hj
  subst hj
  exact wpOp_step hi (fun K' hK => h K' (fun a w hS hW => hK a w ⟨.inr hS, hW hS⟩))⟩
theorem wpAnyX_last {s : Nat} {o : Oper} {f : Nat} {lst : Array Bool} {a : Act} {w : World} (hr : Region.ready md ops lst = [s]) (hi : ops[s]? = some o)
  (h : ∀ K : Act → World → Prop, Shut (∀ a w, wpAnyX P md ops Q S s f (lst.setIfInBounds s true) a w → K a w) → if Region.wanted o (yielded ops a.tmps) = true then Oper.wp P o a w K Q else K (a.put o.dst undef) w) : wpAnyX P md ops Q S s (f + 1) lst a w :=
 ⟨fun h0 => by (rw [hr] at h0; cases h0), fun j hj => by
  rw [hr, List.mem_singleton] at hj
  subst hj
  exact wpOp_step hi (fun K' hK => h K' (fun a w hW => hK a w ⟨.inl rfl, hW⟩))⟩
theorem xt {s i : Nat} {oi : Oper} {v : Value} {f : Nat} {lst : Array Bool} {a a' : Act} {w : World} (h : wpAnyX P md ops Q S s f (lst.setIfInBounds i true) a' w)
  (hi : ops[i]? = some oi := by simp only [List.getElem?_toArray, List.getElem?_cons_succ, List.getElem?_cons_zero]; rfl)
  (hs : Region.noSelect ops = true := by kernel_rfl) (hf : Region.free md ops lst i = true := by kernel_rfl) (hr : (Region.ready md ops lst).contains i = true := by kernel_rfl) (hw : waitsB md ops s i = true := by kernel_rfl)
  (hQ : ∀ c a w, Q (.panic c) (a.put oi.dst v) w → Q (.panic c) a w := by exact fun _ _ _ h => h) (h1 : Region.wanted oi (yielded ops a.tmps) = true := by rfl) (h2 : ∀ w, S w → (execOp a.eval oi).run P w = .ok (.value v) w := by intro w hSw; (try dsimp only at hSw); go_split_ands; go_simp <;> with_reducible rfl) (hS : S w := by assumption)
  (ha : a.put oi.dst v = a' := by (try simp only [Act.put, List.setIfInBounds_toArray, List.set_cons_zero, List.set_cons_succ]); exact rfl) : wpAnyX P md ops Q S s (f + 1) lst a w := wpAnyX_take hi hs hf hr hw hQ (.inl ⟨h1, h2⟩) hS (by rw [ha]; exact h)
theorem ht {i : Nat} {oi : Oper} {v : Value} {f : Nat} {lst : Array Bool} {a a' : Act} {w : World} (h : wpAnyH P md ops Q S f (lst.setIfInBounds i true) a' w)
  (hi : ops[i]? = some oi := by simp only [List.getElem?_toArray, List.getElem?_cons_succ, List.getElem?_cons_zero]; rfl)
  (hs : Region.noSelect ops = true := by kernel_rfl) (hf : Region.free md ops lst i = true := by kernel_rfl) (hr : (Region.ready md ops lst).contains i = true := by kernel_rfl)
  (hQ : ∀ c a w, Q (.panic c) (a.put oi.dst v) w → Q (.panic c) a w := by exact fun _ _ _ h => h) (h1 : Region.wanted oi (yielded ops a.tmps) = true := by rfl) (h2 : ∀ w, S w → (execOp a.eval oi).run P w = .ok (.value v) w := by intro w hSw; (try dsimp only at hSw); go_split_ands; go_simp <;> with_reducible rfl) (hS : S w := by assumption)
  (ha : a.put oi.dst v = a' := by (try simp only [Act.put, List.setIfInBounds_toArray, List.set_cons_zero, List.set_cons_succ]); exact rfl) : wpAnyH P md ops Q S (f + 1) lst a w := wpAnyH_take hi hs hf hr hQ (.inl ⟨h1, h2⟩) hS (by rw [ha]; exact h)
theorem x1 {s i : Nat} {o : Oper} {f : Nat} {lst : Array Bool} {a : Act} {w : World}
  (h : ∀ K : Act → World → Prop, Shut (∀ a w, S w → (S w → wpAnyX P md ops Q S s f (lst.setIfInBounds i true) a w) → K a w) → if Region.wanted o (yielded ops a.tmps) = true then Oper.wp P o a w K Q else K (a.put o.dst undef) w)
  (hr : Region.ready md ops lst = [i] := by kernel_rfl) (hi : ops[i]? = some o := by simp only [List.getElem?_toArray, List.getElem?_cons_succ, List.getElem?_cons_zero]; rfl) : wpAnyX P md ops Q S s (f + 1) lst a w := wpAnyX_one hr hi h
theorem xl {s : Nat} {o : Oper} {f : Nat} {lst : Array Bool} {a : Act} {w : World}
  (h : ∀ K : Act → World → Prop, Shut (∀ a w, wpAnyX P md ops Q S s f (lst.setIfInBounds s true) a w → K a w) → if Region.wanted o (yielded ops a.tmps) = true then Oper.wp P o a w K Q else K (a.put o.dst undef) w)
  (hr : Region.ready md ops lst = [s] := by kernel_rfl) (hi : ops[s]? = some o := by simp only [List.getElem?_toArray, List.getElem?_cons_succ, List.getElem?_cons_zero]; rfl) : wpAnyX P md ops Q S s (f + 1) lst a w := wpAnyX_last hr hi h
end
end Go.Proofs.YtjhonaglmgmpiaaGreatDoor
namespace Go.Proofs.YtjhonaglmgmpiaaGreatDoor
open Go.RowKit
theorem wp_world {P : Program} {c : Code} {Q : Exit → Act → World → Prop} {a : Act} {W : World} (F : World → Prop) (hF : F W) (h : ∀ W', F W' → Code.wp P c Q a W') : Code.wp P c Q a W := h W hF
theorem wp_env {P : Program} {cd : Code} {Q : Exit → Act → World → Prop} {a : Act} {w W : World} {g c fin : Nat} {A : Option Addr} {T : List Lx.Tk} {s : Ps.PS} {L : List Lc} (hE : Env w g A c T fin s L W) (h : ∀ W', Env w g A c T fin s L W' → Code.wp P cd Q a W') : Code.wp P cd Q a W := h W hE
theorem wp_env2 {P : Program} {cd : Code} {Q : Exit → Act → World → Prop} {a : Act} {w W : World} {g c fin : Nat} {A : Option Addr} {T : List Lx.Tk} {s : Ps.PS} {L : List Lc} (hE : Env w g A c T fin s L W) (X : World → Prop) (hX : X W) (h : ∀ W', Env w g A c T fin s L W' → X W' → Code.wp P cd Q a W') : Code.wp P cd Q a W := h W hE hX
theorem new_below (W : World) (o : Obj) : Below W.heap.size W (W.alloc o) := (Below.refl _ _).alloc (Nat.le_refl _) o
theorem ret40 {fn : Func} {p : Tmp} (h : fn.results = #[.cell p 37]) (tmps : Array Value) (w : World) {k : Nat} {x y z : Value} (hp : tmps.getD p undef = .pointer (some ⟨k, 0, none⟩)) (hb : Blk w k 37 #[x, y, z]) :
  (results fn tmps).run Tryz.prog w = .ok (.agg #[x, y, z]) w := results_cell_row h tmps w k 37 _ (0, 0) _ hp hb Tryz.underlying37 rfl (by kernel_rfl)
theorem ret26 {fn : Func} {p : Tmp} (h : fn.results = #[.cell p 27]) (tmps : Array Value) (w : World) {k : Nat} {x0 x1 x2 x3 x4 x5 x6 : Value} (hp : tmps.getD p undef = .pointer (some ⟨k, 0, none⟩)) (hb : Blk w k 27 #[x0, x1, x2, x3, x4, x5, x6]) :
  (results fn tmps).run Tryz.prog w = .ok (.agg #[x0, x1, x2, x3, x4, x5, x6]) w := results_cell_row h tmps w k 27 _ (0, 0) _ hp hb Tryz.underlying27 rfl (by kernel_rfl)
theorem below_set3 {B : Nat} {w w1 : World} (h : Below B w w1) {k : Nat} (hk : B ≤ k) (y0 y1 y2 : Value) : Below B w (((w1.setCell ⟨k, 0, none⟩ y0).setCell ⟨k, 1, none⟩ y1).setCell ⟨k, 2, none⟩ y2) := ((h.setCell hk _).setCell hk _).setCell hk _
theorem below_set7 {B : Nat} {w w1 : World} (h : Below B w w1) {k : Nat} (hk : B ≤ k) (y0 y1 y2 y3 y4 y5 y6 : Value) : Below B w (((((((w1.setCell ⟨k, 0, none⟩ y0).setCell ⟨k, 1, none⟩ y1).setCell ⟨k, 2, none⟩ y2).setCell ⟨k, 3, none⟩ y3).setCell ⟨k, 4, none⟩ y4).setCell ⟨k, 5, none⟩ y5).setCell ⟨k, 6, none⟩ y6) :=
 ((((((h.setCell hk _).setCell hk _).setCell hk _).setCell hk _).setCell hk _).setCell hk _).setCell hk _
set_option maxRecDepth 20000 in
theorem pnext_any {w : World} {g c fin : Nat} {A : Option Addr} {T : List Lx.Tk} {s : Ps.PS} (h : PA w g A c T fin s) :
  Calls Tryz.prog 28 #[.pointer (some ⟨g, 0, none⟩)] w fun e w' => e = .returned (.agg #[.int .i64 ((Ps.nx T fin s).1 : Int), .string ⟨(Ps.nx T fin s).2.1.toArray⟩, .int .i64 ((Ps.nx T fin s).2.2 : Int)]) ∧ Below w.heap.size w w' := by
 obtain ⟨k0, k1, k2, k3⟩ := h.cells
 have hg := h.lt
 have H := Hd h
 clear h
 have n0 : w.heap.size ≠ g := by omega
 by_cases hlt : s.at_ < T.length
 ·have HE : Hid (Ps.nx T fin s = T.getD s.at_ (0, [], fin)) := Hd rfl
  obtain ⟨b, off, rfl, hb, hbw, t0, t1, t2⟩ := H.out.tok hlt
  rw [HE.out]
  generalize T.getD s.at_ (0, [], fin) = t at *
  have n1 : w.heap.size ≠ b := by omega
  go_enter Tryz.func28, Tryz.ntmps28
  go_wp2
  go_quiet (fail)
  go_wp2
  go_region_held3 (fun W => W.cell? ⟨g, 0, none⟩ = some (.slice (some ⟨b, off, none⟩) T.length c) ∧ W.cell? ⟨g, 1, none⟩ = some (.int .i64 (s.at_ : Int)) ∧ W.cell? ⟨b, off + s.at_ * 3, none⟩ = some (.int .i64 (t.1 : Int)) ∧ W.cell? ⟨b, off + s.at_ * 3 + 1, none⟩ = some (.string ⟨t.2.1.toArray⟩) ∧ W.cell? ⟨b, off + s.at_ * 3 + 2, none⟩ = some (.int .i64 (t.2.2 : Int)))
   (first | go_keep) ((first | fail))
  go_wp2
  refine bodyPost_ret (ret40 rfl _ _ rfl (((Blk.new w 37 _).drewN _).set3 _ _ _)) rfl ⟨rfl, ?_⟩
  exact below_set3 (below_drewN ((Below.refl _ _).alloc (Nat.le_refl _) _) _) (Nat.le_refl _) _ _ _
 ·have HE : Hid (Ps.nx T fin s = (0, [], fin)) := Hd (by unfold Ps.nx; rw [List.getD_eq_getElem?_getD, List.getElem?_eq_none (by omega)]; rfl)
  rw [HE.out]
  go_enter Tryz.func28, Tryz.ntmps28
  go_wp2
  go_quiet (fail)
  go_wp2
  refine bodyPost_ret (ret40 rfl _ _ rfl (((Blk.new w 37 _).drewN _).set3 _ _ _)) rfl ⟨rfl, ?_⟩
  exact below_set3 (below_drewN ((Below.refl _ _).alloc (Nat.le_refl _) _) _) (Nat.le_refl _) _ _ _
theorem kd_eqb (n k : Nat) : ((n : Int) == (k : Int)) = (n == k) := by rw [Bool.eq_iff_iff]; simp; omega
theorem str_toList (x : Lx.Txt) : (⟨x.toArray⟩ : ByteArray).toList = x := ByteArray.toList_mk x
theorem str_eqb (x y : Lx.Txt) : ((⟨x.toArray⟩ : ByteArray).toList == (⟨y.toArray⟩ : ByteArray).toList) = (x == y) := by rw [str_toList, str_toList]
set_option maxRecDepth 20000 in
theorem pmark_any (t : Lx.Tk) (x : Lx.Txt) (w : World) : Calls Tryz.prog 71 #[.agg #[.int .i64 (t.1 : Int), .string ⟨t.2.1.toArray⟩, .int .i64 (t.2.2 : Int)], .string ⟨x.toArray⟩] w fun e w' => e = .returned (.bool (Ps.isM t x)) ∧ Below w.heap.size w w' := by
 have d2 := str_eqb t.2.1 x
 obtain ⟨k, tx, pl⟩ := t
 by_cases hk : k = 7
 ·have d1 : ((k : Int) == 7) = true := by simp [hk]
  have HE : Hid (Ps.isM (k, tx, pl) x = (tx == x)) := Hd (by unfold Ps.isM; rw [hk]; rfl)
  dsimp only at d2
  clear hk
  go_enter Tryz.func71, Tryz.ntmps71
  go_wp2
  go_ret
  exact ⟨ret_bool (by rw [HE.out]), (Below.refl _ _).alloc (Nat.le_refl _) _⟩
 ·have d1 : ((k : Int) == 7) = false := natInt (by omega)
  have HE : Hid (Ps.isM (k, tx, pl) x = false) := Hd (by unfold Ps.isM; simp [hk])
  clear d2 hk
  go_enter Tryz.func71, Tryz.ntmps71
  go_wp2
  go_ret
  exact ⟨ret_bool (by rw [HE.out]), (Below.refl _ _).alloc (Nat.le_refl _) _⟩
set_option maxRecDepth 20000 in
theorem pis_any {w : World} {g c fin : Nat} {A : Option Addr} {T : List Lx.Tk} {s : Ps.PS} (h : PA w g A c T fin s) (x : Lx.Txt) :
  Calls Tryz.prog 75 #[.pointer (some ⟨g, 0, none⟩), .string ⟨x.toArray⟩] w fun e w' => e = .returned (.bool (Ps.is_ T fin s x)) ∧ Below w.heap.size w w' := by
 have HN := Hd (pnext_any h)
 have HE : Hid (Ps.is_ T fin s x = Ps.isM (Ps.nx T fin s) x) := Hd rfl
 clear h
 generalize Ps.nx T fin s = t at *
 have HM := Hd fun w => pmark_any t x w
 go_enter Tryz.func75, Tryz.ntmps75
 go_wp2_with (first
  | (go_at_call 28; refine HN.out.mono ?_; rintro e w1 ⟨rfl, hb1⟩; have HB1 := Hd hb1; clear hb1)
  | (go_at_call 71; refine (HM.out _).mono ?_; rintro e w2 ⟨rfl, hb2⟩; have HB2 := Hd hb2; clear hb2))
 go_ret
 exact ⟨ret_bool (by rw [HE.out]), bnext HB1.out HB2.out⟩
set_option maxRecDepth 20000 in
theorem ptake_any {w : World} {g c fin : Nat} {A : Option Addr} {T : List Lx.Tk} {s : Ps.PS} (h : PA w g A c T fin s) (hs : s.at_ ≤ 100000) :
  Calls Tryz.prog 29 #[.pointer (some ⟨g, 0, none⟩)] w fun e w' => e = .returned (.agg #[.int .i64 ((Ps.nx T fin s).1 : Int), .string ⟨(Ps.nx T fin s).2.1.toArray⟩, .int .i64 ((Ps.nx T fin s).2.2 : Int)]) ∧ PP w g A c T fin (Ps.adv s) w' := by
 have E0 := (Env.start h).box 37 [.int .i64 0, .string ⟨#[]⟩, .int .i64 0] (by decide)
 have HN := Hd (pnext_any E0.pa)
 clear h
 generalize Ps.nx T fin s = t at *
 go_enter Tryz.func29, Tryz.ntmps29
 go_upto_region 2 with (go_at_call 28; refine HN.out.mono ?_; rintro e w1 ⟨rfl, hb1⟩; have E1 := E0.below hb1; clear hb1)
 refine wp_env (E1.box 37 [_, _, _] (by decide)) fun w2 E2 => ?_
 clear E0 E1
 obtain ⟨k0, k1, k2, k3⟩ := E2.pa.cells
 have kf := E2.pa.frz
 have hg := E2.pa.lt
 obtain ⟨a0, a1, a2, a3⟩ := E2.c3 0 rfl
 go_upto_region 3 with fail
 refine wp_env (E2.setAt (s.at_ + 1) _ (by first | rfl | omega)) fun w3 E3 => ?_
 clear k0 k1 k2 k3 kf hg a0 a1 a2 a3 E2
 obtain ⟨a0, a1, a2, a3⟩ := E3.c3 0 rfl
 obtain ⟨b0, b1, b2, b3⟩ := E3.c3 1 rfl
 have f1 := E3.fz 1 rfl
 go_wp2
 have E4 := E3.put3 1 rfl (.int .i64 (t.1 : Int)) (.string ⟨t.2.1.toArray⟩) (.int .i64 (t.2.2 : Int))
 exact bodyPost_ret (ret40 rfl _ _ rfl (E4.blk 1 rfl)) rfl ⟨rfl, E4.pp⟩
theorem ok_fault {s : Ps.PS} (h : Ps.ok s = true) : s.fault = none := by
 unfold Ps.ok at h
 cases hs : s.fault with
 | none => rfl
 | some x => rw [hs] at h; cases h
theorem rf_ok {s : Ps.PS} (h : Ps.ok s = true) (p e : Nat) : Ps.rf s p e = { s with fault := some (p, e) } := by unfold Ps.rf; rw [ok_fault h]
theorem rf_bad {s : Ps.PS} (h : Ps.ok s = false) (p e : Nat) : Ps.rf s p e = s := by
 obtain ⟨a, d, f⟩ := s
 cases f with
 | none => cases h
 | some x => rfl
set_option maxRecDepth 20000 in
theorem prefuse_any {w : World} {g c fin : Nat} {A : Option Addr} {T : List Lx.Tk} {s : Ps.PS} (h : PA w g A c T fin s) (p e : Nat) :
  Calls Tryz.prog 74 #[.pointer (some ⟨g, 0, none⟩), .int .i64 (p : Int), .int .i64 (e : Int)] w fun e' w' => e' = .returned (.agg #[.int .i64 0, .string ⟨#[]⟩, .slice none 0 0, .slice none 0 0, .slice none 0 0, .int .i64 0, .int .i64 0]) ∧ PP w g A c T fin (Ps.rf s p e) w' := by
 have E0 := (Env.start h).box 27 [.int .i64 0, .string ⟨#[]⟩, .slice none 0 0, .slice none 0 0, .slice none 0 0, .int .i64 0, .int .i64 0] (by decide)
 clear h
 go_enter Tryz.func74, Tryz.ntmps74
 go_upto_region 1 with fail
 refine wp_env E0 fun w1 E1 => ?_
 clear E0
 have hg := E1.pa.lt
 cases hk : Ps.ok s with
 | true =>
  have HS := Hd (rf_ok hk p e)
  have k4 := E1.pa.okc hk
  have kf := E1.pa.frz 4
  clear hk
  go_upto_region 3 with fail
  refine wp_env (E1.flt p e) fun w2 E2 => ?_
  clear E1 k4 kf hg
  obtain ⟨a, a0, a1, a2, a3, a4, a5, a6⟩ := E2.c7 0 rfl
  have f := E2.fz 0 rfl
  go_wp2
  have E4 := E2.put7 0 rfl (.int .i64 0) (.string ⟨#[]⟩) (.slice none 0 0) (.slice none 0 0) (.slice none 0 0) (.int .i64 0) (.int .i64 0)
  exact bodyPost_ret (ret26 rfl _ _ rfl (E4.blk 0 rfl)) rfl ⟨rfl, by rw [HS.out]; exact E4.pp⟩
 | false =>
  have HS := Hd (rf_bad hk p e)
  obtain ⟨kq, k4⟩ := E1.pa.noc hk
  obtain ⟨a, a0, a1, a2, a3, a4, a5, a6⟩ := E1.c7 0 rfl
  have f := E1.fz 0 rfl
  go_wp2
  have E4 := E1.put7 0 rfl (.int .i64 0) (.string ⟨#[]⟩) (.slice none 0 0) (.slice none 0 0) (.slice none 0 0) (.int .i64 0) (.int .i64 0)
  exact bodyPost_ret (ret26 rfl _ _ rfl (E4.blk 0 rfl)) rfl ⟨rfl, by rw [HS.out]; exact E4.pp⟩
theorem fld0 (x y z : Value) (w : World) : (Instr.field 37 (.agg #[x, y, z]) 0).run Tryz.prog w = .ok x w := by kernel_rfl
theorem fld1 (x y z : Value) (w : World) : (Instr.field 37 (.agg #[x, y, z]) 1).run Tryz.prog w = .ok y w := by kernel_rfl
theorem fld2 (x y z : Value) (w : World) : (Instr.field 37 (.agg #[x, y, z]) 2).run Tryz.prog w = .ok z w := by kernel_rfl
set_option maxRecDepth 20000 in
theorem podd_any {w : World} {g c fin : Nat} {A : Option Addr} {T : List Lx.Tk} {s : Ps.PS} (h : PA w g A c T fin s) :
  Calls Tryz.prog 32 #[.pointer (some ⟨g, 0, none⟩)] w fun e' w' => e' = .returned (.agg #[.int .i64 0, .string ⟨#[]⟩, .slice none 0 0, .slice none 0 0, .slice none 0 0, .int .i64 0, .int .i64 0]) ∧ PP w g A c T fin (Ps.odd T fin s) w' := by
 have E0 := (Env.start h).box 27 [.int .i64 0, .string ⟨#[]⟩, .slice none 0 0, .slice none 0 0, .slice none 0 0, .int .i64 0, .int .i64 0] (by decide)
 have HS : Hid (Ps.odd T fin s = Ps.rf s (Ps.nx T fin s).2.2 124) := Hd rfl
 have HN := Hd (pnext_any E0.pa)
 clear h
 generalize Ps.nx T fin s = t at *
 have hf := fld2 (.int .i64 (t.1 : Int)) (.string ⟨t.2.1.toArray⟩) (.int .i64 (t.2.2 : Int))
 go_enter Tryz.func32, Tryz.ntmps32
 go_wp2_with (first
  | (go_at_call 28; refine HN.out.mono ?_; rintro e w1 ⟨rfl, hb1⟩; have E1 := E0.below hb1; clear hb1)
  | (go_at_call 74; refine (prefuse_any E1.pa t.2.2 124).mono ?_; rintro e w2 ⟨rfl, hp⟩; have E2 := E1.call hp; clear hp; obtain ⟨a, a0, a1, a2, a3, a4, a5, a6⟩ := E2.c7 0 rfl; have f := E2.fz 0 rfl))
 have E4 := E2.put7 0 rfl (.int .i64 0) (.string ⟨#[]⟩) (.slice none 0 0) (.slice none 0 0) (.slice none 0 0) (.int .i64 0) (.int .i64 0)
 exact bodyPost_ret (ret26 rfl _ _ rfl (E4.blk 0 rfl)) rfl ⟨rfl, by rw [HS.out]; exact E4.pp⟩
set_option maxRecDepth 20000 in
theorem pbin_any (t : Lx.Tk) (w : World) : Calls Tryz.prog 30 #[.agg #[.int .i64 ((t).1 : Int), .string ⟨(t).2.1.toArray⟩, .int .i64 ((t).2.2 : Int)]] w fun e w' => e = .returned (.bool (Ps.binS t)) ∧ Below w.heap.size w w' := by
 have HM := Hd fun w => pmark_any t [124] w
 obtain ⟨k, tx, pl⟩ := t
 by_cases hk : k = 3
 ·have d1 : ((k : Int) == 3) = true := by simp [hk]
  have HE : Hid (Ps.binS (k, tx, pl) = true) := Hd (by unfold Ps.binS; simp [hk])
  clear hk
  go_enter Tryz.func30, Tryz.ntmps30
  go_wp2
  go_ret
  exact ⟨ret_bool (by rw [HE.out]), (Below.refl _ _).alloc (Nat.le_refl _) _⟩
 ·have d1 : ((k : Int) == 3) = false := natInt (by omega)
  have HE : Hid (Ps.binS (k, tx, pl) = Ps.isM (k, tx, pl) [124]) := Hd (by unfold Ps.binS; simp [hk])
  clear hk
  go_enter Tryz.func30, Tryz.ntmps30
  go_wp2_with (go_at_call 71; refine (HM.out _).mono ?_; rintro e w2 ⟨rfl, hb2⟩; have HB2 := Hd hb2; clear hb2)
  go_ret
  exact ⟨ret_bool (by rw [HE.out]), bnext ((Below.refl _ _).alloc (Nat.le_refl _) _) HB2.out⟩
theorem kd_neb (n k : Nat) : ((n : Int) != (k : Int)) = (n != k) := by rw [bne, kd_eqb]; rfl
set_option maxRecDepth 20000 in
theorem pwant_any {w : World} {g c fin : Nat} {A : Option Addr} {T : List Lx.Tk} {s : Ps.PS} (h : PA w g A c T fin s) (hs : s.at_ ≤ 100000) (k : Nat) (x : Lx.Txt) :
  Calls Tryz.prog 33 #[.pointer (some ⟨g, 0, none⟩), .int .i64 (k : Int), .string ⟨x.toArray⟩] w fun e' w' => e' = .returned (.agg #[.int .i64 (((Ps.want T fin k x s).1).1 : Int), .string ⟨((Ps.want T fin k x s).1).2.1.toArray⟩, .int .i64 (((Ps.want T fin k x s).1).2.2 : Int)]) ∧ PP w g A c T fin (Ps.want T fin k x s).2 w' := by
 have E0 := (Env.start h).box 37 [.int .i64 0, .string ⟨#[]⟩, .int .i64 0] (by decide)
 have HN := Hd (pnext_any E0.pa)
 obtain ⟨t, ht⟩ : ∃ t, Ps.nx T fin s = t := ⟨_, rfl⟩
 have HW : Hid (Ps.want T fin k x s = if t.1 != k || (!x.isEmpty && t.2.1 != x) then ((0, [], 0), Ps.odd T fin s) else (t, Ps.adv s)) := Hd (by unfold Ps.want; rw [ht])
 rw [ht] at HN
 clear h
 have d1 := kd_neb t.1 k
 have d2 := str_eqb t.2.1 x
 have d3 := str_eqb x []
 go_enter Tryz.func33, Tryz.ntmps33
 go_upto_region 2 with (go_at_call 28; refine HN.out.mono ?_; rintro e w1 ⟨rfl, hb1⟩; have E1 := E0.below hb1; clear hb1)
 refine wp_env (E1.box 37 [_, _, _] (by decide)) fun w2 E2 => ?_
 clear E0 E1 HN
 obtain ⟨a, a0, a1, a2⟩ := E2.c3 0 rfl
 obtain ⟨b, b0, b1, b2⟩ := E2.c3 1 rfl
 have f1 := E2.fz 1 rfl
 have HT := Hd (ptake_any E2.pa hs)
 have HO := Hd (podd_any E2.pa)
 rw [ht] at HT
 by_cases h1 : t.1 = k
 ·have e1 : (t.1 != k) = false := by simp [h1]
  rw [e1] at d1
  have HK := Hd h1
  clear h1
  cases x with
  | nil =>
   have HE : Hid (Ps.want T fin k [] s = (t, Ps.adv s)) := Hd (by rw [HW.out, e1]; rfl)
   clear d2 d3 e1
   go_wp2_with (go_at_call 29; refine HT.out.mono ?_; rintro e w3 ⟨rfl, hp⟩; have E3 := E2.call hp; clear hp; obtain ⟨b, b0, b1, b2⟩ := E3.c3 1 rfl; have f1 := E3.fz 1 rfl)
   have E4 := E3.put3 1 rfl (.int .i64 (t.1 : Int)) (.string ⟨t.2.1.toArray⟩) (.int .i64 (t.2.2 : Int))
   refine bodyPost_ret (ret40 rfl _ _ rfl (E4.blk 1 rfl)) rfl ?_
   rw [HE.out]
   exact ⟨rfl, E4.pp⟩
  | cons x0 x1 =>
   by_cases h2 : t.2.1 = x0 :: x1
   ·have HE : Hid (Ps.want T fin k (x0 :: x1) s = (t, Ps.adv s)) := Hd (by rw [HW.out, e1, h2]; simp)
    have d2' : (t.2.1 == x0 :: x1) = true := by rw [h2]; simp
    clear d2 d3 e1 h2
    go_wp2_with (go_at_call 29; refine HT.out.mono ?_; rintro e w3 ⟨rfl, hp⟩; have E3 := E2.call hp; clear hp; obtain ⟨b, b0, b1, b2⟩ := E3.c3 1 rfl; have f1 := E3.fz 1 rfl)
    have E4 := E3.put3 1 rfl (.int .i64 (t.1 : Int)) (.string ⟨t.2.1.toArray⟩) (.int .i64 (t.2.2 : Int))
    refine bodyPost_ret (ret40 rfl _ _ rfl (E4.blk 1 rfl)) rfl ?_
    rw [HE.out]
    exact ⟨rfl, E4.pp⟩
   ·have HE : Hid (Ps.want T fin k (x0 :: x1) s = ((0, [], 0), Ps.odd T fin s)) := Hd (by rw [HW.out, e1]; simp [h2])
    have d2' : (t.2.1 == x0 :: x1) = false := by simpa using h2
    clear d2 d3 e1 h2
    go_wp2_with (go_at_call 32; refine HO.out.mono ?_; rintro e w3 ⟨rfl, hp⟩; have E3 := E2.call hp; clear hp; obtain ⟨b, b0, b1, b2⟩ := E3.c3 1 rfl; have f1 := E3.fz 1 rfl)
    have E4 := E3.put3 1 rfl (.int .i64 0) (.string ⟨#[]⟩) (.int .i64 0)
    refine bodyPost_ret (ret40 rfl _ _ rfl (E4.blk 1 rfl)) rfl ?_
    rw [HE.out]
    exact ⟨rfl, E4.pp⟩
 ·have e1 : (t.1 != k) = true := by simp [h1]
  rw [e1] at d1
  have HE : Hid (Ps.want T fin k x s = ((0, [], 0), Ps.odd T fin s)) := Hd (by rw [HW.out, e1]; rfl)
  clear d2 d3 e1 h1
  go_wp2_with (go_at_call 32; refine HO.out.mono ?_; rintro e w3 ⟨rfl, hp⟩; have E3 := E2.call hp; clear hp; obtain ⟨b, b0, b1, b2⟩ := E3.c3 1 rfl; have f1 := E3.fz 1 rfl)
  have E4 := E3.put3 1 rfl (.int .i64 0) (.string ⟨#[]⟩) (.int .i64 0)
  refine bodyPost_ret (ret40 rfl _ _ rfl (E4.blk 1 rfl)) rfl ?_
  rw [HE.out]
  exact ⟨rfl, E4.pp⟩
set_option maxRecDepth 20000 in
theorem popen_any {w : World} {g c fin : Nat} {A : Option Addr} {T : List Lx.Tk} {s : Ps.PS} (h : PA w g A c T fin s) (hs : s.at_ ≤ 100000) (hd : -100000 ≤ s.deep ∧ s.deep ≤ 100000) :
  Calls Tryz.prog 160 #[.pointer (some ⟨g, 0, none⟩)] w fun e' w' => e' = .returned (.agg #[.int .i64 ((Ps.nx T fin s).1 : Int), .string ⟨(Ps.nx T fin s).2.1.toArray⟩, .int .i64 ((Ps.nx T fin s).2.2 : Int)]) ∧ PP w g A c T fin (Ps.opn T fin s) w' := by
 obtain ⟨hd1, hd2⟩ := hd
 have E0 := (Env.start h).box 37 [.int .i64 0, .string ⟨#[]⟩, .int .i64 0] (by decide)
 have HN := Hd (pnext_any E0.pa)
 obtain ⟨t, ht⟩ : ∃ t, Ps.nx T fin s = t := ⟨_, rfl⟩
 have HW : Hid (Ps.opn T fin s = Ps.adv { (if s.deep = 100 then Ps.rf s t.2.2 125 else s) with deep := s.deep + 1 }) := Hd (by unfold Ps.opn; rw [ht])
 have HT := Hd ht
 rw [ht] at HN
 clear h ht
 rw [HT.out]
 go_enter Tryz.func160, Tryz.ntmps160
 go_upto_region 2 with (go_at_call 28; refine HN.out.mono ?_; rintro e w1 ⟨rfl, hb1⟩; have E1 := E0.below hb1; clear hb1)
 refine wp_env (E1.box 37 [_, _, _] (by decide)) fun w2 E2 => ?_
 clear E0 E1 HN
 obtain ⟨k0, k1, k2, k3⟩ := E2.pa.cells
 have hg := E2.pa.lt
 by_cases h1 : s.deep = 100
 ·have HE : Hid (Ps.opn T fin s = Ps.adv { Ps.rf s t.2.2 125 with deep := s.deep + 1 }) := Hd (by rw [HW.out, if_pos h1])
  have d1 : (s.deep == 100) = true := by simp [h1]
  have HD := Hd h1
  clear h1
  obtain ⟨a, a0, a1, a2⟩ := E2.c3 0 rfl
  go_upto_region 4 with (go_at_call 74; refine (prefuse_any E2.pa t.2.2 125).mono ?_; rintro e w3 ⟨rfl, hp⟩; have E3 := E2.call hp; clear hp)
  have e1 : (Ps.rf s t.2.2 125).deep = s.deep := rfl
  have e2 : (Ps.rf s t.2.2 125).at_ = s.at_ := rfl
  clear a a0 a1 a2 E2 HW
  generalize Ps.rf s t.2.2 125 = s3 at *
  clear k0 k1 k2 k3 hg
  obtain ⟨k0, k1, k2, k3⟩ := E3.pa.cells
  have kf := E3.pa.frz 3
  have hg := E3.pa.lt
  rw [e1] at k3
  go_upto_region 5 with fail
  refine wp_env (E3.setDeep (s.deep + 1)) fun w4 E4 => ?_
  have HK := ptake_any E4.pa (by dsimp only; omega)
  have e3 : Ps.nx T fin { s3 with deep := s.deep + 1 } = t := by rw [← HT.out]; unfold Ps.nx; dsimp only; try rw [e2]
  rw [e3] at HK
  have HKH := Hd HK
  clear k0 k1 k2 k3 kf hg E3 HK e3
  go_wp2_with (go_at_call 29; refine HKH.out.mono ?_; rintro e w5 ⟨rfl, hp⟩; have E5 := E4.call hp; clear hp; obtain ⟨b, b0, b1, b2⟩ := E5.c3 1 rfl; have f1 := E5.fz 1 rfl)
  have E6 := E5.put3 1 rfl (.int .i64 (t.1 : Int)) (.string ⟨t.2.1.toArray⟩) (.int .i64 (t.2.2 : Int))
  refine bodyPost_ret (ret40 rfl _ _ rfl (E6.blk 1 rfl)) rfl ?_
  rw [HE.out]
  exact ⟨rfl, E6.pp⟩
 ·have HE : Hid (Ps.opn T fin s = Ps.adv { s with deep := s.deep + 1 }) := Hd (by rw [HW.out, if_neg h1])
  have d1 : (s.deep == 100) = false := by simpa using h1
  clear h1 HW
  go_upto_region 4 with fail
  have E3 := E2
  have e1 : s.deep = s.deep := rfl
  have e2 : s.at_ = s.at_ := rfl
  clear E2
  clear k0 k1 k2 k3 hg
  obtain ⟨k0, k1, k2, k3⟩ := E3.pa.cells
  have kf := E3.pa.frz 3
  have hg := E3.pa.lt
  go_upto_region 5 with fail
  refine wp_env (E3.setDeep (s.deep + 1)) fun w4 E4 => ?_
  have HK := ptake_any E4.pa (by dsimp only; omega)
  have e3 : Ps.nx T fin { s with deep := s.deep + 1 } = t := by rw [← HT.out]; unfold Ps.nx; dsimp only; try rw [e2]
  rw [e3] at HK
  have HKH := Hd HK
  clear k0 k1 k2 k3 kf hg E3 HK e3
  go_wp2_with (go_at_call 29; refine HKH.out.mono ?_; rintro e w5 ⟨rfl, hp⟩; have E5 := E4.call hp; clear hp; obtain ⟨b, b0, b1, b2⟩ := E5.c3 1 rfl; have f1 := E5.fz 1 rfl)
  have E6 := E5.put3 1 rfl (.int .i64 (t.1 : Int)) (.string ⟨t.2.1.toArray⟩) (.int .i64 (t.2.2 : Int))
  refine bodyPost_ret (ret40 rfl _ _ rfl (E6.blk 1 rfl)) rfl ?_
  rw [HE.out]
  exact ⟨rfl, E6.pp⟩
set_option maxRecDepth 20000 in
theorem pclose_any {w : World} {g c fin : Nat} {A : Option Addr} {T : List Lx.Tk} {s : Ps.PS} (h : PA w g A c T fin s) (hs : s.at_ ≤ 100000) (hd : -100000 ≤ s.deep ∧ s.deep ≤ 100000) (x : Lx.Txt) :
  Calls Tryz.prog 161 #[.pointer (some ⟨g, 0, none⟩), .string ⟨x.toArray⟩] w fun e' w' => e' = .returned (.tuple #[]) ∧ PP w g A c T fin (Ps.cls_ T fin x s) w' := by
 obtain ⟨hd1, hd2⟩ := hd
 have E2 := Env.start h
 have HW : Hid (Ps.cls_ T fin x s = (Ps.want T fin 7 x { s with deep := s.deep - 1 }).2) := Hd rfl
 clear h
 obtain ⟨k0, k1, k2, k3⟩ := E2.pa.cells
 have kf := E2.pa.frz 3
 have hg := E2.pa.lt
 go_enter Tryz.func161, Tryz.ntmps161
 go_upto_region 1 with fail
 refine wp_env (E2.setDeep (s.deep - 1)) fun w4 E4 => ?_
 have HK := Hd (pwant_any E4.pa (by dsimp only; omega) 7 x)
 clear k0 k1 k2 k3 kf hg E2
 go_wp2_with (go_at_call 33; refine HK.out.mono ?_; rintro e w5 ⟨rfl, hp⟩; have E5 := E4.call hp; clear hp)
 go_end0
 exact ⟨rfl, by rw [HW.out]; exact E5.pp⟩
set_option maxRecDepth 20000 in
theorem pclosed_any {w : World} {g c fin : Nat} {A : Option Addr} {T : List Lx.Tk} {s : Ps.PS} (h : PA w g A c T fin s) (x : Lx.Txt) :
  Calls Tryz.prog 76 #[.pointer (some ⟨g, 0, none⟩), .string ⟨x.toArray⟩] w fun e' w' => e' = .returned (.bool (Ps.closed T fin x s)) ∧ Below w.heap.size w w' := by
 have HI := Hd (pis_any h x)
 obtain ⟨k0, k1, k2, k3⟩ := h.cells
 have hg := h.lt
 clear h
 cases x with
 | nil =>
  have HE : Hid (Ps.closed T fin [] s = decide (T.length ≤ s.at_)) := Hd rfl
  go_enter Tryz.func76, Tryz.ntmps76
  go_wp2
  go_quiet (fail)
  go_wp2
  go_ret
  exact ⟨ret_bool (by rw [HE.out]), below_drewN (Below.refl _ _) _⟩
 | cons x0 x1 =>
  have HE : Hid (Ps.closed T fin (x0 :: x1) s = Ps.is_ T fin s (x0 :: x1)) := Hd rfl
  go_enter Tryz.func76, Tryz.ntmps76
  go_wp2_with (go_at_call 75; refine HI.out.mono ?_; rintro e w5 ⟨rfl, hb⟩)
  go_ret
  exact ⟨ret_bool (by rw [HE.out]), hb⟩
end Go.Proofs.YtjhonaglmgmpiaaGreatDoor
