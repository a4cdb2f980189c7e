/-
  The walk of the lexer's symbol.
-/
import Derived.Test.YtaigfelpecdajaaLexE
import Derived.StillTailTactics
namespace Go.Proofs.Ytaigfelpecdajaa
open Go.RowKit

section
variable {l : List UInt8} {i : Nat} {b : UInt8}
theorem symF_none (h : l[i + 1]? = none) : Lx.symF l i = Lx.bad i 120 := by unfold Lx.symF; rw [h]
theorem symF_let (h : l[i + 1]? = some b) (hc : Lx.cls b = 2) : Lx.symF l i = Lx.tok 6 (Lx.cut l (i + 1) (Lx.runF Lx.symB l (i + 1))) (Lx.runF Lx.symB l (i + 1)) := by
  unfold Lx.symF; rw [h]; simp only [if_pos hc]
theorem symF_bin (h : l[i + 1]? = some b) (h4 : Lx.cls b = 4) : Lx.symF l i = Lx.tok 6 (Lx.cut l (i + 1) (Lx.binF l (i + 2))) (Lx.binF l (i + 2)) := by
  unfold Lx.symF; rw [h]; simp only [if_neg (show ¬ Lx.cls b = 2 by omega), if_pos h4]
theorem symF_bar (h : l[i + 1]? = some 124) : Lx.symF l i = Lx.tok 6 [124] (i + 2) := by
  unfold Lx.symF; rw [h]; rfl
theorem symF_quo0 (h : l[i + 1]? = some 39) (hq : Lx.qF l (i + 1) = none) : Lx.symF l i = Lx.bad (i + 1) 121 := by
  unfold Lx.symF; rw [h, hq]; rfl
theorem symF_quo1 (h : l[i + 1]? = some 39) {r : List UInt8 × Nat} (hq : Lx.qF l (i + 1) = some r) : Lx.symF l i = Lx.tok 6 r.1 r.2 := by
  unfold Lx.symF; rw [h, hq]; rfl
theorem symF_open (h : l[i + 1]? = some b) (hb : b = 40 ∨ b = 91) : Lx.symF l i = Lx.tok 7 (Lx.cut l i (i + 2)) (i + 2) := by
  unfold Lx.symF; rw [h]
  rcases hb with rfl | rfl <;> rfl
theorem symF_else (h : l[i + 1]? = some b) (h2 : ¬ Lx.cls b = 2) (h4 : ¬ Lx.cls b = 4) (h124 : ¬ b = 124) (h39 : ¬ b = 39) (ho : ¬ (b = 40 ∨ b = 91)) : Lx.symF l i = Lx.bad i 120 := by
  unfold Lx.symF; rw [h]; simp only [if_neg h2, if_neg h4, if_neg h124, if_neg h39, if_neg ho]
end
theorem eqb_no {x b : UInt8} {c : Int} (hc : c = (b.toNat : Int)) (h : ¬ x = b) : ((x.toNat : Int) == c) = false := by rw [hc, u8_eq_int]; simpa using h
theorem eqb_yes {x b : UInt8} {c : Int} (hc : c = (b.toNat : Int)) (h : x = b) : ((x.toNat : Int) == c) = true := by rw [hc, u8_eq_int]; simpa using h
theorem quoVn : quoV none = .tuple #[.string ⟨#[]⟩, .int .i64 0, .bool false] := rfl
theorem quoVs (t : List UInt8) (n : Nat) : quoV (some (t, n)) = .tuple #[.string ⟨t.toArray⟩, .int .i64 (n : Int), .bool true] := rfl
theorem str_cut (s : ByteArray) (a b : Nat) : s.extract a b = ⟨(Lx.cut s.data.toList a b).toArray⟩ := by
  rw [← extract_cut]
theorem natInt {a : Nat} {c : Int} (h : ¬ (a : Int) = c) : ((a : Int) == c) = false := by simpa using h
set_option maxRecDepth 20000 in
set_option maxHeartbeats 4000000 in
theorem lsym_none (base g : Nat) (s : ByteArray) (i : Nat) (v : Value) (l : List Lx.Tk) (w : World) (h : LxS w base g s (i : Int) v l) (hs : s.size ≤ 65536) (hi : i < s.size) (h1 : ¬ i + 1 < s.size) :
    Calls Try.prog 53 #[.pointer (some ⟨g, 0, none⟩)] w (TokP base g s l i (Lx.symF s.data.toList i) w) := by
  have HS := Lib.hid h
  have hcell0 : w.cell? ⟨g, 0, none⟩ = some (.string s) := h.1.cell 0
  have hcell1 : w.cell? ⟨g, 1, none⟩ = some (.int .i64 (i : Int)) := h.1.cell 1
  clear h
  have HE := Lib.hid (symF_none (l := s.data.toList) (i := i) (get_out h1))
  have d0 : ((i : Int) + 1 == (s.size : Int)) = true := by rw [beq_iff_eq]; omega
  go_enter Try.func53, Try.ntmps53
  go_wp2
  go_ret2
  exact TokP.bad_ (p := i) (er := 120) HE.out (by decide) (Below.refl _ _)
set_option maxRecDepth 20000 in
set_option maxHeartbeats 4000000 in
theorem lsym_let (base g : Nat) (s : ByteArray) (i : Nat) (v : Value) (l : List Lx.Tk) (w : World) (h : LxS w base g s (i : Int) v l) (hb0 : base ≤ w.heap.size) (hl : l.length ≤ 65536) (hs : s.size ≤ 65536) (h1 : i + 1 < s.size) (hc2 : Lx.cls (s[i + 1]'h1) = 2) :
    Calls Try.prog 53 #[.pointer (some ⟨g, 0, none⟩)] w (TokP base g s l i (Lx.symF s.data.toList i) w) := by
  have HS := Lib.hid h
  have hcell0 : w.cell? ⟨g, 0, none⟩ = some (.string s) := h.1.cell 0
  have hcell1 : w.cell? ⟨g, 1, none⟩ = some (.int .i64 (i : Int)) := h.1.cell 1
  clear h
  have d0 : ((i : Int) + 1 == (s.size : Int)) = false := by rw [beq_eq_false_iff_ne]; omega
  have HE := Lib.hid (symF_let (get_in h1) hc2)
  have dA : ((clsAt s.data.toList (i + 1) : Int) == 2) = true := by rw [clsAt_in h1, hc2]; rfl
  clear hc2
  go_enter Try.func53, Try.ntmps53
  go_wp2_with fail
  refine (lclass_any g s _ (i + 1) _ HS.out.lxr (by go_num)).mono ?_
  rintro e w1 ⟨rfl, hb1, hc1⟩
  have HS1 := Lib.hid (HS.out.below hb1)
  have HB1 := Lib.hid (hb1.mono hb0)
  clear hb1
  go_upto_block 1 with fail
  go_cut [6] (fun s6 wx => s6 = .int .i64 (Lx.runF Lx.symB s.data.toList (i + 1) : Nat) ∧ LxS wx base g s (i : Int) v l ∧ Below base w wx)
  case first =>
    go_wp2
    go_loopw [6] (fun e wx => ∃ k : Nat, k ≤ s.size ∧ e = .int .i64 k ∧ Lx.runF Lx.symB s.data.toList k = Lx.runF Lx.symB s.data.toList (i + 1) ∧ LxS wx base g s (i : Int) v l ∧ Below base w wx) (fun e _ => s.size - (intOf e).toNat)
    case atStart => exact ⟨i + 1, by omega, by go_num, rfl, HS1.out, HB1.out⟩
    case round =>
      obtain ⟨k, hk, rfl, hrun, hS, hB⟩ := hrel
      have HRUN := Lib.hid hrun
      have HS4 := Lib.hid hS
      have HB4 := Lib.hid hB
      clear hrun hS hB
      by_cases hkl : k < s.size
      · have HC := Lib.hid (clsAt_in hkl)
        have HX := Lib.hid (get_in hkl)
        by_cases hf : Lx.symB (s[k]'hkl) = true
        · have HST := Lib.hid ((Lx.runF_step HX.out hf).trans HRUN.out)
          by_cases h2 : Lx.cls (s[k]'hkl) = 2
          · have d2 : ((clsAt s.data.toList k : Int) == 2) = true := by rw [HC.out, h2]; rfl
            clear h2 hf
            go_wp2_with (first | (go_at_call 46; refine (lclass_any g s _ k _ (by first | exact HS4.out.lxr | exact (HS4.out.below (by assumption)).lxr) rfl).mono ?_; rintro e w' ⟨rfl, hb, hc⟩))
            go_roundw
            case rel => exact ⟨k + 1, hkl, by go_num, HST.out, HS4.out.below hb, bnextB HB4.out hb hb0⟩
            case measure => simp [intOf]; omega
          · have d2 : ((clsAt s.data.toList k : Int) == 2) = false := natInt (by rw [HC.out]; omega)
            by_cases h3 : Lx.cls (s[k]'hkl) = 3
            · have d3 : ((clsAt s.data.toList k : Int) == 3) = true := by rw [HC.out, h3]; rfl
              clear h2 h3 hf
              go_wp2_with (first | (go_at_call 46; refine (lclass_any g s _ k _ (by first | exact HS4.out.lxr | exact (HS4.out.below (by assumption)).lxr) rfl).mono ?_; rintro e w' ⟨rfl, hb, hc⟩))
              go_roundw
              case rel => exact ⟨k + 1, hkl, by go_num, HST.out, HS4.out.below (bnext (by assumption) hb), bnextB HB4.out (bnext (by assumption) hb) hb0⟩
              case measure => simp [intOf]; omega
            · have d3 : ((clsAt s.data.toList k : Int) == 3) = false := natInt (by rw [HC.out]; omega)
              have dI : Lx.isAt s.data.toList k 58 = true := by
                rw [isAt_in hkl]
                unfold Lx.symB Lx.letB Lx.digB at hf
                simpa [h2, h3] using hf
              clear h2 h3 hf
              go_wp2_with (first | (go_at_call 46; refine (lclass_any g s _ k _ (by first | exact HS4.out.lxr | exact (HS4.out.below (by assumption)).lxr) rfl).mono ?_; rintro e w' ⟨rfl, hb, hc⟩) | (go_at_call 48; refine (lis_any g s _ k 58 _ _ (by first | exact (HS4.out.below (by assumption)).lxr | exact (HS4.out.below (bnext (by assumption) (by assumption))).lxr) rfl rfl).mono ?_; rintro e w'' ⟨rfl, rfl⟩; rw [dI]))
              go_roundw
              case rel => exact ⟨k + 1, hkl, by go_num, HST.out, HS4.out.below (bnext (by assumption) hb), bnextB HB4.out (bnext (by assumption) hb) hb0⟩
              case measure => simp [intOf]; omega
        · have hf' : Lx.symB (s[k]'hkl) = false := by simpa using hf
          have HST := Lib.hid ((Lx.runF_stop HX.out hf').symm.trans HRUN.out)
          unfold Lx.symB Lx.letB Lx.digB at hf'
          simp only [Bool.or_eq_false_iff, beq_eq_false_iff_ne] at hf'
          have d2 : ((clsAt s.data.toList k : Int) == 2) = false := natInt (by rw [HC.out]; omega)
          have d3 : ((clsAt s.data.toList k : Int) == 3) = false := natInt (by rw [HC.out]; omega)
          have dI : Lx.isAt s.data.toList k 58 = false := by
            rw [isAt_in hkl]
            simpa using hf'.2
          clear hf hf'
          go_wp2_with (first | (go_at_call 46; refine (lclass_any g s _ k _ (by first | exact HS4.out.lxr | exact (HS4.out.below (by assumption)).lxr) rfl).mono ?_; rintro e w' ⟨rfl, hb, hc⟩) | (go_at_call 48; refine (lis_any g s _ k 58 _ _ (by first | exact (HS4.out.below (by assumption)).lxr | exact (HS4.out.below (bnext (by assumption) (by assumption))).lxr) rfl rfl).mono ?_; rintro e w'' ⟨rfl, rfl⟩; rw [dI]))
          go_meet
          exact ⟨by rw [HST.out], HS4.out.below (bnext (by assumption) hb), bnextB HB4.out (bnext (by assumption) hb) hb0⟩
      · have HST := Lib.hid ((Lx.runF_end (p := Lx.symB) (l := s.data.toList) (i := k) (by simp; omega)).symm.trans HRUN.out)
        have HC := Lib.hid (clsAt_out hkl)
        have d2 : ((clsAt s.data.toList k : Int) == 2) = false := natInt (by rw [HC.out]; omega)
        have d3 : ((clsAt s.data.toList k : Int) == 3) = false := natInt (by rw [HC.out]; omega)
        have dI : Lx.isAt s.data.toList k 58 = false := isAt_out hkl 58
        go_wp2_with (first | (go_at_call 46; refine (lclass_any g s _ k _ (by first | exact HS4.out.lxr | exact (HS4.out.below (by assumption)).lxr) rfl).mono ?_; rintro e w' ⟨rfl, hb, hc⟩) | (go_at_call 48; refine (lis_any g s _ k 58 _ _ (by first | exact (HS4.out.below (by assumption)).lxr | exact (HS4.out.below (bnext (by assumption) (by assumption))).lxr) rfl rfl).mono ?_; rintro e w'' ⟨rfl, rfl⟩; rw [dI]))
        go_meet
        exact ⟨by rw [HST.out], HS4.out.below (bnext (by assumption) hb), bnextB HB4.out (bnext (by assumption) hb) hb0⟩
  case rest =>
  obtain ⟨rfl, hS, hB⟩ := hcut
  have HK1 := Lx.runF_ge Lx.symB s.data.toList (i + 1)
  have HK2 : Lx.runF Lx.symB s.data.toList (i + 1) ≤ s.size := by have := Lx.runF_le Lx.symB s.data.toList (i + 1) (by simp; omega); simpa using this
  generalize Lx.runF Lx.symB s.data.toList (i + 1) = k at *
  have HS4 := Lib.hid hS
  have HB4 := Lib.hid hB
  have hx0 : wc.cell? ⟨g, 0, none⟩ = some (.string s) := hS.1.cell 0
  have k3 : (i : Int) + 1 ≤ (k : Int) := by omega
  have k4 : (k : Int) ≤ (s.size : Int) := by omega
  clear hS hB
  go_wp2_with fail
  rw [str_cut s (i + 1) k]
  refine (lput_any base g s i v l 6 (Lx.cut s.data.toList (i + 1) k) _ _ HS4.out (Nat.le_trans hb0 HB4.out.size) hl).mono ?_
  rintro e w7 ⟨rfl, hb7, hs7⟩
  have HB7 := Lib.hid hb7
  have HS7 := Lib.hid hs7
  clear hb7 hs7
  go_wp2
  go_ret2
  exact TokP.tok_ HE.out (by decide) (HB4.out.trans HB7.out) HS7.out

set_option maxRecDepth 20000 in
set_option maxHeartbeats 4000000 in
theorem lsym_bin (base g : Nat) (s : ByteArray) (i : Nat) (v : Value) (l : List Lx.Tk) (w : World) (h : LxS w base g s (i : Int) v l) (hb0 : base ≤ w.heap.size) (hl : l.length ≤ 65536) (hs : s.size ≤ 65536) (h1 : i + 1 < s.size) (hc4 : Lx.cls (s[i + 1]'h1) = 4) :
    Calls Try.prog 53 #[.pointer (some ⟨g, 0, none⟩)] w (TokP base g s l i (Lx.symF s.data.toList i) w) := by
  have HS := Lib.hid h
  have hcell0 : w.cell? ⟨g, 0, none⟩ = some (.string s) := h.1.cell 0
  have hcell1 : w.cell? ⟨g, 1, none⟩ = some (.int .i64 (i : Int)) := h.1.cell 1
  clear h
  have d0 : ((i : Int) + 1 == (s.size : Int)) = false := by rw [beq_eq_false_iff_ne]; omega
  have HE := Lib.hid (symF_bin (get_in h1) hc4)
  have dA : ((clsAt s.data.toList (i + 1) : Int) == 2) = false := natInt (by rw [clsAt_in h1]; omega)
  have dB : ((clsAt s.data.toList (i + 1) : Int) == 4) = true := by rw [clsAt_in h1, hc4]; rfl
  clear hc4
  go_enter Try.func53, Try.ntmps53
  go_wp2_with fail
  refine (lclass_any g s _ (i + 1) _ HS.out.lxr (by go_num)).mono ?_
  rintro e w1 ⟨rfl, hb1, hc1⟩
  have HS1 := Lib.hid (HS.out.below hb1)
  have HB1 := Lib.hid (hb1.mono hb0)
  clear hb1
  go_wp2_with fail
  refine (lclass_any g s _ (i + 1) _ HS1.out.lxr (by go_num)).mono ?_
  rintro e w2 ⟨rfl, hb2, hc2⟩
  have HS2 := Lib.hid (HS1.out.below hb2)
  have HB2 := Lib.hid (bnextB HB1.out hb2 hb0)
  have hcat2 : w2.cell? ⟨g, 1, none⟩ = some (.int .i64 (i : Int)) := HS2.out.1.cell 1
  clear hb2
  go_wp2_with fail
  refine (lbinary_any g s _ (i + 1) _ HS2.out.lxr hs (by go_num) h1).mono ?_
  rintro e w3 ⟨rfl, hb3⟩
  have HS3 := Lib.hid (HS2.out.below hb3)
  have HB3 := Lib.hid (bnextB HB2.out hb3 hb0)
  have HK1 := Lx.binF_ge s.data.toList (i + 2)
  have HK2 : Lx.binF s.data.toList (i + 2) ≤ s.size := by have := Lx.binF_le s.data.toList (i + 2) (by simp; omega); simpa using this
  rw [show i + 1 + 1 = i + 2 from rfl]
  generalize Lx.binF s.data.toList (i + 2) = k at *
  have hx0 : w3.cell? ⟨g, 0, none⟩ = some (.string s) := HS3.out.1.cell 0
  have k3 : (i : Int) + 1 ≤ (k : Int) := by omega
  have k4 : (k : Int) ≤ (s.size : Int) := by omega
  clear hb3
  go_wp2_with fail
  rw [str_cut s (i + 1) k]
  refine (lput_any base g s i v l 6 (Lx.cut s.data.toList (i + 1) k) _ _ HS3.out (Nat.le_trans hb0 HB3.out.size) hl).mono ?_
  rintro e w7 ⟨rfl, hb7, hs7⟩
  have HB7 := Lib.hid hb7
  have HS7 := Lib.hid hs7
  clear hb7 hs7
  go_wp2
  go_ret2
  exact TokP.tok_ HE.out (by decide) (HB3.out.trans HB7.out) HS7.out
set_option maxRecDepth 20000 in
set_option maxHeartbeats 4000000 in
theorem lsym_bar (base g : Nat) (s : ByteArray) (i : Nat) (v : Value) (l : List Lx.Tk) (w : World) (h : LxS w base g s (i : Int) v l) (hb0 : base ≤ w.heap.size) (hl : l.length ≤ 65536) (hs : s.size ≤ 65536) (h1 : i + 1 < s.size) (hb : s[i + 1]'h1 = 124) :
    Calls Try.prog 53 #[.pointer (some ⟨g, 0, none⟩)] w (TokP base g s l i (Lx.symF s.data.toList i) w) := by
  have HS := Lib.hid h
  have hcell0 : w.cell? ⟨g, 0, none⟩ = some (.string s) := h.1.cell 0
  have hcell1 : w.cell? ⟨g, 1, none⟩ = some (.int .i64 (i : Int)) := h.1.cell 1
  clear h
  have d0 : ((i : Int) + 1 == (s.size : Int)) = false := by rw [beq_eq_false_iff_ne]; omega
  have HE := Lib.hid (symF_bar (l := s.data.toList) (i := i) (by rw [get_in h1, hb]))
  have hcb : Lx.cls (s[i + 1]'h1) = 5 := by rw [hb]; decide
  have dA : ((clsAt s.data.toList (i + 1) : Int) == 2) = false := natInt (by rw [clsAt_in h1]; omega)
  have dB : ((clsAt s.data.toList (i + 1) : Int) == 4) = false := natInt (by rw [clsAt_in h1]; omega)
  have e124 : (((s[i + 1]'h1).toNat : Int) == 124) = true := eqb_yes (b := 124) rfl hb
  clear hb hcb
  go_enter Try.func53, Try.ntmps53
  go_wp2_with fail
  refine (lclass_any g s _ (i + 1) _ HS.out.lxr (by go_num)).mono ?_
  rintro e w1 ⟨rfl, hb1, hc1⟩
  have HS1 := Lib.hid (HS.out.below hb1)
  have HB1 := Lib.hid (hb1.mono hb0)
  clear hb1
  go_wp2_with fail
  refine (lclass_any g s _ (i + 1) _ HS1.out.lxr (by go_num)).mono ?_
  rintro e w2 ⟨rfl, hb2, hc2⟩
  have HS2 := Lib.hid (HS1.out.below hb2)
  have HB2 := Lib.hid (bnextB HB1.out hb2 hb0)
  have hcat2 : w2.cell? ⟨g, 1, none⟩ = some (.int .i64 (i : Int)) := HS2.out.1.cell 1
  clear hb2
  go_wp2_with fail
  rw [show ((i : Int) + 1 + 1) = ((i + 2 : Nat) : Int) from by omega]
  refine (lput_any base g s i v l 6 [124] _ _ HS2.out (Nat.le_trans hb0 HB2.out.size) hl).mono ?_
  rintro e w7 ⟨rfl, hb7, hs7⟩
  have HB7 := Lib.hid hb7
  have HS7 := Lib.hid hs7
  clear hb7 hs7
  go_wp2
  go_ret2
  exact TokP.tok_ HE.out (by decide) (HB2.out.trans HB7.out) HS7.out
set_option maxRecDepth 20000 in
set_option maxHeartbeats 4000000 in
theorem lsym_quo (base g : Nat) (s : ByteArray) (i : Nat) (v : Value) (l : List Lx.Tk) (w : World) (h : LxS w base g s (i : Int) v l) (hb0 : base ≤ w.heap.size) (hl : l.length ≤ 65536) (hs : s.size ≤ 65536) (h1 : i + 1 < s.size) (hb : s[i + 1]'h1 = 39) :
    Calls Try.prog 53 #[.pointer (some ⟨g, 0, none⟩)] w (TokP base g s l i (Lx.symF s.data.toList i) w) := by
  have HS := Lib.hid h
  have hcell0 : w.cell? ⟨g, 0, none⟩ = some (.string s) := h.1.cell 0
  have hcell1 : w.cell? ⟨g, 1, none⟩ = some (.int .i64 (i : Int)) := h.1.cell 1
  clear h
  have d0 : ((i : Int) + 1 == (s.size : Int)) = false := by rw [beq_eq_false_iff_ne]; omega
  have hcb : Lx.cls (s[i + 1]'h1) = 0 := by rw [hb]; decide
  have HX : Hid (s.data.toList[i + 1]? = some 39) := Lib.hid (by rw [get_in h1, hb])
  have dA : ((clsAt s.data.toList (i + 1) : Int) == 2) = false := natInt (by rw [clsAt_in h1]; omega)
  have dB : ((clsAt s.data.toList (i + 1) : Int) == 4) = false := natInt (by rw [clsAt_in h1]; omega)
  have e124 : (((s[i + 1]'h1).toNat : Int) == 124) = false := eqb_no (b := 124) rfl (by rw [hb]; decide)
  have e39 : (((s[i + 1]'h1).toNat : Int) == 39) = true := eqb_yes (b := 39) rfl hb
  clear hb hcb
  cases hq : Lx.qF s.data.toList (i + 1) with
  | none =>
    have HE := Lib.hid (symF_quo0 HX.out hq)
    have HQ := Lib.hid hq
    clear hq
    go_enter Try.func53, Try.ntmps53
    go_wp2_with fail
    refine (lclass_any g s _ (i + 1) _ HS.out.lxr (by go_num)).mono ?_
    rintro e w1 ⟨rfl, hb1, hc1⟩
    have HS1 := Lib.hid (HS.out.below hb1)
    have HB1 := Lib.hid (hb1.mono hb0)
    clear hb1
    go_wp2_with fail
    refine (lclass_any g s _ (i + 1) _ HS1.out.lxr (by go_num)).mono ?_
    rintro e w2 ⟨rfl, hb2, hc2⟩
    have HS2 := Lib.hid (HS1.out.below hb2)
    have HB2 := Lib.hid (bnextB HB1.out hb2 hb0)
    have hcat2 : w2.cell? ⟨g, 1, none⟩ = some (.int .i64 (i : Int)) := HS2.out.1.cell 1
    clear hb2
    go_wp2_with fail
    refine (lquoted_any g s _ (i + 1) _ HS2.out.lxr hs (by go_num) h1).mono ?_
    rintro e w3 ⟨rfl, hb3⟩
    rw [HQ.out, quoVn]
    have HB3 := Lib.hid (bnextB HB2.out hb3 hb0)
    clear hb3
    go_wp2
    go_ret2
    exact TokP.bad_ (p := i + 1) (er := 121) HE.out (by decide) HB3.out
  | some r =>
    obtain ⟨t, n⟩ := r
    have HE := Lib.hid (symF_quo1 HX.out hq)
    have HQ := Lib.hid hq
    clear hq
    go_enter Try.func53, Try.ntmps53
    go_wp2_with fail
    refine (lclass_any g s _ (i + 1) _ HS.out.lxr (by go_num)).mono ?_
    rintro e w1 ⟨rfl, hb1, hc1⟩
    have HS1 := Lib.hid (HS.out.below hb1)
    have HB1 := Lib.hid (hb1.mono hb0)
    clear hb1
    go_wp2_with fail
    refine (lclass_any g s _ (i + 1) _ HS1.out.lxr (by go_num)).mono ?_
    rintro e w2 ⟨rfl, hb2, hc2⟩
    have HS2 := Lib.hid (HS1.out.below hb2)
    have HB2 := Lib.hid (bnextB HB1.out hb2 hb0)
    have hcat2 : w2.cell? ⟨g, 1, none⟩ = some (.int .i64 (i : Int)) := HS2.out.1.cell 1
    clear hb2
    go_wp2_with fail
    refine (lquoted_any g s _ (i + 1) _ HS2.out.lxr hs (by go_num) h1).mono ?_
    rintro e w3 ⟨rfl, hb3⟩
    rw [HQ.out, quoVs]
    have HS3 := Lib.hid (HS2.out.below hb3)
    have HB3 := Lib.hid (bnextB HB2.out hb3 hb0)
    clear hb3
    go_wp2_with fail
    refine (lput_any base g s i v l 6 t _ _ HS3.out (Nat.le_trans hb0 HB3.out.size) hl).mono ?_
    rintro e w7 ⟨rfl, hb7, hs7⟩
    have HB7 := Lib.hid hb7
    have HS7 := Lib.hid hs7
    clear hb7 hs7
    go_wp2
    go_ret2
    exact TokP.tok_ HE.out (by decide) (HB3.out.trans HB7.out) HS7.out
set_option maxRecDepth 20000 in
set_option maxHeartbeats 4000000 in
theorem lsym_open (base g : Nat) (s : ByteArray) (i : Nat) (v : Value) (l : List Lx.Tk) (w : World) (h : LxS w base g s (i : Int) v l) (hb0 : base ≤ w.heap.size) (hl : l.length ≤ 65536) (hs : s.size ≤ 65536) (h1 : i + 1 < s.size) (hb : s[i + 1]'h1 = 40 ∨ s[i + 1]'h1 = 91) :
    Calls Try.prog 53 #[.pointer (some ⟨g, 0, none⟩)] w (TokP base g s l i (Lx.symF s.data.toList i) w) := by
  have HS := Lib.hid h
  have hcell0 : w.cell? ⟨g, 0, none⟩ = some (.string s) := h.1.cell 0
  have hcell1 : w.cell? ⟨g, 1, none⟩ = some (.int .i64 (i : Int)) := h.1.cell 1
  clear h
  have d0 : ((i : Int) + 1 == (s.size : Int)) = false := by rw [beq_eq_false_iff_ne]; omega
  have HE := Lib.hid (symF_open (get_in h1) hb)
  have hcb : Lx.cls (s[i + 1]'h1) = 5 := by rcases hb with hb | hb <;> (rw [hb]; decide)
  have dA : ((clsAt s.data.toList (i + 1) : Int) == 2) = false := natInt (by rw [clsAt_in h1]; omega)
  have dB : ((clsAt s.data.toList (i + 1) : Int) == 4) = false := natInt (by rw [clsAt_in h1]; omega)
  have e124 : (((s[i + 1]'h1).toNat : Int) == 124) = false := eqb_no (b := 124) rfl (by rcases hb with hb | hb <;> (rw [hb]; decide))
  have e39 : (((s[i + 1]'h1).toNat : Int) == 39) = false := eqb_no (b := 39) rfl (by rcases hb with hb | hb <;> (rw [hb]; decide))
  have w2i : IntKind.i64.wrap ((i : Int) + 1 + 1) = (i : Int) + 1 + 1 := IntWalk.i64_in _ (by omega)
  have k2 : (i : Int) ≤ (i : Int) + 1 + 1 := by omega
  have k3 : (i : Int) + 1 + 1 ≤ (s.size : Int) := by omega
  rcases hb with hb | hb
  · have e40 : (((s[i + 1]'h1).toNat : Int) == 40) = true := eqb_yes (b := 40) rfl hb
    clear hb hcb
    go_enter Try.func53, Try.ntmps53
    go_wp2_with fail
    refine (lclass_any g s _ (i + 1) _ HS.out.lxr (by go_num)).mono ?_
    rintro e w1 ⟨rfl, hb1, hc1⟩
    have HS1 := Lib.hid (HS.out.below hb1)
    have HB1 := Lib.hid (hb1.mono hb0)
    clear hb1
    go_wp2_with fail
    refine (lclass_any g s _ (i + 1) _ HS1.out.lxr (by go_num)).mono ?_
    rintro e w2 ⟨rfl, hb2, hc2⟩
    have HS2 := Lib.hid (HS1.out.below hb2)
    have HB2 := Lib.hid (bnextB HB1.out hb2 hb0)
    have hcat2 : w2.cell? ⟨g, 1, none⟩ = some (.int .i64 (i : Int)) := HS2.out.1.cell 1
    clear hb2
    have hx0 : w2.cell? ⟨g, 0, none⟩ = some (.string s) := HS2.out.1.cell 0
    have HS2d := Lib.hid HS2.out.drew
    have HB2d := Lib.hid HB2.out.drew
    go_upto_region 22 with fail
    go_still_tail 14, (by kernel_rfl)
    change wpList _ _ _ _ _ w2.drew
    go_wp2_with fail
    rw [str_cut s i (i + 1 + 1), show ((i : Int) + 1 + 1) = ((i + 2 : Nat) : Int) from by omega]
    refine (lput_any base g s i v l 7 (Lx.cut s.data.toList i (i + 1 + 1)) _ _ HS2d.out (Nat.le_trans hb0 HB2d.out.size) hl).mono ?_
    rintro e w7 ⟨rfl, hb7, hs7⟩
    have HB7 := Lib.hid hb7
    have HS7 := Lib.hid hs7
    clear hb7 hs7
    go_wp2
    go_ret2
    exact TokP.tok_ HE.out (by decide) (HB2d.out.trans HB7.out) HS7.out
  · have e40 : (((s[i + 1]'h1).toNat : Int) == 40) = false := eqb_no (b := 40) rfl (by rw [hb]; decide)
    have e91 : (((s[i + 1]'h1).toNat : Int) == 91) = true := eqb_yes (b := 91) rfl hb
    clear hb hcb
    go_enter Try.func53, Try.ntmps53
    go_wp2_with fail
    refine (lclass_any g s _ (i + 1) _ HS.out.lxr (by go_num)).mono ?_
    rintro e w1 ⟨rfl, hb1, hc1⟩
    have HS1 := Lib.hid (HS.out.below hb1)
    have HB1 := Lib.hid (hb1.mono hb0)
    clear hb1
    go_wp2_with fail
    refine (lclass_any g s _ (i + 1) _ HS1.out.lxr (by go_num)).mono ?_
    rintro e w2 ⟨rfl, hb2, hc2⟩
    have HS2 := Lib.hid (HS1.out.below hb2)
    have HB2 := Lib.hid (bnextB HB1.out hb2 hb0)
    have hcat2 : w2.cell? ⟨g, 1, none⟩ = some (.int .i64 (i : Int)) := HS2.out.1.cell 1
    clear hb2
    have hx0 : w2.cell? ⟨g, 0, none⟩ = some (.string s) := HS2.out.1.cell 0
    have HS2d := Lib.hid HS2.out.drew
    have HB2d := Lib.hid HB2.out.drew
    go_upto_region 22 with fail
    go_still_tail 14, (by kernel_rfl)
    change wpList _ _ _ _ _ w2.drew
    go_wp2_with fail
    rw [str_cut s i (i + 1 + 1), show ((i : Int) + 1 + 1) = ((i + 2 : Nat) : Int) from by omega]
    refine (lput_any base g s i v l 7 (Lx.cut s.data.toList i (i + 1 + 1)) _ _ HS2d.out (Nat.le_trans hb0 HB2d.out.size) hl).mono ?_
    rintro e w7 ⟨rfl, hb7, hs7⟩
    have HB7 := Lib.hid hb7
    have HS7 := Lib.hid hs7
    clear hb7 hs7
    go_wp2
    go_ret2
    exact TokP.tok_ HE.out (by decide) (HB2d.out.trans HB7.out) HS7.out

set_option maxRecDepth 20000 in
set_option maxHeartbeats 4000000 in
theorem lsym_else (base g : Nat) (s : ByteArray) (i : Nat) (v : Value) (l : List Lx.Tk) (w : World) (h : LxS w base g s (i : Int) v l) (hb0 : base ≤ w.heap.size) (hs : s.size ≤ 65536) (h1 : i + 1 < s.size) (hc2 : ¬ Lx.cls (s[i + 1]'h1) = 2) (hc4 : ¬ Lx.cls (s[i + 1]'h1) = 4) (h124 : ¬ s[i + 1]'h1 = 124) (h39 : ¬ s[i + 1]'h1 = 39) (ho : ¬ (s[i + 1]'h1 = 40 ∨ s[i + 1]'h1 = 91)) :
    Calls Try.prog 53 #[.pointer (some ⟨g, 0, none⟩)] w (TokP base g s l i (Lx.symF s.data.toList i) w) := by
  have HS := Lib.hid h
  have hcell0 : w.cell? ⟨g, 0, none⟩ = some (.string s) := h.1.cell 0
  have hcell1 : w.cell? ⟨g, 1, none⟩ = some (.int .i64 (i : Int)) := h.1.cell 1
  clear h
  have d0 : ((i : Int) + 1 == (s.size : Int)) = false := by rw [beq_eq_false_iff_ne]; omega
  have HE := Lib.hid (symF_else (get_in h1) hc2 hc4 h124 h39 ho)
  have dA : ((clsAt s.data.toList (i + 1) : Int) == 2) = false := natInt (by rw [clsAt_in h1]; omega)
  have dB : ((clsAt s.data.toList (i + 1) : Int) == 4) = false := natInt (by rw [clsAt_in h1]; omega)
  have e124 : (((s[i + 1]'h1).toNat : Int) == 124) = false := eqb_no (b := 124) rfl h124
  have e39 : (((s[i + 1]'h1).toNat : Int) == 39) = false := eqb_no (b := 39) rfl h39
  have e40 : (((s[i + 1]'h1).toNat : Int) == 40) = false := eqb_no (b := 40) rfl (fun h => ho (.inl h))
  have e91 : (((s[i + 1]'h1).toNat : Int) == 91) = false := eqb_no (b := 91) rfl (fun h => ho (.inr h))
  clear hc2 hc4 h124 h39 ho
  go_enter Try.func53, Try.ntmps53
  go_wp2_with fail
  refine (lclass_any g s _ (i + 1) _ HS.out.lxr (by go_num)).mono ?_
  rintro e w1 ⟨rfl, hb1, hc1⟩
  have HS1 := Lib.hid (HS.out.below hb1)
  have HB1 := Lib.hid (hb1.mono hb0)
  clear hb1
  go_wp2_with fail
  refine (lclass_any g s _ (i + 1) _ HS1.out.lxr (by go_num)).mono ?_
  rintro e w2 ⟨rfl, hb2, hc2⟩
  have HS2 := Lib.hid (HS1.out.below hb2)
  have HB2 := Lib.hid (bnextB HB1.out hb2 hb0)
  have hcat2 : w2.cell? ⟨g, 1, none⟩ = some (.int .i64 (i : Int)) := HS2.out.1.cell 1
  clear hb2
  go_wp2
  go_ret2
  exact TokP.bad_ (p := i) (er := 120) HE.out (by decide) HB2.out
theorem lsymbol_any (base g : Nat) (s : ByteArray) (i : Nat) (v : Value) (l : List Lx.Tk) (w : World) (h : LxS w base g s (i : Int) v l) (hb0 : base ≤ w.heap.size) (hl : l.length ≤ 65536) (hs : s.size ≤ 65536) (hI : i < s.size) :
    Calls Try.prog 53 #[.pointer (some ⟨g, 0, none⟩)] w (TokP base g s l i (Lx.symF s.data.toList i) w) := by
  by_cases h1 : i + 1 < s.size
  · by_cases hc2 : Lx.cls (s[i + 1]'h1) = 2
    · exact lsym_let base g s i v l w h hb0 hl hs h1 hc2
    · by_cases hc4 : Lx.cls (s[i + 1]'h1) = 4
      · exact lsym_bin base g s i v l w h hb0 hl hs h1 hc4
      · by_cases h124 : s[i + 1]'h1 = 124
        · exact lsym_bar base g s i v l w h hb0 hl hs h1 h124
        · by_cases h39 : s[i + 1]'h1 = 39
          · exact lsym_quo base g s i v l w h hb0 hl hs h1 h39
          · by_cases ho : s[i + 1]'h1 = 40 ∨ s[i + 1]'h1 = 91
            · exact lsym_open base g s i v l w h hb0 hl hs h1 ho
            · exact lsym_else base g s i v l w h hb0 hs h1 hc2 hc4 h124 h39 ho
  · exact lsym_none base g s i v l w h hs hI h1
end Go.Proofs.Ytaigfelpecdajaa
