/-
  Parts RefE of the proof. No statement of the seat is proved here.
-/
import Derived.Test.YtbnlnndeajjenaaGreatP25
set_option maxHeartbeats 4000000
namespace Go.Proofs.YtbnlnndeajjenaaGreat
open Go.RowKit
set_option maxRecDepth 20000 in
theorem rput_any (base : Nat) (v : Value) (l : List Lx.Tk) (kd p : Nat) (kI pI : Int) (t : List UInt8) (w : World) (h : OwnT w base v l) (hb0 : base ≤ w.heap.size) (hl : l.length ≤ 65536) (hk : kI = kd) (hp : pI = p) :
  Calls Tryz.prog 58 #[v, .int .i64 kI, .string ⟨t.toArray⟩, .int .i64 pI] w fun e w' => ∃ v', e = .returned v' ∧ OwnT w' base v' (l ++ [(kd, t, p)]) ∧ Below base w w' := by
 subst hk hp
 obtain ⟨i0, hi, hz0, hz1, hz2⟩ := info_parts info40
 have HO := Hd h
 obtain ⟨A, c, rfl, _, _⟩ := OwnT.form h
 clear h
 go_enter Tryz.func58, Tryz.ntmps58
 go_wp2_with (at_builtin; refine wpList_append_any _ rfl (.tmp 9) (.tmp 14) 44 rfl base 40 i0 _ 3 32 Tryz.underlying44 hi hz0 hz1 hz2 rfl (by decide) _ _ (tksC l) rfl (HO.out.alloc _) _ _ _ _ (tkC (kd, t, p)) rfl (Reads.builtN w 40 (tkC (kd, t, p)) 1 3 rfl) (tkC_one _) (by simp only [maxLen]; omega) (by omega) (by simp; omega) ?_; intro v1 w1 hown1 hgrow1 hv1; have HO1 := Hd hown1; have HG1 := Hd hgrow1; clear hown1 hgrow1 hv1)
 go_ret
 exact ⟨_, rfl, OwnT.snoc HO1.out, (((Below.refl base w).alloc hb0 _)).grown HG1.out (by simp; omega) fun k hk => own_baseT HO.out hk⟩
def symV (st : Lx.Stp) : Value := if st.err = 0 then .tuple #[.string ⟨st.text.toArray⟩, .int .i64 (st.next : Int), .int .i64 0] else .tuple #[.string ⟨#[]⟩, .int .i64 (-1), .int .i64 (st.err : Int)]
theorem symV_tok {st : Lx.Stp} {k n : Nat} {t : List UInt8} (h : st = Lx.tok k t n) : symV st = .tuple #[.string ⟨t.toArray⟩, .int .i64 (n : Int), .int .i64 0] := by subst h; rfl
theorem symV_bad {st : Lx.Stp} {p e : Nat} (h : st = Lx.bad p e) (he : ¬ e = 0) : symV st = .tuple #[.string ⟨#[]⟩, .int .i64 (-1), .int .i64 (e : Int)] := by
 subst h
 unfold symV
 rw [if_neg (show ¬ (Lx.bad p e).err = 0 from he)]
 rfl
set_option maxRecDepth 20000 in
theorem rsym_none (s : ByteArray) (i : Nat) (w : World) (hs : s.size ≤ 65536) (hi : i < s.size) (h1 : ¬ i + 1 < s.size) :
  Calls Tryz.prog 61 #[.string s, .int .i64 (i : Int)] w fun e w' => e = .returned (symV (Lx.symF s.data.toList i)) ∧ Below w.heap.size w w' := by
 have HE := Hd (symF_none (l := s.data.toList) (i := i) (get_out h1))
 have d0 : Hid (((i : Int) + 1 == (s.size : Int)) = true) := Hd (by rw [beq_iff_eq]; omega)
 go_enter Tryz.func61, Tryz.ntmps61
 go_wp2_with fail
 refine (rat_any s _ (i + 1) _ (by go_num)).mono ?_
 rintro e w' ⟨rfl, rfl⟩
 have d1 := d0.out
 go_wp2
 go_ret3
 exact ⟨by rw [symV_bad HE.out (by decide)]; rfl, Below.refl _ _⟩
set_option maxRecDepth 20000 in
theorem rsym_let (s : ByteArray) (i : Nat) (w : World) (hs : s.size ≤ 65536) (h1 : i + 1 < s.size) (hc2 : Lx.cls (s[i + 1]'h1) = 2) :
  Calls Tryz.prog 61 #[.string s, .int .i64 (i : Int)] w fun e w' => e = .returned (symV (Lx.symF s.data.toList i)) ∧ Below w.heap.size w w' := by
 have d0 : ((i : Int) + 1 == (s.size : Int)) = false := by rw [beq_eq_false_iff_ne]; omega
 have HE := Hd (symF_let (get_in h1) hc2)
 have HL : Hid (Lx.letB (atN s.data.toList (i + 1)) = true) := Hd (by rw [atN_in h1]; unfold Lx.letB; rw [hc2]; rfl)
 clear hc2
 go_enter Tryz.func61, Tryz.ntmps61
 go_wp2_with fail
 refine (rat_any s _ (i + 1) _ (by go_num)).mono ?_
 rintro e w' ⟨rfl, rfl⟩
 go_wp2_with fail
 refine (rletter_any _ _).mono ?_
 rintro e w' ⟨rfl, rfl⟩
 rw [HL.out]
 go_upto_block 1 with fail
 go_cut [7] (fun s7 wx => s7 = .int .i64 (Lx.runF Lx.symB s.data.toList (i + 1) : Nat) ∧ w = wx)
 case first =>
  go_wp2
  go_loopw [7] (fun e wx => ∃ k : Nat, k ≤ s.size ∧ e = .int .i64 k ∧ Lx.runF Lx.symB s.data.toList k = Lx.runF Lx.symB s.data.toList (i + 1) ∧ w = wx) (fun e _ => s.size - (intOf e).toNat)
  case atStart => exact ⟨i + 1, Nat.le_of_lt h1, by go_num, rfl, rfl⟩
  case round =>
   obtain ⟨k, hk, rfl, hrun, rfl⟩ := hrel
   have HRUN := Hd hrun
   clear hrun
   by_cases hkl : k < s.size
   ·have HX := Hd (get_in hkl)
    by_cases hf : Lx.symB (s[k]'hkl) = true
    ·have HST := Hd ((Lx.runF_step HX.out hf).trans HRUN.out)
     cases hd2 : Lx.letB (s[k]'hkl) with
     | true =>
      clear hf
      go_wp2_with (go_at_call 55; refine (rletter_any _ _).mono ?_; rintro e w' ⟨rfl, rfl⟩; rw [hd2])
      go_roundw
      case rel => exact ⟨k + 1, hkl, by go_num, HST.out, by first | rfl | trivial⟩
      case measure => simp [intOf]; omega
     | false =>
      cases hd3 : Lx.digB (s[k]'hkl) with
      | true =>
       clear hf
       go_wp2_with (first
        | (go_at_call 55; refine (rletter_any _ _).mono ?_; rintro e w' ⟨rfl, rfl⟩; rw [hd2])
        | (go_at_call 56; refine (rdigit_any _ _).mono ?_; rintro e w' ⟨rfl, rfl⟩; rw [hd3]))
       go_roundw
       case rel => exact ⟨k + 1, hkl, by go_num, HST.out, by first | rfl | trivial⟩
       case measure => simp [intOf]; omega
      | false =>
       have d58 : (((s[k]'hkl).toNat : Int) == 58) = true := eqb_yes (b := 58) rfl (by
        unfold Lx.symB at hf
        rw [hd2, hd3] at hf
        simpa using hf)
       clear hf
       go_wp2_with (first
        | (go_at_call 55; refine (rletter_any _ _).mono ?_; rintro e w' ⟨rfl, rfl⟩; rw [hd2])
        | (go_at_call 56; refine (rdigit_any _ _).mono ?_; rintro e w' ⟨rfl, rfl⟩; rw [hd3]))
       go_roundw
       case rel => exact ⟨k + 1, hkl, by go_num, HST.out, by first | rfl | trivial⟩
       case measure => simp [intOf]; omega
    ·have hf' : Lx.symB (s[k]'hkl) = false := by simpa using hf
     have HST := Hd ((Lx.runF_stop HX.out hf').symm.trans HRUN.out)
     unfold Lx.symB at hf'
     simp only [Bool.or_eq_false_iff] at hf'
     have hd2 := hf'.1.1
     have hd3 := hf'.1.2
     have d58 : (((s[k]'hkl).toNat : Int) == 58) = false := eqb_no (b := 58) rfl (by simpa using hf'.2)
     clear hf hf'
     go_wp2_with (first
      | (go_at_call 55; refine (rletter_any _ _).mono ?_; rintro e w' ⟨rfl, rfl⟩; rw [hd2])
      | (go_at_call 56; refine (rdigit_any _ _).mono ?_; rintro e w' ⟨rfl, rfl⟩; rw [hd3]))
     go_meet
     exact ⟨by rw [← HST.out], by first | rfl | trivial⟩
   ·have HST := Hd ((Lx.runF_end (p := Lx.symB) (l := s.data.toList) (i := k) (by simp; omega)).symm.trans HRUN.out)
    go_wp2
    go_meet
    exact ⟨by rw [← HST.out], by first | rfl | trivial⟩
 case rest =>
 obtain ⟨rfl, rfl⟩ := hcut
 have HK1 := Lx.runF_ge Lx.symB s.data.toList (i + 1)
 have HK2 : Lx.runF Lx.symB s.data.toList (i + 1) ≤ s.size := by have := Lx.runF_le Lx.symB s.data.toList (i + 1) (by simp; omega); simpa using this
 generalize Lx.runF Lx.symB s.data.toList (i + 1) = k at *
 have k3 : (i : Int) + 1 ≤ (k : Int) := by omega
 have k4 : (k : Int) ≤ (s.size : Int) := by omega
 have k5 : (0 : Int) ≤ (i : Int) + 1 := by omega
 have k6 : i + 1 ≤ k := by omega
 go_wp2
 go_ret3
 exact ⟨by rw [symV_tok HE.out, ← str_cut]; rfl, Below.refl _ _⟩
set_option maxRecDepth 20000 in
theorem rsym_bin (s : ByteArray) (i : Nat) (w : World) (hs : s.size ≤ 65536) (h1 : i + 1 < s.size) (hc4 : Lx.cls (s[i + 1]'h1) = 4) :
  Calls Tryz.prog 61 #[.string s, .int .i64 (i : Int)] w fun e w' => e = .returned (symV (Lx.symF s.data.toList i)) ∧ Below w.heap.size w w' := by
 have d0 : ((i : Int) + 1 == (s.size : Int)) = false := by rw [beq_eq_false_iff_ne]; omega
 have HE := Hd (symF_bin (get_in h1) hc4)
 have HL : Hid (Lx.letB (atN s.data.toList (i + 1)) = false) := Hd (by rw [atN_in h1]; unfold Lx.letB; simp; omega)
 have HBN : Hid (Lx.binB (atN s.data.toList (i + 1)) = true) := Hd (by rw [atN_in h1]; unfold Lx.binB; rw [hc4]; rfl)
 clear hc4
 go_enter Tryz.func61, Tryz.ntmps61
 go_wp2_with fail
 refine (rat_any s _ (i + 1) _ (by go_num)).mono ?_
 rintro e w' ⟨rfl, rfl⟩
 go_wp2_with fail
 refine (rletter_any _ _).mono ?_
 rintro e w' ⟨rfl, rfl⟩
 rw [HL.out]
 go_wp2_with fail
 refine (rbinary_any _ _).mono ?_
 rintro e w' ⟨rfl, rfl⟩
 rw [HBN.out]
 go_wp2_with fail
 refine (rrun_any s _ (i + 1) _ hs (by go_num) h1).mono ?_
 rintro e w' ⟨rfl, rfl⟩
 rw [show i + 1 + 1 = i + 2 from rfl]
 have HK1 := Lx.binF_ge s.data.toList (i + 2)
 have HK2 : Lx.binF s.data.toList (i + 2) ≤ s.size := by have := Lx.binF_le s.data.toList (i + 2) (by simp; omega); simpa using this
 generalize Lx.binF s.data.toList (i + 2) = k at *
 have k3 : (i : Int) + 1 ≤ (k : Int) := by omega
 have k4 : (k : Int) ≤ (s.size : Int) := by omega
 have k5 : (0 : Int) ≤ (i : Int) + 1 := by omega
 have k6 : i + 1 ≤ k := by omega
 go_wp2
 go_ret3
 exact ⟨by rw [symV_tok HE.out, ← str_cut]; rfl, Below.refl _ _⟩
set_option maxRecDepth 20000 in
theorem rsym_bar (s : ByteArray) (i : Nat) (w : World) (hs : s.size ≤ 65536) (h1 : i + 1 < s.size) (hb : s[i + 1]'h1 = 124) :
  Calls Tryz.prog 61 #[.string s, .int .i64 (i : Int)] w fun e w' => e = .returned (symV (Lx.symF s.data.toList i)) ∧ Below w.heap.size w w' := by
 have d0 : ((i : Int) + 1 == (s.size : Int)) = false := by rw [beq_eq_false_iff_ne]; omega
 have HE := Hd (symF_bar (l := s.data.toList) (i := i) (by rw [get_in h1, hb]))
 have hcb : Lx.cls (s[i + 1]'h1) = 5 := by rw [hb]; decide
 have HL : Hid (Lx.letB (atN s.data.toList (i + 1)) = false) := Hd (by rw [atN_in h1]; unfold Lx.letB; simp; omega)
 have HBN : Hid (Lx.binB (atN s.data.toList (i + 1)) = false) := Hd (by rw [atN_in h1]; unfold Lx.binB; simp; omega)
 have e124 : (((atN s.data.toList (i + 1)).toNat : Int) == 124) = true := eqb_yes (b := 124) rfl (by rw [atN_in h1]; exact hb)
 clear hb hcb
 go_enter Tryz.func61, Tryz.ntmps61
 go_wp2_with fail
 refine (rat_any s _ (i + 1) _ (by go_num)).mono ?_
 rintro e w' ⟨rfl, rfl⟩
 go_wp2_with fail
 refine (rletter_any _ _).mono ?_
 rintro e w' ⟨rfl, rfl⟩
 rw [HL.out]
 go_wp2_with fail
 refine (rbinary_any _ _).mono ?_
 rintro e w' ⟨rfl, rfl⟩
 rw [HBN.out]
 go_wp2
 go_ret3
 exact ⟨by rw [symV_tok HE.out, show ((i + 2 : Nat) : Int) = (i : Int) + 1 + 1 from by omega]; rfl, Below.refl _ _⟩
set_option maxRecDepth 20000 in
theorem rsym_quo (s : ByteArray) (i : Nat) (w : World) (hs : s.size ≤ 65536) (h1 : i + 1 < s.size) (hb : s[i + 1]'h1 = 39) :
  Calls Tryz.prog 61 #[.string s, .int .i64 (i : Int)] w fun e w' => e = .returned (symV (Lx.symF s.data.toList i)) ∧ Below w.heap.size w w' := by
 have d0 : ((i : Int) + 1 == (s.size : Int)) = false := by rw [beq_eq_false_iff_ne]; omega
 have hcb : Lx.cls (s[i + 1]'h1) = 0 := by rw [hb]; decide
 have HX : Hid (s.data.toList[i + 1]? = some 39) := Hd (by rw [get_in h1, hb])
 have HL : Hid (Lx.letB (atN s.data.toList (i + 1)) = false) := Hd (by rw [atN_in h1]; unfold Lx.letB; simp; omega)
 have HBN : Hid (Lx.binB (atN s.data.toList (i + 1)) = false) := Hd (by rw [atN_in h1]; unfold Lx.binB; simp; omega)
 have e124 : (((atN s.data.toList (i + 1)).toNat : Int) == 124) = false := eqb_no (b := 124) rfl (by rw [atN_in h1]; rw [hb]; decide)
 have e39 : (((atN s.data.toList (i + 1)).toNat : Int) == 39) = true := eqb_yes (b := 39) rfl (by rw [atN_in h1]; exact hb)
 clear hb hcb
 cases hq : Lx.qF s.data.toList (i + 1) with
 | none =>
  have HE := Hd (symF_quo0 HX.out hq)
  have HQ := Hd hq
  clear hq
  go_enter Tryz.func61, Tryz.ntmps61
  go_wp2_with fail
  refine (rat_any s _ (i + 1) _ (by go_num)).mono ?_
  rintro e w' ⟨rfl, rfl⟩
  go_wp2_with fail
  refine (rletter_any _ _).mono ?_
  rintro e w' ⟨rfl, rfl⟩
  rw [HL.out]
  go_wp2_with fail
  refine (rbinary_any _ _).mono ?_
  rintro e w' ⟨rfl, rfl⟩
  rw [HBN.out]
  go_wp2_with fail
  refine (rquoted_any s _ (i + 1) _ hs (by go_num) h1).mono ?_
  rintro e w3 ⟨rfl, hb3⟩
  rw [HQ.out, quoRn]
  go_wp2
  go_ret3
  exact ⟨by rw [symV_bad HE.out (by decide)]; rfl, hb3⟩
 | some r =>
  obtain ⟨t, n⟩ := r
  have HE := Hd (symF_quo1 HX.out hq)
  have HQ := Hd hq
  clear hq
  go_enter Tryz.func61, Tryz.ntmps61
  go_wp2_with fail
  refine (rat_any s _ (i + 1) _ (by go_num)).mono ?_
  rintro e w' ⟨rfl, rfl⟩
  go_wp2_with fail
  refine (rletter_any _ _).mono ?_
  rintro e w' ⟨rfl, rfl⟩
  rw [HL.out]
  go_wp2_with fail
  refine (rbinary_any _ _).mono ?_
  rintro e w' ⟨rfl, rfl⟩
  rw [HBN.out]
  go_wp2_with fail
  refine (rquoted_any s _ (i + 1) _ hs (by go_num) h1).mono ?_
  rintro e w3 ⟨rfl, hb3⟩
  rw [HQ.out, quoRs]
  go_wp2
  go_ret3
  exact ⟨by rw [symV_tok HE.out]; rfl, hb3⟩
set_option maxRecDepth 20000 in
theorem rsym_else (s : ByteArray) (i : Nat) (w : World) (hs : s.size ≤ 65536) (h1 : i + 1 < s.size) (hc2 : ¬ Lx.cls (s[i + 1]'h1) = 2) (hc4 : ¬ Lx.cls (s[i + 1]'h1) = 4) (h124 : ¬ s[i + 1]'h1 = 124) (h39 : ¬ s[i + 1]'h1 = 39) (ho : ¬ (s[i + 1]'h1 = 40 ∨ s[i + 1]'h1 = 91)) :
  Calls Tryz.prog 61 #[.string s, .int .i64 (i : Int)] w fun e w' => e = .returned (symV (Lx.symF s.data.toList i)) ∧ Below w.heap.size w w' := by
 have d0 : ((i : Int) + 1 == (s.size : Int)) = false := by rw [beq_eq_false_iff_ne]; omega
 have HE := Hd (symF_else (get_in h1) hc2 hc4 h124 h39 ho)
 have HL : Hid (Lx.letB (atN s.data.toList (i + 1)) = false) := Hd (by rw [atN_in h1]; unfold Lx.letB; simp; omega)
 have HBN : Hid (Lx.binB (atN s.data.toList (i + 1)) = false) := Hd (by rw [atN_in h1]; unfold Lx.binB; simp; omega)
 have e124 : (((atN s.data.toList (i + 1)).toNat : Int) == 124) = false := eqb_no (b := 124) rfl (by rw [atN_in h1]; exact h124)
 have e39 : (((atN s.data.toList (i + 1)).toNat : Int) == 39) = false := eqb_no (b := 39) rfl (by rw [atN_in h1]; exact h39)
 clear hc2 hc4 h124 h39 ho
 go_enter Tryz.func61, Tryz.ntmps61
 go_wp2_with fail
 refine (rat_any s _ (i + 1) _ (by go_num)).mono ?_
 rintro e w' ⟨rfl, rfl⟩
 go_wp2_with fail
 refine (rletter_any _ _).mono ?_
 rintro e w' ⟨rfl, rfl⟩
 rw [HL.out]
 go_wp2_with fail
 refine (rbinary_any _ _).mono ?_
 rintro e w' ⟨rfl, rfl⟩
 rw [HBN.out]
 go_wp2
 go_ret3
 exact ⟨by rw [symV_bad HE.out (by decide)]; rfl, Below.refl _ _⟩
theorem rsymbol_any (s : ByteArray) (i : Nat) (w : World) (hs : s.size ≤ 65536) (hi : i < s.size) (ho : ∀ h1 : i + 1 < s.size, ¬ (s[i + 1]'h1 = 40 ∨ s[i + 1]'h1 = 91)) :
  Calls Tryz.prog 61 #[.string s, .int .i64 (i : Int)] w fun e w' => e = .returned (symV (Lx.symF s.data.toList i)) ∧ Below w.heap.size w w' := by
 by_cases h1 : i + 1 < s.size
 ·by_cases hc2 : Lx.cls (s[i + 1]'h1) = 2
  ·exact rsym_let s i w hs h1 hc2
  ·by_cases hc4 : Lx.cls (s[i + 1]'h1) = 4
   ·exact rsym_bin s i w hs h1 hc4
   ·by_cases h124 : s[i + 1]'h1 = 124
    ·exact rsym_bar s i w hs h1 h124
    ·by_cases h39 : s[i + 1]'h1 = 39
     ·exact rsym_quo s i w hs h1 h39
     ·exact rsym_else s i w hs h1 hc2 hc4 h124 h39 (ho h1)
 ·exact rsym_none s i w hs hi h1
end Go.Proofs.YtbnlnndeajjenaaGreat
