/-
  Parts RefF of the proof. No statement of the seat is proved here.
-/
import Derived.Test.YtjhonaglmgmpiaaGreatDoorP24
set_option maxHeartbeats 4000000
namespace Go.Proofs.YtjhonaglmgmpiaaGreatDoor
open Go.RowKit
section
variable {l : List UInt8} {i f : Nat} {acc : List Lx.Tk}
theorem lexF_skip {t : List UInt8} {n : Nat} (h : i < l.length) (hs : Lx.stepF l i = Lx.tok 0 t n) : Lx.lexF l (f + 1) i acc = Lx.lexF l f n acc := by
 rw [Lx.lexF_good h (by rw [hs]; rfl), hs]; rfl
theorem lexF_tok {t : List UInt8} {k n : Nat} (h : i < l.length) (hs : Lx.stepF l i = Lx.tok k t n) (hk : ¬ k = 0) : Lx.lexF l (f + 1) i acc = Lx.lexF l f n (acc ++ [(k, t, i)]) := by
 rw [Lx.lexF_good h (by rw [hs]; rfl), hs]
 show Lx.lexF l f n (if k = 0 then acc else _) = _
 rw [if_neg hk]; rfl
theorem lexF_err {p e : Nat} (h : i < l.length) (hs : Lx.stepF l i = Lx.bad p e) (he : ¬ e = 0) : Lx.lexF l (f + 1) i acc = ([], p, e) := by
 rw [Lx.lexF_bad h (by rw [hs]; exact he), hs]; rfl
theorem fine_of {k n : Nat} {t : List UInt8} (h : i < l.length) (hs : Lx.stepF l i = Lx.tok k t n) : i < n ∧ n ≤ l.length := by
 have := Lx.stepF_fine h
 rw [hs] at this
 exact this rfl
end
theorem sym_forms {l : List UInt8} {i : Nat} (ho : ∀ b, l[i + 1]? = some b → ¬ (b = 40 ∨ b = 91)) : (∃ t n, Lx.symF l i = Lx.tok 6 t n) ∨ Lx.symF l i = Lx.bad (i + 1) 121 ∨ Lx.symF l i = Lx.bad i 120 := by
 cases h : l[i + 1]? with
 | none => exact .inr (.inr (symF_none h))
 | some b =>
  have hb := ho b h
  by_cases h2 : Lx.cls b = 2
  ·exact .inl ⟨_, _, symF_let h h2⟩
  by_cases h4 : Lx.cls b = 4
  ·exact .inl ⟨_, _, symF_bin h h4⟩
  by_cases h124 : b = 124
  ·subst h124; exact .inl ⟨_, _, symF_bar h⟩
  by_cases h39 : b = 39
  ·subst h39
   cases hq : Lx.qF l (i + 1) with
   | none => exact .inr (.inl (symF_quo0 h hq))
   | some r => exact .inl ⟨_, _, symF_quo1 h hq⟩
  ·exact .inr (.inr (symF_else h h2 h4 h124 h39 hb))
theorem hasBl (x : UInt8) : hasB (⟨#[9, 10, 12, 13, 32]⟩ : ByteArray).data.toList x = (Lx.cls x == 1) := blank_in x
theorem hasMk (x : UInt8) : hasB (⟨#[40, 41, 91, 93, 123, 125, 46, 59, 94, 58, 124]⟩ : ByteArray).data.toList x = (Lx.cls x == 5) := mark_in x
def RoundP (s : ByteArray) (w : World) (R : List Lx.Tk × Nat × Nat) (v : Value) (i : Nat) (wr : World) : Prop :=
 ∃ (acc : List Lx.Tk) (f : Nat), i ≤ s.size ∧ s.size ≤ i + f ∧ acc.length ≤ i ∧ OwnT wr w.heap.size v acc ∧ Below w.heap.size w wr ∧ Lx.lexF s.data.toList f i acc = R
set_option maxRecDepth 100000 in
set_option maxHeartbeats 16000000 in
theorem rlex_any (s : ByteArray) (w : World) (hm : s.size ≤ 9223372036854775807) : Calls Tryz.prog 10 #[.string s] w (LexP (Lx.lexT s.data.toList) w) := by
 by_cases hs : 65536 < s.size
 ·have HE := Hd (LexP.bad_ (w := w) (w' := w) (show Lx.lexT s.data.toList = ([], 0, 2) by unfold Lx.lexT; rw [if_pos (by simpa using hs)]) (Below.refl _ _))
  go_enter Tryz.func10, Tryz.ntmps10
  go_wp2
  go_ret3
  exact HE.out
 ·have hs' : s.size ≤ 65536 := by omega
  obtain ⟨R, hR⟩ : ∃ R, Lx.lexF s.data.toList s.size 0 [] = R := ⟨_, rfl⟩
  have HT : Hid (Lx.lexT s.data.toList = R) := Hd (by unfold Lx.lexT; rw [if_neg (by simpa using hs)]; simpa using hR)
  have HR := Hd hR
  clear hR hs
  go_enter Tryz.func10, Tryz.ntmps10
  go_wp2
  go_loopw [5, 6] (fun v e wr => ∃ (i : Nat), e = .int .i64 i ∧ RoundP s w R v i wr) (fun _ e _ => s.size - (intOf e).toNat)
  case atStart => exact ⟨0, rfl, [], s.size, Nat.zero_le _, by omega, Nat.le_refl _, World.ownsRow_nil _ _ _ _, Below.refl _ _, HR.out⟩
  case round =>
   obtain ⟨i, rfl, acc, f0, his, hif, hai, hown, hb, hlex⟩ := hrel
   have HO := Hd hown
   have HB := Hd hb
   have HL0 := Hd hlex
   obtain ⟨A, c, rfl, _, _⟩ := OwnT.form hown
   clear hown hb hlex
   by_cases hi : i < s.size
   ·obtain ⟨f, rfl⟩ : ∃ f, f0 = f + 1 := ⟨f0 - 1, by omega⟩
    have HL := HL0
    have hll : s.data.toList.length = s.size := by simp
    have hil : i < s.data.toList.length := by rw [hll]; exact hi
    have hacc : acc.length ≤ 65536 := by omega
    clear HL0
    by_cases hcl : Lx.cls (s[i]'hi) = 1
    ·as_aux_lemma =>
      have HE := Hd (stepF_blank (get_in hi) hcl)
      have HLX := Hd ((lexF_skip (f := f) (acc := acc) hil HE.out).symm.trans HL.out)
      have n1 := (fine_of hil HE.out).1
      have n2 := (fine_of hil HE.out).2
      rw [hll] at n2
      have HBL : Hid (hasB (⟨#[9, 10, 12, 13, 32]⟩ : ByteArray).data.toList (s[i]'hi) = true) := Hd (by rw [hasBl, hcl]; rfl)
      clear hcl
      go_wp2_with fail
      refine (rin_any ⟨#[9, 10, 12, 13, 32]⟩ (s[i]'hi) _ (by decide)).mono ?_
      rintro e w' ⟨rfl, rfl⟩
      rw [HBL.out]
      go_wp2
      go_roundw
      case rel => exact ⟨i + 1, by first | rfl | go_num, acc, f, n2, by omega, by omega, HO.out, HB.out, HLX.out⟩
      case measure => simp [intOf]; omega
    by_cases hcl : Lx.cls (s[i]'hi) = 3
    ·as_aux_lemma =>
      have hdg : Lx.digB (s[i]'hi) = true := by unfold Lx.digB; rw [hcl]; rfl
      have HI := Hd (rint_any s i wr hs' hi hdg)
      have HBL : Hid (hasB (⟨#[9, 10, 12, 13, 32]⟩ : ByteArray).data.toList (s[i]'hi) = false) := Hd (by rw [hasBl, hcl]; rfl)
      have HLT : Hid (Lx.letB (s[i]'hi) = false) := Hd (by unfold Lx.letB; rw [hcl]; rfl)
      have HDG : Hid (Lx.digB (s[i]'hi) = true) := Hd (by unfold Lx.digB; rw [hcl]; rfl)
      have e34 : (((s[i]'hi).toNat : Int) == 34) = false := eqb_no (b := 34) rfl (by intro h; rw [h] at hcl; revert hcl; decide)
      have HN0 := Hd (stepF_num (get_in hi) hcl)
      clear hcl hdg
      go_wp2_with fail
      refine (rin_any ⟨#[9, 10, 12, 13, 32]⟩ (s[i]'hi) _ (by decide)).mono ?_
      rintro e w' ⟨rfl, rfl⟩
      rw [HBL.out]
      go_wp2_with fail
      refine (rletter_any (s[i]'hi) _).mono ?_
      rintro e w' ⟨rfl, rfl⟩
      rw [HLT.out]
      go_wp2_with fail
      refine (rdigit_any (s[i]'hi) _).mono ?_
      rintro e w' ⟨rfl, rfl⟩
      rw [HDG.out]
      cases hn : Lx.numF s.data.toList i with
      | none =>
       have HE : Hid (Lx.stepF s.data.toList i = Lx.bad i 123) := Hd (by rw [HN0.out]; exact numS_none hn)
       have HER := Hd ((lexF_err (f := f) (acc := acc) hil HE.out (by decide)).symm.trans HL.out)
       have HQ := Hd hn
       clear hn
       go_wp2_with fail
       refine HI.out.mono ?_
       rintro e w3 ⟨rfl, hb3⟩
       rw [HQ.out, quoRn]
       have HB3 := Hd (bnext HB.out hb3)
       clear hb3
       go_wp2
       go_ret3
       exact LexP.bad_ (p := i) (e := 123) (by rw [HT.out]; exact HER.out.symm) HB3.out
      | some r =>
       obtain ⟨t, n⟩ := r
       have HE : Hid (Lx.stepF s.data.toList i = Lx.tok 4 t n) := Hd (by rw [HN0.out]; exact numS_some hn)
       have HLX := Hd ((lexF_tok (f := f) (acc := acc) hil HE.out (by decide)).symm.trans HL.out)
       have n1 := (fine_of hil HE.out).1
       have n2 := (fine_of hil HE.out).2
       rw [hll] at n2
       have HQ := Hd hn
       clear hn
       go_wp2_with fail
       refine HI.out.mono ?_
       rintro e w3 ⟨rfl, hb3⟩
       rw [HQ.out, quoRs]
       have HB3 := Hd (bnext HB.out hb3)
       have HO3 : Hid (OwnT w3 w.heap.size (.slice A acc.length c) acc) := Hd (World.ownsRow.kept HO.out (only_of_below hb3 none) (by cases (Value.slice A acc.length c).ownBlock <;> simp))
       clear hb3
       have nn : ¬ (n : Int) < 0 := by omega
       go_wp2_with fail
       refine (rput_any w.heap.size _ acc 4 i _ _ t _ HO3.out HB3.out.size hacc rfl rfl).mono ?_
       rintro e w7 ⟨v7, rfl, ho7, hb7⟩
       have HO7 := Hd ho7
       have HB7 := Hd (HB3.out.trans hb7)
       clear ho7 hb7
       go_wp2
       go_roundw
       case rel => exact ⟨n, by first | rfl | go_num, acc ++ [(4, t, i)], f, n2, by omega, by simp; omega, HO7.out, HB7.out, HLX.out⟩
       case measure => simp [intOf]; omega
    by_cases hcl : Lx.cls (s[i]'hi) = 2
    ·as_aux_lemma =>
      have HG := Hd (get_in hi)
      have HC2 := Hd hcl
      have HBL : Hid (hasB (⟨#[9, 10, 12, 13, 32]⟩ : ByteArray).data.toList (s[i]'hi) = false) := Hd (by rw [hasBl, hcl]; rfl)
      have HLT : Hid (Lx.letB (s[i]'hi) = true) := Hd (by unfold Lx.letB; rw [hcl]; rfl)
      have e34 : (((s[i]'hi).toNat : Int) == 34) = false := eqb_no (b := 34) rfl (by intro h; rw [h] at hcl; revert hcl; decide)
      clear hcl
      go_wp2_with fail
      refine (rin_any ⟨#[9, 10, 12, 13, 32]⟩ (s[i]'hi) _ (by decide)).mono ?_
      rintro e w' ⟨rfl, rfl⟩
      rw [HBL.out]
      go_wp2_with fail
      refine (rletter_any (s[i]'hi) _).mono ?_
      rintro e w' ⟨rfl, rfl⟩
      rw [HLT.out]
      go_upto_block 5 with fail
      go_cut [9] (fun s9 wx => s9 = .int .i64 (Lx.runF Lx.ldB s.data.toList i : Nat) ∧ wr = wx)
      case first =>
       go_wp2
       go_loopw [9] (fun e wx => ∃ k : Nat, k ≤ s.size ∧ e = .int .i64 k ∧ Lx.runF Lx.ldB s.data.toList k = Lx.runF Lx.ldB s.data.toList i ∧ wr = wx) (fun e _ => s.size - (intOf e).toNat)
       case atStart => exact ⟨i, by omega, by first | rfl | go_num, rfl, rfl⟩
       case round =>
        obtain ⟨k, hk, rfl, hrun, rfl⟩ := hrel
        have HRUN := Hd hrun
        clear hrun
        by_cases hkl : k < s.size
        ·have HX := Hd (get_in hkl)
         cases hd2 : Lx.letB (s[k]'hkl) with
         | true =>
          have HST := Hd ((Lx.runF_step (p := Lx.ldB) HX.out (by unfold Lx.ldB; rw [hd2]; rfl)).trans HRUN.out)
          go_wp2_with (go_at_call 39; refine (rletter_any _ _).mono ?_; rintro e w' ⟨rfl, rfl⟩; rw [hd2])
          go_roundw
          case rel => exact ⟨k + 1, hkl, by go_num, HST.out, by first | rfl | trivial⟩
          case measure => simp [intOf]; omega
         | false =>
          cases hd3 : Lx.digB (s[k]'hkl) with
          | true =>
           have HST := Hd ((Lx.runF_step (p := Lx.ldB) HX.out (by unfold Lx.ldB; rw [hd2, hd3]; rfl)).trans HRUN.out)
           go_wp2_with (first
            | (go_at_call 39; refine (rletter_any _ _).mono ?_; rintro e w' ⟨rfl, rfl⟩; rw [hd2])
            | (go_at_call 40; refine (rdigit_any _ _).mono ?_; rintro e w' ⟨rfl, rfl⟩; rw [hd3]))
           go_roundw
           case rel => exact ⟨k + 1, hkl, by go_num, HST.out, by first | rfl | trivial⟩
           case measure => simp [intOf]; omega
          | false =>
           have HST := Hd ((Lx.runF_stop (p := Lx.ldB) HX.out (by unfold Lx.ldB; rw [hd2, hd3]; rfl)).symm.trans HRUN.out)
           go_wp2_with (first
            | (go_at_call 39; refine (rletter_any _ _).mono ?_; rintro e w' ⟨rfl, rfl⟩; rw [hd2])
            | (go_at_call 40; refine (rdigit_any _ _).mono ?_; rintro e w' ⟨rfl, rfl⟩; rw [hd3]))
           go_meet
           exact ⟨by rw [← HST.out], by first | rfl | trivial⟩
        ·have HST := Hd ((Lx.runF_end (p := Lx.ldB) (l := s.data.toList) (i := k) (by simp; omega)).symm.trans HRUN.out)
         go_wp2
         go_meet
         exact ⟨by rw [← HST.out], by first | rfl | trivial⟩
      case rest =>
      obtain ⟨rfl, rfl⟩ := hcut
      have HJ1 := Lx.runF_ge Lx.ldB s.data.toList i
      have HJ2 : Lx.runF Lx.ldB s.data.toList i ≤ s.size := by have := Lx.runF_le Lx.ldB s.data.toList i (by rw [hll]; omega); rwa [hll] at this
      obtain ⟨j, hjj⟩ : ∃ j, Lx.runF Lx.ldB s.data.toList i = j := ⟨_, rfl⟩
      rw [hjj] at HJ1 HJ2 ⊢
      cases hA : Lx.isAt s.data.toList j 58 with
      | false =>
       have hq : (Lx.isAt s.data.toList j 58 && !Lx.isAt s.data.toList (j + 1) 61) = false := by rw [hA]; rfl
       have d58 : (((atN s.data.toList j).toNat : Int) == 58) = false := eqb_no (b := 58) rfl (atN_no hA (by decide))
       have HE := Hd (stepF_name HG.out HC2.out (by rw [hjj]; exact hq))
       rw [hjj] at HE
       have HLX := Hd ((lexF_tok (f := f) (acc := acc) hil HE.out (by decide)).symm.trans HL.out)
       have n1 := (fine_of hil HE.out).1
       have n2 := (fine_of hil HE.out).2
       rw [hll] at n2
       have k3 : (i : Int) ≤ (j : Int) := by omega
       have k4 : (j : Int) ≤ (s.size : Int) := by omega
       have k5 : i ≤ j := by omega
       clear hq hA hjj
       go_wp2_with fail
       refine (rat_any s _ j _ rfl).mono ?_
       rintro e w' ⟨rfl, rfl⟩
       go_wp2_with fail
       rw [str_cut s i j]
       refine (rput_any w.heap.size _ acc 1 i _ _ (Lx.cut s.data.toList i j) _ HO.out HB.out.size hacc rfl rfl).mono ?_
       rintro e w7 ⟨v7, rfl, ho7, hb7⟩
       have HO7 := Hd ho7
       have HB7 := Hd (HB.out.trans hb7)
       clear ho7 hb7
       go_wp2
       go_roundw
       case rel => exact ⟨j, by first | rfl | go_num, acc ++ [(1, _, i)], f, n2, by omega, by simp; omega, HO7.out, HB7.out, HLX.out⟩
       case measure => simp [intOf]; omega
      | true =>
       have d58 : (((atN s.data.toList j).toNat : Int) == 58) = true := eqb_yes (b := 58) rfl (atN_yes hA)
       cases hA2 : Lx.isAt s.data.toList (j + 1) 61 with
       | true =>
        have hq : (Lx.isAt s.data.toList j 58 && !Lx.isAt s.data.toList (j + 1) 61) = false := by rw [hA, hA2]; rfl
        have d61 : (((atN s.data.toList (j + 1)).toNat : Int) != 61) = false := neb_no (b := 61) rfl (atN_yes hA2)
        have HE := Hd (stepF_name HG.out HC2.out (by rw [hjj]; exact hq))
        rw [hjj] at HE
        have HLX := Hd ((lexF_tok (f := f) (acc := acc) hil HE.out (by decide)).symm.trans HL.out)
        have n1 := (fine_of hil HE.out).1
        have n2 := (fine_of hil HE.out).2
        rw [hll] at n2
        have k3 : (i : Int) ≤ (j : Int) := by omega
        have k4 : (j : Int) ≤ (s.size : Int) := by omega
        have k5 : i ≤ j := by omega
        clear hq hA hA2 hjj
        go_wp2_with fail
        refine (rat_any s _ j _ rfl).mono ?_
        rintro e w' ⟨rfl, rfl⟩
        go_wp2_with fail
        refine (rat_any s _ (j + 1) _ (by go_num)).mono ?_
        rintro e w' ⟨rfl, rfl⟩
        go_wp2_with fail
        rw [str_cut s i j]
        refine (rput_any w.heap.size _ acc 1 i _ _ (Lx.cut s.data.toList i j) _ HO.out HB.out.size hacc rfl rfl).mono ?_
        rintro e w7 ⟨v7, rfl, ho7, hb7⟩
        have HO7 := Hd ho7
        have HB7 := Hd (HB.out.trans hb7)
        clear ho7 hb7
        go_wp2
        go_roundw
        case rel => exact ⟨j, by first | rfl | go_num, acc ++ [(1, _, i)], f, n2, by omega, by simp; omega, HO7.out, HB7.out, HLX.out⟩
        case measure => simp [intOf]; omega
       | false =>
        have hq : (Lx.isAt s.data.toList j 58 && !Lx.isAt s.data.toList (j + 1) 61) = true := by rw [hA, hA2]; rfl
        have d61 : (((atN s.data.toList (j + 1)).toNat : Int) != 61) = true := neb_yes (b := 61) rfl (atN_no hA2 (by decide))
        have HE := Hd (stepF_key HG.out HC2.out (by rw [hjj]; exact hq))
        rw [hjj] at HE
        have HLX := Hd ((lexF_tok (f := f) (acc := acc) hil HE.out (by decide)).symm.trans HL.out)
        have n1 := (fine_of hil HE.out).1
        have n2 := (fine_of hil HE.out).2
        rw [hll] at n2
        have k3 : (i : Int) ≤ (j : Int) + 1 := by omega
        have k4 : (j : Int) + 1 ≤ (s.size : Int) := by omega
        have k5 : i ≤ j + 1 := by omega
        clear hq hA hA2 hjj
        go_wp2_with fail
        refine (rat_any s _ j _ rfl).mono ?_
        rintro e w' ⟨rfl, rfl⟩
        go_wp2_with fail
        refine (rat_any s _ (j + 1) _ (by go_num)).mono ?_
        rintro e w' ⟨rfl, rfl⟩
        go_wp2_with fail
        rw [str_cut s i (j + 1)]
        refine (rput_any w.heap.size _ acc 2 i _ _ (Lx.cut s.data.toList i (j + 1)) _ HO.out HB.out.size hacc rfl rfl).mono ?_
        rintro e w7 ⟨v7, rfl, ho7, hb7⟩
        have HO7 := Hd ho7
        have HB7 := Hd (HB.out.trans hb7)
        clear ho7 hb7
        go_wp2
        go_roundw
        case rel => exact ⟨j + 1, by first | rfl | go_num, acc ++ [(2, _, i)], f, n2, by omega, by simp; omega, HO7.out, HB7.out, HLX.out⟩
        case measure => simp [intOf]; omega
    by_cases hcl : Lx.cls (s[i]'hi) = 4
    ·as_aux_lemma =>
      have HE := Hd (stepF_bin (get_in hi) hcl)
      have HBL : Hid (hasB (⟨#[9, 10, 12, 13, 32]⟩ : ByteArray).data.toList (s[i]'hi) = false) := Hd (by rw [hasBl, hcl]; rfl)
      have HLT : Hid (Lx.letB (s[i]'hi) = false) := Hd (by unfold Lx.letB; rw [hcl]; rfl)
      have HDG : Hid (Lx.digB (s[i]'hi) = false) := Hd (by unfold Lx.digB; rw [hcl]; rfl)
      have HBN : Hid (Lx.binB (s[i]'hi) = true) := Hd (by unfold Lx.binB; rw [hcl]; rfl)
      have e34 : (((s[i]'hi).toNat : Int) == 34) = false := eqb_no (b := 34) rfl (by intro h; rw [h] at hcl; revert hcl; decide)
      have e39 : (((s[i]'hi).toNat : Int) == 39) = false := eqb_no (b := 39) rfl (by intro h; rw [h] at hcl; revert hcl; decide)
      have e35 : (((s[i]'hi).toNat : Int) == 35) = false := eqb_no (b := 35) rfl (by intro h; rw [h] at hcl; revert hcl; decide)
      have HLX := Hd ((lexF_tok (f := f) (acc := acc) hil HE.out (by decide)).symm.trans HL.out)
      have n1 := (fine_of hil HE.out).1
      have n2 := (fine_of hil HE.out).2
      rw [hll] at n2
      clear hcl
      go_wp2_with fail
      refine (rin_any ⟨#[9, 10, 12, 13, 32]⟩ (s[i]'hi) _ (by decide)).mono ?_
      rintro e w' ⟨rfl, rfl⟩
      rw [HBL.out]
      go_wp2_with fail
      refine (rletter_any (s[i]'hi) _).mono ?_
      rintro e w' ⟨rfl, rfl⟩
      rw [HLT.out]
      go_wp2_with fail
      refine (rdigit_any (s[i]'hi) _).mono ?_
      rintro e w' ⟨rfl, rfl⟩
      rw [HDG.out]
      go_wp2_with fail
      refine (rbinary_any (s[i]'hi) _).mono ?_
      rintro e w' ⟨rfl, rfl⟩
      rw [HBN.out]
      go_wp2_with fail
      refine (rrun_any s _ i _ hs' rfl hi).mono ?_
      rintro e w' ⟨rfl, rfl⟩
      generalize Lx.binF s.data.toList (i + 1) = k at *
      have k3 : (i : Int) ≤ (k : Int) := by omega
      have k4 : (k : Int) ≤ (s.size : Int) := by omega
      have k5 : i ≤ k := by omega
      go_wp2_with fail
      rw [str_cut s i k]
      refine (rput_any w.heap.size _ acc 3 i _ _ (Lx.cut s.data.toList i k) _ HO.out HB.out.size hacc rfl rfl).mono ?_
      rintro e w7 ⟨v7, rfl, ho7, hb7⟩
      have HO7 := Hd ho7
      have HB7 := Hd (HB.out.trans hb7)
      clear ho7 hb7
      go_wp2
      go_roundw
      case rel => exact ⟨k, by first | rfl | go_num, acc ++ [(3, _, i)], f, n2, by omega, by simp; omega, HO7.out, HB7.out, HLX.out⟩
      case measure => simp [intOf]; omega
    by_cases hb : s[i]'hi = 34
    ·as_aux_lemma =>
      have HG : Hid (s.data.toList[i]? = some 34) := Hd (by rw [get_in hi, hb])
      have hcl : Lx.cls (s[i]'hi) = 0 := by rw [hb]; decide
      have HBL : Hid (hasB (⟨#[9, 10, 12, 13, 32]⟩ : ByteArray).data.toList (s[i]'hi) = false) := Hd (by rw [hasBl, hcl]; rfl)
      have e34 : (((s[i]'hi).toNat : Int) == 34) = true := eqb_yes (b := 34) rfl (by exact hb)
      clear hcl hb
      go_wp2_with fail
      refine (rin_any ⟨#[9, 10, 12, 13, 32]⟩ (s[i]'hi) _ (by decide)).mono ?_
      rintro e w' ⟨rfl, rfl⟩
      rw [HBL.out]
      go_upto_block 3 with fail
      go_cut [8] (fun s9 wx => s9 = .int .i64 (Lx.runF (fun x => x != 34) s.data.toList (i + 1) : Nat) ∧ wr = wx)
      case first =>
       go_wp2
       go_loopw [8] (fun e wx => ∃ k : Nat, k ≤ s.size ∧ e = .int .i64 k ∧ Lx.runF (fun x => x != 34) s.data.toList k = Lx.runF (fun x => x != 34) s.data.toList (i + 1) ∧ wr = wx) (fun e _ => s.size - (intOf e).toNat)
       case atStart => exact ⟨i + 1, by omega, by first | rfl | go_num, rfl, rfl⟩
       case round =>
        obtain ⟨k, hk, rfl, hrun, rfl⟩ := hrel
        have HRUN := Hd hrun
        clear hrun
        by_cases hkl : k < s.size
        ·have HX := Hd (get_in hkl)
         by_cases hq : s[k]'hkl = 34
         ·have d34 : (((s[k]'hkl).toNat : Int) != 34) = false := neb_no (b := 34) rfl hq
          have HST := Hd ((Lx.runF_stop (p := fun x => x != 34) HX.out (by simp [hq])).symm.trans HRUN.out)
          clear hq
          go_wp2
          go_meet
          exact ⟨by rw [← HST.out], by first | rfl | trivial⟩
         ·have d34 : (((s[k]'hkl).toNat : Int) != 34) = true := neb_yes (b := 34) rfl hq
          have HST := Hd ((Lx.runF_step (p := fun x => x != 34) HX.out (by simpa using hq)).trans HRUN.out)
          clear hq
          go_wp2
          go_roundw
          case rel => exact ⟨k + 1, hkl, by go_num, HST.out, by first | rfl | trivial⟩
          case measure => simp [intOf]; omega
        ·have HST := Hd ((Lx.runF_end (p := (fun x => x != 34)) (l := s.data.toList) (i := k) (by simp; omega)).symm.trans HRUN.out)
         go_wp2
         go_meet
         exact ⟨by rw [← HST.out], by first | rfl | trivial⟩
      case rest =>
      obtain ⟨rfl, rfl⟩ := hcut
      have HJ1 := Lx.runF_ge (fun x => x != 34) s.data.toList (i + 1)
      have HJ2 : Lx.runF (fun x => x != 34) s.data.toList (i + 1) ≤ s.size := by have := Lx.runF_le (fun x => x != 34) s.data.toList (i + 1) (by rw [hll]; omega); rwa [hll] at this
      obtain ⟨j, hjj⟩ : ∃ j, Lx.runF (fun x => x != 34) s.data.toList (i + 1) = j := ⟨_, rfl⟩
      rw [hjj] at HJ1 HJ2 ⊢
      by_cases hjl : j < s.size
      ·have HE := Hd (stepF_com HG.out (by rw [hjj, hll]; exact hjl))
       rw [hjj] at HE
       have HLX := Hd ((lexF_skip (f := f) (acc := acc) hil HE.out).symm.trans HL.out)
       have n1 := (fine_of hil HE.out).1
       have n2 := (fine_of hil HE.out).2
       rw [hll] at n2
       have dj : ((j : Int) == (s.size : Int)) = false := by rw [beq_eq_false_iff_ne]; omega
       clear hjj
       go_wp2
       go_roundw
       case rel => exact ⟨j + 1, by first | rfl | go_num, acc, f, n2, by omega, by omega, HO.out, HB.out, HLX.out⟩
       case measure => simp [intOf]; omega
      ·have HE := Hd (stepF_com0 HG.out (by rw [hjj, hll]; exact hjl))
       have HER := Hd ((lexF_err (f := f) (acc := acc) hil HE.out (by decide)).symm.trans HL.out)
       have dj : ((j : Int) == (s.size : Int)) = true := by rw [beq_iff_eq]; omega
       clear hjj
       go_wp2
       go_ret3
       exact LexP.bad_ (p := i) (e := 122) (by rw [HT.out]; exact HER.out.symm) HB.out
    by_cases hb : s[i]'hi = 39
    ·as_aux_lemma =>
      have HG : Hid (s.data.toList[i]? = some 39) := Hd (by rw [get_in hi, hb])
      have hcl : Lx.cls (s[i]'hi) = 0 := by rw [hb]; decide
      have HBL : Hid (hasB (⟨#[9, 10, 12, 13, 32]⟩ : ByteArray).data.toList (s[i]'hi) = false) := Hd (by rw [hasBl, hcl]; rfl)
      have HLT : Hid (Lx.letB (s[i]'hi) = false) := Hd (by unfold Lx.letB; rw [hcl]; rfl)
      have HDG : Hid (Lx.digB (s[i]'hi) = false) := Hd (by unfold Lx.digB; rw [hcl]; rfl)
      have e34 : (((s[i]'hi).toNat : Int) == 34) = false := eqb_no (b := 34) rfl (by rw [hb]; decide)
      have e39 : (((s[i]'hi).toNat : Int) == 39) = true := eqb_yes (b := 39) rfl (by exact hb)
      clear hcl hb
      go_wp2_with fail
      refine (rin_any ⟨#[9, 10, 12, 13, 32]⟩ (s[i]'hi) _ (by decide)).mono ?_
      rintro e w' ⟨rfl, rfl⟩
      rw [HBL.out]
      go_wp2_with fail
      refine (rletter_any (s[i]'hi) _).mono ?_
      rintro e w' ⟨rfl, rfl⟩
      rw [HLT.out]
      go_wp2_with fail
      refine (rdigit_any (s[i]'hi) _).mono ?_
      rintro e w' ⟨rfl, rfl⟩
      rw [HDG.out]
      cases hq : Lx.qF s.data.toList i with
      | none =>
       have HE := Hd (stepF_str0 HG.out hq)
       have HER := Hd ((lexF_err (f := f) (acc := acc) hil HE.out (by decide)).symm.trans HL.out)
       have HQ := Hd hq
       clear hq
       go_wp2_with fail
       refine (rquoted_any s _ i _ hs' rfl hi).mono ?_
       rintro e w3 ⟨rfl, hb3⟩
       rw [HQ.out, quoRn]
       have HB3 := Hd (bnext HB.out hb3)
       clear hb3
       go_wp2
       go_ret3
       exact LexP.bad_ (p := i) (e := 121) (by rw [HT.out]; exact HER.out.symm) HB3.out
      | some r =>
       obtain ⟨t, n⟩ := r
       have HE := Hd (stepF_str1 HG.out hq)
       have HE : Hid (Lx.stepF s.data.toList i = Lx.tok 5 t n) := HE
       have HLX := Hd ((lexF_tok (f := f) (acc := acc) hil HE.out (by decide)).symm.trans HL.out)
       have n1 := (fine_of hil HE.out).1
       have n2 := (fine_of hil HE.out).2
       rw [hll] at n2
       have HQ := Hd hq
       clear hq
       go_wp2_with fail
       refine (rquoted_any s _ i _ hs' rfl hi).mono ?_
       rintro e w3 ⟨rfl, hb3⟩
       rw [HQ.out, quoRs]
       have HB3 := Hd (bnext HB.out hb3)
       have HO3 : Hid (OwnT w3 w.heap.size (.slice A acc.length c) acc) := Hd (World.ownsRow.kept HO.out (only_of_below hb3 none) (by cases (Value.slice A acc.length c).ownBlock <;> simp))
       clear hb3
       have nn : ¬ (n : Int) < 0 := by omega
       go_wp2_with fail
       refine (rput_any w.heap.size _ acc 5 i _ _ t _ HO3.out HB3.out.size hacc rfl rfl).mono ?_
       rintro e w7 ⟨v7, rfl, ho7, hb7⟩
       have HO7 := Hd ho7
       have HB7 := Hd (HB3.out.trans hb7)
       clear ho7 hb7
       go_wp2
       go_roundw
       case rel => exact ⟨n, by first | rfl | go_num, acc ++ [(5, _, i)], f, n2, by omega, by simp; omega, HO7.out, HB7.out, HLX.out⟩
       case measure => simp [intOf]; omega
    by_cases hb : s[i]'hi = 35
    ·as_aux_lemma =>
      have HG : Hid (s.data.toList[i]? = some 35) := Hd (by rw [get_in hi, hb])
      have HSY := Hd (stepF_sym HG.out)
      have hcl : Lx.cls (s[i]'hi) = 0 := by rw [hb]; decide
      have HBL : Hid (hasB (⟨#[9, 10, 12, 13, 32]⟩ : ByteArray).data.toList (s[i]'hi) = false) := Hd (by rw [hasBl, hcl]; rfl)
      have HLT : Hid (Lx.letB (s[i]'hi) = false) := Hd (by unfold Lx.letB; rw [hcl]; rfl)
      have HDG : Hid (Lx.digB (s[i]'hi) = false) := Hd (by unfold Lx.digB; rw [hcl]; rfl)
      have e34 : (((s[i]'hi).toNat : Int) == 34) = false := eqb_no (b := 34) rfl (by rw [hb]; decide)
      have e39 : (((s[i]'hi).toNat : Int) == 39) = false := eqb_no (b := 39) rfl (by rw [hb]; decide)
      have e35 : (((s[i]'hi).toNat : Int) == 35) = true := eqb_yes (b := 35) rfl (by exact hb)
      clear hcl hb
      go_wp2_with fail
      refine (rin_any ⟨#[9, 10, 12, 13, 32]⟩ (s[i]'hi) _ (by decide)).mono ?_
      rintro e w' ⟨rfl, rfl⟩
      rw [HBL.out]
      go_wp2_with fail
      refine (rletter_any (s[i]'hi) _).mono ?_
      rintro e w' ⟨rfl, rfl⟩
      rw [HLT.out]
      go_wp2_with fail
      refine (rdigit_any (s[i]'hi) _).mono ?_
      rintro e w' ⟨rfl, rfl⟩
      rw [HDG.out]
      by_cases h1 : i + 1 < s.size
      ·by_cases hc : s[i + 1]'h1 = 40
       ·have HE : Hid (Lx.stepF s.data.toList i = Lx.tok 7 (Lx.cut s.data.toList i (i + 2)) (i + 2)) := Hd (by rw [HSY.out]; exact symF_open (get_in h1) (.inl hc))
        have HLX := Hd ((lexF_tok (f := f) (acc := acc) hil HE.out (by decide)).symm.trans HL.out)
        have n1 := (fine_of hil HE.out).1
        have n2 := (fine_of hil HE.out).2
        rw [hll] at n2
        have d40 : (((atN s.data.toList (i + 1)).toNat : Int) == 40) = true := eqb_yes (b := 40) rfl (by rw [atN_in h1]; exact hc)
        have k3 : (i : Int) ≤ (i : Int) + 2 := by omega
        have k4 : (i : Int) + 2 ≤ (s.size : Int) := by omega
        have k5 : i ≤ i + 2 := by omega
        clear hc
        go_wp2_with fail
        refine (rat_any s _ (i + 1) _ (by go_num)).mono ?_
        rintro e w' ⟨rfl, rfl⟩
        go_wp2_with fail
        rw [str_cut s i (i + 2)]
        refine (rput_any w.heap.size _ acc 7 i _ _ (Lx.cut s.data.toList i (i + 2)) _ HO.out HB.out.size hacc rfl rfl).mono ?_
        rintro e w7 ⟨v7, rfl, ho7, hb7⟩
        have HO7 := Hd ho7
        have HB7 := Hd (HB.out.trans hb7)
        clear ho7 hb7
        go_wp2
        go_roundw
        case rel => exact ⟨i + 2, by first | rfl | go_num, acc ++ [(7, _, i)], f, n2, by omega, by simp; omega, HO7.out, HB7.out, HLX.out⟩
        case measure => simp [intOf]; omega
       ·have hc40 := hc
        clear hc
        by_cases hc : s[i + 1]'h1 = 91
        ·have HE : Hid (Lx.stepF s.data.toList i = Lx.tok 7 (Lx.cut s.data.toList i (i + 2)) (i + 2)) := Hd (by rw [HSY.out]; exact symF_open (get_in h1) (.inr hc))
         have HLX := Hd ((lexF_tok (f := f) (acc := acc) hil HE.out (by decide)).symm.trans HL.out)
         have n1 := (fine_of hil HE.out).1
         have n2 := (fine_of hil HE.out).2
         rw [hll] at n2
         have d40 : (((atN s.data.toList (i + 1)).toNat : Int) == 40) = false := eqb_no (b := 40) rfl (by rw [atN_in h1, hc]; decide)
         have d91 : (((atN s.data.toList (i + 1)).toNat : Int) == 91) = true := eqb_yes (b := 91) rfl (by rw [atN_in h1]; exact hc)
         have k3 : (i : Int) ≤ (i : Int) + 2 := by omega
         have k4 : (i : Int) + 2 ≤ (s.size : Int) := by omega
         have k5 : i ≤ i + 2 := by omega
         clear hc
         go_wp2_with fail
         refine (rat_any s _ (i + 1) _ (by go_num)).mono ?_
         rintro e w' ⟨rfl, rfl⟩
         go_wp2_with fail
         refine (rat_any s _ (i + 1) _ (by go_num)).mono ?_
         rintro e w' ⟨rfl, rfl⟩
         go_wp2_with fail
         rw [str_cut s i (i + 2)]
         refine (rput_any w.heap.size _ acc 7 i _ _ (Lx.cut s.data.toList i (i + 2)) _ HO.out HB.out.size hacc rfl rfl).mono ?_
         rintro e w7 ⟨v7, rfl, ho7, hb7⟩
         have HO7 := Hd ho7
         have HB7 := Hd (HB.out.trans hb7)
         clear ho7 hb7
         go_wp2
         go_roundw
         case rel => exact ⟨i + 2, by first | rfl | go_num, acc ++ [(7, _, i)], f, n2, by omega, by simp; omega, HO7.out, HB7.out, HLX.out⟩
         case measure => simp [intOf]; omega
        ·have ha40 : ¬ atN s.data.toList (i + 1) = 40 := by rw [atN_in h1]; exact hc40
         have ha91 : ¬ atN s.data.toList (i + 1) = 91 := by rw [atN_in h1]; exact hc
         have hno : ∀ h1 : i + 1 < s.size, ¬ (s[i + 1]'h1 = 40 ∨ s[i + 1]'h1 = 91) := fun _ h => h.elim hc40 hc
         clear hc hc40
         have d40 : (((atN s.data.toList (i + 1)).toNat : Int) == 40) = false := eqb_no (b := 40) rfl ha40
         have d91 : (((atN s.data.toList (i + 1)).toNat : Int) == 91) = false := eqb_no (b := 91) rfl ha91
         have HSM := Hd (rsymbol_any s i wr hs' hi hno)
         have hforms := sym_forms (l := s.data.toList) (i := i) (fun b hb => by
          by_cases h1 : i + 1 < s.size
          ·rw [get_in h1] at hb; cases hb; exact hno h1
          ·rw [get_out h1] at hb; cases hb)
         clear ha40 ha91 hno
         go_wp2_with fail
         refine (rat_any s _ (i + 1) _ (by go_num)).mono ?_
         rintro e w' ⟨rfl, rfl⟩
         go_wp2_with fail
         refine (rat_any s _ (i + 1) _ (by go_num)).mono ?_
         rintro e w' ⟨rfl, rfl⟩
         go_wp2_with fail
         refine HSM.out.mono ?_
         rintro e w3 ⟨rfl, hb3⟩
         have HB3 := Hd (bnext HB.out hb3)
         have HO3 : Hid (OwnT w3 w.heap.size (.slice A acc.length c) acc) := Hd (World.ownsRow.kept HO.out (only_of_below hb3 none) (by cases (Value.slice A acc.length c).ownBlock <;> simp))
         clear hb3 HSM
         rcases hforms with ⟨t, n, hf⟩ | hf | hf
         ·have HE : Hid (Lx.stepF s.data.toList i = Lx.tok 6 t n) := Hd (by rw [HSY.out]; exact hf)
          have HV := Hd (symV_tok hf)
          have HLX := Hd ((lexF_tok (f := f) (acc := acc) hil HE.out (by decide)).symm.trans HL.out)
          have n1 := (fine_of hil HE.out).1
          have n2 := (fine_of hil HE.out).2
          rw [hll] at n2
          clear hf
          rw [HV.out]
          go_wp2_with fail
          refine (rput_any w.heap.size _ acc 6 i _ _ t _ HO3.out HB3.out.size hacc rfl rfl).mono ?_
          rintro e w7 ⟨v7, rfl, ho7, hb7⟩
          have HO7 := Hd ho7
          have HB7 := Hd (HB3.out.trans hb7)
          clear ho7 hb7
          go_wp2
          go_roundw
          case rel => exact ⟨n, by first | rfl | go_num, acc ++ [(6, _, i)], f, n2, by omega, by simp; omega, HO7.out, HB7.out, HLX.out⟩
          case measure => simp [intOf]; omega
         ·have HE : Hid (Lx.stepF s.data.toList i = Lx.bad (i + 1) 121) := Hd (by rw [HSY.out]; exact hf)
          have HV := Hd (symV_bad hf (by decide))
          have HER := Hd ((lexF_err (f := f) (acc := acc) hil HE.out (by decide)).symm.trans HL.out)
          clear hf
          rw [HV.out]
          go_wp2
          go_ret3
          exact LexP.bad_ (p := i + 1) (e := 121) (by rw [HT.out]; exact HER.out.symm) HB3.out
         ·have HE : Hid (Lx.stepF s.data.toList i = Lx.bad i 120) := Hd (by rw [HSY.out]; exact hf)
          have HV := Hd (symV_bad hf (by decide))
          have HER := Hd ((lexF_err (f := f) (acc := acc) hil HE.out (by decide)).symm.trans HL.out)
          clear hf
          rw [HV.out]
          go_wp2
          go_ret3
          exact LexP.bad_ (p := i) (e := 120) (by rw [HT.out]; exact HER.out.symm) HB3.out
      ·have ha40 : ¬ atN s.data.toList (i + 1) = 40 := by rw [atN_out h1]; decide
       have ha91 : ¬ atN s.data.toList (i + 1) = 91 := by rw [atN_out h1]; decide
       have hno : ∀ h1 : i + 1 < s.size, ¬ (s[i + 1]'h1 = 40 ∨ s[i + 1]'h1 = 91) := fun h => absurd h h1
       have d40 : (((atN s.data.toList (i + 1)).toNat : Int) == 40) = false := eqb_no (b := 40) rfl ha40
       have d91 : (((atN s.data.toList (i + 1)).toNat : Int) == 91) = false := eqb_no (b := 91) rfl ha91
       have HSM := Hd (rsymbol_any s i wr hs' hi hno)
       have hforms := sym_forms (l := s.data.toList) (i := i) (fun b hb => by
        by_cases h1 : i + 1 < s.size
        ·rw [get_in h1] at hb; cases hb; exact hno h1
        ·rw [get_out h1] at hb; cases hb)
       clear ha40 ha91 hno
       go_wp2_with fail
       refine (rat_any s _ (i + 1) _ (by go_num)).mono ?_
       rintro e w' ⟨rfl, rfl⟩
       go_wp2_with fail
       refine (rat_any s _ (i + 1) _ (by go_num)).mono ?_
       rintro e w' ⟨rfl, rfl⟩
       go_wp2_with fail
       refine HSM.out.mono ?_
       rintro e w3 ⟨rfl, hb3⟩
       have HB3 := Hd (bnext HB.out hb3)
       have HO3 : Hid (OwnT w3 w.heap.size (.slice A acc.length c) acc) := Hd (World.ownsRow.kept HO.out (only_of_below hb3 none) (by cases (Value.slice A acc.length c).ownBlock <;> simp))
       clear hb3 HSM
       rcases hforms with ⟨t, n, hf⟩ | hf | hf
       ·have HE : Hid (Lx.stepF s.data.toList i = Lx.tok 6 t n) := Hd (by rw [HSY.out]; exact hf)
        have HV := Hd (symV_tok hf)
        have HLX := Hd ((lexF_tok (f := f) (acc := acc) hil HE.out (by decide)).symm.trans HL.out)
        have n1 := (fine_of hil HE.out).1
        have n2 := (fine_of hil HE.out).2
        rw [hll] at n2
        clear hf
        rw [HV.out]
        go_wp2_with fail
        refine (rput_any w.heap.size _ acc 6 i _ _ t _ HO3.out HB3.out.size hacc rfl rfl).mono ?_
        rintro e w7 ⟨v7, rfl, ho7, hb7⟩
        have HO7 := Hd ho7
        have HB7 := Hd (HB3.out.trans hb7)
        clear ho7 hb7
        go_wp2
        go_roundw
        case rel => exact ⟨n, by first | rfl | go_num, acc ++ [(6, _, i)], f, n2, by omega, by simp; omega, HO7.out, HB7.out, HLX.out⟩
        case measure => simp [intOf]; omega
       ·have HE : Hid (Lx.stepF s.data.toList i = Lx.bad (i + 1) 121) := Hd (by rw [HSY.out]; exact hf)
        have HV := Hd (symV_bad hf (by decide))
        have HER := Hd ((lexF_err (f := f) (acc := acc) hil HE.out (by decide)).symm.trans HL.out)
        clear hf
        rw [HV.out]
        go_wp2
        go_ret3
        exact LexP.bad_ (p := i + 1) (e := 121) (by rw [HT.out]; exact HER.out.symm) HB3.out
       ·have HE : Hid (Lx.stepF s.data.toList i = Lx.bad i 120) := Hd (by rw [HSY.out]; exact hf)
        have HV := Hd (symV_bad hf (by decide))
        have HER := Hd ((lexF_err (f := f) (acc := acc) hil HE.out (by decide)).symm.trans HL.out)
        clear hf
        rw [HV.out]
        go_wp2
        go_ret3
        exact LexP.bad_ (p := i) (e := 120) (by rw [HT.out]; exact HER.out.symm) HB3.out
    by_cases hcl : Lx.cls (s[i]'hi) = 5
    ·by_cases hb : s[i]'hi = 58
     ·cases hq : Lx.isAt s.data.toList (i + 1) 61 with
      | true =>
       as_aux_lemma =>
        have HE0 : Hid (Lx.stepF s.data.toList i = Lx.tok 7 (Lx.cut s.data.toList i (i + 2)) (i + 2)) := Hd (stepF_ass (by rw [get_in hi, hb]) hq)
        have hi2 : i + 1 < s.size := by
         rcases Nat.lt_or_ge (i + 1) s.size with h | h
         ·exact h
         ·rw [isAt_out (by omega)] at hq; cases hq
        have hcut : Lx.cut s.data.toList i (i + 2) = [58, 61] := by
         have e2 : s[i + 1]'hi2 = 61 := by rw [isAt_in hi2] at hq; simpa using hq
         rw [cut_cons (by omega) (get_in hi), cut_cons (by omega) (get_in hi2), cut_nil, hb, e2]
        have HE : Hid (Lx.stepF s.data.toList i = Lx.tok 7 [58, 61] (i + 2)) := Hd (by rw [← hcut]; exact HE0.out)
        have d61 : (((atN s.data.toList (i + 1)).toNat : Int) == 61) = true := eqb_yes (b := 61) rfl (atN_yes hq)
        have HBL : Hid (hasB (⟨#[9, 10, 12, 13, 32]⟩ : ByteArray).data.toList (s[i]'hi) = false) := Hd (by rw [hasBl, hcl]; rfl)
        have HLT : Hid (Lx.letB (s[i]'hi) = false) := Hd (by unfold Lx.letB; rw [hcl]; rfl)
        have HDG : Hid (Lx.digB (s[i]'hi) = false) := Hd (by unfold Lx.digB; rw [hcl]; rfl)
        have HBN : Hid (Lx.binB (s[i]'hi) = false) := Hd (by unfold Lx.binB; rw [hcl]; rfl)
        have HMK : Hid (hasB (⟨#[40, 41, 91, 93, 123, 125, 46, 59, 94, 58, 124]⟩ : ByteArray).data.toList (s[i]'hi) = true) := Hd (by rw [hasMk, hcl]; rfl)
        have e34 : (((s[i]'hi).toNat : Int) == 34) = false := eqb_no (b := 34) rfl (by intro h; rw [h] at hcl; revert hcl; decide)
        have e39 : (((s[i]'hi).toNat : Int) == 39) = false := eqb_no (b := 39) rfl (by intro h; rw [h] at hcl; revert hcl; decide)
        have e35 : (((s[i]'hi).toNat : Int) == 35) = false := eqb_no (b := 35) rfl (by intro h; rw [h] at hcl; revert hcl; decide)
        have e58 : (((s[i]'hi).toNat : Int) == 58) = true := eqb_yes (b := 58) rfl (by exact hb)
        have HLX := Hd ((lexF_tok (f := f) (acc := acc) hil HE.out (by decide)).symm.trans HL.out)
        have n1 := (fine_of hil HE.out).1
        have n2 := (fine_of hil HE.out).2
        rw [hll] at n2
        clear hcl hb hq hcut HE0
        go_wp2_with fail
        refine (rin_any ⟨#[9, 10, 12, 13, 32]⟩ (s[i]'hi) _ (by decide)).mono ?_
        rintro e w' ⟨rfl, rfl⟩
        rw [HBL.out]
        go_wp2_with fail
        refine (rletter_any (s[i]'hi) _).mono ?_
        rintro e w' ⟨rfl, rfl⟩
        rw [HLT.out]
        go_wp2_with fail
        refine (rdigit_any (s[i]'hi) _).mono ?_
        rintro e w' ⟨rfl, rfl⟩
        rw [HDG.out]
        go_wp2_with fail
        refine (rbinary_any (s[i]'hi) _).mono ?_
        rintro e w' ⟨rfl, rfl⟩
        rw [HBN.out]
        go_wp2_with fail
        refine (rat_any s _ (i + 1) _ (by go_num)).mono ?_
        rintro e w' ⟨rfl, rfl⟩
        go_wp2_with fail
        refine (rput_any w.heap.size _ acc 7 i _ _ [58, 61] _ HO.out HB.out.size hacc rfl rfl).mono ?_
        rintro e w7 ⟨v7, rfl, ho7, hb7⟩
        have HO7 := Hd ho7
        have HB7 := Hd (HB.out.trans hb7)
        clear ho7 hb7
        go_wp2
        go_roundw
        case rel => exact ⟨i + 2, by first | rfl | go_num, acc ++ [(7, _, i)], f, n2, by omega, by simp; omega, HO7.out, HB7.out, HLX.out⟩
        case measure => simp [intOf]; omega
      | false =>
       as_aux_lemma =>
        have HE := Hd (stepF_mark (get_in hi) hcl (fun h => by rw [h.2] at hq; cases hq))
        have d61 : (((atN s.data.toList (i + 1)).toNat : Int) == 61) = false := eqb_no (b := 61) rfl (atN_no hq (by decide))
        have HBL : Hid (hasB (⟨#[9, 10, 12, 13, 32]⟩ : ByteArray).data.toList (s[i]'hi) = false) := Hd (by rw [hasBl, hcl]; rfl)
        have HLT : Hid (Lx.letB (s[i]'hi) = false) := Hd (by unfold Lx.letB; rw [hcl]; rfl)
        have HDG : Hid (Lx.digB (s[i]'hi) = false) := Hd (by unfold Lx.digB; rw [hcl]; rfl)
        have HBN : Hid (Lx.binB (s[i]'hi) = false) := Hd (by unfold Lx.binB; rw [hcl]; rfl)
        have HMK : Hid (hasB (⟨#[40, 41, 91, 93, 123, 125, 46, 59, 94, 58, 124]⟩ : ByteArray).data.toList (s[i]'hi) = true) := Hd (by rw [hasMk, hcl]; rfl)
        have e34 : (((s[i]'hi).toNat : Int) == 34) = false := eqb_no (b := 34) rfl (by intro h; rw [h] at hcl; revert hcl; decide)
        have e39 : (((s[i]'hi).toNat : Int) == 39) = false := eqb_no (b := 39) rfl (by intro h; rw [h] at hcl; revert hcl; decide)
        have e35 : (((s[i]'hi).toNat : Int) == 35) = false := eqb_no (b := 35) rfl (by intro h; rw [h] at hcl; revert hcl; decide)
        have e58 : (((s[i]'hi).toNat : Int) == 58) = true := eqb_yes (b := 58) rfl (by exact hb)
        have HLX := Hd ((lexF_tok (f := f) (acc := acc) hil HE.out (by decide)).symm.trans HL.out)
        have n1 := (fine_of hil HE.out).1
        have n2 := (fine_of hil HE.out).2
        rw [hll] at n2
        have k3 : (i : Int) ≤ (i : Int) + 1 := by omega
        have k4 : (i : Int) + 1 ≤ (s.size : Int) := by omega
        have k5 : i ≤ i + 1 := by omega
        clear hcl hb hq
        go_wp2_with fail
        refine (rin_any ⟨#[9, 10, 12, 13, 32]⟩ (s[i]'hi) _ (by decide)).mono ?_
        rintro e w' ⟨rfl, rfl⟩
        rw [HBL.out]
        go_wp2_with fail
        refine (rletter_any (s[i]'hi) _).mono ?_
        rintro e w' ⟨rfl, rfl⟩
        rw [HLT.out]
        go_wp2_with fail
        refine (rdigit_any (s[i]'hi) _).mono ?_
        rintro e w' ⟨rfl, rfl⟩
        rw [HDG.out]
        go_wp2_with fail
        refine (rbinary_any (s[i]'hi) _).mono ?_
        rintro e w' ⟨rfl, rfl⟩
        rw [HBN.out]
        go_wp2_with fail
        refine (rat_any s _ (i + 1) _ (by go_num)).mono ?_
        rintro e w' ⟨rfl, rfl⟩
        go_wp2_with fail
        refine (rin_any ⟨#[40, 41, 91, 93, 123, 125, 46, 59, 94, 58, 124]⟩ (s[i]'hi) _ (by decide)).mono ?_
        rintro e w' ⟨rfl, rfl⟩
        rw [HMK.out]
        go_wp2_with fail
        rw [str_cut s i (i + 1)]
        refine (rput_any w.heap.size _ acc 7 i _ _ (Lx.cut s.data.toList i (i + 1)) _ HO.out HB.out.size hacc rfl rfl).mono ?_
        rintro e w7 ⟨v7, rfl, ho7, hb7⟩
        have HO7 := Hd ho7
        have HB7 := Hd (HB.out.trans hb7)
        clear ho7 hb7
        go_wp2
        go_roundw
        case rel => exact ⟨i + 1, by first | rfl | go_num, acc ++ [(7, _, i)], f, n2, by omega, by simp; omega, HO7.out, HB7.out, HLX.out⟩
        case measure => simp [intOf]; omega
     ·as_aux_lemma =>
       have HE := Hd (stepF_mark (get_in hi) hcl (fun h => hb h.1))
       have HBL : Hid (hasB (⟨#[9, 10, 12, 13, 32]⟩ : ByteArray).data.toList (s[i]'hi) = false) := Hd (by rw [hasBl, hcl]; rfl)
       have HLT : Hid (Lx.letB (s[i]'hi) = false) := Hd (by unfold Lx.letB; rw [hcl]; rfl)
       have HDG : Hid (Lx.digB (s[i]'hi) = false) := Hd (by unfold Lx.digB; rw [hcl]; rfl)
       have HBN : Hid (Lx.binB (s[i]'hi) = false) := Hd (by unfold Lx.binB; rw [hcl]; rfl)
       have HMK : Hid (hasB (⟨#[40, 41, 91, 93, 123, 125, 46, 59, 94, 58, 124]⟩ : ByteArray).data.toList (s[i]'hi) = true) := Hd (by rw [hasMk, hcl]; rfl)
       have e34 : (((s[i]'hi).toNat : Int) == 34) = false := eqb_no (b := 34) rfl (by intro h; rw [h] at hcl; revert hcl; decide)
       have e39 : (((s[i]'hi).toNat : Int) == 39) = false := eqb_no (b := 39) rfl (by intro h; rw [h] at hcl; revert hcl; decide)
       have e35 : (((s[i]'hi).toNat : Int) == 35) = false := eqb_no (b := 35) rfl (by intro h; rw [h] at hcl; revert hcl; decide)
       have e58 : (((s[i]'hi).toNat : Int) == 58) = false := eqb_no (b := 58) rfl (by exact hb)
       have HLX := Hd ((lexF_tok (f := f) (acc := acc) hil HE.out (by decide)).symm.trans HL.out)
       have n1 := (fine_of hil HE.out).1
       have n2 := (fine_of hil HE.out).2
       rw [hll] at n2
       have k3 : (i : Int) ≤ (i : Int) + 1 := by omega
       have k4 : (i : Int) + 1 ≤ (s.size : Int) := by omega
       have k5 : i ≤ i + 1 := by omega
       clear hcl hb
       go_wp2_with fail
       refine (rin_any ⟨#[9, 10, 12, 13, 32]⟩ (s[i]'hi) _ (by decide)).mono ?_
       rintro e w' ⟨rfl, rfl⟩
       rw [HBL.out]
       go_wp2_with fail
       refine (rletter_any (s[i]'hi) _).mono ?_
       rintro e w' ⟨rfl, rfl⟩
       rw [HLT.out]
       go_wp2_with fail
       refine (rdigit_any (s[i]'hi) _).mono ?_
       rintro e w' ⟨rfl, rfl⟩
       rw [HDG.out]
       go_wp2_with fail
       refine (rbinary_any (s[i]'hi) _).mono ?_
       rintro e w' ⟨rfl, rfl⟩
       rw [HBN.out]
       go_wp2_with fail
       refine (rin_any ⟨#[40, 41, 91, 93, 123, 125, 46, 59, 94, 58, 124]⟩ (s[i]'hi) _ (by decide)).mono ?_
       rintro e w' ⟨rfl, rfl⟩
       rw [HMK.out]
       go_wp2_with fail
       rw [str_cut s i (i + 1)]
       refine (rput_any w.heap.size _ acc 7 i _ _ (Lx.cut s.data.toList i (i + 1)) _ HO.out HB.out.size hacc rfl rfl).mono ?_
       rintro e w7 ⟨v7, rfl, ho7, hb7⟩
       have HO7 := Hd ho7
       have HB7 := Hd (HB.out.trans hb7)
       clear ho7 hb7
       go_wp2
       go_roundw
       case rel => exact ⟨i + 1, by first | rfl | go_num, acc ++ [(7, _, i)], f, n2, by omega, by simp; omega, HO7.out, HB7.out, HLX.out⟩
       case measure => simp [intOf]; omega
    ·as_aux_lemma =>
      have h34 : ¬ s[i]'hi = 34 := by assumption
      have h39 : ¬ s[i]'hi = 39 := by assumption
      have h35 : ¬ s[i]'hi = 35 := by assumption
      have hcl : Lx.cls (s[i]'hi) = 0 := by have := cls_le (s[i]'hi); omega
      have HE := Hd (stepF_else (get_in hi) hcl h34 h39 h35)
      have HER := Hd ((lexF_err (f := f) (acc := acc) hil HE.out (by decide)).symm.trans HL.out)
      have HBL : Hid (hasB (⟨#[9, 10, 12, 13, 32]⟩ : ByteArray).data.toList (s[i]'hi) = false) := Hd (by rw [hasBl, hcl]; rfl)
      have HLT : Hid (Lx.letB (s[i]'hi) = false) := Hd (by unfold Lx.letB; rw [hcl]; rfl)
      have HDG : Hid (Lx.digB (s[i]'hi) = false) := Hd (by unfold Lx.digB; rw [hcl]; rfl)
      have HBN : Hid (Lx.binB (s[i]'hi) = false) := Hd (by unfold Lx.binB; rw [hcl]; rfl)
      have HMK : Hid (hasB (⟨#[40, 41, 91, 93, 123, 125, 46, 59, 94, 58, 124]⟩ : ByteArray).data.toList (s[i]'hi) = false) := Hd (by rw [hasMk, hcl]; rfl)
      have e34 : (((s[i]'hi).toNat : Int) == 34) = false := eqb_no (b := 34) rfl (by exact h34)
      have e39 : (((s[i]'hi).toNat : Int) == 39) = false := eqb_no (b := 39) rfl (by exact h39)
      have e35 : (((s[i]'hi).toNat : Int) == 35) = false := eqb_no (b := 35) rfl (by exact h35)
      have e58 : (((s[i]'hi).toNat : Int) == 58) = false := eqb_no (b := 58) rfl (by intro h; rw [h] at hcl; revert hcl; decide)
      clear hcl h34 h39 h35
      go_wp2_with fail
      refine (rin_any ⟨#[9, 10, 12, 13, 32]⟩ (s[i]'hi) _ (by decide)).mono ?_
      rintro e w' ⟨rfl, rfl⟩
      rw [HBL.out]
      go_wp2_with fail
      refine (rletter_any (s[i]'hi) _).mono ?_
      rintro e w' ⟨rfl, rfl⟩
      rw [HLT.out]
      go_wp2_with fail
      refine (rdigit_any (s[i]'hi) _).mono ?_
      rintro e w' ⟨rfl, rfl⟩
      rw [HDG.out]
      go_wp2_with fail
      refine (rbinary_any (s[i]'hi) _).mono ?_
      rintro e w' ⟨rfl, rfl⟩
      rw [HBN.out]
      go_wp2_with fail
      refine (rin_any ⟨#[40, 41, 91, 93, 123, 125, 46, 59, 94, 58, 124]⟩ (s[i]'hi) _ (by decide)).mono ?_
      rintro e w' ⟨rfl, rfl⟩
      rw [HMK.out]
      go_wp2
      go_ret3
      exact LexP.bad_ (p := i) (e := 120) (by rw [HT.out]; exact HER.out.symm) HB.out
   ·have HE := Hd ((Lx.lexF_end (l := s.data.toList) (f := f0) (i := i) (acc := acc) (by simp; omega)).symm.trans HL0.out)
    go_wp2
    go_ret3
    rw [HT.out, ← HE.out]
    exact ⟨HB.out, _, rfl, HO.out⟩
end Go.Proofs.YtjhonaglmgmpiaaGreatDoor
