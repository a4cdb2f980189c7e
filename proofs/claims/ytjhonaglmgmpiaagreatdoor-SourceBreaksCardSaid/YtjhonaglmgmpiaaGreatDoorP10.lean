/-
  Parts LexG, LexH, LexI of the proof. No statement of the seat is proved here.
-/
import Derived.Test.YtjhonaglmgmpiaaGreatDoorP08
import Derived.Test.YtjhonaglmgmpiaaGreatDoorP04
import Derived.Deep.LoopGhost
set_option maxHeartbeats 4000000
namespace Go.Proofs.YtjhonaglmgmpiaaGreatDoor
open Go.RowKit
theorem LxS.setAt {w : World} {base g : Nat} {s : ByteArray} {at_ en : Int} {v : Value} {l : List Lx.Tk} (h : LxS w base g s at_ v l) : LxS (w.setCell ⟨g, 1, none⟩ (.int .i64 en)) base g s en v l ∧ Below base w (w.setCell ⟨g, 1, none⟩ (.int .i64 en)) := by
 refine ⟨⟨h.1.set_ 1 (.int .i64 en), ?_, h.2.2⟩, (Below.refl _ _).setCell h.2.2 _⟩
 exact World.ownsRow.kept h.2.1 (only_setCell (p := ⟨g, 1, none⟩) (World.grownBy.refl w (some g)) (.inl rfl) _) (.inr (own_blk_ne h.2.1 h.1 (by decide)))
theorem TokP.skip_ {base g : Nat} {s : ByteArray} {l : List Lx.Tk} {at_ : Nat} {w w' : World} {st : Lx.Stp} {n : Nat} {t : List UInt8} (hst : st = Lx.tok 0 t n) (hb : Below base w w')
  (h : ∃ v', LxS w' base g s (n : Int) v' l) : TokP base g s l at_ st w (.returned (.tuple #[.int .i64 0, .int .i64 0])) w' := by
 subst hst
 exact ⟨hb, .inl ⟨rfl, rfl, h⟩⟩
theorem TokP.from {base g : Nat} {s : ByteArray} {l : List Lx.Tk} {at_ : Nat} {w w1 w' : World} {st st' : Lx.Stp} {e : Ending} (h : TokP base g s l at_ st w1 e w') (he : st' = st) (hb : Below base w w1) : TokP base g s l at_ st' w e w' := by
 subst he
 exact ⟨hb.trans h.1, h.2⟩
section
variable {l : List UInt8} {i : Nat} {b : UInt8}
theorem stepF_blank (h : l[i]? = some b) (hc : Lx.cls b = 1) : Lx.stepF l i = Lx.tok 0 [] (i + 1) := by unfold Lx.stepF; rw [h]; simp only [if_pos hc]
theorem stepF_key (h : l[i]? = some b) (hc : Lx.cls b = 2) (hq : (Lx.isAt l (Lx.runF Lx.ldB l i) 58 && !Lx.isAt l (Lx.runF Lx.ldB l i + 1) 61) = true) :
  Lx.stepF l i = Lx.tok 2 (Lx.cut l i (Lx.runF Lx.ldB l i + 1)) (Lx.runF Lx.ldB l i + 1) := by
 unfold Lx.stepF; rw [h]; simp only [if_neg (show ¬ Lx.cls b = 1 by omega), if_pos hc, hq, if_true]
theorem stepF_name (h : l[i]? = some b) (hc : Lx.cls b = 2) (hq : (Lx.isAt l (Lx.runF Lx.ldB l i) 58 && !Lx.isAt l (Lx.runF Lx.ldB l i + 1) 61) = false) :
  Lx.stepF l i = Lx.tok 1 (Lx.cut l i (Lx.runF Lx.ldB l i)) (Lx.runF Lx.ldB l i) := by
 unfold Lx.stepF; rw [h]; simp only [if_neg (show ¬ Lx.cls b = 1 by omega), if_pos hc, hq]; rfl
theorem stepF_num (h : l[i]? = some b) (hc : Lx.cls b = 3) : Lx.stepF l i = Lx.numS l i := by
 unfold Lx.stepF Lx.numS; rw [h]; simp only [if_neg (show ¬ Lx.cls b = 1 by omega), if_neg (show ¬ Lx.cls b = 2 by omega), if_pos hc]; rfl
theorem stepF_bin (h : l[i]? = some b) (hc : Lx.cls b = 4) : Lx.stepF l i = Lx.tok 3 (Lx.cut l i (Lx.binF l (i + 1))) (Lx.binF l (i + 1)) := by
 unfold Lx.stepF; rw [h]; simp only [if_neg (show ¬ Lx.cls b = 1 by omega), if_neg (show ¬ Lx.cls b = 2 by omega), if_neg (show ¬ Lx.cls b = 3 by omega), if_pos hc]
theorem stepF_ass (h : l[i]? = some 58) (hq : Lx.isAt l (i + 1) 61 = true) : Lx.stepF l i = Lx.tok 7 (Lx.cut l i (i + 2)) (i + 2) := by
 unfold Lx.stepF; rw [h]; simp [show Lx.cls 58 = 5 by decide, hq]
theorem stepF_mark (h : l[i]? = some b) (hc : Lx.cls b = 5) (hq : ¬ (b = 58 ∧ Lx.isAt l (i + 1) 61 = true)) : Lx.stepF l i = Lx.tok 7 (Lx.cut l i (i + 1)) (i + 1) := by
 unfold Lx.stepF; rw [h]; simp only [if_neg (show ¬ Lx.cls b = 1 by omega), if_neg (show ¬ Lx.cls b = 2 by omega), if_neg (show ¬ Lx.cls b = 3 by omega), if_neg (show ¬ Lx.cls b = 4 by omega), if_pos hc, if_neg hq]
theorem stepF_com (h : l[i]? = some 34) (hq : Lx.runF (fun x => x != 34) l (i + 1) < l.length) : Lx.stepF l i = Lx.tok 0 [] (Lx.runF (fun x => x != 34) l (i + 1) + 1) := by
 unfold Lx.stepF; rw [h]; simp only [show Lx.cls 34 = 0 by decide]; simp [hq]
theorem stepF_com0 (h : l[i]? = some 34) (hq : ¬ Lx.runF (fun x => x != 34) l (i + 1) < l.length) : Lx.stepF l i = Lx.bad i 122 := by
 unfold Lx.stepF; rw [h]; simp only [show Lx.cls 34 = 0 by decide]; simp [hq]
theorem stepF_str0 (h : l[i]? = some 39) (hq : Lx.qF l i = none) : Lx.stepF l i = Lx.bad i 121 := by
 unfold Lx.stepF; rw [h, hq]; simp [show Lx.cls 39 = 0 by decide]
theorem stepF_str1 (h : l[i]? = some 39) {r : List UInt8 × Nat} (hq : Lx.qF l i = some r) : Lx.stepF l i = Lx.tok 5 r.1 r.2 := by
 unfold Lx.stepF; rw [h, hq]; simp [show Lx.cls 39 = 0 by decide]
theorem stepF_sym (h : l[i]? = some 35) : Lx.stepF l i = Lx.symF l i := by
 unfold Lx.stepF; rw [h]; simp [show Lx.cls 35 = 0 by decide]
theorem stepF_else (h : l[i]? = some b) (hc : Lx.cls b = 0) (h34 : ¬ b = 34) (h39 : ¬ b = 39) (h35 : ¬ b = 35) : Lx.stepF l i = Lx.bad i 120 := by
 unfold Lx.stepF; rw [h]; simp [hc, h34, h39, h35]
end
set_option maxRecDepth 20000 in
theorem ltok_blank (base g : Nat) (s : ByteArray) (i : Nat) (v : Value) (l : List Lx.Tk) (w : World) (h : LxS w base g s (i : Int) v l) (hb0 : base ≤ w.heap.size) (hs : s.size ≤ 65536) (hi : i < s.size) (hcl : Lx.cls (s[i]'hi) = 1) :
  Calls Tryz.prog 54 #[.pointer (some ⟨g, 0, none⟩)] w (TokP base g s l i (Lx.stepF s.data.toList i) w) := by
 have HS := Hd h
 have hcell0 : w.cell? ⟨g, 0, none⟩ = some (.string s) := h.1.cell 0
 have hcell1 : w.cell? ⟨g, 1, none⟩ = some (.int .i64 (i : Int)) := h.1.cell 1
 clear h
 have d1 : ((clsAt s.data.toList i : Int) == 1) = true := by rw [clsAt_in hi, hcl]; rfl
 have HE := Hd (stepF_blank (get_in hi) hcl)
 clear hcl
 go_enter Tryz.func54, Tryz.ntmps54
 go_wp2
 go_quiet (fail)
 have HS1 := Hd (HS.out.drewN nq)
 have HB1 : Hid (Below base w (w.drewN nq)) := Hd (below_drewN (Below.refl _ _) nq)
 generalize w.drewN nq = w1 at HS1 HB1 ⊢
 clear hcell0 hcell1
 have hcell1 : w1.cell? ⟨g, 1, none⟩ = some (.int .i64 (i : Int)) := HS1.out.1.cell 1
 go_wp2_with fail
 refine (lclass_any g s _ i _ HS1.out.lxr rfl).mono ?_
 rintro e w2 ⟨rfl, hb2, hc2⟩
 have HS2 := Hd (HS1.out.below hb2)
 have HB2 := Hd (bnextB HB1.out hb2 hb0)
 have hcat2 : w2.cell? ⟨g, 1, none⟩ = some (.int .i64 (i : Int)) := HS2.out.1.cell 1
 have hfat2 : w2.frozen? ⟨g, 1, none⟩ = false := HS2.out.1.frozen 1
 clear hb2 hcell1
 have HN := Hd (HS2.out.setAt (en := ((i + 1 : Nat) : Int)))
 rw [show ((i + 1 : Nat) : Int) = (i : Int) + 1 from by omega] at HN
 go_wp2
 go_ret2
 exact TokP.skip_ HE.out (HB2.out.trans HN.out.2) ⟨v, by rw [show ((i + 1 : Nat) : Int) = (i : Int) + 1 from by omega]; exact HN.out.1⟩
set_option maxRecDepth 20000 in
theorem ltok_num (base g : Nat) (s : ByteArray) (i : Nat) (v : Value) (l : List Lx.Tk) (w : World) (h : LxS w base g s (i : Int) v l) (hb0 : base ≤ w.heap.size) (hl : l.length ≤ 65536) (hs : s.size ≤ 65536) (hi : i < s.size) (hcl : Lx.cls (s[i]'hi) = 3) :
  Calls Tryz.prog 54 #[.pointer (some ⟨g, 0, none⟩)] w (TokP base g s l i (Lx.stepF s.data.toList i) w) := by
 have HS := Hd h
 have hcell0 : w.cell? ⟨g, 0, none⟩ = some (.string s) := h.1.cell 0
 have hcell1 : w.cell? ⟨g, 1, none⟩ = some (.int .i64 (i : Int)) := h.1.cell 1
 clear h
 have d1 : ((clsAt s.data.toList i : Int) == 1) = false := natInt (by rw [clsAt_in hi, hcl]; omega)
 have d2 : ((clsAt s.data.toList i : Int) == 2) = false := natInt (by rw [clsAt_in hi, hcl]; omega)
 have d3 : ((clsAt s.data.toList i : Int) == 3) = true := by rw [clsAt_in hi, hcl]; rfl
 have HE := Hd (stepF_num (get_in hi) hcl)
 clear hcl
 go_enter Tryz.func54, Tryz.ntmps54
 go_wp2
 go_quiet (fail)
 have HS1 := Hd (HS.out.drewN nq)
 have HB1 : Hid (Below base w (w.drewN nq)) := Hd (below_drewN (Below.refl _ _) nq)
 generalize w.drewN nq = w1 at HS1 HB1 ⊢
 clear hcell0 hcell1
 have hcell1 : w1.cell? ⟨g, 1, none⟩ = some (.int .i64 (i : Int)) := HS1.out.1.cell 1
 go_wp2_with fail
 refine (lclass_any g s _ i _ HS1.out.lxr rfl).mono ?_
 rintro e w2 ⟨rfl, hb2, hc2⟩
 have HS2 := Hd (HS1.out.below hb2)
 have HB2 := Hd (bnextB HB1.out hb2 hb0)
 have hcat2 : w2.cell? ⟨g, 1, none⟩ = some (.int .i64 (i : Int)) := HS2.out.1.cell 1
 have hfat2 : w2.frozen? ⟨g, 1, none⟩ = false := HS2.out.1.frozen 1
 clear hb2 hcell1
 go_wp2_with fail
 refine (lnumber_any base g s i v l _ HS2.out (Nat.le_trans hb0 HB2.out.size) hl hs hi).mono ?_
 rintro e w3 hP
 have HP := Hd hP
 rcases hP with ⟨_, ⟨_, rfl, _⟩ | ⟨_, rfl⟩⟩
 all_goals
  go_wp2
  go_ret2
  exact TokP.from HP.out HE.out HB2.out
set_option maxRecDepth 20000 in
theorem ltok_key (base g : Nat) (s : ByteArray) (i : Nat) (v : Value) (l : List Lx.Tk) (w : World) (h : LxS w base g s (i : Int) v l) (hb0 : base ≤ w.heap.size) (hl : l.length ≤ 65536) (hs : s.size ≤ 65536) (hi : i < s.size) (hcl : Lx.cls (s[i]'hi) = 2) (hq : (Lx.isAt s.data.toList (Lx.runF Lx.ldB s.data.toList i) 58 && !Lx.isAt s.data.toList (Lx.runF Lx.ldB s.data.toList i + 1) 61) = true) :
  Calls Tryz.prog 54 #[.pointer (some ⟨g, 0, none⟩)] w (TokP base g s l i (Lx.stepF s.data.toList i) w) := by
 have HS := Hd h
 have hcell0 : w.cell? ⟨g, 0, none⟩ = some (.string s) := h.1.cell 0
 have hcell1 : w.cell? ⟨g, 1, none⟩ = some (.int .i64 (i : Int)) := h.1.cell 1
 clear h
 have d1 : ((clsAt s.data.toList i : Int) == 1) = false := natInt (by rw [clsAt_in hi, hcl]; omega)
 have d2 : ((clsAt s.data.toList i : Int) == 2) = true := by rw [clsAt_in hi, hcl]; rfl
 have HE := Hd (stepF_key (get_in hi) hcl hq)
 have HQ := Hd hq
 clear hcl hq
 go_enter Tryz.func54, Tryz.ntmps54
 go_wp2
 go_quiet (fail)
 have HS1 := Hd (HS.out.drewN nq)
 have HB1 : Hid (Below base w (w.drewN nq)) := Hd (below_drewN (Below.refl _ _) nq)
 generalize w.drewN nq = w1 at HS1 HB1 ⊢
 clear hcell0 hcell1
 have hcell1 : w1.cell? ⟨g, 1, none⟩ = some (.int .i64 (i : Int)) := HS1.out.1.cell 1
 go_wp2_with fail
 refine (lclass_any g s _ i _ HS1.out.lxr rfl).mono ?_
 rintro e w2 ⟨rfl, hb2, hc2⟩
 have HS2 := Hd (HS1.out.below hb2)
 have HB2 := Hd (bnextB HB1.out hb2 hb0)
 have hcat2 : w2.cell? ⟨g, 1, none⟩ = some (.int .i64 (i : Int)) := HS2.out.1.cell 1
 have hfat2 : w2.frozen? ⟨g, 1, none⟩ = false := HS2.out.1.frozen 1
 clear hb2 hcell1
 have HR := Hd (lrun_ld g s i w2 HS2.out.lxr hs (Nat.le_of_lt hi))
 go_wp2_with fail
 refine HR.out.mono ?_
 rintro e w3 ⟨rfl, hb3⟩
 have HS3 := Hd (HS2.out.below hb3)
 have HB3 := Hd (bnextB HB2.out hb3 hb0)
 clear hb3 HR
 have HK1 := Lx.runF_ge Lx.ldB s.data.toList i
 have HK2 : Lx.runF Lx.ldB s.data.toList i ≤ s.size := by have := Lx.runF_le Lx.ldB s.data.toList i (by simp; omega); simpa using this
 generalize Lx.runF Lx.ldB s.data.toList i = k at *
 have HA : Lx.isAt s.data.toList k 58 = true := by have := HQ.out; simp only [Bool.and_eq_true] at this; exact this.1
 have HA2 : Lx.isAt s.data.toList (k + 1) 61 = false := by have := HQ.out; simp only [Bool.and_eq_true, Bool.not_eq_true'] at this; exact this.2
 have HKS : k < s.size := by
  rcases Nat.lt_or_ge k s.size with h | h
  ·exact h
  ·rw [isAt_out (by omega)] at HA; cases HA
 have hx0 : w3.cell? ⟨g, 0, none⟩ = some (.string s) := HS3.out.1.cell 0
 have hcell3 : w3.cell? ⟨g, 1, none⟩ = some (.int .i64 (i : Int)) := HS3.out.1.cell 1
 have HS3d := Hd HS3.out.drew
 have HB3d := Hd HB3.out.drew
 go_wp2_with fail
 refine (lis_any g s _ k 58 _ _ HS3.out.lxr rfl rfl).mono ?_
 rintro e w' ⟨rfl, rfl⟩
 rw [HA]
 go_wp2_with fail
 refine (lis_any g s _ (k + 1) 61 _ _ HS3.out.lxr (by go_num) rfl).mono ?_
 rintro e w' ⟨rfl, rfl⟩
 rw [HA2]
 have k3 : (i : Int) ≤ (k : Int) + 1 := by omega
 have k4 : (k : Int) + 1 ≤ (s.size : Int) := by omega
 have k6 : IntKind.i64.wrap ((k : Int) + 1) = (k : Int) + 1 := IntWalk.i64_in _ (by omega)
 go_upto_region 9 with fail
 go_still_tail 14, (by kernel_rfl)
 change wpList _ _ _ _ _ w3.drew
 go_wp2_with fail
 rw [str_cut s i (k + 1), show ((k : Int) + 1) = ((k + 1 : Nat) : Int) from by omega]
 refine (lput_any base g s i v l 2 (Lx.cut s.data.toList i (k + 1)) _ _ HS3d.out (Nat.le_trans hb0 HB3d.out.size) hl).mono ?_
 rintro e w7 ⟨rfl, hb7, hs7⟩
 have HB7 := Hd hb7
 have HS7 := Hd hs7
 clear hb7 hs7
 go_wp2
 go_ret2
 exact TokP.tok_ HE.out (by decide) (HB3d.out.trans HB7.out) HS7.out
set_option maxRecDepth 20000 in
theorem ltok_name (base g : Nat) (s : ByteArray) (i : Nat) (v : Value) (l : List Lx.Tk) (w : World) (h : LxS w base g s (i : Int) v l) (hb0 : base ≤ w.heap.size) (hl : l.length ≤ 65536) (hs : s.size ≤ 65536) (hi : i < s.size) (hcl : Lx.cls (s[i]'hi) = 2) (hq : (Lx.isAt s.data.toList (Lx.runF Lx.ldB s.data.toList i) 58 && !Lx.isAt s.data.toList (Lx.runF Lx.ldB s.data.toList i + 1) 61) = false) :
  Calls Tryz.prog 54 #[.pointer (some ⟨g, 0, none⟩)] w (TokP base g s l i (Lx.stepF s.data.toList i) w) := by
 have HS := Hd h
 have hcell0 : w.cell? ⟨g, 0, none⟩ = some (.string s) := h.1.cell 0
 have hcell1 : w.cell? ⟨g, 1, none⟩ = some (.int .i64 (i : Int)) := h.1.cell 1
 clear h
 have d1 : ((clsAt s.data.toList i : Int) == 1) = false := natInt (by rw [clsAt_in hi, hcl]; omega)
 have d2 : ((clsAt s.data.toList i : Int) == 2) = true := by rw [clsAt_in hi, hcl]; rfl
 have HE := Hd (stepF_name (get_in hi) hcl hq)
 have HQ := Hd hq
 clear hcl hq
 go_enter Tryz.func54, Tryz.ntmps54
 go_wp2
 go_quiet (fail)
 have HS1 := Hd (HS.out.drewN nq)
 have HB1 : Hid (Below base w (w.drewN nq)) := Hd (below_drewN (Below.refl _ _) nq)
 generalize w.drewN nq = w1 at HS1 HB1 ⊢
 clear hcell0 hcell1
 have hcell1 : w1.cell? ⟨g, 1, none⟩ = some (.int .i64 (i : Int)) := HS1.out.1.cell 1
 go_wp2_with fail
 refine (lclass_any g s _ i _ HS1.out.lxr rfl).mono ?_
 rintro e w2 ⟨rfl, hb2, hc2⟩
 have HS2 := Hd (HS1.out.below hb2)
 have HB2 := Hd (bnextB HB1.out hb2 hb0)
 have hcat2 : w2.cell? ⟨g, 1, none⟩ = some (.int .i64 (i : Int)) := HS2.out.1.cell 1
 have hfat2 : w2.frozen? ⟨g, 1, none⟩ = false := HS2.out.1.frozen 1
 clear hb2 hcell1
 have HR := Hd (lrun_ld g s i w2 HS2.out.lxr hs (Nat.le_of_lt hi))
 go_wp2_with fail
 refine HR.out.mono ?_
 rintro e w3 ⟨rfl, hb3⟩
 have HS3 := Hd (HS2.out.below hb3)
 have HB3 := Hd (bnextB HB2.out hb3 hb0)
 clear hb3 HR
 have HK1 := Lx.runF_ge Lx.ldB s.data.toList i
 have HK2 : Lx.runF Lx.ldB s.data.toList i ≤ s.size := by have := Lx.runF_le Lx.ldB s.data.toList i (by simp; omega); simpa using this
 generalize Lx.runF Lx.ldB s.data.toList i = k at *
 have hx0 : w3.cell? ⟨g, 0, none⟩ = some (.string s) := HS3.out.1.cell 0
 have hcell3 : w3.cell? ⟨g, 1, none⟩ = some (.int .i64 (i : Int)) := HS3.out.1.cell 1
 have HS3d := Hd HS3.out.drew
 have HB3d := Hd HB3.out.drew
 go_wp2_with fail
 refine (lis_any g s _ k 58 _ _ HS3.out.lxr rfl rfl).mono ?_
 rintro e w' ⟨rfl, rfl⟩
 cases hA : Lx.isAt s.data.toList k 58 with
 | false =>
  have k3 : (i : Int) ≤ (k : Int) := by omega
  have k4 : (k : Int) ≤ (s.size : Int) := by omega
  go_upto_region 10 with fail
  go_still_tail 12, (by kernel_rfl)
  change wpList _ _ _ _ _ w3.drew
  go_wp2_with fail
  rw [str_cut s i k]
  refine (lput_any base g s i v l 1 (Lx.cut s.data.toList i k) _ _ HS3d.out (Nat.le_trans hb0 HB3d.out.size) hl).mono ?_
  rintro e w7 ⟨rfl, hb7, hs7⟩
  have HB7 := Hd hb7
  have HS7 := Hd hs7
  clear hb7 hs7
  go_wp2
  go_ret2
  exact TokP.tok_ HE.out (by decide) (HB3d.out.trans HB7.out) HS7.out
 | true =>
  have HA2 : Lx.isAt s.data.toList (k + 1) 61 = true := by have := HQ.out; rw [hA] at this; simpa using this
  go_wp2_with fail
  refine (lis_any g s _ (k + 1) 61 _ _ HS3.out.lxr (by go_num) rfl).mono ?_
  rintro e w' ⟨rfl, rfl⟩
  rw [HA2]
  have k3 : (i : Int) ≤ (k : Int) := by omega
  have k4 : (k : Int) ≤ (s.size : Int) := by omega
  go_upto_region 10 with fail
  go_still_tail 12, (by kernel_rfl)
  change wpList _ _ _ _ _ w3.drew
  go_wp2_with fail
  rw [str_cut s i k]
  refine (lput_any base g s i v l 1 (Lx.cut s.data.toList i k) _ _ HS3d.out (Nat.le_trans hb0 HB3d.out.size) hl).mono ?_
  rintro e w7 ⟨rfl, hb7, hs7⟩
  have HB7 := Hd hb7
  have HS7 := Hd hs7
  clear hb7 hs7
  go_wp2
  go_ret2
  exact TokP.tok_ HE.out (by decide) (HB3d.out.trans HB7.out) HS7.out
set_option maxRecDepth 20000 in
theorem ltok_bin (base g : Nat) (s : ByteArray) (i : Nat) (v : Value) (l : List Lx.Tk) (w : World) (h : LxS w base g s (i : Int) v l) (hb0 : base ≤ w.heap.size) (hl : l.length ≤ 65536) (hs : s.size ≤ 65536) (hi : i < s.size) (hcl : Lx.cls (s[i]'hi) = 4) :
  Calls Tryz.prog 54 #[.pointer (some ⟨g, 0, none⟩)] w (TokP base g s l i (Lx.stepF s.data.toList i) w) := by
 have HS := Hd h
 have hcell0 : w.cell? ⟨g, 0, none⟩ = some (.string s) := h.1.cell 0
 have hcell1 : w.cell? ⟨g, 1, none⟩ = some (.int .i64 (i : Int)) := h.1.cell 1
 clear h
 have d1 : ((clsAt s.data.toList i : Int) == 1) = false := natInt (by rw [clsAt_in hi, hcl]; omega)
 have d2 : ((clsAt s.data.toList i : Int) == 2) = false := natInt (by rw [clsAt_in hi, hcl]; omega)
 have d3 : ((clsAt s.data.toList i : Int) == 3) = false := natInt (by rw [clsAt_in hi, hcl]; omega)
 have d4 : ((clsAt s.data.toList i : Int) == 4) = true := by rw [clsAt_in hi, hcl]; rfl
 have HE := Hd (stepF_bin (get_in hi) hcl)
 clear hcl
 go_enter Tryz.func54, Tryz.ntmps54
 go_wp2
 go_quiet (fail)
 have HS1 := Hd (HS.out.drewN nq)
 have HB1 : Hid (Below base w (w.drewN nq)) := Hd (below_drewN (Below.refl _ _) nq)
 generalize w.drewN nq = w1 at HS1 HB1 ⊢
 clear hcell0 hcell1
 have hcell1 : w1.cell? ⟨g, 1, none⟩ = some (.int .i64 (i : Int)) := HS1.out.1.cell 1
 go_wp2_with fail
 refine (lclass_any g s _ i _ HS1.out.lxr rfl).mono ?_
 rintro e w2 ⟨rfl, hb2, hc2⟩
 have HS2 := Hd (HS1.out.below hb2)
 have HB2 := Hd (bnextB HB1.out hb2 hb0)
 have hcat2 : w2.cell? ⟨g, 1, none⟩ = some (.int .i64 (i : Int)) := HS2.out.1.cell 1
 have hfat2 : w2.frozen? ⟨g, 1, none⟩ = false := HS2.out.1.frozen 1
 clear hb2 hcell1
 go_wp2_with fail
 refine (lbinary_any g s _ i _ HS2.out.lxr hs rfl hi).mono ?_
 rintro e w3 ⟨rfl, hb3⟩
 have HS3 := Hd (HS2.out.below hb3)
 have HB3 := Hd (bnextB HB2.out hb3 hb0)
 clear hb3
 have HK1 := Lx.binF_ge s.data.toList (i + 1)
 have HK2 : Lx.binF s.data.toList (i + 1) ≤ s.size := by have := Lx.binF_le s.data.toList (i + 1) (by simp; omega); simpa using this
 generalize Lx.binF s.data.toList (i + 1) = k at *
 have hx0 : w3.cell? ⟨g, 0, none⟩ = some (.string s) := HS3.out.1.cell 0
 have hcell3 : w3.cell? ⟨g, 1, none⟩ = some (.int .i64 (i : Int)) := HS3.out.1.cell 1
 have HS3d := Hd HS3.out.drew
 have HB3d := Hd HB3.out.drew
 have k3 : (i : Int) ≤ (k : Int) := by omega
 have k4 : (k : Int) ≤ (s.size : Int) := by omega
 go_upto_region 16 with fail
 go_still_tail 12, (by kernel_rfl)
 change wpList _ _ _ _ _ w3.drew
 go_wp2_with fail
 rw [str_cut s i k]
 refine (lput_any base g s i v l 3 (Lx.cut s.data.toList i k) _ _ HS3d.out (Nat.le_trans hb0 HB3d.out.size) hl).mono ?_
 rintro e w7 ⟨rfl, hb7, hs7⟩
 have HB7 := Hd hb7
 have HS7 := Hd hs7
 clear hb7 hs7
 go_wp2
 go_ret2
 exact TokP.tok_ HE.out (by decide) (HB3d.out.trans HB7.out) HS7.out
set_option maxRecDepth 20000 in
theorem ltok_ass (base g : Nat) (s : ByteArray) (i : Nat) (v : Value) (l : List Lx.Tk) (w : World) (h : LxS w base g s (i : Int) v l) (hb0 : base ≤ w.heap.size) (hl : l.length ≤ 65536) (hs : s.size ≤ 65536) (hi : i < s.size) (hb : s[i]'hi = 58) (hq : Lx.isAt s.data.toList (i + 1) 61 = true) :
  Calls Tryz.prog 54 #[.pointer (some ⟨g, 0, none⟩)] w (TokP base g s l i (Lx.stepF s.data.toList i) w) := by
 have HS := Hd h
 have hcell0 : w.cell? ⟨g, 0, none⟩ = some (.string s) := h.1.cell 0
 have hcell1 : w.cell? ⟨g, 1, none⟩ = some (.int .i64 (i : Int)) := h.1.cell 1
 clear h
 have HE := Hd (stepF_ass (l := s.data.toList) (i := i) (by rw [get_in hi, hb]) hq)
 have hcl : Lx.cls (s[i]'hi) = 5 := by rw [hb]; decide
 have d1 : ((clsAt s.data.toList i : Int) == 1) = false := natInt (by rw [clsAt_in hi, hcl]; omega)
 have d2 : ((clsAt s.data.toList i : Int) == 2) = false := natInt (by rw [clsAt_in hi, hcl]; omega)
 have d3 : ((clsAt s.data.toList i : Int) == 3) = false := natInt (by rw [clsAt_in hi, hcl]; omega)
 have d4 : ((clsAt s.data.toList i : Int) == 4) = false := natInt (by rw [clsAt_in hi, hcl]; omega)
 have d5 : ((clsAt s.data.toList i : Int) == 5) = true := by rw [clsAt_in hi, hcl]; rfl
 have e58 : (((s[i]'hi).toNat : Int) == 58) = true := eqb_yes (b := 58) rfl hb
 have hi2 : i + 1 < s.size := by
  rcases Nat.lt_or_ge (i + 1) s.size with h | h
  ·exact h
  ·rw [isAt_out (by omega)] at hq; cases hq
 clear hcl hb
 go_enter Tryz.func54, Tryz.ntmps54
 go_wp2
 go_quiet (fail)
 have HS1 := Hd (HS.out.drewN nq)
 have HB1 : Hid (Below base w (w.drewN nq)) := Hd (below_drewN (Below.refl _ _) nq)
 generalize w.drewN nq = w1 at HS1 HB1 ⊢
 clear hcell0 hcell1
 have hcell1 : w1.cell? ⟨g, 1, none⟩ = some (.int .i64 (i : Int)) := HS1.out.1.cell 1
 go_wp2_with fail
 refine (lclass_any g s _ i _ HS1.out.lxr rfl).mono ?_
 rintro e w2 ⟨rfl, hb2, hc2⟩
 have HS2 := Hd (HS1.out.below hb2)
 have HB2 := Hd (bnextB HB1.out hb2 hb0)
 have hcat2 : w2.cell? ⟨g, 1, none⟩ = some (.int .i64 (i : Int)) := HS2.out.1.cell 1
 have hfat2 : w2.frozen? ⟨g, 1, none⟩ = false := HS2.out.1.frozen 1
 clear hb2 hcell1
 have hx0 : w2.cell? ⟨g, 0, none⟩ = some (.string s) := HS2.out.1.cell 0
 have HS2d := Hd HS2.out.drew
 have HB2d := Hd HB2.out.drew
 go_wp2_with fail
 refine (lis_any g s _ (i + 1) 61 _ _ HS2.out.lxr (by go_num) rfl).mono ?_
 rintro e w' ⟨rfl, rfl⟩
 rw [hq]
 have k2 : (i : Int) ≤ (i : Int) + 1 + 1 := by omega
 have k3 : (i : Int) + 1 + 1 ≤ (s.size : Int) := by omega
 go_upto_region 22 with fail
 go_still_tail 12, (by kernel_rfl)
 change wpList _ _ _ _ _ w2.drew
 go_wp2_with fail
 rw [str_cut s i (i + 1 + 1), show ((i : Int) + 1 + 1) = ((i + 2 : Nat) : Int) from by omega]
 refine (lput_any base g s i v l 7 (Lx.cut s.data.toList i (i + 1 + 1)) _ _ HS2d.out (Nat.le_trans hb0 HB2d.out.size) hl).mono ?_
 rintro e w7 ⟨rfl, hb7, hs7⟩
 have HB7 := Hd hb7
 have HS7 := Hd hs7
 clear hb7 hs7
 go_wp2
 go_ret2
 exact TokP.tok_ HE.out (by decide) (HB2d.out.trans HB7.out) HS7.out
set_option maxRecDepth 20000 in
theorem ltok_no58 (base g : Nat) (s : ByteArray) (i : Nat) (v : Value) (l : List Lx.Tk) (w : World) (h : LxS w base g s (i : Int) v l) (hb0 : base ≤ w.heap.size) (hl : l.length ≤ 65536) (hs : s.size ≤ 65536) (hi : i < s.size) (hcl : Lx.cls (s[i]'hi) = 5) (hb : ¬ s[i]'hi = 58) :
  Calls Tryz.prog 54 #[.pointer (some ⟨g, 0, none⟩)] w (TokP base g s l i (Lx.stepF s.data.toList i) w) := by
 have HS := Hd h
 have hcell0 : w.cell? ⟨g, 0, none⟩ = some (.string s) := h.1.cell 0
 have hcell1 : w.cell? ⟨g, 1, none⟩ = some (.int .i64 (i : Int)) := h.1.cell 1
 clear h
 have HE := Hd (stepF_mark (get_in hi) hcl (fun h => hb h.1))
 have d1 : ((clsAt s.data.toList i : Int) == 1) = false := natInt (by rw [clsAt_in hi, hcl]; omega)
 have d2 : ((clsAt s.data.toList i : Int) == 2) = false := natInt (by rw [clsAt_in hi, hcl]; omega)
 have d3 : ((clsAt s.data.toList i : Int) == 3) = false := natInt (by rw [clsAt_in hi, hcl]; omega)
 have d4 : ((clsAt s.data.toList i : Int) == 4) = false := natInt (by rw [clsAt_in hi, hcl]; omega)
 have d5 : ((clsAt s.data.toList i : Int) == 5) = true := by rw [clsAt_in hi, hcl]; rfl
 have e58 : (((s[i]'hi).toNat : Int) == 58) = false := eqb_no (b := 58) rfl hb
 clear hcl hb
 go_enter Tryz.func54, Tryz.ntmps54
 go_wp2
 go_quiet (fail)
 have HS1 := Hd (HS.out.drewN nq)
 have HB1 : Hid (Below base w (w.drewN nq)) := Hd (below_drewN (Below.refl _ _) nq)
 generalize w.drewN nq = w1 at HS1 HB1 ⊢
 clear hcell0 hcell1
 have hcell1 : w1.cell? ⟨g, 1, none⟩ = some (.int .i64 (i : Int)) := HS1.out.1.cell 1
 go_wp2_with fail
 refine (lclass_any g s _ i _ HS1.out.lxr rfl).mono ?_
 rintro e w2 ⟨rfl, hb2, hc2⟩
 have HS2 := Hd (HS1.out.below hb2)
 have HB2 := Hd (bnextB HB1.out hb2 hb0)
 have hcat2 : w2.cell? ⟨g, 1, none⟩ = some (.int .i64 (i : Int)) := HS2.out.1.cell 1
 have hfat2 : w2.frozen? ⟨g, 1, none⟩ = false := HS2.out.1.frozen 1
 clear hb2 hcell1
 have hx0 : w2.cell? ⟨g, 0, none⟩ = some (.string s) := HS2.out.1.cell 0
 have HS2d := Hd HS2.out.drew
 have HB2d := Hd HB2.out.drew
 have k2 : (i : Int) ≤ (i : Int) + 1 := by omega
 have k3 : (i : Int) + 1 ≤ (s.size : Int) := by omega
 go_upto_region 22 with fail
 go_still_tail 12, (by kernel_rfl)
 change wpList _ _ _ _ _ w2.drew
 go_wp2_with fail
 rw [str_cut s i (i + 1), show ((i : Int) + 1) = ((i + 1 : Nat) : Int) from by omega]
 refine (lput_any base g s i v l 7 (Lx.cut s.data.toList i (i + 1)) _ _ HS2d.out (Nat.le_trans hb0 HB2d.out.size) hl).mono ?_
 rintro e w7 ⟨rfl, hb7, hs7⟩
 have HB7 := Hd hb7
 have HS7 := Hd hs7
 clear hb7 hs7
 go_wp2
 go_ret2
 exact TokP.tok_ HE.out (by decide) (HB2d.out.trans HB7.out) HS7.out
set_option maxRecDepth 20000 in
theorem ltok_noeq (base g : Nat) (s : ByteArray) (i : Nat) (v : Value) (l : List Lx.Tk) (w : World) (h : LxS w base g s (i : Int) v l) (hb0 : base ≤ w.heap.size) (hl : l.length ≤ 65536) (hs : s.size ≤ 65536) (hi : i < s.size) (hcl : Lx.cls (s[i]'hi) = 5) (hb : s[i]'hi = 58) (hq : Lx.isAt s.data.toList (i + 1) 61 = false) :
  Calls Tryz.prog 54 #[.pointer (some ⟨g, 0, none⟩)] w (TokP base g s l i (Lx.stepF s.data.toList i) w) := by
 have HS := Hd h
 have hcell0 : w.cell? ⟨g, 0, none⟩ = some (.string s) := h.1.cell 0
 have hcell1 : w.cell? ⟨g, 1, none⟩ = some (.int .i64 (i : Int)) := h.1.cell 1
 clear h
 have HE := Hd (stepF_mark (get_in hi) hcl (fun h => by rw [h.2] at hq; cases hq))
 have d1 : ((clsAt s.data.toList i : Int) == 1) = false := natInt (by rw [clsAt_in hi, hcl]; omega)
 have d2 : ((clsAt s.data.toList i : Int) == 2) = false := natInt (by rw [clsAt_in hi, hcl]; omega)
 have d3 : ((clsAt s.data.toList i : Int) == 3) = false := natInt (by rw [clsAt_in hi, hcl]; omega)
 have d4 : ((clsAt s.data.toList i : Int) == 4) = false := natInt (by rw [clsAt_in hi, hcl]; omega)
 have d5 : ((clsAt s.data.toList i : Int) == 5) = true := by rw [clsAt_in hi, hcl]; rfl
 have e58 : (((s[i]'hi).toNat : Int) == 58) = true := eqb_yes (b := 58) rfl hb
 clear hcl hb
 go_enter Tryz.func54, Tryz.ntmps54
 go_wp2
 go_quiet (fail)
 have HS1 := Hd (HS.out.drewN nq)
 have HB1 : Hid (Below base w (w.drewN nq)) := Hd (below_drewN (Below.refl _ _) nq)
 generalize w.drewN nq = w1 at HS1 HB1 ⊢
 clear hcell0 hcell1
 have hcell1 : w1.cell? ⟨g, 1, none⟩ = some (.int .i64 (i : Int)) := HS1.out.1.cell 1
 go_wp2_with fail
 refine (lclass_any g s _ i _ HS1.out.lxr rfl).mono ?_
 rintro e w2 ⟨rfl, hb2, hc2⟩
 have HS2 := Hd (HS1.out.below hb2)
 have HB2 := Hd (bnextB HB1.out hb2 hb0)
 have hcat2 : w2.cell? ⟨g, 1, none⟩ = some (.int .i64 (i : Int)) := HS2.out.1.cell 1
 have hfat2 : w2.frozen? ⟨g, 1, none⟩ = false := HS2.out.1.frozen 1
 clear hb2 hcell1
 have hx0 : w2.cell? ⟨g, 0, none⟩ = some (.string s) := HS2.out.1.cell 0
 have HS2d := Hd HS2.out.drew
 have HB2d := Hd HB2.out.drew
 go_wp2_with fail
 refine (lis_any g s _ (i + 1) 61 _ _ HS2.out.lxr (by go_num) rfl).mono ?_
 rintro e w' ⟨rfl, rfl⟩
 rw [hq]
 have k2 : (i : Int) ≤ (i : Int) + 1 := by omega
 have k3 : (i : Int) + 1 ≤ (s.size : Int) := by omega
 go_upto_region 22 with fail
 go_still_tail 12, (by kernel_rfl)
 change wpList _ _ _ _ _ w2.drew
 go_wp2_with fail
 rw [str_cut s i (i + 1), show ((i : Int) + 1) = ((i + 1 : Nat) : Int) from by omega]
 refine (lput_any base g s i v l 7 (Lx.cut s.data.toList i (i + 1)) _ _ HS2d.out (Nat.le_trans hb0 HB2d.out.size) hl).mono ?_
 rintro e w7 ⟨rfl, hb7, hs7⟩
 have HB7 := Hd hb7
 have HS7 := Hd hs7
 clear hb7 hs7
 go_wp2
 go_ret2
 exact TokP.tok_ HE.out (by decide) (HB2d.out.trans HB7.out) HS7.out
set_option maxRecDepth 20000 in
theorem ltok_com (base g : Nat) (s : ByteArray) (i : Nat) (v : Value) (l : List Lx.Tk) (w : World) (h : LxS w base g s (i : Int) v l) (hb0 : base ≤ w.heap.size) (hs : s.size ≤ 65536) (hi : i < s.size) (hb : s[i]'hi = 34) :
  Calls Tryz.prog 54 #[.pointer (some ⟨g, 0, none⟩)] w (TokP base g s l i (Lx.stepF s.data.toList i) w) := by
 have HS := Hd h
 have hcell0 : w.cell? ⟨g, 0, none⟩ = some (.string s) := h.1.cell 0
 have hcell1 : w.cell? ⟨g, 1, none⟩ = some (.int .i64 (i : Int)) := h.1.cell 1
 clear h
 have HX : Hid (s.data.toList[i]? = some 34) := Hd (by rw [get_in hi, hb])
 have hcl : Lx.cls (s[i]'hi) = 0 := by rw [hb]; decide
 have d0 : ((clsAt s.data.toList i : Int) == 5) = false := natInt (by rw [clsAt_in hi, hcl]; omega)
 have d1 : ((clsAt s.data.toList i : Int) == 1) = false := natInt (by rw [clsAt_in hi, hcl]; omega)
 have d2 : ((clsAt s.data.toList i : Int) == 2) = false := natInt (by rw [clsAt_in hi, hcl]; omega)
 have d3 : ((clsAt s.data.toList i : Int) == 3) = false := natInt (by rw [clsAt_in hi, hcl]; omega)
 have d4 : ((clsAt s.data.toList i : Int) == 4) = false := natInt (by rw [clsAt_in hi, hcl]; omega)
 have d5 : ((clsAt s.data.toList i : Int) == 5) = false := natInt (by rw [clsAt_in hi, hcl]; omega)
 have e34 : (((s[i]'hi).toNat : Int) == 34) = true := eqb_yes (b := 34) rfl hb
 clear hcl hb
 go_enter Tryz.func54, Tryz.ntmps54
 go_wp2
 go_quiet (fail)
 have HS1 := Hd (HS.out.drewN nq)
 have HB1 : Hid (Below base w (w.drewN nq)) := Hd (below_drewN (Below.refl _ _) nq)
 generalize w.drewN nq = w1 at HS1 HB1 ⊢
 clear hcell0 hcell1
 have hcell1 : w1.cell? ⟨g, 1, none⟩ = some (.int .i64 (i : Int)) := HS1.out.1.cell 1
 go_wp2_with fail
 refine (lclass_any g s _ i _ HS1.out.lxr rfl).mono ?_
 rintro e w2 ⟨rfl, hb2, hc2⟩
 have HS2 := Hd (HS1.out.below hb2)
 have HB2 := Hd (bnextB HB1.out hb2 hb0)
 have hcat2 : w2.cell? ⟨g, 1, none⟩ = some (.int .i64 (i : Int)) := HS2.out.1.cell 1
 have hfat2 : w2.frozen? ⟨g, 1, none⟩ = false := HS2.out.1.frozen 1
 clear hb2 hcell1
 have hx0 : w2.cell? ⟨g, 0, none⟩ = some (.string s) := HS2.out.1.cell 0
 go_wp2
 go_loop [8] (fun e => ∃ k : Nat, k ≤ s.size ∧ e = .int .i64 k ∧ Lx.runF (fun x => x != 34) s.data.toList k = Lx.runF (fun x => x != 34) s.data.toList (i + 1)) (fun e => s.size - (intOf e).toNat)
 case atStart => exact ⟨i + 1, hi, by go_num, rfl⟩
 case round =>
  obtain ⟨k, hk, rfl, hrun⟩ := hrel
  have HRUN := Hd hrun
  clear hrun
  by_cases hkl : k < s.size
  ·have HK := Hd (get_in hkl)
   by_cases hq : s[k]'hkl = 34
   ·have e34k : (((s[k]'hkl).toNat : Int) == 34) = true := eqb_yes (b := 34) rfl hq
    have HST := Hd ((Lx.runF_stop (p := fun x => x != 34) HK.out (by simp [hq])).symm.trans HRUN.out)
    have HE := Hd (stepF_com HX.out (by rw [← HST.out]; simpa using hkl))
    rw [← HST.out] at HE
    have HN := Hd (HS2.out.setAt (en := ((k + 1 : Nat) : Int)))
    rw [show ((k + 1 : Nat) : Int) = (k : Int) + 1 from by omega] at HN
    clear hq
    go_wp2
    go_ret2
    exact TokP.skip_ HE.out (HB2.out.trans HN.out.2) ⟨v, by rw [show ((k + 1 : Nat) : Int) = (k : Int) + 1 from by omega]; exact HN.out.1⟩
   ·have e34k : (((s[k]'hkl).toNat : Int) == 34) = false := eqb_no (b := 34) rfl hq
    have HST := Hd ((Lx.runF_step (p := fun x => x != 34) HK.out (by simpa using hq)).trans HRUN.out)
    clear hq
    go_wp2
    go_round
    case rel => exact ⟨k + 1, hkl, by go_num, HST.out⟩
    case measure => simp [intOf]; omega
  ·have HST := Hd ((Lx.runF_end (p := fun x => x != 34) (l := s.data.toList) (i := k) (by simp; omega)).symm.trans HRUN.out)
   have HE := Hd (stepF_com0 HX.out (by rw [← HST.out]; simpa using hkl))
   go_wp2
   go_ret2
   exact TokP.bad_ (p := i) (er := 122) HE.out (by decide) HB2.out
set_option maxRecDepth 20000 in
theorem ltok_str (base g : Nat) (s : ByteArray) (i : Nat) (v : Value) (l : List Lx.Tk) (w : World) (h : LxS w base g s (i : Int) v l) (hb0 : base ≤ w.heap.size) (hl : l.length ≤ 65536) (hs : s.size ≤ 65536) (hi : i < s.size) (hb : s[i]'hi = 39) :
  Calls Tryz.prog 54 #[.pointer (some ⟨g, 0, none⟩)] w (TokP base g s l i (Lx.stepF s.data.toList i) w) := by
 have HS := Hd h
 have hcell0 : w.cell? ⟨g, 0, none⟩ = some (.string s) := h.1.cell 0
 have hcell1 : w.cell? ⟨g, 1, none⟩ = some (.int .i64 (i : Int)) := h.1.cell 1
 clear h
 have HX : Hid (s.data.toList[i]? = some 39) := Hd (by rw [get_in hi, hb])
 have hcl : Lx.cls (s[i]'hi) = 0 := by rw [hb]; decide
 have d0 : ((clsAt s.data.toList i : Int) == 5) = false := natInt (by rw [clsAt_in hi, hcl]; omega)
 have d1 : ((clsAt s.data.toList i : Int) == 1) = false := natInt (by rw [clsAt_in hi, hcl]; omega)
 have d2 : ((clsAt s.data.toList i : Int) == 2) = false := natInt (by rw [clsAt_in hi, hcl]; omega)
 have d3 : ((clsAt s.data.toList i : Int) == 3) = false := natInt (by rw [clsAt_in hi, hcl]; omega)
 have d4 : ((clsAt s.data.toList i : Int) == 4) = false := natInt (by rw [clsAt_in hi, hcl]; omega)
 have d5 : ((clsAt s.data.toList i : Int) == 5) = false := natInt (by rw [clsAt_in hi, hcl]; omega)
 have e34 : (((s[i]'hi).toNat : Int) == 34) = false := eqb_no (b := 34) rfl (by rw [hb]; decide)
 have e39 : (((s[i]'hi).toNat : Int) == 39) = true := eqb_yes (b := 39) rfl hb
 clear hcl hb
 cases hq : Lx.qF s.data.toList i with
 | none =>
  have HE := Hd (stepF_str0 HX.out hq)
  have HQ := Hd hq
  clear hq
  go_enter Tryz.func54, Tryz.ntmps54
  go_wp2
  go_quiet (fail)
  have HS1 := Hd (HS.out.drewN nq)
  have HB1 : Hid (Below base w (w.drewN nq)) := Hd (below_drewN (Below.refl _ _) nq)
  generalize w.drewN nq = w1 at HS1 HB1 ⊢
  clear hcell0 hcell1
  have hcell1 : w1.cell? ⟨g, 1, none⟩ = some (.int .i64 (i : Int)) := HS1.out.1.cell 1
  go_wp2_with fail
  refine (lclass_any g s _ i _ HS1.out.lxr rfl).mono ?_
  rintro e w2 ⟨rfl, hb2, hc2⟩
  have HS2 := Hd (HS1.out.below hb2)
  have HB2 := Hd (bnextB HB1.out hb2 hb0)
  have hcat2 : w2.cell? ⟨g, 1, none⟩ = some (.int .i64 (i : Int)) := HS2.out.1.cell 1
  have hfat2 : w2.frozen? ⟨g, 1, none⟩ = false := HS2.out.1.frozen 1
  clear hb2 hcell1
  go_wp2_with fail
  refine (lquoted_any g s _ i _ HS2.out.lxr hs rfl hi).mono ?_
  rintro e w3 ⟨rfl, hb3⟩
  rw [HQ.out, quoVn]
  have HB3 := Hd (bnextB HB2.out hb3 hb0)
  have hcell3 : w3.cell? ⟨g, 1, none⟩ = some (.int .i64 (i : Int)) := (HS2.out.below hb3).1.cell 1
  clear hb3
  go_wp2
  go_ret2
  exact TokP.bad_ (p := i) (er := 121) HE.out (by decide) HB3.out
 | some r =>
  obtain ⟨t, n⟩ := r
  have HE := Hd (stepF_str1 HX.out hq)
  have HQ := Hd hq
  clear hq
  go_enter Tryz.func54, Tryz.ntmps54
  go_wp2
  go_quiet (fail)
  have HS1 := Hd (HS.out.drewN nq)
  have HB1 : Hid (Below base w (w.drewN nq)) := Hd (below_drewN (Below.refl _ _) nq)
  generalize w.drewN nq = w1 at HS1 HB1 ⊢
  clear hcell0 hcell1
  have hcell1 : w1.cell? ⟨g, 1, none⟩ = some (.int .i64 (i : Int)) := HS1.out.1.cell 1
  go_wp2_with fail
  refine (lclass_any g s _ i _ HS1.out.lxr rfl).mono ?_
  rintro e w2 ⟨rfl, hb2, hc2⟩
  have HS2 := Hd (HS1.out.below hb2)
  have HB2 := Hd (bnextB HB1.out hb2 hb0)
  have hcat2 : w2.cell? ⟨g, 1, none⟩ = some (.int .i64 (i : Int)) := HS2.out.1.cell 1
  have hfat2 : w2.frozen? ⟨g, 1, none⟩ = false := HS2.out.1.frozen 1
  clear hb2 hcell1
  go_wp2_with fail
  refine (lquoted_any g s _ i _ HS2.out.lxr hs rfl hi).mono ?_
  rintro e w3 ⟨rfl, hb3⟩
  rw [HQ.out, quoVs]
  have HS3 := Hd (HS2.out.below hb3)
  have HB3 := Hd (bnextB HB2.out hb3 hb0)
  clear hb3
  go_wp2_with fail
  refine (lput_any base g s i v l 5 t _ _ HS3.out (Nat.le_trans hb0 HB3.out.size) hl).mono ?_
  rintro e w7 ⟨rfl, hb7, hs7⟩
  have HB7 := Hd hb7
  have HS7 := Hd hs7
  clear hb7 hs7
  go_wp2
  go_ret2
  exact TokP.tok_ HE.out (by decide) (HB3.out.trans HB7.out) HS7.out
set_option maxRecDepth 20000 in
theorem ltok_sym (base g : Nat) (s : ByteArray) (i : Nat) (v : Value) (l : List Lx.Tk) (w : World) (h : LxS w base g s (i : Int) v l) (hb0 : base ≤ w.heap.size) (hl : l.length ≤ 65536) (hs : s.size ≤ 65536) (hi : i < s.size) (hb : s[i]'hi = 35) :
  Calls Tryz.prog 54 #[.pointer (some ⟨g, 0, none⟩)] w (TokP base g s l i (Lx.stepF s.data.toList i) w) := by
 have HS := Hd h
 have hcell0 : w.cell? ⟨g, 0, none⟩ = some (.string s) := h.1.cell 0
 have hcell1 : w.cell? ⟨g, 1, none⟩ = some (.int .i64 (i : Int)) := h.1.cell 1
 clear h
 have HE := Hd (stepF_sym (l := s.data.toList) (i := i) (by rw [get_in hi, hb]))
 have hcl : Lx.cls (s[i]'hi) = 0 := by rw [hb]; decide
 have d0 : ((clsAt s.data.toList i : Int) == 5) = false := natInt (by rw [clsAt_in hi, hcl]; omega)
 have d1 : ((clsAt s.data.toList i : Int) == 1) = false := natInt (by rw [clsAt_in hi, hcl]; omega)
 have d2 : ((clsAt s.data.toList i : Int) == 2) = false := natInt (by rw [clsAt_in hi, hcl]; omega)
 have d3 : ((clsAt s.data.toList i : Int) == 3) = false := natInt (by rw [clsAt_in hi, hcl]; omega)
 have d4 : ((clsAt s.data.toList i : Int) == 4) = false := natInt (by rw [clsAt_in hi, hcl]; omega)
 have d5 : ((clsAt s.data.toList i : Int) == 5) = false := natInt (by rw [clsAt_in hi, hcl]; omega)
 have e34 : (((s[i]'hi).toNat : Int) == 34) = false := eqb_no (b := 34) rfl (by rw [hb]; decide)
 have e39 : (((s[i]'hi).toNat : Int) == 39) = false := eqb_no (b := 39) rfl (by rw [hb]; decide)
 have e35 : (((s[i]'hi).toNat : Int) == 35) = true := eqb_yes (b := 35) rfl hb
 clear hcl hb
 go_enter Tryz.func54, Tryz.ntmps54
 go_wp2
 go_quiet (fail)
 have HS1 := Hd (HS.out.drewN nq)
 have HB1 : Hid (Below base w (w.drewN nq)) := Hd (below_drewN (Below.refl _ _) nq)
 generalize w.drewN nq = w1 at HS1 HB1 ⊢
 clear hcell0 hcell1
 have hcell1 : w1.cell? ⟨g, 1, none⟩ = some (.int .i64 (i : Int)) := HS1.out.1.cell 1
 go_wp2_with fail
 refine (lclass_any g s _ i _ HS1.out.lxr rfl).mono ?_
 rintro e w2 ⟨rfl, hb2, hc2⟩
 have HS2 := Hd (HS1.out.below hb2)
 have HB2 := Hd (bnextB HB1.out hb2 hb0)
 have hcat2 : w2.cell? ⟨g, 1, none⟩ = some (.int .i64 (i : Int)) := HS2.out.1.cell 1
 have hfat2 : w2.frozen? ⟨g, 1, none⟩ = false := HS2.out.1.frozen 1
 clear hb2 hcell1
 go_wp2_with fail
 refine (lsymbol_any base g s i v l _ HS2.out (Nat.le_trans hb0 HB2.out.size) hl hs hi).mono ?_
 rintro e w3 hP
 have HP := Hd hP
 rcases hP with ⟨_, ⟨_, rfl, _⟩ | ⟨_, rfl⟩⟩
 all_goals
  go_wp2
  go_ret2
  exact TokP.from HP.out HE.out HB2.out
set_option maxRecDepth 20000 in
theorem ltok_else (base g : Nat) (s : ByteArray) (i : Nat) (v : Value) (l : List Lx.Tk) (w : World) (h : LxS w base g s (i : Int) v l) (hb0 : base ≤ w.heap.size) (hi : i < s.size) (hcl : Lx.cls (s[i]'hi) = 0) (h34 : ¬ s[i]'hi = 34) (h39 : ¬ s[i]'hi = 39) (h35 : ¬ s[i]'hi = 35) :
  Calls Tryz.prog 54 #[.pointer (some ⟨g, 0, none⟩)] w (TokP base g s l i (Lx.stepF s.data.toList i) w) := by
 have HS := Hd h
 have hcell0 : w.cell? ⟨g, 0, none⟩ = some (.string s) := h.1.cell 0
 have hcell1 : w.cell? ⟨g, 1, none⟩ = some (.int .i64 (i : Int)) := h.1.cell 1
 clear h
 have HE := Hd (stepF_else (get_in hi) hcl h34 h39 h35)
 have d0 : ((clsAt s.data.toList i : Int) == 5) = false := natInt (by rw [clsAt_in hi, hcl]; omega)
 have d1 : ((clsAt s.data.toList i : Int) == 1) = false := natInt (by rw [clsAt_in hi, hcl]; omega)
 have d2 : ((clsAt s.data.toList i : Int) == 2) = false := natInt (by rw [clsAt_in hi, hcl]; omega)
 have d3 : ((clsAt s.data.toList i : Int) == 3) = false := natInt (by rw [clsAt_in hi, hcl]; omega)
 have d4 : ((clsAt s.data.toList i : Int) == 4) = false := natInt (by rw [clsAt_in hi, hcl]; omega)
 have d5 : ((clsAt s.data.toList i : Int) == 5) = false := natInt (by rw [clsAt_in hi, hcl]; omega)
 have e34 : (((s[i]'hi).toNat : Int) == 34) = false := eqb_no (b := 34) rfl h34
 have e39 : (((s[i]'hi).toNat : Int) == 39) = false := eqb_no (b := 39) rfl h39
 have e35 : (((s[i]'hi).toNat : Int) == 35) = false := eqb_no (b := 35) rfl h35
 clear hcl h34 h39 h35
 go_enter Tryz.func54, Tryz.ntmps54
 go_wp2
 go_quiet (fail)
 have HS1 := Hd (HS.out.drewN nq)
 have HB1 : Hid (Below base w (w.drewN nq)) := Hd (below_drewN (Below.refl _ _) nq)
 generalize w.drewN nq = w1 at HS1 HB1 ⊢
 clear hcell0 hcell1
 have hcell1 : w1.cell? ⟨g, 1, none⟩ = some (.int .i64 (i : Int)) := HS1.out.1.cell 1
 go_wp2_with fail
 refine (lclass_any g s _ i _ HS1.out.lxr rfl).mono ?_
 rintro e w2 ⟨rfl, hb2, hc2⟩
 have HS2 := Hd (HS1.out.below hb2)
 have HB2 := Hd (bnextB HB1.out hb2 hb0)
 have hcat2 : w2.cell? ⟨g, 1, none⟩ = some (.int .i64 (i : Int)) := HS2.out.1.cell 1
 have hfat2 : w2.frozen? ⟨g, 1, none⟩ = false := HS2.out.1.frozen 1
 clear hb2 hcell1
 go_wp2
 go_ret2
 exact TokP.bad_ (p := i) (er := 120) HE.out (by decide) HB2.out
set_option maxRecDepth 100000 in
theorem cls_le (x : UInt8) : Lx.cls x ≤ 5 := by
 have := Lx.all_u8 (p := fun x => decide (Lx.cls x ≤ 5)) (by decide) x
 simpa using this
theorem ltoken_any (base g : Nat) (s : ByteArray) (i : Nat) (v : Value) (l : List Lx.Tk) (w : World) (h : LxS w base g s (i : Int) v l) (hb0 : base ≤ w.heap.size) (hl : l.length ≤ 65536) (hs : s.size ≤ 65536) (hi : i < s.size) :
  Calls Tryz.prog 54 #[.pointer (some ⟨g, 0, none⟩)] w (TokP base g s l i (Lx.stepF s.data.toList i) w) := by
 have hle := cls_le (s[i]'hi)
 by_cases c1 : Lx.cls (s[i]'hi) = 1
 ·exact ltok_blank base g s i v l w h hb0 hs hi c1
 by_cases c2 : Lx.cls (s[i]'hi) = 2
 ·cases hq : (Lx.isAt s.data.toList (Lx.runF Lx.ldB s.data.toList i) 58 && !Lx.isAt s.data.toList (Lx.runF Lx.ldB s.data.toList i + 1) 61) with
  | true => exact ltok_key base g s i v l w h hb0 hl hs hi c2 hq
  | false => exact ltok_name base g s i v l w h hb0 hl hs hi c2 hq
 by_cases c3 : Lx.cls (s[i]'hi) = 3
 ·exact ltok_num base g s i v l w h hb0 hl hs hi c3
 by_cases c4 : Lx.cls (s[i]'hi) = 4
 ·exact ltok_bin base g s i v l w h hb0 hl hs hi c4
 by_cases c5 : Lx.cls (s[i]'hi) = 5
 ·by_cases hb : s[i]'hi = 58
  ·cases hq : Lx.isAt s.data.toList (i + 1) 61 with
   | true => exact ltok_ass base g s i v l w h hb0 hl hs hi hb hq
   | false => exact ltok_noeq base g s i v l w h hb0 hl hs hi c5 hb hq
  ·exact ltok_no58 base g s i v l w h hb0 hl hs hi c5 hb
 have c0 : Lx.cls (s[i]'hi) = 0 := by omega
 by_cases b1 : s[i]'hi = 34
 ·exact ltok_com base g s i v l w h hb0 hs hi b1
 by_cases b2 : s[i]'hi = 39
 ·exact ltok_str base g s i v l w h hb0 hl hs hi b2
 by_cases b3 : s[i]'hi = 35
 ·exact ltok_sym base g s i v l w h hb0 hl hs hi b3
 exact ltok_else base g s i v l w h hb0 hi c0 b1 b2 b3
def LexP (r : List Lx.Tk × Nat × Nat) (w : World) (e : Ending) (w' : World) : Prop :=
 Below w.heap.size w w' ∧ ∃ v, e = .returned (.tuple #[v, .int .i64 (r.2.1 : Int), .int .i64 (r.2.2 : Int)]) ∧ OwnT w' w.heap.size v r.1
theorem LexP.bad_ {w w' : World} {p e : Nat} {r : List Lx.Tk × Nat × Nat} (hr : r = ([], p, e)) (hb : Below w.heap.size w w') : LexP r w (.returned (.tuple #[.slice none 0 0, .int .i64 (p : Int), .int .i64 (e : Int)])) w' := by
 subst hr
 exact ⟨hb, _, rfl, World.ownsRow_nil _ _ _ _⟩
set_option maxRecDepth 20000 in
theorem lex_any (s : ByteArray) (w : World) (hm : s.size ≤ 9223372036854775807) : Calls Tryz.prog 14 #[.string s] w (LexP (Lx.lexT s.data.toList) w) := by
 by_cases hs : 65536 < s.size
 ·have HE := Hd (LexP.bad_ (w := w) (w' := w) (show Lx.lexT s.data.toList = ([], 0, 2) by unfold Lx.lexT; rw [if_pos (by simpa using hs)]) (Below.refl _ _))
  go_enter Tryz.func14, Tryz.ntmps14
  go_wp2
  go_ret3
  exact HE.out
 ·have hs' : s.size ≤ 65536 := by omega
  obtain ⟨R, hR⟩ : ∃ R, Lx.lexF s.data.toList s.size 0 [] = R := ⟨_, rfl⟩
  have HT : Hid (Lx.lexT s.data.toList = R) := Hd (by unfold Lx.lexT; rw [if_neg (by simpa using hs)]; simpa using hR)
  have HR := Hd hR
  clear hR hs
  go_enter Tryz.func14, Tryz.ntmps14
  go_wp2
  go_loopg [6] s.size (fun f s6 wr => ∃ (i : Nat) (acc : List Lx.Tk) (v : Value), s.size ≤ i + f ∧ i ≤ s.size ∧ acc.length ≤ i ∧ LxS wr w.heap.size w.heap.size s (i : Int) v acc ∧ Below w.heap.size w wr ∧ Lx.lexF s.data.toList f i acc = R)
  case atStart =>
   refine ⟨0, [], .slice none 0 0, by omega, Nat.zero_le _, Nat.le_refl _, ⟨Blk.new w 99 _, World.ownsRow_nil _ _ _ _, Nat.le_refl _⟩, (Below.refl _ _).alloc (Nat.le_refl _) _, HR.out⟩
  case round =>
   obtain ⟨i, acc, v, hif, his, hai, hS, hB, hlex⟩ := hrel
   have HS := Hd hS
   have HB := Hd hB
   have HL := Hd hlex
   have hc1 : wr.cell? ⟨w.heap.size, 1, none⟩ = some (.int .i64 (i : Int)) := hS.1.cell 1
   have hc2 : wr.cell? ⟨w.heap.size, 2, none⟩ = some v := hS.1.cell 2
   have hg := hS.1.lt
   clear hS hB hlex
   by_cases hlt : i < s.size
   ·obtain ⟨f, rfl⟩ : ∃ f, gk = f + 1 := ⟨gk - 1, by omega⟩
    have hil : i < s.data.toList.length := by simpa using hlt
    have HF := Hd (Lx.stepF_fine hil)
    have HGOOD := Hd fun (h : (Lx.stepF s.data.toList i).err = 0) => (Lx.lexF_good (f := f) (acc := acc) hil h).symm.trans HL.out
    have HBAD := Hd fun (h : ¬ (Lx.stepF s.data.toList i).err = 0) => (Lx.lexF_bad (f := f) (acc := acc) hil h).symm.trans HL.out
    have HACC := Hd fun (h : i < (Lx.stepF s.data.toList i).next) => Lx.acc_len hai h
    clear hil
    go_wp2_with fail
    refine (ltoken_any w.heap.size w.heap.size s i v acc _ HS.out HB.out.size (by omega) hs' hlt).mono ?_
    rintro e w1 ⟨hb1, hcase⟩
    have HB1 := Hd (HB.out.trans hb1)
    clear hb1
    generalize Lx.stepF s.data.toList i = st at *
    rcases hcase with ⟨he, rfl, v', hS'⟩ | ⟨he, rfl⟩
    ·have HS1 := Hd hS'
     have HE := Hd he
     have hnx := HF.out he
     have hac := HACC.out hnx.1
     have n1 := hnx.1
     have n2 := hnx.2
     have n3 : s.data.toList.length = s.size := by simp
     rw [n3] at n2
     have HG := Hd (HGOOD.out he)
     clear he hS' hnx n3
     go_wp2
     go_roundg f
     case measure => omega
     case rel => exact ⟨st.next, _, v', by omega, n2, hac, HS1.out, HB1.out, HG.out⟩
    ·have HE := Hd (HBAD.out he)
     have d : (((st.err : Nat) : Int) != 0) = true := by rw [bne_iff_ne]; omega
     clear he
     go_wp2
     go_ret3
     exact LexP.bad_ (p := st.place) (e := st.err) (by rw [HT.out]; exact HE.out.symm) HB1.out
   ·have HE := Hd ((Lx.lexF_end (l := s.data.toList) (f := gk) (i := i) (acc := acc) (by simp; omega)).symm.trans HL.out)
    go_wp2
    go_ret3
    rw [HT.out]
    rw [← HE.out]
    exact ⟨HB.out, v, rfl, HS.out.2.1⟩
end Go.Proofs.YtjhonaglmgmpiaaGreatDoor
