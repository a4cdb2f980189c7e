/-
  The walk of the lexer's token.
-/
import Derived.Test.YtaigfelpecdajaaLexF
namespace Go.Proofs.Ytaigfelpecdajaa
open Go.RowKit

/-- the lexer goes on at another place -/
theorem LxS.setAt {w : World} {base g : Nat} {s : ByteArray} {at_ en : Int} {v : Value} {l : List Lx.Tk} (h : LxS w base g s at_ v l) : LxS (w.setCell ⟨g, 1, none⟩ (.int .i64 en)) base g s en v l ∧ Below base w (w.setCell ⟨g, 1, none⟩ (.int .i64 en)) := by
  refine ⟨⟨h.1.set_ 1 (.int .i64 en), ?_, h.2.2⟩, (Below.refl _ _).setCell h.2.2 _⟩
  exact World.ownsRow.kept h.2.1 (only_setCell (p := ⟨g, 1, none⟩) (World.grownBy.refl w (some g)) (.inl rfl) _) (.inr (own_blk_ne h.2.1 h.1 (by decide)))
theorem TokP.skip_ {base g : Nat} {s : ByteArray} {l : List Lx.Tk} {at_ : Nat} {w w' : World} {st : Lx.Stp} {n : Nat} {t : List UInt8} (hst : st = Lx.tok 0 t n) (hb : Below base w w')
    (h : ∃ v', LxS w' base g s (n : Int) v' l) : TokP base g s l at_ st w (.returned (.tuple #[.int .i64 0, .int .i64 0])) w' := by
  subst hst
  exact ⟨hb, .inl ⟨rfl, rfl, h⟩⟩
theorem TokP.from {base g : Nat} {s : ByteArray} {l : List Lx.Tk} {at_ : Nat} {w w1 w' : World} {st st' : Lx.Stp} {e : Ending} (h : TokP base g s l at_ st w1 e w') (he : st' = st) (hb : Below base w w1) : TokP base g s l at_ st' w e w' := by
  subst he
  exact ⟨hb.trans h.1, h.2⟩
section
variable {l : List UInt8} {i : Nat} {b : UInt8}
theorem stepF_blank (h : l[i]? = some b) (hc : Lx.cls b = 1) : Lx.stepF l i = Lx.tok 0 [] (i + 1) := by unfold Lx.stepF; rw [h]; simp only [if_pos hc]
theorem stepF_key (h : l[i]? = some b) (hc : Lx.cls b = 2) (hq : (Lx.isAt l (Lx.runF Lx.ldB l i) 58 && !Lx.isAt l (Lx.runF Lx.ldB l i + 1) 61) = true) :
    Lx.stepF l i = Lx.tok 2 (Lx.cut l i (Lx.runF Lx.ldB l i + 1)) (Lx.runF Lx.ldB l i + 1) := by
  unfold Lx.stepF; rw [h]; simp only [if_neg (show ¬ Lx.cls b = 1 by omega), if_pos hc, hq, if_true]
theorem stepF_name (h : l[i]? = some b) (hc : Lx.cls b = 2) (hq : (Lx.isAt l (Lx.runF Lx.ldB l i) 58 && !Lx.isAt l (Lx.runF Lx.ldB l i + 1) 61) = false) :
    Lx.stepF l i = Lx.tok 1 (Lx.cut l i (Lx.runF Lx.ldB l i)) (Lx.runF Lx.ldB l i) := by
  unfold Lx.stepF; rw [h]; simp only [if_neg (show ¬ Lx.cls b = 1 by omega), if_pos hc, hq]; rfl
theorem stepF_num (h : l[i]? = some b) (hc : Lx.cls b = 3) : Lx.stepF l i = Lx.numS l i := by
  unfold Lx.stepF Lx.numS; rw [h]; simp only [if_neg (show ¬ Lx.cls b = 1 by omega), if_neg (show ¬ Lx.cls b = 2 by omega), if_pos hc]; rfl
theorem stepF_bin (h : l[i]? = some b) (hc : Lx.cls b = 4) : Lx.stepF l i = Lx.tok 3 (Lx.cut l i (Lx.binF l (i + 1))) (Lx.binF l (i + 1)) := by
  unfold Lx.stepF; rw [h]; simp only [if_neg (show ¬ Lx.cls b = 1 by omega), if_neg (show ¬ Lx.cls b = 2 by omega), if_neg (show ¬ Lx.cls b = 3 by omega), if_pos hc]
theorem stepF_ass (h : l[i]? = some 58) (hq : Lx.isAt l (i + 1) 61 = true) : Lx.stepF l i = Lx.tok 7 (Lx.cut l i (i + 2)) (i + 2) := by
  unfold Lx.stepF; rw [h]; simp [show Lx.cls 58 = 5 by decide, hq]
theorem stepF_mark (h : l[i]? = some b) (hc : Lx.cls b = 5) (hq : ¬ (b = 58 ∧ Lx.isAt l (i + 1) 61 = true)) : Lx.stepF l i = Lx.tok 7 (Lx.cut l i (i + 1)) (i + 1) := by
  unfold Lx.stepF; rw [h]; simp only [if_neg (show ¬ Lx.cls b = 1 by omega), if_neg (show ¬ Lx.cls b = 2 by omega), if_neg (show ¬ Lx.cls b = 3 by omega), if_neg (show ¬ Lx.cls b = 4 by omega), if_pos hc, if_neg hq]
theorem stepF_com (h : l[i]? = some 34) (hq : Lx.runF (fun x => x != 34) l (i + 1) < l.length) : Lx.stepF l i = Lx.tok 0 [] (Lx.runF (fun x => x != 34) l (i + 1) + 1) := by
  unfold Lx.stepF; rw [h]; simp only [show Lx.cls 34 = 0 by decide]; simp [hq]
theorem stepF_com0 (h : l[i]? = some 34) (hq : ¬ Lx.runF (fun x => x != 34) l (i + 1) < l.length) : Lx.stepF l i = Lx.bad i 122 := by
  unfold Lx.stepF; rw [h]; simp only [show Lx.cls 34 = 0 by decide]; simp [hq]
theorem stepF_str0 (h : l[i]? = some 39) (hq : Lx.qF l i = none) : Lx.stepF l i = Lx.bad i 121 := by
  unfold Lx.stepF; rw [h, hq]; simp [show Lx.cls 39 = 0 by decide]
theorem stepF_str1 (h : l[i]? = some 39) {r : List UInt8 × Nat} (hq : Lx.qF l i = some r) : Lx.stepF l i = Lx.tok 5 r.1 r.2 := by
  unfold Lx.stepF; rw [h, hq]; simp [show Lx.cls 39 = 0 by decide]
theorem stepF_sym (h : l[i]? = some 35) : Lx.stepF l i = Lx.symF l i := by
  unfold Lx.stepF; rw [h]; simp [show Lx.cls 35 = 0 by decide]
theorem stepF_else (h : l[i]? = some b) (hc : Lx.cls b = 0) (h34 : ¬ b = 34) (h39 : ¬ b = 39) (h35 : ¬ b = 35) : Lx.stepF l i = Lx.bad i 120 := by
  unfold Lx.stepF; rw [h]; simp [hc, h34, h39, h35]
end
set_option maxRecDepth 20000 in
set_option maxHeartbeats 4000000 in
theorem ltok_blank (base g : Nat) (s : ByteArray) (i : Nat) (v : Value) (l : List Lx.Tk) (w : World) (h : LxS w base g s (i : Int) v l) (hb0 : base ≤ w.heap.size) (hs : s.size ≤ 65536) (hi : i < s.size) (hcl : Lx.cls (s[i]'hi) = 1) :
    Calls Try.prog 30 #[.pointer (some ⟨g, 0, none⟩)] w (TokP base g s l i (Lx.stepF s.data.toList i) w) := by
  have HS := Lib.hid h
  have hcell0 : w.cell? ⟨g, 0, none⟩ = some (.string s) := h.1.cell 0
  have hcell1 : w.cell? ⟨g, 1, none⟩ = some (.int .i64 (i : Int)) := h.1.cell 1
  clear h
  have d1 : ((clsAt s.data.toList i : Int) == 1) = true := by rw [clsAt_in hi, hcl]; rfl
  have HE := Lib.hid (stepF_blank (get_in hi) hcl)
  clear hcl
  go_enter Try.func30, Try.ntmps30
  go_wp2
  go_quiet (fail)
  have HS1 := Lib.hid (HS.out.drewN nq)
  have HB1 : Hid (Below base w (w.drewN nq)) := Lib.hid (below_drewN (Below.refl _ _) nq)
  generalize w.drewN nq = w1 at HS1 HB1 ⊢
  clear hcell0 hcell1
  have hcell1 : w1.cell? ⟨g, 1, none⟩ = some (.int .i64 (i : Int)) := HS1.out.1.cell 1
  go_wp2_with fail
  refine (lclass_any g s _ i _ HS1.out.lxr rfl).mono ?_
  rintro e w2 ⟨rfl, hb2, hc2⟩
  have HS2 := Lib.hid (HS1.out.below hb2)
  have HB2 := Lib.hid (bnextB HB1.out hb2 hb0)
  have hcat2 : w2.cell? ⟨g, 1, none⟩ = some (.int .i64 (i : Int)) := HS2.out.1.cell 1
  have hfat2 : w2.frozen? ⟨g, 1, none⟩ = false := HS2.out.1.frozen 1
  clear hb2 hcell1
  have HN := Lib.hid (HS2.out.setAt (en := ((i + 1 : Nat) : Int)))
  rw [show ((i + 1 : Nat) : Int) = (i : Int) + 1 from by omega] at HN
  go_wp2
  go_ret2
  exact TokP.skip_ HE.out (HB2.out.trans HN.out.2) ⟨v, by rw [show ((i + 1 : Nat) : Int) = (i : Int) + 1 from by omega]; exact HN.out.1⟩
set_option maxRecDepth 20000 in
set_option maxHeartbeats 4000000 in
theorem ltok_num (base g : Nat) (s : ByteArray) (i : Nat) (v : Value) (l : List Lx.Tk) (w : World) (h : LxS w base g s (i : Int) v l) (hb0 : base ≤ w.heap.size) (hl : l.length ≤ 65536) (hs : s.size ≤ 65536) (hi : i < s.size) (hcl : Lx.cls (s[i]'hi) = 3) :
    Calls Try.prog 30 #[.pointer (some ⟨g, 0, none⟩)] w (TokP base g s l i (Lx.stepF s.data.toList i) w) := by
  have HS := Lib.hid h
  have hcell0 : w.cell? ⟨g, 0, none⟩ = some (.string s) := h.1.cell 0
  have hcell1 : w.cell? ⟨g, 1, none⟩ = some (.int .i64 (i : Int)) := h.1.cell 1
  clear h
  have d1 : ((clsAt s.data.toList i : Int) == 1) = false := natInt (by rw [clsAt_in hi, hcl]; omega)
  have d2 : ((clsAt s.data.toList i : Int) == 2) = false := natInt (by rw [clsAt_in hi, hcl]; omega)
  have d3 : ((clsAt s.data.toList i : Int) == 3) = true := by rw [clsAt_in hi, hcl]; rfl
  have HE := Lib.hid (stepF_num (get_in hi) hcl)
  clear hcl
  go_enter Try.func30, Try.ntmps30
  go_wp2
  go_quiet (fail)
  have HS1 := Lib.hid (HS.out.drewN nq)
  have HB1 : Hid (Below base w (w.drewN nq)) := Lib.hid (below_drewN (Below.refl _ _) nq)
  generalize w.drewN nq = w1 at HS1 HB1 ⊢
  clear hcell0 hcell1
  have hcell1 : w1.cell? ⟨g, 1, none⟩ = some (.int .i64 (i : Int)) := HS1.out.1.cell 1
  go_wp2_with fail
  refine (lclass_any g s _ i _ HS1.out.lxr rfl).mono ?_
  rintro e w2 ⟨rfl, hb2, hc2⟩
  have HS2 := Lib.hid (HS1.out.below hb2)
  have HB2 := Lib.hid (bnextB HB1.out hb2 hb0)
  have hcat2 : w2.cell? ⟨g, 1, none⟩ = some (.int .i64 (i : Int)) := HS2.out.1.cell 1
  have hfat2 : w2.frozen? ⟨g, 1, none⟩ = false := HS2.out.1.frozen 1
  clear hb2 hcell1
  go_wp2_with fail
  refine (lnumber_any base g s i v l _ HS2.out (Nat.le_trans hb0 HB2.out.size) hl hs hi).mono ?_
  rintro e w3 hP
  have HP := Lib.hid hP
  rcases hP with ⟨_, ⟨_, rfl, _⟩ | ⟨_, rfl⟩⟩
  all_goals
    go_wp2
    go_ret2
    exact TokP.from HP.out HE.out HB2.out
set_option maxRecDepth 20000 in
set_option maxHeartbeats 4000000 in
theorem ltok_key (base g : Nat) (s : ByteArray) (i : Nat) (v : Value) (l : List Lx.Tk) (w : World) (h : LxS w base g s (i : Int) v l) (hb0 : base ≤ w.heap.size) (hl : l.length ≤ 65536) (hs : s.size ≤ 65536) (hi : i < s.size) (hcl : Lx.cls (s[i]'hi) = 2) (hq : (Lx.isAt s.data.toList (Lx.runF Lx.ldB s.data.toList i) 58 && !Lx.isAt s.data.toList (Lx.runF Lx.ldB s.data.toList i + 1) 61) = true) :
    Calls Try.prog 30 #[.pointer (some ⟨g, 0, none⟩)] w (TokP base g s l i (Lx.stepF s.data.toList i) w) := by
  have HS := Lib.hid h
  have hcell0 : w.cell? ⟨g, 0, none⟩ = some (.string s) := h.1.cell 0
  have hcell1 : w.cell? ⟨g, 1, none⟩ = some (.int .i64 (i : Int)) := h.1.cell 1
  clear h
  have d1 : ((clsAt s.data.toList i : Int) == 1) = false := natInt (by rw [clsAt_in hi, hcl]; omega)
  have d2 : ((clsAt s.data.toList i : Int) == 2) = true := by rw [clsAt_in hi, hcl]; rfl
  have HE := Lib.hid (stepF_key (get_in hi) hcl hq)
  have HQ := Lib.hid hq
  clear hcl hq
  go_enter Try.func30, Try.ntmps30
  go_wp2
  go_quiet (fail)
  have HS1 := Lib.hid (HS.out.drewN nq)
  have HB1 : Hid (Below base w (w.drewN nq)) := Lib.hid (below_drewN (Below.refl _ _) nq)
  generalize w.drewN nq = w1 at HS1 HB1 ⊢
  clear hcell0 hcell1
  have hcell1 : w1.cell? ⟨g, 1, none⟩ = some (.int .i64 (i : Int)) := HS1.out.1.cell 1
  go_wp2_with fail
  refine (lclass_any g s _ i _ HS1.out.lxr rfl).mono ?_
  rintro e w2 ⟨rfl, hb2, hc2⟩
  have HS2 := Lib.hid (HS1.out.below hb2)
  have HB2 := Lib.hid (bnextB HB1.out hb2 hb0)
  have hcat2 : w2.cell? ⟨g, 1, none⟩ = some (.int .i64 (i : Int)) := HS2.out.1.cell 1
  have hfat2 : w2.frozen? ⟨g, 1, none⟩ = false := HS2.out.1.frozen 1
  clear hb2 hcell1
  have HR := Lib.hid (lrun_ld g s i w2 HS2.out.lxr hs (Nat.le_of_lt hi))
  go_wp2_with fail
  refine HR.out.mono ?_
  rintro e w3 ⟨rfl, hb3⟩
  have HS3 := Lib.hid (HS2.out.below hb3)
  have HB3 := Lib.hid (bnextB HB2.out hb3 hb0)
  clear hb3 HR
  have HK1 := Lx.runF_ge Lx.ldB s.data.toList i
  have HK2 : Lx.runF Lx.ldB s.data.toList i ≤ s.size := by have := Lx.runF_le Lx.ldB s.data.toList i (by simp; omega); simpa using this
  generalize Lx.runF Lx.ldB s.data.toList i = k at *
  have HA : Lx.isAt s.data.toList k 58 = true := by have := HQ.out; simp only [Bool.and_eq_true] at this; exact this.1
  have HA2 : Lx.isAt s.data.toList (k + 1) 61 = false := by have := HQ.out; simp only [Bool.and_eq_true, Bool.not_eq_true'] at this; exact this.2
  have HKS : k < s.size := by
    rcases Nat.lt_or_ge k s.size with h | h
    · exact h
    · rw [isAt_out (by omega)] at HA; cases HA
  have hx0 : w3.cell? ⟨g, 0, none⟩ = some (.string s) := HS3.out.1.cell 0
  have hcell3 : w3.cell? ⟨g, 1, none⟩ = some (.int .i64 (i : Int)) := HS3.out.1.cell 1
  have HS3d := Lib.hid HS3.out.drew
  have HB3d := Lib.hid HB3.out.drew
  go_wp2_with fail
  refine (lis_any g s _ k 58 _ _ HS3.out.lxr rfl rfl).mono ?_
  rintro e w' ⟨rfl, rfl⟩
  rw [HA]
  go_wp2_with fail
  refine (lis_any g s _ (k + 1) 61 _ _ HS3.out.lxr (by go_num) rfl).mono ?_
  rintro e w' ⟨rfl, rfl⟩
  rw [HA2]
  have k3 : (i : Int) ≤ (k : Int) + 1 := by omega
  have k4 : (k : Int) + 1 ≤ (s.size : Int) := by omega
  have k6 : IntKind.i64.wrap ((k : Int) + 1) = (k : Int) + 1 := IntWalk.i64_in _ (by omega)
  go_upto_region 9 with fail
  go_still_tail 14, (by kernel_rfl)
  change wpList _ _ _ _ _ w3.drew
  go_wp2_with fail
  rw [str_cut s i (k + 1), show ((k : Int) + 1) = ((k + 1 : Nat) : Int) from by omega]
  refine (lput_any base g s i v l 2 (Lx.cut s.data.toList i (k + 1)) _ _ HS3d.out (Nat.le_trans hb0 HB3d.out.size) hl).mono ?_
  rintro e w7 ⟨rfl, hb7, hs7⟩
  have HB7 := Lib.hid hb7
  have HS7 := Lib.hid hs7
  clear hb7 hs7
  go_wp2
  go_ret2
  exact TokP.tok_ HE.out (by decide) (HB3d.out.trans HB7.out) HS7.out
set_option maxRecDepth 20000 in
set_option maxHeartbeats 4000000 in
theorem ltok_name (base g : Nat) (s : ByteArray) (i : Nat) (v : Value) (l : List Lx.Tk) (w : World) (h : LxS w base g s (i : Int) v l) (hb0 : base ≤ w.heap.size) (hl : l.length ≤ 65536) (hs : s.size ≤ 65536) (hi : i < s.size) (hcl : Lx.cls (s[i]'hi) = 2) (hq : (Lx.isAt s.data.toList (Lx.runF Lx.ldB s.data.toList i) 58 && !Lx.isAt s.data.toList (Lx.runF Lx.ldB s.data.toList i + 1) 61) = false) :
    Calls Try.prog 30 #[.pointer (some ⟨g, 0, none⟩)] w (TokP base g s l i (Lx.stepF s.data.toList i) w) := by
  have HS := Lib.hid h
  have hcell0 : w.cell? ⟨g, 0, none⟩ = some (.string s) := h.1.cell 0
  have hcell1 : w.cell? ⟨g, 1, none⟩ = some (.int .i64 (i : Int)) := h.1.cell 1
  clear h
  have d1 : ((clsAt s.data.toList i : Int) == 1) = false := natInt (by rw [clsAt_in hi, hcl]; omega)
  have d2 : ((clsAt s.data.toList i : Int) == 2) = true := by rw [clsAt_in hi, hcl]; rfl
  have HE := Lib.hid (stepF_name (get_in hi) hcl hq)
  have HQ := Lib.hid hq
  clear hcl hq
  go_enter Try.func30, Try.ntmps30
  go_wp2
  go_quiet (fail)
  have HS1 := Lib.hid (HS.out.drewN nq)
  have HB1 : Hid (Below base w (w.drewN nq)) := Lib.hid (below_drewN (Below.refl _ _) nq)
  generalize w.drewN nq = w1 at HS1 HB1 ⊢
  clear hcell0 hcell1
  have hcell1 : w1.cell? ⟨g, 1, none⟩ = some (.int .i64 (i : Int)) := HS1.out.1.cell 1
  go_wp2_with fail
  refine (lclass_any g s _ i _ HS1.out.lxr rfl).mono ?_
  rintro e w2 ⟨rfl, hb2, hc2⟩
  have HS2 := Lib.hid (HS1.out.below hb2)
  have HB2 := Lib.hid (bnextB HB1.out hb2 hb0)
  have hcat2 : w2.cell? ⟨g, 1, none⟩ = some (.int .i64 (i : Int)) := HS2.out.1.cell 1
  have hfat2 : w2.frozen? ⟨g, 1, none⟩ = false := HS2.out.1.frozen 1
  clear hb2 hcell1
  have HR := Lib.hid (lrun_ld g s i w2 HS2.out.lxr hs (Nat.le_of_lt hi))
  go_wp2_with fail
  refine HR.out.mono ?_
  rintro e w3 ⟨rfl, hb3⟩
  have HS3 := Lib.hid (HS2.out.below hb3)
  have HB3 := Lib.hid (bnextB HB2.out hb3 hb0)
  clear hb3 HR
  have HK1 := Lx.runF_ge Lx.ldB s.data.toList i
  have HK2 : Lx.runF Lx.ldB s.data.toList i ≤ s.size := by have := Lx.runF_le Lx.ldB s.data.toList i (by simp; omega); simpa using this
  generalize Lx.runF Lx.ldB s.data.toList i = k at *
  have hx0 : w3.cell? ⟨g, 0, none⟩ = some (.string s) := HS3.out.1.cell 0
  have hcell3 : w3.cell? ⟨g, 1, none⟩ = some (.int .i64 (i : Int)) := HS3.out.1.cell 1
  have HS3d := Lib.hid HS3.out.drew
  have HB3d := Lib.hid HB3.out.drew
  go_wp2_with fail
  refine (lis_any g s _ k 58 _ _ HS3.out.lxr rfl rfl).mono ?_
  rintro e w' ⟨rfl, rfl⟩
  cases hA : Lx.isAt s.data.toList k 58 with
  | false =>
    have k3 : (i : Int) ≤ (k : Int) := by omega
    have k4 : (k : Int) ≤ (s.size : Int) := by omega
    go_upto_region 10 with fail
    go_still_tail 12, (by kernel_rfl)
    change wpList _ _ _ _ _ w3.drew
    go_wp2_with fail
    rw [str_cut s i k]
    refine (lput_any base g s i v l 1 (Lx.cut s.data.toList i k) _ _ HS3d.out (Nat.le_trans hb0 HB3d.out.size) hl).mono ?_
    rintro e w7 ⟨rfl, hb7, hs7⟩
    have HB7 := Lib.hid hb7
    have HS7 := Lib.hid hs7
    clear hb7 hs7
    go_wp2
    go_ret2
    exact TokP.tok_ HE.out (by decide) (HB3d.out.trans HB7.out) HS7.out
  | true =>
    have HA2 : Lx.isAt s.data.toList (k + 1) 61 = true := by have := HQ.out; rw [hA] at this; simpa using this
    go_wp2_with fail
    refine (lis_any g s _ (k + 1) 61 _ _ HS3.out.lxr (by go_num) rfl).mono ?_
    rintro e w' ⟨rfl, rfl⟩
    rw [HA2]
    have k3 : (i : Int) ≤ (k : Int) := by omega
    have k4 : (k : Int) ≤ (s.size : Int) := by omega
    go_upto_region 10 with fail
    go_still_tail 12, (by kernel_rfl)
    change wpList _ _ _ _ _ w3.drew
    go_wp2_with fail
    rw [str_cut s i k]
    refine (lput_any base g s i v l 1 (Lx.cut s.data.toList i k) _ _ HS3d.out (Nat.le_trans hb0 HB3d.out.size) hl).mono ?_
    rintro e w7 ⟨rfl, hb7, hs7⟩
    have HB7 := Lib.hid hb7
    have HS7 := Lib.hid hs7
    clear hb7 hs7
    go_wp2
    go_ret2
    exact TokP.tok_ HE.out (by decide) (HB3d.out.trans HB7.out) HS7.out
set_option maxRecDepth 20000 in
set_option maxHeartbeats 4000000 in
theorem ltok_bin (base g : Nat) (s : ByteArray) (i : Nat) (v : Value) (l : List Lx.Tk) (w : World) (h : LxS w base g s (i : Int) v l) (hb0 : base ≤ w.heap.size) (hl : l.length ≤ 65536) (hs : s.size ≤ 65536) (hi : i < s.size) (hcl : Lx.cls (s[i]'hi) = 4) :
    Calls Try.prog 30 #[.pointer (some ⟨g, 0, none⟩)] w (TokP base g s l i (Lx.stepF s.data.toList i) w) := by
  have HS := Lib.hid h
  have hcell0 : w.cell? ⟨g, 0, none⟩ = some (.string s) := h.1.cell 0
  have hcell1 : w.cell? ⟨g, 1, none⟩ = some (.int .i64 (i : Int)) := h.1.cell 1
  clear h
  have d1 : ((clsAt s.data.toList i : Int) == 1) = false := natInt (by rw [clsAt_in hi, hcl]; omega)
  have d2 : ((clsAt s.data.toList i : Int) == 2) = false := natInt (by rw [clsAt_in hi, hcl]; omega)
  have d3 : ((clsAt s.data.toList i : Int) == 3) = false := natInt (by rw [clsAt_in hi, hcl]; omega)
  have d4 : ((clsAt s.data.toList i : Int) == 4) = true := by rw [clsAt_in hi, hcl]; rfl
  have HE := Lib.hid (stepF_bin (get_in hi) hcl)
  clear hcl
  go_enter Try.func30, Try.ntmps30
  go_wp2
  go_quiet (fail)
  have HS1 := Lib.hid (HS.out.drewN nq)
  have HB1 : Hid (Below base w (w.drewN nq)) := Lib.hid (below_drewN (Below.refl _ _) nq)
  generalize w.drewN nq = w1 at HS1 HB1 ⊢
  clear hcell0 hcell1
  have hcell1 : w1.cell? ⟨g, 1, none⟩ = some (.int .i64 (i : Int)) := HS1.out.1.cell 1
  go_wp2_with fail
  refine (lclass_any g s _ i _ HS1.out.lxr rfl).mono ?_
  rintro e w2 ⟨rfl, hb2, hc2⟩
  have HS2 := Lib.hid (HS1.out.below hb2)
  have HB2 := Lib.hid (bnextB HB1.out hb2 hb0)
  have hcat2 : w2.cell? ⟨g, 1, none⟩ = some (.int .i64 (i : Int)) := HS2.out.1.cell 1
  have hfat2 : w2.frozen? ⟨g, 1, none⟩ = false := HS2.out.1.frozen 1
  clear hb2 hcell1
  go_wp2_with fail
  refine (lbinary_any g s _ i _ HS2.out.lxr hs rfl hi).mono ?_
  rintro e w3 ⟨rfl, hb3⟩
  have HS3 := Lib.hid (HS2.out.below hb3)
  have HB3 := Lib.hid (bnextB HB2.out hb3 hb0)
  clear hb3
  have HK1 := Lx.binF_ge s.data.toList (i + 1)
  have HK2 : Lx.binF s.data.toList (i + 1) ≤ s.size := by have := Lx.binF_le s.data.toList (i + 1) (by simp; omega); simpa using this
  generalize Lx.binF s.data.toList (i + 1) = k at *
  have hx0 : w3.cell? ⟨g, 0, none⟩ = some (.string s) := HS3.out.1.cell 0
  have hcell3 : w3.cell? ⟨g, 1, none⟩ = some (.int .i64 (i : Int)) := HS3.out.1.cell 1
  have HS3d := Lib.hid HS3.out.drew
  have HB3d := Lib.hid HB3.out.drew
  have k3 : (i : Int) ≤ (k : Int) := by omega
  have k4 : (k : Int) ≤ (s.size : Int) := by omega
  go_upto_region 16 with fail
  go_still_tail 12, (by kernel_rfl)
  change wpList _ _ _ _ _ w3.drew
  go_wp2_with fail
  rw [str_cut s i k]
  refine (lput_any base g s i v l 3 (Lx.cut s.data.toList i k) _ _ HS3d.out (Nat.le_trans hb0 HB3d.out.size) hl).mono ?_
  rintro e w7 ⟨rfl, hb7, hs7⟩
  have HB7 := Lib.hid hb7
  have HS7 := Lib.hid hs7
  clear hb7 hs7
  go_wp2
  go_ret2
  exact TokP.tok_ HE.out (by decide) (HB3d.out.trans HB7.out) HS7.out
end Go.Proofs.Ytaigfelpecdajaa
