/-
  The walk of the lexer's number.
-/
import Derived.Test.YtaigfelpecdajaaLexD
import Derived.Test.YtaigfelpecdajaaLxM
namespace Go.Proofs.Ytaigfelpecdajaa
open Go.RowKit

theorem extract_cut (s : ByteArray) (a b : Nat) : (s.extract a b).data.toList = Lx.cut s.data.toList a b := by
  rw [ByteArray.data_extract, Array.toList_extract, List.extract_eq_take_drop]
  unfold Lx.cut
  rw [List.drop_take]
theorem LxS.drew {w : World} {base g : Nat} {s : ByteArray} {at_ : Int} {v : Value} {l : List Lx.Tk} (h : LxS w base g s at_ v l) : LxS w.drew base g s at_ v l := h
theorem LxS.drewN {w : World} {base g : Nat} {s : ByteArray} {at_ : Int} {v : Value} {l : List Lx.Tk} (h : LxS w base g s at_ v l) (n : Nat) : LxS (w.drewN n) base g s at_ v l := h
/-- what a step of the lexer comes to -/
def TokP (base g : Nat) (s : ByteArray) (l : List Lx.Tk) (at_ : Nat) (st : Lx.Stp) (w : World) (e : Ending) (w' : World) : Prop :=
  Below base w w' ∧ ((st.err = 0 ∧ e = .returned (.tuple #[.int .i64 0, .int .i64 0]) ∧ ∃ v', LxS w' base g s (st.next : Int) v' (if st.kind = 0 then l else l ++ [(st.kind, st.text, at_)])) ∨
    (¬ st.err = 0 ∧ e = .returned (.tuple #[.int .i64 (st.place : Int), .int .i64 (st.err : Int)])))
theorem TokP.bad_ {base g : Nat} {s : ByteArray} {l : List Lx.Tk} {at_ : Nat} {w w' : World} {st : Lx.Stp} {p er : Nat} (hst : st = Lx.bad p er) (he : ¬ er = 0) (hb : Below base w w') :
    TokP base g s l at_ st w (.returned (.tuple #[.int .i64 (p : Int), .int .i64 (er : Int)])) w' := by
  subst hst
  exact ⟨hb, .inr ⟨he, rfl⟩⟩
theorem TokP.tok_ {base g : Nat} {s : ByteArray} {l : List Lx.Tk} {at_ : Nat} {w w' : World} {st : Lx.Stp} {k n : Nat} {t : List UInt8} (hst : st = Lx.tok k t n) (hk : ¬ k = 0) (hb : Below base w w')
    (h : ∃ v', LxS w' base g s (n : Int) v' (l ++ [(k, t, at_)])) : TokP base g s l at_ st w (.returned (.tuple #[.int .i64 0, .int .i64 0])) w' := by
  subst hst
  refine ⟨hb, .inl ⟨rfl, rfl, ?_⟩⟩
  show ∃ v', LxS w' base g s (n : Int) v' (if k = 0 then l else l ++ [(k, t, at_)])
  rw [if_neg hk]
  exact h
theorem bnextB {B : Nat} {w w1 w2 : World} (h : Below B w w1) (h2 : Below w1.heap.size w1 w2) (hB : B ≤ w.heap.size) : Below B w w2 := h.trans (h2.mono (Nat.le_trans hB h.size))
theorem decimal_any (base : Nat) (d : ByteArray) (w : World) (hb : base ≤ 1000) (hd : d.size ≤ 65536) (hf : ∀ x ∈ d.data.toList, Lx.figB x = true) :
    Calls Try.prog 61 #[.int .i64 (base : Int), .string d] w fun e w' => e = .returned (decV (Lx.decF base d.data.toList)) ∧ Below w.heap.size w w' := by
  by_cases h : base < 2 ∨ 36 < base ∨ 1000 < d.size
  · exact (decimal_bad base d w h hb hd).mono fun e w' ⟨he, hw⟩ => ⟨he, by subst hw; exact Below.refl _ _⟩
  · exact decimal_good base d w (by omega) (by omega) (by omega) hf
theorem has_dig (x : UInt8) : [3].contains (Lx.cls x) = Lx.digB x := by
  rw [Bool.eq_iff_iff]; simp [Lx.digB]
theorem has_ld (x : UInt8) : [2, 3].contains (Lx.cls x) = Lx.ldB x := by
  rw [Bool.eq_iff_iff]; simp [Lx.ldB, Lx.letB, Lx.digB]
theorem cells_one (w : World) (a : Nat) : ∀ (j x : Nat), [a][j]? = some x → (w.alloc (.cells #[.int .i64 (a : Int)] 66)).cell? ⟨w.heap.size, j, none⟩ = some (.int .i64 (x : Int)) := by
  intro j x hx
  rw [(Blk.new w 66 #[.int .i64 (a : Int)]).cell j]
  match j, hx with
  | 0, hx => cases hx; rfl
theorem cells_two (w : World) (a b : Nat) : ∀ (j x : Nat), [a, b][j]? = some x → (w.alloc (.cells #[.int .i64 (a : Int), .int .i64 (b : Int)] 66)).cell? ⟨w.heap.size, j, none⟩ = some (.int .i64 (x : Int)) := by
  intro j x hx
  rw [(Blk.new w 66 #[.int .i64 (a : Int), .int .i64 (b : Int)]).cell j]
  match j, hx with
  | 0, hx => cases hx; rfl
  | 1, hx => cases hx; rfl
theorem lrun_dig (g : Nat) (s : ByteArray) (i : Nat) (w : World) (hL : Lxr w g s) (hs : s.size ≤ 65536) (hi : i ≤ s.size) :
    Calls Try.prog 47 #[.pointer (some ⟨g, 0, none⟩), .int .i64 (i : Int), .slice (some ⟨w.heap.size, 0, none⟩) 1 1] (w.alloc (.cells #[.int .i64 3] 66)) fun e w' => e = .returned (.int .i64 (Lx.runF Lx.digB s.data.toList i)) ∧ Below w.heap.size w w' :=
  (lrun_any g s w.heap.size 1 [3] Lx.digB i i _ (hL.below ((Below.refl _ _).alloc (Nat.le_refl _) _)) hs rfl hi (by simp) (by simp) has_dig (cells_one w 3)).mono fun e w' ⟨he, hb⟩ => ⟨he, bnext ((Below.refl _ _).alloc (Nat.le_refl _) _) hb⟩
theorem lrun_ld (g : Nat) (s : ByteArray) (i : Nat) (w : World) (hL : Lxr w g s) (hs : s.size ≤ 65536) (hi : i ≤ s.size) :
    Calls Try.prog 47 #[.pointer (some ⟨g, 0, none⟩), .int .i64 (i : Int), .slice (some ⟨w.heap.size, 0, none⟩) 2 2] (w.alloc (.cells #[.int .i64 2, .int .i64 3] 66)) fun e w' => e = .returned (.int .i64 (Lx.runF Lx.ldB s.data.toList i)) ∧ Below w.heap.size w w' :=
  (lrun_any g s w.heap.size 2 [2, 3] Lx.ldB i i _ (hL.below ((Below.refl _ _).alloc (Nat.le_refl _) _)) hs rfl hi (by simp) (by simp) has_ld (cells_two w 2 3)).mono fun e w' ⟨he, hb⟩ => ⟨he, bnext ((Below.refl _ _).alloc (Nat.le_refl _) _) hb⟩
theorem decVn : decV none = .tuple #[.string ⟨#[]⟩, .bool false] := rfl
theorem decVs (t : List UInt8) : decV (some t) = .tuple #[.string ⟨t.toArray⟩, .bool true] := rfl
theorem rB_lt {s : ByteArray} {j : Nat} (h : Lx.rB s.data.toList j = true) : j + 1 < s.size := by
  rcases Nat.lt_or_ge (j + 1) s.size with h1 | h1
  · exact h1
  · rw [show Lx.rB s.data.toList j = false from by unfold Lx.rB; rw [get_out (by omega)]; simp] at h; cases h
theorem size_cut {t : ByteArray} {l : List UInt8} {a b : Nat} (h : t.data.toList = Lx.cut l a b) (hb : b ≤ l.length) : t.size = b - a := by
  rw [← Lx.cut_len l a b hb, ← h]; simp
theorem numS_none {l : List UInt8} {i : Nat} (h : Lx.numF l i = none) : Lx.numS l i = Lx.bad i 123 := by unfold Lx.numS; rw [h]
theorem numS_some {l : List UInt8} {i : Nat} {r : List UInt8 × Nat} (h : Lx.numF l i = some r) : Lx.numS l i = Lx.tok 4 r.1 r.2 := by unfold Lx.numS; rw [h]
theorem rB_no {s : ByteArray} {j : Nat} (h : Lx.isAt s.data.toList j 114 = false) : Lx.rB s.data.toList j = false := by unfold Lx.rB; rw [h]; rfl
theorem rB_out {s : ByteArray} {j : Nat} (h : ¬ j + 1 < s.size) : Lx.rB s.data.toList j = false := by unfold Lx.rB; rw [get_out h]; simp
theorem rB_in {s : ByteArray} {j : Nat} (h1 : Lx.isAt s.data.toList j 114 = true) (h : j + 1 < s.size) : Lx.rB s.data.toList j = Lx.figB (s[j + 1]'h) := by unfold Lx.rB; rw [h1, get_in h]; simp
set_option maxRecDepth 20000 in
set_option maxHeartbeats 4000000 in
theorem lnumber_any (base g : Nat) (s : ByteArray) (i : Nat) (v : Value) (l : List Lx.Tk) (w : World) (h : LxS w base g s (i : Int) v l) (hb0 : base ≤ w.heap.size) (hl : l.length ≤ 65536) (hs : s.size ≤ 65536) (hi : i < s.size) :
    Calls Try.prog 50 #[.pointer (some ⟨g, 0, none⟩)] w (TokP base g s l i (Lx.numS s.data.toList i) w) := by
  have H := Lib.hid h
  have hc1 : w.cell? ⟨g, 1, none⟩ = some (.int .i64 (i : Int)) := h.1.cell 1
  have hg : g < w.heap.size := h.1.lt
  clear h
  go_enter Try.func50, Try.ntmps50
  go_wp2_with (go_at_call 47; refine (lrun_dig g s i w H.out.lxr hs (by omega)).mono ?_; rintro e w1 ⟨rfl, hb1⟩)
  have HJ1 := Lib.hid (Lx.runF_ge Lx.digB s.data.toList i)
  have HJ2 : Hid (Lx.runF Lx.digB s.data.toList i ≤ s.size) := Lib.hid (by have := Lx.runF_le Lx.digB s.data.toList i (by simp; exact Nat.le_of_lt hi); simpa using this)
  obtain ⟨j, hj⟩ : ∃ j, Lx.runF Lx.digB s.data.toList i = j := ⟨_, rfl⟩
  have HJ := Lib.hid hj
  rw [hj] at HJ1 HJ2 ⊢
  clear hj hc1 hg
  have HS1 := Lib.hid (H.out.below hb1)
  have HB1 := Lib.hid hb1
  clear hb1
  have hc0 : w1.cell? ⟨g, 0, none⟩ = some (.string s) := HS1.out.1.cell 0
  have hc1 : w1.cell? ⟨g, 1, none⟩ = some (.int .i64 (i : Int)) := HS1.out.1.cell 1
  have j1 := HJ1.out
  have j2 := HJ2.out
  go_quiet (fail)
  have HS2 := Lib.hid (HS1.out.drewN nq)
  have HB2 := Lib.hid (below_drewN HB1.out nq)
  generalize w1.drewN nq = w2 at HS2 HB2 ⊢
  clear hc0 hc1 HS1 HB1 w1
  go_upto_region 3 with fail
  go_cut [58] (fun s58 wx => s58 = .bool (Lx.rB s.data.toList j) ∧ LxS wx base g s (i : Int) v l ∧ Below w.heap.size w wx)
  case first =>
    have hc0 : w2.cell? ⟨g, 0, none⟩ = some (.string s) := HS2.out.1.cell 0
    by_cases hr : Lx.isAt s.data.toList j 114 = true
    · by_cases h1 : j + 1 < s.size
      · have HRB := Lib.hid (rB_in hr h1)
        have HCL := Lib.hid (clsAt_in h1)
        by_cases h3 : Lx.cls (s[j + 1]'h1) = 3
        · have d3 : ((clsAt s.data.toList (j + 1) : Int) == 3) = true := by rw [HCL.out, h3]; rfl
          have HV : Hid (Lx.rB s.data.toList j = true) := Lib.hid (by rw [HRB.out]; unfold Lx.figB Lx.digB; rw [h3]; rfl)
          clear h3
          go_wp2_with (first
            | (go_at_call 48; refine (lis_any g s _ j 114 _ _ HS2.out.lxr rfl rfl).mono ?_; rintro e w' ⟨rfl, rfl⟩; rw [hr])
            | (go_at_call 46; refine (lclass_any g s _ (j + 1) _ HS2.out.lxr (by go_num)).mono ?_; rintro e w' ⟨rfl, hb, hc⟩))
          go_meet
          exact ⟨by rw [HV.out], HS2.out.below (by assumption), bnext HB2.out (by assumption)⟩
        · have d3 : ((clsAt s.data.toList (j + 1) : Int) == 3) = false := by rw [beq_eq_false_iff_ne, HCL.out]; omega
          have HV : Hid (Lx.rB s.data.toList j = Lx.capB (s[j + 1]'h1)) := Lib.hid (by rw [HRB.out]; unfold Lx.figB Lx.digB; simp [h3])
          clear h3
          go_wp2_with (first
            | (go_at_call 48; refine (lis_any g s _ j 114 _ _ HS2.out.lxr rfl rfl).mono ?_; rintro e w' ⟨rfl, rfl⟩; rw [hr])
            | (go_at_call 46; refine (lclass_any g s _ (j + 1) _ HS2.out.lxr (by go_num)).mono ?_; rintro e w' ⟨rfl, hb, hc⟩)
            | (go_at_call 60; refine (cap_any _ _).mono ?_; rintro e w'' ⟨rfl, rfl⟩))
          go_meet
          exact ⟨by rw [HV.out], HS2.out.below (by assumption), bnext HB2.out (by assumption)⟩
      · have HV : Hid (Lx.rB s.data.toList j = false) := Lib.hid (rB_out h1)
        go_wp2_with (first
          | (go_at_call 48; refine (lis_any g s _ j 114 _ _ HS2.out.lxr rfl rfl).mono ?_; rintro e w' ⟨rfl, rfl⟩; rw [hr]))
        go_meet
        exact ⟨by rw [HV.out], HS2.out, HB2.out⟩
    · have hr' : Lx.isAt s.data.toList j 114 = false := by simpa using hr
      have HV : Hid (Lx.rB s.data.toList j = false) := Lib.hid (rB_no hr')
      clear hr
      go_wp2_with (first
        | (go_at_call 48; refine (lis_any g s _ j 114 _ _ HS2.out.lxr rfl rfl).mono ?_; rintro e w' ⟨rfl, rfl⟩; rw [hr']))
      go_meet
      exact ⟨by rw [HV.out], HS2.out, HB2.out⟩
  case rest =>
  obtain ⟨rfl, hS, hB⟩ := hcut
  obtain ⟨t0, ht0⟩ : ∃ t0, s.extract i j = t0 := ⟨_, rfl⟩
  have HT0 : Hid (t0.data.toList = Lx.cut s.data.toList i j) := Lib.hid (by rw [← ht0, extract_cut])
  have HT1 : Hid (t0.size = j - i) := Lib.hid (size_cut HT0.out (by simpa using HJ2.out))
  rw [ht0]
  have HS3 := Lib.hid hS
  have HB3 := Lib.hid hB
  clear hS hB ht0 HS2 HB2
  go_upto_if 58 with fail
  go_cut [4, 5, 6] (fun s4 s5 s6 wx => ∃ (k b : Nat) (t : ByteArray), s4 = .int .i64 k ∧ s5 = .int .i64 b ∧ s6 = .string t ∧ Lx.numF s.data.toList i = (Lx.decF b t.data.toList).map (fun u => (u, k)) ∧
    (∀ x ∈ t.data.toList, Lx.figB x = true) ∧ b ≤ 99 ∧ t.size ≤ 65536 ∧ k ≤ s.size ∧ LxS wx base g s (i : Int) v l ∧ Below w.heap.size w wx)
  case first =>
    by_cases hq : Lx.rB s.data.toList j = true
    · rw [hq]
      have hj1 := rB_lt hq
      have HQ := Lib.hid hq
      clear hq
      go_upto_block 0 with fail
      go_cut [4] (fun s4 wx => s4 = .int .i64 (Lx.runF Lx.figB s.data.toList (j + 1) : Nat) ∧ LxS wx base g s (i : Int) v l ∧ Below w.heap.size w wx)
      case first =>
        go_wp2
        go_loopw [4] (fun e wx => ∃ k : Nat, k ≤ s.size ∧ j + 1 ≤ k ∧ e = .int .i64 k ∧ Lx.runF Lx.figB s.data.toList k = Lx.runF Lx.figB s.data.toList (j + 1) ∧ LxS wx base g s (i : Int) v l ∧ Below w.heap.size w wx) (fun e _ => s.size - (intOf e).toNat)
        case atStart => exact ⟨j + 1, by omega, Nat.le_refl _, by go_num, rfl, HS3.out, HB3.out⟩
        case round =>
          obtain ⟨k, hk, hjk, rfl, hrun, hS, hB⟩ := hrel
          have HRUN := Lib.hid hrun
          have HS4 := Lib.hid hS
          have HB4 := Lib.hid hB
          clear hrun hS hB
          by_cases hkl : k < s.size
          · have hc0 : wr.cell? ⟨g, 0, none⟩ = some (.string s) := HS4.out.1.cell 0
            have HC := Lib.hid (clsAt_in hkl)
            have HX := Lib.hid (get_in hkl)
            by_cases hf : Lx.figB (s[k]'hkl) = true
            · have HST := Lib.hid ((Lx.runF_step HX.out hf).trans HRUN.out)
              by_cases h3 : Lx.cls (s[k]'hkl) = 3
              · have d3 : ((clsAt s.data.toList k : Int) == 3) = true := by rw [HC.out, h3]; rfl
                clear h3 hf
                go_wp2_with (first
                  | (go_at_call 46; refine (lclass_any g s _ k _ HS4.out.lxr rfl).mono ?_; rintro e w' ⟨rfl, hb, hc⟩))
                go_roundw
                case rel => exact ⟨k + 1, hkl, by omega, by go_num, HST.out, HS4.out.below (by assumption), bnext HB4.out (by assumption)⟩
                case measure => simp [intOf]; omega
              · have d3 : ((clsAt s.data.toList k : Int) == 3) = false := by rw [beq_eq_false_iff_ne, HC.out]; omega
                have hcap : Lx.capB (s[k]'hkl) = true := by
                  unfold Lx.figB Lx.digB at hf
                  simpa [h3] using hf
                clear h3 hf
                go_wp2_with (first
                  | (go_at_call 46; refine (lclass_any g s _ k _ HS4.out.lxr rfl).mono ?_; rintro e w' ⟨rfl, hb, hc⟩)
                  | (go_at_call 60; refine (cap_any _ _).mono ?_; rintro e w'' ⟨rfl, rfl⟩; rw [hcap]))
                go_roundw
                case rel => exact ⟨k + 1, hkl, by omega, by go_num, HST.out, HS4.out.below (by assumption), bnext HB4.out (by assumption)⟩
                case measure => simp [intOf]; omega
            · have hf' : Lx.figB (s[k]'hkl) = false := by simpa using hf
              have HST := Lib.hid ((Lx.runF_stop HX.out hf').symm.trans HRUN.out)
              have d3 : ((clsAt s.data.toList k : Int) == 3) = false := by
                rw [beq_eq_false_iff_ne, HC.out]
                intro h3
                rw [show Lx.figB (s[k]'hkl) = true from by unfold Lx.figB Lx.digB; rw [show Lx.cls (s[k]'hkl) = 3 from by omega]; rfl] at hf'
                cases hf'
              have hcap : Lx.capB (s[k]'hkl) = false := by
                unfold Lx.figB at hf'
                simp at hf'
                exact hf'.2
              clear hf hf'
              go_wp2_with (first
                | (go_at_call 46; refine (lclass_any g s _ k _ HS4.out.lxr rfl).mono ?_; rintro e w' ⟨rfl, hb, hc⟩)
                | (go_at_call 60; refine (cap_any _ _).mono ?_; rintro e w'' ⟨rfl, rfl⟩; rw [hcap]))
              go_meet
              exact ⟨by rw [HST.out], HS4.out.below (by assumption), bnext HB4.out (by assumption)⟩
          · obtain rfl : k = s.size := by omega
            have HST := Lib.hid ((Lx.runF_end (p := Lx.figB) (l := s.data.toList) (i := s.size) (by simp)).symm.trans HRUN.out)
            have hc0 : wr.cell? ⟨g, 0, none⟩ = some (.string s) := HS4.out.1.cell 0
            go_wp2
            go_meet
            exact ⟨by rw [← HST.out], HS4.out, HB4.out⟩

      case rest =>
      obtain ⟨rfl, hS, hB⟩ := hcut
      have HK1 := Lib.hid (Lx.runF_ge Lx.figB s.data.toList (j + 1))
      have HK2 : Hid (Lx.runF Lx.figB s.data.toList (j + 1) ≤ s.size) := Lib.hid (by have := Lx.runF_le Lx.figB s.data.toList (j + 1) (by simp; omega); simpa using this)
      have HCR := Lib.hid (Lx.cut_run_all Lx.figB s.data.toList (j + 1))
      have HNR := Lib.hid fun (h2 : ¬ 2 < j - i) => Lx.numF_r (l := s.data.toList) (i := i) (by rw [HJ.out]; exact HQ.out) (by rw [HJ.out]; exact h2)
      have HNR2 := Lib.hid fun (h2 : 2 < j - i) => Lx.numF_r2 (l := s.data.toList) (i := i) (by rw [HJ.out]; exact HQ.out) (by rw [HJ.out]; exact h2)
      rw [HJ.out] at HNR
      generalize Lx.runF Lx.figB s.data.toList (j + 1) = k at *
      have HS4 := Lib.hid hS
      have HB4 := Lib.hid hB
      clear hS hB
      by_cases h2 : 2 < j - i
      · have HE := Lib.hid (numS_none (HNR2.out h2))
        have ht2 : 2 < t0.size := by rw [HT1.out]; exact h2
        have hc1 : wc.cell? ⟨g, 1, none⟩ = some (.int .i64 (i : Int)) := HS4.out.1.cell 1
        clear h2
        go_wp2
        go_ret2
        exact TokP.bad_ (p := i) (er := 123) HE.out (by decide) (HB4.out.mono hb0)
      · have ht2 : t0.size ≤ 2 := by rw [HT1.out]; omega
        have HNM := Lib.hid (HNR.out h2)
        have HDG : Hid (∀ x ∈ t0.data.toList, Lx.digB x = true) := Lib.hid (by
          rw [HT0.out, ← HJ.out]
          exact Lx.cut_run_all Lx.digB _ _)
        have hcv := fun (w : World) => Lib.run_convert_string_bytes (P := Try.prog) w 9 47 5 t0 Try.underlying9 Try.underlying47 Try.underlying5
        have HDR := Lib.hid (DR.new wc t0)
        have HBW := Lib.hid (Joins.below_bytesWorld wc.heap.size wc 5 t0 (Nat.le_refl _))
        have HBN : Hid (∀ q, Lx.baseN (t0.data.toList.take q) 0 ≤ 99) := Lib.hid fun q => Lx.baseN_le (fun x hx => HDG.out x (List.mem_of_mem_take hx)) (by simp; omega)
        clear h2
        go_wp2
        clear hcv
        generalize Lib.bytesWorld wc 5 t0 = wb at HDR HBW ⊢
        go_loop [5, 96] (fun s5 e => ∃ q : Nat, q ≤ t0.size ∧ e = .int .i64 q ∧ s5 = .int .i64 (Lx.baseN (t0.data.toList.take q) 0 : Nat)) (fun _ e => t0.size - (intOf e).toNat)
        case atStart => exact ⟨0, Nat.zero_le _, rfl, rfl⟩
        case round =>
          obtain ⟨q, hq, rfl, rfl⟩ := hrel
          have hb99 := HBN.out q
          by_cases hql : q < t0.size
          · have hx := get_in hql
            have HTK : Hid (t0.data.toList.take (q + 1) = t0.data.toList.take q ++ [t0[q]'hql]) := Lib.hid (by rw [List.take_add_one, hx]; rfl)
            have hcell := HDR.out.cell hx
            have hrg := Lx.digB_range (HDG.out _ (List.mem_of_getElem? hx))
            generalize t0[q]'hql = x at *
            have HS := Lib.hid (Lx.baseN_snoc (t0.data.toList.take q) 0 x)
            generalize Lx.baseN (t0.data.toList.take q) 0 = bb at *
            clear hx
            have r1 := hrg.1
            have r2 := hrg.2
            go_wp2
            go_round
            case rel => exact ⟨q + 1, hql, by go_num, by rw [HTK.out, HS.out, show ((10 * bb + (x.toNat - 48) : Nat) : Int) = 10 * (bb : Int) + ((x.toNat : Int) - 48) from by omega]⟩
            case measure => simp [intOf]; omega
          · obtain rfl : q = t0.size := by omega
            have HTA : Hid (t0.data.toList.take t0.size = t0.data.toList) := Lib.hid (List.take_of_length_le (by simp))
            rw [HTA.out] at hb99 ⊢
            have HS9 := Lib.hid (HS4.out.below HBW.out)
            have hc0 : wb.cell? ⟨g, 0, none⟩ = some (.string s) := HS9.out.1.cell 0
            have k1 := HK1.out
            have k2 := HK2.out
            have k3 : (j : Int) + 1 ≤ (k : Int) := by omega
            have k4 : (0 : Int) ≤ (j : Int) + 1 := by omega
            have k5 : (k : Int) ≤ (s.size : Int) := by omega
            go_wp2
            go_meet
            have HEX : Hid ((s.extract (j + 1) k).data.toList = Lx.cut s.data.toList (j + 1) k) := Lib.hid (extract_cut s (j + 1) k)
            exact ⟨k, _, s.extract (j + 1) k, rfl, rfl, rfl, by rw [HEX.out, HT0.out]; exact HNM.out, by rw [HEX.out]; exact HCR.out, hb99, by rw [size_cut HEX.out (by simpa using k2)]; omega, k2, HS9.out, bnext HB4.out HBW.out⟩
    · have hq' : Lx.rB s.data.toList j = false := by simpa using hq
      rw [hq']
      have HN : Hid (Lx.numF s.data.toList i = (Lx.decF 10 t0.data.toList).map (fun u => (u, j))) := Lib.hid (by rw [HT0.out, ← HJ.out]; exact Lx.numF_n (by rw [HJ.out]; exact hq'))
      have HF0 : Hid (∀ x ∈ t0.data.toList, Lx.figB x = true) := Lib.hid (by
        rw [HT0.out, ← HJ.out]
        exact fun x hx => Lx.digB_fig (Lx.cut_run_all Lx.digB _ _ x hx))
      clear hq hq'
      go_wp2
      go_meet
      exact ⟨j, 10, t0, rfl, rfl, rfl, HN.out, HF0.out, by omega, by rw [HT1.out]; omega, j2, HS3.out, HB3.out⟩
  case rest =>
  obtain ⟨k, b, t, rfl, rfl, rfl, hnum, hfig, hb99, ht, hk, hS, hB⟩ := hcut
  have HNUM := Lib.hid hnum
  have HS5 := Lib.hid hS
  have HB5 := Lib.hid hB
  have HFIG := Lib.hid hfig
  clear hnum hS hB hfig HS3 HB3
  cases hd : Lx.decF b t.data.toList with
  | none =>
    have HE := Lib.hid (numS_none (show Lx.numF s.data.toList i = none by rw [HNUM.out, hd]; rfl))
    have HD := Lib.hid hd
    clear hd
    go_wp2_with (go_at_call 61; refine (decimal_any b t _ (by omega) ht HFIG.out).mono ?_; rintro e w' ⟨rfl, hb⟩; rw [HD.out, decVn]; have hc1 : w'.cell? ⟨g, 1, none⟩ = some (.int .i64 (i : Int)) := (HS5.out.below hb).1.cell 1)
    go_ret2
    exact TokP.bad_ (p := i) (er := 123) HE.out (by decide) ((bnext HB5.out (by assumption)).mono hb0)
  | some u =>
    have HE := Lib.hid (numS_some (show Lx.numF s.data.toList i = some (u, k) by rw [HNUM.out, hd]; rfl))
    have HD := Lib.hid hd
    clear hd
    go_wp2_with (first
      | (go_at_call 61; refine (decimal_any b t _ (by omega) ht HFIG.out).mono ?_; rintro e w' ⟨rfl, hb⟩; rw [HD.out, decVs]; have HS6 := Lib.hid (HS5.out.below hb); have HB6 := Lib.hid (bnext HB5.out hb); clear hb)
      | (go_at_call 49; refine (lput_any base g s i v l 4 u _ _ HS6.out (Nat.le_trans hb0 HB6.out.size) hl).mono ?_; rintro e w'' ⟨rfl, hb7, hs7⟩; have HB7 := Lib.hid hb7; have HS7 := Lib.hid hs7; clear hb7 hs7))
    go_ret2
    exact TokP.tok_ HE.out (by decide) ((HB6.out.mono hb0).trans HB7.out) HS7.out
end Go.Proofs.Ytaigfelpecdajaa
