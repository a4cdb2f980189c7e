/-
  Contracts of the two readers of counts: the program's part.count and the document's Source.Count.
-/
import Derived.Test.YtjhkfpemcplaaaaPart
namespace Go.Proofs.Ytjhkfpemcplaaaa
open Go.RowKit

theorem PartIs.cells {w : World} {T B g : Nat} {l : List UInt8} {b : Bool} (h : PartIs w T B g l b) : w.cell? ⟨g, 1, none⟩ = some (.bool b) ∧ w.frozen? ⟨g, 1, none⟩ = false := by
  obtain ⟨h1, h2, A, c, hb, hr, hc⟩ := h
  have c1 := hb.cell 1
  simp at c1
  exact ⟨c1, hb.frozen 1⟩
theorem PartIs.setBad {w : World} {T B g : Nat} {l : List UInt8} {b : Bool} (h : PartIs w T B g l b) : PartIs (w.setCell ⟨g, 1, none⟩ (.bool true)) T B g l true := by
  obtain ⟨h1, h2, A, c, hb, hr, hc⟩ := h
  refine ⟨h1, h2, A, c, ?_, hr.setCell (p := ⟨g, 1, none⟩) h1 _, hc⟩
  have h3 := hb.set_ 1 (.bool true)
  simpa using h3
def CntPost (w : World) (T B g : Nat) (l : List UInt8) (b : Bool) (e : Ending) (w' : World) : Prop :=
  e = .returned (.int .u64 ((cnt l b).1 : Nat)) ∧ PartIs w' T B g (cnt l b).2.1 (cnt l b).2.2 ∧ w.grownBy w' (some g)
def CntRel (w : World) (T B g : Nat) (l : List UInt8) (b : Bool) (n i : Value) (wr : World) : Prop :=
  ∃ (j m : Nat) (l' : List UInt8) (b' : Bool), j ≤ 10 ∧ i = .int .i64 j ∧ n = .int .u64 m ∧ m < 2 ^ (7 * j) ∧ PartIs wr T B g l' b' ∧ w.grownBy wr (some g) ∧ cnt l b = cntS (10 - j) j m l' b'
/-- a bad end -/
theorem CntPost.bad {w w1 : World} {T B g : Nat} {l l' : List UInt8} {b b1 : Bool} (h : cnt l b = (0, l', true)) (hp : PartIs w1 T B g l' b1) (hg : w.grownBy w1 (some g)) :
    CntPost w T B g l b (.returned (.int .u64 0)) (w1.setCell ⟨g, 1, none⟩ (.bool true)) := by
  refine ⟨by rw [h]; rfl, by rw [h]; exact hp.setBad, only_setCell (p := ⟨g, 1, none⟩) hg (.inl rfl) _⟩
theorem CntPost.good {w w1 : World} {T B g n : Nat} {l l' : List UInt8} {b : Bool} (h : cnt l b = (n, l', false)) (hp : PartIs w1 T B g l' false) (hg : w.grownBy w1 (some g)) :
    CntPost w T B g l b (.returned (.int .u64 (n : Int))) w1 := by
  refine ⟨by rw [h], by rw [h]; exact hp, hg⟩

set_option maxRecDepth 20000 in
set_option maxHeartbeats 4000000 in
theorem cnt_any (B g : Nat) (l : List UInt8) (b : Bool) (w : World) (h : PartIs w 151 B g l b) :
    Calls Try.prog 90 #[.pointer (some ⟨g, 0, none⟩)] w (CntPost w 151 B g l b) := by
  go_enter Try.func90, Try.ntmps90
  go_wp2
  go_loopw [3, 4, 5, 6] (fun n _ _ i wr => CntRel w 151 B g l b n i wr) (fun _ _ _ i _ => 10 - (intOf i).toNat)
  case atStart => exact ⟨0, 0, l, b, by omega, rfl, rfl, by simp, h, World.grownBy.refl w _, rfl⟩
  case round =>
    obtain ⟨j, m, l', b', hj, rfl, rfl, hm, hp, hg, hcnt⟩ := hrel
    have HM := Lib.hid hm
    have HC := Lib.hid hcnt
    clear hm hcnt h
    by_cases hlt : j < 10
    · have hby := Lib.hid (byte_any B g l' b' _ hp)
      clear hp
      obtain ⟨f, hf⟩ : ∃ f, 10 - j = f + 1 := ⟨9 - j, by omega⟩
      have HF := Lib.hid hf
      clear hf
      have hx := byteV_lt l'
      have ha := and127 hx
      go_wp2_with fail
      refine hby.out.mono ?_
      rintro e w1 ⟨rfl, hp1, hg1⟩
      obtain ⟨c1, f1⟩ := hp1.cells
      have hg2 := hg.trans hg1
      clear hg hg1 hby
      have HP := Lib.hid hp1
      clear hp1
      by_cases hb1 : (b' || l'.isEmpty) = true
      · rw [hb1] at c1
        have HE := Lib.hid (CntPost.bad (w := w) (b1 := (b' || l'.isEmpty)) (by rw [HC.out, HF.out]; exact cntS_bad (by rw [hb1]; rfl)) HP.out hg2)
        clear hb1 hg2
        go_wp2
        go_ret
        exact HE.out
      · have hb2 := eq_false_of_ne_true hb1
        clear hb1
        rw [hb2] at c1
        by_cases h9 : j = 9
        · have d9 : ((j : Int) == 9) = true := by rw [beq_iff_eq]; omega
          have d0 : decide ((0 : Int) < (j : Int)) = true := by simp; omega
          have p0 : 0 < j := by omega
          by_cases x1 : 1 < byteV l'
          · have e1 : decide ((1 : Int) < (byteV l' : Int)) = true := by simp; omega
            have HE := Lib.hid (CntPost.bad (w := w) (b1 := (b' || l'.isEmpty)) (by rw [HC.out, HF.out]; exact cntS_bad (by simp [hb2, h9, x1])) HP.out hg2)
            clear hb2 hg2 h9
            go_wp2
            go_ret
            exact HE.out
          · have e1 : decide ((1 : Int) < (byteV l' : Int)) = false := by simp; omega
            by_cases x0 : byteV l' = 0
            · have e0 : ((byteV l' : Int) == 0) = true := by rw [beq_iff_eq]; omega
              have HE := Lib.hid (CntPost.bad (w := w) (b1 := (b' || l'.isEmpty)) (by rw [HC.out, HF.out]; exact cntS_bad (by simp [hb2, h9, x0])) HP.out hg2)
              clear hb2 hg2 h9 x0
              go_wp2
              go_ret
              exact HE.out
            · have e0 : ((byteV l' : Int) == 0) = false := by rw [beq_eq_false_iff_ne]; omega
              have hz : ((b' || l'.isEmpty) || (j == 9 && decide (1 < byteV l')) || (decide (0 < j) && byteV l' == 0)) = false := by simp [hb2, h9, x0, x1]
              have HE := Lib.hid (CntPost.good (w := w) (by rw [HC.out, HF.out]; exact cntS_end hz (by omega)) (by rw [← hb2]; exact HP.out) hg2)
              have ho := orshl (i := j) (n := m) (x := byteV l') (by omega) HM.out (by omega)
              have d128 : decide ((byteV l' : Int) < 128) = true := by simp; omega
              clear hb2 hg2 hz h9
              generalize m + byteV l' % 128 * 2 ^ (7 * j) = s at HE ho
              go_wp2
              go_ret
              exact HE.out
        · have d9 : ((j : Int) == 9) = false := by rw [beq_eq_false_iff_ne]; omega
          by_cases h0 : j = 0
          · have d0 : decide ((0 : Int) < (j : Int)) = false := by simp; omega
            have p0 : ¬ 0 < j := by omega
            by_cases x128 : byteV l' < 128
            · skip
              have hz : ((b' || l'.isEmpty) || (j == 9 && decide (1 < byteV l')) || (decide (0 < j) && byteV l' == 0)) = false := by simp [hb2, h0]
              have HE := Lib.hid (CntPost.good (w := w) (by rw [HC.out, HF.out]; exact cntS_end hz (by omega)) (by rw [← hb2]; exact HP.out) hg2)
              have ho := orshl (i := j) (n := m) (x := byteV l') (by omega) HM.out (by omega)
              have d128 : decide ((byteV l' : Int) < 128) = true := by simp; omega
              clear hb2 hg2 hz h9 h0
              generalize m + byteV l' % 128 * 2 ^ (7 * j) = s at HE ho
              go_wp2
              go_ret
              exact HE.out
            · skip
              have hz : ((b' || l'.isEmpty) || (j == 9 && decide (1 < byteV l')) || (decide (0 < j) && byteV l' == 0)) = false := by simp [hb2, h0]
              have HE : Hid (CntRel w 151 B g l b (.int .u64 ((m + byteV l' % 128 * 2 ^ (7 * j) : Nat) : Int)) (.int .i64 ((j + 1 : Nat) : Int)) w1) := Lib.hid ⟨j + 1, _, l'.tail, false, by omega, rfl, rfl, acc_lt HM.out (by omega), by rw [← hb2]; exact HP.out, hg2, by rw [HC.out, HF.out, cntS_on hz (by omega)]; congr 1; have := HF.out; omega⟩
              have ho := orshl (i := j) (n := m) (x := byteV l') (by omega) HM.out (by omega)
              have d128 : decide ((byteV l' : Int) < 128) = false := by simp; omega
              clear hb2 hg2 hz h9 h0
              generalize m + byteV l' % 128 * 2 ^ (7 * j) = s at HE ho
              go_wp2
              go_roundw
              case rel => exact HE.out
              case measure => simp [intOf]; omega
          · have d0 : decide ((0 : Int) < (j : Int)) = true := by simp; omega
            have p0 : 0 < j := by omega
            by_cases x0 : byteV l' = 0
            · have e0 : ((byteV l' : Int) == 0) = true := by rw [beq_iff_eq]; omega
              have HE := Lib.hid (CntPost.bad (w := w) (b1 := (b' || l'.isEmpty)) (by rw [HC.out, HF.out]; exact cntS_bad (by simp [hb2, x0]; omega)) HP.out hg2)
              clear hb2 hg2 h9 x0
              go_wp2
              go_ret
              exact HE.out
            · have e0 : ((byteV l' : Int) == 0) = false := by rw [beq_eq_false_iff_ne]; omega
              by_cases x128 : byteV l' < 128
              · skip
                have hz : ((b' || l'.isEmpty) || (j == 9 && decide (1 < byteV l')) || (decide (0 < j) && byteV l' == 0)) = false := by simp [hb2, h9, x0]
                have HE := Lib.hid (CntPost.good (w := w) (by rw [HC.out, HF.out]; exact cntS_end hz (by omega)) (by rw [← hb2]; exact HP.out) hg2)
                have ho := orshl (i := j) (n := m) (x := byteV l') (by omega) HM.out (by omega)
                have d128 : decide ((byteV l' : Int) < 128) = true := by simp; omega
                clear hb2 hg2 hz h9
                generalize m + byteV l' % 128 * 2 ^ (7 * j) = s at HE ho
                go_wp2
                go_ret
                exact HE.out
              · skip
                have hz : ((b' || l'.isEmpty) || (j == 9 && decide (1 < byteV l')) || (decide (0 < j) && byteV l' == 0)) = false := by simp [hb2, h9, x0]
                have HE : Hid (CntRel w 151 B g l b (.int .u64 ((m + byteV l' % 128 * 2 ^ (7 * j) : Nat) : Int)) (.int .i64 ((j + 1 : Nat) : Int)) w1) := Lib.hid ⟨j + 1, _, l'.tail, false, by omega, rfl, rfl, acc_lt HM.out (by omega), by rw [← hb2]; exact HP.out, hg2, by rw [HC.out, HF.out, cntS_on hz (by omega)]; congr 1; have := HF.out; omega⟩
                have ho := orshl (i := j) (n := m) (x := byteV l') (by omega) HM.out (by omega)
                have d128 : decide ((byteV l' : Int) < 128) = false := by simp; omega
                clear hb2 hg2 hz h9
                generalize m + byteV l' % 128 * 2 ^ (7 * j) = s at HE ho
                go_wp2
                go_roundw
                case rel => exact HE.out
                case measure => simp [intOf]; omega
    · obtain rfl : j = 10 := by omega
      obtain ⟨c1, f1⟩ := hp.cells
      have HE := Lib.hid (CntPost.bad (w := w) (l' := l') (b1 := b') (by rw [HC.out]; rfl) hp hg)
      clear hp hg
      go_wp2
      go_ret
      exact HE.out
set_option maxRecDepth 20000 in
set_option maxHeartbeats 4000000 in
theorem rcnt_any (B g : Nat) (l : List UInt8) (b : Bool) (w : World) (h : PartIs w 110 B g l b) :
    Calls Try.prog 46 #[.pointer (some ⟨g, 0, none⟩)] w (CntPost w 110 B g l b) := by
  go_enter Try.func46, Try.ntmps46
  go_wp2
  go_loopw [3, 4, 5] (fun n i _ wr => CntRel w 110 B g l b n i wr) (fun _ i _ _ => 10 - (intOf i).toNat)
  case atStart => exact ⟨0, 0, l, b, by omega, rfl, rfl, by simp, h, World.grownBy.refl w _, rfl⟩
  case round =>
    obtain ⟨j, m, l', b', hj, rfl, rfl, hm, hp, hg, hcnt⟩ := hrel
    have HM := Lib.hid hm
    have HC := Lib.hid hcnt
    clear hm hcnt h
    by_cases hlt : j < 10
    · have hby := Lib.hid (rbyte_any B g l' b' _ hp)
      clear hp
      obtain ⟨f, hf⟩ : ∃ f, 10 - j = f + 1 := ⟨9 - j, by omega⟩
      have HF := Lib.hid hf
      clear hf
      have hx := byteV_lt l'
      go_wp2_with fail
      refine hby.out.mono ?_
      rintro e w1 ⟨rfl, hp1, hg1⟩
      obtain ⟨c1, f1⟩ := hp1.cells
      have hg2 := hg.trans hg1
      clear hg hg1 hby
      have HP := Lib.hid hp1
      clear hp1
      by_cases hb1 : (b' || l'.isEmpty) = true
      · rw [hb1] at c1
        have HE := Lib.hid (CntPost.bad (w := w) (b1 := (b' || l'.isEmpty)) (by rw [HC.out, HF.out]; exact cntS_bad (by rw [hb1]; rfl)) HP.out hg2)
        clear hb1 hg2
        go_wp2
        go_ret
        exact HE.out
      · have hb2 := eq_false_of_ne_true hb1
        clear hb1
        rw [hb2] at c1
        by_cases h9 : j = 9
        · have d9 : ((j : Int) == 9) = true := by rw [beq_iff_eq]; omega
          have d0 : decide ((0 : Int) < (j : Int)) = true := by simp; omega
          have p0 : 0 < j := by omega
          by_cases x1 : 1 < byteV l'
          · have e1 : decide ((1 : Int) < (byteV l' : Int)) = true := by simp; omega
            have HE := Lib.hid (CntPost.bad (w := w) (b1 := (b' || l'.isEmpty)) (by rw [HC.out, HF.out]; exact cntS_bad (by simp [hb2, h9, x1])) HP.out hg2)
            clear hb2 hg2 h9
            go_wp2
            go_ret
            exact HE.out
          · have e1 : decide ((1 : Int) < (byteV l' : Int)) = false := by simp; omega
            by_cases x0 : byteV l' = 0
            · have e0 : ((byteV l' : Int) == 0) = true := by rw [beq_iff_eq]; omega
              have HE := Lib.hid (CntPost.bad (w := w) (b1 := (b' || l'.isEmpty)) (by rw [HC.out, HF.out]; exact cntS_bad (by simp [hb2, h9, x0])) HP.out hg2)
              clear hb2 hg2 h9 x0
              go_wp2
              go_ret
              exact HE.out
            · have e0 : ((byteV l' : Int) == 0) = false := by rw [beq_eq_false_iff_ne]; omega
              have hz : ((b' || l'.isEmpty) || (j == 9 && decide (1 < byteV l')) || (decide (0 < j) && byteV l' == 0)) = false := by simp [hb2, h9, x0, x1]
              have HE := Lib.hid (CntPost.good (w := w) (by rw [HC.out, HF.out]; exact cntS_end hz (by omega)) (by rw [← hb2]; exact HP.out) hg2)
              have ho := addshl (i := j) (n := m) (x := byteV l') (by omega) HM.out (by omega)
              have d128 : decide ((byteV l' : Int) < 128) = true := by simp; omega
              clear hb2 hg2 hz h9
              generalize m + byteV l' % 128 * 2 ^ (7 * j) = s at HE ho
              go_wp2
              go_ret
              exact HE.out
        · have d9 : ((j : Int) == 9) = false := by rw [beq_eq_false_iff_ne]; omega
          by_cases h0 : j = 0
          · have d0 : decide ((0 : Int) < (j : Int)) = false := by simp; omega
            have p0 : ¬ 0 < j := by omega
            by_cases x128 : byteV l' < 128
            · skip
              have hz : ((b' || l'.isEmpty) || (j == 9 && decide (1 < byteV l')) || (decide (0 < j) && byteV l' == 0)) = false := by simp [hb2, h0]
              have HE := Lib.hid (CntPost.good (w := w) (by rw [HC.out, HF.out]; exact cntS_end hz (by omega)) (by rw [← hb2]; exact HP.out) hg2)
              have ho := addshl (i := j) (n := m) (x := byteV l') (by omega) HM.out (by omega)
              have d128 : decide ((byteV l' : Int) < 128) = true := by simp; omega
              clear hb2 hg2 hz h9 h0
              generalize m + byteV l' % 128 * 2 ^ (7 * j) = s at HE ho
              go_wp2
              go_ret
              exact HE.out
            · skip
              have hz : ((b' || l'.isEmpty) || (j == 9 && decide (1 < byteV l')) || (decide (0 < j) && byteV l' == 0)) = false := by simp [hb2, h0]
              have HE : Hid (CntRel w 110 B g l b (.int .u64 ((m + byteV l' % 128 * 2 ^ (7 * j) : Nat) : Int)) (.int .i64 ((j + 1 : Nat) : Int)) w1) := Lib.hid ⟨j + 1, _, l'.tail, false, by omega, rfl, rfl, acc_lt HM.out (by omega), by rw [← hb2]; exact HP.out, hg2, by rw [HC.out, HF.out, cntS_on hz (by omega)]; congr 1; have := HF.out; omega⟩
              have ho := addshl (i := j) (n := m) (x := byteV l') (by omega) HM.out (by omega)
              have d128 : decide ((byteV l' : Int) < 128) = false := by simp; omega
              clear hb2 hg2 hz h9 h0
              generalize m + byteV l' % 128 * 2 ^ (7 * j) = s at HE ho
              go_wp2
              go_roundw
              case rel => exact HE.out
              case measure => simp [intOf]; omega
          · have d0 : decide ((0 : Int) < (j : Int)) = true := by simp; omega
            have p0 : 0 < j := by omega
            by_cases x0 : byteV l' = 0
            · have e0 : ((byteV l' : Int) == 0) = true := by rw [beq_iff_eq]; omega
              have HE := Lib.hid (CntPost.bad (w := w) (b1 := (b' || l'.isEmpty)) (by rw [HC.out, HF.out]; exact cntS_bad (by simp [hb2, x0]; omega)) HP.out hg2)
              clear hb2 hg2 h9 x0
              go_wp2
              go_ret
              exact HE.out
            · have e0 : ((byteV l' : Int) == 0) = false := by rw [beq_eq_false_iff_ne]; omega
              by_cases x128 : byteV l' < 128
              · skip
                have hz : ((b' || l'.isEmpty) || (j == 9 && decide (1 < byteV l')) || (decide (0 < j) && byteV l' == 0)) = false := by simp [hb2, h9, x0]
                have HE := Lib.hid (CntPost.good (w := w) (by rw [HC.out, HF.out]; exact cntS_end hz (by omega)) (by rw [← hb2]; exact HP.out) hg2)
                have ho := addshl (i := j) (n := m) (x := byteV l') (by omega) HM.out (by omega)
                have d128 : decide ((byteV l' : Int) < 128) = true := by simp; omega
                clear hb2 hg2 hz h9
                generalize m + byteV l' % 128 * 2 ^ (7 * j) = s at HE ho
                go_wp2
                go_ret
                exact HE.out
              · skip
                have hz : ((b' || l'.isEmpty) || (j == 9 && decide (1 < byteV l')) || (decide (0 < j) && byteV l' == 0)) = false := by simp [hb2, h9, x0]
                have HE : Hid (CntRel w 110 B g l b (.int .u64 ((m + byteV l' % 128 * 2 ^ (7 * j) : Nat) : Int)) (.int .i64 ((j + 1 : Nat) : Int)) w1) := Lib.hid ⟨j + 1, _, l'.tail, false, by omega, rfl, rfl, acc_lt HM.out (by omega), by rw [← hb2]; exact HP.out, hg2, by rw [HC.out, HF.out, cntS_on hz (by omega)]; congr 1; have := HF.out; omega⟩
                have ho := addshl (i := j) (n := m) (x := byteV l') (by omega) HM.out (by omega)
                have d128 : decide ((byteV l' : Int) < 128) = false := by simp; omega
                clear hb2 hg2 hz h9
                generalize m + byteV l' % 128 * 2 ^ (7 * j) = s at HE ho
                go_wp2
                go_roundw
                case rel => exact HE.out
                case measure => simp [intOf]; omega
    · obtain rfl : j = 10 := by omega
      obtain ⟨c1, f1⟩ := hp.cells
      have HE := Lib.hid (CntPost.bad (w := w) (l' := l') (b1 := b') (by rw [HC.out]; rfl) hp hg)
      clear hp hg
      go_wp2
      go_ret
      exact HE.out
end Go.Proofs.Ytjhkfpemcplaaaa
