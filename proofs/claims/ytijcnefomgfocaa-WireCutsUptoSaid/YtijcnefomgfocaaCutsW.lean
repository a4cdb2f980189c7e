/-
  The walk of WireCuts: it returns true, and writes nothing that was there.
-/
import Derived.Test.YtijcnefomgfocaaCutsL
namespace Go.Proofs.Ytijcnefomgfocaa
open Go.RowKit

theorem cuts_le {qs : List (Pk × Option Addr × Nat)} {l : List Pk} {k d n j T : Nat} {q : Pk} (h : qs.map (·.1) = l) (hs : (l.map packLen).sum + k + d = n) (hn : n ≤ 1073741824) (hT : T = k + d + ((qs.take j).map fun q => packLen q.1).sum)
    (hS : ((qs.take (j + 1)).map fun q => packLen q.1).sum = ((qs.take j).map fun q => packLen q.1).sum + packLen q) : T + packLen q ≤ 1073741824 := by
  have h1 := pack_sum h (s := k + d) (n := n) (by omega) (j + 1)
  omega

set_option maxRecDepth 20000 in
set_option maxHeartbeats 8000000 in
theorem cuts_any (haw : ∀ w : World, Calls Try.prog 17 #[] w fun e w' => e = .returned (.bool true) ∧ Below w.heap.size w w') (A : Option Addr) (n c : Nat) (b : List UInt8) (Ac : Option Addr) (nc cc : Nat) (ns : List Int) (w : World) (hb : RdB w w.heap.size A n b) (hnc : n ≤ c) (hn : n ≤ 1073741824)
    (hc : RdI w w.heap.size Ac nc ns) (hcc : nc ≤ 1099511627776) (hI : ∀ z ∈ ns, I64 z) :
    Calls Try.prog 6 #[.slice A n c, .slice Ac nc cc] w fun e w' => e = .returned (.bool true) ∧ Below w.heap.size w w' := by
  obtain rfl : b.length = n := hb.len1
  have HAW := Lib.hid haw
  have HBR := Lib.hid hb
  have HCR := Lib.hid hc
  have HI := Lib.hid hI
  clear haw hb hc hI
  go_enter Try.func6, Try.ntmps6
  go_wp2_with fail
  refine (newr_any w).mono ?_
  rintro e w1 ⟨rfl, hw1⟩
  have hb1 := Blk.new w 74 #[.bool true, .slice none 0 0, .int .i64 0]
  have hz1 : w1.heap.size = w.heap.size + 1 := by rw [← hw1]; simp
  rw [hw1] at hb1
  have hbel1 : Below w.heap.size w w1 := by rw [← hw1]; exact (Below.refl _ _).alloc (Nat.le_refl _) _
  have HZ1 := Lib.hid hz1
  clear hw1 hz1
  go_wp2_with fail
  refine (newr_any w1).mono ?_
  rintro e w2 ⟨rfl, hw2⟩
  have hb2 := Blk.new w1 74 #[.bool true, .slice none 0 0, .int .i64 0]
  have hb12 := hb1.alloc (.cells #[.bool true, .slice none 0 0, .int .i64 0] 74)
  have hbel2 := hbel1.alloc hbel1.size (.cells #[.bool true, .slice none 0 0, .int .i64 0] 74)
  rw [hw2] at hb2 hb12 hbel2
  clear hw2 hb1 hbel1
  have hg12 : w.heap.size ≠ w1.heap.size := by have := HZ1.out; omega
  have hg2 : w.heap.size ≤ w1.heap.size := by have := HZ1.out; omega
  generalize w1.heap.size = g2 at hb2 hg12 hg2 ⊢
  clear HZ1 w1
  have HG12 := Lib.hid hg12
  have HG2 := Lib.hid hg2
  clear hg12 hg2
  go_wp2_with fail
  refine (HAW.out w2).mono ?_
  rintro e w3 ⟨rfl, hb3⟩
  have hbk1 := hb12.below hb3 hb12.lt
  have hbk2 := hb2.below hb3 hb2.lt
  have hbel3 := hbel2.trans (hb3.mono hbel2.size)
  clear hb12 hb2 hb3 hbel2 HAW w2
  have HF1 := Lib.hid (feedw_any w.heap.size w.heap.size w3.heap.size (.slice none 0 0) [] 0 A b.length c b w3 hbk1 (OwnB.nil 5 w3 _) hbel3.size ((HBR.out.below hbel3).more hbel3.size) (by simp; omega) (by omega) (by omega))
  go_wp2_with fail
  refine HF1.out.mono ?_
  rintro e w0 ⟨V1, qs1, K1, rfl, hq1, hp1, hbk10, ho1, hG⟩
  rw [List.nil_append] at hq1 hbk10 ho1
  have hb20 : Blk w0 g2 74 #[.bool true, .slice none 0 0, .int .i64 0] := (hG.2.2.2.2 g2 hbk2.lt (fun e => HG12.out e.symm) (by simp [Value.ownBlock])).trans hbk2
  have hbel0 : Below w.heap.size w w0 := ⟨hG.1.trans hbel3.os, hG.2.1.trans hbel3.tape, hG.2.2.1.trans hbel3.output, Nat.le_trans hbel3.size hG.2.2.2.1, fun k hk => by
    have := hbel3.size
    rw [hG.2.2.2.2 k (by omega) (by omega) (by simp [Value.ownBlock])]
    exact hbel3.block k hk⟩
  obtain ⟨A1, c1, rfl, -⟩ := OwnB.form ho1
  obtain ⟨W1, n1, rfl, hn1⟩ := hp1.len
  have HP1 := Lib.hid (hp1.base (Nat.zero_le _))
  have HQ1 := Lib.hid hq1
  have HB1 : Hid (Blk w0 w.heap.size 74 #[.bool true, .slice A1 (feed b).2.1.length c1, .int .i64 ((feed b).2.2 : Nat)]) := Lib.hid (by simpa using hbk10)
  have HB20 := Lib.hid hb20
  have HO1 := Lib.hid (own_base ho1 (Nat.zero_le _))
  have HBEL := Lib.hid hbel0
  have h0 : CW w0 g2 (b.take 0) (.slice none 0 0) (.slice none 0 0) [] w0.heap.size w0 := by
    have e : feed ([] : List UInt8) = ([], [], 0) := rfl
    unfold CW
    rw [List.take_zero, e]
    exact ⟨World.grownBy.refl _ _, by simpa using hb20, OwnB.nil 5 w0 _, Nat.le_refl _, Nat.le_refl _, PkRow.nil _ _, (fun q hq => by cases hq), rfl⟩
  have HG2LT := Lib.hid hb20.lt
  clear HF1 hG hbk1 hbk2 hbel3 hb20 hbel0 hbk10 ho1 hp1 hq1 hn1 w3
  go_wp2_with fail
  go_loopw [8, 9, 34] (fun V a i wr => ∃ j at_ : Nat, j ≤ nc ∧ i = .int .i64 j ∧ a = .int .i64 at_ ∧ at_ ≤ b.length ∧ ∃ K ps M, CW w0 g2 (b.take at_) V K ps M wr) (fun _ _ i _ => nc - (intOf i).toNat)
  case atStart => exact ⟨0, 0, Nat.zero_le _, rfl, rfl, Nat.zero_le _, _, _, _, h0⟩
  case round =>
    obtain ⟨j, at_, hj, rfl, rfl, hat, K, ps, M, hcw⟩ := hrel
    clear h0
    by_cases hlt : j < nc
    · have hbel := hcw.bel HBEL.out HG2.out
      obtain ⟨ad, z, hA, -, hz, hcell⟩ := RdI.at1 (HCR.out.below hbel) hlt
      subst hA
      obtain ⟨hz1, hz2⟩ := HI.out z (List.mem_of_getElem? hz)
      clear hz hbel
      have l1 : (0 : Int) ≤ (j : Int) := by omega
      have l2 : (j : Int) < (nc : Int) := by omega
      have l3 : wrap64 ((j : Int) + 1) = (j : Int) + 1 := by unfold wrap64; omega
      go_upto_if 39 with fail
      go_cut [11] (fun s wx => (∃ m : Nat, m ≤ 9223372036854775807 ∧ s = .int .i64 (m : Int)) ∧ wr = wx)
      case first =>
        by_cases h0 : z < 0
        · have d : decide (z < 0) = true := by rw [decide_eq_true_iff]; exact h0
          go_wp2_with fail
          go_meet
          exact ⟨⟨0, by omega, rfl⟩, rfl⟩
        · have d : decide (z < 0) = false := by rw [decide_eq_false_iff_not]; exact h0
          go_wp2_with fail
          go_meet
          exact ⟨⟨z.toNat, by omega, by congr 1; omega⟩, rfl⟩
      case rest =>
      obtain ⟨⟨m, hm, rfl⟩, rfl⟩ := hcut
      clear hcell hz1 hz2
      go_upto_region 12 with fail
      go_cut [11] (fun s wx => (∃ m' : Nat, at_ + m' ≤ b.length ∧ s = .int .i64 (m' : Int)) ∧ wr = wx)
      case first =>
        have l4 : wrap64 ((b.length : Int) - (at_ : Int)) = (b.length : Int) - (at_ : Int) := by unfold wrap64; omega
        by_cases h0 : (m : Int) ≤ (b.length : Int) - (at_ : Int)
        · have d : decide ((m : Int) ≤ (b.length : Int) - (at_ : Int)) = true := by rw [decide_eq_true_iff]; exact h0
          go_wp2_with fail
          go_meet
          exact ⟨⟨m, by omega, rfl⟩, rfl⟩
        · have d : decide ((m : Int) ≤ (b.length : Int) - (at_ : Int)) = false := by rw [decide_eq_false_iff_not]; exact h0
          go_wp2_with fail
          go_meet
          exact ⟨⟨b.length - at_, by omega, by congr 1; omega⟩, rfl⟩
      case rest =>
      obtain ⟨⟨m', hm', rfl⟩, rfl⟩ := hcut
      clear hm
      have l4 : wrap64 ((at_ : Int) + (m' : Int)) = (at_ : Int) + (m' : Int) := by unfold wrap64; omega
      have l5 : (at_ : Int) + (m' : Int) ≤ (b.length : Int) := by omega
      have l6 : ((at_ : Int) + (m' : Int)).toNat = at_ + m' := by omega
      have l7 : (at_ : Int) ≤ (at_ : Int) + (m' : Int) := by omega
      have l8 : (at_ : Int) + (m' : Int) ≤ (c : Int) := by omega
      have hbel := hcw.bel HBEL.out HG2.out
      have hrb := rd_mid ((HBR.out.below hbel).more hbel.size) hnc (show at_ + m' ≤ b.length by omega)
      have hK := hcw.2.2.1
      obtain ⟨A2, c2, rfl, -⟩ := OwnB.form hK
      have hbk := hcw.2.1
      have hMw := hcw.2.2.2.2.1
      have hkl : (feed (b.take at_)).2.1.length < 1088 := feed_lt _
      have hdl : (feed (b.take at_)).2.2 ≤ at_ := by have := (feed_all (b.take at_)).1; rw [List.length_take] at this; omega
      have hpl : ps.length ≤ at_ := by
        have h1 := congrArg List.length hcw.2.2.2.2.2.2.2
        have h2 := feed_num (b.take at_)
        rw [List.length_map] at h1
        rw [List.length_take] at h2
        omega
      have HF := Lib.hid fun A' (hA : A' = if c = at_ then A else A.map (·.add at_)) => feeds_any g2 M wr.heap.size (.slice A2 (feed (b.take at_)).2.1.length c2) (feed (b.take at_)).2.1 ((feed (b.take at_)).2.2 : Nat) A' (m') (c - at_) ((b.drop at_).take (m')) wr hbk hK hMw (by rw [hA]; exact hrb) (by omega) (by omega) (by omega)
      have HCW := Lib.hid hcw
      clear hbel hrb hK hMw hbk hcw hdl
      have l9 : (0 : Int) ≤ (at_ : Int) := by omega
      have l10 : (at_ : Int) ≤ (b.length : Int) := by omega

      by_cases hca : c = at_
      · have HFc := Lib.hid (HF.out A (by rw [if_pos hca]))
        rw [show c - at_ = 0 from by omega] at HFc
        have hca2 := hca.symm
        subst hca2
        clear hca
        go_wp2_with fail
        refine HFc.out.mono ?_
        rintro e w5 ⟨V5, qs, K5, M5, rfl, hq5, hp5, hb5, ho5, hM5, hM51, hqM5, hG5⟩
        have hql : qs.length ≤ 1073741824 + 1088 := fed_len hq5 hkl (Nat.le_trans (show m' ≤ b.length from by omega) hn)
        have hfd := HCW.out.fed hG5
        obtain ⟨A5, n5, rfl, hn5⟩ := hp5.len
        have hr5 := hp5.prd.2.1
        have hs5 := hfd.1.size
        have hpl2 := fed_room hpl hat hn hql
        have hpl3 := hpl2.2
        clear HF HFc
        go_wp2_with (at_builtin; refine wpList_appE rfl (.tmp 46) (.tmp 54) 67 rfl w0.heap.size 26 _ 5 56 info26 Try.underlying67 rfl (by decide) u8 _ _ rfl hfd.2.1 _ A5 qs.length n5 _ rfl hr5 (pq_one _) hpl2.1 hpl3 hs5 ?_; intro V6 w6 hoV hgV; obtain ⟨A6, c6, rfl⟩ := own_form hoV; have hcw6 := HCW.out.told hG5 hq5 hp5 hb5 ho5 hM5 hM51 hqM5 hgV hoV; rw [← take_mid] at hcw6; obtain ⟨A7, c7, rfl, -⟩ := OwnB.form hcw6.2.2.1; have HCW6 := Lib.hid hcw6; have hbk6 := hcw6.2.1; clear hcw6 hoV hgV hfd hr5 hG5 hq5 hp5 hb5 ho5 hM5 hM51 hqM5 hpl2 hpl3 hs5 hql)
        have hk2 := feed_lt (b.take (at_ + m'))
        have l11 : decide ((1088 : Int) ≤ ((feed (b.take (at_ + m'))).2.1.length : Int)) = false := by rw [decide_eq_false_iff_not]; omega
        have HW := Lib.hid (waiting_any g2 _ A7 _ c7 _ w6 hbk6)
        clear hbk6
        refine HW.out.mono ?_
        rintro e w7 ⟨rfl, rfl⟩
        clear HW
        go_wp2_with fail
        go_roundw
        case rel => exact ⟨j + 1, at_ + m', by omega, by go_num, by go_num, hm', _, _, _, HCW6.out⟩
        case measure => simp [intOf]; omega
      · have HFc := Lib.hid (HF.out (A.map (·.add at_)) (by rw [if_neg hca]))
        go_wp2_with fail
        refine HFc.out.mono ?_
        rintro e w5 ⟨V5, qs, K5, M5, rfl, hq5, hp5, hb5, ho5, hM5, hM51, hqM5, hG5⟩
        have hql : qs.length ≤ 1073741824 + 1088 := fed_len hq5 hkl (Nat.le_trans (show m' ≤ b.length from by omega) hn)
        have hfd := HCW.out.fed hG5
        obtain ⟨A5, n5, rfl, hn5⟩ := hp5.len
        have hr5 := hp5.prd.2.1
        have hs5 := hfd.1.size
        have hpl2 := fed_room hpl hat hn hql
        have hpl3 := hpl2.2
        clear HF HFc
        go_wp2_with (at_builtin; refine wpList_appE rfl (.tmp 46) (.tmp 54) 67 rfl w0.heap.size 26 _ 5 56 info26 Try.underlying67 rfl (by decide) u8 _ _ rfl hfd.2.1 _ A5 qs.length n5 _ rfl hr5 (pq_one _) hpl2.1 hpl3 hs5 ?_; intro V6 w6 hoV hgV; obtain ⟨A6, c6, rfl⟩ := own_form hoV; have hcw6 := HCW.out.told hG5 hq5 hp5 hb5 ho5 hM5 hM51 hqM5 hgV hoV; rw [← take_mid] at hcw6; obtain ⟨A7, c7, rfl, -⟩ := OwnB.form hcw6.2.2.1; have HCW6 := Lib.hid hcw6; have hbk6 := hcw6.2.1; clear hcw6 hoV hgV hfd hr5 hG5 hq5 hp5 hb5 ho5 hM5 hM51 hqM5 hpl2 hpl3 hs5 hql)
        have hk2 := feed_lt (b.take (at_ + m'))
        have l11 : decide ((1088 : Int) ≤ ((feed (b.take (at_ + m'))).2.1.length : Int)) = false := by rw [decide_eq_false_iff_not]; omega
        have HW := Lib.hid (waiting_any g2 _ A7 _ c7 _ w6 hbk6)
        clear hbk6
        refine HW.out.mono ?_
        rintro e w7 ⟨rfl, rfl⟩
        clear HW
        go_wp2_with fail
        go_roundw
        case rel => exact ⟨j + 1, at_ + m', by omega, by go_num, by go_num, hm', _, _, _, HCW6.out⟩
        case measure => simp [intOf]; omega
    · have hT0 : True := trivial
      have hbel := hcw.bel HBEL.out HG2.out
      have hrb := rd_mid ((HBR.out.below hbel).more hbel.size) hnc (show at_ + (b.length - at_) ≤ b.length by omega)
      have hK := hcw.2.2.1
      obtain ⟨A2, c2, rfl, -⟩ := OwnB.form hK
      have hbk := hcw.2.1
      have hMw := hcw.2.2.2.2.1
      have hkl : (feed (b.take at_)).2.1.length < 1088 := feed_lt _
      have hdl : (feed (b.take at_)).2.2 ≤ at_ := by have := (feed_all (b.take at_)).1; rw [List.length_take] at this; omega
      have hpl : ps.length ≤ at_ := by
        have h1 := congrArg List.length hcw.2.2.2.2.2.2.2
        have h2 := feed_num (b.take at_)
        rw [List.length_map] at h1
        rw [List.length_take] at h2
        omega
      have HF := Lib.hid fun A' (hA : A' = if c = at_ then A else A.map (·.add at_)) => feeds_any g2 M wr.heap.size (.slice A2 (feed (b.take at_)).2.1.length c2) (feed (b.take at_)).2.1 ((feed (b.take at_)).2.2 : Nat) A' ((b.length - at_)) (c - at_) ((b.drop at_).take ((b.length - at_))) wr hbk hK hMw (by rw [hA]; exact hrb) (by omega) (by omega) (by omega)
      have HCW := Lib.hid hcw
      clear hbel hrb hK hMw hbk hcw hdl
      have l9 : (0 : Int) ≤ (at_ : Int) := by omega
      have l10 : (at_ : Int) ≤ (b.length : Int) := by omega

      have l8 : (at_ : Int) ≤ (c : Int) := by omega
      clear hT0
      go_upto_region 18 with fail
      clear hj hlt
      go_cut [8] (fun V wx => ∃ wz K' ps' M', wz = wx ∧ CW w0 g2 b V K' ps' M' wx)
      case first =>
        by_cases hca : c = at_
        · have HFc := Lib.hid (HF.out A (by rw [if_pos hca]))
          rw [show c - at_ = 0 from by omega, show b.length - at_ = 0 from by omega] at HFc
          have HZ : Hid (b.length ≤ at_) := Lib.hid (by omega)
          have hca2 := hca.symm
          subst hca2
          clear hca
          go_wp2_with fail
          refine HFc.out.mono ?_
          rintro e w5 ⟨V5, qs, K5, M5, rfl, hq5, hp5, hb5, ho5, hM5, hM51, hqM5, hG5⟩
          have hql : qs.length ≤ 1073741824 + 1088 := fed_len hq5 hkl (Nat.le_trans (show 0 ≤ b.length from by omega) hn)
          have hfd := HCW.out.fed hG5
          obtain ⟨A5, n5, rfl, hn5⟩ := hp5.len
          have hr5 := hp5.prd.2.1
          have hs5 := hfd.1.size
          have hpl2 := fed_room hpl hat hn hql
          have hpl3 := hpl2.2
          clear HF HFc
          go_wp2_with (at_builtin; refine wpList_appE rfl (.tmp 63) (.tmp 68) 67 rfl w0.heap.size 26 _ 5 56 info26 Try.underlying67 rfl (by decide) u8 _ _ rfl hfd.2.1 _ A5 qs.length n5 _ rfl hr5 (pq_one _) hpl2.1 hpl3 hs5 ?_; intro V6 w6 hoV hgV; obtain ⟨A6, c6, rfl⟩ := own_form hoV; have hcw6 := HCW.out.told hG5 hq5 hp5 hb5 ho5 hM5 hM51 hqM5 hgV hoV; rw [take_rest0 b at_ HZ.out] at hcw6; obtain ⟨A7, c7, rfl, -⟩ := OwnB.form hcw6.2.2.1; have HCW6 := Lib.hid hcw6; have hbk6 := hcw6.2.1; clear hcw6 hoV hgV hfd hr5 hG5 hq5 hp5 hb5 ho5 hM5 hM51 hqM5 hpl2 hpl3 hs5 hql)
          go_meet
          exact ⟨_, _, _, _, rfl, HCW6.out⟩
        · have HFc := Lib.hid (HF.out (A.map (·.add at_)) (by rw [if_neg hca]))
          go_wp2_with fail
          refine HFc.out.mono ?_
          rintro e w5 ⟨V5, qs, K5, M5, rfl, hq5, hp5, hb5, ho5, hM5, hM51, hqM5, hG5⟩
          have hql : qs.length ≤ 1073741824 + 1088 := fed_len hq5 hkl (Nat.le_trans (show b.length - at_ ≤ b.length from by omega) hn)
          have hfd := HCW.out.fed hG5
          obtain ⟨A5, n5, rfl, hn5⟩ := hp5.len
          have hr5 := hp5.prd.2.1
          have hs5 := hfd.1.size
          have hpl2 := fed_room hpl hat hn hql
          have hpl3 := hpl2.2
          clear HF HFc
          go_wp2_with (at_builtin; refine wpList_appE rfl (.tmp 63) (.tmp 68) 67 rfl w0.heap.size 26 _ 5 56 info26 Try.underlying67 rfl (by decide) u8 _ _ rfl hfd.2.1 _ A5 qs.length n5 _ rfl hr5 (pq_one _) hpl2.1 hpl3 hs5 ?_; intro V6 w6 hoV hgV; obtain ⟨A6, c6, rfl⟩ := own_form hoV; have hcw6 := HCW.out.told hG5 hq5 hp5 hb5 ho5 hM5 hM51 hqM5 hgV hoV; rw [take_rest] at hcw6; obtain ⟨A7, c7, rfl, -⟩ := OwnB.form hcw6.2.2.1; have HCW6 := Lib.hid hcw6; have hbk6 := hcw6.2.1; clear hcw6 hoV hgV hfd hr5 hG5 hq5 hp5 hb5 ho5 hM5 hM51 hqM5 hpl2 hpl3 hs5 hql)
          go_meet
          exact ⟨_, _, _, _, rfl, HCW6.out⟩
      case rest =>
      obtain ⟨wx, K', ps', M', rfl, hcw6⟩ := hcut
      clear HF HCW hkl hpl hat l8 l9 l10 HCR HI hcc hnc HG2LT HBR HO1
      obtain ⟨A7, c7, rfl, -⟩ := OwnB.form hcw6.2.2.1
      obtain ⟨A6, c6, rfl, -⟩ := hcw6.2.2.2.2.2.1.len
      have HCW6 := Lib.hid hcw6
      have hb16 : Blk wx w.heap.size 74 _ := HB1.out.grown HCW6.out.1 (fun e => HG12.out (by injection e))
      have HB16 := Lib.hid hb16
      have HB26 := Lib.hid hcw6.2.1
      have HP6 := Lib.hid (HP1.out.far HB20.out (by decide) (by decide) HCW6.out.1).prd
      have HP26 := Lib.hid HCW6.out.2.2.2.2.2.1.prd
      have HEND := Lib.hid (HCW6.out.bel HBEL.out HG2.out)
      have HMAP := Lib.hid (HQ1.out.trans HCW6.out.2.2.2.2.2.2.2.symm)
      have HALL := Lib.hid (feed_all b)
      have HK2 := Lib.hid (feed_lt b)
      clear hb16 HCW6 hcw6
      obtain ⟨k1, HKK⟩ : ∃ k1, Hid ((feed b).2.1.length = k1) := ⟨_, rfl⟩
      obtain ⟨d1, HDD⟩ : ∃ d1, Hid ((feed b).2.2 = d1) := ⟨_, rfl⟩
      obtain ⟨nb, HNB⟩ : ∃ nb, Hid (b.length = nb) := ⟨_, rfl⟩
      rw [HKK.out, HDD.out, HNB.out] at HALL
      rw [HKK.out, HDD.out] at HB16 HB26
      rw [HKK.out] at HK2
      have HQ1L : Hid (qs1.length ≤ 1073741824) := Lib.hid (num_le2 HQ1.out hn)
      have HNL := Lib.hid (num_le HQ1.out hn)
      rw [HNB.out] at hn
      have HN := Lib.hid hn
      have hq1l := HQ1L.out
      clear hn HB20 HB1 HP1 HBEL
      have HW1 := Lib.hid (waiting_any w.heap.size _ A1 k1 c1 _ wx HB16.out)
      have HD1 := Lib.hid (dropped_any w.heap.size _ _ _ wx HB16.out)
      rw [HNB.out]
      go_wp2_with fail
      refine HW1.out.mono ?_
      rintro e w7 ⟨rfl, rfl⟩
      go_wp2_with fail
      refine HD1.out.mono ?_
      rintro e w7 ⟨rfl, rfl⟩
      have l12 : k1 + d1 ≤ 1073741824 := by have h1 := HALL.out.1; have h2 := HN.out; omega
      clear HW1 HD1
      go_wp2_with fail
      go_loopw [12, 77] (fun nn i wr => ∃ j T : Nat, j ≤ qs1.length ∧ i = .int .i64 j ∧ nn = .int .i64 (T : Int) ∧ T = k1 + d1 + ((qs1.take j).map fun q => packLen q.1).sum ∧ Below wx.heap.size wx wr) (fun _ i _ => qs1.length - (intOf i).toNat)
      case atStart => exact ⟨0, k1 + d1, Nat.zero_le _, rfl, by go_num, by simp, Below.refl _ _⟩
      case round =>
        obtain ⟨jj, T, hj, rfl, rfl, hT, hbz⟩ := hrel
        have HT := Lib.hid hT
        clear hT l12
        by_cases hlt : jj < qs1.length
        · have hpr := HP6.out.2.below hbz
          obtain ⟨bb, off, q, hA, hq, e0, e1, e2, e3, e4⟩ := hpr.at5 hlt
          subst hA
          have hrq := (hpr.2 q (List.mem_of_getElem? hq))
          have HSUM : Hid (((qs1.take (jj + 1)).map fun q => packLen q.1).sum = ((qs1.take jj).map fun q => packLen q.1).sum + packLen q.1) := Lib.hid (by rw [List.take_add_one, hq]; simp)
          have hok := HALL.out.2 q.1 (by rw [← HQ1.out]; exact List.mem_map_of_mem (List.mem_of_getElem? hq))
          have hle : T + packLen q.1 ≤ 1073741824 := cuts_le HQ1.out HALL.out.1 HN.out HT.out HSUM.out
          obtain ⟨⟨qk, qt, qsq, qa, qb⟩, qA, qc⟩ := q
          dsimp only at e0 e1 e2 e3 e4 hrq hok
          obtain ⟨hok0, hok1, hok2, hok3⟩ := hok
          dsimp only at hok0 hok1 hok2 hok3
          have hpk : packLen ⟨qk, qt, qsq, qa, qb⟩ = (packB qk qt qsq qa qb).length := rfl
          rw [hpk] at hle HSUM
          have l1 : (0 : Int) ≤ (jj : Int) := by omega
          have l2 : (jj : Int) < (qs1.length : Int) := by omega
          have hX := Blk.new wr 26 #[.int .i64 qk, .int .u64 qt, .int .u64 qsq, .int .u64 qa, .slice qA qb.length qc]
          have hbz2 := hbz.alloc hbz.size (.cells #[.int .i64 qk, .int .u64 qt, .int .u64 qsq, .int .u64 qa, .slice qA qb.length qc] 26)
          have hrq2 := (hrq.alloc (Nat.le_refl _) (.cells #[.int .i64 qk, .int .u64 qt, .int .u64 qsq, .int .u64 qa, .slice qA qb.length qc] 26)).more (B' := (wr.alloc (.cells #[.int .i64 qk, .int .u64 qt, .int .u64 qsq, .int .u64 qa, .slice qA qb.length qc] 26)).heap.size) (by simp)
          have HPACK := Lib.hid (pack_ok (qk : Int) qt qsq qa qA qb.length qc qb (wr.alloc (.cells #[.int .i64 qk, .int .u64 qt, .int .u64 qsq, .int .u64 qa, .slice qA qb.length qc] 26)) hrq2 hok0 hok1 hok2 hok3)
          clear hpr hrq hrq2 hq hok0 hok1 hok2 hok3 hpk
          go_upto_region 23 with fail
          generalize wr.alloc (.cells #[.int .i64 qk, .int .u64 qt, .int .u64 qsq, .int .u64 qa, .slice qA qb.length qc] 26) = wy at hX hbz2 HPACK ⊢
          generalize wr.heap.size = gy at hX ⊢
          clear e0 e1 e2 e3 e4 hbz wr
          have x0 := hX.cell 0
          have x1 := hX.cell 1
          have x2 := hX.cell 2
          have x3 := hX.cell 3
          have x4 := hX.cell 4
          simp at x0 x1 x2 x3 x4
          go_wp2_with fail
          refine HPACK.out.mono ?_
          rintro e wx8 ⟨v, rfl, hov, hbx⟩
          obtain ⟨A8, c8, rfl, -⟩ := OwnB.form hov
          have hbz3 := hbz2.trans (hbx.mono hbz2.size)
          generalize (packB qk qt qsq qa qb).length = L8 at HSUM hle ⊢
          have HBZ := Lib.hid hbz3
          clear hov hbx hbz2 hX HPACK x0 x1 x2 x3 x4 hbz3
          go_wp2_with fail
          go_roundw
          case rel => exact ⟨jj + 1, T + L8, hlt, by go_num, by go_num, by rw [HSUM.out, HT.out, Nat.add_assoc], HBZ.out⟩
          case measure =>
            simp [intOf]
            exact meas3 hlt
        · obtain rfl : jj = qs1.length := by omega
          have HTOT : Hid (T = nb) := Lib.hid (by rw [HT.out]; exact pack_all HQ1.out (by have := HALL.out.1; omega))
          rw [HTOT.out]
          have HSAME := Lib.hid (samep_any W1 A6 _ _ n1 c6 qs1 ps' wr (HP6.out.2.below hbz) (HP26.out.2.below hbz) rfl rfl HMAP.out HNL.out)
          have hbz0 := Lib.hid hbz
          clear hbz hlt hj hq1l
          go_wp2_with fail
          refine HSAME.out.mono ?_
          rintro e w9 ⟨rfl, hb9⟩
          have hbz9 := hbz0.out.trans (hb9.mono hbz0.out.size)
          have hbe1 := HB16.out.below hbz9 HB16.out.lt
          have hbe2 := HB26.out.below hbz9 HB26.out.lt
          have HWa := Lib.hid (waiting_any w.heap.size _ A1 k1 c1 _ w9 hbe1)
          have HWb := Lib.hid (waiting_any g2 _ A7 k1 c7 _ w9 hbe2)
          have HDa := Lib.hid (dropped_any w.heap.size _ _ _ w9 hbe1)
          have HDb := Lib.hid (dropped_any g2 _ _ _ w9 hbe2)
          have HE9 := Lib.hid (HEND.out.trans (hbz9.mono HEND.out.size))
          clear hbe1 hbe2 hbz9 hb9 HSAME
          go_wp2_with fail
          refine HWa.out.mono ?_
          rintro e w10 ⟨rfl, rfl⟩
          go_wp2_with fail
          refine HWb.out.mono ?_
          rintro e w10 ⟨rfl, rfl⟩
          go_wp2_with fail
          refine HDa.out.mono ?_
          rintro e w10 ⟨rfl, rfl⟩
          go_wp2_with fail
          refine HDb.out.mono ?_
          rintro e w10 ⟨rfl, rfl⟩
          go_wp2_with fail
          refine HWa.out.mono ?_
          rintro e w10 ⟨rfl, rfl⟩
          have hk2 := HK2.out
          have hd1088 : decide ((k1 : Int) < 1088) = true := by rw [decide_eq_true_iff]; omega
          clear HWa HWb HDa HDb
          go_wp2_with fail
          go_ret
          exact ⟨by simp, HE9.out⟩
end Go.Proofs.Ytijcnefomgfocaa
