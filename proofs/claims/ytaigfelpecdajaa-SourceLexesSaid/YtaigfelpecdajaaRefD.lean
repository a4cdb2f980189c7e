/-
  The walk of the document's integer.
-/
import Derived.Test.YtaigfelpecdajaaRefC
namespace Go.Proofs.Ytaigfelpecdajaa
open Go.RowKit

set_option maxRecDepth 100000 in
theorem fig0 : Lx.figB 0 = false := by decide
theorem figB_at {s : ByteArray} {i : Nat} : Lx.figB (atN s.data.toList i) = (s.data.toList[i]?.map Lx.figB).getD false := by
  unfold atN
  cases h : s.data.toList[i]? with
  | none => exact fig0
  | some x => rfl
theorem atN_yes {l : List UInt8} {i : Nat} {b : UInt8} (h : Lx.isAt l i b = true) : atN l i = b := by
  unfold Lx.isAt at h
  unfold atN
  have : l[i]? = some b := by simpa using h
  rw [this]; rfl
theorem atN_no {l : List UInt8} {i : Nat} {b : UInt8} (h : Lx.isAt l i b = false) (hb : ¬ b = 0) : ¬ atN l i = b := by
  unfold Lx.isAt at h
  unfold atN
  intro e
  cases hx : l[i]? with
  | none => rw [hx] at e; exact hb e.symm
  | some x => rw [hx] at e h; simp at e h; exact h e
theorem cut_snoc {l : List UInt8} {i q : Nat} {x : UInt8} (h : i ≤ q) (hx : l[q]? = some x) : Lx.cut l i (q + 1) = Lx.cut l i q ++ [x] := by
  have hl := Lx.get_lt hx
  unfold Lx.cut
  rw [List.take_add_one, hx, List.drop_append, show i - (l.take q).length = 0 from by simp; omega]
  rfl
theorem cut_cons {l : List UInt8} {q k : Nat} {x : UInt8} (h : q < k) (hx : l[q]? = some x) : Lx.cut l q k = x :: Lx.cut l (q + 1) k := by
  unfold Lx.cut
  exact Lx.drop_at (by rw [List.getElem?_take_of_lt h]; exact hx)
theorem cut_nil (l : List UInt8) (k : Nat) : Lx.cut l k k = [] := by
  unfold Lx.cut
  exact List.drop_eq_nil_of_le (by simp; omega)
theorem cut_at {l : List UInt8} {a x b : Nat} {y : UInt8} (h : a ≤ x) (hx : x < b) (hy : l[x]? = some y) : y ∈ Lx.cut l a b := by
  unfold Lx.cut
  refine List.mem_of_getElem? (i := x - a) ?_
  rw [List.getElem?_drop, show a + (x - a) = x from by omega, List.getElem?_take_of_lt hx]
  exact hy
theorem cut_mem {l : List UInt8} {i q j : Nat} {x : UInt8} (hq : q ≤ j) (hx : x ∈ Lx.cut l i q) : x ∈ Lx.cut l i j := by
  unfold Lx.cut at hx ⊢
  have e : l.take q = (l.take j).take q := by rw [List.take_take, Nat.min_eq_left hq]
  rw [e, List.drop_take] at hx
  exact List.mem_of_mem_take hx
theorem neb_no {x b : UInt8} {c : Int} (hc : c = (b.toNat : Int)) (h : x = b) : ((x.toNat : Int) != c) = false := by rw [hc, h]; simp
theorem neb_yes {x b : UInt8} {c : Int} (hc : c = (b.toNat : Int)) (h : ¬ x = b) : ((x.toNat : Int) != c) = true := by
  rw [bne_iff_ne, hc]
  intro e
  exact h (by rw [← UInt8.toNat_inj]; omega)
set_option maxRecDepth 20000 in
set_option maxHeartbeats 4000000 in
theorem rint_any (s : ByteArray) (i : Nat) (w : World) (hs : s.size ≤ 65536) (hi : i < s.size) (hdg : Lx.digB (s[i]'hi) = true) :
    Calls Try.prog 36 #[.string s, .int .i64 (i : Int)] w fun e w' => e = .returned (quoR (Lx.numF s.data.toList i)) ∧ Below w.heap.size w w' := by
  have HJ0 := Lib.hid (Lx.run_pos (get_in hi) hdg)
  clear hdg
  go_enter Try.func36, Try.ntmps36
  go_upto_block 0 with fail
  go_cut [6] (fun s6 wx => s6 = .int .i64 (Lx.runF Lx.digB s.data.toList i : Nat) ∧ w = wx)
  case first =>
    go_wp2
    go_loopw [6] (fun e wx => ∃ k : Nat, k ≤ s.size ∧ e = .int .i64 k ∧ Lx.runF Lx.digB s.data.toList k = Lx.runF Lx.digB s.data.toList i ∧ w = wx) (fun e _ => s.size - (intOf e).toNat)
    case atStart => exact ⟨i, Nat.le_of_lt hi, rfl, rfl, rfl⟩
    case round =>
      obtain ⟨k, hk, rfl, hrun, rfl⟩ := hrel
      have HRUN := Lib.hid hrun
      clear hrun
      by_cases hkl : k < s.size
      · have HX := Lib.hid (get_in hkl)
        cases hd : Lx.digB (s[k]'hkl) with
        | true =>
          have HST := Lib.hid ((Lx.runF_step HX.out hd).trans HRUN.out)
          go_wp2_with (go_at_call 33; refine (rdigit_any _ _).mono ?_; rintro e w' ⟨rfl, rfl⟩; rw [hd])
          go_roundw
          case rel => exact ⟨k + 1, hkl, by go_num, HST.out, by first | rfl | trivial⟩
          case measure => simp [intOf]; omega
        | false =>
          have HST := Lib.hid ((Lx.runF_stop HX.out hd).symm.trans HRUN.out)
          go_wp2_with (go_at_call 33; refine (rdigit_any _ _).mono ?_; rintro e w' ⟨rfl, rfl⟩; rw [hd])
          go_meet
          exact ⟨by rw [← HST.out], by first | rfl | trivial⟩
      · have HST := Lib.hid ((Lx.runF_end (p := Lx.digB) (l := s.data.toList) (i := k) (by simp; omega)).symm.trans HRUN.out)
        go_wp2
        go_meet
        exact ⟨by rw [← HST.out], by first | rfl | trivial⟩
  case rest =>
  obtain ⟨rfl, rfl⟩ := hcut
  have HJ2 : Hid (Lx.runF Lx.digB s.data.toList i ≤ s.size) := Lib.hid (by have := Lx.runF_le Lx.digB s.data.toList i (by simp; exact Nat.le_of_lt hi); simpa using this)
  have HDS := Lib.hid (Lx.cut_run_all Lx.digB s.data.toList i)
  have HNN := Lib.hid fun h => Lx.numF_n (l := s.data.toList) (i := i) h
  have HNR := Lib.hid fun h => Lx.numF_r (l := s.data.toList) (i := i) h
  have HNR2 := Lib.hid fun h => Lx.numF_r2 (l := s.data.toList) (i := i) h
  generalize Lx.runF Lx.digB s.data.toList i = j at *
  have j1 := HJ0.out
  have j2 := HJ2.out
  have HCL : Hid ((Lx.cut s.data.toList i j).length = j - i) := Lib.hid (Lx.cut_len _ _ _ (by simpa using j2))
  go_upto_region 4 with fail
  go_cut [37] (fun s37 wx => s37 = .bool (!Lx.rB s.data.toList j) ∧ w = wx)
  case first =>
    cases hr : Lx.isAt s.data.toList j 114 with
    | false =>
      have d : (((atN s.data.toList j).toNat : Int) != 114) = true := neb_yes (b := 114) rfl (atN_no hr (by decide))
      have HV : Hid (Lx.rB s.data.toList j = false) := Lib.hid (rB_no hr)
      clear hr
      go_wp2_with (go_at_call 34; refine (rat_any s _ j _ rfl).mono ?_; rintro e w' ⟨rfl, rfl⟩)
      go_meet
      exact ⟨by rw [HV.out]; rfl, rfl⟩
    | true =>
      have d : (((atN s.data.toList j).toNat : Int) != 114) = false := neb_no (b := 114) rfl (atN_yes hr)
      have HV : Hid (Lx.rB s.data.toList j = Lx.figB (atN s.data.toList (j + 1))) := Lib.hid (by unfold Lx.rB; rw [hr, figB_at]; rfl)
      clear hr
      go_wp2_with fail
      refine (rat_any s _ j _ rfl).mono ?_
      rintro e w' ⟨rfl, rfl⟩
      go_wp2_with fail
      refine (rat_any s _ (j + 1) _ (by go_num)).mono ?_
      rintro e w' ⟨rfl, rfl⟩
      go_wp2_with fail
      refine (rfigure_any _ _).mono ?_
      rintro e w' ⟨rfl, rfl⟩
      go_wp2
      go_meet
      exact ⟨by rw [HV.out], rfl⟩
  case rest =>
  obtain ⟨rfl, rfl⟩ := hcut
  go_upto_if 37 with fail
  by_cases hq : Lx.rB s.data.toList j = true
  · rw [hq, Bool.not_true]
    have hj1 := rB_lt hq
    have HR1 := Lib.hid (HNR.out hq)
    have HR2 := Lib.hid (HNR2.out hq)
    clear hq
    go_upto_block 4 with fail
    go_cut [7] (fun s7 wx => s7 = .int .i64 (Lx.runF Lx.figB s.data.toList (j + 1) : Nat) ∧ w = wx)
    case first =>
      go_wp2
      go_loopw [7] (fun e wx => ∃ k : Nat, k ≤ s.size ∧ e = .int .i64 k ∧ Lx.runF Lx.figB s.data.toList k = Lx.runF Lx.figB s.data.toList (j + 1) ∧ w = wx) (fun e _ => s.size - (intOf e).toNat)
      case atStart => exact ⟨j + 1, Nat.le_of_lt hj1, by go_num, rfl, rfl⟩
      case round =>
        obtain ⟨k, hk, rfl, hrun, rfl⟩ := hrel
        have HRUN := Lib.hid hrun
        clear hrun
        by_cases hkl : k < s.size
        · have HX := Lib.hid (get_in hkl)
          cases hd : Lx.figB (s[k]'hkl) with
          | true =>
            have HST := Lib.hid ((Lx.runF_step HX.out hd).trans HRUN.out)
            go_wp2_with (go_at_call 54; refine (rfigure_any _ _).mono ?_; rintro e w' ⟨rfl, rfl⟩; rw [hd])
            go_roundw
            case rel => exact ⟨k + 1, hkl, by go_num, HST.out, by first | rfl | trivial⟩
            case measure => simp [intOf]; omega
          | false =>
            have HST := Lib.hid ((Lx.runF_stop HX.out hd).symm.trans HRUN.out)
            go_wp2_with (go_at_call 54; refine (rfigure_any _ _).mono ?_; rintro e w' ⟨rfl, rfl⟩; rw [hd])
            go_meet
            exact ⟨by rw [← HST.out], by first | rfl | trivial⟩
        · have HST := Lib.hid ((Lx.runF_end (p := Lx.figB) (l := s.data.toList) (i := k) (by simp; omega)).symm.trans HRUN.out)
          go_wp2
          go_meet
          exact ⟨by rw [← HST.out], by first | rfl | trivial⟩
    case rest =>
    obtain ⟨rfl, rfl⟩ := hcut
    have HK1 := Lib.hid (Lx.runF_ge Lx.figB s.data.toList (j + 1))
    have HK2 : Hid (Lx.runF Lx.figB s.data.toList (j + 1) ≤ s.size) := Lib.hid (by have := Lx.runF_le Lx.figB s.data.toList (j + 1) (by simp; omega); simpa using this)
    have HFS := Lib.hid (Lx.cut_run_all Lx.figB s.data.toList (j + 1))
    generalize Lx.runF Lx.figB s.data.toList (j + 1) = k at *
    have k1 := HK1.out
    have k2 := HK2.out
    have HCK : Hid ((Lx.cut s.data.toList (j + 1) k).length = k - (j + 1)) := Lib.hid (Lx.cut_len _ _ _ (by simpa using k2))
    by_cases h2 : 2 < j - i
    · have HE : Hid (Lx.numF s.data.toList i = none) := Lib.hid (HR2.out h2)
      have l1 : (2 : Int) < (j : Int) - (i : Int) := by omega
      clear h2
      go_wp2
      go_ret2
      exact ⟨by rw [HE.out, quoRn]; rfl, Below.refl _ _⟩
    · have HR3 := Lib.hid (HR1.out h2)
      have l1 : ¬ (2 : Int) < (j : Int) - (i : Int) := by omega
      by_cases hlong : 1000 < k - (j + 1)
      · have HE : Hid (Lx.numF s.data.toList i = none) := Lib.hid (by rw [HR3.out, Lx.decF_bad (by rw [HCK.out]; omega)]; rfl)
        have l2 : (1000 : Int) < (k : Int) - (j : Int) - 1 := by omega
        clear hlong h2
        go_wp2
        go_ret2
        exact ⟨by rw [HE.out, quoRn]; rfl, Below.refl _ _⟩
      · have l2 : ¬ (1000 : Int) < (k : Int) - (j : Int) - 1 := by omega
        have hji : j ≤ i + 2 := by omega
        have hkj : k ≤ j + 1001 := by omega
        clear hlong h2
        have HB99 : Hid (∀ q, q ≤ j → Lx.baseN (Lx.cut s.data.toList i q) 0 ≤ 99) := Lib.hid fun q hq => Lx.baseN_le (fun x hx => HDS.out x (cut_mem hq hx)) (by simp [Lx.cut]; omega)
        go_wp2
        go_loop [8, 9] (fun s8 e => ∃ q : Nat, i ≤ q ∧ q ≤ j ∧ e = .int .i64 q ∧ s8 = .int .i64 (Lx.baseN (Lx.cut s.data.toList i q) 0 : Nat)) (fun _ e => j - (intOf e).toNat)
        case atStart => exact ⟨i, Nat.le_refl _, by omega, rfl, by rw [cut_nil]; rfl⟩
        case round =>
          obtain ⟨q, hiq, hqj, rfl, rfl⟩ := hrel
          by_cases hql : q < j
          · have hqs : q < s.size := by omega
            have hx := get_in hqs
            have HTK := Lib.hid (cut_snoc hiq hx)
            have hrg := Lx.digB_range (HDS.out (s[q]'hqs) (cut_mem (q := q + 1) hql (by rw [HTK.out]; simp)))
            have hb99 := HB99.out q hqj
            have HSN := Lib.hid (Lx.baseN_snoc (Lx.cut s.data.toList i q) 0 (s[q]'hqs))
            generalize Lx.baseN (Lx.cut s.data.toList i q) 0 = bb at *
            clear hx
            have r1 := hrg.1
            have r2 := hrg.2
            go_wp2
            go_round
            case rel => exact ⟨q + 1, by omega, hql, by go_num, by rw [HTK.out, HSN.out, show ((10 * bb + ((s[q]'hqs).toNat - 48) : Nat) : Int) = (bb : Int) * 10 + (((s[q]'hqs).toNat : Int) - 48) from by omega]⟩
            case measure => simp [intOf]; omega
          · obtain rfl : q = j := by omega
            have hb99 := HB99.out q (Nat.le_refl _)
            obtain ⟨b, hb⟩ : ∃ b, Lx.baseN (Lx.cut s.data.toList i q) 0 = b := ⟨_, rfl⟩
            rw [hb] at hb99 HR3 ⊢
            clear hb
            by_cases hb2 : b < 2
            · have HE : Hid (Lx.numF s.data.toList i = none) := Lib.hid (by rw [HR3.out, Lx.decF_bad (by omega)]; rfl)
              have l3 : (b : Int) < 2 := by omega
              go_wp2
              go_ret2
              exact ⟨by rw [HE.out, quoRn]; rfl, Below.refl _ _⟩
            · have l3 : ¬ (b : Int) < 2 := by omega
              by_cases hb36 : 36 < b
              · have HE : Hid (Lx.numF s.data.toList i = none) := Lib.hid (by rw [HR3.out, Lx.decF_bad (by omega)]; rfl)
                have l4 : (36 : Int) < (b : Int) := by omega
                go_wp2
                go_ret2
                exact ⟨by rw [HE.out, quoRn]; rfl, Below.refl _ _⟩
              · have l4 : ¬ (36 : Int) < (b : Int) := by omega
                have l5 : (b : Int) ≤ 36 := by omega
                have HG0 : Hid (¬ (b < 2 ∨ 36 < b ∨ 1000 < (Lx.cut s.data.toList (q + 1) k).length)) := Lib.hid (by rw [HCK.out]; omega)
                clear hb2 hb36
                go_wp2
                go_loopw [10, 11] (fun v e wx => ∃ (x : Nat) (n : List Nat), q + 1 ≤ x ∧ x ≤ k ∧ e = .int .i64 x ∧ OwnG wx w.heap.size v n ∧ Lx.Dg n ∧ n.length ≤ 2 * (x - (q + 1)) ∧ Lx.decN b [] (Lx.cut s.data.toList (q + 1) k) = Lx.decN b n (Lx.cut s.data.toList x k) ∧ Below w.heap.size w wx) (fun _ e _ => k - (intOf e).toNat)
                case atStart => exact ⟨q + 1, [], Nat.le_refl _, k1, by go_num, OwnB.nil 5 _ _, (fun x hx => by cases hx), by simp, rfl, Below.refl _ _⟩
                case round =>
                  obtain ⟨x, n, hqx, hxk, rfl, hown, hdg, hn, hdec, hb⟩ := hrel
                  have HO := Lib.hid hown
                  have HDG := Lib.hid hdg
                  have HDEC := Lib.hid hdec
                  have HB := Lib.hid hb
                  have HLN := Lib.hid hn
                  obtain ⟨A, cp, rfl, _, _⟩ := OwnB.form hown
                  rw [Lx.dgB_len] at HO ⊢
                  have HRD := Lib.hid (OwnB.reads HO.out (Lx.dgB_len n).symm)
                  clear hown hdg hdec hb hn
                  by_cases hxl : x < k
                  · have hxs : x < s.size := by omega
                    have hgx := get_in hxs
                    have HCC := Lib.hid (cut_cons hxl hgx)
                    have hfig : Lx.figB (s[x]'hxs) = true := HFS.out _ (cut_at hqx hxl hgx)
                    have hr48 := Lx.figB_ge hfig
                    have hr256 := (s[x]'hxs).toNat_lt
                    have HGX := Lib.hid hgx
                    clear hgx
                    go_upto_if 119 with fail
                    go_cut [12] (fun s12 wx => s12 = .int .i64 (Lx.valF (s[x]'hxs) : Nat) ∧ wr = wx)
                    case first =>
                      by_cases hc : Lx.capB (s[x]'hxs) = true
                      · obtain ⟨e1, e2, e3⟩ := Lx.valF_cap hc
                        have HV := Lib.hid e1
                        have e4 : (65 : Int) ≤ ((s[x]'hxs).toNat : Int) := by omega
                        clear e1 hc
                        go_wp2
                        go_meet
                        exact ⟨by rw [HV.out, show (((s[x]'hxs).toNat - 55 : Nat) : Int) = ((s[x]'hxs).toNat : Int) - 65 + 10 from by omega], rfl⟩
                      · have hc' : Lx.capB (s[x]'hxs) = false := by simpa using hc
                        have HV := Lib.hid (Lx.valF_dig hc')
                        have e4 : ¬ (65 : Int) ≤ ((s[x]'hxs).toNat : Int) := by
                          have hd : Lx.digB (s[x]'hxs) = true := by unfold Lx.figB at hfig; rw [hc'] at hfig; simpa using hfig
                          have := Lx.digB_range hd
                          omega
                        clear hc hc'
                        go_wp2
                        go_meet
                        exact ⟨by rw [HV.out, show (((s[x]'hxs).toNat - 48 : Nat) : Int) = ((s[x]'hxs).toNat : Int) - 48 from by omega], rfl⟩
                    case rest =>
                    obtain ⟨rfl, rfl⟩ := hcut
                    have HSOME := Lib.hid fun (h : Lx.valF (s[x]'hxs) < b) => show Lx.decN b n (Lx.cut s.data.toList x k) = Lx.decN b (Lx.growF b n (Lx.valF (s[x]'hxs))) (Lx.cut s.data.toList (x + 1) k) from by rw [HCC.out]; simp only [Lx.decN, if_pos h]
                    have HNONE := Lib.hid fun (h : ¬ Lx.valF (s[x]'hxs) < b) => show Lx.decN b n (Lx.cut s.data.toList x k) = none from by rw [HCC.out]; simp only [Lx.decN, if_neg h]
                    obtain ⟨c, hc⟩ : ∃ c, Lx.valF (s[x]'hxs) = c := ⟨_, rfl⟩
                    rw [hc] at HSOME HNONE ⊢
                    clear hc hr48 hr256 hfig
                    by_cases hcb : c < b
                    · have HS2 := Lib.hid (HDEC.out.trans (HSOME.out hcb))
                      have hci : (c : Int) < (b : Int) := by omega
                      have dcb : decide (b ≤ c) = false := by simp; omega
                      have HGL := Lib.hid (Lx.growF_len b n c)
                      have HGD := Lib.hid (Lx.growF_dg (show b ≤ 36 by omega) n c HDG.out hcb)
                      have HGC := Lib.hid (grown_any A cp b c n wr HRD.out HDG.out (by have := HLN.out; omega) (by omega) hcb)
                      clear hcb
                      go_wp2_with fail
                      refine HGC.out.mono ?_
                      rintro e w1 ⟨v1, rfl, ho1, hb1⟩
                      have HO1 := Lib.hid (Joins.ownsRow_le ho1 HB.out.size)
                      have HB1 := Lib.hid (bnext HB.out hb1)
                      clear ho1 hb1
                      go_wp2
                      go_roundw
                      case rel => exact ⟨x + 1, Lx.growF b n c, by omega, hxl, by go_num, HO1.out, HGD.out, by have := HGL.out; have := HLN.out; omega, HS2.out, HB1.out⟩
                      case measure => simp [intOf]; omega
                    · have HS2 := Lib.hid (HDEC.out.trans (HNONE.out hcb))
                      have HE : Hid (Lx.numF s.data.toList i = none) := Lib.hid (by rw [HR3.out, Lx.decF_none HS2.out]; rfl)
                      have hci : ¬ (c : Int) < (b : Int) := by omega
                      clear hcb
                      go_wp2
                      go_ret2
                      exact ⟨by rw [HE.out, quoRn]; rfl, HB.out⟩
                  · obtain rfl : x = k := by omega
                    have HD : Hid (Lx.decN b [] (Lx.cut s.data.toList (q + 1) x) = some n) := Lib.hid (by rw [HDEC.out, cut_nil]; rfl)
                    by_cases hn : 1000 < n.length
                    · have HE : Hid (Lx.numF s.data.toList i = none) := Lib.hid (by rw [HR3.out, Lx.decF_long HD.out (by rw [Lx.fixN_len]; exact hn)]; rfl)
                      go_wp2
                      go_ret2
                      exact ⟨by rw [HE.out, quoRn]; rfl, HB.out⟩
                    · have HE : Hid (Lx.numF s.data.toList i = some (Lx.txtN (Lx.fixN n), x)) := Lib.hid (by rw [HR3.out, Lx.decF_some HG0.out HD.out (by rw [Lx.fixN_len]; exact hn)]; rfl)
                      go_wp2_with fail
                      refine (shown_any A cp n _ HRD.out HDG.out (by omega)).mono ?_
                      rintro e w1 ⟨rfl, hb1⟩
                      have HB1 := Lib.hid (bnext HB.out hb1)
                      clear hb1
                      go_wp2
                      go_ret2
                      exact ⟨by rw [HE.out, quoRs]; rfl, HB1.out⟩
  · have hq' : Lx.rB s.data.toList j = false := by simpa using hq
    have HN := Lib.hid (HNN.out hq')
    rw [hq', Bool.not_false]
    clear hq hq'
    by_cases hlong : 1000 < j - i
    · have HE : Hid (Lx.numF s.data.toList i = none) := Lib.hid (by rw [HN.out, Lx.decF_bad (by rw [HCL.out]; omega)]; rfl)
      have l1 : (1000 : Int) < (j : Int) - (i : Int) := by omega
      clear hlong
      go_wp2
      go_ret2
      exact ⟨by rw [HE.out, quoRn]; rfl, Below.refl _ _⟩
    · have l1 : ¬ (1000 : Int) < (j : Int) - (i : Int) := by omega
      have HD : Hid (Lx.numF s.data.toList i = some (Lx.stripT (Lx.cut s.data.toList i j), j)) := Lib.hid (by
        rw [HN.out, Lx.decF10 HDS.out (by intro e; have := HCL.out; rw [e] at this; simp at this; omega) (by rw [HCL.out]; omega)]
        rfl)
      clear hlong
      go_wp2
      go_loop [1] (fun e => ∃ k : Nat, i ≤ k ∧ k < j ∧ e = .int .i64 k ∧ Lx.stripT (Lx.cut s.data.toList k j) = Lx.stripT (Lx.cut s.data.toList i j)) (fun e => j - (intOf e).toNat)
      case atStart => exact ⟨i, Nat.le_refl _, by omega, rfl, rfl⟩
      case round =>
        obtain ⟨k, hik, hkj, rfl, hst⟩ := hrel
        have HST := Lib.hid hst
        clear hst
        have hks : k < s.size := by omega
        by_cases h1 : k + 1 < j
        · have l2 : (k : Int) + 1 < (j : Int) := by omega
          by_cases h48 : s[k]'hks = 48
          · have d : (((s[k]'hks).toNat : Int) == 48) = true := eqb_yes (b := 48) rfl h48
            have HS2 := Lib.hid ((Lx.strip_step h1 (by simpa using j2) (by rw [get_in hks, h48])).trans HST.out)
            clear h48
            go_wp2
            go_round
            case rel => exact ⟨k + 1, by omega, h1, by go_num, HS2.out⟩
            case measure => simp [intOf]; omega
          · have d : (((s[k]'hks).toNat : Int) == 48) = false := eqb_no (b := 48) rfl h48
            have HS2 := Lib.hid ((Lx.strip_stop hkj (by simpa using j2) (get_in hks) (fun h => h48 h.2)).symm.trans HST.out)
            have k3 : (k : Int) ≤ (j : Int) := by omega
            have k4 : (j : Int) ≤ (s.size : Int) := by omega
            clear h48
            go_wp2
            go_ret2
            exact ⟨by rw [HD.out, quoRs, str_cut s k j, HS2.out]; rfl, Below.refl _ _⟩
        · have l2 : ¬ (k : Int) + 1 < (j : Int) := by omega
          have HS2 := Lib.hid ((Lx.strip_stop hkj (by simpa using j2) (get_in hks) (fun h => h1 h.1)).symm.trans HST.out)
          have k3 : (k : Int) ≤ (j : Int) := by omega
          have k4 : (j : Int) ≤ (s.size : Int) := by omega
          clear h1
          go_wp2
          go_ret2
          exact ⟨by rw [HD.out, quoRs, str_cut s k j, HS2.out]; rfl, Below.refl _ _⟩
end Go.Proofs.Ytaigfelpecdajaa
