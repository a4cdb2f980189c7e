/-
  The walks of the document's Word, operator, Parts, Arity.
-/
import Derived.Test.YtaigfelpecdajaaAryB
import Derived.Test.YtaigfelpecdajaaAskL
namespace Go.Proofs.Ytaigfelpecdajaa
open Go.RowKit

set_option maxRecDepth 20000 in
set_option maxHeartbeats 1000000 in
theorem roper_any (s : ByteArray) (w : World) (hs : s.size ≤ 1048576) : Calls Try.prog 24 #[.string s] w fun e w' => e = .returned (.bool (Lx.binsB s.data.toList)) ∧ w = w' := by
  have HE : Hid (Lx.binsB s.data.toList = if s.data.toList.all Lx.binB then !s.data.toList.isEmpty else s.data.toList == [124]) := Lib.hid rfl
  generalize Lx.binsB s.data.toList = R at *
  have HTL := Lib.hid (tl s)
  go_enter Try.func24, Try.ntmps24
  go_wp2
  go_loop [3] (fun i => ∃ k : Nat, k ≤ s.size ∧ i = .int .i64 k ∧ (s.data.toList.drop k).all Lx.binB = s.data.toList.all Lx.binB) (fun i => s.size - (intOf i).toNat)
  case atStart => exact ⟨0, Nat.zero_le _, rfl, rfl⟩
  case round =>
    obtain ⟨k, hk, rfl, ha⟩ := hrel
    have HA := Lib.hid ha
    clear ha
    by_cases hlt : k < s.size
    · have HD := Lib.hid (all_drop (p := Lx.binB) hlt)
      cases hb4 : Lx.binB (s[k]'hlt) with
      | true =>
        have HN : Hid ((s.data.toList.drop (k + 1)).all Lx.binB = s.data.toList.all Lx.binB) := Lib.hid (by rw [← HA.out, HD.out, hb4]; rfl)
        go_wp2_with (go_at_call 39; refine (rbinary_any _ _).mono ?_; rw [hb4]; rintro e w' ⟨rfl, rfl⟩)
        go_round
        case rel => exact ⟨k + 1, hlt, by go_num, HN.out⟩
        case measure => simp [intOf]; omega
      | false =>
        have HN : Hid (s.data.toList.all Lx.binB = false) := Lib.hid (by rw [← HA.out, HD.out, hb4]; rfl)
        go_wp2_with (go_at_call 39; refine (rbinary_any _ _).mono ?_; rw [hb4]; rintro e w' ⟨rfl, rfl⟩)
        go_ret
        exact ⟨ret_bool (by rw [HE.out, HN.out, ← HTL.out]; rfl), rfl⟩
    · have HN : Hid (s.data.toList.all Lx.binB = true) := Lib.hid (by rw [← HA.out]; exact all_end (by omega))
      go_wp2
      go_ret
      exact ⟨ret_bool (by rw [HE.out, HN.out, ← HTL.out]; simp), rfl⟩
set_option maxRecDepth 20000 in
set_option maxHeartbeats 1000000 in
theorem rword_any (s : ByteArray) (w : World) (hs : s.size ≤ 1048576) : Calls Try.prog 23 #[.string s] w fun e w' => e = .returned (.bool (Lx.wordB s.data.toList)) ∧ w = w' := by
  have HTL := Lib.hid (tl s)
  by_cases h0 : s.size = 0
  · have t0 : s.toList.isEmpty = true := by rw [HTL.out, empty_of h0]; rfl
    have t1 : s.toList = [] := by rw [HTL.out, empty_of h0]
    have HE : Hid (Lx.wordB s.data.toList = false) := Lib.hid (by rw [empty_of h0]; rfl)
    clear h0
    go_enter Try.func23, Try.ntmps23
    go_wp2
    go_ret
    exact ⟨ret_bool (by rw [HE.out]), rfl⟩
  · have hp : 0 < s.size := by omega
    have t0 : s.toList.isEmpty = false := by rw [HTL.out, List.isEmpty_eq_false_iff]; intro h; apply h0; have := congrArg List.length h; simpa using this
    have t2 : (s.toList == []) = false := by rw [HTL.out, beq_eq_false_iff_ne]; intro h; apply h0; have := congrArg List.length h; simpa using this
    have HE := Lib.hid (word_at hp)
    cases h2 : Lx.letB (s[0]'hp) with
    | true =>
      have HR : Hid (Lx.wordB s.data.toList = s.data.toList.all Lx.ldB) := Lib.hid (by rw [HE.out, h2]; rfl)
      have H1 : Hid ((s.data.toList.drop 1).all Lx.ldB = s.data.toList.all Lx.ldB) := Lib.hid (by
        have h := all_drop (p := Lx.ldB) hp
        rw [List.drop_zero] at h
        rw [h]; simp [Lx.ldB, h2])
      generalize Lx.wordB s.data.toList = R at *
      clear h0
      go_enter Try.func23, Try.ntmps23
      go_wp2_with (go_at_call 32; refine (rletter_any _ _).mono ?_; rw [h2]; rintro e w' ⟨rfl, rfl⟩)
      go_loop [3] (fun i => ∃ k : Nat, 1 ≤ k ∧ k ≤ s.size ∧ i = .int .i64 k ∧ (s.data.toList.drop k).all Lx.ldB = s.data.toList.all Lx.ldB) (fun i => s.size - (intOf i).toNat)
      case atStart => exact ⟨1, Nat.le_refl _, hp, rfl, H1.out⟩
      case round =>
        obtain ⟨k, hk1, hk, rfl, ha⟩ := hrel
        have HA := Lib.hid ha
        clear ha
        by_cases hlt : k < s.size
        · have HD := Lib.hid (all_drop (p := Lx.ldB) hlt)
          have HLD : Hid (Lx.ldB (s[k]'hlt) = (Lx.letB (s[k]'hlt) || Lx.digB (s[k]'hlt))) := Lib.hid rfl
          cases hl : Lx.letB (s[k]'hlt) with
          | true =>
            have HN : Hid ((s.data.toList.drop (k + 1)).all Lx.ldB = s.data.toList.all Lx.ldB) := Lib.hid (by rw [← HA.out, HD.out, HLD.out, hl]; rfl)
            go_wp2_with (go_at_call 32; refine (rletter_any _ _).mono ?_; rw [hl]; rintro e w' ⟨rfl, rfl⟩)
            go_round
            case rel => exact ⟨k + 1, by omega, hlt, by go_num, HN.out⟩
            case measure => simp [intOf]; omega
          | false =>
            cases hd : Lx.digB (s[k]'hlt) with
            | true =>
              have HN : Hid ((s.data.toList.drop (k + 1)).all Lx.ldB = s.data.toList.all Lx.ldB) := Lib.hid (by rw [← HA.out, HD.out, HLD.out, hl, hd]; rfl)
              go_wp2_with (first
                | (go_at_call 32; refine (rletter_any _ _).mono ?_; rw [hl]; rintro e w' ⟨rfl, rfl⟩)
                | (go_at_call 33; refine (rdigit_any _ _).mono ?_; rw [hd]; rintro e w' ⟨rfl, rfl⟩))
              go_round
              case rel => exact ⟨k + 1, by omega, hlt, by go_num, HN.out⟩
              case measure => simp [intOf]; omega
            | false =>
              have HN : Hid (s.data.toList.all Lx.ldB = false) := Lib.hid (by rw [← HA.out, HD.out, HLD.out, hl, hd]; rfl)
              go_wp2_with (first
                | (go_at_call 32; refine (rletter_any _ _).mono ?_; rw [hl]; rintro e w' ⟨rfl, rfl⟩)
                | (go_at_call 33; refine (rdigit_any _ _).mono ?_; rw [hd]; rintro e w' ⟨rfl, rfl⟩))
              go_ret
              exact ⟨ret_bool (by rw [HR.out, HN.out]), rfl⟩
        · have HN : Hid (s.data.toList.all Lx.ldB = true) := Lib.hid (by rw [← HA.out]; exact all_end (by omega))
          go_wp2
          go_ret
          exact ⟨ret_bool (by rw [HR.out, HN.out]), rfl⟩
    | false =>
      have HR : Hid (Lx.wordB s.data.toList = false) := Lib.hid (by rw [HE.out, h2]; rfl)
      clear h0
      go_enter Try.func23, Try.ntmps23
      go_wp2_with (go_at_call 32; refine (rletter_any _ _).mono ?_; rw [h2]; rintro e w' ⟨rfl, rfl⟩)
      go_ret
      exact ⟨ret_bool (by rw [HR.out]), rfl⟩
/-- what Parts leaves: a list of so many -/
def PartsP (w : World) (n : Nat) (e : Ending) (w' : World) : Prop := ∃ A c, e = .returned (.slice A n c) ∧ Below w.heap.size w w'
def parC : Option Nat → Nat
  | some n => n
  | none => 0
set_option maxRecDepth 20000 in
set_option maxHeartbeats 2000000 in
theorem rparts_any (s : ByteArray) (w : World) (hs : s.size ≤ 1048576) : Calls Try.prog 25 #[.string s] w (PartsP w (parC (Lx.parL s.data.toList [] 0))) := by
  generalize hR : Lx.parL s.data.toList [] 0 = R at *
  have HR := Lib.hid hR
  clear hR
  go_enter Try.func25, Try.ntmps25
  go_wp2
  go_loopw [3, 4, 5] (fun v a i wr => ∃ p k : Nat, k ≤ s.size ∧ p ≤ k ∧ i = .int .i64 k ∧ a = .int .i64 p ∧ ∃ l : List ByteArray, l.length ≤ k ∧ OwnS wr w.heap.size v l ∧ Lx.parL (s.data.toList.drop k) (Lx.cut s.data.toList p k) l.length = R ∧ Below w.heap.size w wr) (fun _ _ i _ => s.size - (intOf i).toNat)
  case atStart => exact ⟨0, 0, Nat.zero_le _, Nat.le_refl _, rfl, rfl, [], Nat.le_refl _, OwnS.nil _ _, by rw [Lx.cut_self]; exact HR.out, Below.refl _ _⟩
  case round =>
    obtain ⟨p, k, hk, hp, rfl, rfl, l, hq, ho, ha, hb⟩ := hrel
    have HA := Lib.hid ha
    have HO := Lib.hid ho
    have HB2 := Lib.hid hb
    obtain ⟨A, c, rfl, _, _⟩ := OwnS.form ho
    clear ha hb ho
    by_cases hlt : k < s.size
    · have hget := Lib.hid (get_in hlt)
      have HD := Lib.hid (Lx.parL_drop hget.out (Lx.cut s.data.toList p k) l.length)
      by_cases h58 : s[k]'hlt = 58
      · have d58 : (((s[k]'hlt).toNat : Int) != 58) = false := by rw [h58]; rfl
        have HX := Lib.hid (extract_cut s p k)
        have hxs : (s.extract p k).size ≤ 1048576 := Nat.le_trans (extract_size_le s p k hk) hs
        have HDE : Hid (R = if Lx.wordB (Lx.cut s.data.toList p k) then Lx.parL (s.data.toList.drop (k + 1)) [] (l.length + 1) else none) := Lib.hid (by rw [← HA.out, HD.out, if_pos h58])
        clear h58
        have l1 : (p : Int) ≤ (k : Int) := by omega
        have l2 : (k : Int) ≤ (s.size : Int) := by omega
        cases hwd : Lx.wordB (Lx.cut s.data.toList p k) with
        | true =>
          have HN : Hid (Lx.parL (s.data.toList.drop (k + 1)) [] (l.length + 1) = R) := Lib.hid (by rw [HDE.out, hwd]; rfl)
          have l3 : (p : Int) ≤ (k : Int) + 1 := by omega
          have l4 : (k : Int) + 1 ≤ (s.size : Int) := by omega
          have hws := HB2.out.size
          go_wp2_with (first
            | (go_at_call 23; refine (rword_any _ _ hxs).mono ?_; rw [HX.out, hwd]; rintro e w' ⟨rfl, rfl⟩)
            | (at_builtin; refine wpList_snoc rfl (.tmp 22) (.tmp 28) 23 rfl info9 Try.underlying23 w.heap.size _ l (s.extract p (k + 1)) _ _ rfl rfl (World.ownsRow.alloc HO.out _) ((Blk.new _ _ _).cell 0) (by omega) (by simp; omega) ?_; intro v1 w1 hsn; have HS1 := Lib.hid hsn; clear hsn))
          go_roundw
          case rel => exact ⟨k + 1, k + 1, hlt, Nat.le_refl _, by go_num, by go_num, _, by simp; omega, HS1.out.1, by rw [Lx.cut_self, List.length_append]; exact HN.out, (HB2.out.alloc hws _).trans (HS1.out.2.1.below (by simp; omega) (fun k hk => OwnS.base HO.out hk))⟩
          case measure => simp [intOf]; omega
        | false =>
          have HN : Hid (R = none) := Lib.hid (by rw [HDE.out, hwd]; rfl)
          go_wp2_with (go_at_call 23; refine (rword_any _ _ hxs).mono ?_; rw [HX.out, hwd]; rintro e w' ⟨rfl, rfl⟩)
          go_ret
          exact ⟨none, 0, by rw [HN.out]; rfl, HB2.out⟩
      · have d58 : (((s[k]'hlt).toNat : Int) != 58) = true := by rw [bne_iff_ne, ← show ((58 : UInt8).toNat : Int) = 58 from rfl]; intro h; apply h58; rw [← UInt8.toNat_inj]; omega
        have HN : Hid (Lx.parL (s.data.toList.drop (k + 1)) (Lx.cut s.data.toList p (k + 1)) l.length = R) := Lib.hid (by rw [← HA.out, HD.out, if_neg h58, Lx.cut_snoc hget.out hp])
        clear h58
        go_wp2
        go_roundw
        case rel => exact ⟨p, k + 1, hlt, by omega, by go_num, rfl, l, by omega, HO.out, HN.out, HB2.out⟩
        case measure => simp [intOf]; omega
    · obtain rfl : k = s.size := by omega
      have HPE : Hid (R = if p = s.size then some l.length else none) := Lib.hid (by
        have h := Lx.parL_end (l := s.data.toList) (a := p) (by simpa using hp) l.length
        rw [show s.data.toList.length = s.size from by simp] at h
        rw [← HA.out, h])
      by_cases hps : p = s.size
      · have d1 : ((p : Int) != (s.size : Int)) = false := by rw [hps]; simp
        have HN : Hid (R = some l.length) := Lib.hid (by rw [HPE.out, if_pos hps])
        clear hps
        go_wp2
        go_ret
        exact ⟨_, _, by rw [HN.out]; rfl, HB2.out⟩
      · have d1 : ((p : Int) != (s.size : Int)) = true := by rw [bne_iff_ne]; omega
        have HN : Hid (R = none) := Lib.hid (by rw [HPE.out, if_neg hps])
        clear hps
        go_wp2
        go_ret
        exact ⟨none, 0, by rw [HN.out]; rfl, HB2.out⟩
set_option maxRecDepth 20000 in
set_option maxHeartbeats 1000000 in
theorem rarity_any (s : ByteArray) (w : World) (hs : s.size ≤ 1048576) : Calls Try.prog 9 #[.string s] w fun e w' => e = .returned (.int .i64 (Lx.arityF s.data.toList)) ∧ Below w.heap.size w w' := by
  cases hw : Lx.wordB s.data.toList with
  | true =>
    have HE : Hid (Lx.arityF s.data.toList = 0) := Lib.hid (by unfold Lx.arityF; rw [hw]; rfl)
    go_enter Try.func9, Try.ntmps9
    go_wp2_with (go_at_call 23; refine (rword_any _ _ (by omega)).mono ?_; rw [hw]; rintro e w1 ⟨rfl, rfl⟩)
    go_ret
    exact ⟨ret_int (by rw [HE.out]), Below.refl _ _⟩
  | false =>
    cases hbn : Lx.binsB s.data.toList with
    | true =>
      have HE : Hid (Lx.arityF s.data.toList = 1) := Lib.hid (by unfold Lx.arityF; rw [hw, hbn]; rfl)
      go_enter Try.func9, Try.ntmps9
      go_wp2_with (first
        | (go_at_call 23; refine (rword_any _ _ (by omega)).mono ?_; rw [hw]; rintro e w1 ⟨rfl, rfl⟩)
        | (go_at_call 24; refine (roper_any _ _ hs).mono ?_; rw [hbn]; rintro e w2 ⟨rfl, rfl⟩))
      go_ret
      exact ⟨ret_int (by rw [HE.out]), Below.refl _ _⟩
    | false =>
      have HE : Hid (Lx.arityF s.data.toList = Lx.parV (Lx.parL s.data.toList [] 0)) := Lib.hid (by unfold Lx.arityF; rw [hw, hbn]; rfl)
      cases hr : Lx.parL s.data.toList [] 0 with
      | none =>
        have HN : Hid (Lx.arityF s.data.toList = -1) := Lib.hid (by rw [HE.out, hr]; rfl)
        go_enter Try.func9, Try.ntmps9
        go_wp2_with (first
          | (go_at_call 23; refine (rword_any _ _ (by omega)).mono ?_; rw [hw]; rintro e w1 ⟨rfl, rfl⟩)
          | (go_at_call 24; refine (roper_any _ _ hs).mono ?_; rw [hbn]; rintro e w2 ⟨rfl, rfl⟩)
          | (go_at_call 25; refine (rparts_any _ _ (by omega)).mono ?_; rw [hr]; rintro e w3 ⟨A3, c3, rfl, hb3⟩; simp only [parC]))
        go_ret
        exact ⟨ret_int (by rw [HN.out]), hb3⟩
      | some n =>
        cases n with
        | zero =>
          have HN : Hid (Lx.arityF s.data.toList = -1) := Lib.hid (by rw [HE.out, hr]; rfl)
          go_enter Try.func9, Try.ntmps9
          go_wp2_with (first
            | (go_at_call 23; refine (rword_any _ _ (by omega)).mono ?_; rw [hw]; rintro e w1 ⟨rfl, rfl⟩)
            | (go_at_call 24; refine (roper_any _ _ hs).mono ?_; rw [hbn]; rintro e w2 ⟨rfl, rfl⟩)
            | (go_at_call 25; refine (rparts_any _ _ (by omega)).mono ?_; rw [hr]; rintro e w3 ⟨A3, c3, rfl, hb3⟩; simp only [parC]))
          go_ret
          exact ⟨ret_int (by rw [HN.out]), hb3⟩
        | succ n =>
          have HN : Hid (Lx.arityF s.data.toList = (n : Int) + 1) := Lib.hid (by rw [HE.out, hr]; rfl)
          have HRX := Lib.hid hr
          go_enter Try.func9, Try.ntmps9
          go_wp2_with fail
          refine (rword_any _ _ (by omega)).mono ?_
          rw [hw]
          rintro e w1 ⟨rfl, rfl⟩
          go_wp2_with fail
          refine (roper_any _ _ hs).mono ?_
          rw [hbn]
          rintro e w2 ⟨rfl, rfl⟩
          clear hr
          go_wp2_with fail
          refine (rparts_any _ _ (by omega)).mono ?_
          rw [HRX.out]
          rintro e w3 ⟨A3, c3, rfl, hb3⟩
          have HB3 := Lib.hid hb3
          simp only [parC]
          have p0 : (0 : Int) < ((n + 1 : Nat) : Int) := by omega
          clear hb3
          go_wp2_with fail
          refine (rparts_any _ _ (by omega)).mono ?_
          rw [HRX.out]
          rintro e w4 ⟨A4, c4, rfl, hb4⟩
          have HB4 := Lib.hid (HB3.out.trans (hb4.mono HB3.out.size))
          simp only [parC]
          clear hb4
          go_wp2
          go_ret
          exact ⟨ret_int (by rw [HN.out]), HB4.out⟩
end Go.Proofs.Ytaigfelpecdajaa
