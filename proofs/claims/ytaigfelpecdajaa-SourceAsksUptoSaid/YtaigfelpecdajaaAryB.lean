/-
  The walk of the program's Arity.
-/
import Derived.Test.YtaigfelpecdajaaAryA
namespace Go.Proofs.Ytaigfelpecdajaa
open Go.RowKit

theorem extract_size_le (s : ByteArray) (a b : Nat) (hb : b ≤ s.size) : (s.extract a b).size ≤ s.size := by
  rw [ByteArray.size_extract]
  omega
theorem par_of {l : List UInt8} {r : Option Nat} (h : Lx.parL l [] 0 = r) : Lx.parN l = Lx.parV r := by unfold Lx.parN; rw [h]
set_option maxRecDepth 20000 in
set_option maxHeartbeats 1000000 in
theorem arity_any (s : ByteArray) (w : World) (hs : s.size ≤ 1048576) : Calls Try.prog 8 #[.string s] w fun e w' => e = .returned (.int .i64 (Lx.arityF s.data.toList)) ∧ Below w.heap.size w w' := by
  cases hw : Lx.wordB s.data.toList with
  | true =>
    have HE : Hid (Lx.arityF s.data.toList = 0) := Lib.hid (by unfold Lx.arityF; rw [hw]; rfl)
    go_enter Try.func8, Try.ntmps8
    go_wp2_with (go_at_call 21; refine (isname_any _ _ hs).mono ?_; rw [hw]; rintro e w1 ⟨rfl, hb'⟩)
    go_ret
    exact ⟨ret_int (by rw [HE.out]), hb'⟩
  | false =>
    cases hbn : Lx.binsB s.data.toList with
    | true =>
      have HE : Hid (Lx.arityF s.data.toList = 1) := Lib.hid (by unfold Lx.arityF; rw [hw, hbn]; rfl)
      go_enter Try.func8, Try.ntmps8
      go_wp2_with (first
        | (go_at_call 21; refine (isname_any _ _ hs).mono ?_; rw [hw]; rintro e w1 ⟨rfl, hb1⟩)
        | (go_at_call 22; refine (isbin_any _ _ hs).mono ?_; rw [hbn]; rintro e w2 ⟨rfl, hb2⟩))
      go_ret
      exact ⟨ret_int (by rw [HE.out]), hb1.trans (hb2.mono hb1.size)⟩
    | false =>
      have HE : Hid (Lx.arityF s.data.toList = Lx.parN s.data.toList) := Lib.hid (by unfold Lx.arityF; rw [hw, hbn]; rfl)
      generalize Lx.arityF s.data.toList = R at *
      have hcv := fun W => Lib.run_convert_string_bytes (P := Try.prog) W 9 47 5 s Try.underlying9 Try.underlying47 Try.underlying5
      go_enter Try.func8, Try.ntmps8
      go_upto_block 0 with (first
        | (go_at_call 21; refine (isname_any _ _ hs).mono ?_; rw [hw]; rintro e w1 ⟨rfl, hb1⟩; have HB1 := Lib.hid hb1; clear hb1)
        | (go_at_call 22; refine (isbin_any _ _ hs).mono ?_; rw [hbn]; rintro e w2 ⟨rfl, hb2⟩; have HB2 := Lib.hid (HB1.out.trans (hb2.mono HB1.out.size)); clear hb2))
      have HBW := Lib.hid (BW.new w2 s)
      have HB := Lib.hid (HB2.out.trans ((bw_below w2 s).mono HB2.out.size))
      have hgw : w.heap.size ≤ w2.heap.size := HB2.out.size
      generalize Lib.bytesWorld w2 5 s = w3 at HBW HB ⊢
      generalize hg : w2.heap.size = g at HBW HB hgw ⊢
      clear hcv hg hw hbn
      go_wp2
      go_loopw [3, 4, 14] (fun n a i wr => ∃ q p k : Nat, k ≤ s.size ∧ p ≤ k ∧ q ≤ k ∧ i = .int .i64 k ∧ a = .int .i64 p ∧ n = .int .i64 q ∧ Lx.parL (s.data.toList.drop k) (Lx.cut s.data.toList p k) q = Lx.parL s.data.toList [] 0 ∧ BW w wr g s ∧ Below w.heap.size w wr) (fun _ _ i _ => s.size - (intOf i).toNat)
      case atStart => exact ⟨0, 0, 0, Nat.zero_le _, Nat.le_refl _, Nat.le_refl _, rfl, rfl, rfl, by rw [Lx.cut_self]; rfl, ⟨HBW.out.lt, HBW.out.cell⟩, HB.out⟩
      case round =>
        obtain ⟨q, p, k, hk, hp, hq, rfl, rfl, rfl, ha, hbw, hb⟩ := hrel
        have HA := Lib.hid ha
        have HW := Lib.hid hbw
        have HB2 := Lib.hid hb
        have hgs : g < wr.heap.size := hbw.lt
        clear ha hbw hb
        by_cases hlt : k < s.size
        · have c1 := HW.out.cell k hlt
          have hget := Lib.hid (get_in hlt)
          have HD := Lib.hid (Lx.parL_drop hget.out (Lx.cut s.data.toList p k) q)
          by_cases h58 : s[k]'hlt = 58
          · have d58 : (((s[k]'hlt).toNat : Int) != 58) = false := by rw [h58]; rfl
            have HX := Lib.hid (extract_cut s p k)
            have hxs : (s.extract p k).size ≤ 1048576 := Nat.le_trans (extract_size_le s p k hk) hs
            have HDE : Hid (Lx.parL s.data.toList [] 0 = if Lx.wordB (Lx.cut s.data.toList p k) then Lx.parL (s.data.toList.drop (k + 1)) [] (q + 1) else none) := Lib.hid (by rw [← HA.out, HD.out, if_pos h58])
            clear h58
            have l1 : (p : Int) ≤ (k : Int) := by omega
            have l2 : (k : Int) ≤ (s.size : Int) := by omega
            cases hwd : Lx.wordB (Lx.cut s.data.toList p k) with
            | true =>
              have HN : Hid (Lx.parL (s.data.toList.drop (k + 1)) [] (q + 1) = Lx.parL s.data.toList [] 0) := Lib.hid (by rw [HDE.out, hwd]; rfl)
              go_wp2_with (go_at_call 21; refine (isname_any _ _ hxs).mono ?_; rw [HX.out, hwd]; rintro e w' ⟨rfl, hb'⟩; have HB3 := Lib.hid hb'; clear hb')
              go_roundw
              case rel => exact ⟨q + 1, k + 1, k + 1, hlt, Nat.le_refl _, by omega, by go_num, by go_num, by go_num, by rw [Lx.cut_self]; exact HN.out, HW.out.below HB3.out, HB2.out.trans (HB3.out.mono (by omega))⟩
              case measure => simp [intOf]; omega
            | false =>
              have HN : Hid (Lx.parN s.data.toList = -1) := Lib.hid (by rw [par_of (show _ = none from by rw [HDE.out, hwd]; rfl)]; rfl)
              go_wp2_with (go_at_call 21; refine (isname_any _ _ hxs).mono ?_; rw [HX.out, hwd]; rintro e w' ⟨rfl, hb'⟩; have HB3 := Lib.hid hb'; clear hb')
              go_ret
              exact ⟨ret_int (by rw [HE.out, HN.out]), HB2.out.trans (HB3.out.mono (by omega))⟩
          · have d58 : (((s[k]'hlt).toNat : Int) != 58) = true := by rw [bne_iff_ne, ← show ((58 : UInt8).toNat : Int) = 58 from rfl]; intro h; apply h58; rw [← UInt8.toNat_inj]; omega
            have HN : Hid (Lx.parL (s.data.toList.drop (k + 1)) (Lx.cut s.data.toList p (k + 1)) q = Lx.parL s.data.toList [] 0) := Lib.hid (by rw [← HA.out, HD.out, if_neg h58, Lx.cut_snoc hget.out hp])
            clear h58
            go_wp2
            go_roundw
            case rel => exact ⟨q, p, k + 1, hlt, by omega, by omega, by go_num, rfl, rfl, HN.out, HW.out, HB2.out⟩
            case measure => simp [intOf]; omega
        · obtain rfl : k = s.size := by omega
          have HPE : Hid (Lx.parL s.data.toList [] 0 = if p = s.size then some q else none) := Lib.hid (by
            have h := Lx.parL_end (l := s.data.toList) (a := p) (by simpa using hp) q
            rw [show s.data.toList.length = s.size from by simp] at h
            rw [← HA.out, h])
          by_cases hq0 : q = 0
          · have d0 : ((q : Int) == 0) = true := by rw [hq0]; rfl
            have HN : Hid (Lx.parN s.data.toList = -1) := Lib.hid (by
              rw [par_of HPE.out, hq0]
              by_cases hps : p = s.size
              · rw [if_pos hps]; rfl
              · rw [if_neg hps]; rfl)
            clear hq0
            go_wp2
            go_ret
            exact ⟨ret_int (by rw [HE.out, HN.out]), HB2.out⟩
          · have d0 : ((q : Int) == 0) = false := by rw [beq_eq_false_iff_ne]; omega
            by_cases hps : p = s.size
            · have d1 : ((p : Int) != (s.size : Int)) = false := by rw [hps]; simp
              have HN : Hid (Lx.parN s.data.toList = q) := Lib.hid (by
                rw [par_of HPE.out, if_pos hps]
                obtain ⟨q', rfl⟩ : ∃ q', q = q' + 1 := ⟨q - 1, by omega⟩
                simp [Lx.parV])
              clear hps
              go_wp2
              go_ret
              exact ⟨ret_int (by rw [HE.out, HN.out]), HB2.out⟩
            · have d1 : ((p : Int) != (s.size : Int)) = true := by rw [bne_iff_ne]; omega
              have HN : Hid (Lx.parN s.data.toList = -1) := Lib.hid (by rw [par_of HPE.out, if_neg hps]; rfl)
              clear hps
              go_wp2
              go_ret
              exact ⟨ret_int (by rw [HE.out, HN.out]), HB2.out⟩
end Go.Proofs.Ytaigfelpecdajaa
