/-
  The walks of OopSmalls, OopObjects and OopLengths: each returns true, and writes nothing that was there.
-/
import Derived.Test.YtlopmhnakehnaaaDoorHdr4
namespace Go.Proofs.YtlopmhnakehnaaaDoor
open Go.RowKit

theorem neq_kind {o : Int} {k : Int} (h : kindN o ≠ k) : (kindN o != k) = true := by simpa using h
theorem eq_kind {o : Int} {k : Int} (h : kindN o = k) : (kindN o != k) = false := by simpa using h

set_option maxRecDepth 20000 in
set_option maxHeartbeats 4000000 in
theorem smalls_any (v o : Int) (w : World) (hs : Spares w) (hz : 0 < w.heap.size) (ho1 : 0 ≤ o) (ho2 : o ≤ 4294967295) :
    Calls Tryd.prog 3 #[.int .i64 v, .int .u32 o] w fun e w' => e = .returned (.bool true) ∧ Below w.heap.size w w' := by
  have HS := Lib.hid hs
  clear hs
  by_cases hk : kindN o = 1
  · have HK := Lib.hid hk
    have d := eq_kind hk
    clear hk
    by_cases hv : -1073741824 ≤ v ∧ v ≤ 1073741823
    · obtain ⟨h1, h2⟩ := hv
      go_enter Tryd.func3, Tryd.ntmps3
      go_wp2_with (first | (go_at_call 9; refine (small_in v _ h1 h2).mono ?_; rintro e w' ⟨rfl, rfl⟩) | (go_at_call 10; refine (awake_any _ HS.out hz).mono ?_; rintro e w1 ⟨rfl, hb⟩) | (go_at_call 11; refine (fits_yes v _ h1 h2).mono ?_; rintro e w' ⟨rfl, rfl⟩) | (go_at_call 12; refine (rfits_yes v _ h1 h2).mono ?_; rintro e w' ⟨rfl, rfl⟩) | (go_at_call 13; refine (rsmall_in v _ h1 h2).mono ?_; rintro e w' ⟨rfl, rfl⟩) | (go_at_call 14; refine (value_yes o _ ho1 ho2 HK.out).mono ?_; rintro e w' ⟨rfl, rfl⟩) | (go_at_call 15; refine (rkind_any o _ ho1 ho2).mono ?_; rintro e w' ⟨rfl, rfl⟩) | (go_at_call 16; refine (rvalue_yes o _ ho1 ho2 HK.out).mono ?_; rintro e w' ⟨rfl, rfl⟩))
      go_ret
      exact ⟨rfl, hb⟩
    · have HV : Hid (v < -1073741824 ∨ 1073741823 < v) := Lib.hid (by omega)
      clear hv
      go_enter Tryd.func3, Tryd.ntmps3
      go_wp2_with (first | (go_at_call 9; refine (small_out v _ HV.out).mono ?_; rintro e w' ⟨rfl, rfl⟩) | (go_at_call 10; refine (awake_any _ HS.out hz).mono ?_; rintro e w1 ⟨rfl, hb⟩) | (go_at_call 11; refine (fits_no v _ HV.out).mono ?_; rintro e w' ⟨rfl, rfl⟩) | (go_at_call 12; refine (rfits_no v _ HV.out).mono ?_; rintro e w' ⟨rfl, rfl⟩) | (go_at_call 14; refine (value_yes o _ ho1 ho2 HK.out).mono ?_; rintro e w' ⟨rfl, rfl⟩) | (go_at_call 15; refine (rkind_any o _ ho1 ho2).mono ?_; rintro e w' ⟨rfl, rfl⟩) | (go_at_call 16; refine (rvalue_yes o _ ho1 ho2 HK.out).mono ?_; rintro e w' ⟨rfl, rfl⟩))
      go_ret
      exact ⟨rfl, hb⟩
  · have HK := Lib.hid hk
    have d := neq_kind hk
    clear hk
    by_cases hv : -1073741824 ≤ v ∧ v ≤ 1073741823
    · obtain ⟨h1, h2⟩ := hv
      go_enter Tryd.func3, Tryd.ntmps3
      go_wp2_with (first | (go_at_call 9; refine (small_in v _ h1 h2).mono ?_; rintro e w' ⟨rfl, rfl⟩) | (go_at_call 10; refine (awake_any _ HS.out hz).mono ?_; rintro e w1 ⟨rfl, hb⟩) | (go_at_call 11; refine (fits_yes v _ h1 h2).mono ?_; rintro e w' ⟨rfl, rfl⟩) | (go_at_call 12; refine (rfits_yes v _ h1 h2).mono ?_; rintro e w' ⟨rfl, rfl⟩) | (go_at_call 13; refine (rsmall_in v _ h1 h2).mono ?_; rintro e w' ⟨rfl, rfl⟩) | (go_at_call 14; refine (value_no o _ ho1 ho2 HK.out).mono ?_; rintro e w' ⟨rfl, rfl⟩) | (go_at_call 15; refine (rkind_any o _ ho1 ho2).mono ?_; rintro e w' ⟨rfl, rfl⟩))
      go_ret
      exact ⟨rfl, hb⟩
    · have HV : Hid (v < -1073741824 ∨ 1073741823 < v) := Lib.hid (by omega)
      clear hv
      go_enter Tryd.func3, Tryd.ntmps3
      go_wp2_with (first | (go_at_call 9; refine (small_out v _ HV.out).mono ?_; rintro e w' ⟨rfl, rfl⟩) | (go_at_call 10; refine (awake_any _ HS.out hz).mono ?_; rintro e w1 ⟨rfl, hb⟩) | (go_at_call 11; refine (fits_no v _ HV.out).mono ?_; rintro e w' ⟨rfl, rfl⟩) | (go_at_call 12; refine (rfits_no v _ HV.out).mono ?_; rintro e w' ⟨rfl, rfl⟩) | (go_at_call 14; refine (value_no o _ ho1 ho2 HK.out).mono ?_; rintro e w' ⟨rfl, rfl⟩) | (go_at_call 15; refine (rkind_any o _ ho1 ho2).mono ?_; rintro e w' ⟨rfl, rfl⟩))
      go_ret
      exact ⟨rfl, hb⟩

set_option maxRecDepth 20000 in
set_option maxHeartbeats 4000000 in
theorem objects_any (v o : Int) (w : World) (hs : Spares w) (hz : 0 < w.heap.size) (ho1 : 0 ≤ o) (ho2 : o ≤ 4294967295) :
    Calls Tryd.prog 5 #[.int .i64 v, .int .u32 o] w fun e w' => e = .returned (.bool true) ∧ Below w.heap.size w w' := by
  have HS := Lib.hid hs
  clear hs
  by_cases hk : kindN o = 2
  · have HK := Lib.hid hk
    have d := eq_kind hk
    clear hk
    by_cases hv : 1 ≤ v ∧ v ≤ 2147483647
    · obtain ⟨h1, h2⟩ := hv
      go_enter Tryd.func5, Tryd.ntmps5
      go_wp2_with (first | (go_at_call 19; refine (at_in v _ h1 h2).mono ?_; rintro e w' ⟨rfl, rfl⟩) | (go_at_call 10; refine (awake_any _ HS.out hz).mono ?_; rintro e w1 ⟨rfl, hb⟩) | (go_at_call 20; refine (kind_any o _ ho1 ho2).mono ?_; rintro e w' ⟨rfl, rfl⟩) | (go_at_call 15; refine (rkind_any o _ ho1 ho2).mono ?_; rintro e w' ⟨rfl, rfl⟩) | (go_at_call 21; refine (index_yes o _ ho1 ho2 HK.out).mono ?_; rintro e w' ⟨rfl, rfl⟩))
      go_ret
      exact ⟨rfl, hb⟩
    · have hv' : v < 1 ∨ 2147483647 < v := by omega
      have HV := Lib.hid hv'
      clear hv
      rcases hv' with hv' | hv'
      · go_enter Tryd.func5, Tryd.ntmps5
        go_wp2_with (first | (go_at_call 19; refine (at_out v _ HV.out).mono ?_; rintro e w' ⟨rfl, rfl⟩) | (go_at_call 10; refine (awake_any _ HS.out hz).mono ?_; rintro e w1 ⟨rfl, hb⟩) | (go_at_call 20; refine (kind_any o _ ho1 ho2).mono ?_; rintro e w' ⟨rfl, rfl⟩) | (go_at_call 15; refine (rkind_any o _ ho1 ho2).mono ?_; rintro e w' ⟨rfl, rfl⟩) | (go_at_call 21; refine (index_yes o _ ho1 ho2 HK.out).mono ?_; rintro e w' ⟨rfl, rfl⟩))
        go_ret
        exact ⟨rfl, hb⟩
      · have hv2 : 1 ≤ v := by omega
        go_enter Tryd.func5, Tryd.ntmps5
        go_wp2_with (first | (go_at_call 19; refine (at_out v _ HV.out).mono ?_; rintro e w' ⟨rfl, rfl⟩) | (go_at_call 10; refine (awake_any _ HS.out hz).mono ?_; rintro e w1 ⟨rfl, hb⟩) | (go_at_call 20; refine (kind_any o _ ho1 ho2).mono ?_; rintro e w' ⟨rfl, rfl⟩) | (go_at_call 15; refine (rkind_any o _ ho1 ho2).mono ?_; rintro e w' ⟨rfl, rfl⟩) | (go_at_call 21; refine (index_yes o _ ho1 ho2 HK.out).mono ?_; rintro e w' ⟨rfl, rfl⟩))
        go_ret
        exact ⟨rfl, hb⟩
  · have HK := Lib.hid hk
    have d := neq_kind hk
    clear hk
    by_cases hv : 1 ≤ v ∧ v ≤ 2147483647
    · obtain ⟨h1, h2⟩ := hv
      go_enter Tryd.func5, Tryd.ntmps5
      go_wp2_with (first | (go_at_call 19; refine (at_in v _ h1 h2).mono ?_; rintro e w' ⟨rfl, rfl⟩) | (go_at_call 10; refine (awake_any _ HS.out hz).mono ?_; rintro e w1 ⟨rfl, hb⟩) | (go_at_call 20; refine (kind_any o _ ho1 ho2).mono ?_; rintro e w' ⟨rfl, rfl⟩) | (go_at_call 15; refine (rkind_any o _ ho1 ho2).mono ?_; rintro e w' ⟨rfl, rfl⟩) | (go_at_call 21; refine (index_no o _ ho1 ho2 HK.out).mono ?_; rintro e w' ⟨rfl, rfl⟩))
      go_ret
      exact ⟨rfl, hb⟩
    · have hv' : v < 1 ∨ 2147483647 < v := by omega
      have HV := Lib.hid hv'
      clear hv
      rcases hv' with hv' | hv'
      · go_enter Tryd.func5, Tryd.ntmps5
        go_wp2_with (first | (go_at_call 19; refine (at_out v _ HV.out).mono ?_; rintro e w' ⟨rfl, rfl⟩) | (go_at_call 10; refine (awake_any _ HS.out hz).mono ?_; rintro e w1 ⟨rfl, hb⟩) | (go_at_call 20; refine (kind_any o _ ho1 ho2).mono ?_; rintro e w' ⟨rfl, rfl⟩) | (go_at_call 15; refine (rkind_any o _ ho1 ho2).mono ?_; rintro e w' ⟨rfl, rfl⟩) | (go_at_call 21; refine (index_no o _ ho1 ho2 HK.out).mono ?_; rintro e w' ⟨rfl, rfl⟩))
        go_ret
        exact ⟨rfl, hb⟩
      · have hv2 : 1 ≤ v := by omega
        go_enter Tryd.func5, Tryd.ntmps5
        go_wp2_with (first | (go_at_call 19; refine (at_out v _ HV.out).mono ?_; rintro e w' ⟨rfl, rfl⟩) | (go_at_call 10; refine (awake_any _ HS.out hz).mono ?_; rintro e w1 ⟨rfl, hb⟩) | (go_at_call 20; refine (kind_any o _ ho1 ho2).mono ?_; rintro e w' ⟨rfl, rfl⟩) | (go_at_call 15; refine (rkind_any o _ ho1 ho2).mono ?_; rintro e w' ⟨rfl, rfl⟩) | (go_at_call 21; refine (index_no o _ ho1 ho2 HK.out).mono ?_; rintro e w' ⟨rfl, rfl⟩))
        go_ret
        exact ⟨rfl, hb⟩

/-! Length -/
set_option maxRecDepth 20000 in
theorem length_in (n : Int) (w : World) (h1 : 0 ≤ n) (h2 : n ≤ 262140) : Calls Tryd.prog 17 #[.int .i64 n] w fun e w' => e = .returned (.tuple #[.int .i64 ((n + 3) / 4), .int .i64 (4 * ((n + 3) / 4) - n), .int .i64 0]) ∧ w = w' := by
  go_enter Tryd.func17, Tryd.ntmps17
  go_wp2
  go_ret3
  exact ⟨rfl, rfl⟩
set_option maxRecDepth 20000 in
theorem length_out (n : Int) (w : World) (h : n < 0 ∨ 262140 < n) : Calls Tryd.prog 17 #[.int .i64 n] w fun e w' => e = .returned (.tuple #[.int .i64 0, .int .i64 0, .int .i64 1]) ∧ w = w' := by
  rcases h with h | h
  · go_enter Tryd.func17, Tryd.ntmps17
    go_wp2
    go_ret3
    exact ⟨rfl, rfl⟩
  · have h' : 0 ≤ n := by omega
    go_enter Tryd.func17, Tryd.ntmps17
    go_wp2
    go_ret3
    exact ⟨rfl, rfl⟩
set_option maxRecDepth 20000 in
set_option maxHeartbeats 1000000 in
theorem rlength_in (n : Int) (w : World) (h1 : 0 ≤ n) (h2 : n ≤ 262140) : Calls Tryd.prog 18 #[.int .i64 n] w fun e w' => e = .returned (.tuple #[.int .i64 ((n + 3) / 4), .int .i64 (4 * ((n + 3) / 4) - n)]) ∧ w = w' := by
  go_enter Tryd.func18, Tryd.ntmps18
  go_wp2
  go_loop [4] (fun t => ∃ k : Nat, (k : Int) ≤ (n + 3) / 4 ∧ t = .int .i64 k) (fun t => 65536 - (intOf t).toNat)
  case atStart => exact ⟨0, by omega, rfl⟩
  case round =>
    obtain ⟨k, hk, rfl⟩ := hrel
    by_cases hlt : 4 * (k : Int) < n
    · go_wp2
      go_round
      case rel => exact ⟨k + 1, by omega, by go_num⟩
      case measure => simp [intOf]; omega
    · have e : (n + 3) / 4 = (k : Int) := by omega
      have E := Lib.hid e
      have hk2 : (k : Int) ≤ 65536 := by omega
      clear e hk
      go_wp2
      go_ret2
      exact ⟨by rw [E.out]; rfl, rfl⟩
set_option maxRecDepth 20000 in
set_option maxHeartbeats 4000000 in
theorem lengths_any (n : Int) (w : World) (hs : Spares w) (hz : 0 < w.heap.size) :
    Calls Tryd.prog 4 #[.int .i64 n] w fun e w' => e = .returned (.bool true) ∧ Below w.heap.size w w' := by
  have HS := Lib.hid hs
  clear hs
  by_cases hn : 0 ≤ n ∧ n ≤ 262140
  · obtain ⟨h1, h2⟩ := hn
    go_enter Tryd.func4, Tryd.ntmps4
    go_wp2_with (first | (go_at_call 17; refine (length_in n _ h1 h2).mono ?_; rintro e w' ⟨rfl, rfl⟩) | (go_at_call 10; refine (awake_any _ HS.out hz).mono ?_; rintro e w1 ⟨rfl, hb⟩) | (go_at_call 18; refine (rlength_in n _ h1 h2).mono ?_; rintro e w' ⟨rfl, rfl⟩))
    go_ret
    exact ⟨rfl, hb⟩
  · have hv' : n < 0 ∨ 262140 < n := by omega
    have HV := Lib.hid hv'
    clear hn
    rcases hv' with hv' | hv'
    · go_enter Tryd.func4, Tryd.ntmps4
      go_wp2_with (first | (go_at_call 17; refine (length_out n _ HV.out).mono ?_; rintro e w' ⟨rfl, rfl⟩) | (go_at_call 10; refine (awake_any _ HS.out hz).mono ?_; rintro e w1 ⟨rfl, hb⟩))
      go_ret
      exact ⟨rfl, hb⟩
    · have hv2 : 0 ≤ n := by omega
      go_enter Tryd.func4, Tryd.ntmps4
      go_wp2_with (first | (go_at_call 17; refine (length_out n _ HV.out).mono ?_; rintro e w' ⟨rfl, rfl⟩) | (go_at_call 10; refine (awake_any _ HS.out hz).mono ?_; rintro e w1 ⟨rfl, hb⟩))
      go_ret
      exact ⟨rfl, hb⟩
end Go.Proofs.YtlopmhnakehnaaaDoor
