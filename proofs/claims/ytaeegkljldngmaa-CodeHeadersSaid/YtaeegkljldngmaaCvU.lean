/-
  The law CodeHeaders f7. No statement of the seat is proved here.
-/
import Derived.Test.YtaeegkljldngmaaCvR
namespace Go.Proofs.Ytaeegkljldngmaa
open Go.RowKit

theorem hdr_back {n : Int} (hb : hdrB (n % 16) (n / 16 % 64) (n / 1024) = false) : hdrO (n % 16) (n / 16 % 64) (n / 1024) = n ∧ n < 131072 := by
  have h1 := hdrB_no hb
  unfold hdrO
  rw [hb, if_neg (by decide)]
  omega
set_option maxRecDepth 100000 in
set_option maxHeartbeats 4000000 in
theorem headers_any (a t s n : Int) (w : World) (h2 : n ≤ 9223372036854775807) : Calls Try.prog 7 #[.int .i64 a, .int .i64 t, .int .i64 s, .int .i64 n] w (AwP w) := by
  have H14 := Lib.hid awake_any
  have H22 := Lib.hid (Rheader_any a t s)
  obtain ⟨h, er, wn, hq, HH⟩ : ∃ h er wn : Int, hdrO a t s = wn ∧ Hid ((∀ w, Calls Try.prog 21 #[.int .i64 a, .int .i64 t, .int .i64 s] w fun x w' => x = .returned (.tuple #[.int .i64 h, .int .i64 er]) ∧ w = w') ∧ ((wn = -1 ∧ h = 0 ∧ er = 1) ∨ (0 ≤ wn ∧ h = wn ∧ er = 0))) := by
    cases hb : hdrB a t s with
    | true => exact ⟨0, 1, -1, by unfold hdrO; rw [hb]; rfl, Lib.hid ⟨fun w => Header_bad a t s w hb, .inl ⟨rfl, rfl, rfl⟩⟩⟩
    | false =>
      have := hdrB_no hb
      exact ⟨_, 0, _, rfl, Lib.hid ⟨fun w => by have := Header_ok a t s w hb; unfold hdrO; rw [hb]; exact this, .inr ⟨by unfold hdrO; rw [hb, if_neg (by decide)]; omega, rfl, rfl⟩⟩⟩
  rw [hq] at H22
  have H21 := Lib.hid HH.out.1
  have HC := Lib.hid HH.out.2
  clear HH hq
  obtain ⟨ua, ut, us, ue, HU⟩ : ∃ ua ut us ue : Int, Hid ((∀ w, Calls Try.prog 23 #[.int .i64 n] w fun x w' => x = .returned (.tuple #[.int .i64 ua, .int .i64 ut, .int .i64 us, .int .i64 ue]) ∧ w = w') ∧ ((n < 0 ∧ ua = 0 ∧ ut = 0 ∧ us = 0 ∧ ue = 1) ∨ (0 ≤ n ∧ hdrO (n % 16) (n / 16 % 64) (n / 1024) = -1 ∧ ua = 0 ∧ ut = 0 ∧ us = 0 ∧ ue = 1) ∨ (0 ≤ n ∧ n < 131072 ∧ hdrO (n % 16) (n / 16 % 64) (n / 1024) = n ∧ ua = n % 16 ∧ ut = n / 16 % 64 ∧ us = n / 1024 ∧ ue = 0))) := by
    by_cases h0 : n < 0
    · exact ⟨0, 0, 0, 1, Lib.hid ⟨fun w => Unheader_bad n w h2 (.inl h0), .inl ⟨h0, rfl, rfl, rfl, rfl⟩⟩⟩
    · cases hb : hdrB (n % 16) (n / 16 % 64) (n / 1024) with
      | true => exact ⟨0, 0, 0, 1, Lib.hid ⟨fun w => Unheader_bad n w h2 (.inr ⟨by omega, hb⟩), .inr (.inl ⟨by omega, by unfold hdrO; rw [hb]; rfl, rfl, rfl, rfl, rfl⟩)⟩⟩
      | false =>
        have := hdr_back (n := n) hb
        exact ⟨_, _, _, 0, Lib.hid ⟨fun w => Unheader_ok n w (by omega) h2 hb, .inr (.inr ⟨by omega, this.2, this.1, rfl, rfl, rfl, rfl⟩)⟩⟩
  have H23 := Lib.hid HU.out.1
  have HN := Lib.hid HU.out.2
  have HR := Lib.hid (Rheader_any (n % 16) (n / 16 % 64) (n / 1024))
  clear HU
  go_enter Try.func7, Try.ntmps7
  go_upto_if 30 with (first | (go_at_call 21; refine (H21.out _).mono ?_; rintro e w1 ⟨rfl, rfl⟩) | (go_at_call 22; refine (H22.out _).mono ?_; rintro e w1 ⟨rfl, rfl⟩) | (go_at_call 14; refine (H14.out _).mono ?_; rintro e w1 ⟨rfl, hb⟩; have HB := Lib.hid hb; clear hb))
  clear H21 H22 H14
  go_cut [8] (fun _ wx => wx = w1)
  case first =>
    rcases HC.out with ⟨rfl, rfl, rfl⟩ | ⟨h0, rfl, rfl⟩
    · go_wp2
      go_meet
      rfl
    · have e1 : decide (h < 0) = false := by simp; omega
      have e2 : (h != h) = false := by simp
      go_wp2
      go_meet
      rfl
  case rest =>
    obtain rfl := hcut
    clear HC
    have HT : Hid (AwP w (.returned (.bool true)) wc) := Lib.hid ⟨rfl, HB.out⟩
    clear HB
    rcases HN.out with ⟨n0, rfl, rfl, rfl, rfl⟩ | ⟨n0, hq, rfl, rfl, rfl, rfl⟩ | ⟨n0, n1, hq, rfl, rfl, rfl, rfl⟩
    · clear HN HR
      go_upto_region 11 with (first | (go_at_call 23; refine (H23.out _).mono ?_; rintro e w2 ⟨rfl, rfl⟩))
      go_wp2
      go_ret
      exact HT.out
    · rw [hq] at HR
      have e3 : ((-1 : Int) == n) = false := by rw [beq_eq_false_iff_ne]; omega
      clear HN hq
      go_upto_region 11 with (first | (go_at_call 23; refine (H23.out _).mono ?_; rintro e w2 ⟨rfl, rfl⟩))
      by_cases n1 : n < 131072
      · go_wp2_with (go_at_call 22; refine (HR.out _).mono ?_; rintro e w2 ⟨rfl, rfl⟩)
        go_ret
        exact HT.out
      · go_wp2_with (go_at_call 22; refine (HR.out _).mono ?_; rintro e w2 ⟨rfl, rfl⟩)
        go_ret
        exact HT.out
    · rw [hq] at HR
      have e3 : (n == n) = true := by simp
      clear HN hq
      go_upto_region 11 with (first | (go_at_call 23; refine (H23.out _).mono ?_; rintro e w2 ⟨rfl, rfl⟩))
      go_wp2_with (go_at_call 22; refine (HR.out _).mono ?_; rintro e w2 ⟨rfl, rfl⟩)
      go_ret
      exact HT.out
end Go.Proofs.Ytaeegkljldngmaa
