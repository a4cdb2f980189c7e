/-
  The document's May f33. No statement of the seat is proved here.
-/
import Derived.Test.YtaeegkljldngmaaCdL
namespace Go.Proofs.Ytaeegkljldngmaa
open Go.RowKit

theorem opn_has (op : Int) : opn op = opnH (hasO op) := rfl
theorem szO_none {op : Int} (h : inO op = false) : szO op = 0 := by
  have := inO_no h
  exact if_neg (by omega)
set_option maxRecDepth 100000 in
set_option maxHeartbeats 8000000 in
theorem Rmay_any (x : Ins) (w : World) : Calls Try.prog 33 #[x.val] w fun r w' => r = .returned (.int .i64 (mayE x)) ∧ Below w.heap.size w w' := by
  simp only [Ins.val]
  cases ho : inO x.op with
  | false =>
    have HF : Hid (mayE x = 50) := Lib.hid (by simp [mayE, ho])
    have H20 := Lib.hid (show ∀ w, Calls Try.prog 20 #[.int .i64 x.op] w (fun e w' => e = .returned (.int .i64 0) ∧ w' = w) from fun w => by
      have := Rsize_any x.op w
      rw [szO_none ho] at this
      exact this)
    clear ho
    go_enter Try.func33, Try.ntmps33
    go_wp2_with (go_at_call 20; refine (H20.out _).mono ?_; rintro e w1 ⟨rfl, rfl⟩)
    go_ret
    exact ⟨ret_int HF.out.symm, (Below.refl _ _).alloc (Nat.le_refl _) _⟩
  | true =>
    have hsz := szO_pos ho
    have H20 := Lib.hid (Rsize_any x.op)
    have H42 := Lib.hid (Operands_any x.op)
    have HM : Hid (mayE x = if fitH (hasO x.op) x then 0 else 51) := Lib.hid (by simp [mayE, ho])
    rw [opn_has] at H42
    have h := hasOk_O x.op
    generalize hasO x.op = has at *
    have hN := Lib.hid fun k (hk : k < 3) (hn : okN (has3 has k) (sel3 x k) = false) => FitR.bad hk hn
    have hA := Lib.hid fun (hr : FitR has x 3) => FitR.all hr
    generalize szO x.op = sz at *
    generalize hX : sel3 x = sx at *
    have s0 : sx 0 = x.a := by rw [← hX]; rfl
    have s1 : sx 1 = x.b := by rw [← hX]; rfl
    have s2 : sx 2 = x.c := by rw [← hX]; rfl
    rw [← s0, ← s1, ← s2]
    have HX := Lib.hid hX
    clear hX s0 s1 s2 ho
    have HB0 : Hid (∀ (o o' : Obj), Below w.heap.size w ((w.alloc o).alloc o')) := Lib.hid fun o o' => ((Below.refl _ _).alloc (Nat.le_refl _) _).alloc (by simp) _
    have q1 : (sz == 0) = false := by rw [beq_eq_false_iff_ne]; omega
    go_enter Try.func33, Try.ntmps33
    go_wp2_with (first | (go_at_call 20; refine (H20.out _).mono ?_; rintro e w1 ⟨rfl, rfl⟩) | (go_at_call 42; refine (H42.out _).mono ?_; rintro e w1 ⟨rfl, rfl⟩))
    go_loopw [28] (fun i wr => ∃ k : Nat, k ≤ 3 ∧ i = .int .i64 k ∧ FitR has x k ∧ wr = (w.alloc (.cells #[.int .i64 x.op, .int .i64 (sx 0), .int .i64 (sx 1), .int .i64 (sx 2), .int .i64 x.z] 43)).alloc (.cells #[.int .i64 (sx 0), .int .i64 (sx 1), .int .i64 (sx 2)] 3)) (fun i _ => 3 - (intOf i).toNat)
    case atStart => exact ⟨0, by omega, rfl, fun j hj => by omega, rfl⟩
    case round =>
      obtain ⟨k, hk, rfl, hF, rfl⟩ := hrel
      have HF := Lib.hid hF
      clear hF
      by_cases hk3 : k = 3
      · subst hk3
        have HFA := Lib.hid (hA.out HF.out)
        clear hA hN
        simp only [show ((3 : Nat) : Int) = 3 from rfl]
        have hr : x.z < -32768 ∨ (-32768 ≤ x.z ∧ x.z < 0) ∨ (0 ≤ x.z ∧ x.z ≤ 0) ∨ (0 < x.z ∧ x.z ≤ 32767) ∨ 32767 < x.z := by omega
        obtain hr | ⟨hr1, hr2⟩ | ⟨hr1, hr2⟩ | ⟨hr1, hr2⟩ | hr := hr
        all_goals have d0 : (x.z != 0) = decide (x.z < 0 ∨ 0 < x.z) := by (rw [Bool.eq_iff_iff]; simp; omega)
        all_goals obtain rfl | rfl | rfl | rfl | rfl := h
        all_goals simp only [opnH]
        all_goals go_wp2
        all_goals (go_ret; exact ⟨ret_int (by rw [HM.out, show fitH _ x = _ from HFA.out]; simp [hT]; omega), HB0.out _ _⟩)
      · have hkk : k < 3 := by omega
        have HNX := Lib.hid fun (hq : okN (has3 has k) (sx k) = true) => FitR.next (x := x) HF.out (by rw [HX.out]; exact hq)
        have HBD := Lib.hid fun (hq : okN (has3 has k) (sx k) = false) => (HM.out.trans (by rw [hN.out k hkk hq]; rfl) : mayE x = 51)
        clear hA hN
        have hr : sx k < 0 ∨ (0 ≤ sx k ∧ sx k ≤ 0) ∨ (0 < sx k ∧ sx k ≤ 255) ∨ 255 < sx k := by omega
        have dz : (sx k != 0) = decide (sx k < 0 ∨ 0 < sx k) := by (rw [Bool.eq_iff_iff]; simp; omega)
        obtain rfl | rfl | rfl : k = 0 ∨ k = 1 ∨ k = 2 := by omega
        all_goals simp only [show ((0 : Nat) : Int) = 0 from rfl, show ((1 : Nat) : Int) = 1 from rfl, show ((2 : Nat) : Int) = 2 from rfl]
        all_goals obtain hr | ⟨hr1, hr2⟩ | ⟨hr1, hr2⟩ | hr := hr
        all_goals obtain rfl | rfl | rfl | rfl | rfl := h
        all_goals simp only [opnH]
        all_goals go_wp2
        all_goals first
          | (go_ret; exact ⟨ret_int (HBD.out (by first | exact okN_low (by omega) | exact okN_high (by omega) | exact okN_no (by omega))).symm, HB0.out _ _⟩)
          | (go_roundw; (case rel => (first | exact ⟨1, by omega, rfl, HNX.out (by first | exact okN_nil hr1 hr2 | exact okN_pos hr1 hr2), by first | rfl | trivial⟩ | exact ⟨2, by omega, rfl, HNX.out (by first | exact okN_nil hr1 hr2 | exact okN_pos hr1 hr2), by first | rfl | trivial⟩ | exact ⟨3, by omega, rfl, HNX.out (by first | exact okN_nil hr1 hr2 | exact okN_pos hr1 hr2), by first | rfl | trivial⟩ | exact ⟨_, _, _, _, ⟨1, by omega, rfl, HNX.out (by first | exact okN_nil hr1 hr2 | exact okN_pos hr1 hr2)⟩, rfl, rfl, rfl, rfl⟩ | exact ⟨_, _, _, _, ⟨2, by omega, rfl, HNX.out (by first | exact okN_nil hr1 hr2 | exact okN_pos hr1 hr2)⟩, rfl, rfl, rfl, rfl⟩ | exact ⟨_, _, _, _, ⟨3, by omega, rfl, HNX.out (by first | exact okN_nil hr1 hr2 | exact okN_pos hr1 hr2)⟩, rfl, rfl, rfl, rfl⟩)); (case measure => decide))
end Go.Proofs.Ytaeegkljldngmaa
