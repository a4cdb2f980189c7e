/-
  The program's fits f31. No statement of the seat is proved here.
-/
import Derived.Test.YtaeegkljldngmaaDoorCdE
namespace Go.Proofs.YtaeegkljldngmaaDoor
open Go.RowKit

theorem okN_nil {b : Bool} {n : Int} (h1 : 0 ≤ n) (h2 : n ≤ 0) : okN b n = true := by
  obtain rfl : n = 0 := by omega
  cases b <;> rfl
theorem okN_pos {n : Int} (h1 : 0 < n) (h2 : n ≤ 255) : okN true n = true := okN_yes (by omega) h2
set_option maxRecDepth 100000 in
set_option maxHeartbeats 8000000 in
theorem fits_ok (e : En) (x : Ins) (w : World) (h : HasOk e.has) : Calls Tryd.prog 15 #[e.val, x.val] w fun r w' => r = .returned (.bool (fitH e.has x)) ∧ Below w.heap.size w w' := by
  obtain ⟨nm, has, take, put, ends⟩ := e
  dsimp only at h
  simp only [En.val, Ins.val]
  have h0 := h
  have hN := Lib.hid fun k (hk : k < 3) (hn : okN (has3 has k) (sel3 x k) = false) => FitR.bad hk hn
  have hA := Lib.hid fun (hr : FitR has x 3) => FitR.all hr
  generalize hX : sel3 x = sx at *
  have s0 : sx 0 = x.a := by rw [← hX]; rfl
  have s1 : sx 1 = x.b := by rw [← hX]; rfl
  have s2 : sx 2 = x.c := by rw [← hX]; rfl
  rw [← s0, ← s1, ← s2]
  have HX := Lib.hid hX
  clear hX s0 s1 s2
  have HB0 : Hid (∀ (o o' : Obj) (n : Nat), Below w.heap.size w (((w.alloc o).alloc o').drewN n)) := Lib.hid fun o o' n => below_drewN (((Below.refl _ _).alloc (Nat.le_refl _) _).alloc (by simp) _) n
  go_enter Tryd.func15, Tryd.ntmps15
  go_wp2
  go_loopw [15] (fun i wr => ∃ k : Nat, k ≤ 3 ∧ i = .int .i64 k ∧ FitR has x k ∧ ∃ n, wr = ((w.alloc (.cells #[.string nm, .int .i64 has, .int .i64 take, .int .i64 put, .bool ends] 50)).alloc (.cells #[.int .i64 x.op, .int .i64 (sx 0), .int .i64 (sx 1), .int .i64 (sx 2), .int .i64 x.z] 34)).drewN n) (fun i _ => 3 - (intOf i).toNat)
  case atStart => exact ⟨0, by omega, rfl, fun j hj => by omega, 0, rfl⟩
  case round =>
    obtain ⟨k, hk, rfl, hF, n, rfl⟩ := hrel
    have HF := Lib.hid hF
    clear hF
    by_cases hk3 : k = 3
    · subst hk3
      have HFA := Lib.hid (hA.out HF.out)
      clear hA hN
      simp only [show ((3 : Nat) : Int) = 3 from rfl]
      obtain rfl | rfl | rfl | rfl | rfl := h
      all_goals by_cases hl : -32768 ≤ x.z
      all_goals by_cases hh : x.z ≤ 32767
      all_goals by_cases hz : x.z = 0
      all_goals (first | (exfalso; omega) | skip)
      all_goals go_wp2
      all_goals (go_ret; exact ⟨ret_bool (by rw [show fitH _ x = _ from HFA.out]; first | rfl | (simp [hT]; omega)), HB0.out _ _ _⟩)
    · have hkk : k < 3 := by omega
      have HNX := Lib.hid fun (hq : okN (has3 has k) (sx k) = true) => FitR.next (x := x) HF.out (by rw [HX.out]; exact hq)
      have HBD := Lib.hid fun (hq : okN (has3 has k) (sx k) = false) => hN.out k hkk hq
      clear hA hN
      have x0 := idx0
      have x1 := idx1
      have x2 := idx2
      have hr : sx k < 0 ∨ (0 ≤ sx k ∧ sx k ≤ 0) ∨ (0 < sx k ∧ sx k ≤ 255) ∨ 255 < sx k := by omega
      obtain rfl | rfl | rfl : k = 0 ∨ k = 1 ∨ k = 2 := by omega
      all_goals obtain hr | ⟨hr1, hr2⟩ | ⟨hr1, hr2⟩ | hr := hr
      all_goals obtain rfl | rfl | rfl | rfl | rfl := h
      all_goals simp only [show ((0 : Nat) : Int) = 0 from rfl, show ((1 : Nat) : Int) = 1 from rfl, show ((2 : Nat) : Int) = 2 from rfl]
      all_goals go_wp2
      all_goals go_quiet (fail)
      all_goals go_wp2
      all_goals first
        | (go_ret; exact ⟨ret_bool (HBD.out (by first | exact okN_low (by omega) | exact okN_high (by omega) | exact okN_no (by omega))).symm, HB0.out _ _ _⟩)
        | (go_roundw; (case rel => (first | exact ⟨1, by omega, rfl, HNX.out (by first | exact okN_nil hr1 hr2 | exact okN_pos hr1 hr2), ⟨_, rfl⟩⟩ | exact ⟨2, by omega, rfl, HNX.out (by first | exact okN_nil hr1 hr2 | exact okN_pos hr1 hr2), ⟨_, rfl⟩⟩ | exact ⟨3, by omega, rfl, HNX.out (by first | exact okN_nil hr1 hr2 | exact okN_pos hr1 hr2), ⟨_, rfl⟩⟩)); (case measure => decide))
end Go.Proofs.YtaeegkljldngmaaDoor
