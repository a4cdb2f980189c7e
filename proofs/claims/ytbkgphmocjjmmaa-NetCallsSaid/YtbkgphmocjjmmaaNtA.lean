/-
  The walks of the net's small methods: made, side, Up, Epoch, way, New, Connect.
-/
import Derived.Test.YtbkgphmocjjmmaaNtM
namespace Go.Proofs.Ytbkgphmocjjmmaa
open Go.RowKit

/-- the side of a number -/
def sideN : Bool → Int
  | false => 1
  | true => 2
def sideB (z : Int) : Bool := decide (z = 1 ∨ z = 2)
def wayO : Bool → Nat
  | false => 4
  | true => 12
theorem made_at (g : Nat) (lim : Int) (w : World) (h : w.cell? ⟨g, 0, none⟩ = some (.int .i64 lim)) :
    Calls Try.prog 31 #[.pointer (some ⟨g, 0, none⟩)] w fun e w' => e = .returned (.bool (decide (0 < lim))) ∧ w = w' := by
  go_enter Try.func31, Try.ntmps31
  go_wp2
  go_ret
  exact ⟨rfl, rfl⟩
theorem made_nil (w : World) : Calls Try.prog 31 #[.pointer none] w fun e w' => e = .returned (.bool false) ∧ w = w' := by
  go_enter Try.func31, Try.ntmps31
  go_wp2
  go_ret
  exact ⟨rfl, rfl⟩
theorem side_any (z : Int) (w : World) : Calls Try.prog 32 #[.int .i64 z] w fun e w' => e = .returned (.bool (sideB z)) ∧ w = w' := by
  by_cases h1 : z = 1
  · have t1 : (z == 1) = true := by rw [h1]; rfl
    have HE : Hid (sideB z = true) := Lib.hid (by simp [sideB, h1])
    clear h1
    go_enter Try.func32, Try.ntmps32
    go_wp2
    go_ret
    exact ⟨ret_bool (by rw [HE.out]), rfl⟩
  · have t1 : (z == 1) = false := by rw [beq_eq_false_iff_ne]; exact h1
    by_cases h2 : z = 2
    · have t2 : (z == 2) = true := by rw [h2]; rfl
      have HE : Hid (sideB z = true) := Lib.hid (by simp [sideB, h2])
      clear h1 h2
      go_enter Try.func32, Try.ntmps32
      go_wp2
      go_ret
      exact ⟨ret_bool (by rw [HE.out]), rfl⟩
    · have t2 : (z == 2) = false := by rw [beq_eq_false_iff_ne]; exact h2
      have HE : Hid (sideB z = false) := Lib.hid (by simp [sideB, h1, h2])
      clear h1 h2
      go_enter Try.func32, Try.ntmps32
      go_wp2
      go_ret
      exact ⟨ret_bool (by rw [HE.out]), rfl⟩
theorem up_at (g : Nat) (lim : Int) (up : Bool) (w : World) (h : w.cell? ⟨g, 0, none⟩ = some (.int .i64 lim)) (h1 : w.cell? ⟨g, 1, none⟩ = some (.bool up)) (hl : 0 < lim) :
    Calls Try.prog 25 #[.pointer (some ⟨g, 0, none⟩)] w fun e w' => e = .returned (.bool up) ∧ w = w' := by
  have hd : decide (0 < lim) = true := by simpa using hl
  go_enter Try.func25, Try.ntmps25
  go_wp2_with (go_at_call 31; refine (made_at g lim _ h).mono ?_; rw [hd]; rintro e w' ⟨rfl, rfl⟩)
  go_ret
  exact ⟨rfl, rfl⟩
/-- a pointer to no net: nil, or one that New did not make -/
def NoNet (w : World) (p : Option Addr) : Prop := p = none ∨ ∃ g, p = some ⟨g, 0, none⟩ ∧ w.cell? ⟨g, 0, none⟩ = some (.int .i64 0)
theorem made_no (p : Option Addr) (w : World) (h : NoNet w p) : Calls Try.prog 31 #[.pointer p] w fun e w' => e = .returned (.bool false) ∧ w = w' := by
  rcases h with rfl | ⟨g, rfl, hc⟩
  · exact made_nil w
  · exact (made_at g 0 w hc).mono fun _ _ h => h
theorem up_no (p : Option Addr) (w : World) (h : NoNet w p) : Calls Try.prog 25 #[.pointer p] w fun e w' => e = .returned (.bool false) ∧ w = w' := by
  have H := Lib.hid (made_no p w h)
  clear h
  go_enter Try.func25, Try.ntmps25
  go_wp2_with (go_at_call 31; refine H.out.mono ?_; rintro e w' ⟨rfl, rfl⟩)
  go_ret
  exact ⟨rfl, rfl⟩
theorem way_noside (p : Option Addr) (z : Int) (w : World) (hz : sideB z = false) : Calls Try.prog 33 #[.pointer p, .int .i64 z] w fun e w' => e = .returned (.tuple #[.pointer none, .int .i64 182]) ∧ w = w' := by
  go_enter Try.func33, Try.ntmps33
  go_wp2_with (go_at_call 32; refine (side_any z _).mono ?_; rw [hz]; rintro e w' ⟨rfl, rfl⟩)
  go_ret2
  exact ⟨rfl, rfl⟩
theorem way_down (p : Option Addr) (z : Int) (w : World) (hz : sideB z = true) (h : Calls Try.prog 25 #[.pointer p] w fun e w' => e = .returned (.bool false) ∧ w = w') : Calls Try.prog 33 #[.pointer p, .int .i64 z] w fun e w' => e = .returned (.tuple #[.pointer none, .int .i64 181]) ∧ w = w' := by
  have H := Lib.hid h
  clear h
  go_enter Try.func33, Try.ntmps33
  go_wp2_with (first | (go_at_call 32; refine (side_any z _).mono ?_; rw [hz]; rintro e w' ⟨rfl, rfl⟩) | (go_at_call 25; refine H.out.mono ?_; rintro e w' ⟨rfl, rfl⟩))
  go_ret2
  exact ⟨rfl, rfl⟩
theorem way_up (g : Nat) (lim : Int) (s : Bool) (w : World) (h : w.cell? ⟨g, 0, none⟩ = some (.int .i64 lim)) (h1 : w.cell? ⟨g, 1, none⟩ = some (.bool true)) (hl : 0 < lim) :
    Calls Try.prog 33 #[.pointer (some ⟨g, 0, none⟩), .int .i64 (sideN s)] w fun e w' => e = .returned (.tuple #[.pointer (some ⟨g, wayO s, none⟩), .int .i64 0]) ∧ w = w' := by
  have hz : sideB (sideN s) = true := by cases s <;> rfl
  have H := Lib.hid (up_at g lim true w h h1 hl)
  cases s with
  | false =>
    simp only [sideN, wayO] at *
    go_enter Try.func33, Try.ntmps33
    go_wp2_with (first | (go_at_call 32; refine (side_any _ _).mono ?_; rw [hz]; rintro e w' ⟨rfl, rfl⟩) | (go_at_call 25; refine H.out.mono ?_; rintro e w' ⟨rfl, rfl⟩))
    go_ret2
    exact ⟨rfl, rfl⟩
  | true =>
    simp only [sideN, wayO] at *
    go_enter Try.func33, Try.ntmps33
    go_wp2_with (first | (go_at_call 32; refine (side_any _ _).mono ?_; rw [hz]; rintro e w' ⟨rfl, rfl⟩) | (go_at_call 25; refine H.out.mono ?_; rintro e w' ⟨rfl, rfl⟩))
    go_ret2
    exact ⟨rfl, rfl⟩
end Go.Proofs.Ytbkgphmocjjmmaa
