/-
  Headers: Header f21, the document's f22, Unheader f23; may f35. No statement of the seat is proved here.
-/
import Derived.Test.YtaeegkljldngmaaDoorCdC
namespace Go.Proofs.YtaeegkljldngmaaDoor
open Go.RowKit

def hdrB (a t s : Int) : Bool := decide (a < 0) || decide (15 < a) || decide (t < a) || decide (63 < t) || decide (s < 0) || decide (127 < s)
theorem hdrB_no {a t s : Int} (h : hdrB a t s = false) : 0 ≤ a ∧ a ≤ 15 ∧ a ≤ t ∧ t ≤ 63 ∧ 0 ≤ s ∧ s ≤ 127 := by
  simp only [hdrB, Bool.or_eq_false_iff, decide_eq_false_iff_not] at h
  omega
def hdrO (a t s : Int) : Int := if hdrB a t s then -1 else a + 16 * t + 1024 * s
set_option maxRecDepth 100000 in
theorem Header_bad (a t s : Int) (w : World) (h : hdrB a t s = true) : Calls Tryd.prog 12 #[.int .i64 a, .int .i64 t, .int .i64 s] w fun x w' => x = .returned (.tuple #[.int .i64 0, .int .i64 1]) ∧ w = w' := by
  have hb : (decide (a < 0) || decide (15 < a) || decide (t < a) || decide (63 < t) || decide (s < 0) || decide (127 < s)) = true := h
  clear h
  by_cases h1 : a < 0
  · go_enter Tryd.func12, Tryd.ntmps12
    go_wp2
    go_ret2
    exact ⟨rfl, rfl⟩
  by_cases h2 : 15 < a
  · go_enter Tryd.func12, Tryd.ntmps12
    go_wp2
    go_ret2
    exact ⟨rfl, rfl⟩
  by_cases h3 : t < a
  · go_enter Tryd.func12, Tryd.ntmps12
    go_wp2
    go_ret2
    exact ⟨rfl, rfl⟩
  by_cases h4 : 63 < t
  · go_enter Tryd.func12, Tryd.ntmps12
    go_wp2
    go_ret2
    exact ⟨rfl, rfl⟩
  by_cases h5 : s < 0
  · go_enter Tryd.func12, Tryd.ntmps12
    go_wp2
    go_ret2
    exact ⟨rfl, rfl⟩
  · have h6 : 127 < s := by simp at hb; omega
    go_enter Tryd.func12, Tryd.ntmps12
    go_wp2
    go_ret2
    exact ⟨rfl, rfl⟩
set_option maxRecDepth 100000 in
theorem Header_ok (a t s : Int) (w : World) (h : hdrB a t s = false) : Calls Tryd.prog 12 #[.int .i64 a, .int .i64 t, .int .i64 s] w fun x w' => x = .returned (.tuple #[.int .i64 (a + 16 * t + 1024 * s), .int .i64 0]) ∧ w = w' := by
  obtain ⟨h1, h2, h3, h4, h5, h6⟩ := hdrB_no h
  clear h
  have n1 : ¬ a < 0 := by omega
  have n2 : ¬ 15 < a := by omega
  have n3 : ¬ t < a := by omega
  have n4 : ¬ 63 < t := by omega
  have n5 : ¬ s < 0 := by omega
  have n6 : ¬ 127 < s := by omega
  go_enter Tryd.func12, Tryd.ntmps12
  go_wp2
  go_ret2
  exact ⟨rfl, rfl⟩
/-- may a shape be? -/
def shB (a t f n : Int) : Bool := !hdrB a t 0 && decide (0 ≤ f) && decide (f ≤ 255) && decide (n ≤ 255)
theorem shB_yes {a t f n : Int} (h : shB a t f n = true) : 0 ≤ a ∧ a ≤ 15 ∧ a ≤ t ∧ t ≤ 63 ∧ 0 ≤ f ∧ f ≤ 255 ∧ n ≤ 255 := by
  simp only [shB, Bool.and_eq_true, Bool.not_eq_true', decide_eq_true_eq] at h
  have := hdrB_no h.1.1.1
  omega
set_option maxRecDepth 100000 in
theorem may_any (a t f : Int) (A : Option Addr) (n c : Nat) (w : World) : Calls Tryd.prog 28 #[.agg #[.int .i64 a, .int .i64 t, .int .i64 f, .slice A n c]] w fun x w' => x = .returned (.bool (shB a t f n)) ∧ Below w.heap.size w w' := by
  have hb : Below w.heap.size w (w.alloc (.cells #[.int .i64 a, .int .i64 t, .int .i64 f, .slice A n c] 48)) := (Below.refl _ _).alloc (Nat.le_refl _) _
  cases h : hdrB a t 0
  · have HH := Lib.hid fun w => Header_ok a t 0 w h
    have hs : shB a t f n = (decide (0 ≤ f) && decide (f ≤ 255) && decide ((n : Int) ≤ 255)) := by simp [shB, h]
    rw [hs]
    clear h hs
    by_cases h1 : 0 ≤ f
    · by_cases h2 : f ≤ 255
      · by_cases h3 : (n : Int) ≤ 255
        all_goals
          go_enter Tryd.func28, Tryd.ntmps28
          go_wp2_with fail
          refine (HH.out _).mono ?_
          rintro e w1 ⟨rfl, rfl⟩
          go_wp2
          go_ret
          exact ⟨ret_bool (by first | rfl | (simp; omega)), hb⟩
      · go_enter Tryd.func28, Tryd.ntmps28
        go_wp2_with fail
        refine (HH.out _).mono ?_
        rintro e w1 ⟨rfl, rfl⟩
        go_wp2
        go_ret
        exact ⟨ret_bool (by first | rfl | (simp; omega)), hb⟩
    · go_enter Tryd.func28, Tryd.ntmps28
      go_wp2_with fail
      refine (HH.out _).mono ?_
      rintro e w1 ⟨rfl, rfl⟩
      go_wp2
      go_ret
      exact ⟨ret_bool (by first | rfl | (simp; omega)), hb⟩
  · have HH := Lib.hid fun w => Header_bad a t 0 w h
    have hs : shB a t f n = false := by simp [shB, h]
    rw [hs]
    clear h hs
    go_enter Tryd.func28, Tryd.ntmps28
    go_wp2_with fail
    refine (HH.out _).mono ?_
    rintro e w1 ⟨rfl, rfl⟩
    go_wp2
    go_ret
    exact ⟨rfl, hb⟩
end Go.Proofs.YtaeegkljldngmaaDoor
