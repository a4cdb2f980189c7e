/-
  Small integers' oops: contracts of Fits, Small, Value, Kind, At, Index and of the document's Fits, Small, Kind, Value.
-/
import Derived.Test.YtlopmhnakehnaaaDoorChecked
import Derived.WalkKit
import Derived.RowKit
import Derived.LoopTactic
import Derived.Outline
import Derived.Lib.Hide
import Derived.Below
import Derived.Laws.BitsAllLaws
import Derived.Laws.BitsLemmas
import Derived.IntWalk
namespace Go.Proofs.YtlopmhnakehnaaaDoor
open Go.RowKit

theorem ret_int {k : IntKind} {a b : Int} (h : a = b) : Ending.returned (.int k a) = .returned (.int k b) := by rw [h]
theorem wraps_u32 (n : Int) (h₀ : 0 ≤ n) (h₁ : n < 2 ^ 32) : IntKind.u32.wrap n = n := by rw [IntKind.wrap_u32]; omega
theorem and1 (o : Int) (h0 : 0 ≤ o) (h1 : o ≤ 4294967295) : bits .and .u32 o 1 = o % 2 := bits_mask .u32 32 (by decide) wraps_u32 1 (by decide) o h0 (by omega)
theorem or1 (x : Int) (h0 : 0 ≤ x) (h1 : x ≤ 4294967295) (h2 : x % 2 = 0) : bits .or .u32 x 1 = x + 1 :=
  bits_join .u32 32 (by decide) wraps_u32 1 x 1 h0 (by omega) (by omega) (by omega) (by omega) (by omega)

/-! Fits -/
def fitsB (v : Int) : Bool := decide (-1073741824 ≤ v ∧ v ≤ 1073741823)
theorem fits_yes (v : Int) (w : World) (h1 : -1073741824 ≤ v) (h2 : v ≤ 1073741823) : Calls Tryd.prog 11 #[.int .i64 v] w fun e w' => e = .returned (.bool true) ∧ w = w' := by
  go_enter Tryd.func11, Tryd.ntmps11
  go_wp2
  go_ret
  exact ⟨rfl, rfl⟩
theorem fits_no (v : Int) (w : World) (h : v < -1073741824 ∨ 1073741823 < v) : Calls Tryd.prog 11 #[.int .i64 v] w fun e w' => e = .returned (.bool false) ∧ w = w' := by
  rcases h with h | h
  · go_enter Tryd.func11, Tryd.ntmps11
    go_wp2
    go_ret
    exact ⟨rfl, rfl⟩
  · have h' : -1073741824 ≤ v := by omega
    go_enter Tryd.func11, Tryd.ntmps11
    go_wp2
    go_ret
    refine ⟨?_, rfl⟩
    show Ending.returned (.bool (decide (v ≤ 1073741823))) = _
    rw [decide_eq_false (by omega)]
theorem rfits_yes (v : Int) (w : World) (h1 : -1073741824 ≤ v) (h2 : v ≤ 1073741823) : Calls Tryd.prog 12 #[.int .i64 v] w fun e w' => e = .returned (.bool true) ∧ w = w' := by
  go_enter Tryd.func12, Tryd.ntmps12
  go_wp2
  go_ret
  exact ⟨rfl, rfl⟩
theorem rfits_no (v : Int) (w : World) (h : v < -1073741824 ∨ 1073741823 < v) : Calls Tryd.prog 12 #[.int .i64 v] w fun e w' => e = .returned (.bool false) ∧ w = w' := by
  rcases h with h | h
  · go_enter Tryd.func12, Tryd.ntmps12
    go_wp2
    go_ret
    exact ⟨rfl, rfl⟩
  · have h' : -1073741824 ≤ v := by omega
    go_enter Tryd.func12, Tryd.ntmps12
    go_wp2
    go_ret
    refine ⟨?_, rfl⟩
    show Ending.returned (.bool (decide (v ≤ 1073741823))) = _
    rw [decide_eq_false (by omega)]

/-! Small -/
theorem small_in (v : Int) (w : World) (h1 : -1073741824 ≤ v) (h2 : v ≤ 1073741823) :
    Calls Tryd.prog 9 #[.int .i64 v] w fun e w' => e = .returned (.tuple #[.int .u32 ((2 * v + 1) % 4294967296), .int .i64 0]) ∧ w = w' := by
  have hb : bits .or .u32 (v % 4294967296 * 2 % 4294967296) 1 = (2 * v + 1) % 4294967296 := by
    rw [or1 _ (by omega) (by omega) (by omega)]
    omega
  go_enter Tryd.func9, Tryd.ntmps9
  go_wp2
  go_ret2
  exact ⟨rfl, rfl⟩
theorem small_out (v : Int) (w : World) (h : v < -1073741824 ∨ 1073741823 < v) :
    Calls Tryd.prog 9 #[.int .i64 v] w fun e w' => e = .returned (.tuple #[.int .u32 0, .int .i64 1]) ∧ w = w' := by
  go_enter Tryd.func9, Tryd.ntmps9
  go_wp2_with (go_at_call 11; refine (fits_no v _ h).mono ?_; rintro e w' ⟨rfl, rfl⟩)
  go_ret2
  exact ⟨rfl, rfl⟩
theorem rsmall_in (v : Int) (w : World) (h1 : -1073741824 ≤ v) (h2 : v ≤ 1073741823) :
    Calls Tryd.prog 13 #[.int .i64 v] w fun e w' => e = .returned (.int .u32 ((2 * v + 1) % 4294967296)) ∧ w = w' := by
  by_cases h : v < 0
  · have h3 : 2 * v + 1 < 0 := by omega
    have e : (2 * v + 1) % 4294967296 = 2 * v + 1 + 4294967296 := by omega
    rw [e]
    clear e
    go_enter Tryd.func13, Tryd.ntmps13
    go_wp2
    go_ret
    exact ⟨ret_int (by omega), rfl⟩
  · have h3 : 0 ≤ 2 * v + 1 := by omega
    have e : (2 * v + 1) % 4294967296 = 2 * v + 1 := by omega
    rw [e]
    clear e
    go_enter Tryd.func13, Tryd.ntmps13
    go_wp2
    go_ret
    exact ⟨ret_int (by omega), rfl⟩

/-! Kind -/
def kindN (o : Int) : Int := if o = 0 then 0 else if o % 2 = 1 then 1 else 2
theorem kind_any (o : Int) (w : World) (h1 : 0 ≤ o) (h2 : o ≤ 4294967295) : Calls Tryd.prog 20 #[.int .u32 o] w fun e w' => e = .returned (.int .i64 (kindN o)) ∧ w = w' := by
  have hb := and1 o h1 h2
  by_cases h0 : o = 0
  · subst h0
    clear hb
    go_enter Tryd.func20, Tryd.ntmps20
    go_wp2
    go_ret
    exact ⟨rfl, rfl⟩
  · have d0 : (o == 0) = false := by simpa using h0
    by_cases h3 : o % 2 = 1
    · have d1 : (o % 2 == 1) = true := by simpa using h3
      have e : kindN o = 1 := by unfold kindN; rw [if_neg h0, if_pos h3]
      rw [e]
      clear e h3
      go_enter Tryd.func20, Tryd.ntmps20
      go_wp2
      go_ret
      exact ⟨rfl, rfl⟩
    · have d1 : (o % 2 == 1) = false := by simpa using h3
      have e : kindN o = 2 := by unfold kindN; rw [if_neg h0, if_neg h3]
      rw [e]
      clear e h3
      go_enter Tryd.func20, Tryd.ntmps20
      go_wp2
      go_ret
      exact ⟨rfl, rfl⟩
theorem rkind_any (o : Int) (w : World) (h1 : 0 ≤ o) (h2 : o ≤ 4294967295) : Calls Tryd.prog 15 #[.int .u32 o] w fun e w' => e = .returned (.int .i64 (kindN o)) ∧ w = w' := by
  by_cases h0 : o = 0
  · subst h0
    go_enter Tryd.func15, Tryd.ntmps15
    go_wp2
    go_ret
    exact ⟨rfl, rfl⟩
  · have d0 : (o == 0) = false := by simpa using h0
    by_cases h3 : o % 2 = 1
    · have d1 : (o % 2 == 1) = true := by simpa using h3
      have e : kindN o = 1 := by unfold kindN; rw [if_neg h0, if_pos h3]
      rw [e]
      clear e h3
      go_enter Tryd.func15, Tryd.ntmps15
      go_wp2
      go_ret
      exact ⟨rfl, rfl⟩
    · have d1 : (o % 2 == 1) = false := by simpa using h3
      have e : kindN o = 2 := by unfold kindN; rw [if_neg h0, if_neg h3]
      rw [e]
      clear e h3
      go_enter Tryd.func15, Tryd.ntmps15
      go_wp2
      go_ret
      exact ⟨rfl, rfl⟩
theorem kind_one {o : Int} (h : kindN o = 1) : o % 2 = 1 := by
  unfold kindN at h
  split at h
  · cases h
  · split at h
    · assumption
    · cases h
theorem kind_two {o : Int} (h : kindN o = 2) : o ≠ 0 ∧ o % 2 = 0 := by
  unfold kindN at h
  split at h
  · cases h
  · split at h
    · cases h
    · exact ⟨by assumption, by omega⟩
theorem kind_cases (o : Int) : kindN o = 0 ∨ kindN o = 1 ∨ kindN o = 2 := by
  unfold kindN
  split
  · exact .inl rfl
  · split
    · exact .inr (.inl rfl)
    · exact .inr (.inr rfl)

/-! Value -/
def valN (o : Int) : Int := if o < 2147483648 then (o - 1) / 2 else (o - 4294967297) / 2
theorem value_no (o : Int) (w : World) (h1 : 0 ≤ o) (h2 : o ≤ 4294967295) (h : kindN o ≠ 1) : Calls Tryd.prog 14 #[.int .u32 o] w fun e w' => e = .returned (.tuple #[.int .i64 0, .int .i64 3]) ∧ w = w' := by
  have d : (kindN o == 1) = false := by simpa using h
  go_enter Tryd.func14, Tryd.ntmps14
  go_wp2_with (go_at_call 20; refine (kind_any o _ h1 h2).mono ?_; rintro e w' ⟨rfl, rfl⟩)
  go_ret2
  exact ⟨rfl, rfl⟩
theorem value_yes (o : Int) (w : World) (h1 : 0 ≤ o) (h2 : o ≤ 4294967295) (h : kindN o = 1) : Calls Tryd.prog 14 #[.int .u32 o] w fun e w' => e = .returned (.tuple #[.int .i64 (valN o), .int .i64 0]) ∧ w = w' := by
  have d : (kindN o == 1) = true := by simpa using h
  have hm := kind_one h
  have e : wrap64 (wrap32 o / 2) = valN o := by
    unfold valN wrap64 wrap32
    split <;> omega
  clear h hm
  go_enter Tryd.func14, Tryd.ntmps14
  go_wp2_with (go_at_call 20; refine (kind_any o _ h1 h2).mono ?_; rintro e w' ⟨rfl, rfl⟩)
  go_ret2
  refine ⟨?_, rfl⟩
  show Ending.returned (.tuple #[.int .i64 (wrap64 (wrap32 o / 2)), .int .i64 0]) = _
  rw [e]
theorem rvalue_yes (o : Int) (w : World) (h1 : 0 ≤ o) (h2 : o ≤ 4294967295) (h : kindN o = 1) : Calls Tryd.prog 16 #[.int .u32 o] w fun e w' => e = .returned (.int .i64 (valN o)) ∧ w = w' := by
  have hm := kind_one h
  clear h
  by_cases h3 : o < 2147483648
  · have e : valN o = (o - 1) / 2 := by unfold valN; rw [if_pos h3]
    rw [e]
    clear e
    have h4 : 1 ≤ o := by omega
    clear hm
    go_enter Tryd.func16, Tryd.ntmps16
    go_wp2
    go_ret
    exact ⟨rfl, rfl⟩
  · have e : valN o = (o - 4294967297) / 2 := by unfold valN; rw [if_neg h3]
    have e2 : ((o - 4294967296 - 1).tdiv 2) = (o - 4294967297) / 2 := by
      obtain ⟨k, hk⟩ : ∃ k, o - 4294967297 = 2 * k := ⟨(o - 4294967297) / 2, by omega⟩
      have h5 : o - 4294967296 - 1 = 2 * k := by omega
      rw [h5, hk, Int.mul_tdiv_cancel_left _ (by decide), Int.mul_ediv_cancel_left _ (by decide)]
    rw [e]
    clear e hm
    have h4 : 2147483648 ≤ o := by omega
    go_enter Tryd.func16, Tryd.ntmps16
    go_wp2
    go_ret
    exact ⟨ret_int (by first | rfl | omega | assumption), rfl⟩

/-! At, Index -/
theorem at_in (i : Int) (w : World) (h1 : 1 ≤ i) (h2 : i ≤ 2147483647) : Calls Tryd.prog 19 #[.int .i64 i] w fun e w' => e = .returned (.tuple #[.int .u32 (2 * i), .int .i64 0]) ∧ w = w' := by
  go_enter Tryd.func19, Tryd.ntmps19
  go_wp2
  go_ret2
  exact ⟨rfl, rfl⟩
theorem at_out (i : Int) (w : World) (h : i < 1 ∨ 2147483647 < i) : Calls Tryd.prog 19 #[.int .i64 i] w fun e w' => e = .returned (.tuple #[.int .u32 0, .int .i64 1]) ∧ w = w' := by
  rcases h with h | h
  · go_enter Tryd.func19, Tryd.ntmps19
    go_wp2
    go_ret2
    exact ⟨rfl, rfl⟩
  · have h' : 1 ≤ i := by omega
    go_enter Tryd.func19, Tryd.ntmps19
    go_wp2
    go_ret2
    exact ⟨rfl, rfl⟩
theorem index_no (o : Int) (w : World) (h1 : 0 ≤ o) (h2 : o ≤ 4294967295) (h : kindN o ≠ 2) : Calls Tryd.prog 21 #[.int .u32 o] w fun e w' => e = .returned (.tuple #[.int .i64 0, .int .i64 3]) ∧ w = w' := by
  have d : (kindN o == 2) = false := by simpa using h
  go_enter Tryd.func21, Tryd.ntmps21
  go_wp2_with (go_at_call 20; refine (kind_any o _ h1 h2).mono ?_; rintro e w' ⟨rfl, rfl⟩)
  go_ret2
  exact ⟨rfl, rfl⟩
theorem index_yes (o : Int) (w : World) (h1 : 0 ≤ o) (h2 : o ≤ 4294967295) (h : kindN o = 2) : Calls Tryd.prog 21 #[.int .u32 o] w fun e w' => e = .returned (.tuple #[.int .i64 (o / 2), .int .i64 0]) ∧ w = w' := by
  have d : (kindN o == 2) = true := by simpa using h
  clear h
  go_enter Tryd.func21, Tryd.ntmps21
  go_wp2_with (go_at_call 20; refine (kind_any o _ h1 h2).mono ?_; rintro e w' ⟨rfl, rfl⟩)
  go_ret2
  exact ⟨rfl, rfl⟩
end Go.Proofs.YtlopmhnakehnaaaDoor
