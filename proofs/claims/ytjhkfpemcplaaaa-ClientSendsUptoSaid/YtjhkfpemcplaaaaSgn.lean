/-
  Contracts of the readers' signed, text and done, and of the document's Signed and Text.
-/
import Derived.Test.YtjhkfpemcplaaaaSmall
namespace Go.Proofs.Ytjhkfpemcplaaaa
open Go.RowKit

/-- the number of a count -/
def unzig (n : Nat) : Int := if n % 2 = 0 then ((n / 2 : Nat) : Int) else -((n / 2 : Nat) : Int) - 1
def SgnPost (w : World) (T B g : Nat) (l : List UInt8) (b : Bool) (e : Ending) (w' : World) : Prop :=
  e = .returned (.int .i64 (unzig (cnt l b).1)) ∧ PartIs w' T B g (cnt l b).2.1 (cnt l b).2.2 ∧ w.grownBy w' (some g)
set_option maxRecDepth 20000 in
theorem sgn_any (B g : Nat) (l : List UInt8) (b : Bool) (w : World) (h : PartIs w 151 B g l b) : Calls Try.prog 94 #[.pointer (some ⟨g, 0, none⟩)] w (SgnPost w 151 B g l b) := by
  have HC := Lib.hid (cnt_any B g l b w h)
  have hlt := cnt_lt l b
  unfold CntPost at HC
  unfold SgnPost
  generalize cnt l b = r at HC hlt ⊢
  obtain ⟨m, l', b'⟩ := r
  dsimp only at HC hlt ⊢
  clear h
  by_cases h2 : m % 2 = 0
  · have d : (((m : Int) % 2) == 0) = true := by rw [beq_iff_eq]; omega
    have e1 : unzig m = (m : Int) / 2 := by unfold unzig; rw [if_pos h2]; omega
    rw [e1]
    clear h2 e1
    go_enter Try.func94, Try.ntmps94
    go_wp2_with fail
    refine HC.out.mono ?_
    rintro e w1 ⟨rfl, hp1, hg1⟩
    clear HC
    go_wp2
    go_ret
    exact ⟨ret_int (by simp), hp1, hg1⟩
  · have d : (((m : Int) % 2) == 0) = false := by rw [beq_eq_false_iff_ne]; omega
    have e1 : unzig m = -((m : Int) / 2) - 1 := by unfold unzig; rw [if_neg h2]; omega
    rw [e1]
    clear h2 e1
    go_enter Try.func94, Try.ntmps94
    go_wp2_with fail
    refine HC.out.mono ?_
    rintro e w1 ⟨rfl, hp1, hg1⟩
    clear HC
    go_wp2
    go_ret
    exact ⟨ret_int (by simp), hp1, hg1⟩
set_option maxRecDepth 20000 in
theorem rsgn_any (B g : Nat) (l : List UInt8) (b : Bool) (w : World) (h : PartIs w 110 B g l b) : Calls Try.prog 61 #[.pointer (some ⟨g, 0, none⟩)] w (SgnPost w 110 B g l b) := by
  have HC := Lib.hid (rcnt_any B g l b w h)
  have hlt := cnt_lt l b
  unfold CntPost at HC
  unfold SgnPost
  generalize cnt l b = r at HC hlt ⊢
  obtain ⟨m, l', b'⟩ := r
  dsimp only at HC hlt ⊢
  clear h
  by_cases h2 : m % 2 = 0
  · have d : (((m : Int) % 2) == 0) = true := by rw [beq_iff_eq]; omega
    have e1 : unzig m = (m : Int) / 2 := by unfold unzig; rw [if_pos h2]; omega
    rw [e1]
    clear h2 e1
    go_enter Try.func61, Try.ntmps61
    go_wp2_with fail
    refine HC.out.mono ?_
    rintro e w1 ⟨rfl, hp1, hg1⟩
    clear HC
    go_wp2
    go_ret
    exact ⟨ret_int (by simp), hp1, hg1⟩
  · have d : (((m : Int) % 2) == 0) = false := by rw [beq_eq_false_iff_ne]; omega
    have e1 : unzig m = -((m : Int) / 2) - 1 := by unfold unzig; rw [if_neg h2]; omega
    rw [e1]
    clear h2 e1
    go_enter Try.func61, Try.ntmps61
    go_wp2_with fail
    refine HC.out.mono ?_
    rintro e w1 ⟨rfl, hp1, hg1⟩
    clear HC
    go_wp2
    go_ret
    exact ⟨ret_int (by simp), hp1, hg1⟩
end Go.Proofs.Ytjhkfpemcplaaaa
