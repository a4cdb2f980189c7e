/-
  Headers: contracts of may, pack, Pack, Unpack and of the document's May, Pack, Unpack, where the variable spares reads as the program's text lays it.
-/
import Derived.Test.YtlopmhnakehnaaaDoorBase
import Derived.BigQuiet
import Derived.Deep.QuietTactic
namespace Go.Proofs.YtlopmhnakehnaaaDoor
open Go.RowKit

/-- the variable spares -/
def Spares (w : World) : Prop := ∀ i : Nat, i < 5 → w.cell? ⟨0, i, none⟩ = some (.bool (decide (i = 2)))
theorem Spares.alloc {w : World} (h : Spares w) (o : Obj) (hz : 0 < w.heap.size) : Spares (w.alloc o) := fun i hi => by
  rw [World.cell?_alloc_lt w o ⟨0, i, none⟩ hz]
  exact h i hi
def mayB (sz f sp : Int) : Bool := decide (0 ≤ sz ∧ sz ≤ 65535 ∧ 1 ≤ f ∧ f ≤ 4 ∧ 0 ≤ sp ∧ sp ≤ 3 ∧ (sp = 0 ∨ (f = 2 ∧ 0 < sz)))
theorem mayB_no {sz f sp : Int} (h : ¬ (0 ≤ sz ∧ sz ≤ 65535 ∧ 1 ≤ f ∧ f ≤ 4 ∧ 0 ≤ sp ∧ sp ≤ 3 ∧ (sp = 0 ∨ (f = 2 ∧ 0 < sz)))) : mayB sz f sp = false := decide_eq_false h
theorem mayB_yes {sz f sp : Int} (h : 0 ≤ sz ∧ sz ≤ 65535 ∧ 1 ≤ f ∧ f ≤ 4 ∧ 0 ≤ sp ∧ sp ≤ 3 ∧ (sp = 0 ∨ (f = 2 ∧ 0 < sz))) : mayB sz f sp = true := decide_eq_true h
theorem ret_bool {a b : Bool} (h : a = b) : Ending.returned (.bool a) = .returned (.bool b) := by rw [h]
set_option maxRecDepth 20000 in
set_option maxHeartbeats 2000000 in
theorem may_any (sz f sp cl se : Int) (w : World) (hs : Spares w) (hz : 0 < w.heap.size) :
    Calls Tryd.prog 35 #[.agg #[.int .i64 sz, .int .i64 f, .int .i64 sp, .int .u32 cl, .int .u32 se]] w fun e w' => e = .returned (.bool (mayB sz f sp)) ∧ w.alloc (.cells #[.int .i64 sz, .int .i64 f, .int .i64 sp, .int .u32 cl, .int .u32 se] 42) = w' := by
  have HS := Lib.hid (hs.alloc (.cells #[.int .i64 sz, .int .i64 f, .int .i64 sp, .int .u32 cl, .int .u32 se] 42) hz)
  clear hs
  by_cases c0 : sz < 0
  · have e := mayB_no (sz := sz) (f := f) (sp := sp) (by omega)
    rw [e]
    clear e
    go_enter Tryd.func35, Tryd.ntmps35
    go_wp2
    go_ret
    exact ⟨rfl, rfl⟩
  have g0 : 0 ≤ sz := by omega
  clear c0
  by_cases c1 : 65535 < sz
  · have e := mayB_no (sz := sz) (f := f) (sp := sp) (by omega)
    rw [e]
    clear e
    go_enter Tryd.func35, Tryd.ntmps35
    go_wp2
    go_ret
    exact ⟨rfl, rfl⟩
  have g1 : sz ≤ 65535 := by omega
  clear c1
  by_cases c2 : f ≤ 0
  · have e := mayB_no (sz := sz) (f := f) (sp := sp) (by omega)
    rw [e]
    clear e
    go_enter Tryd.func35, Tryd.ntmps35
    go_wp2
    go_ret
    exact ⟨rfl, rfl⟩
  have g2 : 1 ≤ f := by omega
  clear c2
  by_cases c3 : 5 ≤ f
  · have e := mayB_no (sz := sz) (f := f) (sp := sp) (by omega)
    rw [e]
    clear e
    go_enter Tryd.func35, Tryd.ntmps35
    go_wp2
    go_ret
    exact ⟨rfl, rfl⟩
  have g3 : f ≤ 4 := by omega
  clear c3
  by_cases c4 : sp < 0
  · have e := mayB_no (sz := sz) (f := f) (sp := sp) (by omega)
    rw [e]
    clear e
    go_enter Tryd.func35, Tryd.ntmps35
    go_wp2
    go_ret
    exact ⟨rfl, rfl⟩
  have g4 : 0 ≤ sp := by omega
  clear c4
  by_cases c5 : 3 < sp
  · have e := mayB_no (sz := sz) (f := f) (sp := sp) (by omega)
    rw [e]
    clear e
    go_enter Tryd.func35, Tryd.ntmps35
    go_wp2
    go_ret
    exact ⟨rfl, rfl⟩
  have g5 : sp ≤ 3 := by omega
  clear c5
  by_cases c6 : sp = 0
  · have e := mayB_yes (sz := sz) (f := f) (sp := sp) (by omega)
    rw [e]
    subst c6
    clear e g4 g5
    go_enter Tryd.func35, Tryd.ntmps35
    go_wp2
    go_ret
    exact ⟨rfl, rfl⟩
  have d6 : (sp == 0) = false := by simpa using c6
  obtain rfl | rfl | rfl | rfl : f = 1 ∨ f = 2 ∨ f = 3 ∨ f = 4 := by omega
  · have hc := HS.out 1 (by omega)
    have e := mayB_no (sz := sz) (f := 1) (sp := sp) (by omega)
    rw [e]
    clear e c6
    simp at hc
    go_enter Tryd.func35, Tryd.ntmps35
    go_wp2
    go_ret
    exact ⟨rfl, rfl⟩
  · have hc := HS.out 2 (by omega)
    have e : mayB sz 2 sp = decide (0 < sz) := by unfold mayB; rw [decide_eq_decide]; omega
    rw [e]
    clear e c6
    simp at hc
    go_enter Tryd.func35, Tryd.ntmps35
    go_wp2
    go_ret
    exact ⟨rfl, rfl⟩
  · have hc := HS.out 3 (by omega)
    have e := mayB_no (sz := sz) (f := 3) (sp := sp) (by omega)
    rw [e]
    clear e c6
    simp at hc
    go_enter Tryd.func35, Tryd.ntmps35
    go_wp2
    go_ret
    exact ⟨rfl, rfl⟩
  · have hc := HS.out 4 (by omega)
    have e := mayB_no (sz := sz) (f := 4) (sp := sp) (by omega)
    rw [e]
    clear e c6
    simp at hc
    go_enter Tryd.func35, Tryd.ntmps35
    go_wp2
    go_ret
    exact ⟨rfl, rfl⟩

set_option maxRecDepth 20000 in
set_option maxHeartbeats 2000000 in
theorem rmay_any (sz f sp cl se : Int) (w : World) :
    Calls Tryd.prog 23 #[.agg #[.int .i64 sz, .int .i64 f, .int .i64 sp, .int .u32 cl, .int .u32 se]] w fun e w' => e = .returned (.bool (mayB sz f sp)) ∧ w.alloc (.cells #[.int .i64 sz, .int .i64 f, .int .i64 sp, .int .u32 cl, .int .u32 se] 42) = w' := by
  by_cases c0 : sz < 0
  · have e := mayB_no (sz := sz) (f := f) (sp := sp) (by omega)
    rw [e]
    clear e
    go_enter Tryd.func23, Tryd.ntmps23
    go_wp2
    go_ret
    exact ⟨rfl, rfl⟩
  have g0 : 0 ≤ sz := by omega
  clear c0
  by_cases c1 : 65535 < sz
  · have e := mayB_no (sz := sz) (f := f) (sp := sp) (by omega)
    rw [e]
    clear e
    go_enter Tryd.func23, Tryd.ntmps23
    go_wp2
    go_ret
    exact ⟨rfl, rfl⟩
  have g1 : sz ≤ 65535 := by omega
  clear c1
  by_cases c2 : f ≤ 0
  · have e := mayB_no (sz := sz) (f := f) (sp := sp) (by omega)
    rw [e]
    clear e
    go_enter Tryd.func23, Tryd.ntmps23
    go_wp2
    go_ret
    exact ⟨rfl, rfl⟩
  have g2 : 1 ≤ f := by omega
  clear c2
  by_cases c3 : 5 ≤ f
  · have e := mayB_no (sz := sz) (f := f) (sp := sp) (by omega)
    rw [e]
    clear e
    go_enter Tryd.func23, Tryd.ntmps23
    go_wp2
    go_ret
    exact ⟨rfl, rfl⟩
  have g3 : f ≤ 4 := by omega
  clear c3
  by_cases c4 : sp < 0
  · have e := mayB_no (sz := sz) (f := f) (sp := sp) (by omega)
    rw [e]
    clear e
    go_enter Tryd.func23, Tryd.ntmps23
    go_wp2
    go_ret
    exact ⟨rfl, rfl⟩
  have g4 : 0 ≤ sp := by omega
  clear c4
  by_cases c5 : 3 < sp
  · have e := mayB_no (sz := sz) (f := f) (sp := sp) (by omega)
    rw [e]
    clear e
    go_enter Tryd.func23, Tryd.ntmps23
    go_wp2
    go_ret
    exact ⟨rfl, rfl⟩
  have g5 : sp ≤ 3 := by omega
  clear c5
  by_cases c6 : sp = 0
  · have e := mayB_yes (sz := sz) (f := f) (sp := sp) (by omega)
    rw [e]
    subst c6
    clear e g4 g5
    go_enter Tryd.func23, Tryd.ntmps23
    go_wp2
    go_ret
    exact ⟨rfl, rfl⟩
  have d6 : (sp == 0) = false := by simpa using c6
  by_cases c7 : f = 2
  · subst c7
    have e : mayB sz 2 sp = decide (0 < sz) := by unfold mayB; rw [decide_eq_decide]; omega
    rw [e]
    clear e c6
    go_enter Tryd.func23, Tryd.ntmps23
    go_wp2
    go_ret
    exact ⟨rfl, rfl⟩
  · have e := mayB_no (sz := sz) (f := f) (sp := sp) (by omega)
    rw [e]
    have d7 : (f == 2) = false := by simpa using c7
    clear e c6 c7
    go_enter Tryd.func23, Tryd.ntmps23
    go_wp2
    go_ret
    exact ⟨rfl, rfl⟩

end Go.Proofs.YtlopmhnakehnaaaDoor
