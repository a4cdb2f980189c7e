/-
  The walk of WireNone: it returns true, and writes nothing that was there.
-/
import Derived.Test.YtijcnefomgfocaaAwake
import Derived.WalkMore
namespace Go.Proofs.Ytijcnefomgfocaa
open Go.RowKit

set_option maxRecDepth 20000 in
theorem feed_nil (A : Option Addr) (n c : Nat) (w : World) : Calls Try.prog 31 #[.pointer none, .slice A n c] w fun e w' => e = .returned (.slice none 0 0) ∧ w = w' := by
  go_enter Try.func31, Try.ntmps31
  go_wp2
  go_step3
  go_wp2
  rw [Exit.noGoto_ret]
  go_ret
  exact ⟨rfl, rfl⟩
set_option maxRecDepth 20000 in
theorem feed_unmade (g : Nat) (T : TypeId) (A : Option Addr) (n c : Nat) (w : World) (h : Blk w g T #[.bool false, .slice none 0 0, .int .i64 0]) : Calls Try.prog 31 #[.pointer (some ⟨g, 0, none⟩), .slice A n c] w fun e w' => e = .returned (.slice none 0 0) ∧ w = w' := by
  have c0 := h.cell 0
  simp at c0
  go_enter Try.func31, Try.ntmps31
  go_wp2
  go_step3
  go_wp2
  rw [Exit.noGoto_ret]
  go_ret
  exact ⟨rfl, rfl⟩
set_option maxRecDepth 20000 in
theorem waiting_nil (w : World) : Calls Try.prog 32 #[.pointer none] w fun e w' => e = .returned (.int .i64 0) ∧ w = w' := by
  go_enter Try.func32, Try.ntmps32
  go_wp2
  go_ret
  exact ⟨rfl, rfl⟩
set_option maxRecDepth 20000 in
theorem waiting_unmade (g : Nat) (T : TypeId) (w : World) (h : Blk w g T #[.bool false, .slice none 0 0, .int .i64 0]) : Calls Try.prog 32 #[.pointer (some ⟨g, 0, none⟩)] w fun e w' => e = .returned (.int .i64 0) ∧ w = w' := by
  have c0 := h.cell 1
  simp at c0
  go_enter Try.func32, Try.ntmps32
  go_wp2
  go_ret
  exact ⟨rfl, rfl⟩
set_option maxRecDepth 20000 in
theorem dropped_nil (w : World) : Calls Try.prog 33 #[.pointer none] w fun e w' => e = .returned (.int .i64 0) ∧ w = w' := by
  go_enter Try.func33, Try.ntmps33
  go_wp2
  go_ret
  exact ⟨rfl, rfl⟩
set_option maxRecDepth 20000 in
theorem dropped_unmade (g : Nat) (T : TypeId) (w : World) (h : Blk w g T #[.bool false, .slice none 0 0, .int .i64 0]) : Calls Try.prog 33 #[.pointer (some ⟨g, 0, none⟩)] w fun e w' => e = .returned (.int .i64 0) ∧ w = w' := by
  have c0 := h.cell 2
  simp at c0
  go_enter Try.func33, Try.ntmps33
  go_wp2
  go_ret
  exact ⟨rfl, rfl⟩
set_option maxRecDepth 20000 in
theorem reset_nil (w : World) : Calls Try.prog 35 #[.pointer none] w fun e w' => e = .returned (.tuple #[]) ∧ w = w' := by
  go_enter Try.func35, Try.ntmps35
  go_wp2
  refine Go.bodyPost_end (v := .tuple #[]) ?_ rfl ?_
  · simp [results, Try.results35, go_sem]
  exact ⟨rfl, rfl⟩
set_option maxRecDepth 20000 in
theorem reset_unmade (g : Nat) (T : TypeId) (w : World) (h : Blk w g T #[.bool false, .slice none 0 0, .int .i64 0]) : Calls Try.prog 35 #[.pointer (some ⟨g, 0, none⟩)] w fun e w' => e = .returned (.tuple #[]) ∧ w = w' := by
  have c0 := h.cell 0
  simp at c0
  go_enter Try.func35, Try.ntmps35
  go_wp2
  refine Go.bodyPost_end (v := .tuple #[]) ?_ rfl ?_
  · simp [results, Try.results35, go_sem]
  exact ⟨rfl, rfl⟩
set_option maxRecDepth 20000 in
set_option maxHeartbeats 1000000 in
theorem lawn_any (haw : ∀ w : World, Calls Try.prog 17 #[] w fun e w' => e = .returned (.bool true) ∧ Below w.heap.size w w') (A : Option Addr) (n c : Nat) (w : World) : Calls Try.prog 8 #[.slice A n c] w fun e w' => e = .returned (.bool true) ∧ Below w.heap.size w w' := by
  have HAW := Lib.hid haw
  clear haw
  go_enter Try.func8, Try.ntmps8
  go_wp2
  go_loopw [3] (fun i wr => (∃ j : Nat, j ≤ 2 ∧ i = .int .i64 j) ∧ Below w.heap.size w wr) (fun i _ => 2 - (intOf i).toNat)
  case atStart => exact ⟨⟨0, by omega, rfl⟩, Below.refl _ _⟩
  case round =>
    obtain ⟨⟨j, hj, rfl⟩, hb⟩ := hrel
    have : j = 0 ∨ j = 1 ∨ j = 2 := by omega
    rcases this with rfl | rfl | rfl
    · go_wp2_with (first | (go_at_call 31; ((with_reducible refine (feed_nil A n c wr).mono ?_); rintro e w1 ⟨rfl, rfl⟩)) | (go_at_call 32; ((with_reducible refine (waiting_nil wr).mono ?_); rintro e w1 ⟨rfl, rfl⟩)) | (go_at_call 33; ((with_reducible refine (dropped_nil wr).mono ?_); rintro e w1 ⟨rfl, rfl⟩)) | (go_at_call 35; ((with_reducible refine (reset_nil wr).mono ?_); rintro e w1 ⟨rfl, rfl⟩)))
      go_roundw
      case rel => exact ⟨⟨1, by omega, rfl⟩, hb⟩
      case measure => simp [intOf]
    · have hbk := Blk.new wr 74 #[.bool false, .slice none 0 0, .int .i64 0]
      have hb2 := hb.alloc hb.size (.cells #[.bool false, .slice none 0 0, .int .i64 0] 74)
      go_upto_region 7 with fail
      generalize hW : (wr.alloc (.cells #[.bool false, .slice none 0 0, .int .i64 0] 74)) = W at hbk hb2 ⊢
      clear hW
      have HB := Lib.hid hbk
      clear hbk
      go_wp2_with (first | (go_at_call 31; ((with_reducible refine (feed_unmade _ _ A n c W HB.out).mono ?_); rintro e w1 ⟨rfl, rfl⟩)) | (go_at_call 32; ((with_reducible refine (waiting_unmade _ _ W HB.out).mono ?_); rintro e w1 ⟨rfl, rfl⟩)) | (go_at_call 33; ((with_reducible refine (dropped_unmade _ _ W HB.out).mono ?_); rintro e w1 ⟨rfl, rfl⟩)) | (go_at_call 35; ((with_reducible refine (reset_unmade _ _ W HB.out).mono ?_); rintro e w1 ⟨rfl, rfl⟩)))
      go_roundw
      case rel => exact ⟨⟨2, by omega, rfl⟩, hb2⟩
      case measure => simp [intOf]
    · go_wp2_with (go_at_call 17; ((with_reducible refine (HAW.out wr).mono ?_); rintro e w1 ⟨rfl, hb1⟩))
      go_ret
      exact ⟨rfl, hb.trans (hb1.mono hb.size)⟩
end Go.Proofs.Ytijcnefomgfocaa
