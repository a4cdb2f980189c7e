/-
  Headers: the contract of the document's Unpack; awake.
-/
import Derived.Test.YtlopmhnakehnaaaDoorHdr2
namespace Go.Proofs.YtlopmhnakehnaaaDoor
open Go.RowKit

attribute [local go_sem] run_equal3
set_option maxRecDepth 20000 in
set_option maxHeartbeats 4000000 in
theorem runpack_over (a b c sz f sp : Int) (hsz : a % 16777216 = sz) (hf : a / 16777216 % 8 = f) (hsp : a / 134217728 % 4 = sp) (w : World) (ha : 0 ≤ a) (ha2 : a ≤ 4294967295) (h29 : 536870912 ≤ a) :
    Calls Tryd.prog 26 #[.agg #[.int .u32 a, .int .u32 b, .int .u32 c]] w fun e w' => e = .returned (.tuple #[.agg #[.int .i64 0, .int .i64 0, .int .i64 0, .int .u32 0, .int .u32 0], .bool false]) ∧ Below w.heap.size w w' := by
  have d : (a / 536870912 != 0) = true := by
    have : a / 536870912 ≠ 0 := by omega
    simpa using this
  have g1 : 0 ≤ sz := by omega
  have g2 : sz < 16777216 := by omega
  have g3 : 0 ≤ f := by omega
  have g4 : f < 8 := by omega
  have g5 : 0 ≤ sp := by omega
  have g6 : sp < 4 := by omega
  go_enter Tryd.func26, Tryd.ntmps26
  go_wp2_with fail
  refine bodyPost_ret (v := .tuple #[.agg #[.int .i64 0, .int .i64 0, .int .i64 0, .int .u32 0, .int .u32 0], .bool false]) (by simp [results, Tryd.results26, go_sem]) rfl ⟨rfl, ?_⟩
  repeat (first | exact Below.refl _ _ | refine Below.drew ?_ | refine Below.alloc ?_ (by first | exact Nat.le_refl _ | (simp; done) | (simp; omega)) _ | refine Below.setCell ?_ (by first | (simp; done) | (simp; omega)) _)

set_option maxRecDepth 20000 in
set_option maxHeartbeats 4000000 in
theorem runpack_no (a b c sz f sp : Int) (hsz : a % 16777216 = sz) (hf : a / 16777216 % 8 = f) (hsp : a / 134217728 % 4 = sp) (w : World) (ha : 0 ≤ a) (ha2 : a ≤ 4294967295) (h : mayB sz f sp = false) (h29 : a < 536870912) :
    Calls Tryd.prog 26 #[.agg #[.int .u32 a, .int .u32 b, .int .u32 c]] w fun e w' => e = .returned (.tuple #[.agg #[.int .i64 0, .int .i64 0, .int .i64 0, .int .u32 0, .int .u32 0], .bool false]) ∧ Below w.heap.size w w' := by
  have HM := Lib.hid h
  clear h
  have d : (a / 536870912 != 0) = false := by
    have : a / 536870912 = 0 := by omega
    simpa using this
  have g1 : 0 ≤ sz := by omega
  have g2 : sz < 16777216 := by omega
  have g3 : 0 ≤ f := by omega
  have g4 : f < 8 := by omega
  have g5 : 0 ≤ sp := by omega
  have g6 : sp < 4 := by omega
  go_enter Tryd.func26, Tryd.ntmps26
  go_wp2_with (go_at_call 23; refine (rmay_any sz f sp b c _).mono ?_; rw [HM.out]; rintro e w' ⟨rfl, rfl⟩)
  refine bodyPost_ret (v := .tuple #[.agg #[.int .i64 0, .int .i64 0, .int .i64 0, .int .u32 0, .int .u32 0], .bool false]) (by simp [results, Tryd.results26, go_sem]) rfl ⟨rfl, ?_⟩
  repeat (first | exact Below.refl _ _ | refine Below.drew ?_ | refine Below.alloc ?_ (by first | exact Nat.le_refl _ | (simp; done) | (simp; omega)) _ | refine Below.setCell ?_ (by first | (simp; done) | (simp; omega)) _)

set_option maxRecDepth 20000 in
set_option maxHeartbeats 4000000 in
theorem runpack_yes (a b c sz f sp : Int) (hsz : a % 16777216 = sz) (hf : a / 16777216 % 8 = f) (hsp : a / 134217728 % 4 = sp) (w : World) (ha : 0 ≤ a) (ha2 : a ≤ 4294967295) (h : mayB sz f sp = true) (h29 : a < 536870912) :
    Calls Tryd.prog 26 #[.agg #[.int .u32 a, .int .u32 b, .int .u32 c]] w fun e w' => e = .returned (.tuple #[.agg #[.int .i64 sz, .int .i64 f, .int .i64 sp, .int .u32 b, .int .u32 c], .bool true]) ∧ Below w.heap.size w w' := by
  have HM := Lib.hid h
  clear h
  have d : (a / 536870912 != 0) = false := by
    have : a / 536870912 = 0 := by omega
    simpa using this
  have g1 : 0 ≤ sz := by omega
  have g2 : sz < 16777216 := by omega
  have g3 : 0 ≤ f := by omega
  have g4 : f < 8 := by omega
  have g5 : 0 ≤ sp := by omega
  have g6 : sp < 4 := by omega
  go_enter Tryd.func26, Tryd.ntmps26
  go_wp2_with (go_at_call 23; refine (rmay_any sz f sp b c _).mono ?_; rw [HM.out]; rintro e w' ⟨rfl, rfl⟩)
  refine bodyPost_ret (v := .tuple #[.agg #[.int .i64 sz, .int .i64 f, .int .i64 sp, .int .u32 b, .int .u32 c], .bool true]) (by simp [results, Tryd.results26, go_sem]) rfl ⟨rfl, ?_⟩
  repeat (first | exact Below.refl _ _ | refine Below.drew ?_ | refine Below.alloc ?_ (by first | exact Nat.le_refl _ | (simp; done) | (simp; omega)) _ | refine Below.setCell ?_ (by first | (simp; done) | (simp; omega)) _)

set_option maxRecDepth 20000 in
set_option maxHeartbeats 1000000 in
theorem itoa12 (w : World) : Calls Tryd.prog 38 #[.int .i64 12] w fun e w' => e = .returned (.string ⟨#[49, 50]⟩) ∧ w = w' := by
  go_enter Tryd.func38, Tryd.ntmps38
  go_wp2
  go_ret
  exact ⟨rfl, rfl⟩
set_option maxRecDepth 20000 in
set_option maxHeartbeats 1000000 in
theorem show24 (w : World) : Calls Tryd.prog 34 #[.int .u32 24] w fun e w' => e = .returned (.string ⟨#[64, 49, 50]⟩) ∧ w = w' := by
  go_enter Tryd.func34, Tryd.ntmps34
  go_wp2_with (first | (go_at_call 38; refine (itoa12 _).mono ?_; rintro e w' ⟨rfl, rfl⟩) | (go_at_call 20; refine (kind_any 24 _ (by omega) (by omega)).mono ?_; rintro e w' ⟨rfl, rfl⟩))
  go_ret
  exact ⟨rfl, rfl⟩
set_option maxRecDepth 20000 in
set_option maxHeartbeats 1000000 in
theorem awake_any (w : World) (hs : Spares w) (hz : 0 < w.heap.size) : Calls Tryd.prog 10 #[] w fun e w' => e = .returned (.bool true) ∧ Below w.heap.size w w' := by
  have HS := Lib.hid hs
  clear hs
  go_enter Tryd.func10, Tryd.ntmps10
  go_wp2_with fail
  refine (small_in (-1) _ (by omega) (by omega)).mono ?_
  rintro e w' ⟨rfl, rfl⟩
  go_wp2_with fail
  have HPK : Hid (∀ W : World, Below w.heap.size w W → W = w → Calls Tryd.prog 22 #[.agg #[.int .i64 2, .int .i64 2, .int .i64 3, .int .u32 42, .int .u32 7]] W fun e w' => e = .returned (.tuple #[.agg #[.int .u32 436207618, .int .u32 42, .int .u32 7], .int .i64 0]) ∧ Below w.heap.size w w') :=
    Lib.hid fun W _ e => by subst e; exact hpack_yes 2 2 3 42 7 _ HS.out hz (by decide)
  refine (HPK.out _ (Below.refl _ _) rfl).mono ?_
  rintro e w1 ⟨rfl, hb⟩
  have hz1 := hb.size
  clear HPK
  go_wp2_with fail
  refine (show24 _).mono ?_
  rintro e w2 ⟨rfl, rfl⟩
  go_wp2_with fail
  go_ret
  exact ⟨rfl, hb.alloc hz1 _⟩
end Go.Proofs.YtlopmhnakehnaaaDoor
