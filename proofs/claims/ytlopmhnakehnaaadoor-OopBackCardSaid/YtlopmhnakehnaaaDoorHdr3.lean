/-
  Headers: contracts of Unpack and of the document's Unpack.
-/
import Derived.Test.YtlopmhnakehnaaaDoorHdr2
import Derived.Deep.RegionHeld3
import Derived.Deep.RegionWith
import Derived.Deep.DeepCutAuto
namespace Go.Proofs.YtlopmhnakehnaaaDoor
open Go.RowKit

attribute [local go_sem] run_equal3
set_option maxRecDepth 20000 in
set_option maxHeartbeats 4000000 in
theorem unpack_no (a b c sz f sp : Int) (hsz : a % 16777216 = sz) (hf : a / 16777216 % 8 = f) (hsp : a / 134217728 % 4 = sp) (w : World) (hs : Spares w) (hz : 0 < w.heap.size) (ha : 0 ≤ a) (ha2 : a ≤ 4294967295) (h : mayB sz f sp = false) :
    Calls Tryd.prog 25 #[.agg #[.int .u32 a, .int .u32 b, .int .u32 c]] w fun e w' => e = .returned (.tuple #[.agg #[.int .i64 0, .int .i64 0, .int .i64 0, .int .u32 0, .int .u32 0], .int .i64 10]) ∧ Below w.heap.size w w' := by
  have HS := Lib.hid hs
  have HM := Lib.hid h
  clear hs h
  have b1 : bits .and .u32 a 16777215 = sz := hsz ▸ bits_mask .u32 32 (by decide) wraps_u32 24 (by decide) a ha (by omega)
  have b2 : bits .and .u32 (a / 16777216) 7 = f := hf ▸ bits_mask .u32 32 (by decide) wraps_u32 3 (by decide) _ (by omega) (by omega)
  have b3 : bits .and .u32 (a / 134217728) 3 = sp := hsp ▸ bits_mask .u32 32 (by decide) wraps_u32 2 (by decide) _ (by omega) (by omega)
  have g1 : 0 ≤ sz := by omega
  have g2 : sz < 16777216 := by omega
  have g3 : 0 ≤ f := by omega
  have g4 : f < 8 := by omega
  have g5 : 0 ≤ sp := by omega
  have g6 : sp < 4 := by omega
  clear hsz hf hsp
  go_enter Tryd.func25, Tryd.ntmps25
  go_upto_region 2 with fail
  clear b1 b2 b3
  go_region_with (first | (go_at_call 35; refine (may_any sz f sp b c _ (by repeat (first | exact HS.out | refine Spares.drew ?_ | refine Spares.alloc ?_ _ (by first | exact hz | (simp; done) | (simp; omega)))) (by first | (simp; done) | (simp; omega))).mono ?_; rw [HM.out]; rintro e w' ⟨rfl, rfl⟩))
  all_goals
    go_wp2_with fail
    refine bodyPost_ret (v := .tuple #[.agg #[.int .i64 0, .int .i64 0, .int .i64 0, .int .u32 0, .int .u32 0], .int .i64 10]) (by simp [results, Tryd.results25, go_sem]) rfl ⟨rfl, ?_⟩
    repeat (first | exact Below.refl _ _ | refine Below.drew ?_ | refine Below.alloc ?_ (by first | exact Nat.le_refl _ | (simp; done) | (simp; omega)) _ | refine Below.setCell ?_ (by first | (simp; done) | (simp; omega)) _)
set_option maxRecDepth 20000 in
set_option maxHeartbeats 4000000 in
theorem unpack_yes (a b c sz f sp : Int) (hsz : a % 16777216 = sz) (hf : a / 16777216 % 8 = f) (hsp : a / 134217728 % 4 = sp) (w : World) (hs : Spares w) (hz : 0 < w.heap.size) (ha : 0 ≤ a) (ha2 : a ≤ 4294967295) (h : mayB sz f sp = true) (h29 : a < 536870912) :
    Calls Tryd.prog 25 #[.agg #[.int .u32 a, .int .u32 b, .int .u32 c]] w fun e w' => e = .returned (.tuple #[.agg #[.int .i64 sz, .int .i64 f, .int .i64 sp, .int .u32 b, .int .u32 c], .int .i64 0]) ∧ Below w.heap.size w w' := by
  have HS := Lib.hid hs
  have HM := Lib.hid h
  clear hs h
  have b1 : bits .and .u32 a 16777215 = sz := hsz ▸ bits_mask .u32 32 (by decide) wraps_u32 24 (by decide) a ha (by omega)
  have b2 : bits .and .u32 (a / 16777216) 7 = f := hf ▸ bits_mask .u32 32 (by decide) wraps_u32 3 (by decide) _ (by omega) (by omega)
  have b3 : bits .and .u32 (a / 134217728) 3 = sp := hsp ▸ bits_mask .u32 32 (by decide) wraps_u32 2 (by decide) _ (by omega) (by omega)
  have hw0 : word0 sz f sp = a % 536870912 := by unfold word0; omega
  have hw1 : a % 536870912 = a := by omega
  rw [hw1] at hw0
  clear hw1
  have HW := Lib.hid hw0
  clear hw0
  have g1 : 0 ≤ sz := by omega
  have g2 : sz < 16777216 := by omega
  have g3 : 0 ≤ f := by omega
  have g4 : f < 8 := by omega
  have g5 : 0 ≤ sp := by omega
  have g6 : sp < 4 := by omega
  clear hsz hf hsp
  go_enter Tryd.func25, Tryd.ntmps25
  go_upto_region 2 with fail
  clear b1 b2 b3
  go_region_with (first | (go_at_call 35; refine (may_any sz f sp b c _ (by repeat (first | exact HS.out | refine Spares.drew ?_ | refine Spares.alloc ?_ _ (by first | exact hz | (simp; done) | (simp; omega)))) (by first | (simp; done) | (simp; omega))).mono ?_; rw [HM.out]; rintro e w' ⟨rfl, rfl⟩) | (go_at_call 36; refine (pack_any sz f sp b c _ HM.out).mono ?_; rw [HW.out]; rintro e w' ⟨rfl, rfl⟩))
  all_goals
    go_wp2_with fail
    refine bodyPost_ret (v := .tuple #[.agg #[.int .i64 sz, .int .i64 f, .int .i64 sp, .int .u32 b, .int .u32 c], .int .i64 0]) (by simp [results, Tryd.results25, go_sem]) rfl ⟨rfl, ?_⟩
    repeat (first | exact Below.refl _ _ | refine Below.drew ?_ | refine Below.alloc ?_ (by first | exact Nat.le_refl _ | (simp; done) | (simp; omega)) _ | refine Below.setCell ?_ (by first | (simp; done) | (simp; omega)) _)
set_option maxRecDepth 20000 in
set_option maxHeartbeats 4000000 in
theorem unpack_over (a b c sz f sp : Int) (hsz : a % 16777216 = sz) (hf : a / 16777216 % 8 = f) (hsp : a / 134217728 % 4 = sp) (w : World) (hs : Spares w) (hz : 0 < w.heap.size) (ha : 0 ≤ a) (ha2 : a ≤ 4294967295) (h : mayB sz f sp = true) (h29 : 536870912 ≤ a) :
    Calls Tryd.prog 25 #[.agg #[.int .u32 a, .int .u32 b, .int .u32 c]] w fun e w' => e = .returned (.tuple #[.agg #[.int .i64 0, .int .i64 0, .int .i64 0, .int .u32 0, .int .u32 0], .int .i64 10]) ∧ Below w.heap.size w w' := by
  have HS := Lib.hid hs
  have HM := Lib.hid h
  clear hs h
  have b1 : bits .and .u32 a 16777215 = sz := hsz ▸ bits_mask .u32 32 (by decide) wraps_u32 24 (by decide) a ha (by omega)
  have b2 : bits .and .u32 (a / 16777216) 7 = f := hf ▸ bits_mask .u32 32 (by decide) wraps_u32 3 (by decide) _ (by omega) (by omega)
  have b3 : bits .and .u32 (a / 134217728) 3 = sp := hsp ▸ bits_mask .u32 32 (by decide) wraps_u32 2 (by decide) _ (by omega) (by omega)
  have hw0 : word0 sz f sp = a % 536870912 := by unfold word0; omega
  have hne : (a % 536870912 == a) = false := by
    have : a % 536870912 ≠ a := by omega
    simpa using this
  rw [← hw0] at hne
  obtain ⟨q, HW⟩ : ∃ q, Hid (word0 sz f sp = q) := ⟨_, rfl⟩
  rw [HW.out] at hne
  clear hw0
  have g1 : 0 ≤ sz := by omega
  have g2 : sz < 16777216 := by omega
  have g3 : 0 ≤ f := by omega
  have g4 : f < 8 := by omega
  have g5 : 0 ≤ sp := by omega
  have g6 : sp < 4 := by omega
  clear hsz hf hsp
  go_enter Tryd.func25, Tryd.ntmps25
  go_upto_region 2 with fail
  clear b1 b2 b3
  go_region_with (first | (go_at_call 35; refine (may_any sz f sp b c _ (by repeat (first | exact HS.out | refine Spares.drew ?_ | refine Spares.alloc ?_ _ (by first | exact hz | (simp; done) | (simp; omega)))) (by first | (simp; done) | (simp; omega))).mono ?_; rw [HM.out]; rintro e w' ⟨rfl, rfl⟩) | (go_at_call 36; refine (pack_any sz f sp b c _ HM.out).mono ?_; rw [HW.out]; rintro e w' ⟨rfl, rfl⟩))
  all_goals
    go_wp2_with fail
    refine bodyPost_ret (v := .tuple #[.agg #[.int .i64 0, .int .i64 0, .int .i64 0, .int .u32 0, .int .u32 0], .int .i64 10]) (by simp [results, Tryd.results25, go_sem]) rfl ⟨rfl, ?_⟩
    repeat (first | exact Below.refl _ _ | refine Below.drew ?_ | refine Below.alloc ?_ (by first | exact Nat.le_refl _ | (simp; done) | (simp; omega)) _ | refine Below.setCell ?_ (by first | (simp; done) | (simp; omega)) _)
end Go.Proofs.YtlopmhnakehnaaaDoor
