/-
  Headers: contracts of pack, Pack, Unpack and of the document's Pack, Unpack.
-/
import Derived.Test.YtlopmhnakehnaaaDoorHdr
namespace Go.Proofs.YtlopmhnakehnaaaDoor
open Go.RowKit

theorem u32_join {x y : Int} (i : Nat) (h0 : 0 ≤ x) (h1 : x < 2 ^ i) (h2 : 0 ≤ y) (h3 : y < 4294967296) (h4 : y % 2 ^ i = 0) (hi : i ≤ 32) : bits .or .u32 x y = x + y := by
  obtain ⟨a, rfl⟩ := Int.eq_ofNat_of_zero_le h0
  obtain ⟨b, rfl⟩ := Int.eq_ofNat_of_zero_le h2
  have ha : a < 2 ^ i := by exact_mod_cast h1
  have hb : b % 2 ^ i = 0 := by exact_mod_cast h4
  have hi' : 2 ^ i ≤ 2 ^ 32 := Nat.pow_le_pow_right (by decide) hi
  have ha' : a < 4294967296 := Nat.lt_of_lt_of_le ha hi'
  rw [u32_or_nat a b ha' (by omega), Nat.or_comm, nat_join i b a hb ha]
  omega
/-- the first word of a header -/
def word0 (sz f sp : Int) : Int := sz + f * 16777216 + sp * 134217728
theorem mayB_out {sz f sp : Int} (h : mayB sz f sp = true) : 0 ≤ sz ∧ sz ≤ 65535 ∧ 1 ≤ f ∧ f ≤ 4 ∧ 0 ≤ sp ∧ sp ≤ 3 := by
  have := of_decide_eq_true h
  omega
set_option maxRecDepth 20000 in
set_option maxHeartbeats 2000000 in
theorem pack_any (sz f sp cl se : Int) (w : World) (h : mayB sz f sp = true) :
    Calls Tryd.prog 36 #[.agg #[.int .i64 sz, .int .i64 f, .int .i64 sp, .int .u32 cl, .int .u32 se]] w fun e w' => e = .returned (.agg #[.int .u32 (word0 sz f sp), .int .u32 cl, .int .u32 se]) ∧ (w.alloc (.cells #[.int .i64 sz, .int .i64 f, .int .i64 sp, .int .u32 cl, .int .u32 se] 42)).alloc (.cells #[.int .u32 (word0 sz f sp), .int .u32 cl, .int .u32 se] 43) = w' := by
  obtain ⟨h1, h2, h3, h4, h5, h6⟩ := mayB_out h
  clear h
  have b1 : bits .or .u32 sz (f * 16777216) = sz + f * 16777216 := u32_join 24 h1 (by omega) (by omega) (by omega) (by omega) (by omega)
  have b2 : bits .or .u32 (sz + f * 16777216) (sp * 134217728) = word0 sz f sp := u32_join 27 (by omega) (by omega) (by omega) (by omega) (by omega) (by omega)
  go_enter Tryd.func36, Tryd.ntmps36
  go_wp2
  exact bodyPost_ret (v := .agg #[.int .u32 (word0 sz f sp), .int .u32 cl, .int .u32 se]) (by simp [results, Tryd.results36, go_sem]) rfl ⟨rfl, rfl⟩
set_option maxRecDepth 20000 in
set_option maxHeartbeats 2000000 in
theorem rpack_any (sz f sp cl se : Int) (w : World) (h : mayB sz f sp = true) :
    Calls Tryd.prog 24 #[.agg #[.int .i64 sz, .int .i64 f, .int .i64 sp, .int .u32 cl, .int .u32 se]] w fun e w' => e = .returned (.agg #[.int .u32 (word0 sz f sp), .int .u32 cl, .int .u32 se]) ∧ (w.alloc (.cells #[.int .i64 sz, .int .i64 f, .int .i64 sp, .int .u32 cl, .int .u32 se] 42)).alloc (.cells #[.int .u32 (word0 sz f sp), .int .u32 cl, .int .u32 se] 43) = w' := by
  obtain ⟨h1, h2, h3, h4, h5, h6⟩ := mayB_out h
  clear h
  go_enter Tryd.func24, Tryd.ntmps24
  go_wp2
  exact bodyPost_ret (v := .agg #[.int .u32 (word0 sz f sp), .int .u32 cl, .int .u32 se]) (by simp [results, Tryd.results24, go_sem]; try rfl) rfl ⟨rfl, rfl⟩
set_option maxRecDepth 20000 in
set_option maxHeartbeats 2000000 in
theorem hpack_no (sz f sp cl se : Int) (w : World) (hs : Spares w) (hz : 0 < w.heap.size) (h : mayB sz f sp = false) :
    Calls Tryd.prog 22 #[.agg #[.int .i64 sz, .int .i64 f, .int .i64 sp, .int .u32 cl, .int .u32 se]] w fun e w' => e = .returned (.tuple #[.agg #[.int .u32 0, .int .u32 0, .int .u32 0], .int .i64 1]) ∧ Below w.heap.size w w' := by
  have HS := Lib.hid hs
  have HM := Lib.hid h
  clear hs h
  go_enter Tryd.func22, Tryd.ntmps22
  go_wp2_with (go_at_call 35; refine (may_any sz f sp cl se _ ((HS.out.alloc _ hz).alloc _ (by simp)) (by simp)).mono ?_; rw [HM.out]; rintro e w' ⟨rfl, rfl⟩)
  exact bodyPost_ret (v := .tuple #[.agg #[.int .u32 0, .int .u32 0, .int .u32 0], .int .i64 1]) (by simp [results, Tryd.results22, go_sem]) rfl ⟨rfl, (((Below.refl _ _).alloc (Nat.le_refl _) _).alloc (by simp) _).alloc (by simp; omega) _⟩
set_option maxRecDepth 20000 in
set_option maxHeartbeats 2000000 in
theorem hpack_yes (sz f sp cl se : Int) (w : World) (hs : Spares w) (hz : 0 < w.heap.size) (h : mayB sz f sp = true) :
    Calls Tryd.prog 22 #[.agg #[.int .i64 sz, .int .i64 f, .int .i64 sp, .int .u32 cl, .int .u32 se]] w fun e w' => e = .returned (.tuple #[.agg #[.int .u32 (word0 sz f sp), .int .u32 cl, .int .u32 se], .int .i64 0]) ∧ Below w.heap.size w w' := by
  have HS := Lib.hid hs
  have HM := Lib.hid h
  clear hs h
  go_enter Tryd.func22, Tryd.ntmps22
  go_wp2_with (go_at_call 35; refine (may_any sz f sp cl se _ ((HS.out.alloc _ hz).alloc _ (by simp)) (by simp)).mono ?_; rw [HM.out]; rintro e w' ⟨rfl, rfl⟩)
  refine (pack_any sz f sp cl se _ HM.out).mono ?_
  rintro e w' ⟨rfl, rfl⟩
  go_wp2_with fail
  refine bodyPost_ret (v := .tuple #[.agg #[.int .u32 (word0 sz f sp), .int .u32 cl, .int .u32 se], .int .i64 0]) (by simp [results, Tryd.results22, go_sem]) rfl ⟨rfl, ?_⟩
  repeat (first | exact Below.refl _ _ | refine Below.drew ?_ | refine Below.alloc ?_ (by first | exact Nat.le_refl _ | (simp; done) | (simp; omega)) _)
theorem size22 (w : World) : (sizeOf 22).run Tryd.prog w = .ok 1 w := by kernel_rfl
theorem part3 (w : World) (x0 x1 x2 : Int) (i : Nat) (hi : i < 3) : (part 22 #[.int .u32 x0, .int .u32 x1, .int .u32 x2] (i * 1)).run Tryd.prog w = .ok (.int .u32 ([x0, x1, x2].getD i 0)) w := by
  obtain rfl | rfl | rfl : i = 0 ∨ i = 1 ∨ i = 2 := by omega
  all_goals simp [part, isAgg, run_underlying Tryd.underlying22]
theorem run_equal3 (w : World) (a b c a' b' c' : Int) : (Op.equalIn 10000 43 (.agg #[.int .u32 a, .int .u32 b, .int .u32 c]) (.agg #[.int .u32 a', .int .u32 b', .int .u32 c'])).run Tryd.prog w = .ok (a == a' && (b == b' && c == c')) w := by
  rw [show (10000 : Nat) = 9998 + 2 from rfl, Op.equalIn]
  simp only [Sem.run_bind, run_underlying Tryd.underlying43, Result.andThen_ok, size22, Std.Legacy.Range.forIn_eq_forIn_range', Std.Legacy.Range.size, Nat.sub_zero, Nat.add_sub_cancel, Nat.div_one]
  rw [show List.range' 0 3 1 = [0, 1, 2] from rfl]
  have pe : ∀ (w : World) (x y : Int), (Op.equalIn 9999 22 (.int .u32 x) (.int .u32 y)).run Tryd.prog w = .ok (x == y) w := fun w x y => run_equalIn_int w 9998 22 .u32 .u32 x y Tryd.underlying22
  have p0 := fun w => part3 w a b c 0 (by decide)
  have p1 := fun w => part3 w a b c 1 (by decide)
  have p2 := fun w => part3 w a b c 2 (by decide)
  have q0 := fun w => part3 w a' b' c' 0 (by decide)
  have q1 := fun w => part3 w a' b' c' 1 (by decide)
  have q2 := fun w => part3 w a' b' c' 2 (by decide)
  simp at p0 p1 p2 q0 q1 q2
  simp [p0, p1, p2, q0, q1, q2, pe]
  cases h0 : (a == a') <;> cases h1 : (b == b') <;> cases h2 : (c == c') <;> simp_all
theorem Spares.drew {w : World} (h : Spares w) : Spares w.drew := fun i hi => (World.cell?_drew w _).trans (h i hi)
end Go.Proofs.YtlopmhnakehnaaaDoor
