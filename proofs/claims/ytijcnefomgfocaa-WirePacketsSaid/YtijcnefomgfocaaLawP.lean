/-
  The walk of WirePackets: it returns true, and writes nothing that was there.
-/
import Derived.Test.YtijcnefomgfocaaRunp
import Derived.Test.YtijcnefomgfocaaRpack
import Derived.BigQuiet
import Derived.Deep.QuietTactic
import Derived.Deep.RegionWith
namespace Go.Proofs.Ytijcnefomgfocaa
open Go.RowKit

/-- what awake answers -/
def AwakeSaid : Prop := ∀ w : World, Calls Try.prog 17 #[] w fun e w' => e = .returned (.bool true) ∧ Below w.heap.size w w'

theorem Kept.below {w w1 w2 : World} {T g n : Nat} {cs : Array Value} {A : Option Addr} {bs : List UInt8} (h : Kept w T g cs A n bs w1) (hb : Below w1.heap.size w1 w2) : Kept w T g cs A n bs w2 :=
  ⟨h.1.below hb h.1.lt, h.2.1.below (hb.mono h.2.2.size), h.2.2.trans (hb.mono h.2.2.size)⟩
theorem Kept.drewN {w w1 : World} {T g n : Nat} {cs : Array Value} {A : Option Addr} {bs : List UInt8} (h : Kept w T g cs A n bs w1) (m : Nat) : Kept w T g cs A n bs (w1.drewN m) := ⟨h.1, h.2.1, below_drewN h.2.2 m⟩
theorem sameB_self (k : Int) (t s a : Nat) (bs : List UInt8) : sameB k k t t s s a a bs bs = true := by simp [sameB]
theorem Rd_old {w w1 : World} (h : Below w.heap.size w w1) {B size n : Nat} {A : Option Addr} {xs : List Value} (hr : Reads w B size A n xs) (hB : B ≤ w.heap.size) : Reads w1 B size A n xs := hr.below (h.mono hB)

set_option maxRecDepth 20000 in
set_option maxHeartbeats 4000000 in
theorem lawp_bad (haw : AwakeSaid) (k : Int) (t s a : Nat) (A A2 : Option Addr) (n c n2 c2 : Nat) (bs raw : List UInt8) (w : World) (hr : RdB w w.heap.size A n bs) (hr2 : RdB w w.heap.size A2 n2 raw) (hc2 : n2 ≤ c2) (hm2 : n2 ≤ 9223372036854775807)
    (hm : mayB k n = false) :
    Calls Try.prog 3 #[.agg #[.int .i64 k, .int .u64 t, .int .u64 s, .int .u64 a, .slice A n c], .slice A2 n2 c2] w fun e w' => e = .returned (.bool true) ∧ Below w.heap.size w w' := by
  have HK : Hid (Kept w 26 w.heap.size #[.int .i64 k, .int .u64 t, .int .u64 s, .int .u64 a, .slice A n c] A n bs (w.alloc (.cells #[.int .i64 k, .int .u64 t, .int .u64 s, .int .u64 a, .slice A n c] 26))) :=
    Lib.hid ⟨Blk.new w _ _, hr.alloc (Nat.le_refl _) _, (Below.refl _ _).alloc (Nat.le_refl _) _⟩
  have HR2 := Lib.hid hr2
  have HP := Lib.hid fun w => pack_bad k t s a A n c w hm
  have HM := Lib.hid hm
  have HAW := Lib.hid haw
  obtain ⟨u, HUN⟩ : ∃ u, Hid (unp raw = u) := ⟨_, rfl⟩
  obtain ⟨er, ⟨qk, qt, qs, qa, qb⟩⟩ := u
  clear hr hr2 hm haw
  go_enter Try.func3, Try.ntmps3
  go_wp2_with fail
  have hK := HK.out
  clear HK
  generalize (w.alloc (.cells #[.int .i64 k, .int .u64 t, .int .u64 s, .int .u64 a, .slice A n c] 26)) = W at hK ⊢
  have p0 := hK.1.cell 0
  have p1 := hK.1.cell 1
  have p2 := hK.1.cell 2
  have p3 := hK.1.cell 3
  have p4 := hK.1.cell 4
  simp at p0 p1 p2 p3 p4
  have cv1 := fun m => run_string_of (P := Try.prog) (c := c) (W.drewN m) 24 9 5 (hK.2.1.drewN m) Try.underlying24 Try.underlying5 Try.underlying9
  have cv2 := fun m => run_string_of (P := Try.prog) (c := c2) (W.drewN m) 24 9 5 ((HR2.out.below hK.2.2).drewN m) Try.underlying24 Try.underlying5 Try.underlying9
  go_quiet (fail)
  go_wp2_with fail
  refine (HP.out _).mono ?_
  rintro e w1 ⟨rfl, o, o', rfl⟩
  have hK1 := (((hK.drewN nq).alloc o).alloc o')
  clear hK p0 p1 p2 p3 p4 cv1 cv2 HP
  generalize (((W.drewN nq).alloc o).alloc o') = w1 at hK1 ⊢
  go_wp2_with fail
  have HU1 := Lib.hid (unp_any A2 n2 c2 raw w1 ((HR2.out.below hK1.2.2).more hK1.2.2.size) hc2)
  refine HU1.out.mono ?_
  rw [HUN.out]
  rintro e w2 ⟨A3, c3, rfl, hown3, hb3⟩
  dsimp only at hown3 ⊢
  have hK2 := hK1.below hb3
  have hr3 := OwnB.reads hown3 rfl
  clear HU1 hown3 hb3 hK1
  go_wp2_with fail
  have hq3 := Blk.new w2 26 #[.int .i64 qk, .int .u64 qt, .int .u64 qs, .int .u64 qa, .slice A3 qb.length c3]
  have hK3 := hK2.alloc (.cells #[.int .i64 qk, .int .u64 qt, .int .u64 qs, .int .u64 qa, .slice A3 qb.length c3] 26)
  have hr4 := Reads.more (hr3.alloc (Nat.le_refl _) (.cells #[.int .i64 qk, .int .u64 qt, .int .u64 qs, .int .u64 qa, .slice A3 qb.length c3] 26)) (B' := (w2.alloc (.cells #[.int .i64 qk, .int .u64 qt, .int .u64 qs, .int .u64 qa, .slice A3 qb.length c3] 26)).heap.size) (by simp)
  have lt3 := hq3.lt
  generalize hW3 : (w2.alloc (.cells #[.int .i64 qk, .int .u64 qt, .int .u64 qs, .int .u64 qa, .slice A3 qb.length c3] 26)) = W3 at hq3 hK3 hr4 lt3 ⊢
  clear hW3 hK2 hr3
  have HU2 := Lib.hid (runp_any A2 n2 c2 raw W3 ((HR2.out.below hK3.2.2).more hK3.2.2.size) hc2 hm2)
  refine HU2.out.mono ?_
  rw [HUN.out]
  rintro e w4 ⟨A4, c4, rfl, hown4, hb4⟩
  dsimp only at hown4 ⊢
  have hK4 := hK3.below hb4
  have hq4 := hq3.below hb4 lt3
  have hrq := Rd_old hb4 hr4 (Nat.le_refl _)
  have hrr := OwnB.reads hown4 rfl
  have l34 := hb4.size
  clear HU2 hown4 hb4 hK3 hq3 hr4
  go_upto_region 5 with fail
  have hK5 := hK4.alloc (.cells #[.int .i64 qk, .int .u64 qt, .int .u64 qs, .int .u64 qa, .slice A4 qb.length c4] 26)
  have hq5 := hq4.alloc (.cells #[.int .i64 qk, .int .u64 qt, .int .u64 qs, .int .u64 qa, .slice A4 qb.length c4] 26)
  have hs5 := Blk.new w4 26 #[.int .i64 qk, .int .u64 qt, .int .u64 qs, .int .u64 qa, .slice A4 qb.length c4]
  have hrq5 := Reads.more (hrq.alloc l34 (.cells #[.int .i64 qk, .int .u64 qt, .int .u64 qs, .int .u64 qa, .slice A4 qb.length c4] 26)) (B' := (w4.alloc (.cells #[.int .i64 qk, .int .u64 qt, .int .u64 qs, .int .u64 qa, .slice A4 qb.length c4] 26)).heap.size) (by simp; omega)
  have hrr5 := Reads.more (hrr.alloc (Nat.le_refl _) (.cells #[.int .i64 qk, .int .u64 qt, .int .u64 qs, .int .u64 qa, .slice A4 qb.length c4] 26)) (B' := (w4.alloc (.cells #[.int .i64 qk, .int .u64 qt, .int .u64 qs, .int .u64 qa, .slice A4 qb.length c4] 26)).heap.size) (by simp)
  generalize (w4.alloc (.cells #[.int .i64 qk, .int .u64 qt, .int .u64 qs, .int .u64 qa, .slice A4 qb.length c4] 26)) = W5 at hK5 hq5 hs5 hrq5 hrr5 ⊢
  clear hK4 hq4 hrq hrr
  have p0 := hK5.1.cell 0
  have p1 := hK5.1.cell 1
  have p2 := hK5.1.cell 2
  have p3 := hK5.1.cell 3
  have p4 := hK5.1.cell 4
  have y0 := hq5.cell 0
  have y1 := hq5.cell 1
  have y2 := hq5.cell 2
  have y3 := hq5.cell 3
  have y4 := hq5.cell 4
  have z0 := hs5.cell 0
  have z1 := hs5.cell 1
  have z2 := hs5.cell 2
  have z3 := hs5.cell 3
  have z4 := hs5.cell 4
  simp at p0 p1 p2 p3 p4 y0 y1 y2 y3 y4 z0 z1 z2 z3 z4
  have hr2' := Reads.more (HR2.out.below hK5.2.2) hK5.2.2.size
  have cv1 := run_string_of (P := Try.prog) (c := c) W5 24 9 5 hK5.2.1 Try.underlying24 Try.underlying5 Try.underlying9
  have cv2 := run_string_of (P := Try.prog) (c := c2) W5 24 9 5 hr2' Try.underlying24 Try.underlying5 Try.underlying9
  go_wp2_with fail
  have HSM := Lib.hid (same_any qk qk qt qt qs qs qa qa A3 A4 qb.length qb.length c3 c4 W5.heap.size W5.heap.size qb qb W5 hrq5 hrr5 (Nat.le_refl _) (Nat.le_refl _))
  refine HSM.out.mono ?_
  rw [sameB_self]
  rintro e w6 ⟨rfl, rfl⟩
  clear HSM cv1 cv2 p0 p1 p2 p3 p4 y0 y1 y2 y3 y4 z0 z1 z2 z3 z4 hq5 hs5 hrq5 hrr5
  have hK6 := (hK5.alloc (.cells #[.int .i64 qk, .int .u64 qt, .int .u64 qs, .int .u64 qa, .slice A3 qb.length c3] 26)).alloc (.cells #[.int .i64 qk, .int .u64 qt, .int .u64 qs, .int .u64 qa, .slice A4 qb.length c4] 26)
  generalize ((W5.alloc (.cells #[.int .i64 qk, .int .u64 qt, .int .u64 qs, .int .u64 qa, .slice A3 qb.length c3] 26)).alloc (.cells #[.int .i64 qk, .int .u64 qt, .int .u64 qs, .int .u64 qa, .slice A4 qb.length c4] 26)) = W6 at hK6 ⊢
  clear hK5 hr2'
  have hr6 := Reads.more (HR2.out.below hK6.2.2) hK6.2.2.size
  go_wp2_with fail
  refine (sum_any A2 n2 c2 _ raw W6 hr6 hm2).mono ?_
  rintro e w7 ⟨rfl, rfl⟩
  go_wp2_with fail
  refine (rsum_any A2 n2 c2 _ raw W6 hr6 hm2).mono ?_
  rintro e w7 ⟨rfl, rfl⟩
  go_wp2_with fail
  refine (HAW.out W6).mono ?_
  rintro e w7 ⟨rfl, hb7⟩
  have hK7 := hK6.below hb7
  clear hb7 hK6 hr6
  have p0 := hK7.1.cell 0
  have p1 := hK7.1.cell 1
  have p2 := hK7.1.cell 2
  have p3 := hK7.1.cell 3
  have p4 := hK7.1.cell 4
  simp at p0 p1 p2 p3 p4
  have HRM := Lib.hid (rmay_any k (.int .u64 t) (.int .u64 s) (.int .u64 a) A n c w7 ⟨_, rfl⟩ ⟨_, rfl⟩ ⟨_, rfl⟩)
  rw [HM.out] at HRM
  go_wp2_with fail
  refine HRM.out.mono ?_
  rintro e w8 ⟨rfl, rfl⟩
  clear HRM
  have hbw := hK7.2.2
  have lg := hK7.1.lt
  go_wp2_with fail
  go_ret
  exact ⟨rfl, hbw.alloc hbw.size _⟩
set_option maxRecDepth 20000 in
set_option maxHeartbeats 4000000 in
theorem lawp_ok (haw : AwakeSaid) (k : Int) (t s a : Nat) (A A2 : Option Addr) (n c n2 c2 : Nat) (bs raw : List UInt8) (w : World) (hr : RdB w w.heap.size A n bs) (hr2 : RdB w w.heap.size A2 n2 raw) (hc2 : n2 ≤ c2) (hm2 : n2 ≤ 9223372036854775807)
    (hm : mayB k n = true) (ht : t < 18446744073709551616) (hs : s < 18446744073709551616) (ha : a < 18446744073709551616) :
    Calls Try.prog 3 #[.agg #[.int .i64 k, .int .u64 t, .int .u64 s, .int .u64 a, .slice A n c], .slice A2 n2 c2] w fun e w' => e = .returned (.bool true) ∧ Below w.heap.size w w' := by
  have HK : Hid (Kept w 26 w.heap.size #[.int .i64 k, .int .u64 t, .int .u64 s, .int .u64 a, .slice A n c] A n bs (w.alloc (.cells #[.int .i64 k, .int .u64 t, .int .u64 s, .int .u64 a, .slice A n c] 26))) :=
    Lib.hid ⟨Blk.new w _ _, hr.alloc (Nat.le_refl _) _, (Below.refl _ _).alloc (Nat.le_refl _) _⟩
  have HR2 := Lib.hid hr2
  have HP := Lib.hid fun w (hr : RdB w w.heap.size A n bs) => pack_ok k t s a A n c bs w hr hm ht hs ha
  have HRP := Lib.hid fun w (hr : RdB w w.heap.size A n bs) => rpack_ok k t s a A n c bs w hr hm ht hs ha
  clear ht hs ha
  obtain ⟨pb, HPB⟩ : ∃ pb, Hid (packB k t s a bs = pb) := ⟨_, rfl⟩
  have HM := Lib.hid hm
  have HAW := Lib.hid haw
  obtain ⟨u, HUN⟩ : ∃ u, Hid (unp raw = u) := ⟨_, rfl⟩
  obtain ⟨er, ⟨qk, qt, qs, qa, qb⟩⟩ := u
  clear hr hr2 hm haw
  go_enter Try.func3, Try.ntmps3
  go_wp2_with fail
  have hK := HK.out
  clear HK
  generalize (w.alloc (.cells #[.int .i64 k, .int .u64 t, .int .u64 s, .int .u64 a, .slice A n c] 26)) = W at hK ⊢
  have p0 := hK.1.cell 0
  have p1 := hK.1.cell 1
  have p2 := hK.1.cell 2
  have p3 := hK.1.cell 3
  have p4 := hK.1.cell 4
  simp at p0 p1 p2 p3 p4
  have cv1 := fun m => run_string_of (P := Try.prog) (c := c) (W.drewN m) 24 9 5 (hK.2.1.drewN m) Try.underlying24 Try.underlying5 Try.underlying9
  have cv2 := fun m => run_string_of (P := Try.prog) (c := c2) (W.drewN m) 24 9 5 ((HR2.out.below hK.2.2).drewN m) Try.underlying24 Try.underlying5 Try.underlying9
  go_quiet (fail)
  go_wp2_with fail
  have hKd := hK.drewN nq
  refine (HP.out _ (hKd.2.1.more hKd.2.2.size)).mono ?_
  rw [HPB.out]
  rintro e w1 ⟨v7, rfl, hown7, hb1⟩
  have hK1 := hKd.below hb1
  obtain ⟨A7, c7, rfl, hc7⟩ := hown7.form
  have hF := OwnB.reads hown7 rfl
  clear hK hKd hb1 hown7 hc7 p0 p1 p2 p3 p4 cv1 cv2 HP
  go_wp2_with fail
  have HU1 := Lib.hid (unp_any A2 n2 c2 raw w1 ((HR2.out.below hK1.2.2).more hK1.2.2.size) hc2)
  refine HU1.out.mono ?_
  rw [HUN.out]
  rintro e w2 ⟨A3, c3, rfl, hown3, hb3⟩
  dsimp only at hown3 ⊢
  have hK2 := hK1.below hb3
  have hF2 := Reads.more (Rd_old hb3 hF (Nat.le_refl _)) hb3.size
  clear hF
  have hr3 := OwnB.reads hown3 rfl
  clear HU1 hown3 hb3 hK1
  go_wp2_with fail
  have hq3 := Blk.new w2 26 #[.int .i64 qk, .int .u64 qt, .int .u64 qs, .int .u64 qa, .slice A3 qb.length c3]
  have hK3 := hK2.alloc (.cells #[.int .i64 qk, .int .u64 qt, .int .u64 qs, .int .u64 qa, .slice A3 qb.length c3] 26)
  have hr4 := Reads.more (hr3.alloc (Nat.le_refl _) (.cells #[.int .i64 qk, .int .u64 qt, .int .u64 qs, .int .u64 qa, .slice A3 qb.length c3] 26)) (B' := (w2.alloc (.cells #[.int .i64 qk, .int .u64 qt, .int .u64 qs, .int .u64 qa, .slice A3 qb.length c3] 26)).heap.size) (by simp)
  have hF3 := Reads.more (hF2.alloc (Nat.le_refl _) (.cells #[.int .i64 qk, .int .u64 qt, .int .u64 qs, .int .u64 qa, .slice A3 qb.length c3] 26)) (B' := (w2.alloc (.cells #[.int .i64 qk, .int .u64 qt, .int .u64 qs, .int .u64 qa, .slice A3 qb.length c3] 26)).heap.size) (by simp)
  clear hF2
  have lt3 := hq3.lt
  generalize hW3 : (w2.alloc (.cells #[.int .i64 qk, .int .u64 qt, .int .u64 qs, .int .u64 qa, .slice A3 qb.length c3] 26)) = W3 at hq3 hK3 hr4 lt3 hF3 ⊢
  clear hW3 hK2 hr3
  have HU2 := Lib.hid (runp_any A2 n2 c2 raw W3 ((HR2.out.below hK3.2.2).more hK3.2.2.size) hc2 hm2)
  refine HU2.out.mono ?_
  rw [HUN.out]
  rintro e w4 ⟨A4, c4, rfl, hown4, hb4⟩
  dsimp only at hown4 ⊢
  have hK4 := hK3.below hb4
  have hF4 := Reads.more (Rd_old hb4 hF3 (Nat.le_refl _)) hb4.size
  clear hF3
  have hq4 := hq3.below hb4 lt3
  have hrq := Rd_old hb4 hr4 (Nat.le_refl _)
  have hrr := OwnB.reads hown4 rfl
  have l34 := hb4.size
  clear HU2 hown4 hb4 hK3 hq3 hr4
  go_upto_region 5 with fail
  have hK5 := hK4.alloc (.cells #[.int .i64 qk, .int .u64 qt, .int .u64 qs, .int .u64 qa, .slice A4 qb.length c4] 26)
  have hF5 := Reads.more (hF4.alloc (Nat.le_refl _) (.cells #[.int .i64 qk, .int .u64 qt, .int .u64 qs, .int .u64 qa, .slice A4 qb.length c4] 26)) (B' := (w4.alloc (.cells #[.int .i64 qk, .int .u64 qt, .int .u64 qs, .int .u64 qa, .slice A4 qb.length c4] 26)).heap.size) (by simp)
  clear hF4
  have hq5 := hq4.alloc (.cells #[.int .i64 qk, .int .u64 qt, .int .u64 qs, .int .u64 qa, .slice A4 qb.length c4] 26)
  have hs5 := Blk.new w4 26 #[.int .i64 qk, .int .u64 qt, .int .u64 qs, .int .u64 qa, .slice A4 qb.length c4]
  have hrq5 := Reads.more (hrq.alloc l34 (.cells #[.int .i64 qk, .int .u64 qt, .int .u64 qs, .int .u64 qa, .slice A4 qb.length c4] 26)) (B' := (w4.alloc (.cells #[.int .i64 qk, .int .u64 qt, .int .u64 qs, .int .u64 qa, .slice A4 qb.length c4] 26)).heap.size) (by simp; omega)
  have hrr5 := Reads.more (hrr.alloc (Nat.le_refl _) (.cells #[.int .i64 qk, .int .u64 qt, .int .u64 qs, .int .u64 qa, .slice A4 qb.length c4] 26)) (B' := (w4.alloc (.cells #[.int .i64 qk, .int .u64 qt, .int .u64 qs, .int .u64 qa, .slice A4 qb.length c4] 26)).heap.size) (by simp)
  generalize (w4.alloc (.cells #[.int .i64 qk, .int .u64 qt, .int .u64 qs, .int .u64 qa, .slice A4 qb.length c4] 26)) = W5 at hK5 hq5 hs5 hrq5 hrr5 hF5 ⊢
  clear hK4 hq4 hrq hrr
  have p0 := hK5.1.cell 0
  have p1 := hK5.1.cell 1
  have p2 := hK5.1.cell 2
  have p3 := hK5.1.cell 3
  have p4 := hK5.1.cell 4
  have y0 := hq5.cell 0
  have y1 := hq5.cell 1
  have y2 := hq5.cell 2
  have y3 := hq5.cell 3
  have y4 := hq5.cell 4
  have z0 := hs5.cell 0
  have z1 := hs5.cell 1
  have z2 := hs5.cell 2
  have z3 := hs5.cell 3
  have z4 := hs5.cell 4
  simp at p0 p1 p2 p3 p4 y0 y1 y2 y3 y4 z0 z1 z2 z3 z4
  have hr2' := Reads.more (HR2.out.below hK5.2.2) hK5.2.2.size
  have cv1 := run_string_of (P := Try.prog) (c := c) W5 24 9 5 hK5.2.1 Try.underlying24 Try.underlying5 Try.underlying9
  have cv2 := run_string_of (P := Try.prog) (c := c2) W5 24 9 5 hr2' Try.underlying24 Try.underlying5 Try.underlying9
  go_wp2_with fail
  have HSM := Lib.hid (same_any qk qk qt qt qs qs qa qa A3 A4 qb.length qb.length c3 c4 W5.heap.size W5.heap.size qb qb W5 hrq5 hrr5 (Nat.le_refl _) (Nat.le_refl _))
  refine HSM.out.mono ?_
  rw [sameB_self]
  rintro e w6 ⟨rfl, rfl⟩
  clear HSM cv1 cv2 p0 p1 p2 p3 p4 y0 y1 y2 y3 y4 z0 z1 z2 z3 z4 hq5 hs5 hrq5 hrr5
  have hK6 := (hK5.alloc (.cells #[.int .i64 qk, .int .u64 qt, .int .u64 qs, .int .u64 qa, .slice A3 qb.length c3] 26)).alloc (.cells #[.int .i64 qk, .int .u64 qt, .int .u64 qs, .int .u64 qa, .slice A4 qb.length c4] 26)
  have hF6 := Reads.more ((hF5.alloc (Nat.le_refl _) (.cells #[.int .i64 qk, .int .u64 qt, .int .u64 qs, .int .u64 qa, .slice A3 qb.length c3] 26)).alloc (by simp) (.cells #[.int .i64 qk, .int .u64 qt, .int .u64 qs, .int .u64 qa, .slice A4 qb.length c4] 26)) (B' := ((W5.alloc (.cells #[.int .i64 qk, .int .u64 qt, .int .u64 qs, .int .u64 qa, .slice A3 qb.length c3] 26)).alloc (.cells #[.int .i64 qk, .int .u64 qt, .int .u64 qs, .int .u64 qa, .slice A4 qb.length c4] 26)).heap.size) (by simp; omega)
  clear hF5
  generalize ((W5.alloc (.cells #[.int .i64 qk, .int .u64 qt, .int .u64 qs, .int .u64 qa, .slice A3 qb.length c3] 26)).alloc (.cells #[.int .i64 qk, .int .u64 qt, .int .u64 qs, .int .u64 qa, .slice A4 qb.length c4] 26)) = W6 at hK6 hF6 ⊢
  clear hK5 hr2'
  have hr6 := Reads.more (HR2.out.below hK6.2.2) hK6.2.2.size
  go_wp2_with fail
  refine (sum_any A2 n2 c2 _ raw W6 hr6 hm2).mono ?_
  rintro e w7 ⟨rfl, rfl⟩
  go_wp2_with fail
  refine (rsum_any A2 n2 c2 _ raw W6 hr6 hm2).mono ?_
  rintro e w7 ⟨rfl, rfl⟩
  go_wp2_with fail
  refine (HAW.out W6).mono ?_
  rintro e w7 ⟨rfl, hb7⟩
  have hK7 := hK6.below hb7
  have hF7 := Reads.more (Rd_old hb7 hF6 (Nat.le_refl _)) hb7.size
  clear hF6
  clear hb7 hK6 hr6
  have p0 := hK7.1.cell 0
  have p1 := hK7.1.cell 1
  have p2 := hK7.1.cell 2
  have p3 := hK7.1.cell 3
  have p4 := hK7.1.cell 4
  simp at p0 p1 p2 p3 p4
  have HRM := Lib.hid (rmay_any k (.int .u64 t) (.int .u64 s) (.int .u64 a) A n c w7 ⟨_, rfl⟩ ⟨_, rfl⟩ ⟨_, rfl⟩)
  rw [HM.out] at HRM
  go_wp2_with fail
  refine HRM.out.mono ?_
  rintro e w8 ⟨rfl, rfl⟩
  clear HRM
  have hK8 := hK7.alloc (.cells #[.int .i64 k, .int .u64 t, .int .u64 s, .int .u64 a, .slice A n c] 26)
  have hF8 := Reads.more (hF7.alloc (Nat.le_refl _) (.cells #[.int .i64 k, .int .u64 t, .int .u64 s, .int .u64 a, .slice A n c] 26)) (B' := (w7.alloc (.cells #[.int .i64 k, .int .u64 t, .int .u64 s, .int .u64 a, .slice A n c] 26)).heap.size) (by simp)
  clear hK7 hF7 p0 p1 p2 p3 p4
  generalize (w7.alloc (.cells #[.int .i64 k, .int .u64 t, .int .u64 s, .int .u64 a, .slice A n c] 26)) = W8 at hK8 hF8 ⊢
  have p0 := hK8.1.cell 0
  have p1 := hK8.1.cell 1
  have p2 := hK8.1.cell 2
  have p3 := hK8.1.cell 3
  have p4 := hK8.1.cell 4
  simp at p0 p1 p2 p3 p4
  go_wp2_with fail
  have cf := run_string_of (P := Try.prog) (c := c7) W8.drew 24 9 5 hF8.drew Try.underlying24 Try.underlying5 Try.underlying9
  have hK9 := hK8.drew
  have HR9 := Lib.hid (HRP.out W8.drew (hK9.2.1.more hK9.2.2.size))
  rw [HPB.out] at HR9
  go_region_with (first | (go_at_call 19; ((with_reducible refine HR9.out.mono ?_); rintro e w9 ⟨v9, rfl, hown9, hb9⟩; obtain ⟨A9, c9, rfl, hc9⟩ := OwnB.form hown9; have cg := run_string_of (P := Try.prog) (c := c9) w9 24 9 5 (OwnB.reads hown9 rfl) Try.underlying24 Try.underlying5 Try.underlying9; have cf9 := run_string_of (P := Try.prog) (c := c7) w9 24 9 5 (Rd_old hb9 hF8.drew (Nat.le_refl _)) Try.underlying24 Try.underlying5 Try.underlying9)))
  all_goals (go_wp2_with fail; go_ret; exact ⟨ret_bool (by simp), hK9.2.2.trans (hb9.mono hK9.2.2.size)⟩)
end Go.Proofs.Ytijcnefomgfocaa
