/-
  The walk of OopHeaders: it returns true, and writes nothing that was there.
-/
import Derived.Test.YtlopmhnakehnaaaDoorHdr3
import Derived.Test.YtlopmhnakehnaaaDoorHdr4
import Derived.Deep.DeepCutAuto
namespace Go.Proofs.YtlopmhnakehnaaaDoor
open Go.RowKit

attribute [local go_sem] run_equal3
theorem Spares.below {w w' : World} (h : Spares w) (hb : Below w.heap.size w w') (hz : 0 < w.heap.size) : Spares w' := fun i hi => by rw [hb.cell (p := ⟨0, i, none⟩) hz]; exact h i hi
/-- block g holds these cells -/
def Held (w : World) (g : Nat) (cs : List Value) : Prop := g < w.heap.size ∧ ∀ i v, cs[i]? = some v → w.cell? ⟨g, i, none⟩ = some v
/-- the world of the walk: blocks of the call's own that are known, the variable spares -/
def St (w0 : World) (bs : List (Nat × List Value)) (W : World) : Prop := (∀ b ∈ bs, Held W b.1 b.2) ∧ Spares W ∧ 0 < W.heap.size ∧ Below w0.heap.size w0 W
section
variable {w w' w0 W W' : World} {g : Nat} {cs : List Value} {bs : List (Nat × List Value)}
theorem Held.below (h : Held w g cs) (hb : Below w.heap.size w w') : Held w' g cs :=
  ⟨Nat.lt_of_lt_of_le h.1 hb.size, fun i v hv => by rw [hb.cell (p := ⟨g, i, none⟩) h.1]; exact h.2 i v hv⟩
theorem Held.new (w : World) (cs : List Value) (t : TypeId) : Held (w.alloc (.cells cs.toArray t)) w.heap.size cs :=
  ⟨by simp, fun i v hv => by rw [World.cell?_alloc_new]; simpa using hv⟩
theorem Held.five {a b c d e : Value} (h : Held w g [a, b, c, d, e]) : w.cell? ⟨g, 0, none⟩ = some a ∧ w.cell? ⟨g, 1, none⟩ = some b ∧ w.cell? ⟨g, 2, none⟩ = some c ∧ w.cell? ⟨g, 3, none⟩ = some d ∧ w.cell? ⟨g, 4, none⟩ = some e ∧ g < w.heap.size ∧ g < w.heap.size + 1 ∧ g < w.heap.size + 1 + 1 :=
  ⟨h.2 0 _ rfl, h.2 1 _ rfl, h.2 2 _ rfl, h.2 3 _ rfl, h.2 4 _ rfl, h.1, Nat.lt_succ_of_lt h.1, Nat.lt_succ_of_lt (Nat.lt_succ_of_lt h.1)⟩
theorem Held.three {a b c : Value} (h : Held w g [a, b, c]) : w.cell? ⟨g, 0, none⟩ = some a ∧ w.cell? ⟨g, 1, none⟩ = some b ∧ w.cell? ⟨g, 2, none⟩ = some c ∧ g < w.heap.size ∧ g < w.heap.size + 1 ∧ g < w.heap.size + 1 + 1 :=
  ⟨h.2 0 _ rfl, h.2 1 _ rfl, h.2 2 _ rfl, h.1, Nat.lt_succ_of_lt h.1, Nat.lt_succ_of_lt (Nat.lt_succ_of_lt h.1)⟩
theorem St.below (h : St w0 bs W) (hb : Below W.heap.size W W') : St w0 bs W' :=
  ⟨fun b hb' => (h.1 b hb').below hb, h.2.1.below hb h.2.2.1, Nat.lt_of_lt_of_le h.2.2.1 hb.size, h.2.2.2.trans (hb.mono h.2.2.2.size)⟩
theorem St.alloc (h : St w0 bs W) (o : Obj) : St w0 bs (W.alloc o) := h.below ((Below.refl _ _).alloc (Nat.le_refl _) o)
theorem St.drew (h : St w0 bs W) : St w0 bs W.drew := h.below (Below.refl _ _).drew
theorem St.push (h : St w0 bs W) (cs : List Value) (t : TypeId) : St w0 ((W.heap.size, cs) :: bs) (W.alloc (.cells cs.toArray t)) :=
  ⟨fun b hb => by
    rcases List.mem_cons.1 hb with rfl | hb
    · exact Held.new W cs t
    · exact (h.alloc _).1 b hb, (h.alloc _).2⟩
end
theorem stood42 : Tryd.prog.stoodInHeld 42 = false := by kernel_rfl
set_option maxRecDepth 20000 in
set_option maxHeartbeats 8000000 in
theorem headers_nn (sz f sp cl se a b c : Int) (w : World) (hs : Spares w) (hz : 0 < w.heap.size) (hm : mayB sz f sp = false) (hu : ∀ W : World, Spares W → 0 < W.heap.size → Calls Tryd.prog 25 #[.agg #[.int .u32 a, .int .u32 b, .int .u32 c]] W fun e w' => e = .returned (.tuple #[.agg #[.int .i64 0, .int .i64 0, .int .i64 0, .int .u32 0, .int .u32 0], .int .i64 10]) ∧ Below W.heap.size W w') (hr : ∀ W : World, Calls Tryd.prog 26 #[.agg #[.int .u32 a, .int .u32 b, .int .u32 c]] W fun e w' => e = .returned (.tuple #[.agg #[.int .i64 0, .int .i64 0, .int .i64 0, .int .u32 0, .int .u32 0], .bool false]) ∧ Below W.heap.size W w') :
    Calls Tryd.prog 6 #[.agg #[.int .i64 sz, .int .i64 f, .int .i64 sp, .int .u32 cl, .int .u32 se], .agg #[.int .u32 a, .int .u32 b, .int .u32 c]] w fun e w' => e = .returned (.bool true) ∧ Below w.heap.size w w' := by
  have H0 : St w [] w := ⟨(fun b hb => by cases hb), hs, hz, Below.refl _ _⟩
  have H1 := H0.push [.int .i64 sz, .int .i64 f, .int .i64 sp, .int .u32 cl, .int .u32 se] 42
  have HST := Lib.hid (H1.push [.int .u32 a, .int .u32 b, .int .u32 c] 43)
  have e1 : (w.alloc (.cells [.int .i64 sz, .int .i64 f, .int .i64 sp, .int .u32 cl, .int .u32 se].toArray 42)).heap.size = w.heap.size + 1 := by simp
  rw [e1] at HST
  have HM := Lib.hid hm
  have HU := Lib.hid hu
  have HR := Lib.hid hr
  clear hs hm e1 H0 H1 hz hu hr
  go_enter Tryd.func6, Tryd.ntmps6
  go_upto_region 1 with fail
  generalize hW0 : (w.alloc (.cells #[.int .i64 sz, .int .i64 f, .int .i64 sp, .int .u32 cl, .int .u32 se] 42)).alloc (.cells #[.int .u32 a, .int .u32 b, .int .u32 c] 43) = W0 at HST ⊢
  clear hW0
  generalize w.heap.size + 1 = gY at HST ⊢
  obtain ⟨gX, hgx⟩ : ∃ gX, gX = w.heap.size := ⟨_, rfl⟩
  rw [← hgx] at HST
  simp only [← hgx]
  clear hgx
  obtain ⟨x0, x1, x2, x3, x4, x5, x6, x7⟩ := (HST.out.1 (gX, [.int .i64 sz, .int .i64 f, .int .i64 sp, .int .u32 cl, .int .u32 se]) (by simp)).five
  go_wp2_with fail
  refine (hpack_no sz f sp cl se _ HST.out.2.1 HST.out.2.2.1 HM.out).mono ?_
  rintro e W1 ⟨rfl, hb1⟩
  have HST := Lib.hid ((HST.out.below hb1).push [.int .u32 0, .int .u32 0, .int .u32 0] 43)
  clear hb1 x0 x1 x2 x3 x4 x5 x6 x7
  go_upto_region 2 with fail
  generalize hW2 : W1.alloc (.cells #[.int .u32 0, .int .u32 0, .int .u32 0] 43) = W2 at HST ⊢
  clear hW2
  generalize W1.heap.size = gP at HST ⊢
  go_wp2_with fail
  refine (awake_any _ HST.out.2.1 HST.out.2.2.1).mono ?_
  rintro e W3 ⟨rfl, hb3⟩
  have HST := Lib.hid (HST.out.below hb3)
  clear hb3
  obtain ⟨x0, x1, x2, x3, x4, x5, x6, x7⟩ := (HST.out.1 (gX, [.int .i64 sz, .int .i64 f, .int .i64 sp, .int .u32 cl, .int .u32 se]) (by simp)).five
  obtain ⟨p0, p1, p2, p5, p6, p7⟩ := (HST.out.1 (gP, [.int .u32 0, .int .u32 0, .int .u32 0]) (by simp)).three
  go_wp2_with fail
  refine (rmay_any sz f sp cl se _).mono ?_
  rw [HM.out]
  rintro e W4 ⟨rfl, rfl⟩
  have HST := Lib.hid (HST.out.alloc (.cells #[.int .i64 sz, .int .i64 f, .int .i64 sp, .int .u32 cl, .int .u32 se] 42))
  go_upto_region 9 with fail
  generalize hW4 : W3.alloc (.cells #[.int .i64 sz, .int .i64 f, .int .i64 sp, .int .u32 cl, .int .u32 se] 42) = W4 at HST ⊢
  clear hW4 x0 x1 x2 x3 x4 x5 x6 x7 p0 p1 p2 p5 p6 p7
  obtain ⟨y0, y1, y2, y5, y6, y7⟩ := (HST.out.1 (gY, [.int .u32 a, .int .u32 b, .int .u32 c]) (by simp)).three
  go_wp2_with fail
  refine (HU.out W4 HST.out.2.1 HST.out.2.2.1).mono ?_
  rintro e W5 ⟨rfl, hb5⟩
  have HST := Lib.hid ((HST.out.below hb5).push [.int .i64 0, .int .i64 0, .int .i64 0, .int .u32 0, .int .u32 0] 42)
  clear hb5 y0 y1 y2 y5 y6 y7
  go_upto_region 10 with fail
  generalize hW6 : W5.alloc (.cells #[.int .i64 0, .int .i64 0, .int .i64 0, .int .u32 0, .int .u32 0] 42) = W6 at HST ⊢
  clear hW6
  generalize W5.heap.size = gQ at HST ⊢
  obtain ⟨y0, y1, y2, y5, y6, y7⟩ := (HST.out.1 (gY, [.int .u32 a, .int .u32 b, .int .u32 c]) (by simp)).three
  go_wp2_with fail
  refine (HR.out W6).mono ?_
  rintro e W7 ⟨rfl, hb7⟩
  have HST := Lib.hid ((HST.out.below hb7).push [.int .i64 0, .int .i64 0, .int .i64 0, .int .u32 0, .int .u32 0] 42)
  clear hb7 y0 y1 y2 y5 y6 y7
  go_upto_region 11 with fail
  generalize hW8 : W7.alloc (.cells #[.int .i64 0, .int .i64 0, .int .i64 0, .int .u32 0, .int .u32 0] 42) = W8 at HST ⊢
  clear hW8
  generalize W7.heap.size = gT at HST ⊢
  obtain ⟨q0, q1, q2, q3, q4, q5, q6, q7⟩ := (HST.out.1 (gQ, [.int .i64 0, .int .i64 0, .int .i64 0, .int .u32 0, .int .u32 0]) (by simp)).five
  obtain ⟨r0, r1, r2, r3, r4, r5, r6, r7⟩ := (HST.out.1 (gT, [.int .i64 0, .int .i64 0, .int .i64 0, .int .u32 0, .int .u32 0]) (by simp)).five
  have hp42 := stood42
  go_wp2_with fail
  go_ret
  exact ⟨by first | rfl | simp, HST.out.2.2.2⟩
set_option maxRecDepth 20000 in
set_option maxHeartbeats 8000000 in
theorem headers_ny (sz f sp cl se a b c s2 f2 p2' : Int) (w : World) (hs : Spares w) (hz : 0 < w.heap.size) (hm : mayB sz f sp = false) (hu : ∀ W : World, Spares W → 0 < W.heap.size → Calls Tryd.prog 25 #[.agg #[.int .u32 a, .int .u32 b, .int .u32 c]] W fun e w' => e = .returned (.tuple #[.agg #[.int .i64 s2, .int .i64 f2, .int .i64 p2', .int .u32 b, .int .u32 c], .int .i64 0]) ∧ Below W.heap.size W w') (hr : ∀ W : World, Calls Tryd.prog 26 #[.agg #[.int .u32 a, .int .u32 b, .int .u32 c]] W fun e w' => e = .returned (.tuple #[.agg #[.int .i64 s2, .int .i64 f2, .int .i64 p2', .int .u32 b, .int .u32 c], .bool true]) ∧ Below W.heap.size W w') :
    Calls Tryd.prog 6 #[.agg #[.int .i64 sz, .int .i64 f, .int .i64 sp, .int .u32 cl, .int .u32 se], .agg #[.int .u32 a, .int .u32 b, .int .u32 c]] w fun e w' => e = .returned (.bool true) ∧ Below w.heap.size w w' := by
  have H0 : St w [] w := ⟨(fun b hb => by cases hb), hs, hz, Below.refl _ _⟩
  have H1 := H0.push [.int .i64 sz, .int .i64 f, .int .i64 sp, .int .u32 cl, .int .u32 se] 42
  have HST := Lib.hid (H1.push [.int .u32 a, .int .u32 b, .int .u32 c] 43)
  have e1 : (w.alloc (.cells [.int .i64 sz, .int .i64 f, .int .i64 sp, .int .u32 cl, .int .u32 se].toArray 42)).heap.size = w.heap.size + 1 := by simp
  rw [e1] at HST
  have HM := Lib.hid hm
  have HU := Lib.hid hu
  have HR := Lib.hid hr
  clear hs hm e1 H0 H1 hz hu hr
  go_enter Tryd.func6, Tryd.ntmps6
  go_upto_region 1 with fail
  generalize hW0 : (w.alloc (.cells #[.int .i64 sz, .int .i64 f, .int .i64 sp, .int .u32 cl, .int .u32 se] 42)).alloc (.cells #[.int .u32 a, .int .u32 b, .int .u32 c] 43) = W0 at HST ⊢
  clear hW0
  generalize w.heap.size + 1 = gY at HST ⊢
  obtain ⟨gX, hgx⟩ : ∃ gX, gX = w.heap.size := ⟨_, rfl⟩
  rw [← hgx] at HST
  simp only [← hgx]
  clear hgx
  obtain ⟨x0, x1, x2, x3, x4, x5, x6, x7⟩ := (HST.out.1 (gX, [.int .i64 sz, .int .i64 f, .int .i64 sp, .int .u32 cl, .int .u32 se]) (by simp)).five
  go_wp2_with fail
  refine (hpack_no sz f sp cl se _ HST.out.2.1 HST.out.2.2.1 HM.out).mono ?_
  rintro e W1 ⟨rfl, hb1⟩
  have HST := Lib.hid ((HST.out.below hb1).push [.int .u32 0, .int .u32 0, .int .u32 0] 43)
  clear hb1 x0 x1 x2 x3 x4 x5 x6 x7
  go_upto_region 2 with fail
  generalize hW2 : W1.alloc (.cells #[.int .u32 0, .int .u32 0, .int .u32 0] 43) = W2 at HST ⊢
  clear hW2
  generalize W1.heap.size = gP at HST ⊢
  go_wp2_with fail
  refine (awake_any _ HST.out.2.1 HST.out.2.2.1).mono ?_
  rintro e W3 ⟨rfl, hb3⟩
  have HST := Lib.hid (HST.out.below hb3)
  clear hb3
  obtain ⟨x0, x1, x2, x3, x4, x5, x6, x7⟩ := (HST.out.1 (gX, [.int .i64 sz, .int .i64 f, .int .i64 sp, .int .u32 cl, .int .u32 se]) (by simp)).five
  obtain ⟨p0, p1, p2, p5, p6, p7⟩ := (HST.out.1 (gP, [.int .u32 0, .int .u32 0, .int .u32 0]) (by simp)).three
  go_wp2_with fail
  refine (rmay_any sz f sp cl se _).mono ?_
  rw [HM.out]
  rintro e W4 ⟨rfl, rfl⟩
  have HST := Lib.hid (HST.out.alloc (.cells #[.int .i64 sz, .int .i64 f, .int .i64 sp, .int .u32 cl, .int .u32 se] 42))
  go_upto_region 9 with fail
  generalize hW4 : W3.alloc (.cells #[.int .i64 sz, .int .i64 f, .int .i64 sp, .int .u32 cl, .int .u32 se] 42) = W4 at HST ⊢
  clear hW4 x0 x1 x2 x3 x4 x5 x6 x7 p0 p1 p2 p5 p6 p7
  obtain ⟨y0, y1, y2, y5, y6, y7⟩ := (HST.out.1 (gY, [.int .u32 a, .int .u32 b, .int .u32 c]) (by simp)).three
  go_wp2_with fail
  refine (HU.out W4 HST.out.2.1 HST.out.2.2.1).mono ?_
  rintro e W5 ⟨rfl, hb5⟩
  have HST := Lib.hid ((HST.out.below hb5).push [.int .i64 s2, .int .i64 f2, .int .i64 p2', .int .u32 b, .int .u32 c] 42)
  clear hb5 y0 y1 y2 y5 y6 y7
  go_upto_region 10 with fail
  generalize hW6 : W5.alloc (.cells #[.int .i64 s2, .int .i64 f2, .int .i64 p2', .int .u32 b, .int .u32 c] 42) = W6 at HST ⊢
  clear hW6
  generalize W5.heap.size = gQ at HST ⊢
  obtain ⟨y0, y1, y2, y5, y6, y7⟩ := (HST.out.1 (gY, [.int .u32 a, .int .u32 b, .int .u32 c]) (by simp)).three
  go_wp2_with fail
  refine (HR.out W6).mono ?_
  rintro e W7 ⟨rfl, hb7⟩
  have HST := Lib.hid ((HST.out.below hb7).push [.int .i64 s2, .int .i64 f2, .int .i64 p2', .int .u32 b, .int .u32 c] 42)
  clear hb7 y0 y1 y2 y5 y6 y7
  go_upto_region 11 with fail
  generalize hW8 : W7.alloc (.cells #[.int .i64 s2, .int .i64 f2, .int .i64 p2', .int .u32 b, .int .u32 c] 42) = W8 at HST ⊢
  clear hW8
  generalize W7.heap.size = gT at HST ⊢
  obtain ⟨q0, q1, q2, q3, q4, q5, q6, q7⟩ := (HST.out.1 (gQ, [.int .i64 s2, .int .i64 f2, .int .i64 p2', .int .u32 b, .int .u32 c]) (by simp)).five
  obtain ⟨r0, r1, r2, r3, r4, r5, r6, r7⟩ := (HST.out.1 (gT, [.int .i64 s2, .int .i64 f2, .int .i64 p2', .int .u32 b, .int .u32 c]) (by simp)).five
  have hp42 := stood42
  go_wp2_with fail
  go_ret
  exact ⟨by first | rfl | simp, HST.out.2.2.2⟩
set_option maxRecDepth 20000 in
set_option maxHeartbeats 8000000 in
theorem headers_yn (sz f sp cl se a b c : Int) (w : World) (hs : Spares w) (hz : 0 < w.heap.size) (hm : mayB sz f sp = true) (hu : ∀ W : World, Spares W → 0 < W.heap.size → Calls Tryd.prog 25 #[.agg #[.int .u32 a, .int .u32 b, .int .u32 c]] W fun e w' => e = .returned (.tuple #[.agg #[.int .i64 0, .int .i64 0, .int .i64 0, .int .u32 0, .int .u32 0], .int .i64 10]) ∧ Below W.heap.size W w') (hr : ∀ W : World, Calls Tryd.prog 26 #[.agg #[.int .u32 a, .int .u32 b, .int .u32 c]] W fun e w' => e = .returned (.tuple #[.agg #[.int .i64 0, .int .i64 0, .int .i64 0, .int .u32 0, .int .u32 0], .bool false]) ∧ Below W.heap.size W w') :
    Calls Tryd.prog 6 #[.agg #[.int .i64 sz, .int .i64 f, .int .i64 sp, .int .u32 cl, .int .u32 se], .agg #[.int .u32 a, .int .u32 b, .int .u32 c]] w fun e w' => e = .returned (.bool true) ∧ Below w.heap.size w w' := by
  have H0 : St w [] w := ⟨(fun b hb => by cases hb), hs, hz, Below.refl _ _⟩
  have H1 := H0.push [.int .i64 sz, .int .i64 f, .int .i64 sp, .int .u32 cl, .int .u32 se] 42
  have HST := Lib.hid (H1.push [.int .u32 a, .int .u32 b, .int .u32 c] 43)
  have e1 : (w.alloc (.cells [.int .i64 sz, .int .i64 f, .int .i64 sp, .int .u32 cl, .int .u32 se].toArray 42)).heap.size = w.heap.size + 1 := by simp
  rw [e1] at HST
  have HM := Lib.hid hm
  have HU := Lib.hid hu
  have HR := Lib.hid hr
  clear hs hm e1 H0 H1 hz hu hr
  go_enter Tryd.func6, Tryd.ntmps6
  go_upto_region 1 with fail
  generalize hW0 : (w.alloc (.cells #[.int .i64 sz, .int .i64 f, .int .i64 sp, .int .u32 cl, .int .u32 se] 42)).alloc (.cells #[.int .u32 a, .int .u32 b, .int .u32 c] 43) = W0 at HST ⊢
  clear hW0
  generalize w.heap.size + 1 = gY at HST ⊢
  obtain ⟨gX, hgx⟩ : ∃ gX, gX = w.heap.size := ⟨_, rfl⟩
  rw [← hgx] at HST
  simp only [← hgx]
  clear hgx
  obtain ⟨x0, x1, x2, x3, x4, x5, x6, x7⟩ := (HST.out.1 (gX, [.int .i64 sz, .int .i64 f, .int .i64 sp, .int .u32 cl, .int .u32 se]) (by simp)).five
  go_wp2_with fail
  refine (hpack_yes sz f sp cl se _ HST.out.2.1 HST.out.2.2.1 HM.out).mono ?_
  rintro e W1 ⟨rfl, hb1⟩
  have HST := Lib.hid ((HST.out.below hb1).push [.int .u32 (word0 sz f sp), .int .u32 cl, .int .u32 se] 43)
  clear hb1 x0 x1 x2 x3 x4 x5 x6 x7
  go_upto_region 2 with fail
  generalize hW2 : W1.alloc (.cells #[.int .u32 (word0 sz f sp), .int .u32 cl, .int .u32 se] 43) = W2 at HST ⊢
  clear hW2
  generalize W1.heap.size = gP at HST ⊢
  go_wp2_with fail
  refine (awake_any _ HST.out.2.1 HST.out.2.2.1).mono ?_
  rintro e W3 ⟨rfl, hb3⟩
  have HST := Lib.hid (HST.out.below hb3)
  clear hb3
  obtain ⟨x0, x1, x2, x3, x4, x5, x6, x7⟩ := (HST.out.1 (gX, [.int .i64 sz, .int .i64 f, .int .i64 sp, .int .u32 cl, .int .u32 se]) (by simp)).five
  obtain ⟨p0, p1, p2, p5, p6, p7⟩ := (HST.out.1 (gP, [.int .u32 (word0 sz f sp), .int .u32 cl, .int .u32 se]) (by simp)).three
  go_wp2_with fail
  refine (rmay_any sz f sp cl se _).mono ?_
  rw [HM.out]
  rintro e W4 ⟨rfl, rfl⟩
  have HST := Lib.hid (HST.out.alloc (.cells #[.int .i64 sz, .int .i64 f, .int .i64 sp, .int .u32 cl, .int .u32 se] 42))
  go_upto_region 7 with fail
  go_cut [35] (fun s35 wx => ∃ wz, wz = wx ∧ s35 = .bool false ∧ St w [(gP, [.int .u32 (word0 sz f sp), .int .u32 cl, .int .u32 se]), (gY, [.int .u32 a, .int .u32 b, .int .u32 c]), (gX, [.int .i64 sz, .int .i64 f, .int .i64 sp, .int .u32 cl, .int .u32 se])] wz)
  case first =>
    go_region_with (go_at_call 24; refine (rpack_any sz f sp cl se _ HM.out).mono ?_; rintro e w' ⟨rfl, rfl⟩)
    all_goals
      go_wp2_with fail
      go_meet
      exact ⟨_, rfl, rfl, by repeat (first | exact HST.out | refine St.drew ?_ | refine St.alloc ?_ _)⟩
  case rest =>
  obtain ⟨W4, rfl, rfl, hst⟩ := hcut
  have HST := Lib.hid hst
  clear hst x0 x1 x2 x3 x4 x5 x6 x7 p0 p1 p2 p5 p6 p7
  go_upto_region 9 with fail
  obtain ⟨y0, y1, y2, y5, y6, y7⟩ := (HST.out.1 (gY, [.int .u32 a, .int .u32 b, .int .u32 c]) (by simp)).three
  go_wp2_with fail
  refine (HU.out W4 HST.out.2.1 HST.out.2.2.1).mono ?_
  rintro e W5 ⟨rfl, hb5⟩
  have HST := Lib.hid ((HST.out.below hb5).push [.int .i64 0, .int .i64 0, .int .i64 0, .int .u32 0, .int .u32 0] 42)
  clear hb5 y0 y1 y2 y5 y6 y7
  go_upto_region 10 with fail
  generalize hW6 : W5.alloc (.cells #[.int .i64 0, .int .i64 0, .int .i64 0, .int .u32 0, .int .u32 0] 42) = W6 at HST ⊢
  clear hW6
  generalize W5.heap.size = gQ at HST ⊢
  obtain ⟨y0, y1, y2, y5, y6, y7⟩ := (HST.out.1 (gY, [.int .u32 a, .int .u32 b, .int .u32 c]) (by simp)).three
  go_wp2_with fail
  refine (HR.out W6).mono ?_
  rintro e W7 ⟨rfl, hb7⟩
  have HST := Lib.hid ((HST.out.below hb7).push [.int .i64 0, .int .i64 0, .int .i64 0, .int .u32 0, .int .u32 0] 42)
  clear hb7 y0 y1 y2 y5 y6 y7
  go_upto_region 11 with fail
  generalize hW8 : W7.alloc (.cells #[.int .i64 0, .int .i64 0, .int .i64 0, .int .u32 0, .int .u32 0] 42) = W8 at HST ⊢
  clear hW8
  generalize W7.heap.size = gT at HST ⊢
  obtain ⟨q0, q1, q2, q3, q4, q5, q6, q7⟩ := (HST.out.1 (gQ, [.int .i64 0, .int .i64 0, .int .i64 0, .int .u32 0, .int .u32 0]) (by simp)).five
  obtain ⟨r0, r1, r2, r3, r4, r5, r6, r7⟩ := (HST.out.1 (gT, [.int .i64 0, .int .i64 0, .int .i64 0, .int .u32 0, .int .u32 0]) (by simp)).five
  have hp42 := stood42
  go_wp2_with fail
  go_ret
  exact ⟨by first | rfl | simp, HST.out.2.2.2⟩
set_option maxRecDepth 20000 in
set_option maxHeartbeats 8000000 in
theorem headers_yy (sz f sp cl se a b c s2 f2 p2' : Int) (w : World) (hs : Spares w) (hz : 0 < w.heap.size) (hm : mayB sz f sp = true) (hu : ∀ W : World, Spares W → 0 < W.heap.size → Calls Tryd.prog 25 #[.agg #[.int .u32 a, .int .u32 b, .int .u32 c]] W fun e w' => e = .returned (.tuple #[.agg #[.int .i64 s2, .int .i64 f2, .int .i64 p2', .int .u32 b, .int .u32 c], .int .i64 0]) ∧ Below W.heap.size W w') (hr : ∀ W : World, Calls Tryd.prog 26 #[.agg #[.int .u32 a, .int .u32 b, .int .u32 c]] W fun e w' => e = .returned (.tuple #[.agg #[.int .i64 s2, .int .i64 f2, .int .i64 p2', .int .u32 b, .int .u32 c], .bool true]) ∧ Below W.heap.size W w') :
    Calls Tryd.prog 6 #[.agg #[.int .i64 sz, .int .i64 f, .int .i64 sp, .int .u32 cl, .int .u32 se], .agg #[.int .u32 a, .int .u32 b, .int .u32 c]] w fun e w' => e = .returned (.bool true) ∧ Below w.heap.size w w' := by
  have H0 : St w [] w := ⟨(fun b hb => by cases hb), hs, hz, Below.refl _ _⟩
  have H1 := H0.push [.int .i64 sz, .int .i64 f, .int .i64 sp, .int .u32 cl, .int .u32 se] 42
  have HST := Lib.hid (H1.push [.int .u32 a, .int .u32 b, .int .u32 c] 43)
  have e1 : (w.alloc (.cells [.int .i64 sz, .int .i64 f, .int .i64 sp, .int .u32 cl, .int .u32 se].toArray 42)).heap.size = w.heap.size + 1 := by simp
  rw [e1] at HST
  have HM := Lib.hid hm
  have HU := Lib.hid hu
  have HR := Lib.hid hr
  clear hs hm e1 H0 H1 hz hu hr
  go_enter Tryd.func6, Tryd.ntmps6
  go_upto_region 1 with fail
  generalize hW0 : (w.alloc (.cells #[.int .i64 sz, .int .i64 f, .int .i64 sp, .int .u32 cl, .int .u32 se] 42)).alloc (.cells #[.int .u32 a, .int .u32 b, .int .u32 c] 43) = W0 at HST ⊢
  clear hW0
  generalize w.heap.size + 1 = gY at HST ⊢
  obtain ⟨gX, hgx⟩ : ∃ gX, gX = w.heap.size := ⟨_, rfl⟩
  rw [← hgx] at HST
  simp only [← hgx]
  clear hgx
  obtain ⟨x0, x1, x2, x3, x4, x5, x6, x7⟩ := (HST.out.1 (gX, [.int .i64 sz, .int .i64 f, .int .i64 sp, .int .u32 cl, .int .u32 se]) (by simp)).five
  go_wp2_with fail
  refine (hpack_yes sz f sp cl se _ HST.out.2.1 HST.out.2.2.1 HM.out).mono ?_
  rintro e W1 ⟨rfl, hb1⟩
  have HST := Lib.hid ((HST.out.below hb1).push [.int .u32 (word0 sz f sp), .int .u32 cl, .int .u32 se] 43)
  clear hb1 x0 x1 x2 x3 x4 x5 x6 x7
  go_upto_region 2 with fail
  generalize hW2 : W1.alloc (.cells #[.int .u32 (word0 sz f sp), .int .u32 cl, .int .u32 se] 43) = W2 at HST ⊢
  clear hW2
  generalize W1.heap.size = gP at HST ⊢
  go_wp2_with fail
  refine (awake_any _ HST.out.2.1 HST.out.2.2.1).mono ?_
  rintro e W3 ⟨rfl, hb3⟩
  have HST := Lib.hid (HST.out.below hb3)
  clear hb3
  obtain ⟨x0, x1, x2, x3, x4, x5, x6, x7⟩ := (HST.out.1 (gX, [.int .i64 sz, .int .i64 f, .int .i64 sp, .int .u32 cl, .int .u32 se]) (by simp)).five
  obtain ⟨p0, p1, p2, p5, p6, p7⟩ := (HST.out.1 (gP, [.int .u32 (word0 sz f sp), .int .u32 cl, .int .u32 se]) (by simp)).three
  go_wp2_with fail
  refine (rmay_any sz f sp cl se _).mono ?_
  rw [HM.out]
  rintro e W4 ⟨rfl, rfl⟩
  have HST := Lib.hid (HST.out.alloc (.cells #[.int .i64 sz, .int .i64 f, .int .i64 sp, .int .u32 cl, .int .u32 se] 42))
  go_upto_region 7 with fail
  go_cut [35] (fun s35 wx => ∃ wz, wz = wx ∧ s35 = .bool false ∧ St w [(gP, [.int .u32 (word0 sz f sp), .int .u32 cl, .int .u32 se]), (gY, [.int .u32 a, .int .u32 b, .int .u32 c]), (gX, [.int .i64 sz, .int .i64 f, .int .i64 sp, .int .u32 cl, .int .u32 se])] wz)
  case first =>
    go_region_with (go_at_call 24; refine (rpack_any sz f sp cl se _ HM.out).mono ?_; rintro e w' ⟨rfl, rfl⟩)
    all_goals
      go_wp2_with fail
      go_meet
      exact ⟨_, rfl, rfl, by repeat (first | exact HST.out | refine St.drew ?_ | refine St.alloc ?_ _)⟩
  case rest =>
  obtain ⟨W4, rfl, rfl, hst⟩ := hcut
  have HST := Lib.hid hst
  clear hst x0 x1 x2 x3 x4 x5 x6 x7 p0 p1 p2 p5 p6 p7
  go_upto_region 9 with fail
  obtain ⟨y0, y1, y2, y5, y6, y7⟩ := (HST.out.1 (gY, [.int .u32 a, .int .u32 b, .int .u32 c]) (by simp)).three
  go_wp2_with fail
  refine (HU.out W4 HST.out.2.1 HST.out.2.2.1).mono ?_
  rintro e W5 ⟨rfl, hb5⟩
  have HST := Lib.hid ((HST.out.below hb5).push [.int .i64 s2, .int .i64 f2, .int .i64 p2', .int .u32 b, .int .u32 c] 42)
  clear hb5 y0 y1 y2 y5 y6 y7
  go_upto_region 10 with fail
  generalize hW6 : W5.alloc (.cells #[.int .i64 s2, .int .i64 f2, .int .i64 p2', .int .u32 b, .int .u32 c] 42) = W6 at HST ⊢
  clear hW6
  generalize W5.heap.size = gQ at HST ⊢
  obtain ⟨y0, y1, y2, y5, y6, y7⟩ := (HST.out.1 (gY, [.int .u32 a, .int .u32 b, .int .u32 c]) (by simp)).three
  go_wp2_with fail
  refine (HR.out W6).mono ?_
  rintro e W7 ⟨rfl, hb7⟩
  have HST := Lib.hid ((HST.out.below hb7).push [.int .i64 s2, .int .i64 f2, .int .i64 p2', .int .u32 b, .int .u32 c] 42)
  clear hb7 y0 y1 y2 y5 y6 y7
  go_upto_region 11 with fail
  generalize hW8 : W7.alloc (.cells #[.int .i64 s2, .int .i64 f2, .int .i64 p2', .int .u32 b, .int .u32 c] 42) = W8 at HST ⊢
  clear hW8
  generalize W7.heap.size = gT at HST ⊢
  obtain ⟨q0, q1, q2, q3, q4, q5, q6, q7⟩ := (HST.out.1 (gQ, [.int .i64 s2, .int .i64 f2, .int .i64 p2', .int .u32 b, .int .u32 c]) (by simp)).five
  obtain ⟨r0, r1, r2, r3, r4, r5, r6, r7⟩ := (HST.out.1 (gT, [.int .i64 s2, .int .i64 f2, .int .i64 p2', .int .u32 b, .int .u32 c]) (by simp)).five
  have hp42 := stood42
  go_wp2_with fail
  go_ret
  exact ⟨by first | rfl | simp, HST.out.2.2.2⟩
theorem headers_any (sz f sp cl se a b c : Int) (w : World) (hs : Spares w) (hz : 0 < w.heap.size) (ha : 0 ≤ a) (ha2 : a ≤ 4294967295) :
    Calls Tryd.prog 6 #[.agg #[.int .i64 sz, .int .i64 f, .int .i64 sp, .int .u32 cl, .int .u32 se], .agg #[.int .u32 a, .int .u32 b, .int .u32 c]] w fun e w' => e = .returned (.bool true) ∧ Below w.heap.size w w' := by
  cases hm : mayB sz f sp
  · cases hm2 : mayB (a % 16777216) (a / 16777216 % 8) (a / 134217728 % 4)
    · by_cases h29 : a < 536870912
      · exact headers_nn sz f sp cl se a b c w hs hz hm (fun W h1 h2 => unpack_no a b c _ _ _ rfl rfl rfl W h1 h2 ha ha2 hm2) (fun W => runpack_no a b c _ _ _ rfl rfl rfl W ha ha2 hm2 h29)
      · exact headers_nn sz f sp cl se a b c w hs hz hm (fun W h1 h2 => unpack_no a b c _ _ _ rfl rfl rfl W h1 h2 ha ha2 hm2) (fun W => runpack_over a b c _ _ _ rfl rfl rfl W ha ha2 (by omega))
    · by_cases h29 : a < 536870912
      · exact headers_ny sz f sp cl se a b c _ _ _ w hs hz hm (fun W h1 h2 => unpack_yes a b c _ _ _ rfl rfl rfl W h1 h2 ha ha2 hm2 h29) (fun W => runpack_yes a b c _ _ _ rfl rfl rfl W ha ha2 hm2 h29)
      · exact headers_nn sz f sp cl se a b c w hs hz hm (fun W h1 h2 => unpack_over a b c _ _ _ rfl rfl rfl W h1 h2 ha ha2 hm2 (by omega)) (fun W => runpack_over a b c _ _ _ rfl rfl rfl W ha ha2 (by omega))
  · cases hm2 : mayB (a % 16777216) (a / 16777216 % 8) (a / 134217728 % 4)
    · by_cases h29 : a < 536870912
      · exact headers_yn sz f sp cl se a b c w hs hz hm (fun W h1 h2 => unpack_no a b c _ _ _ rfl rfl rfl W h1 h2 ha ha2 hm2) (fun W => runpack_no a b c _ _ _ rfl rfl rfl W ha ha2 hm2 h29)
      · exact headers_yn sz f sp cl se a b c w hs hz hm (fun W h1 h2 => unpack_no a b c _ _ _ rfl rfl rfl W h1 h2 ha ha2 hm2) (fun W => runpack_over a b c _ _ _ rfl rfl rfl W ha ha2 (by omega))
    · by_cases h29 : a < 536870912
      · exact headers_yy sz f sp cl se a b c _ _ _ w hs hz hm (fun W h1 h2 => unpack_yes a b c _ _ _ rfl rfl rfl W h1 h2 ha ha2 hm2 h29) (fun W => runpack_yes a b c _ _ _ rfl rfl rfl W ha ha2 hm2 h29)
      · exact headers_yn sz f sp cl se a b c w hs hz hm (fun W h1 h2 => unpack_over a b c _ _ _ rfl rfl rfl W h1 h2 ha ha2 hm2 (by omega)) (fun W => runpack_over a b c _ _ _ rfl rfl rfl W ha ha2 (by omega))
end Go.Proofs.YtlopmhnakehnaaaDoor
