/-
  The verifier's operands f46 (printed by mkcvb.py). No statement of the seat is proved here.
-/
import Derived.Test.YtaeegkljldngmaaDoorCvA
namespace Go.Proofs.YtaeegkljldngmaaDoor
open Go.RowKit

section
variable {base : Nat} {K : VK} {D : VD} {W : World}
set_option maxRecDepth 100000 in
set_option maxHeartbeats 2000000 in
theorem opd_6 (h : VM base K D W) (hB : base ≤ W.heap.size) (hok : RgsOk D.rs) (hrl : D.rs.length ≤ 32768) (a b c z : Int) (r : Nat) (hr : r < D.rs.length) (ha : 0 ≤ a) :
    Calls Tryd.prog 42 #[.pointer (some ⟨K.g, 0, none⟩), .agg #[.int .i64 6, .int .i64 a, .int .i64 b, .int .i64 c, .int .i64 z], .int .i64 (r : Int)] W fun e w' => e = .returned (.bool (litO K.s a 0)) ∧ Below W.heap.size W w' := by
  have HA := Lib.hid fun o => h.alloc hB o
  have HB : Hid (∀ o n, Below W.heap.size W ((W.alloc o).drewN n)) := Lib.hid fun o n => below_drewN ((Below.refl _ _).alloc (Nat.le_refl _) o) n
  have hg := h.blk.lt
  have u1 := hok
  have u2 := hrl
  have u3 := hr
  have u4 := ha
  clear u1 u2 u3 u4
  have HL := Lib.hid fun o => literal_any (HA.out o) a 0 ha
  clear h HA hok hrl
  go_enter Tryd.func42, Tryd.ntmps42
  go_wp2_with (go_at_call 56; refine (HL.out _).mono ?_; rintro e w1 ⟨rfl, rfl⟩)
  all_goals (go_ret; exact ⟨rfl, HB.out _ 0⟩)
set_option maxRecDepth 100000 in
set_option maxHeartbeats 2000000 in
theorem opd_10 (h : VM base K D W) (hB : base ≤ W.heap.size) (hok : RgsOk D.rs) (hrl : D.rs.length ≤ 32768) (a b c z : Int) (r : Nat) (hr : r < D.rs.length) (ha : 0 ≤ a) :
    Calls Tryd.prog 42 #[.pointer (some ⟨K.g, 0, none⟩), .agg #[.int .i64 10, .int .i64 a, .int .i64 b, .int .i64 c, .int .i64 z], .int .i64 (r : Int)] W fun e w' => e = .returned (.bool (litO K.s a 2)) ∧ Below W.heap.size W w' := by
  have HA := Lib.hid fun o => h.alloc hB o
  have HB : Hid (∀ o n, Below W.heap.size W ((W.alloc o).drewN n)) := Lib.hid fun o n => below_drewN ((Below.refl _ _).alloc (Nat.le_refl _) o) n
  have hg := h.blk.lt
  have u1 := hok
  have u2 := hrl
  have u3 := hr
  have u4 := ha
  clear u1 u2 u3 u4
  have HL := Lib.hid fun o => literal_any (HA.out o) a 2 ha
  clear h HA hok hrl
  go_enter Tryd.func42, Tryd.ntmps42
  go_wp2_with (go_at_call 56; refine (HL.out _).mono ?_; rintro e w1 ⟨rfl, rfl⟩)
  all_goals (go_ret; exact ⟨rfl, HB.out _ 0⟩)
set_option maxRecDepth 100000 in
set_option maxHeartbeats 2000000 in
theorem opd_13 (h : VM base K D W) (hB : base ≤ W.heap.size) (hok : RgsOk D.rs) (hrl : D.rs.length ≤ 32768) (a b c z : Int) (r : Nat) (hr : r < D.rs.length) (ha : 0 ≤ a) :
    Calls Tryd.prog 42 #[.pointer (some ⟨K.g, 0, none⟩), .agg #[.int .i64 13, .int .i64 a, .int .i64 b, .int .i64 c, .int .i64 z], .int .i64 (r : Int)] W fun e w' => e = .returned (.bool (litO K.s a 2)) ∧ Below W.heap.size W w' := by
  have HA := Lib.hid fun o => h.alloc hB o
  have HB : Hid (∀ o n, Below W.heap.size W ((W.alloc o).drewN n)) := Lib.hid fun o n => below_drewN ((Below.refl _ _).alloc (Nat.le_refl _) o) n
  have hg := h.blk.lt
  have u1 := hok
  have u2 := hrl
  have u3 := hr
  have u4 := ha
  clear u1 u2 u3 u4
  have HL := Lib.hid fun o => literal_any (HA.out o) a 2 ha
  clear h HA hok hrl
  go_enter Tryd.func42, Tryd.ntmps42
  go_wp2_with (go_at_call 56; refine (HL.out _).mono ?_; rintro e w1 ⟨rfl, rfl⟩)
  all_goals (go_ret; exact ⟨rfl, HB.out _ 0⟩)
set_option maxRecDepth 100000 in
set_option maxHeartbeats 2000000 in
theorem opd_16 (h : VM base K D W) (hB : base ≤ W.heap.size) (hok : RgsOk D.rs) (hrl : D.rs.length ≤ 32768) (a b c z : Int) (r : Nat) (hr : r < D.rs.length) (ha : 0 ≤ a) :
    Calls Tryd.prog 42 #[.pointer (some ⟨K.g, 0, none⟩), .agg #[.int .i64 16, .int .i64 a, .int .i64 b, .int .i64 c, .int .i64 z], .int .i64 (r : Int)] W fun e w' => e = .returned (.bool (litO K.s a 1 && decide (b ≤ 15))) ∧ Below W.heap.size W w' := by
  have HA := Lib.hid fun o => h.alloc hB o
  have HB : Hid (∀ o n, Below W.heap.size W ((W.alloc o).drewN n)) := Lib.hid fun o n => below_drewN ((Below.refl _ _).alloc (Nat.le_refl _) o) n
  have hg := h.blk.lt
  have u1 := hok
  have u2 := hrl
  have u3 := hr
  have u4 := ha
  clear u1 u2 u3 u4
  have HL := Lib.hid fun o => literal_any (HA.out o) a 1 ha
  clear h HA hok hrl
  cases hl : litO K.s a 1 with
  | false =>
    rw [hl] at HL
    clear hl
    go_enter Tryd.func42, Tryd.ntmps42
    go_wp2_with (go_at_call 56; refine (HL.out _).mono ?_; rintro e w1 ⟨rfl, rfl⟩)
    all_goals (go_ret; exact ⟨ret_bool (by simp), HB.out _ 0⟩)
  | true =>
    rw [hl] at HL
    clear hl
    go_enter Tryd.func42, Tryd.ntmps42
    go_wp2_with (go_at_call 56; refine (HL.out _).mono ?_; rintro e w1 ⟨rfl, rfl⟩)
    all_goals (go_ret; exact ⟨ret_bool (by simp), HB.out _ 0⟩)
set_option maxRecDepth 100000 in
set_option maxHeartbeats 2000000 in
theorem opd_17 (h : VM base K D W) (hB : base ≤ W.heap.size) (hok : RgsOk D.rs) (hrl : D.rs.length ≤ 32768) (a b c z : Int) (r : Nat) (hr : r < D.rs.length) (ha : 0 ≤ a) :
    Calls Tryd.prog 42 #[.pointer (some ⟨K.g, 0, none⟩), .agg #[.int .i64 17, .int .i64 a, .int .i64 b, .int .i64 c, .int .i64 z], .int .i64 (r : Int)] W fun e w' => e = .returned (.bool (litO K.s a 1 && decide (b ≤ 15))) ∧ Below W.heap.size W w' := by
  have HA := Lib.hid fun o => h.alloc hB o
  have HB : Hid (∀ o n, Below W.heap.size W ((W.alloc o).drewN n)) := Lib.hid fun o n => below_drewN ((Below.refl _ _).alloc (Nat.le_refl _) o) n
  have hg := h.blk.lt
  have u1 := hok
  have u2 := hrl
  have u3 := hr
  have u4 := ha
  clear u1 u2 u3 u4
  have HL := Lib.hid fun o => literal_any (HA.out o) a 1 ha
  clear h HA hok hrl
  cases hl : litO K.s a 1 with
  | false =>
    rw [hl] at HL
    clear hl
    go_enter Tryd.func42, Tryd.ntmps42
    go_wp2_with (go_at_call 56; refine (HL.out _).mono ?_; rintro e w1 ⟨rfl, rfl⟩)
    all_goals (go_ret; exact ⟨ret_bool (by simp), HB.out _ 0⟩)
  | true =>
    rw [hl] at HL
    clear hl
    go_enter Tryd.func42, Tryd.ntmps42
    go_wp2_with (go_at_call 56; refine (HL.out _).mono ?_; rintro e w1 ⟨rfl, rfl⟩)
    all_goals (go_ret; exact ⟨ret_bool (by simp), HB.out _ 0⟩)
set_option maxRecDepth 100000 in
set_option maxHeartbeats 2000000 in
theorem opd_8 (h : VM base K D W) (hB : base ≤ W.heap.size) (hok : RgsOk D.rs) (hrl : D.rs.length ≤ 32768) (a b c z : Int) (r : Nat) (hr : r < D.rs.length) (ha : 0 ≤ a) :
    Calls Tryd.prog 42 #[.pointer (some ⟨K.g, 0, none⟩), .agg #[.int .i64 8, .int .i64 a, .int .i64 b, .int .i64 c, .int .i64 z], .int .i64 (r : Int)] W fun e w' => e = .returned (.bool (decide (a < K.s.fields))) ∧ Below W.heap.size W w' := by
  have HA := Lib.hid fun o => h.alloc hB o
  have HB : Hid (∀ o n, Below W.heap.size W ((W.alloc o).drewN n)) := Lib.hid fun o n => below_drewN ((Below.refl _ _).alloc (Nat.le_refl _) o) n
  have hg := h.blk.lt
  have u1 := hok
  have u2 := hrl
  have u3 := hr
  have u4 := ha
  clear u1 u2 u3 u4
  have c2 : W.cell? ⟨K.g, 2, none⟩ = some (.int .i64 K.s.fields) := h.blk.cell 2
  clear h HA hok hrl
  go_enter Tryd.func42, Tryd.ntmps42
  go_wp2
  go_quiet (fail)
  go_wp2
  go_ret
  exact ⟨rfl, HB.out _ _⟩
set_option maxRecDepth 100000 in
set_option maxHeartbeats 2000000 in
theorem opd_11 (h : VM base K D W) (hB : base ≤ W.heap.size) (hok : RgsOk D.rs) (hrl : D.rs.length ≤ 32768) (a b c z : Int) (r : Nat) (hr : r < D.rs.length) (ha : 0 ≤ a) :
    Calls Tryd.prog 42 #[.pointer (some ⟨K.g, 0, none⟩), .agg #[.int .i64 11, .int .i64 a, .int .i64 b, .int .i64 c, .int .i64 z], .int .i64 (r : Int)] W fun e w' => e = .returned (.bool (decide (a < K.s.fields))) ∧ Below W.heap.size W w' := by
  have HA := Lib.hid fun o => h.alloc hB o
  have HB : Hid (∀ o n, Below W.heap.size W ((W.alloc o).drewN n)) := Lib.hid fun o n => below_drewN ((Below.refl _ _).alloc (Nat.le_refl _) o) n
  have hg := h.blk.lt
  have u1 := hok
  have u2 := hrl
  have u3 := hr
  have u4 := ha
  clear u1 u2 u3 u4
  have c2 : W.cell? ⟨K.g, 2, none⟩ = some (.int .i64 K.s.fields) := h.blk.cell 2
  clear h HA hok hrl
  go_enter Tryd.func42, Tryd.ntmps42
  go_wp2
  go_quiet (fail)
  go_wp2
  go_ret
  exact ⟨rfl, HB.out _ _⟩
set_option maxRecDepth 100000 in
set_option maxHeartbeats 2000000 in
theorem opd_9 (h : VM base K D W) (hB : base ≤ W.heap.size) (hok : RgsOk D.rs) (hrl : D.rs.length ≤ 32768) (a b c z : Int) (r : Nat) (hr : r < D.rs.length) (ha : 0 ≤ a) :
    Calls Tryd.prog 42 #[.pointer (some ⟨K.g, 0, none⟩), .agg #[.int .i64 9, .int .i64 a, .int .i64 b, .int .i64 c, .int .i64 z], .int .i64 (r : Int)] W fun e w' => e = .returned (.bool (decide (b < tempsO D.rs r a))) ∧ Below W.heap.size W w' := by
  have HA := Lib.hid fun o => h.alloc hB o
  have HB : Hid (∀ o n, Below W.heap.size W ((W.alloc o).drewN n)) := Lib.hid fun o n => below_drewN ((Below.refl _ _).alloc (Nat.le_refl _) o) n
  have hg := h.blk.lt
  have u1 := hok
  have u2 := hrl
  have u3 := hr
  have u4 := ha
  clear u1 u2 u3 u4
  have HT := Lib.hid fun o n => (temps_any ((HA.out o).drewN n) hok hrl r a hr ha).mono fun e w' (h : _ ∧ _) => And.intro h.1 h.2.symm
  clear h HA hok hrl
  generalize tempsO D.rs r a = t at *
  go_enter Tryd.func42, Tryd.ntmps42
  go_wp2_with fail
  go_quiet ((go_at_call 57; exact Calls.quiet_of_same (HT.out _ _)))
  go_wp2
  go_ret
  exact ⟨rfl, HB.out _ _⟩
set_option maxRecDepth 100000 in
set_option maxHeartbeats 2000000 in
theorem opd_12 (h : VM base K D W) (hB : base ≤ W.heap.size) (hok : RgsOk D.rs) (hrl : D.rs.length ≤ 32768) (a b c z : Int) (r : Nat) (hr : r < D.rs.length) (ha : 0 ≤ a) :
    Calls Tryd.prog 42 #[.pointer (some ⟨K.g, 0, none⟩), .agg #[.int .i64 12, .int .i64 a, .int .i64 b, .int .i64 c, .int .i64 z], .int .i64 (r : Int)] W fun e w' => e = .returned (.bool (decide (b < tempsO D.rs r a))) ∧ Below W.heap.size W w' := by
  have HA := Lib.hid fun o => h.alloc hB o
  have HB : Hid (∀ o n, Below W.heap.size W ((W.alloc o).drewN n)) := Lib.hid fun o n => below_drewN ((Below.refl _ _).alloc (Nat.le_refl _) o) n
  have hg := h.blk.lt
  have u1 := hok
  have u2 := hrl
  have u3 := hr
  have u4 := ha
  clear u1 u2 u3 u4
  have HT := Lib.hid fun o n => (temps_any ((HA.out o).drewN n) hok hrl r a hr ha).mono fun e w' (h : _ ∧ _) => And.intro h.1 h.2.symm
  clear h HA hok hrl
  generalize tempsO D.rs r a = t at *
  go_enter Tryd.func42, Tryd.ntmps42
  go_wp2_with fail
  go_quiet ((go_at_call 57; exact Calls.quiet_of_same (HT.out _ _)))
  go_wp2
  go_ret
  exact ⟨rfl, HB.out _ _⟩
set_option maxRecDepth 100000 in
set_option maxHeartbeats 2000000 in
theorem opd_23 (h : VM base K D W) (hB : base ≤ W.heap.size) (hok : RgsOk D.rs) (hrl : D.rs.length ≤ 32768) (a b c z : Int) (r : Nat) (hr : r < D.rs.length) (ha : 0 ≤ a) :
    Calls Tryd.prog 42 #[.pointer (some ⟨K.g, 0, none⟩), .agg #[.int .i64 23, .int .i64 a, .int .i64 b, .int .i64 c, .int .i64 z], .int .i64 (r : Int)] W fun e w' => e = .returned (.bool (decide (0 < (rgAt D.rs r).deep))) ∧ Below W.heap.size W w' := by
  have HA := Lib.hid fun o => h.alloc hB o
  have HB : Hid (∀ o n, Below W.heap.size W ((W.alloc o).drewN n)) := Lib.hid fun o n => below_drewN ((Below.refl _ _).alloc (Nat.le_refl _) o) n
  have hg := h.blk.lt
  have u1 := hok
  have u2 := hrl
  have u3 := hr
  have u4 := ha
  clear u1 u2 u3 u4
  obtain ⟨rb, rc, hrv⟩ := h.rform hok.pos
  obtain ⟨c0, _, c2, _, _, _, _⟩ := h.rcell hrv hr
  have hrb := (World.ownsRow.lt h.rgs rb (by rw [hrv]; simp [Value.ownBlock])).2
  clear h HA hok hrv
  generalize rgAt D.rs r = x at *
  go_enter Tryd.func42, Tryd.ntmps42
  go_wp2
  go_ret
  exact ⟨rfl, HB.out _ 0⟩
set_option maxRecDepth 100000 in
set_option maxHeartbeats 2000000 in
theorem opd_24 (h : VM base K D W) (hB : base ≤ W.heap.size) (hok : RgsOk D.rs) (hrl : D.rs.length ≤ 32768) (a b c z : Int) (r : Nat) (hr : r < D.rs.length) (ha : 0 ≤ a) :
    Calls Tryd.prog 42 #[.pointer (some ⟨K.g, 0, none⟩), .agg #[.int .i64 24, .int .i64 a, .int .i64 b, .int .i64 c, .int .i64 z], .int .i64 (r : Int)] W fun e w' => e = .returned (.bool (decide (a ≤ 15) && decide (a ≤ b) && decide (b ≤ 63) && decide (c ≤ 127) && decide ((rgAt D.rs r).deep < 15))) ∧ Below W.heap.size W w' := by
  have HA := Lib.hid fun o => h.alloc hB o
  have HB : Hid (∀ o n, Below W.heap.size W ((W.alloc o).drewN n)) := Lib.hid fun o n => below_drewN ((Below.refl _ _).alloc (Nat.le_refl _) o) n
  have hg := h.blk.lt
  have u1 := hok
  have u2 := hrl
  have u3 := hr
  have u4 := ha
  clear u1 u2 u3 u4
  obtain ⟨rb, rc, hrv⟩ := h.rform hok.pos
  obtain ⟨c0, _, c2, _, _, _, _⟩ := h.rcell hrv hr
  have hrb := (World.ownsRow.lt h.rgs rb (by rw [hrv]; simp [Value.ownBlock])).2
  clear h HA hok hrv
  generalize rgAt D.rs r = x at *
  by_cases h1 : a ≤ 15
  · by_cases h2 : a ≤ b
    · by_cases h3 : b ≤ 63
      · by_cases h4 : c ≤ 127
        · go_enter Tryd.func42, Tryd.ntmps42
          go_wp2
          go_ret
          exact ⟨ret_bool (by simp [h1, h2, h3, h4]), HB.out _ 0⟩
        · have q4 : ¬ c ≤ 127 := h4
          go_enter Tryd.func42, Tryd.ntmps42
          go_wp2
          go_ret
          exact ⟨ret_bool (by simp; omega), HB.out _ 0⟩
      · have q4 : ¬ b ≤ 63 := h3
        go_enter Tryd.func42, Tryd.ntmps42
        go_wp2
        go_ret
        exact ⟨ret_bool (by simp; omega), HB.out _ 0⟩
    · have q4 : ¬ a ≤ b := h2
      go_enter Tryd.func42, Tryd.ntmps42
      go_wp2
      go_ret
      exact ⟨ret_bool (by simp; omega), HB.out _ 0⟩
  · have q4 : ¬ a ≤ 15 := h1
    go_enter Tryd.func42, Tryd.ntmps42
    go_wp2
    go_ret
    exact ⟨ret_bool (by simp; omega), HB.out _ 0⟩
set_option maxRecDepth 100000 in
set_option maxHeartbeats 2000000 in
theorem opd_else (h : VM base K D W) (hB : base ≤ W.heap.size) (hok : RgsOk D.rs) (hrl : D.rs.length ≤ 32768) (op a b c z : Int) (r : Nat) (hr : r < D.rs.length) (ha : 0 ≤ a) (n6 : ¬ op = 6) (n16 : ¬ op = 16) (n17 : ¬ op = 17) (n10 : ¬ op = 10) (n13 : ¬ op = 13) (n8 : ¬ op = 8) (n11 : ¬ op = 11) (n9 : ¬ op = 9) (n12 : ¬ op = 12) (n24 : ¬ op = 24) (n23 : ¬ op = 23) :
    Calls Tryd.prog 42 #[.pointer (some ⟨K.g, 0, none⟩), .agg #[.int .i64 op, .int .i64 a, .int .i64 b, .int .i64 c, .int .i64 z], .int .i64 (r : Int)] W fun e w' => e = .returned (.bool true) ∧ Below W.heap.size W w' := by
  have HA := Lib.hid fun o => h.alloc hB o
  have HB : Hid (∀ o n, Below W.heap.size W ((W.alloc o).drewN n)) := Lib.hid fun o n => below_drewN ((Below.refl _ _).alloc (Nat.le_refl _) o) n
  have hg := h.blk.lt
  have u1 := hok
  have u2 := hrl
  have u3 := hr
  have u4 := ha
  clear u1 u2 u3 u4
  have v6 := n6
  have v16 := n16
  have v17 := n17
  have v10 := n10
  have v13 := n13
  have v8 := n8
  have v11 := n11
  have v9 := n9
  have v12 := n12
  have v24 := n24
  have v23 := n23
  clear v6 v16 v17 v10 v13 v8 v11 v9 v12 v24 v23
  clear h HA hok hrl
  go_enter Tryd.func42, Tryd.ntmps42
  go_wp2
  go_ret
  exact ⟨rfl, HB.out _ 0⟩
theorem operands_any (h : VM base K D W) (hB : base ≤ W.heap.size) (hok : RgsOk D.rs) (hrl : D.rs.length ≤ 32768) (x : Ins) (hx : x.Ok) (r : Nat) (hr : r < D.rs.length) :
    Calls Tryd.prog 42 #[.pointer (some ⟨K.g, 0, none⟩), x.val, .int .i64 (r : Int)] W fun e w' => e = .returned (.bool (opdO K.s D.rs x r)) ∧ Below W.heap.size W w' := by
  obtain ⟨op, a, b, c, z⟩ := x
  have ha := hx.a.1
  dsimp only at ha
  have key : ∀ (v : Bool), opdO K.s D.rs ⟨op, a, b, c, z⟩ r = v → Calls Tryd.prog 42 #[.pointer (some ⟨K.g, 0, none⟩), .agg #[.int .i64 op, .int .i64 a, .int .i64 b, .int .i64 c, .int .i64 z], .int .i64 (r : Int)] W (fun e w' => e = .returned (.bool v) ∧ Below W.heap.size W w') →
      Calls Tryd.prog 42 #[.pointer (some ⟨K.g, 0, none⟩), (⟨op, a, b, c, z⟩ : Ins).val, .int .i64 (r : Int)] W fun e w' => e = .returned (.bool (opdO K.s D.rs ⟨op, a, b, c, z⟩ r)) ∧ Below W.heap.size W w' := fun v hv hc => by
    rw [hv]
    exact hc
  by_cases n6 : op = 6
  · subst n6
    exact key _ (by unfold opdO; rfl) (opd_6 h hB hok hrl a b c z r hr ha)
  by_cases n16 : op = 16
  · subst n16
    exact key _ (by unfold opdO; rfl) (opd_16 h hB hok hrl a b c z r hr ha)
  by_cases n17 : op = 17
  · subst n17
    exact key _ (by unfold opdO; rfl) (opd_17 h hB hok hrl a b c z r hr ha)
  by_cases n10 : op = 10
  · subst n10
    exact key _ (by unfold opdO; rfl) (opd_10 h hB hok hrl a b c z r hr ha)
  by_cases n13 : op = 13
  · subst n13
    exact key _ (by unfold opdO; rfl) (opd_13 h hB hok hrl a b c z r hr ha)
  by_cases n8 : op = 8
  · subst n8
    exact key _ (by unfold opdO; rfl) (opd_8 h hB hok hrl a b c z r hr ha)
  by_cases n11 : op = 11
  · subst n11
    exact key _ (by unfold opdO; rfl) (opd_11 h hB hok hrl a b c z r hr ha)
  by_cases n9 : op = 9
  · subst n9
    exact key _ (by unfold opdO; rfl) (opd_9 h hB hok hrl a b c z r hr ha)
  by_cases n12 : op = 12
  · subst n12
    exact key _ (by unfold opdO; rfl) (opd_12 h hB hok hrl a b c z r hr ha)
  by_cases n24 : op = 24
  · subst n24
    exact key _ (by unfold opdO; rfl) (opd_24 h hB hok hrl a b c z r hr ha)
  by_cases n23 : op = 23
  · subst n23
    exact key _ (by unfold opdO; rfl) (opd_23 h hB hok hrl a b c z r hr ha)
  exact key true (by
    unfold opdO
    dsimp only
    rw [if_neg n6, if_neg (by omega), if_neg (by omega), if_neg (by omega), if_neg (by omega), if_neg n24, if_neg n23]) (opd_else h hB hok hrl op a b c z r hr ha n6 n16 n17 n10 n13 n8 n11 n9 n12 n24 n23)
end
end Go.Proofs.YtaeegkljldngmaaDoor
