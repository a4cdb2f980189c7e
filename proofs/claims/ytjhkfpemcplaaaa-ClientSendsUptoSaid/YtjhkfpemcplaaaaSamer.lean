/-
  Contract of the document's SameReply, at two replies that read the same.
-/
import Derived.Test.YtjhkfpemcplaaaaRgetr
import Derived.BigQuiet
import Derived.Deep.QuietTactic
namespace Go.Proofs.Ytjhkfpemcplaaaa
open Go.RowKit

set_option maxRecDepth 20000 in
set_option maxHeartbeats 2000000 in
theorem samer_any (err : Int) (A A' : Option Addr) (n c c' : Nat) (s : ByteArray) (vs : List (Nat × Int)) (w : World) (h : RdV w w.heap.size A n vs) (h' : RdV w w.heap.size A' n vs) (hm : n ≤ 9223372036854775807) :
    Calls Try.prog 27 #[.agg #[.int .i64 err, .slice A n c, .string s], .agg #[.int .i64 err, .slice A' n c', .string s]] w fun e w' => e = .returned (.bool true) ∧ Below w.heap.size w w' := by
  have H1 := Lib.hid ((h.alloc (Nat.le_refl _) (.cells #[.int .i64 err, .slice A n c, .string s] 53)).alloc (by simp) (.cells #[.int .i64 err, .slice A' n c', .string s] 53))
  have H2 := Lib.hid ((h'.alloc (Nat.le_refl _) (.cells #[.int .i64 err, .slice A n c, .string s] 53)).alloc (by simp) (.cells #[.int .i64 err, .slice A' n c', .string s] 53))
  have HB := Lib.hid (((Below.refl w.heap.size w).alloc (Nat.le_refl _) (.cells #[.int .i64 err, .slice A n c, .string s] 53)).alloc (by simp) (.cells #[.int .i64 err, .slice A' n c', .string s] 53))
  have B1 := Lib.hid ((Blk.new w 53 #[.int .i64 err, .slice A n c, .string s]).alloc (.cells #[.int .i64 err, .slice A' n c', .string s] 53))
  have B2 := Lib.hid (Blk.new' (w.alloc (.cells #[.int .i64 err, .slice A n c, .string s] 53)) 53 (w.heap.size + 1) #[.int .i64 err, .slice A' n c', .string s] (by simp))
  clear h h'
  go_enter Try.func27, Try.ntmps27
  go_upto_region 3 with fail
  generalize ((w.alloc (.cells #[.int .i64 err, .slice A n c, .string s] 53)).alloc (.cells #[.int .i64 err, .slice A' n c', .string s] 53)) = W at H1 H2 HB B1 B2 ⊢
  have p1 := B1.out.cell 1
  have q1 := B2.out.cell 1
  simp at p1 q1
  go_wp2
  go_loopw [5, 30] (fun _ i wr => ∃ j k : Nat, j ≤ n ∧ i = .int .i64 j ∧ wr = W.drewN k) (fun _ i _ => n - (intOf i).toNat)
  case atStart => exact ⟨0, 0, Nat.zero_le _, rfl, rfl⟩
  case round =>
    obtain ⟨j, k, hj, rfl, rfl⟩ := hrel
    by_cases hlt : j < n
    · obtain ⟨b, off, v, rfl, hb, hv, e1, e2⟩ := RdV.at2 H1.out hlt
      obtain ⟨b', off', v', rfl, hb', hv', e1', e2'⟩ := RdV.at2 H2.out hlt
      rw [hv] at hv'
      injection hv' with hv'
      subst hv'
      clear hb hb' hv
      have l1 : (0 : Int) ≤ (j : Int) := by omega
      have l2 : (j : Int) < (n : Int) := by omega
      have l3 : wrap64 ((j : Int) + 1) = (j : Int) + 1 := by unfold wrap64; omega
      go_wp2_with fail
      go_quiet (fail)
      go_wp2_with fail
      go_roundw
      case rel => exact ⟨j + 1, k + nq, by omega, by go_num, rfl⟩
      case measure => simp [intOf]; omega
    · go_wp2
      go_ret
      exact ⟨rfl, below_drewN HB.out k⟩
end Go.Proofs.Ytjhkfpemcplaaaa
