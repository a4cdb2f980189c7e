/-
  Contracts of bytes and words (entry by entry): true at equal lists.
-/
import Derived.Test.YtlopmhnakehnaaaDoorBase
import Derived.Test.YtlopmhnakehnaaaDoorWordsO
import Derived.BigQuiet
import Derived.Deep.QuietTactic
namespace Go.Proofs.YtlopmhnakehnaaaDoor
open Go.RowKit

set_option maxRecDepth 20000 in
set_option maxHeartbeats 2000000 in
theorem bytes_any (A A' : Option Addr) (n c c' : Nat) (xs : List UInt8) (w : World) (h : RdB w w.heap.size A n xs) (h' : RdB w w.heap.size A' n xs) (hn : n ≤ 4611686018427387904) :
    Calls Tryd.prog 29 #[.slice A n c, .slice A' n c'] w fun e w' => e = .returned (.bool true) ∧ Below w.heap.size w w' := by
  have H := Lib.hid h
  have H' := Lib.hid h'
  clear h h'
  go_enter Tryd.func29, Tryd.ntmps29
  go_wp2
  go_loopw [5] (fun i wr => ∃ k : Nat, k ≤ n ∧ i = .int .i64 k ∧ Below w.heap.size w wr) (fun i _ => n - (intOf i).toNat)
  case atStart => exact ⟨0, Nat.zero_le _, rfl, Below.refl _ _⟩
  case round =>
    obtain ⟨k, hk, rfl, hb⟩ := hrel
    by_cases hlt : k < n
    · obtain ⟨ad, x, rfl, hb1, hx, hc⟩ := (H.out.below hb).byte hlt
      obtain ⟨ad', x', rfl, hb1', hx', hc'⟩ := (H'.out.below hb).byte hlt
      obtain rfl : x = x' := Option.some.inj (hx.symm.trans hx')
      have l1 : (0 : Int) ≤ (k : Int) := by omega
      have l2 : (k : Int) < (n : Int) := by omega
      have HB := Lib.hid hb
      clear hx hx' hb1 hb1' hb
      go_wp2
      go_quiet (fail)
      go_wp2
      go_roundw
      case rel => exact ⟨k + 1, by omega, by go_num, below_drewN HB.out _⟩
      case measure => simp [intOf]; omega
    · go_wp2
      go_ret
      exact ⟨rfl, hb⟩
/-- lists of two lengths: false -/
theorem bytes_any_len (A A' : Option Addr) (n n' c c' : Nat) (w : World) (hne : n ≠ n') :
    Calls Tryd.prog 29 #[.slice A n c, .slice A' n' c'] w fun e w' => e = .returned (.bool false) ∧ w = w' := by
  have d : ((n : Int) != (n' : Int)) = true := by
    have : (n : Int) ≠ (n' : Int) := by omega
    simpa using this
  have d2 : (n != n') = true := by simpa using hne
  clear hne
  go_enter Tryd.func29, Tryd.ntmps29
  go_wp2
  go_ret
  exact ⟨rfl, rfl⟩
set_option maxRecDepth 20000 in
set_option maxHeartbeats 2000000 in
theorem words_any (A A' : Option Addr) (n c c' : Nat) (xs : List Nat) (w : World) (h : RdW w w.heap.size A n xs) (h' : RdW w w.heap.size A' n xs) (hn : n ≤ 4611686018427387904) :
    Calls Tryd.prog 30 #[.slice A n c, .slice A' n c'] w fun e w' => e = .returned (.bool true) ∧ Below w.heap.size w w' := by
  have H := Lib.hid h
  have H' := Lib.hid h'
  clear h h'
  go_enter Tryd.func30, Tryd.ntmps30
  go_wp2
  go_loopw [5] (fun i wr => ∃ k : Nat, k ≤ n ∧ i = .int .i64 k ∧ Below w.heap.size w wr) (fun i _ => n - (intOf i).toNat)
  case atStart => exact ⟨0, Nat.zero_le _, rfl, Below.refl _ _⟩
  case round =>
    obtain ⟨k, hk, rfl, hb⟩ := hrel
    by_cases hlt : k < n
    · obtain ⟨ad, x, rfl, hb1, hx, hc⟩ := (H.out.below hb).word hlt
      obtain ⟨ad', x', rfl, hb1', hx', hc'⟩ := (H'.out.below hb).word hlt
      obtain rfl : x = x' := Option.some.inj (hx.symm.trans hx')
      have l1 : (0 : Int) ≤ (k : Int) := by omega
      have l2 : (k : Int) < (n : Int) := by omega
      have HB := Lib.hid hb
      clear hx hx' hb1 hb1' hb
      go_wp2
      go_quiet (fail)
      go_wp2
      go_roundw
      case rel => exact ⟨k + 1, by omega, by go_num, below_drewN HB.out _⟩
      case measure => simp [intOf]; omega
    · go_wp2
      go_ret
      exact ⟨rfl, hb⟩
/-- lists of two lengths: false -/
theorem words_any_len (A A' : Option Addr) (n n' c c' : Nat) (w : World) (hne : n ≠ n') :
    Calls Tryd.prog 30 #[.slice A n c, .slice A' n' c'] w fun e w' => e = .returned (.bool false) ∧ w = w' := by
  have d : ((n : Int) != (n' : Int)) = true := by
    have : (n : Int) ≠ (n' : Int) := by omega
    simpa using this
  have d2 : (n != n') = true := by simpa using hne
  clear hne
  go_enter Tryd.func30, Tryd.ntmps30
  go_wp2
  go_ret
  exact ⟨rfl, rfl⟩
end Go.Proofs.YtlopmhnakehnaaaDoor
