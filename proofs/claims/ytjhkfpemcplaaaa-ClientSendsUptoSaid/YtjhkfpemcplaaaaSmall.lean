/-
  Contracts of small functions: may, MayPacket, zigzag, Signed, length, bytes.Equal, SamePacket.
-/
import Derived.Test.YtjhkfpemcplaaaaCnt
import Derived.BigQuiet
import Derived.Deep.QuietTactic
namespace Go.Proofs.Ytjhkfpemcplaaaa
open Go.RowKit

def mayB (k : Int) (n : Nat) : Bool := decide (1 ≤ k) && decide (k ≤ 7) && decide (n ≤ 1024)
set_option maxRecDepth 20000 in
set_option maxHeartbeats 1000000 in
theorem may_any (k : Int) (t s a : Value) (A : Option Addr) (n c : Nat) (w : World) (ht : ∃ x, t = .int .u64 x) (hs : ∃ x, s = .int .u64 x) (ha : ∃ x, a = .int .u64 x) :
    Calls Try.prog 86 #[.agg #[.int .i64 k, t, s, a, .slice A n c]] w fun e w' => e = .returned (.bool (mayB k n)) ∧ w.alloc (.cells #[.int .i64 k, t, s, a, .slice A n c] 39) = w' := by
  obtain ⟨t, rfl⟩ := ht
  obtain ⟨s, rfl⟩ := hs
  obtain ⟨a, rfl⟩ := ha
  by_cases h1 : 1 ≤ k
  · by_cases h2 : k ≤ 7
    · have e : mayB k n = decide ((n : Int) ≤ 1024) := by simp [mayB, h1, h2]; omega
      rw [e]
      go_enter Try.func86, Try.ntmps86
      go_wp2
      go_ret
      exact ⟨rfl, rfl⟩
    · have e : mayB k n = false := by simp [mayB, h2]
      rw [e]
      go_enter Try.func86, Try.ntmps86
      go_wp2
      go_ret
      exact ⟨rfl, rfl⟩
  · have e : mayB k n = false := by simp [mayB, h1]
    rw [e]
    go_enter Try.func86, Try.ntmps86
    go_wp2
    go_ret
    exact ⟨rfl, rfl⟩

set_option maxRecDepth 20000 in
set_option maxHeartbeats 1000000 in
theorem rmay_any (k : Int) (t s a : Value) (A : Option Addr) (n c : Nat) (w : World) (ht : ∃ x, t = .int .u64 x) (hs : ∃ x, s = .int .u64 x) (ha : ∃ x, a = .int .u64 x) :
    Calls Try.prog 47 #[.agg #[.int .i64 k, t, s, a, .slice A n c]] w fun e w' => e = .returned (.bool (mayB k n)) ∧ w.alloc (.cells #[.int .i64 k, t, s, a, .slice A n c] 39) = w' := by
  obtain ⟨t, rfl⟩ := ht
  obtain ⟨s, rfl⟩ := hs
  obtain ⟨a, rfl⟩ := ha
  by_cases h1 : 1 ≤ k
  · by_cases h2 : k ≤ 7
    · have e : mayB k n = decide ((n : Int) ≤ 1024) := by simp [mayB, h1, h2]; omega
      rw [e]
      go_enter Try.func47, Try.ntmps47
      go_wp2
      go_ret
      exact ⟨rfl, rfl⟩
    · have e : mayB k n = false := by simp [mayB, h2]
      rw [e]
      go_enter Try.func47, Try.ntmps47
      go_wp2
      go_ret
      exact ⟨rfl, rfl⟩
  · have e : mayB k n = false := by simp [mayB, h1]
    rw [e]
    go_enter Try.func47, Try.ntmps47
    go_wp2
    go_ret
    exact ⟨rfl, rfl⟩

/-- the count of a signed number -/
def zig (n : Int) : Nat := if 0 ≤ n then (2 * n).toNat else (2 * (-(n + 1)) + 1).toNat
set_option maxRecDepth 20000 in
theorem zig_any (n : Int) (w : World) (h : -9223372036854775808 ≤ n ∧ n ≤ 9223372036854775807) :
    Calls Try.prog 74 #[.int .i64 n] w fun e w' => e = .returned (.int .u64 (zig n : Nat)) ∧ w = w' := by
  obtain ⟨h1, h2⟩ := h
  by_cases h0 : 0 ≤ n
  · have e : ((zig n : Nat) : Int) = 2 * n := by unfold zig; rw [if_pos h0]; omega
    rw [e]
    go_enter Try.func74, Try.ntmps74
    go_wp2
    go_ret
    exact ⟨ret_int (by simp), rfl⟩
  · have e : ((zig n : Nat) : Int) = 2 * (-(n + 1)) + 1 := by unfold zig; rw [if_neg h0]; omega
    rw [e]
    go_enter Try.func74, Try.ntmps74
    go_wp2
    go_ret
    exact ⟨ret_int (by simp), rfl⟩
theorem zig_lt {n : Int} (h : -9223372036854775808 ≤ n ∧ n ≤ 9223372036854775807) : zig n < 18446744073709551616 := by unfold zig; split <;> omega
set_option maxRecDepth 20000 in
theorem rzig_any (n : Int) (w : World) (h : -9223372036854775808 ≤ n ∧ n ≤ 9223372036854775807) :
    Calls Try.prog 42 #[.int .i64 n] w fun e w' => e = .returned (.int .u64 (zig n : Nat)) ∧ w = w' := by
  obtain ⟨h1, h2⟩ := h
  by_cases h0 : 0 ≤ n
  · have e : ((zig n : Nat) : Int) = 2 * n := by unfold zig; rw [if_pos h0]; omega
    rw [e]
    go_enter Try.func42, Try.ntmps42
    go_wp2
    go_ret
    exact ⟨ret_int (by simp), rfl⟩
  · have e : ((zig n : Nat) : Int) = 2 * (-(n + 1)) + 1 := by unfold zig; rw [if_neg h0]; omega
    rw [e]
    go_enter Try.func42, Try.ntmps42
    go_wp2
    go_ret
    exact ⟨ret_int (by simp), rfl⟩

/-- the length that a frame's head tells -/
def lenOf (bs : List UInt8) : Nat := (bs.getD 2 0).toNat + 256 * (bs.getD 3 0).toNat
theorem or_shl8 {a b : Nat} (ha : a < 256) (hb : b < 256) : bits .or .i64 (a : Int) (((b : Int) * 256)) = ((a + 256 * b : Nat) : Int) := by
  have h1 : a ||| (256 * b) = a + 256 * b := by
    have := Nat.two_pow_add_eq_or_of_lt (i := 8) (b := a) (by omega) b
    rw [Nat.or_comm, show 256 * b = 2 ^ 8 * b from by omega, ← this]
    omega
  have h2 : bits .or .i64 (a : Int) ((256 * b : Nat) : Int) = ((a ||| (256 * b) : Nat) : Int) := by
    have hx : a ||| (256 * b) < 2 ^ 63 := Nat.or_lt_two_pow (by omega) (by omega)
    have e : ∀ n : Nat, n < 9223372036854775808 → (BitVec.ofInt 64 (n : Int)).toNat = n := fun n hn => by
      rw [BitVec.ofInt_natCast, BitVec.toNat_ofNat]; exact Nat.mod_eq_of_lt (by omega)
    show IntKind.i64.wrap ((BitVec.ofInt 64 (a : Int) ||| BitVec.ofInt 64 ((256 * b : Nat) : Int)).toNat : Int) = _
    rw [BitVec.toNat_or, e a (by omega), e (256 * b) (by omega), IntKind.wrap_i64]
    omega
  rw [h1] at h2
  have e : (b : Int) * 256 = ((256 * b : Nat) : Int) := by omega
  rw [e]
  exact h2
theorem byte_getD {w : World} {B n : Nat} {A : Option Addr} {bs : List UInt8} (h : RdB w B A n bs) {k : Nat} (hk : k < n) :
    ∃ b off, A = some ⟨b, off, none⟩ ∧ w.cell? ⟨b, off + k, none⟩ = some (.int .u8 ((bs.getD k 0).toNat : Int)) := by
  obtain ⟨⟨b, off, spot⟩, x, e, _, hx, hc⟩ := h.byte hk
  have hspot : spot = none := by
    obtain ⟨ad0, x0, e0, _, _, hc0⟩ := h.byte (k := 0) (by omega)
    rw [e] at e0
    injection e0 with e0
    subst e0
    simpa [Addr.add] using World.cell?_spot hc0
  subst hspot
  refine ⟨b, off, e, ?_⟩
  rw [List.getD_eq_getElem?_getD, hx]
  have e2 : (⟨b, off, none⟩ : Addr).add k = ⟨b, off + k, none⟩ := by unfold Addr.add; split <;> simp_all
  rw [← e2]
  exact hc
set_option maxRecDepth 20000 in
set_option maxHeartbeats 1000000 in
theorem length_any (A : Option Addr) (n c B : Nat) (bs : List UInt8) (w : World) (h : RdB w B A n bs) (hn : 4 ≤ n) :
    Calls Try.prog 75 #[.slice A n c] w fun e w' => e = .returned (.int .i64 (lenOf bs : Nat)) ∧ ∃ k, w' = w.drewN k := by
  obtain ⟨b, off, rfl, c2⟩ := byte_getD h (k := 2) (by omega)
  obtain ⟨b', off', e, c3⟩ := byte_getD h (k := 3) (by omega)
  injection e with e
  injection e with e1 e2
  subst e1 e2
  have h2 := u8_lt (bs.getD 2 0)
  have h3 := u8_lt (bs.getD 3 0)
  have ho := or_shl8 h2 h3
  have hl : ((lenOf bs : Nat) : Int) = (((bs.getD 2 0).toNat + 256 * (bs.getD 3 0).toNat : Nat) : Int) := rfl
  rw [hl]
  generalize bs.getD 2 0 = x at *
  generalize bs.getD 3 0 = y at *
  have HN := Lib.hid hn
  have n2 : (2 : Int) < (n : Int) := by omega
  have n3 : (3 : Int) < (n : Int) := by omega
  clear hn hl
  go_enter Try.func75, Try.ntmps75
  go_wp2
  go_quiet (fail)
  go_wp2
  go_ret
  exact ⟨rfl, _, rfl⟩

set_option maxRecDepth 20000 in
/-- two slices of bytes as strings -/
theorem equal_any (A A' : Option Addr) (n n' c c' B B' : Nat) (bs bs' : List UInt8) (w : World) (h : RdB w B A n bs) (h' : RdB w B' A' n' bs') :
    Calls Try.prog 88 #[.slice A n c, .slice A' n' c'] w fun e w' => e = .returned (.bool (bs == bs')) ∧ w = w' := by
  have h1 := run_string_of (P := Try.prog) (c := c) w 37 9 5 h Try.underlying37 Try.underlying5 Try.underlying9
  have h2 := run_string_of (P := Try.prog) (c := c') w 37 9 5 h' Try.underlying37 Try.underlying5 Try.underlying9
  go_enter Try.func88, Try.ntmps88
  go_wp2
  go_ret
  exact ⟨ret_bool (by simp), rfl⟩

def sameB (k k' : Int) (t t' s s' a a' : Nat) (bs bs' : List UInt8) : Bool := k == k' && (t == t') && (s == s') && (a == a') && (bs == bs')
end Go.Proofs.Ytjhkfpemcplaaaa
