/-
  The walks that hold lists of strings against each other.
-/
import Derived.Test.YtaigfelpecdajaaChecked
import Derived.Test.YtaigfelpecdajaaAskW
import Derived.BigQuiet
import Derived.Deep.QuietTactic
import Derived.Deep.DeepCutAuto
import Derived.Outline
namespace Go.Proofs.Ytaigfelpecdajaa
open Go.RowKit

theorem drewN_two (w : World) (n m : Nat) : (w.drewN n).drewN m = w.drewN (n + m) := by
  simp [World.drewN, Nat.add_assoc]
theorem toList_eq (a b : ByteArray) : (a.toList == b.toList) = eqS a b := by
  obtain ⟨⟨l⟩⟩ := a
  obtain ⟨⟨m⟩⟩ := b
  have e1 : (⟨⟨l⟩⟩ : ByteArray).toList = l := ByteArray.toList_mk l
  have e2 : (⟨⟨m⟩⟩ : ByteArray).toList = m := ByteArray.toList_mk m
  rw [e1, e2, Bool.eq_iff_iff]
  simp [eqS]
set_option maxRecDepth 20000 in
set_option maxHeartbeats 1000000 in
theorem sEqual_any (A1 A2 : Option Addr) (c1 c2 B : Nat) (l m : List ByteArray) (w : World) (h1 : RdS w B A1 l.length l) (h2 : RdS w B A2 m.length m) (hl : l.length ≤ 1000000000) :
    Calls Try.prog 18 #[.slice A1 l.length c1, .slice A2 m.length c2] w fun e w' => e = .returned (.bool (sameS l m)) ∧ ∃ n, w' = w.drewN n := by
  have H1 := Lib.hid h1
  have H2 := Lib.hid h2
  clear h1 h2
  by_cases hlen : l.length = m.length
  · have HLEN := Lib.hid hlen
    have d0 : ((l.length : Int) != (m.length : Int)) = false := by rw [hlen]; simp
    clear hlen
    go_enter Try.func18, Try.ntmps18
    go_wp2
    go_loopw [13] (fun e wr => ∃ k n : Nat, k ≤ l.length ∧ e = .int .i64 k ∧ all2 eqS (l.drop k) (m.drop k) = sameS l m ∧ wr = w.drewN n) (fun e _ => l.length - (intOf e).toNat)
    case atStart => exact ⟨0, 0, Nat.zero_le _, rfl, rfl, rfl⟩
    case round =>
      obtain ⟨k, n, hk, rfl, hall, hwr⟩ := hrel
      have HR1 : Hid (RdS wr B A1 l.length l) := Lib.hid (by rw [hwr]; exact Reads.drewN H1.out n)
      have HR2 : Hid (RdS wr B A2 m.length m) := Lib.hid (by rw [hwr]; exact Reads.drewN H2.out n)
      have HW := Lib.hid hwr
      clear hwr
      have HALL := Lib.hid hall
      clear hall
      by_cases hkl : k < l.length
      · have hkm : k < m.length := by have := HLEN.out; omega
        obtain ⟨ad1, s1, rfl, _, x1, y1⟩ := RdS.at_ HR1.out hkl
        obtain ⟨ad2, s2, rfl, _, x2, y2⟩ := RdS.at_ HR2.out hkm
        have HD := Lib.hid (all2_drop (p := eqS) x1 x2)
        have l1 : (0 : Int) ≤ (k : Int) := by omega
        have l2 : (k : Int) < (l.length : Int) := by omega
        have l3 : (k : Int) < (m.length : Int) := by omega
        clear x1 x2
        by_cases he : s1 = s2
        · have HE : Hid (all2 eqS (l.drop (k + 1)) (m.drop (k + 1)) = sameS l m) := Lib.hid (by rw [← HALL.out, HD.out, he]; simp [eqS])
          subst he
          go_wp2
          go_quiet (fail)
          go_wp2
          go_roundw
          case rel => exact ⟨k + 1, n + nq, hkl, by go_num, HE.out, by rw [HW.out, drewN_two]⟩
          case measure => simp [intOf]; omega
        · have d : (s1.toList == s2.toList) = false := by rw [toList_eq]; simpa [eqS] using he
          have HE : Hid (sameS l m = false) := Lib.hid (by rw [← HALL.out, HD.out]; simp [eqS, he])
          clear he
          go_wp2
          go_quiet (fail)
          go_wp2
          go_ret
          exact ⟨ret_bool (by rw [HE.out]), n + nq, by rw [HW.out, drewN_two]⟩
      · have HE : Hid (sameS l m = true) := Lib.hid (by rw [← HALL.out]; exact all2_end (by omega) (by have := HLEN.out; omega))
        go_wp2
        go_ret
        exact ⟨ret_bool (by rw [HE.out]), n, HW.out⟩
  · have HE : Hid (sameS l m = false) := Lib.hid (all2_len hlen)
    have d0 : ((l.length : Int) != (m.length : Int)) = true := by rw [bne_iff_ne]; omega
    clear hlen
    go_enter Try.func18, Try.ntmps18
    go_wp2
    go_ret
    exact ⟨ret_bool (by rw [HE.out]), 0, rfl⟩
set_option maxRecDepth 20000 in
set_option maxHeartbeats 1000000 in
theorem rNames_any (A1 A2 : Option Addr) (c1 c2 B : Nat) (l m : List ByteArray) (w : World) (h1 : RdS w B A1 l.length l) (h2 : RdS w B A2 m.length m) (hl : l.length ≤ 1000000000) :
    Calls Try.prog 20 #[.slice A1 l.length c1, .slice A2 m.length c2] w fun e w' => e = .returned (.bool (sameS l m)) ∧ ∃ n, w' = w.drewN n := by
  have H1 := Lib.hid h1
  have H2 := Lib.hid h2
  clear h1 h2
  by_cases hlen : l.length = m.length
  · have HLEN := Lib.hid hlen
    have d0 : ((l.length : Int) != (m.length : Int)) = false := by rw [hlen]; simp
    clear hlen
    go_enter Try.func20, Try.ntmps20
    go_wp2
    go_loopw [5] (fun e wr => ∃ k n : Nat, k ≤ l.length ∧ e = .int .i64 k ∧ all2 eqS (l.drop k) (m.drop k) = sameS l m ∧ wr = w.drewN n) (fun e _ => l.length - (intOf e).toNat)
    case atStart => exact ⟨0, 0, Nat.zero_le _, rfl, rfl, rfl⟩
    case round =>
      obtain ⟨k, n, hk, rfl, hall, hwr⟩ := hrel
      have HR1 : Hid (RdS wr B A1 l.length l) := Lib.hid (by rw [hwr]; exact Reads.drewN H1.out n)
      have HR2 : Hid (RdS wr B A2 m.length m) := Lib.hid (by rw [hwr]; exact Reads.drewN H2.out n)
      have HW := Lib.hid hwr
      clear hwr
      have HALL := Lib.hid hall
      clear hall
      by_cases hkl : k < l.length
      · have hkm : k < m.length := by have := HLEN.out; omega
        obtain ⟨ad1, s1, rfl, _, x1, y1⟩ := RdS.at_ HR1.out hkl
        obtain ⟨ad2, s2, rfl, _, x2, y2⟩ := RdS.at_ HR2.out hkm
        have HD := Lib.hid (all2_drop (p := eqS) x1 x2)
        have l1 : (0 : Int) ≤ (k : Int) := by omega
        have l2 : (k : Int) < (l.length : Int) := by omega
        have l3 : (k : Int) < (m.length : Int) := by omega
        clear x1 x2
        by_cases he : s1 = s2
        · have HE : Hid (all2 eqS (l.drop (k + 1)) (m.drop (k + 1)) = sameS l m) := Lib.hid (by rw [← HALL.out, HD.out, he]; simp [eqS])
          subst he
          go_wp2
          go_quiet (fail)
          go_wp2
          go_roundw
          case rel => exact ⟨k + 1, n + nq, hkl, by go_num, HE.out, by rw [HW.out, drewN_two]⟩
          case measure => simp [intOf]; omega
        · have d : (s1.toList == s2.toList) = false := by rw [toList_eq]; simpa [eqS] using he
          have HE : Hid (sameS l m = false) := Lib.hid (by rw [← HALL.out, HD.out]; simp [eqS, he])
          clear he
          go_wp2
          go_quiet (fail)
          go_wp2
          go_ret
          exact ⟨ret_bool (by rw [HE.out]), n + nq, by rw [HW.out, drewN_two]⟩
      · have HE : Hid (sameS l m = true) := Lib.hid (by rw [← HALL.out]; exact all2_end (by omega) (by have := HLEN.out; omega))
        go_wp2
        go_ret
        exact ⟨ret_bool (by rw [HE.out]), n, HW.out⟩
  · have HE : Hid (sameS l m = false) := Lib.hid (all2_len hlen)
    have d0 : ((l.length : Int) != (m.length : Int)) = true := by rw [bne_iff_ne]; omega
    clear hlen
    go_enter Try.func20, Try.ntmps20
    go_wp2
    go_ret
    exact ⟨ret_bool (by rw [HE.out]), 0, rfl⟩
set_option maxRecDepth 20000 in
set_option maxHeartbeats 1000000 in
theorem lNames_any (A1 A2 : Option Addr) (c1 c2 B : Nat) (l m : List ByteArray) (w : World) (h1 : RdS w B A1 l.length l) (h2 : RdS w B A2 m.length m) (hl : l.length ≤ 1000000000) :
    Calls Try.prog 10 #[.slice A1 l.length c1, .slice A2 m.length c2] w fun e w' => e = .returned (.bool (sameS l m)) ∧ ∃ n, w' = w.drewN n := by
  have H1 := Lib.hid h1
  have H2 := Lib.hid h2
  clear h1 h2
  by_cases hlen : l.length = m.length
  · have HLEN := Lib.hid hlen
    have d0 : ((l.length : Int) != (m.length : Int)) = false := by rw [hlen]; simp
    clear hlen
    go_enter Try.func10, Try.ntmps10
    go_wp2
    go_loopw [5] (fun e wr => ∃ k n : Nat, k ≤ l.length ∧ e = .int .i64 k ∧ all2 eqS (l.drop k) (m.drop k) = sameS l m ∧ wr = w.drewN n) (fun e _ => l.length - (intOf e).toNat)
    case atStart => exact ⟨0, 0, Nat.zero_le _, rfl, rfl, rfl⟩
    case round =>
      obtain ⟨k, n, hk, rfl, hall, hwr⟩ := hrel
      have HR1 : Hid (RdS wr B A1 l.length l) := Lib.hid (by rw [hwr]; exact Reads.drewN H1.out n)
      have HR2 : Hid (RdS wr B A2 m.length m) := Lib.hid (by rw [hwr]; exact Reads.drewN H2.out n)
      have HW := Lib.hid hwr
      clear hwr
      have HALL := Lib.hid hall
      clear hall
      by_cases hkl : k < l.length
      · have hkm : k < m.length := by have := HLEN.out; omega
        obtain ⟨ad1, s1, rfl, _, x1, y1⟩ := RdS.at_ HR1.out hkl
        obtain ⟨ad2, s2, rfl, _, x2, y2⟩ := RdS.at_ HR2.out hkm
        have HD := Lib.hid (all2_drop (p := eqS) x1 x2)
        have l1 : (0 : Int) ≤ (k : Int) := by omega
        have l2 : (k : Int) < (l.length : Int) := by omega
        have l3 : (k : Int) < (m.length : Int) := by omega
        clear x1 x2
        by_cases he : s1 = s2
        · have HE : Hid (all2 eqS (l.drop (k + 1)) (m.drop (k + 1)) = sameS l m) := Lib.hid (by rw [← HALL.out, HD.out, he]; simp [eqS])
          subst he
          go_wp2
          go_quiet (fail)
          go_wp2
          go_roundw
          case rel => exact ⟨k + 1, n + nq, hkl, by go_num, HE.out, by rw [HW.out, drewN_two]⟩
          case measure => simp [intOf]; omega
        · have d : (s1.toList == s2.toList) = false := by rw [toList_eq]; simpa [eqS] using he
          have HE : Hid (sameS l m = false) := Lib.hid (by rw [← HALL.out, HD.out]; simp [eqS, he])
          clear he
          go_wp2
          go_quiet (fail)
          go_wp2
          go_ret
          exact ⟨ret_bool (by rw [HE.out]), n + nq, by rw [HW.out, drewN_two]⟩
      · have HE : Hid (sameS l m = true) := Lib.hid (by rw [← HALL.out]; exact all2_end (by omega) (by have := HLEN.out; omega))
        go_wp2
        go_ret
        exact ⟨ret_bool (by rw [HE.out]), n, HW.out⟩
  · have HE : Hid (sameS l m = false) := Lib.hid (all2_len hlen)
    have d0 : ((l.length : Int) != (m.length : Int)) = true := by rw [bne_iff_ne]; omega
    clear hlen
    go_enter Try.func10, Try.ntmps10
    go_wp2
    go_ret
    exact ⟨ret_bool (by rw [HE.out]), 0, rfl⟩
end Go.Proofs.Ytaigfelpecdajaa
