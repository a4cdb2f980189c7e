/-
  The law's same f12, ints f27, instrs f13. No statement of the seat is proved here.
-/
import Derived.Test.YtaeegkljldngmaaCdK
namespace Go.Proofs.Ytaeegkljldngmaa
open Go.RowKit

theorem take_next {α : Type} {l m : List α} {k : Nat} {x : α} (h : l.take k = m.take k) (hl : l[k]? = some x) (hm : m[k]? = some x) : l.take (k + 1) = m.take (k + 1) := by
  rw [List.take_add_one, List.take_add_one, h, hl, hm]
def SameP (b : Bool) (w : World) (e : Ending) (w' : World) : Prop := e = .returned (.bool b) ∧ ∃ m, w' = w.drewN m
theorem SameP.below {b : Bool} {w w' : World} {e : Ending} (h : SameP b w e w') : Below w.heap.size w w' := by
  obtain ⟨m, rfl⟩ := h.2
  exact below_drewN (Below.refl _ _) m
theorem SameP.mk' {b c : Bool} {w : World} {m : Nat} (h : c = b) : SameP b w (.returned (.bool c)) (w.drewN m) := by
  subst h
  exact ⟨rfl, m, rfl⟩
set_option maxRecDepth 20000 in
set_option maxHeartbeats 2000000 in
theorem same_any (A A' : Option Addr) (n n' c c' B B' : Nat) (bs bs' : List UInt8) (w : World) (h : RdB w B A n bs) (h' : RdB w B' A' n' bs') (hn : n ≤ 9223372036854775807) :
    Calls Try.prog 12 #[.slice A n c, .slice A' n' c'] w (SameP (decide (bs = bs')) w) := by
  have hl := h.len1
  have hl' := h'.len1
  by_cases hne : n = n'
  · subst hne
    have H := Lib.hid h
    have H' := Lib.hid h'
    have HL := Lib.hid hl
    have HL' := Lib.hid hl'
    clear hl hl' h h'
    go_enter Try.func12, Try.ntmps12
    go_wp2
    go_loopw [5] (fun i wr => ∃ k m : Nat, k ≤ n ∧ i = .int .i64 k ∧ wr = w.drewN m ∧ Hid (bs.take k = bs'.take k)) (fun i _ => n - (intOf i).toNat)
    case atStart => exact ⟨0, 0, Nat.zero_le _, rfl, rfl, Lib.hid rfl⟩
    case round =>
      obtain ⟨k, m, hk, rfl, rfl, HT⟩ := hrel
      by_cases hlt : k < n
      · obtain ⟨b1, o1, rfl, _, c1⟩ := byte_at H.out hlt
        obtain ⟨b2, o2, rfl, _, c2⟩ := byte_at H'.out hlt
        have l1 : (0 : Int) ≤ (k : Int) := by omega
        have l2 : (k : Int) < (n : Int) := by omega
        have g1 : bs[k]? = some (bs.getD k 0) := by
          rw [List.getD_eq_getElem?_getD, List.getElem?_eq_getElem (by have := HL.out; omega)]
          rfl
        have g2 : bs'[k]? = some (bs'.getD k 0) := by
          rw [List.getD_eq_getElem?_getD, List.getElem?_eq_getElem (by have := HL'.out; omega)]
          rfl
        have G1 := Lib.hid g1
        have G2 := Lib.hid g2
        unfold bAt at c1 c2
        clear g1 g2
        generalize bs.getD k 0 = x at *
        generalize bs'.getD k 0 = y at *
        by_cases hxy : x = y
        · have HT2 := Lib.hid (take_next HT.out G1.out (by rw [hxy]; exact G2.out))
          have d : ((x.toNat : Int) != (y.toNat : Int)) = false := by rw [hxy]; simp
          clear hxy
          go_wp2
          go_quiet (fail)
          go_wp2
          go_roundw
          case rel => exact ⟨k + 1, _, by omega, by go_num, by simp [World.drewN]; rfl, HT2⟩
          case measure => simp [intOf]; omega
        · have HF : Hid (false = decide (bs = bs')) := Lib.hid (by
            symm
            rw [decide_eq_false_iff_not]
            intro e
            have := G1.out
            rw [e, G2.out] at this
            injection this with this
            exact hxy this.symm)
          have d : ((x.toNat : Int) != (y.toNat : Int)) = true := by
            rw [bne_iff_ne]
            intro e
            exact hxy (UInt8.toNat_inj.1 (by omega))
          clear hxy
          go_wp2
          go_quiet (fail)
          go_wp2
          go_ret
          rw [show (w.drewN m).drewN _ = w.drewN (m + _) from by simp [World.drewN, Nat.add_assoc]; rfl]
          exact SameP.mk' HF.out
      · have HF : Hid (true = decide (bs = bs')) := Lib.hid (by
          symm
          rw [decide_eq_true_eq]
          have := HT.out
          rw [List.take_of_length_le (by have := HL.out; omega), List.take_of_length_le (by have := HL'.out; omega)] at this
          exact this)
        go_wp2
        go_ret
        exact SameP.mk' HF.out
  · have HF : Hid (false = decide (bs = bs')) := Lib.hid (by
      symm
      rw [decide_eq_false_iff_not]
      intro e
      rw [e] at hl
      omega)
    have d : ((n : Int) != (n' : Int)) = true := by rw [bne_iff_ne]; omega
    clear h h' hl hl'
    go_enter Try.func12, Try.ntmps12
    go_wp2
    go_ret
    exact SameP.mk' (m := 0) HF.out
theorem int_at2 {w : World} {B n : Nat} {A : Option Addr} {zs : List Int} (h : Reads w B 1 A n (zs.map iv)) {k : Nat} (hk : k < n) : ∃ b o, A = some ⟨b, o, none⟩ ∧ b < B ∧ w.cell? ⟨b, o + k, none⟩ = some (.int .i64 (zs.getD k 0)) := by
  obtain ⟨⟨b, off, spot⟩, u, e, hb, hx, hc⟩ := Reads.at_ h hk
  have hspot : spot = none := by
    obtain ⟨ad0, u0, e0, _, _, hc0⟩ := Reads.at_ h (k := 0) (by omega)
    rw [e] at e0
    injection e0 with e0
    subst e0
    simpa [Addr.add] using World.cell?_spot hc0
  subst hspot
  refine ⟨b, off, e, hb, ?_⟩
  have e2 : (⟨b, off, none⟩ : Addr).add k = ⟨b, off + k, none⟩ := by unfold Addr.add; split <;> simp_all
  rw [← e2, hc, List.getD_eq_getElem?_getD]
  rw [List.getElem?_map] at hx
  cases hz : zs[k]? with
  | none => rw [hz] at hx; cases hx
  | some z => rw [hz] at hx; injection hx with hx; rw [← hx]; rfl
set_option maxRecDepth 20000 in
set_option maxHeartbeats 2000000 in
theorem ints_any (A A' : Option Addr) (n n' c c' B B' : Nat) (bs bs' : List Int) (w : World) (h : Reads w B 1 A n (bs.map iv)) (h' : Reads w B' 1 A' n' (bs'.map iv)) (hn : n ≤ 9223372036854775807) :
    Calls Try.prog 27 #[.slice A n c, .slice A' n' c'] w (SameP (decide (bs = bs')) w) := by
  have hl : bs.length = n := by simpa using h.1
  have hl' : bs'.length = n' := by simpa using h'.1
  by_cases hne : n = n'
  · subst hne
    have H := Lib.hid h
    have H' := Lib.hid h'
    have HL := Lib.hid hl
    have HL' := Lib.hid hl'
    clear hl hl' h h'
    go_enter Try.func27, Try.ntmps27
    go_wp2
    go_loopw [5] (fun i wr => ∃ k m : Nat, k ≤ n ∧ i = .int .i64 k ∧ wr = w.drewN m ∧ Hid (bs.take k = bs'.take k)) (fun i _ => n - (intOf i).toNat)
    case atStart => exact ⟨0, 0, Nat.zero_le _, rfl, rfl, Lib.hid rfl⟩
    case round =>
      obtain ⟨k, m, hk, rfl, rfl, HT⟩ := hrel
      by_cases hlt : k < n
      · obtain ⟨b1, o1, rfl, _, c1⟩ := int_at2 H.out hlt
        obtain ⟨b2, o2, rfl, _, c2⟩ := int_at2 H'.out hlt
        have l1 : (0 : Int) ≤ (k : Int) := by omega
        have l2 : (k : Int) < (n : Int) := by omega
        have g1 : bs[k]? = some (bs.getD k 0) := by
          rw [List.getD_eq_getElem?_getD, List.getElem?_eq_getElem (by have := HL.out; omega)]
          rfl
        have g2 : bs'[k]? = some (bs'.getD k 0) := by
          rw [List.getD_eq_getElem?_getD, List.getElem?_eq_getElem (by have := HL'.out; omega)]
          rfl
        have G1 := Lib.hid g1
        have G2 := Lib.hid g2
        clear g1 g2
        generalize bs.getD k 0 = x at *
        generalize bs'.getD k 0 = y at *
        by_cases hxy : x = y
        · have HT2 := Lib.hid (take_next HT.out G1.out (by rw [hxy]; exact G2.out))
          have d : (x != y) = false := by rw [hxy]; simp
          clear hxy
          go_wp2
          go_quiet (fail)
          go_wp2
          go_roundw
          case rel => exact ⟨k + 1, _, by omega, by go_num, by simp [World.drewN]; rfl, HT2⟩
          case measure => simp [intOf]; omega
        · have HF : Hid (false = decide (bs = bs')) := Lib.hid (by
            symm
            rw [decide_eq_false_iff_not]
            intro e
            have := G1.out
            rw [e, G2.out] at this
            injection this with this
            exact hxy this.symm)
          have d : (x != y) = true := by
            rw [bne_iff_ne]
            exact hxy
          clear hxy
          go_wp2
          go_quiet (fail)
          go_wp2
          go_ret
          rw [show (w.drewN m).drewN _ = w.drewN (m + _) from by simp [World.drewN, Nat.add_assoc]; rfl]
          exact SameP.mk' HF.out
      · have HF : Hid (true = decide (bs = bs')) := Lib.hid (by
          symm
          rw [decide_eq_true_eq]
          have := HT.out
          rw [List.take_of_length_le (by have := HL.out; omega), List.take_of_length_le (by have := HL'.out; omega)] at this
          exact this)
        go_wp2
        go_ret
        exact SameP.mk' HF.out
  · have HF : Hid (false = decide (bs = bs')) := Lib.hid (by
      symm
      rw [decide_eq_false_iff_not]
      intro e
      rw [e] at hl
      omega)
    have d : ((n : Int) != (n' : Int)) = true := by rw [bne_iff_ne]; omega
    clear h h' hl hl'
    go_enter Try.func27, Try.ntmps27
    go_wp2
    go_ret
    exact SameP.mk' (m := 0) HF.out
end Go.Proofs.Ytaeegkljldngmaa
