/-
  The law's same f12, ints f27, instrs f13. No statement of the seat is proved here.
-/
import Derived.Test.YtaeegkljldngmaaDoorCdK
namespace Go.Proofs.YtaeegkljldngmaaDoor
open Go.RowKit

theorem take_next {α : Type} {l m : List α} {k : Nat} {x : α} (h : l.take k = m.take k) (hl : l[k]? = some x) (hm : m[k]? = some x) : l.take (k + 1) = m.take (k + 1) := by
  rw [List.take_add_one, List.take_add_one, h, hl, hm]
def SameP (b : Bool) (w : World) (e : Ending) (w' : World) : Prop := e = .returned (.bool b) ∧ ∃ m, w' = w.drewN m
theorem SameP.below {b : Bool} {w w' : World} {e : Ending} (h : SameP b w e w') : Below w.heap.size w w' := by
  obtain ⟨m, rfl⟩ := h.2
  exact below_drewN (Below.refl _ _) m
theorem SameP.mk' {b c : Bool} {w : World} {m : Nat} (h : c = b) : SameP b w (.returned (.bool c)) (w.drewN m) := by
  subst h
  exact ⟨rfl, m, rfl⟩
set_option maxRecDepth 20000 in
set_option maxHeartbeats 2000000 in
theorem same_any (A A' : Option Addr) (n n' c c' B B' : Nat) (bs bs' : List UInt8) (w : World) (h : RdB w B A n bs) (h' : RdB w B' A' n' bs') (hn : n ≤ 9223372036854775807) :
    Calls Tryd.prog 10 #[.slice A n c, .slice A' n' c'] w (SameP (decide (bs = bs')) w) := by
  have hl := h.len1
  have hl' := h'.len1
  by_cases hne : n = n'
  · subst hne
    have H := Lib.hid h
    have H' := Lib.hid h'
    have HL := Lib.hid hl
    have HL' := Lib.hid hl'
    clear hl hl' h h'
    go_enter Tryd.func10, Tryd.ntmps10
    go_wp2
    go_loopw [5] (fun i wr => ∃ k m : Nat, k ≤ n ∧ i = .int .i64 k ∧ wr = w.drewN m ∧ Hid (bs.take k = bs'.take k)) (fun i _ => n - (intOf i).toNat)
    case atStart => exact ⟨0, 0, Nat.zero_le _, rfl, rfl, Lib.hid rfl⟩
    case round =>
      obtain ⟨k, m, hk, rfl, rfl, HT⟩ := hrel
      by_cases hlt : k < n
      · obtain ⟨b1, o1, rfl, _, c1⟩ := byte_at H.out hlt
        obtain ⟨b2, o2, rfl, _, c2⟩ := byte_at H'.out hlt
        have l1 : (0 : Int) ≤ (k : Int) := by omega
        have l2 : (k : Int) < (n : Int) := by omega
        have g1 : bs[k]? = some (bs.getD k 0) := by
          rw [List.getD_eq_getElem?_getD, List.getElem?_eq_getElem (by have := HL.out; omega)]
          rfl
        have g2 : bs'[k]? = some (bs'.getD k 0) := by
          rw [List.getD_eq_getElem?_getD, List.getElem?_eq_getElem (by have := HL'.out; omega)]
          rfl
        have G1 := Lib.hid g1
        have G2 := Lib.hid g2
        unfold bAt at c1 c2
        clear g1 g2
        generalize bs.getD k 0 = x at *
        generalize bs'.getD k 0 = y at *
        by_cases hxy : x = y
        · have HT2 := Lib.hid (take_next HT.out G1.out (by rw [hxy]; exact G2.out))
          have d : ((x.toNat : Int) != (y.toNat : Int)) = false := by rw [hxy]; simp
          clear hxy
          go_wp2
          go_quiet (fail)
          go_wp2
          go_roundw
          case rel => exact ⟨k + 1, _, by omega, by go_num, by simp [World.drewN]; rfl, HT2⟩
          case measure => simp [intOf]; omega
        · have HF : Hid (false = decide (bs = bs')) := Lib.hid (by
            symm
            rw [decide_eq_false_iff_not]
            intro e
            have := G1.out
            rw [e, G2.out] at this
            injection this with this
            exact hxy this.symm)
          have d : ((x.toNat : Int) != (y.toNat : Int)) = true := by
            rw [bne_iff_ne]
            intro e
            exact hxy (UInt8.toNat_inj.1 (by omega))
          clear hxy
          go_wp2
          go_quiet (fail)
          go_wp2
          go_ret
          rw [show (w.drewN m).drewN _ = w.drewN (m + _) from by simp [World.drewN, Nat.add_assoc]; rfl]
          exact SameP.mk' HF.out
      · have HF : Hid (true = decide (bs = bs')) := Lib.hid (by
          symm
          rw [decide_eq_true_eq]
          have := HT.out
          rw [List.take_of_length_le (by have := HL.out; omega), List.take_of_length_le (by have := HL'.out; omega)] at this
          exact this)
        go_wp2
        go_ret
        exact SameP.mk' HF.out
  · have HF : Hid (false = decide (bs = bs')) := Lib.hid (by
      symm
      rw [decide_eq_false_iff_not]
      intro e
      rw [e] at hl
      omega)
    have d : ((n : Int) != (n' : Int)) = true := by rw [bne_iff_ne]; omega
    clear h h' hl hl'
    go_enter Tryd.func10, Tryd.ntmps10
    go_wp2
    go_ret
    exact SameP.mk' (m := 0) HF.out
end Go.Proofs.YtaeegkljldngmaaDoor
