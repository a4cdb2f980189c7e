/-
  The walks of decimal and of what it calls.
-/
import Derived.Test.YtaigfelpecdajaaLexB
import Derived.Lib.ConvBytes
import Derived.Lib.SmallJoins
import Derived.RegionTactic
import Derived.BigRegion
namespace Go.Proofs.Ytaigfelpecdajaa
open Go.RowKit

set_option maxRecDepth 20000 in
theorem cap_any (x : UInt8) (w : World) : Calls Try.prog 60 #[.int .u8 (x.toNat : Int)] w fun e w' => e = .returned (.bool (Lx.capB x)) ∧ w = w' := by
  have h1 := x.toNat_lt
  by_cases h2 : 65 ≤ x.toNat
  · have h3 : (65 : Int) ≤ (x.toNat : Int) := by omega
    have HE : Hid (Lx.capB x = decide ((x.toNat : Int) ≤ 90)) := Lib.hid (by unfold Lx.capB; rw [Bool.eq_iff_iff]; simp; omega)
    go_enter Try.func60, Try.ntmps60
    go_wp2
    go_ret
    exact ⟨ret_bool (by rw [HE.out]), rfl⟩
  · have h3 : ¬ (65 : Int) ≤ (x.toNat : Int) := by omega
    have HE : Hid (Lx.capB x = false) := Lib.hid (by unfold Lx.capB; simp; omega)
    go_enter Try.func60, Try.ntmps60
    go_wp2
    go_ret
    exact ⟨ret_bool (by rw [HE.out]), rfl⟩

/-! ## A row of bytes of the call's own, turned about -/
/-- behind k exchanges from both ends -/
def revK (bs : List UInt8) (k : Nat) : List UInt8 := (List.range bs.length).map fun i => if i < k ∨ bs.length - k ≤ i then bs.getD (bs.length - 1 - i) 0 else bs.getD i 0
theorem revK_len (bs : List UInt8) (k : Nat) : (revK bs k).length = bs.length := by simp [revK]
theorem revK_get (bs : List UInt8) (k i : Nat) (h : i < bs.length) : (revK bs k)[i]? = some (if i < k ∨ bs.length - k ≤ i then bs.getD (bs.length - 1 - i) 0 else bs.getD i 0) := by
  simp [revK, h]
theorem getD_get (bs : List UInt8) (i : Nat) (h : i < bs.length) : bs[i]? = some (bs.getD i 0) := by
  rw [List.getD, List.getElem?_eq_getElem h]; rfl
theorem revK_zero (bs : List UInt8) : revK bs 0 = bs := by
  apply List.ext_getElem?
  intro i
  rcases Nat.lt_or_ge i bs.length with h | h
  · rw [revK_get bs 0 i h, if_neg (by omega), getD_get bs i h]
  · rw [List.getElem?_eq_none (by rw [revK_len]; exact h), List.getElem?_eq_none h]
theorem revK_all (bs : List UInt8) (k : Nat) (h : bs.length ≤ 2 * k + 1) (hk : k ≤ bs.length) : revK bs k = bs.reverse := by
  apply List.ext_getElem?
  intro i
  rcases Nat.lt_or_ge i bs.length with h1 | h1
  · rw [revK_get bs k i h1, List.getElem?_reverse h1, getD_get bs _ (by omega)]
    split
    · rfl
    · have : bs.length - 1 - i = i := by omega
      rw [this]
  · rw [List.getElem?_eq_none (by rw [revK_len]; exact h1), List.getElem?_eq_none (by simpa using h1)]
theorem revK_step (bs : List UInt8) (k : Nat) (h : 2 * k + 1 < bs.length) :
    ((revK bs k).set k ((revK bs k).getD (bs.length - 1 - k) 0)).set (bs.length - 1 - k) ((revK bs k).getD k 0) = revK bs (k + 1) := by
  have g1 : (revK bs k).getD (bs.length - 1 - k) 0 = bs.getD (bs.length - 1 - k) 0 := by
    rw [List.getD, revK_get bs k _ (by omega), if_neg (by omega)]; rfl
  have g2 : (revK bs k).getD k 0 = bs.getD k 0 := by
    rw [List.getD, revK_get bs k _ (by omega), if_neg (by omega)]; rfl
  rw [g1, g2]
  apply List.ext_getElem?
  intro i
  rcases Nat.lt_or_ge i bs.length with h1 | h1
  · rw [List.getElem?_set, List.getElem?_set, revK_get bs k i h1, revK_get bs (k + 1) i h1]
    simp only [List.length_set, revK_len]
    by_cases e1 : bs.length - 1 - k = i
    · subst e1
      rw [if_pos rfl, if_pos (by omega), if_pos (by omega)]
      have : bs.length - 1 - (bs.length - 1 - k) = k := by omega
      rw [this]
    · rw [if_neg e1]
      by_cases e2 : k = i
      · subst e2
        rw [if_pos rfl, if_pos (by omega), if_pos (by omega)]
      · rw [if_neg e2]
        by_cases e3 : i < k ∨ bs.length - k ≤ i
        · rw [if_pos e3, if_pos (by omega)]
        · rw [if_neg e3, if_neg (by omega)]
  · rw [List.getElem?_eq_none (by simp [revK_len]; omega), List.getElem?_eq_none (by rw [revK_len]; exact h1)]

theorem map_set_bv (bs : List UInt8) (i : Nat) (x : UInt8) : (bs.set i x).map bv = (bs.map bv).set i (bv x) := by
  simp
theorem OwnB.stored {w : World} {base g c : Nat} {bs : List UInt8} (h : OwnB 5 w base (.slice (some ⟨g, 0, none⟩) bs.length c) bs) (i : Nat) (x : UInt8) :
    OwnB 5 (w.setCell ⟨g, i, none⟩ (bv x)) base (.slice (some ⟨g, 0, none⟩) (bs.set i x).length c) (bs.set i x) := by
  have h1 := (World.ownsRow.stored h i (bv x)).1
  show World.ownsRow _ _ _ _ _ (bs.set i x).length ((bs.set i x).map bv)
  rw [map_set_bv, List.length_set]
  exact h1
theorem OwnB.at_ {w : World} {base g c : Nat} {bs : List UInt8} (h : OwnB 5 w base (.slice (some ⟨g, 0, none⟩) bs.length c) bs) {i : Nat} (hi : i < bs.length) :
    w.cell? ⟨g, i, none⟩ = some (.int .u8 ((bs.getD i 0).toNat : Int)) ∧ w.frozen? ⟨g, i, none⟩ = false := by
  refine ⟨?_, World.ownsRow.frozenAt h i⟩
  rw [World.ownsRow.cellAt h i (by omega), List.getElem?_map, getD_get bs i hi]
  rfl
theorem rev_store {w : World} {base g c k m : Nat} {bs : List UInt8} (h : OwnB 5 w base (.slice (some ⟨g, 0, none⟩) bs.length c) (revK bs k)) (hm : m + k + 1 = bs.length) (hk : k < m) :
    OwnB 5 ((w.setCell ⟨g, k, none⟩ (.int .u8 (((revK bs k).getD m 0).toNat : Int))).setCell ⟨g, m, none⟩ (.int .u8 (((revK bs k).getD k 0).toNat : Int))) base (.slice (some ⟨g, 0, none⟩) bs.length c) (revK bs (k + 1)) := by
  have h0 : OwnB 5 w base (.slice (some ⟨g, 0, none⟩) (revK bs k).length c) (revK bs k) := by rw [revK_len]; exact h
  have h2 := OwnB.stored (OwnB.stored h0 k ((revK bs k).getD m 0)) m ((revK bs k).getD k 0)
  have hs := revK_step bs k (by omega)
  have e : bs.length - 1 - k = m := by omega
  rw [e] at hs
  rw [hs, revK_len] at h2
  exact h2
set_option maxRecDepth 20000 in
set_option maxHeartbeats 2000000 in
theorem rev_any (base g c : Nat) (bs : List UInt8) (w : World) (h : OwnB 5 w base (.slice (some ⟨g, 0, none⟩) bs.length c) bs) (h0 : 0 < bs.length) (hl : bs.length ≤ 1000000) :
    Calls Try.prog 63 #[.slice (some ⟨g, 0, none⟩) bs.length c] w fun e w' => e = .returned (.tuple #[]) ∧ OwnB 5 w' base (.slice (some ⟨g, 0, none⟩) bs.length c) bs.reverse ∧ w.grownBy w' (some g) := by
  have H := Lib.hid h
  clear h
  go_enter Try.func63, Try.ntmps63
  go_wp2
  go_loopw [2, 3] (fun i j wr => ∃ k m : Nat, i = .int .i64 k ∧ j = .int .i64 m ∧ m + k + 1 = bs.length ∧ k ≤ m + 1 ∧ OwnB 5 wr base (.slice (some ⟨g, 0, none⟩) bs.length c) (revK bs k) ∧ w.grownBy wr (some g)) (fun i _ _ => bs.length - (intOf i).toNat)
  case atStart => exact ⟨0, bs.length - 1, rfl, by rw [show ((bs.length - 1 : Nat) : Int) = (bs.length : Int) - 1 from by omega], by omega, by omega, by rw [revK_zero]; exact H.out, World.grownBy.refl _ _⟩
  case round =>
    obtain ⟨k, m, rfl, rfl, hm, hk, hown, hgr⟩ := hrel
    have HO := Lib.hid hown
    have HG := Lib.hid hgr
    have hO2 : OwnB 5 wr base (.slice (some ⟨g, 0, none⟩) (revK bs k).length c) (revK bs k) := by rw [revK_len]; exact hown
    have HM := Lib.hid hm
    by_cases hlt : k < m
    · obtain ⟨c1, f1⟩ := hO2.at_ (i := k) (by rw [revK_len]; omega)
      obtain ⟨c2, f2⟩ := hO2.at_ (i := m) (by rw [revK_len]; omega)
      have l1 : k < bs.length := by omega
      have l2 : m < bs.length := by omega
      have HS := Lib.hid (rev_store hown hm hlt)
      clear hown hgr hO2 hm
      go_wp2
      go_region
      all_goals
        go_wp2
        go_roundw
        case rel => exact ⟨k + 1, m - 1, by go_num, by rw [show ((m - 1 : Nat) : Int) = (m : Int) - 1 from by omega], by have := HM.out; omega, by omega, HS.out, only_drew (only_setCell (p := ⟨g, m, none⟩) (only_setCell (p := ⟨g, k, none⟩) HG.out (.inl rfl) _) (.inl rfl) _)⟩
        case measure => simp [intOf]; omega
    · have HE : Hid (revK bs k = bs.reverse) := Lib.hid (revK_all bs k (by omega) (by omega))
      clear hown hgr hO2 hm
      go_wp2
      go_end0
      exact ⟨rfl, by rw [← HE.out]; exact HO.out, HG.out⟩
end Go.Proofs.Ytaigfelpecdajaa
