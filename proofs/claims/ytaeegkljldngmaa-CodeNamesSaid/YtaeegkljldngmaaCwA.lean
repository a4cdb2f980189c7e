/-
  The law CodeNames f6. No statement of the seat is proved here.
-/
import Derived.Test.YtaeegkljldngmaaCvR
namespace Go.Proofs.Ytaeegkljldngmaa
open Go.RowKit

def nmCells : Array Value := (entL.map fun e => Value.string e.nm).toArray
theorem nm_cell (k : Nat) (h : k < 26) (w : World) : (w.alloc (.cells nmCells 9)).cell? ⟨w.heap.size, k, none⟩ = some (.string (ent k).nm) := by
  rw [(Blk.new w 9 nmCells).cell k]
  have : ∀ k : Fin 26, nmCells[k.1]? = some (.string (ent k.1).nm) := fun k => by
    obtain ⟨k, hk⟩ := k
    unfold nmCells ent
    rw [List.getElem?_toArray, List.getElem?_map, List.getD_eq_getElem?_getD, Int.toNat_natCast]
    rw [List.getElem?_eq_getElem (by show k < 26; exact hk)]
    rfl
  exact this ⟨k, h⟩
set_option maxRecDepth 100000 in
theorem names_any (w : World) : Calls Try.prog 17 #[] w fun e w' => e = .returned (.slice (some ⟨w.heap.size, 0, none⟩) 26 26) ∧ w' = w.alloc (.cells nmCells 9) := by
  go_enter Try.func17, Try.ntmps17
  go_wp2
  go_ret
  exact ⟨rfl, rfl⟩
set_option maxRecDepth 100000 in
set_option maxHeartbeats 4000000 in
theorem codenames_any (op : Int) (w : World) : Calls Try.prog 6 #[.int .i64 op] w (AwP w) := by
  have H14 := Lib.hid awake_any
  have H18 := Lib.hid (Name_any op)
  have H19 := Lib.hid (Size_any op)
  have H20 := Lib.hid (Rsize_any op)
  by_cases h : 1 ≤ op ∧ op ≤ 25
  · obtain ⟨h1, h2⟩ := h
    obtain ⟨k, rfl⟩ : ∃ k : Nat, op = k := ⟨op.toNat, by omega⟩
    have hc := nm_cell k (by omega) w
    have hn : nmO (k : Int) = (ent k).nm := by unfold nmO; rw [if_pos (by omega)]
    rw [hn] at H18
    clear hn
    have H17 := Lib.hid (names_any w)
    generalize szO (k : Int) = z at *
    generalize (ent k).nm = nm at *
    have HA := Lib.hid ((Below.refl w.heap.size w).alloc (Nat.le_refl _) (.cells nmCells 9))
    have e1 : (nm.toList == nm.toList) = true := by simp
    have e2 : (z == z) = true := by simp
    have l1 : (0 : Int) ≤ (k : Int) := by omega
    have l2 : (k : Int) < 26 := by omega
    go_enter Try.func6, Try.ntmps6
    go_upto_region 4 with (go_at_call 17; refine H17.out.mono ?_; rintro e w1 ⟨rfl, rfl⟩)
    generalize w.alloc (.cells nmCells 9) = w1 at *
    clear hc
    go_wp2_with (first | (go_at_call 18; refine (H18.out _).mono ?_; rintro e w2 ⟨rfl, hb2⟩; have HB2 := Lib.hid (HA.out.trans (hb2.mono HA.out.size)); clear hb2) | (go_at_call 19; refine (H19.out _).mono ?_; rintro e w3 ⟨rfl, hb3⟩; have HB3 := Lib.hid (HB2.out.trans (hb3.mono HB2.out.size)); clear hb3) | (go_at_call 20; refine (H20.out _).mono ?_; rintro e w4 ⟨rfl, rfl⟩) | (go_at_call 14; refine (H14.out _).mono ?_; rintro e w5 ⟨rfl, hb5⟩; have HB5 := Lib.hid (HB3.out.trans (hb5.mono HB3.out.size)); clear hb5))
    go_ret
    exact ⟨rfl, HB5.out⟩
  · have hn : nmO op = ⟨#[]⟩ := by unfold nmO; rw [if_neg (by omega)]
    rw [hn] at H18
    clear hn
    generalize szO op = z at *
    have e2 : (z == z) = true := by simp
    have hh : op < 1 ∨ (1 ≤ op ∧ 25 < op) := by omega
    clear h
    rcases hh with h | ⟨h, h'⟩
    all_goals
      go_enter Try.func6, Try.ntmps6
      go_upto_region 4 with fail
      go_wp2_with (first | (go_at_call 18; refine (H18.out _).mono ?_; rintro e w2 ⟨rfl, hb2⟩; have HB2 := Lib.hid hb2; clear hb2) | (go_at_call 19; refine (H19.out _).mono ?_; rintro e w3 ⟨rfl, hb3⟩; have HB3 := Lib.hid (HB2.out.trans (hb3.mono HB2.out.size)); clear hb3) | (go_at_call 20; refine (H20.out _).mono ?_; rintro e w4 ⟨rfl, rfl⟩) | (go_at_call 14; refine (H14.out _).mono ?_; rintro e w5 ⟨rfl, hb5⟩; have HB5 := Lib.hid (HB3.out.trans (hb5.mono HB3.out.size)); clear hb5))
      go_ret
      exact ⟨rfl, HB5.out⟩
end Go.Proofs.Ytaeegkljldngmaa
