/-
  The walks of what tells a byte's class.
-/
import Derived.Test.YtaigfelpecdajaaChecked
import Derived.Test.YtaigfelpecdajaaLx
import Derived.Test.YtaigfelpecdajaaWords
import Derived.Outline
import Derived.Great.BuildSlice
import Derived.Deep.WholeRow
namespace Go.Proofs.Ytaigfelpecdajaa
open Go.RowKit

def tabCells : Array Value := #[.int .u8 9, .int .u8 10, .int .i64 1, .int .u8 12, .int .u8 13, .int .i64 1, .int .u8 32, .int .u8 32, .int .i64 1, .int .u8 33, .int .u8 33, .int .i64 4, .int .u8 37, .int .u8 38, .int .i64 4, .int .u8 40, .int .u8 41, .int .i64 5, .int .u8 42, .int .u8 45, .int .i64 4, .int .u8 46, .int .u8 46, .int .i64 5, .int .u8 47, .int .u8 47, .int .i64 4, .int .u8 48, .int .u8 57, .int .i64 3, .int .u8 58, .int .u8 59, .int .i64 5, .int .u8 60, .int .u8 64, .int .i64 4, .int .u8 65, .int .u8 90, .int .i64 2, .int .u8 91, .int .u8 91, .int .i64 5, .int .u8 92, .int .u8 92, .int .i64 4, .int .u8 93, .int .u8 94, .int .i64 5, .int .u8 95, .int .u8 95, .int .i64 2, .int .u8 97, .int .u8 122, .int .i64 2, .int .u8 123, .int .u8 125, .int .i64 5, .int .u8 126, .int .u8 126, .int .i64 4]

theorem tab_index (k a b c : Nat) (w : World) (h : Lx.tabC[k]? = some (a, b, c)) :
    (Instr.index 80 (.agg tabCells) (.int .i64 (k : Int))).run Try.prog w = .ok (.agg #[.int .u8 (a : Int), .int .u8 (b : Int), .int .i64 (c : Int)]) w := by
  have hk : k < 20 := by
    rcases Nat.lt_or_ge k 20 with h1 | h1
    · exact h1
    · rw [List.getElem?_eq_none (by simpa [Lx.tabC] using h1)] at h; cases h
  obtain rfl | rfl | rfl | rfl | rfl | rfl | rfl | rfl | rfl | rfl | rfl | rfl | rfl | rfl | rfl | rfl | rfl | rfl | rfl | rfl : k = 0 ∨ k = 1 ∨ k = 2 ∨ k = 3 ∨ k = 4 ∨ k = 5 ∨ k = 6 ∨ k = 7 ∨ k = 8 ∨ k = 9 ∨ k = 10 ∨ k = 11 ∨ k = 12 ∨ k = 13 ∨ k = 14 ∨ k = 15 ∨ k = 16 ∨ k = 17 ∨ k = 18 ∨ k = 19 := by omega
  all_goals
    simp only [Lx.tabC, List.getElem?_cons_zero, List.getElem?_cons_succ, Option.some.injEq, Prod.mk.injEq] at h
    obtain ⟨rfl, rfl, rfl⟩ := h
    rfl
theorem tab_some (k : Nat) (h : k < 20) : ∃ a b c, Lx.tabC[k]? = some (a, b, c) ∧ a < 256 ∧ b < 256 ∧ c < 256 := by
  obtain rfl | rfl | rfl | rfl | rfl | rfl | rfl | rfl | rfl | rfl | rfl | rfl | rfl | rfl | rfl | rfl | rfl | rfl | rfl | rfl : k = 0 ∨ k = 1 ∨ k = 2 ∨ k = 3 ∨ k = 4 ∨ k = 5 ∨ k = 6 ∨ k = 7 ∨ k = 8 ∨ k = 9 ∨ k = 10 ∨ k = 11 ∨ k = 12 ∨ k = 13 ∨ k = 14 ∨ k = 15 ∨ k = 16 ∨ k = 17 ∨ k = 18 ∨ k = 19 := by omega
  all_goals exact ⟨_, _, _, rfl, by decide, by decide, by decide⟩
theorem cls_yes {k a b c : Nat} {x : Nat} (h : Lx.tabC[k]? = some (a, b, c)) (h1 : a ≤ x) (h2 : x ≤ b) : Lx.clsT (Lx.tabC.drop k) x = c := by
  have hk : k < Lx.tabC.length := by
    rcases Nat.lt_or_ge k Lx.tabC.length with h1 | h1
    · exact h1
    · rw [List.getElem?_eq_none h1] at h; cases h
  rw [List.drop_eq_getElem_cons hk]
  rw [List.getElem?_eq_getElem hk] at h
  rw [Option.some.inj h]
  simp only [Lx.clsT, h1, h2, and_self, if_true]
theorem cls_no {k a b c : Nat} {x : Nat} (h : Lx.tabC[k]? = some (a, b, c)) (h1 : ¬ (a ≤ x ∧ x ≤ b)) : Lx.clsT (Lx.tabC.drop (k + 1)) x = Lx.clsT (Lx.tabC.drop k) x := by
  have hk : k < Lx.tabC.length := by
    rcases Nat.lt_or_ge k Lx.tabC.length with h1 | h1
    · exact h1
    · rw [List.getElem?_eq_none h1] at h; cases h
  rw [List.drop_eq_getElem_cons hk]
  rw [List.getElem?_eq_getElem hk] at h
  rw [Option.some.inj h]
  simp only [Lx.clsT, if_neg h1]

set_option maxRecDepth 20000 in
set_option maxHeartbeats 1000000 in
theorem class_any (x : UInt8) (w : World) : Calls Try.prog 41 #[.int .u8 (x.toNat : Int)] w fun e w' => e = .returned (.int .i64 (Lx.cls x)) ∧ Below w.heap.size w w' := by
  have hx : x.toNat < 256 := x.toNat_lt
  go_enter Try.func41, Try.ntmps41
  go_wp2_with (first
    | ((with_reducible refine wpList_store_rowTo rfl 80 (.tmp 3) (.tmp 26) rfl rfl w.heap.size tabCells rfl ?hy 80 _ (heap_alloc_last w _) ?hi ?ho ?h1 ?_); rotate_left 4; rw [World.setRow_alloc_new])
    | ((with_reducible refine wpList_load_row rfl 80 (.tmp 3) rfl w.heap.size rfl 80 tabCells (0, 0) _ (heap_alloc_last w _) Try.underlying80 rfl ?hi2 ?_); rotate_left 1))
  case hy => kernel_rfl
  case hi => kernel_rfl
  case ho => kernel_rfl
  case h1 => kernel_rfl
  case hi2 => kernel_rfl
  go_loopw [28] (fun i wr => ∃ k : Nat, k ≤ 20 ∧ i = .int .i64 k ∧ Lx.clsT (Lx.tabC.drop k) x.toNat = Lx.cls x ∧ Below w.heap.size w wr) (fun i _ => 20 - (intOf i).toNat)
  case atStart => exact ⟨0, Nat.zero_le _, rfl, rfl, (Below.refl _ _).alloc (Nat.le_refl _) _⟩
  case round =>
    obtain ⟨k, hk, rfl, hc, hb⟩ := hrel
    have HC := Lib.hid hc
    have HB := Lib.hid hb
    clear hc hb
    by_cases hlt : k < 20
    · obtain ⟨a, b, c, hT, ha, hb, hc⟩ := tab_some k hlt
      have hidx := fun w => tab_index k a b c w hT
      have HT := Lib.hid hT
      clear hT
      by_cases h1 : a ≤ x.toNat
      · by_cases h2 : x.toNat ≤ b
        · go_wp2
          go_ret
          have := HC.out
          rw [cls_yes HT.out h1 h2] at this
          exact ⟨ret_int (by rw [← this]), (HB.out.alloc HB.out.size _)⟩
        · go_wp2
          go_roundw
          case rel => exact ⟨k + 1, by omega, by go_num, by rw [cls_no HT.out (by omega)]; exact HC.out, (HB.out.alloc HB.out.size _)⟩
          case measure => simp [intOf]; omega
      · go_wp2
        go_roundw
        case rel => exact ⟨k + 1, by omega, by go_num, by rw [cls_no HT.out (by omega)]; exact HC.out, (HB.out.alloc HB.out.size _)⟩
        case measure => simp [intOf]; omega
    · obtain rfl : k = 20 := by omega
      go_wp2
      go_ret
      exact ⟨ret_int (by rw [← HC.out]; rfl), HB.out⟩
end Go.Proofs.Ytaigfelpecdajaa
