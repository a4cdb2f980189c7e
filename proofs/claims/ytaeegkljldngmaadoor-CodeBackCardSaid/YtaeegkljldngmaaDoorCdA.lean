/-
  The table of the opcodes; the walk of ops f30. No statement of the seat is proved here.
-/
import Derived.Test.YtaeegkljldngmaaDoorWords
import Derived.Test.YtaeegkljldngmaaDoorChecked
import Derived.BigQuiet
import Derived.Deep.QuietTactic
import Derived.Deep.DeepCutAuto
import Derived.Deep.CutBlock
import Derived.Deep.RegionHeld3
import Derived.Deep.RegionLaw
import Derived.Deep.AppendLies
import Derived.RegionTactic
import Derived.Outline
import Derived.Deep.Onto
import Derived.Lib.Hide
import Derived.Great.BuildSlice
import Derived.Deep.WholeRow
namespace Go.Proofs.YtaeegkljldngmaaDoor
open Go.RowKit

structure En where
  nm : ByteArray
  has : Int
  take : Int
  put : Int
  ends : Bool
def entL : List En := [⟨⟨#[]⟩, 0, 0, 0, false⟩,
  ⟨⟨#[115, 101, 108, 102]⟩, 0, 0, 1, false⟩,
  ⟨⟨#[110, 105, 108]⟩, 0, 0, 1, false⟩,
  ⟨⟨#[116, 114, 117, 101]⟩, 0, 0, 1, false⟩,
  ⟨⟨#[102, 97, 108, 115, 101]⟩, 0, 0, 1, false⟩,
  ⟨⟨#[116, 104, 105, 115, 67, 111, 110, 116, 101, 120, 116]⟩, 0, 0, 1, false⟩,
  ⟨⟨#[108, 105, 116, 101, 114, 97, 108]⟩, 1, 0, 1, false⟩,
  ⟨⟨#[105, 110, 116]⟩, 8, 0, 1, false⟩,
  ⟨⟨#[102, 105, 101, 108, 100]⟩, 1, 0, 1, false⟩,
  ⟨⟨#[116, 101, 109, 112]⟩, 3, 0, 1, false⟩,
  ⟨⟨#[103, 108, 111, 98, 97, 108]⟩, 1, 0, 1, false⟩,
  ⟨⟨#[115, 101, 116, 70, 105, 101, 108, 100]⟩, 1, 1, 1, false⟩,
  ⟨⟨#[115, 101, 116, 84, 101, 109, 112]⟩, 3, 1, 1, false⟩,
  ⟨⟨#[115, 101, 116, 71, 108, 111, 98, 97, 108]⟩, 1, 1, 1, false⟩,
  ⟨⟨#[112, 111, 112]⟩, 0, 1, 0, false⟩,
  ⟨⟨#[100, 117, 112]⟩, 0, 1, 2, false⟩,
  ⟨⟨#[115, 101, 110, 100]⟩, 3, 1, 1, false⟩,
  ⟨⟨#[115, 117, 112, 101, 114]⟩, 3, 1, 1, false⟩,
  ⟨⟨#[106, 117, 109, 112]⟩, 8, 0, 0, true⟩,
  ⟨⟨#[106, 117, 109, 112, 84, 114, 117, 101]⟩, 8, 1, 0, false⟩,
  ⟨⟨#[106, 117, 109, 112, 70, 97, 108, 115, 101]⟩, 8, 1, 0, false⟩,
  ⟨⟨#[114, 101, 116, 117, 114, 110]⟩, 0, 1, 0, true⟩,
  ⟨⟨#[114, 101, 116, 117, 114, 110, 83, 101, 108, 102]⟩, 0, 0, 0, true⟩,
  ⟨⟨#[98, 108, 111, 99, 107, 82, 101, 116, 117, 114, 110]⟩, 0, 1, 0, true⟩,
  ⟨⟨#[98, 108, 111, 99, 107]⟩, 15, 0, 1, false⟩,
  ⟨⟨#[97, 114, 114, 97, 121]⟩, 1, 0, 1, false⟩]
def En.zero : En := ⟨⟨#[]⟩, 0, 0, 0, false⟩
def ent (op : Int) : En := entL.getD op.toNat En.zero
def En.val (e : En) : Value := .agg #[.string e.nm, .int .i64 e.has, .int .i64 e.take, .int .i64 e.put, .bool e.ends]
def entCells : Array Value := #[.string ⟨#[]⟩, .int .i64 0, .int .i64 0, .int .i64 0, .bool false, .string ⟨#[115, 101, 108, 102]⟩, .int .i64 0, .int .i64 0, .int .i64 1, .bool false, .string ⟨#[110, 105, 108]⟩, .int .i64 0, .int .i64 0, .int .i64 1, .bool false, .string ⟨#[116, 114, 117, 101]⟩, .int .i64 0, .int .i64 0, .int .i64 1, .bool false, .string ⟨#[102, 97, 108, 115, 101]⟩, .int .i64 0, .int .i64 0, .int .i64 1, .bool false, .string ⟨#[116, 104, 105, 115, 67, 111, 110, 116, 101, 120, 116]⟩, .int .i64 0, .int .i64 0, .int .i64 1, .bool false, .string ⟨#[108, 105, 116, 101, 114, 97, 108]⟩, .int .i64 1, .int .i64 0, .int .i64 1, .bool false, .string ⟨#[105, 110, 116]⟩, .int .i64 8, .int .i64 0, .int .i64 1, .bool false, .string ⟨#[102, 105, 101, 108, 100]⟩, .int .i64 1, .int .i64 0, .int .i64 1, .bool false, .string ⟨#[116, 101, 109, 112]⟩, .int .i64 3, .int .i64 0, .int .i64 1, .bool false, .string ⟨#[103, 108, 111, 98, 97, 108]⟩, .int .i64 1, .int .i64 0, .int .i64 1, .bool false, .string ⟨#[115, 101, 116, 70, 105, 101, 108, 100]⟩, .int .i64 1, .int .i64 1, .int .i64 1, .bool false, .string ⟨#[115, 101, 116, 84, 101, 109, 112]⟩, .int .i64 3, .int .i64 1, .int .i64 1, .bool false, .string ⟨#[115, 101, 116, 71, 108, 111, 98, 97, 108]⟩, .int .i64 1, .int .i64 1, .int .i64 1, .bool false, .string ⟨#[112, 111, 112]⟩, .int .i64 0, .int .i64 1, .int .i64 0, .bool false, .string ⟨#[100, 117, 112]⟩, .int .i64 0, .int .i64 1, .int .i64 2, .bool false, .string ⟨#[115, 101, 110, 100]⟩, .int .i64 3, .int .i64 1, .int .i64 1, .bool false, .string ⟨#[115, 117, 112, 101, 114]⟩, .int .i64 3, .int .i64 1, .int .i64 1, .bool false, .string ⟨#[106, 117, 109, 112]⟩, .int .i64 8, .int .i64 0, .int .i64 0, .bool true, .string ⟨#[106, 117, 109, 112, 84, 114, 117, 101]⟩, .int .i64 8, .int .i64 1, .int .i64 0, .bool false, .string ⟨#[106, 117, 109, 112, 70, 97, 108, 115, 101]⟩, .int .i64 8, .int .i64 1, .int .i64 0, .bool false, .string ⟨#[114, 101, 116, 117, 114, 110]⟩, .int .i64 0, .int .i64 1, .int .i64 0, .bool true, .string ⟨#[114, 101, 116, 117, 114, 110, 83, 101, 108, 102]⟩, .int .i64 0, .int .i64 0, .int .i64 0, .bool true, .string ⟨#[98, 108, 111, 99, 107, 82, 101, 116, 117, 114, 110]⟩, .int .i64 0, .int .i64 1, .int .i64 0, .bool true, .string ⟨#[98, 108, 111, 99, 107]⟩, .int .i64 15, .int .i64 0, .int .i64 1, .bool false, .string ⟨#[97, 114, 114, 97, 121]⟩, .int .i64 1, .int .i64 0, .int .i64 1, .bool false]
set_option maxRecDepth 100000 in
theorem ent_cells (k : Nat) (h : k < 26) : entCells[k * 5]? = some (.string (ent k).nm) ∧ entCells[k * 5 + 1]? = some (.int .i64 (ent k).has) ∧ entCells[k * 5 + 2]? = some (.int .i64 (ent k).take) ∧ entCells[k * 5 + 3]? = some (.int .i64 (ent k).put) ∧ entCells[k * 5 + 4]? = some (.bool (ent k).ends) := by
  obtain rfl | rfl | rfl | rfl | rfl | rfl | rfl | rfl | rfl | rfl | rfl | rfl | rfl | rfl | rfl | rfl | rfl | rfl | rfl | rfl | rfl | rfl | rfl | rfl | rfl | rfl : k = 0 ∨ k = 1 ∨ k = 2 ∨ k = 3 ∨ k = 4 ∨ k = 5 ∨ k = 6 ∨ k = 7 ∨ k = 8 ∨ k = 9 ∨ k = 10 ∨ k = 11 ∨ k = 12 ∨ k = 13 ∨ k = 14 ∨ k = 15 ∨ k = 16 ∨ k = 17 ∨ k = 18 ∨ k = 19 ∨ k = 20 ∨ k = 21 ∨ k = 22 ∨ k = 23 ∨ k = 24 ∨ k = 25 := by omega
  all_goals exact ⟨rfl, rfl, rfl, rfl, rfl⟩
def zC : Array Value := #[.string ⟨#[]⟩, .int .i64 0, .int .i64 0, .int .i64 0, .bool false, .string ⟨#[]⟩, .int .i64 0, .int .i64 0, .int .i64 0, .bool false, .string ⟨#[]⟩, .int .i64 0, .int .i64 0, .int .i64 0, .bool false, .string ⟨#[]⟩, .int .i64 0, .int .i64 0, .int .i64 0, .bool false, .string ⟨#[]⟩, .int .i64 0, .int .i64 0, .int .i64 0, .bool false, .string ⟨#[]⟩, .int .i64 0, .int .i64 0, .int .i64 0, .bool false, .string ⟨#[]⟩, .int .i64 0, .int .i64 0, .int .i64 0, .bool false, .string ⟨#[]⟩, .int .i64 0, .int .i64 0, .int .i64 0, .bool false, .string ⟨#[]⟩, .int .i64 0, .int .i64 0, .int .i64 0, .bool false, .string ⟨#[]⟩, .int .i64 0, .int .i64 0, .int .i64 0, .bool false, .string ⟨#[]⟩, .int .i64 0, .int .i64 0, .int .i64 0, .bool false, .string ⟨#[]⟩, .int .i64 0, .int .i64 0, .int .i64 0, .bool false, .string ⟨#[]⟩, .int .i64 0, .int .i64 0, .int .i64 0, .bool false, .string ⟨#[]⟩, .int .i64 0, .int .i64 0, .int .i64 0, .bool false, .string ⟨#[]⟩, .int .i64 0, .int .i64 0, .int .i64 0, .bool false, .string ⟨#[]⟩, .int .i64 0, .int .i64 0, .int .i64 0, .bool false, .string ⟨#[]⟩, .int .i64 0, .int .i64 0, .int .i64 0, .bool false, .string ⟨#[]⟩, .int .i64 0, .int .i64 0, .int .i64 0, .bool false, .string ⟨#[]⟩, .int .i64 0, .int .i64 0, .int .i64 0, .bool false, .string ⟨#[]⟩, .int .i64 0, .int .i64 0, .int .i64 0, .bool false, .string ⟨#[]⟩, .int .i64 0, .int .i64 0, .int .i64 0, .bool false, .string ⟨#[]⟩, .int .i64 0, .int .i64 0, .int .i64 0, .bool false, .string ⟨#[]⟩, .int .i64 0, .int .i64 0, .int .i64 0, .bool false, .string ⟨#[]⟩, .int .i64 0, .int .i64 0, .int .i64 0, .bool false, .string ⟨#[]⟩, .int .i64 0, .int .i64 0, .int .i64 0, .bool false, .string ⟨#[]⟩, .int .i64 0, .int .i64 0, .int .i64 0, .bool false]
theorem zero90 (w : World) : (zeroValue 90).run Tryd.prog w = .ok (.agg zC) w := (zero_of_info (v := .agg zC) (n := 130) (by kernel_rfl)).1 w
def OpsP (w : World) (e0 : En) (ok : Bool) (e : Ending) (w' : World) : Prop := e = .returned (.tuple #[e0.val, .bool ok]) ∧ Below w.heap.size w w'
theorem ent_info : (Tryd.prog.info? 90).map (·.size) = some entCells.size := by kernel_rfl
theorem ent_size : zC.size = entCells.size := by kernel_rfl
theorem ent_one : entCells.all (·.oneCell') = true := by kernel_rfl
theorem size_new (w : World) (o : Obj) : w.heap.size + 1 = (w.alloc o).heap.size := (Array.size_push ..).symm
theorem setRow_new (w : World) (c c' : Array Value) (t : TypeId) (g : Nat) (hg : g = w.heap.size) : (w.alloc (.cells c t)).setRow g c' = w.alloc (.cells c' t) := by
  subst hg
  exact World.setRow_alloc_new ..
theorem row_at_new (w : World) (c : Array Value) (t : TypeId) (g : Nat) (hg : g = w.heap.size) : (w.alloc (.cells c t)).heap[g]? = some (.cells c t (0, 0)) := by
  subst hg
  exact heap_alloc_last ..
set_option maxRecDepth 100000 in
set_option maxHeartbeats 4000000 in
theorem ops_no (op : Int) (w : World) (h : op < 1 ∨ 26 ≤ op) : Calls Tryd.prog 14 #[.int .i64 op] w (OpsP w En.zero false) := by
  have z100 := zero90
  have q1 : (decide (op < 1) || decide (26 ≤ op)) = true := by simp; omega
  rcases h with h | h
  all_goals
    go_enter Tryd.func14, Tryd.ntmps14
    go_wp2_with (first
      | ((with_reducible refine wpList_buildTo rfl 90 _ rfl (some 31) rfl entCells (by kernel_rfl) ?_))
      | ((with_reducible refine wpList_store_rowTo rfl 90 (.tmp 4) (.tmp 31) rfl rfl (w.heap.size + 1) entCells rfl rfl 90 _ (row_at_new _ _ _ _ (size_new _ _)) ent_info ent_size ent_one ?_); rw [setRow_new _ _ _ _ _ (size_new _ _)]))
    exact bodyPost_ret (v := .tuple #[En.zero.val, .bool false]) (by simp [results, Tryd.results14, go_sem, En.zero, En.val]) rfl ⟨rfl, (((Below.refl _ _).alloc (Nat.le_refl _) _).alloc (by simp) _)⟩
theorem ent_load (w : World) (A : Obj) (k : Nat) (h : k < 26) :
    ((w.alloc A).alloc (.cells entCells 90)).cell? ⟨w.heap.size + 1, k * 5, none⟩ = some (.string (ent k).nm)
    ∧ ((w.alloc A).alloc (.cells entCells 90)).cell? ⟨w.heap.size + 1, k * 5 + 1, none⟩ = some (.int .i64 (ent k).has)
    ∧ ((w.alloc A).alloc (.cells entCells 90)).cell? ⟨w.heap.size + 1, k * 5 + 2, none⟩ = some (.int .i64 (ent k).take)
    ∧ ((w.alloc A).alloc (.cells entCells 90)).cell? ⟨w.heap.size + 1, k * 5 + 3, none⟩ = some (.int .i64 (ent k).put)
    ∧ ((w.alloc A).alloc (.cells entCells 90)).cell? ⟨w.heap.size + 1, k * 5 + 4, none⟩ = some (.bool (ent k).ends) := by
  have hr := fun j => cell_of_row _ (w.heap.size + 1) j entCells 90 (0, 0) (row_at_new (w.alloc A) entCells 90 _ (size_new w A))
  obtain ⟨c0, c1, c2, c3, c4⟩ := ent_cells k h
  exact ⟨(hr _).trans c0, (hr _).trans c1, (hr _).trans c2, (hr _).trans c3, (hr _).trans c4⟩
set_option maxRecDepth 100000 in
set_option maxHeartbeats 4000000 in
theorem ops_ok (k : Nat) (w : World) (h1 : 1 ≤ k) (h2 : k < 26) : Calls Tryd.prog 14 #[.int .i64 (k : Int)] w (OpsP w (ent k) true) := by
  have z100 := zero90
  have q1 : (decide ((k : Int) < 1) || decide (26 ≤ (k : Int))) = false := by simp; omega
  have q2 : ¬ (k : Int) < 1 := by omega
  have q3 : ¬ 26 ≤ (k : Int) := by omega
  obtain ⟨e0, e1, e2, e3, e4⟩ := ent_load w (.cells #[.string ⟨#[]⟩, .int .i64 0, .int .i64 0, .int .i64 0, .bool false] 50) k h2
  go_enter Tryd.func14, Tryd.ntmps14
  go_wp2_with (first
    | ((with_reducible refine wpList_buildTo rfl 90 _ rfl (some 31) rfl entCells (by kernel_rfl) ?_))
    | ((with_reducible refine wpList_store_rowTo rfl 90 (.tmp 4) (.tmp 31) rfl rfl (w.heap.size + 1) entCells rfl rfl 90 _ (row_at_new _ _ _ _ (size_new _ _)) ent_info ent_size ent_one ?_); rw [setRow_new _ _ _ _ _ (size_new _ _)]))
  exact bodyPost_ret (v := .tuple #[(ent k).val, .bool true]) (by simp [results, Tryd.results14, go_sem, En.val]) rfl ⟨rfl, (((Below.refl _ _).alloc (Nat.le_refl _) _).alloc (by simp) _)⟩
end Go.Proofs.YtaeegkljldngmaaDoor
