/-
  The walk of slices.Delete at packets, one element.
-/
import Derived.Test.YtbkgphmocjjmmaaNtD
import Derived.Lib.SliceRun
import Derived.Laws.IdiomCopy
import Derived.Deep.Upon
namespace Go.Proofs.Ytbkgphmocjjmmaa
open Go.RowKit

/-- an array with cells laid over it -/
def laid (cs : Array Value) (o : Nat) (vs : List Value) : Array Value := (cs.toList.take o ++ vs ++ cs.toList.drop (o + vs.length)).toArray
theorem laid_size (cs : Array Value) (o : Nat) (vs : List Value) (h : o + vs.length ≤ cs.size) : (laid cs o vs).size = cs.size := by
  simp only [laid, List.size_toArray, List.length_append, List.length_take, List.length_drop, Array.length_toList]
  omega
theorem laid_step (cs : Array Value) (o : Nat) (x : Value) (vs : List Value) (h : o < cs.size) : laid (cs.setIfInBounds o x) (o + 1) vs = laid cs o (x :: vs) := by
  unfold laid
  congr 1
  have hl : o < cs.toList.length := by simpa using h
  rw [Array.toList_setIfInBounds]
  have e1 : (cs.toList.set o x).take (o + 1) = cs.toList.take o ++ [x] := by
    rw [List.take_succ_eq_append_getElem (by simpa using hl), List.getElem_set_self, List.take_set_of_le (Nat.le_refl _)]
  have e2 : (cs.toList.set o x).drop (o + 1 + vs.length) = cs.toList.drop (o + (x :: vs).length) := by
    rw [List.drop_set_of_lt (by omega)]
    congr 1
    simp; omega
  rw [e1, e2]
  simp
theorem Blk.setCells {g : Nat} {t : TypeId} : ∀ (vs : List Value) (o : Nat) (w : World) (cs : Array Value), Blk w g t cs → o + vs.length ≤ cs.size → Blk (w.setCells g o vs) g t (laid cs o vs)
  | [], o, w, cs, h, _ => by
    have : laid cs o [] = cs := by simp [laid]
    rw [this]; exact h
  | x :: vs, o, w, cs, h, hl => by
    have hl' : o + (vs.length + 1) ≤ cs.size := hl
    show Blk ((w.setCell ⟨g, o, none⟩ x).setCells g (o + 1) vs) g t _
    rw [← laid_step cs o x vs (by omega)]
    exact Blk.setCells vs (o + 1) _ _ (h.set_ o x) (by simp; omega)
theorem setCells_size (g : Nat) : ∀ (vs : List Value) (o : Nat) (w : World), (w.setCells g o vs).heap.size = w.heap.size
  | [], _, _ => rfl
  | x :: vs, o, w => by
    show ((w.setCell ⟨g, o, none⟩ x).setCells g (o + 1) vs).heap.size = _
    rw [setCells_size g vs]
    simp [World.setCell]
theorem Chg.setCells {F : Nat → Prop} {w w1 : World} (h : Chg F w w1) {g : Nat} (hg : F g) : ∀ (vs : List Value) (o : Nat), Chg F w (w1.setCells g o vs)
  | [], _ => h
  | x :: vs, o => Chg.setCells (h.setCell (p := ⟨g, o, none⟩) (fun _ => hg) x) hg vs (o + 1)
theorem run_clear_two {P : Program} (w : World) (t e ty : TypeId) (n0 : Int) (ht : P.underlying t = some (.slice e)) (hv : ∀ w, (zeroValue e).run P w = .ok (.agg #[.int .i64 n0, .slice none 0 0]) w) (b o c : Nat)
    (hc : ∀ j, j < 2 → (w.cell? ⟨b, o + j, none⟩).isSome = true) (hf : ∀ j, j < 2 → w.frozen? ⟨b, o + j, none⟩ = false) :
    (Builtin.clear_ #[t] ty #[.slice (some ⟨b, o, none⟩) 1 c]).run P w = .ok (.tuple #[]) (w.setCells b o [.int .i64 n0, .slice none 0 0]) := by
  have hzc : (Builtin.zeroCells (Value.agg #[.int .i64 n0, .slice none 0 0]).cells 1).toList = [.int .i64 n0, .slice none 0 0] := by simp [Builtin.zeroCells, Value.cells, Array.range]
  have hst := run_storeCells_cells (P := P) b o [.int .i64 n0, .slice none 0 0] 0 w (by simpa using hc) (by simpa using hf) (by intro v hv'; simp only [List.mem_cons, List.not_mem_nil, or_false] at hv'; rcases hv' with rfl | rfl <;> rfl)
  simp only [Nat.add_zero] at hst
  simp [Builtin.clear_, run_underlying ht, hv, hzc, hst]
theorem zero36 (w : World) : (zeroValue 36).run Try.prog w = .ok (.agg #[.int .i64 0, .slice none 0 0]) w := by kernel_rfl
theorem lpCells_len (l : List LP) : (lpCells l).length = l.length * 2 := by
  induction l with
  | nil => rfl
  | cons p l ih => simp only [lpCells, List.flatMap_cons, List.length_append, List.length_cons] at ih ⊢; rw [ih]; simp [LP.cells]; omega
theorem lpCells_app (l m : List LP) : lpCells (l ++ m) = lpCells l ++ lpCells m := by simp [lpCells]
theorem lpCells_take (l : List LP) (k : Nat) : lpCells (l.take k) = (lpCells l).take (k * 2) := by
  rcases Nat.lt_or_ge l.length k with h | h
  · rw [List.take_of_length_le (by omega), List.take_of_length_le (by rw [lpCells_len]; omega)]
  · have e : lpCells l = lpCells (l.take k) ++ lpCells (l.drop k) := by rw [← lpCells_app, List.take_append_drop]
    rw [e, List.take_append_of_le_length (by rw [lpCells_len, List.length_take]; omega)]
    exact (List.take_of_length_le (by rw [lpCells_len, List.length_take]; omega)).symm
theorem lpCells_drop (l : List LP) (k : Nat) : lpCells (l.drop k) = (lpCells l).drop (k * 2) := by
  rcases Nat.lt_or_ge l.length k with h | h
  · rw [List.drop_eq_nil_of_le (by omega), List.drop_eq_nil_of_le (by rw [lpCells_len]; omega)]; rfl
  · have e : lpCells l = lpCells (l.take k) ++ lpCells (l.drop k) := by rw [← lpCells_app, List.take_append_drop]
    have h2 : (lpCells (l.take k)).length = k * 2 := by rw [lpCells_len, List.length_take]; omega
    rw [e, ← h2, List.drop_left]
theorem lpCells_erase (l : List LP) (i : Nat) : lpCells (l.eraseIdx i) = (lpCells l).take (i * 2) ++ (lpCells l).drop ((i + 1) * 2) := by
  rw [List.eraseIdx_eq_take_drop_succ, lpCells_app, lpCells_take, lpCells_drop]
/-- what Delete leaves -/
def DelP (w : World) (v : Value) (l : List LP) (i : Nat) (e : Ending) (w' : World) : Prop := ∃ v', e = .returned v' ∧ v'.ownBlock = v.ownBlock ∧ RowP w' v' (l.eraseIdx i) ∧ Chg (fun k => v.ownBlock = some k) w w' ∧ w'.heap.size = w.heap.size ∧ ∃ g c, v = .slice (some ⟨g, 0, none⟩) l.length c ∧ l.length ≤ c ∧ v' = .slice (some ⟨g, 0, none⟩) (l.eraseIdx i).length c
set_option maxRecDepth 20000 in
set_option maxHeartbeats 2000000 in
theorem del_any (v : Value) (l : List LP) (i : Nat) (w : World) (h : RowP w v l) (hi : i < l.length) (hl : l.length ≤ 1000000) : Calls Try.prog 45 #[v, .int .i64 i, .int .i64 ((i : Int) + 1)] w (DelP w v l i) := by
  rcases h.2 with ⟨_, h0⟩ | ⟨g, cap, cur, rfl, _, hg, hnc, hcm, hcs, htk⟩
  · omega
  · obtain ⟨i0, hi0, hz0, hz1, hz2⟩ := info_parts info36
    have hneq : ((i : Int) == (i : Int) + 1) = false := by rw [beq_eq_false_iff_ne]; omega
    have d1 : (i : Int) + 1 ≤ (l.length : Int) := by omega
    have d2 : (i : Int) ≤ (i : Int) + 1 := by omega
    have d3 : (l.length : Int) ≤ (cap : Int) := by omega
    simp only [maxLen] at hcm
    obtain ⟨m, hm⟩ : ∃ m, l.length = i + 1 + m := ⟨l.length - (i + 1), by omega⟩
    have hB : Blk w g 36 cur := hg
    have hcl0 : lpCells l = cur.toList.take (l.length * 2) := htk.symm
    obtain ⟨news, HNEWS⟩ : ∃ news, Hid (news = (lpCells l).drop ((i + 1) * 2)) := ⟨_, Lib.hid rfl⟩
    have hnl : news.length = m * 2 := by rw [HNEWS.out, List.length_drop, lpCells_len]; omega
    obtain ⟨A, hA, hsrc⟩ : ∃ A : Addr, (if cap = i + 1 then some (⟨g, 0, none⟩ : Addr) else some ⟨g, (i + 1) * 2, none⟩) = some A ∧ Hid (∀ t u, news[t]? = some u → w.drew.cell? (A.add t) = some u) := by
      have hcell : ∀ t u, news[t]? = some u → w.drew.cell? ⟨g, (i + 1) * 2 + t, none⟩ = some u := fun t u hu => by
        show w.cell? _ = _
        rw [hB.cell]
        rw [HNEWS.out, List.getElem?_drop, hcl0, List.getElem?_take] at hu
        split at hu
        · rw [Array.getElem?_toList] at hu; exact hu
        · cases hu
      by_cases hc : cap = i + 1
      · refine ⟨⟨g, 0, none⟩, by simp [hc], Lib.hid fun t u hu => ?_⟩
        have : news = [] := List.eq_nil_of_length_eq_zero (by omega)
        rw [this] at hu; simp at hu
      · refine ⟨⟨g, (i + 1) * 2, none⟩, by simp [hc], Lib.hid fun t u hu => ?_⟩
        have e : (⟨g, (i + 1) * 2, none⟩ : Addr).add t = ⟨g, (i + 1) * 2 + t, none⟩ := by unfold Addr.add; split <;> simp_all
        rw [e]
        exact hcell t u hu
    have s1 : Hid (news.length = m * 2) := Lib.hid hnl
    have s2 : Hid (∀ u ∈ news, u.oneCell' = true) := Lib.hid fun u hu => by
      rw [HNEWS.out] at hu
      have hu2 := List.mem_of_mem_drop hu
      simp only [lpCells, List.mem_flatMap] at hu2
      obtain ⟨p, _, hp⟩ := hu2
      simp only [LP.cells, List.mem_cons, List.not_mem_nil, or_false] at hp
      rcases hp with rfl | rfl <;> rfl
    have s3 : Hid (∀ j, j < news.length → (w.drew.cell? ⟨g, 0 + i * 2 + j, none⟩).isSome = true ∧ w.drew.frozen? ⟨g, 0 + i * 2 + j, none⟩ = false) := Lib.hid fun j hj => by
      refine ⟨?_, hB.frozen _⟩
      show (w.cell? _).isSome = true
      rw [hB.cell, Array.getElem?_eq_getElem (by omega)]
      rfl
    have hB1 : Blk (w.drew.setCells g (0 + i * 2) news) g 36 (laid cur (0 + i * 2) news) := Blk.setCells news _ _ _ hB.drew (by omega)
    have HC1 : Hid (Chg (fun k => some g = some k) w (w.drew.setCells g (0 + i * 2) news)) := Lib.hid (Chg.setCells (F := fun k => some g = some k) (Chg.refl (fun k => some g = some k) w).drew rfl news _)
    have HS1 : Hid ((w.drew.setCells g (0 + i * 2) news).heap.size = w.heap.size) := Lib.hid (setCells_size g news _ _)
    obtain ⟨W1, hW1⟩ : ∃ W1, W1 = w.drew.setCells g (0 + i * 2) news := ⟨_, rfl⟩
    rw [← hW1] at hB1 HC1 HS1
    have HW1 := Lib.hid hW1
    have hls : (laid cur (0 + i * 2) news).size = cap * 2 := by rw [laid_size _ _ _ (by omega)]; exact hcs
    have hcl : ∀ ty, (Builtin.clear_ #[39] ty #[.slice (some ⟨g, (i + m) * 2, none⟩) (l.length - (i + m)) (cap - (i + m))]).run Try.prog W1 = .ok (.tuple #[]) (W1.setCells g ((i + m) * 2) [.int .i64 0, .slice none 0 0]) := fun ty => by
      rw [show l.length - (i + m) = 1 from by omega]
      exact run_clear_two W1 39 36 ty 0 Try.underlying39 zero36 g ((i + m) * 2) _ (fun j hj => by rw [hB1.cell, Array.getElem?_eq_getElem (by rw [hls]; omega)]; rfl) (fun j _ => hB1.frozen _)
    have HFIN : Hid (DelP w (.slice (some ⟨g, 0, none⟩) l.length cap) l i (.returned (.slice (some ⟨g, 0, none⟩) (i + m) cap)) (W1.setCells g ((i + m) * 2) [.int .i64 0, .slice none 0 0])) := Lib.hid (by
      refine ⟨_, rfl, rfl, ?_, HC1.out.setCells (F := fun k => some g = some k) rfl _ _, by rw [setCells_size]; exact HS1.out, g, cap, rfl, hnc, by rw [List.length_eraseIdx_of_lt hi, show l.length - 1 = i + m from by omega]⟩
      have hlen : (l.eraseIdx i).length = i + m := by rw [List.length_eraseIdx_of_lt hi]; omega
      have hB2 := Blk.setCells [.int .i64 0, .slice none 0 0] ((i + m) * 2) W1 _ hB1 (by rw [hls]; simp; omega)
      refine ⟨by rw [lpCells_len], .inr ⟨g, cap, _, by rw [hlen], Nat.zero_le _, hB2, by omega, by simp only [maxLen]; omega, by rw [laid_size _ _ _ (by rw [hls]; simp; omega)]; exact hls, ?_⟩⟩
      rw [hlen, lpCells_erase l i]
      simp only [laid]
      rw [List.take_append_of_le_length (by simp; omega), List.take_append_of_le_length (by simp; omega)]
      rw [List.take_take, Nat.min_self, Nat.zero_add, List.take_append_of_le_length (by simp only [List.length_append, List.length_take, Array.length_toList]; omega), List.take_of_length_le (by simp only [List.length_append, List.length_take, Array.length_toList]; omega), ← HNEWS.out, hcl0, List.take_take, Nat.min_eq_left (by omega)])
    have hmc : l.length - (i + 1) = m := by omega
    have HMC := Lib.hid hmc
    have d4 : (i : Int) + (m : Int) ≤ (l.length : Int) := by omega
    have d5 : ¬ cap = i + m := by omega
    have d6 : i + m ≤ cap := by omega
    have d7 : i + 1 ≤ cap := by omega
    have d8 : i ≤ cap := by omega
    have d9 : (0 : Int) ≤ (i : Int) + 1 := by omega
    clear hW1 hB1 hls hcl0 hnl hm hcs htk hg hB h hmc
    go_enter Try.func45, Try.ntmps45
    go_wp2_with fail
    go_region_law (refine step_append_room rfl (.tmp 22) (.tmp 25) 39 rfl 36 i0 2 Try.underlying39 hi0 hz1 g 0 i cap (by simp [Act.eval, Act.put]) A m (cap - (i + 1)) news (by simp [Act.eval, Act.put, HMC.out]) s1.out hsrc.out s2.out (by omega) s3.out ?_; rw [← HW1.out])
    go_wp2
    go_ret
    exact HFIN.out
end Go.Proofs.Ytbkgphmocjjmmaa
