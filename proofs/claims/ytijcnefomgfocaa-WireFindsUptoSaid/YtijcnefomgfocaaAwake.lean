/-
  awake: the document's examples hold.
-/
import Derived.Test.YtijcnefomgfocaaPutr
import Derived.Test.YtijcnefomgfocaaUnp
import Derived.Lib.SlBytesConst
import Derived.Deep.RegionHeld3
namespace Go.Proofs.Ytijcnefomgfocaa
open Go.RowKit

theorem awake_pack : packB 1 0 0 0 [] = [239, 30, 4, 0, 1, 0, 0, 0] ++ le4 (crc [239, 30, 4, 0, 1, 0, 0, 0]) := by decide +kernel
theorem awake_reply : replyB 0 [(0, 5), (300, 0)] [104, 105] = [0, 2, 0, 10, 172, 2, 2, 104, 105] := by decide +kernel
theorem awake_sum : crc [49, 50, 51, 52, 53, 54, 55, 56, 57] = 3421780262 := by decide +kernel

theorem OwnB.below {e : TypeId} {w w1 : World} {base : Nat} {v : Value} {bs : List UInt8} (h : OwnB e w base v bs) (hb : Below w.heap.size w w1) : OwnB e w1 base v bs := by
  refine World.ownsRow.kept h (only_of_below hb none) ?_
  cases hu : v.ownBlock with
  | none => exact .inl rfl
  | some k => exact .inr (by simp)
theorem Reads.of_blkN {w : World} {g n size : Nat} {t : TypeId} {cs : List Value} (h : Blk w g t cs.toArray) (hn : cs.length = n * size) : Reads w (g + 1) size (some ⟨g, 0, none⟩) n cs := by
  refine ⟨hn, fun _ => ⟨_, rfl, by simp, fun j u hu => ?_⟩⟩
  have e : (⟨g, 0, none⟩ : Addr).add j = ⟨g, j, none⟩ := by unfold Addr.add; split <;> simp_all
  rw [e, h.cell j]
  simpa using hu

theorem Reads.of_mark {w : World} {g : Nat} {t : TypeId} {cs : List Value} {fr : Nat × Nat} (h : w.heap[g]? = some (.cells cs.toArray t fr)) : Reads w (g + 1) 1 (some ⟨g, 0, none⟩) cs.length cs := by
  refine ⟨by simp, fun _ => ⟨_, rfl, by simp, fun j u hu => ?_⟩⟩
  have e : (⟨g, 0, none⟩ : Addr).add j = ⟨g, j, none⟩ := by unfold Addr.add; split <;> simp_all
  rw [e, cell_of_row w g j _ _ _ h]
  simpa using hu

set_option maxRecDepth 20000 in
set_option linter.unusedSimpArgs false in
set_option maxHeartbeats 4000000 in
theorem awake_any (w : World) : Calls Try.prog 17 #[] w fun e w' => e = .returned (.bool true) ∧ Below w.heap.size w w' := by
  have HP := Lib.hid fun w => pack_ok 1 0 0 0 none 0 0 [] w Reads.none_ rfl (by omega) (by omega) (by omega)
  go_enter Try.func17, Try.ntmps17
  go_wp2_with fail
  refine (HP.out _).mono ?_
  rintro e w1 ⟨v1, rfl, hown1, hb1⟩
  clear HP
  rw [awake_pack] at hown1
  obtain ⟨t4, HT4⟩ : ∃ t4, Hid (t4 = le4 (crc [239, 30, 4, 0, 1, 0, 0, 0])) := ⟨_, rfl⟩
  rw [← HT4.out] at hown1
  have hl4 : t4.length = 4 := by rw [HT4.out]; rfl
  go_wp2_with fail
  have hbk := Blk.new w1 95 #[.int .u64 0, .int .i64 5, .int .u64 300, .int .i64 0]
  have hown2 := hown1.alloc (.cells #[.int .u64 0, .int .i64 5, .int .u64 300, .int .i64 0] 95)
  have hb2 := hb1.alloc hb1.size (.cells #[.int .u64 0, .int .i64 5, .int .u64 300, .int .i64 0] 95)
  have hsz : w1.heap.size + 1 ≤ (w1.alloc (.cells #[.int .u64 0, .int .i64 5, .int .u64 300, .int .i64 0] 95)).heap.size := by simp
  generalize (w1.alloc (.cells #[.int .u64 0, .int .i64 5, .int .u64 300, .int .i64 0] 95)) = W at hbk hown2 hb2 hsz ⊢
  have hrd : RdV W W.heap.size (some ⟨w1.heap.size, 0, none⟩) 2 [(0, 5), (300, 0)] := (Reads.of_blkN (size := 2) (n := 2) hbk rfl).more hsz
  have HPR := Lib.hid (putr_any 0 (some ⟨w1.heap.size, 0, none⟩) 2 2 [(0, 5), (300, 0)] ⟨#[104, 105]⟩ W (by decide) hrd (by decide))
  clear hown1 hb1 hbk hrd hsz
  refine HPR.out.mono ?_
  rintro e w3 ⟨hbw, hpost⟩
  have hgood : goodR 0 [(0, 5), (300, 0)] [104, 105] := ⟨by decide, by decide, by intro v hv; simp at hv; rcases hv with rfl | rfl <;> simp, by rw [awake_reply]; decide⟩
  obtain ⟨v2, rfl, hown3⟩ : ∃ v, e = .returned (.tuple #[v, .int .i64 0]) ∧ OwnB 5 w3 W.heap.size v [0, 2, 0, 10, 172, 2, 2, 104, 105] := by
    rcases hpost with h | h
    · obtain ⟨_, v, he, ho⟩ := h
      rw [awake_reply] at ho
      exact ⟨v, he, ho⟩
    · exact absurd hgood h.1
  have hown4 := OwnB.below hown2 hbw
  have hb3 := hb2.trans (hbw.mono hb2.size)
  clear hpost hgood HPR hown2 hbw hb2
  have h12 : ([239, 30, 4, 0, 1, 0, 0, 0] ++ t4).length = 12 := by rw [List.length_append, hl4]; rfl
  obtain ⟨A1, c1, hv1, hc1⟩ := OwnB.form hown4
  rw [h12] at hv1
  subst hv1
  obtain ⟨A2, c2, rfl, hc2⟩ := OwnB.form hown3
  go_upto_region 3 with fail
  have r1 : RdB w3 w3.heap.size A1 12 ([239, 30, 4, 0, 1, 0, 0, 0] ++ t4) := OwnB.reads hown4 h12.symm
  have r2 : RdB w3 w3.heap.size A2 9 [0, 2, 0, 10, 172, 2, 2, 104, 105] := OwnB.reads hown3 rfl
  have r3 : RdB w3 w3.heap.size A1 8 [239, 30, 4, 0, 1, 0, 0, 0] := by simpa using Reads.first r1 (k := 8) (by omega)
  have HS : Hid (∀ w' : World, Below w3.heap.size w3 w' → (convert 24 9 (.slice A1 8 c1)).run Try.prog w' = .ok (.string ⟨#[239, 30, 4, 0, 1, 0, 0, 0]⟩) w' ∧ (convert 24 9 (.slice A2 9 c2)).run Try.prog w' = .ok (.string ⟨#[0, 2, 0, 10, 172, 2, 2, 104, 105]⟩) w') :=
    Lib.hid fun w' h => ⟨run_string_of w' 24 9 5 (r3.below h) Try.underlying24 Try.underlying5 Try.underlying9, run_string_of w' 24 9 5 (r2.below h) Try.underlying24 Try.underlying5 Try.underlying9⟩
  rw [h12] at hc1
  have h8c : (8 : Int) ≤ (c1 : Int) := by omega
  clear hown4 hown3 r1 r2 r3 h12 hl4
  have cv1 := run_string_of (P := Try.prog) (c := 8) (n := 8) (bs := [239, 30, 4, 0, 1, 0, 0, 0]) ((w3.alloc (.cells #[.int .u8 239, .int .u8 30, .int .u8 4, .int .u8 0, .int .u8 1, .int .u8 0, .int .u8 0, .int .u8 0] 5)).drew) 24 9 5 (Reads.drew (Reads.of_blk (cs := ([239, 30, 4, 0, 1, 0, 0, 0] : List UInt8).map bv) (Blk.new' w3 5 w3.heap.size #[.int .u8 239, .int .u8 30, .int .u8 4, .int .u8 0, .int .u8 1, .int .u8 0, .int .u8 0, .int .u8 0] rfl))) Try.underlying24 Try.underlying5 Try.underlying9
  have cv2 := run_string_of (P := Try.prog) (c := 9) (n := 9) (bs := [0, 2, 0, 10, 172, 2, 2, 104, 105]) (((w3.alloc (.cells #[.int .u8 239, .int .u8 30, .int .u8 4, .int .u8 0, .int .u8 1, .int .u8 0, .int .u8 0, .int .u8 0] 5)).alloc (.cells #[.int .u8 0, .int .u8 2, .int .u8 0, .int .u8 10, .int .u8 172, .int .u8 2, .int .u8 2, .int .u8 104, .int .u8 105] 5)).drew) 24 9 5 (Reads.drew (Reads.of_blk (cs := ([0, 2, 0, 10, 172, 2, 2, 104, 105] : List UInt8).map bv) (Blk.new' (w3.alloc (.cells #[.int .u8 239, .int .u8 30, .int .u8 4, .int .u8 0, .int .u8 1, .int .u8 0, .int .u8 0, .int .u8 0] 5)) 5 (w3.heap.size + 1) #[.int .u8 0, .int .u8 2, .int .u8 0, .int .u8 10, .int .u8 172, .int .u8 2, .int .u8 2, .int .u8 104, .int .u8 105] (by simp)))) Try.underlying24 Try.underlying5 Try.underlying9
  have cva := (HS.out w3.drew (by repeat (first | exact Below.refl _ _ | refine Below.drew ?_ | refine Below.alloc ?_ (by first | exact Nat.le_refl _ | (simp; done) | (simp; omega)) _))).1
  have cva1 := (HS.out (w3.alloc (.cells #[.int .u8 239, .int .u8 30, .int .u8 4, .int .u8 0, .int .u8 1, .int .u8 0, .int .u8 0, .int .u8 0] 5)).drew (by repeat (first | exact Below.refl _ _ | refine Below.drew ?_ | refine Below.alloc ?_ (by first | exact Nat.le_refl _ | (simp; done) | (simp; omega)) _))).1
  have cvb1 := (HS.out (w3.alloc (.cells #[.int .u8 239, .int .u8 30, .int .u8 4, .int .u8 0, .int .u8 1, .int .u8 0, .int .u8 0, .int .u8 0] 5)).drew (by repeat (first | exact Below.refl _ _ | refine Below.drew ?_ | refine Below.alloc ?_ (by first | exact Nat.le_refl _ | (simp; done) | (simp; omega)) _))).2
  have cvb2 := (HS.out ((w3.alloc (.cells #[.int .u8 239, .int .u8 30, .int .u8 4, .int .u8 0, .int .u8 1, .int .u8 0, .int .u8 0, .int .u8 0] 5)).alloc (.cells #[.int .u8 0, .int .u8 2, .int .u8 0, .int .u8 10, .int .u8 172, .int .u8 2, .int .u8 2, .int .u8 104, .int .u8 105] 5)).drew (by repeat (first | exact Below.refl _ _ | refine Below.drew ?_ | refine Below.alloc ?_ (by first | exact Nat.le_refl _ | (simp; done) | (simp; omega)) _))).2
  have cv3 : (convert 24 24 (.slice (some ⟨w3.heap.size + 1 + 1, 0, none⟩) 9 9)).run Try.prog (((w3.alloc (.cells #[.int .u8 239, .int .u8 30, .int .u8 4, .int .u8 0, .int .u8 1, .int .u8 0, .int .u8 0, .int .u8 0] 5)).alloc (.cells #[.int .u8 0, .int .u8 2, .int .u8 0, .int .u8 10, .int .u8 172, .int .u8 2, .int .u8 2, .int .u8 104, .int .u8 105] 5)).alloc (.cells #[.int .u8 49, .int .u8 50, .int .u8 51, .int .u8 52, .int .u8 53, .int .u8 54, .int .u8 55, .int .u8 56, .int .u8 57] 5)).drew = .ok (.slice (some ⟨w3.heap.size + 1 + 1, 0, none⟩) 9 9) (((w3.alloc (.cells #[.int .u8 239, .int .u8 30, .int .u8 4, .int .u8 0, .int .u8 1, .int .u8 0, .int .u8 0, .int .u8 0] 5)).alloc (.cells #[.int .u8 0, .int .u8 2, .int .u8 0, .int .u8 10, .int .u8 172, .int .u8 2, .int .u8 2, .int .u8 104, .int .u8 105] 5)).alloc (.cells #[.int .u8 49, .int .u8 50, .int .u8 51, .int .u8 52, .int .u8 53, .int .u8 54, .int .u8 55, .int .u8 56, .int .u8 57] 5 (9, 10))).drew := by
    have h := Lib.run_convert_bytes_const (P := Try.prog) ((w3.alloc (.cells #[.int .u8 239, .int .u8 30, .int .u8 4, .int .u8 0, .int .u8 1, .int .u8 0, .int .u8 0, .int .u8 0] 5)).alloc (.cells #[.int .u8 0, .int .u8 2, .int .u8 0, .int .u8 10, .int .u8 172, .int .u8 2, .int .u8 2, .int .u8 104, .int .u8 105] 5)).drew 24 5 #[.int .u8 49, .int .u8 50, .int .u8 51, .int .u8 52, .int .u8 53, .int .u8 54, .int .u8 55, .int .u8 56, .int .u8 57] 9 9 Try.underlying24 Try.underlying5
    have e : ((w3.alloc (.cells #[.int .u8 239, .int .u8 30, .int .u8 4, .int .u8 0, .int .u8 1, .int .u8 0, .int .u8 0, .int .u8 0] 5)).alloc (.cells #[.int .u8 0, .int .u8 2, .int .u8 0, .int .u8 10, .int .u8 172, .int .u8 2, .int .u8 2, .int .u8 104, .int .u8 105] 5)).drew.heap.size = w3.heap.size + 1 + 1 := by show ((w3.alloc (.cells #[.int .u8 239, .int .u8 30, .int .u8 4, .int .u8 0, .int .u8 1, .int .u8 0, .int .u8 0, .int .u8 0] 5)).alloc (.cells #[.int .u8 0, .int .u8 2, .int .u8 0, .int .u8 10, .int .u8 172, .int .u8 2, .int .u8 2, .int .u8 104, .int .u8 105] 5)).heap.size = _; simp
    rw [e] at h
    exact h
  have hr3 : RdB (((w3.alloc (.cells #[.int .u8 239, .int .u8 30, .int .u8 4, .int .u8 0, .int .u8 1, .int .u8 0, .int .u8 0, .int .u8 0] 5)).alloc (.cells #[.int .u8 0, .int .u8 2, .int .u8 0, .int .u8 10, .int .u8 172, .int .u8 2, .int .u8 2, .int .u8 104, .int .u8 105] 5)).alloc (.cells #[.int .u8 49, .int .u8 50, .int .u8 51, .int .u8 52, .int .u8 53, .int .u8 54, .int .u8 55, .int .u8 56, .int .u8 57] 5 (9, 10))).drew (w3.heap.size + 1 + 1 + 1) (some ⟨w3.heap.size + 1 + 1, 0, none⟩) 9 [49, 50, 51, 52, 53, 54, 55, 56, 57] :=
    Reads.drew (Reads.of_mark (cs := ([49, 50, 51, 52, 53, 54, 55, 56, 57] : List UInt8).map bv) (fr := (9, 10)) (by have h := heap_alloc_new ((w3.alloc (.cells #[.int .u8 239, .int .u8 30, .int .u8 4, .int .u8 0, .int .u8 1, .int .u8 0, .int .u8 0, .int .u8 0] 5)).alloc (.cells #[.int .u8 0, .int .u8 2, .int .u8 0, .int .u8 10, .int .u8 172, .int .u8 2, .int .u8 2, .int .u8 104, .int .u8 105] 5)) (.cells #[.int .u8 49, .int .u8 50, .int .u8 51, .int .u8 52, .int .u8 53, .int .u8 54, .int .u8 55, .int .u8 56, .int .u8 57] 5 (9, 10)); have e : ((w3.alloc (.cells #[.int .u8 239, .int .u8 30, .int .u8 4, .int .u8 0, .int .u8 1, .int .u8 0, .int .u8 0, .int .u8 0] 5)).alloc (.cells #[.int .u8 0, .int .u8 2, .int .u8 0, .int .u8 10, .int .u8 172, .int .u8 2, .int .u8 2, .int .u8 104, .int .u8 105] 5)).heap.size = w3.heap.size + 1 + 1 := (by simp); rw [e] at h; exact h))
  have HSM := Lib.hid (sum_any (some ⟨w3.heap.size + 1 + 1, 0, none⟩) 9 9 _ [49, 50, 51, 52, 53, 54, 55, 56, 57] (((w3.alloc (.cells #[.int .u8 239, .int .u8 30, .int .u8 4, .int .u8 0, .int .u8 1, .int .u8 0, .int .u8 0, .int .u8 0] 5)).alloc (.cells #[.int .u8 0, .int .u8 2, .int .u8 0, .int .u8 10, .int .u8 172, .int .u8 2, .int .u8 2, .int .u8 104, .int .u8 105] 5)).alloc (.cells #[.int .u8 49, .int .u8 50, .int .u8 51, .int .u8 52, .int .u8 53, .int .u8 54, .int .u8 55, .int .u8 56, .int .u8 57] 5 (9, 10))).drew hr3 (by omega))
  rw [awake_sum] at HSM
  have HBW : Hid (Below w3.heap.size w3 (((w3.alloc (.cells #[.int .u8 239, .int .u8 30, .int .u8 4, .int .u8 0, .int .u8 1, .int .u8 0, .int .u8 0, .int .u8 0] 5)).alloc (.cells #[.int .u8 0, .int .u8 2, .int .u8 0, .int .u8 10, .int .u8 172, .int .u8 2, .int .u8 2, .int .u8 104, .int .u8 105] 5)).alloc (.cells #[.int .u8 49, .int .u8 50, .int .u8 51, .int .u8 52, .int .u8 53, .int .u8 54, .int .u8 55, .int .u8 56, .int .u8 57] 5 (9, 10))).drew) := Lib.hid (by repeat (first | exact Below.refl _ _ | refine Below.drew ?_ | refine Below.alloc ?_ (by first | exact Nat.le_refl _ | (simp; done) | (simp; omega)) _))
  clear hr3
  have hS0 := HS.out w3.drew (Below.refl _ _).drew
  clear cva cva1 cvb1 cvb2
  refine wp_region_held_drew (S := fun w' => (convert 24 9 (.slice A1 8 c1)).run Try.prog w' = .ok (.string ⟨#[239, 30, 4, 0, 1, 0, 0, 0]⟩) w' ∧ (convert 24 9 (.slice A2 9 c2)).run Try.prog w' = .ok (.string ⟨#[0, 2, 0, 10, 172, 2, 2, 104, 105]⟩) w') (by kernel_rfl) hS0 (fun hHeld => ?_)
  refine wpAnyH_take (i := 0) (v := ?_) (by simp only [List.getElem?_toArray, List.getElem?_cons_zero]; rfl) (by kernel_rfl) (by kernel_rfl) (by kernel_rfl) (by exact fun _ _ _ h => h) (Or.inl ⟨by rfl, ?_⟩) (by assumption) ?_
  rotate_left
  · intro w hSw; (try dsimp only at hSw); go_split_ands; go_simp <;> with_reducible rfl
  try simp only [Act.put, List.setIfInBounds_toArray, List.set_cons_zero, List.set_cons_succ]
  refine wpAnyH_take (i := 1) (v := ?_) (by simp only [List.getElem?_toArray, List.getElem?_cons_succ, List.getElem?_cons_zero]; rfl) (by kernel_rfl) (by kernel_rfl) (by kernel_rfl) (by exact fun _ _ _ h => h) (Or.inl ⟨by rfl, ?_⟩) (by assumption) ?_
  rotate_left
  · intro w hSw; (try dsimp only at hSw); go_split_ands; go_simp <;> with_reducible rfl
  try simp only [Act.put, List.setIfInBounds_toArray, List.set_cons_zero, List.set_cons_succ]
  refine wpAnyH_take (i := 2) (v := ?_) (by simp only [List.getElem?_toArray, List.getElem?_cons_succ, List.getElem?_cons_zero]; rfl) (by kernel_rfl) (by kernel_rfl) (by kernel_rfl) (by exact fun _ _ _ h => h) (Or.inl ⟨by rfl, ?_⟩) (by assumption) ?_
  rotate_left
  · intro w hSw; (try dsimp only at hSw); go_split_ands; go_simp <;> with_reducible rfl
  try simp only [Act.put, List.setIfInBounds_toArray, List.set_cons_zero, List.set_cons_succ]
  refine wpAnyH_take (i := 3) (v := ?_) (by simp only [List.getElem?_toArray, List.getElem?_cons_succ, List.getElem?_cons_zero]; rfl) (by kernel_rfl) (by kernel_rfl) (by kernel_rfl) (by exact fun _ _ _ h => h) (Or.inl ⟨by rfl, ?_⟩) (by assumption) ?_
  rotate_left
  · intro w hSw; (try dsimp only at hSw); go_split_ands; go_simp <;> with_reducible rfl
  try simp only [Act.put, List.setIfInBounds_toArray, List.set_cons_zero, List.set_cons_succ]
  refine wpAnyH_take (i := 4) (v := ?_) (by simp only [List.getElem?_toArray, List.getElem?_cons_succ, List.getElem?_cons_zero]; rfl) (by kernel_rfl) (by kernel_rfl) (by kernel_rfl) (by exact fun _ _ _ h => h) (Or.inl ⟨by rfl, ?_⟩) (by assumption) ?_
  rotate_left
  · intro w hSw; (try dsimp only at hSw); go_split_ands; go_simp <;> with_reducible rfl
  try simp only [Act.put, List.setIfInBounds_toArray, List.set_cons_zero, List.set_cons_succ]
  refine wpAnyH_take (i := 5) (v := ?_) (by simp only [List.getElem?_toArray, List.getElem?_cons_succ, List.getElem?_cons_zero]; rfl) (by kernel_rfl) (by kernel_rfl) (by kernel_rfl) (by exact fun _ _ _ h => h) (Or.inl ⟨by rfl, ?_⟩) (by assumption) ?_
  rotate_left
  · intro w hSw; (try dsimp only at hSw); go_split_ands; go_simp <;> with_reducible rfl
  try simp only [Act.put, List.setIfInBounds_toArray, List.set_cons_zero, List.set_cons_succ]
  refine wpAnyH_take (i := 6) (v := ?_) (by simp only [List.getElem?_toArray, List.getElem?_cons_succ, List.getElem?_cons_zero]; rfl) (by kernel_rfl) (by kernel_rfl) (by kernel_rfl) (by exact fun _ _ _ h => h) (Or.inl ⟨by rfl, ?_⟩) (by assumption) ?_
  rotate_left
  · intro w hSw; (try dsimp only at hSw); go_split_ands; go_simp <;> with_reducible rfl
  try simp only [Act.put, List.setIfInBounds_toArray, List.set_cons_zero, List.set_cons_succ]
  refine wpAnyH_take (i := 7) (v := ?_) (by simp only [List.getElem?_toArray, List.getElem?_cons_succ, List.getElem?_cons_zero]; rfl) (by kernel_rfl) (by kernel_rfl) (by kernel_rfl) (by exact fun _ _ _ h => h) (Or.inl ⟨by rfl, ?_⟩) (by assumption) ?_
  rotate_left
  · intro w hSw; (try dsimp only at hSw); go_split_ands; go_simp <;> with_reducible rfl
  try simp only [Act.put, List.setIfInBounds_toArray, List.set_cons_zero, List.set_cons_succ]
  refine wpAnyH_take (i := 8) (v := ?_) (by simp only [List.getElem?_toArray, List.getElem?_cons_succ, List.getElem?_cons_zero]; rfl) (by kernel_rfl) (by kernel_rfl) (by kernel_rfl) (by exact fun _ _ _ h => h) (Or.inl ⟨by rfl, ?_⟩) (by assumption) ?_
  rotate_left
  · intro w hSw; (try dsimp only at hSw); go_split_ands; go_simp <;> with_reducible rfl
  try simp only [Act.put, List.setIfInBounds_toArray, List.set_cons_zero, List.set_cons_succ]
  refine wpAnyH_take (i := 9) (v := ?_) (by simp only [List.getElem?_toArray, List.getElem?_cons_succ, List.getElem?_cons_zero]; rfl) (by kernel_rfl) (by kernel_rfl) (by kernel_rfl) (by exact fun _ _ _ h => h) (Or.inl ⟨by rfl, ?_⟩) (by assumption) ?_
  rotate_left
  · intro w hSw; (try dsimp only at hSw); go_split_ands; go_simp <;> with_reducible rfl
  try simp only [Act.put, List.setIfInBounds_toArray, List.set_cons_zero, List.set_cons_succ]
  refine wpAnyH_take (i := 10) (v := ?_) (by simp only [List.getElem?_toArray, List.getElem?_cons_succ, List.getElem?_cons_zero]; rfl) (by kernel_rfl) (by kernel_rfl) (by kernel_rfl) (by exact fun _ _ _ h => h) (Or.inl ⟨by rfl, ?_⟩) (by assumption) ?_
  rotate_left
  · intro w hSw; (try dsimp only at hSw); go_split_ands; go_simp <;> with_reducible rfl
  try simp only [Act.put, List.setIfInBounds_toArray, List.set_cons_zero, List.set_cons_succ]
  refine wpAnyH_take (i := 11) (v := ?_) (by simp only [List.getElem?_toArray, List.getElem?_cons_succ, List.getElem?_cons_zero]; rfl) (by kernel_rfl) (by kernel_rfl) (by kernel_rfl) (by exact fun _ _ _ h => h) (Or.inl ⟨by rfl, ?_⟩) (by assumption) ?_
  rotate_left
  · intro w hSw; (try dsimp only at hSw); go_split_ands; go_simp <;> with_reducible rfl
  try simp only [Act.put, List.setIfInBounds_toArray, List.set_cons_zero, List.set_cons_succ]
  refine wpAnyH_take (i := 12) (v := ?_) (by simp only [List.getElem?_toArray, List.getElem?_cons_succ, List.getElem?_cons_zero]; rfl) (by kernel_rfl) (by kernel_rfl) (by kernel_rfl) (by exact fun _ _ _ h => h) (Or.inl ⟨by rfl, ?_⟩) (by assumption) ?_
  rotate_left
  · intro w hSw; (try dsimp only at hSw); go_split_ands; go_simp <;> with_reducible rfl
  try simp only [Act.put, List.setIfInBounds_toArray, List.set_cons_zero, List.set_cons_succ]
  refine wpAnyH_take (i := 13) (v := ?_) (by simp only [List.getElem?_toArray, List.getElem?_cons_succ, List.getElem?_cons_zero]; rfl) (by kernel_rfl) (by kernel_rfl) (by kernel_rfl) (by exact fun _ _ _ h => h) (Or.inl ⟨by rfl, ?_⟩) (by assumption) ?_
  rotate_left
  · intro w hSw; (try dsimp only at hSw); go_split_ands; go_simp <;> with_reducible rfl
  try simp only [Act.put, List.setIfInBounds_toArray, List.set_cons_zero, List.set_cons_succ]
  refine wpAnyH_take (i := 14) (v := ?_) (by simp only [List.getElem?_toArray, List.getElem?_cons_succ, List.getElem?_cons_zero]; rfl) (by kernel_rfl) (by kernel_rfl) (by kernel_rfl) (by exact fun _ _ _ h => h) (Or.inl ⟨by rfl, ?_⟩) (by assumption) ?_
  rotate_left
  · intro w hSw; (try dsimp only at hSw); go_split_ands; go_simp <;> with_reducible rfl
  try simp only [Act.put, List.setIfInBounds_toArray, List.set_cons_zero, List.set_cons_succ]
  refine wpAnyH_ready (rs := [15]) (by kernel_rfl) (by simp) ?_
  refine AllReadyH.cons (by simp only [List.getElem?_toArray, List.getElem?_cons_succ, List.getElem?_cons_zero]; rfl) (fun K hK => ?_) AllReadyH.nil
  go_simp
  refine hK.out _ _ (HS.out _ (by repeat (first | exact Below.refl _ _ | refine Below.drew ?_ | refine Below.alloc ?_ (by first | exact Nat.le_refl _ | (simp; done) | (simp; omega)) _))) (fun hHeld => ?_)
  clear hK K
  try simp only [Act.put, List.setIfInBounds_toArray, List.set_cons_zero, List.set_cons_succ]
  refine wpAnyH_ready (rs := [16]) (by kernel_rfl) (by simp) ?_
  refine AllReadyH.cons (by simp only [List.getElem?_toArray, List.getElem?_cons_succ, List.getElem?_cons_zero]; rfl) (fun K hK => ?_) AllReadyH.nil
  go_simp
  refine hK.out _ _ (HS.out _ (by repeat (first | exact Below.refl _ _ | refine Below.drew ?_ | refine Below.alloc ?_ (by first | exact Nat.le_refl _ | (simp; done) | (simp; omega)) _))) (fun hHeld => ?_)
  clear hK K
  try simp only [Act.put, List.setIfInBounds_toArray, List.set_cons_zero, List.set_cons_succ]
  refine wpAnyH_take (i := 17) (v := ?_) (by simp only [List.getElem?_toArray, List.getElem?_cons_succ, List.getElem?_cons_zero]; rfl) (by kernel_rfl) (by kernel_rfl) (by kernel_rfl) (by exact fun _ _ _ h => h) (Or.inl ⟨by rfl, ?_⟩) (by assumption) ?_
  rotate_left
  · intro w hSw; (try dsimp only at hSw); go_split_ands; go_simp <;> with_reducible rfl
  try simp only [Act.put, List.setIfInBounds_toArray, List.set_cons_zero, List.set_cons_succ]
  refine wpAnyH_take (i := 18) (v := ?_) (by simp only [List.getElem?_toArray, List.getElem?_cons_succ, List.getElem?_cons_zero]; rfl) (by kernel_rfl) (by kernel_rfl) (by kernel_rfl) (by exact fun _ _ _ h => h) (Or.inl ⟨by rfl, ?_⟩) (by assumption) ?_
  rotate_left
  · intro w hSw; (try dsimp only at hSw); go_split_ands; go_simp <;> with_reducible rfl
  try simp only [Act.put, List.setIfInBounds_toArray, List.set_cons_zero, List.set_cons_succ]
  refine wpAnyH_take (i := 19) (v := ?_) (by simp only [List.getElem?_toArray, List.getElem?_cons_succ, List.getElem?_cons_zero]; rfl) (by kernel_rfl) (by kernel_rfl) (by kernel_rfl) (by exact fun _ _ _ h => h) (Or.inl ⟨by rfl, ?_⟩) (by assumption) ?_
  rotate_left
  · intro w hSw; (try dsimp only at hSw); go_split_ands; go_simp <;> with_reducible rfl
  try simp only [Act.put, List.setIfInBounds_toArray, List.set_cons_zero, List.set_cons_succ]
  refine wpAnyH_take (i := 20) (v := ?_) (by simp only [List.getElem?_toArray, List.getElem?_cons_succ, List.getElem?_cons_zero]; rfl) (by kernel_rfl) (by kernel_rfl) (by kernel_rfl) (by exact fun _ _ _ h => h) (Or.inl ⟨by rfl, ?_⟩) (by assumption) ?_
  rotate_left
  · intro w hSw; (try dsimp only at hSw); go_split_ands; go_simp <;> with_reducible rfl
  try simp only [Act.put, List.setIfInBounds_toArray, List.set_cons_zero, List.set_cons_succ]
  refine wpAnyH_take (i := 21) (v := ?_) (by simp only [List.getElem?_toArray, List.getElem?_cons_succ, List.getElem?_cons_zero]; rfl) (by kernel_rfl) (by kernel_rfl) (by kernel_rfl) (by exact fun _ _ _ h => h) (Or.inl ⟨by rfl, ?_⟩) (by assumption) ?_
  rotate_left
  · intro w hSw; (try dsimp only at hSw); go_split_ands; go_simp <;> with_reducible rfl
  try simp only [Act.put, List.setIfInBounds_toArray, List.set_cons_zero, List.set_cons_succ]
  refine wpAnyH_ready (rs := [22]) (by kernel_rfl) (by simp) ?_
  refine AllReadyH.cons (by simp only [List.getElem?_toArray, List.getElem?_cons_succ, List.getElem?_cons_zero]; rfl) (fun K hK => ?_) AllReadyH.nil
  go_simp
  refine hK.out _ _ (HS.out _ (by repeat (first | exact Below.refl _ _ | refine Below.drew ?_ | refine Below.alloc ?_ (by first | exact Nat.le_refl _ | (simp; done) | (simp; omega)) _))) (fun hHeld => ?_)
  clear hK K
  try simp only [Act.put, List.setIfInBounds_toArray, List.set_cons_zero, List.set_cons_succ]
  refine wpAnyH_ready (rs := [23]) (by kernel_rfl) (by simp) ?_
  refine AllReadyH.cons (by simp only [List.getElem?_toArray, List.getElem?_cons_succ, List.getElem?_cons_zero]; rfl) (fun K hK => ?_) AllReadyH.nil
  go_simp
  refine hK.out _ _ (HS.out _ (by repeat (first | exact Below.refl _ _ | refine Below.drew ?_ | refine Below.alloc ?_ (by first | exact Nat.le_refl _ | (simp; done) | (simp; omega)) _))) (fun hHeld => ?_)
  clear hK K
  try simp only [Act.put, List.setIfInBounds_toArray, List.set_cons_zero, List.set_cons_succ]
  refine wpAnyH_take (i := 24) (v := ?_) (by simp only [List.getElem?_toArray, List.getElem?_cons_succ, List.getElem?_cons_zero]; rfl) (by kernel_rfl) (by kernel_rfl) (by kernel_rfl) (by exact fun _ _ _ h => h) (Or.inl ⟨by rfl, ?_⟩) (by assumption) ?_
  rotate_left
  · intro w hSw; (try dsimp only at hSw); go_split_ands; go_simp <;> with_reducible rfl
  try simp only [Act.put, List.setIfInBounds_toArray, List.set_cons_zero, List.set_cons_succ]
  refine wpAnyH_take (i := 25) (v := ?_) (by simp only [List.getElem?_toArray, List.getElem?_cons_succ, List.getElem?_cons_zero]; rfl) (by kernel_rfl) (by kernel_rfl) (by kernel_rfl) (by exact fun _ _ _ h => h) (Or.inl ⟨by rfl, ?_⟩) (by assumption) ?_
  rotate_left
  · intro w hSw; (try dsimp only at hSw); go_split_ands; go_simp <;> with_reducible rfl
  try simp only [Act.put, List.setIfInBounds_toArray, List.set_cons_zero, List.set_cons_succ]
  refine wpAnyH_take (i := 26) (v := ?_) (by simp only [List.getElem?_toArray, List.getElem?_cons_succ, List.getElem?_cons_zero]; rfl) (by kernel_rfl) (by kernel_rfl) (by kernel_rfl) (by exact fun _ _ _ h => h) (Or.inl ⟨by rfl, ?_⟩) (by assumption) ?_
  rotate_left
  · intro w hSw; (try dsimp only at hSw); go_split_ands; go_simp <;> with_reducible rfl
  try simp only [Act.put, List.setIfInBounds_toArray, List.set_cons_zero, List.set_cons_succ]
  refine wpAnyH_ready (rs := [27]) (by kernel_rfl) (by simp) ?_
  refine AllReadyH.cons (by simp only [List.getElem?_toArray, List.getElem?_cons_succ, List.getElem?_cons_zero]; rfl) (fun K hK => ?_) AllReadyH.nil
  go_simp
  refine hK.out _ _ (HS.out _ (by repeat (first | exact Below.refl _ _ | refine Below.drew ?_ | refine Below.alloc ?_ (by first | exact Nat.le_refl _ | (simp; done) | (simp; omega)) _))) (fun hHeld => ?_)
  clear hK K
  try simp only [Act.put, List.setIfInBounds_toArray, List.set_cons_zero, List.set_cons_succ]
  refine wpAnyH_ready (rs := [28]) (by kernel_rfl) (by simp) ?_
  refine AllReadyH.cons (by simp only [List.getElem?_toArray, List.getElem?_cons_succ, List.getElem?_cons_zero]; rfl) (fun K hK => ?_) AllReadyH.nil
  go_simp
  refine hK.out _ _ (HS.out _ (by repeat (first | exact Below.refl _ _ | refine Below.drew ?_ | refine Below.alloc ?_ (by first | exact Nat.le_refl _ | (simp; done) | (simp; omega)) _))) (fun hHeld => ?_)
  clear hK K
  try simp only [Act.put, List.setIfInBounds_toArray, List.set_cons_zero, List.set_cons_succ]
  refine wpAnyH_ready (rs := [29]) (by kernel_rfl) (by simp) ?_
  refine AllReadyH.cons (by simp only [List.getElem?_toArray, List.getElem?_cons_succ, List.getElem?_cons_zero]; rfl) (fun K hK => ?_) AllReadyH.nil
  go_simp
  refine HSM.out.mono ?_
  rintro e w4 ⟨rfl, rfl⟩
  go_simp
  refine hK.out _ _ (HS.out _ (by repeat (first | exact Below.refl _ _ | refine Below.drew ?_ | refine Below.alloc ?_ (by first | exact Nat.le_refl _ | (simp; done) | (simp; omega)) _))) (fun hHeld => ?_)
  clear hK K
  try simp only [Act.put, List.setIfInBounds_toArray, List.set_cons_zero, List.set_cons_succ]
  refine wpAnyH_take (i := 30) (v := ?_) (by simp only [List.getElem?_toArray, List.getElem?_cons_succ, List.getElem?_cons_zero]; rfl) (by kernel_rfl) (by kernel_rfl) (by kernel_rfl) (by exact fun _ _ _ h => h) (Or.inl ⟨by rfl, ?_⟩) (by assumption) ?_
  rotate_left
  · intro w hSw; (try dsimp only at hSw); go_split_ands; go_simp <;> with_reducible rfl
  try simp only [Act.put, List.setIfInBounds_toArray, List.set_cons_zero, List.set_cons_succ]
  refine wpAnyH_take (i := 31) (v := ?_) (by simp only [List.getElem?_toArray, List.getElem?_cons_succ, List.getElem?_cons_zero]; rfl) (by kernel_rfl) (by kernel_rfl) (by kernel_rfl) (by exact fun _ _ _ h => h) (Or.inl ⟨by rfl, ?_⟩) (by assumption) ?_
  rotate_left
  · intro w hSw; (try dsimp only at hSw); go_split_ands; go_simp <;> with_reducible rfl
  try simp only [Act.put, List.setIfInBounds_toArray, List.set_cons_zero, List.set_cons_succ]
  refine wpAnyH_take (i := 32) (v := ?_) (by simp only [List.getElem?_toArray, List.getElem?_cons_succ, List.getElem?_cons_zero]; rfl) (by kernel_rfl) (by kernel_rfl) (by kernel_rfl) (by exact fun _ _ _ h => h) (Or.inl ⟨by rfl, ?_⟩) (by assumption) ?_
  rotate_left
  · intro w hSw; (try dsimp only at hSw); go_split_ands; go_simp <;> with_reducible rfl
  try simp only [Act.put, List.setIfInBounds_toArray, List.set_cons_zero, List.set_cons_succ]
  refine wpAnyH_done (by kernel_rfl) ?_ _
  go_wp2_with fail
  go_ret
  exact ⟨rfl, hb3.trans (HBW.out.mono hb3.size)⟩

end Go.Proofs.Ytijcnefomgfocaa
