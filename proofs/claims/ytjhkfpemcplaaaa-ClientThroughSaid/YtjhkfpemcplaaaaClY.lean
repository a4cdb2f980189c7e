/-
  The walk of sameReplies. No statement of the seat is proved here.
-/
import Derived.Test.YtjhkfpemcplaaaaClX
import Derived.Test.YtjhkfpemcplaaaaPr
namespace Go.Proofs.Ytjhkfpemcplaaaa
open Go.RowKit

set_option maxRecDepth 20000 in
set_option maxHeartbeats 4000000 in
theorem sameR_any {b1 b2 : Nat} {v1 v2 : Value} {l1 l2 : List (QX (Rp))} {w : World} (h1 : RowK kR b1 w v1 l1) (h2 : RowK kR b2 w v2 l2) (he : l1.map (·.1) = l2.map (·.1)) :
    Calls Try.prog 30 #[v1, v2] w fun e w' => e = .returned (.bool true) ∧ Below w.heap.size w w' := by
  have HA := Lib.hid h1
  have HB := Lib.hid h2
  have HE := Lib.hid he
  have hl : l2.length = l1.length := by have := congrArg List.length he; simpa using this.symm
  obtain ⟨A1, c1, rfl, n1, n2⟩ := h1.form
  have n3 : l1.length ≤ 9223372036854775807 := by simp only [maxLen] at n2; omega
  clear n1 n2
  obtain ⟨A2, c2, rfl, _, _⟩ := h2.form
  rw [hl] at HB ⊢
  clear h1 h2 he
  go_enter Try.func30, Try.ntmps30
  go_wp2
  go_loopw [5] (fun V wr => ∃ i : Nat, i ≤ l1.length ∧ V = .int .i64 (i : Int) ∧ Below w.heap.size w wr) (fun V _ => l1.length - (intOf V).toNat)
  case atStart => exact ⟨0, Nat.zero_le _, rfl, Below.refl _ _⟩
  case round =>
    obtain ⟨i, hi9, rfl, hbr⟩ := hrel
    by_cases hlt : i < l1.length
    · obtain ⟨q1, hq1⟩ : ∃ q, l1[i]? = some q := ⟨_, List.getElem?_eq_getElem hlt⟩
      obtain ⟨q2, hq2⟩ : ∃ q, l2[i]? = some q := ⟨_, List.getElem?_eq_getElem (by omega)⟩
      have hqq : q2.1 = q1.1 := by
        have h3 := congrArg (fun l => l[i]?) HE.out
        simp only [List.getElem?_map, hq1, hq2, Option.map_some, Option.some.injEq] at h3
        exact h3.symm
      have r1 := HA.out.below hbr
      have r2 : RowK kR b2 wr (.slice A2 l2.length c2) l2 := by have := HB.out.below hbr; rw [hl]; exact this
      obtain ⟨g1, d1, e1, _, m1, k1⟩ := r1.at_ kR_len hq1
      obtain ⟨g2, d2, e2, _, m2, k2⟩ := r2.at_ kR_len hq2
      injection e1 with ea _ ec
      injection e2 with eb _ ed
      subst ea eb ec ed
      have HQ1 := Lib.hid (r1.els q1 (List.mem_of_getElem? hq1))
      have HQ2 := Lib.hid (r2.els q2 (List.mem_of_getElem? hq2))
      obtain ⟨⟨er, vs, tx⟩, Aq, cq⟩ := q1
      obtain ⟨rp2, Aq2, cq2⟩ := q2
      dsimp only at hqq
      subst hqq
      have x1 : wr.cell? ⟨g1, i * 3, none⟩ = some (.int .i64 er) := k1 0 _ rfl
      have x2 : wr.cell? ⟨g1, i * 3 + 1, none⟩ = some (.slice Aq vs.length cq) := k1 1 _ rfl
      have x3 : wr.cell? ⟨g1, i * 3 + 2, none⟩ = some (.string ⟨tx.toArray⟩) := k1 2 _ rfl
      have z1 : wr.cell? ⟨g2, i * 3, none⟩ = some (.int .i64 er) := k2 0 _ rfl
      have z2 : wr.cell? ⟨g2, i * 3 + 1, none⟩ = some (.slice Aq2 vs.length cq2) := k2 1 _ rfl
      have z3 : wr.cell? ⟨g2, i * 3 + 2, none⟩ = some (.string ⟨tx.toArray⟩) := k2 2 _ rfl
      have HRA : Hid (Reads wr wr.heap.size 2 Aq vs.length (vcells vs)) := Lib.hid (Reads.of_own HQ1.out)
      have HRB : Hid (Reads wr wr.heap.size 2 Aq2 vs.length (vcells vs)) := Lib.hid (Reads.of_own HQ2.out)
      have HVL : Hid (vs.length ≤ 9223372036854775807) := Lib.hid (by
        obtain ⟨_, _, _, u1, u2⟩ := own_formL HQ1.out
        exact Nat.le_trans (show vs.length ≤ _ from u1) u2)
      have HSM : Hid (∀ w', Below wr.heap.size wr w' → Calls Try.prog 27 #[.agg #[.int .i64 er, .slice Aq vs.length cq, .string ⟨tx.toArray⟩], .agg #[.int .i64 er, .slice Aq2 vs.length cq2, .string ⟨tx.toArray⟩]] w' fun e w2 => e = .returned (.bool true) ∧ Below w'.heap.size w' w2) := Lib.hid fun w' hb => samer_any er Aq Aq2 vs.length cq cq2 ⟨tx.toArray⟩ vs w' ((HRA.out.below hb).more hb.size) ((HRB.out.below hb).more hb.size) HVL.out
      have x10 : ∀ w3, Below wr.heap.size wr w3 → w3.cell? ⟨g1, i * 3, none⟩ = some (.int .i64 er) ∧ w3.cell? ⟨g1, i * 3 + 1, none⟩ = some (.slice Aq vs.length cq) ∧ w3.cell? ⟨g1, i * 3 + 2, none⟩ = some (.string ⟨tx.toArray⟩) ∧ w3.cell? ⟨g2, i * 3, none⟩ = some (.int .i64 er) ∧ w3.cell? ⟨g2, i * 3 + 1, none⟩ = some (.slice Aq2 vs.length cq2) ∧ w3.cell? ⟨g2, i * 3 + 2, none⟩ = some (.string ⟨tx.toArray⟩) := fun w3 h => ⟨(h.cell (p := ⟨g1, i * 3, none⟩) m1).trans x1, (h.cell (p := ⟨g1, i * 3 + 1, none⟩) m1).trans x2, (h.cell (p := ⟨g1, i * 3 + 2, none⟩) m1).trans x3, (h.cell (p := ⟨g2, i * 3, none⟩) m2).trans z1, (h.cell (p := ⟨g2, i * 3 + 1, none⟩) m2).trans z2, (h.cell (p := ⟨g2, i * 3 + 2, none⟩) m2).trans z3⟩
      have l3 : (0 : Int) ≤ (i : Int) := by omega
      have l4 : (i : Int) < (l1.length : Int) := by omega
      have HBR := Lib.hid hbr
      have hws := hbr.size
      have HLT := Lib.hid hlt
      clear k1 k2 r1 r2 hq1 hq2 hbr
      go_upto_region 6 with fail
      clear x1 x2 x3 z1 z2 z3
      refine wp_region_held_drew (S := fun W => W.cell? ⟨g1, i * 3, none⟩ = some (.int .i64 er) ∧ W.cell? ⟨g1, i * 3 + 1, none⟩ = some (.slice Aq vs.length cq) ∧ W.cell? ⟨g1, i * 3 + 2, none⟩ = some (.string ⟨tx.toArray⟩) ∧ W.cell? ⟨g2, i * 3, none⟩ = some (.int .i64 er) ∧ W.cell? ⟨g2, i * 3 + 1, none⟩ = some (.slice Aq2 vs.length cq2) ∧ W.cell? ⟨g2, i * 3 + 2, none⟩ = some (.string ⟨tx.toArray⟩)) (by kernel_rfl) (x10 _ (Below.refl _ _).drew) (fun hHeld => ?_)
      refine wpAnyH_take (i := 0) (v := ?_) (by simp only [List.getElem?_toArray, List.getElem?_cons_zero]; rfl) (by kernel_rfl) (by kernel_rfl) (by kernel_rfl) (by exact fun _ _ _ h => h) (Or.inl ⟨by rfl, ?_⟩) (by assumption) ?_
      rotate_left
      · intro w hSw; (try dsimp only at hSw); go_split_ands; go_simp <;> with_reducible rfl
      try simp only [Act.put, List.setIfInBounds_toArray, List.set_cons_zero, List.set_cons_succ]
      refine wpAnyH_take (i := 1) (v := ?_) (by simp only [List.getElem?_toArray, List.getElem?_cons_succ, List.getElem?_cons_zero]; rfl) (by kernel_rfl) (by kernel_rfl) (by kernel_rfl) (by exact fun _ _ _ h => h) (Or.inl ⟨by rfl, ?_⟩) (by assumption) ?_
      rotate_left
      · intro w hSw; (try dsimp only at hSw); go_split_ands; go_simp <;> with_reducible rfl
      try simp only [Act.put, List.setIfInBounds_toArray, List.set_cons_zero, List.set_cons_succ]
      refine wpAnyH_take (i := 2) (v := ?_) (by simp only [List.getElem?_toArray, List.getElem?_cons_succ, List.getElem?_cons_zero]; rfl) (by kernel_rfl) (by kernel_rfl) (by kernel_rfl) (by exact fun _ _ _ h => h) (Or.inl ⟨by rfl, ?_⟩) (by assumption) ?_
      rotate_left
      · intro w hSw; (try dsimp only at hSw); go_split_ands; go_simp <;> with_reducible rfl
      try simp only [Act.put, List.setIfInBounds_toArray, List.set_cons_zero, List.set_cons_succ]
      refine wpAnyH_take (i := 3) (v := ?_) (by simp only [List.getElem?_toArray, List.getElem?_cons_succ, List.getElem?_cons_zero]; rfl) (by kernel_rfl) (by kernel_rfl) (by kernel_rfl) (by exact fun _ _ _ h => h) (Or.inl ⟨by rfl, ?_⟩) (by assumption) ?_
      rotate_left
      · intro w hSw; (try dsimp only at hSw); go_split_ands; go_simp <;> with_reducible rfl
      try simp only [Act.put, List.setIfInBounds_toArray, List.set_cons_zero, List.set_cons_succ]
      refine wpAnyH_take (i := 4) (v := ?_) (by simp only [List.getElem?_toArray, List.getElem?_cons_succ, List.getElem?_cons_zero]; rfl) (by kernel_rfl) (by kernel_rfl) (by kernel_rfl) (by exact fun _ _ _ h => h) (Or.inl ⟨by rfl, ?_⟩) (by assumption) ?_
      rotate_left
      · intro w hSw; (try dsimp only at hSw); go_split_ands; go_simp <;> with_reducible rfl
      try simp only [Act.put, List.setIfInBounds_toArray, List.set_cons_zero, List.set_cons_succ]
      refine wpAnyH_take (i := 5) (v := ?_) (by simp only [List.getElem?_toArray, List.getElem?_cons_succ, List.getElem?_cons_zero]; rfl) (by kernel_rfl) (by kernel_rfl) (by kernel_rfl) (by exact fun _ _ _ h => h) (Or.inl ⟨by rfl, ?_⟩) (by assumption) ?_
      rotate_left
      · intro w hSw; (try dsimp only at hSw); go_split_ands; go_simp <;> with_reducible rfl
      try simp only [Act.put, List.setIfInBounds_toArray, List.set_cons_zero, List.set_cons_succ]
      refine wpAnyH_take (i := 6) (v := ?_) (by simp only [List.getElem?_toArray, List.getElem?_cons_succ, List.getElem?_cons_zero]; rfl) (by kernel_rfl) (by kernel_rfl) (by kernel_rfl) (by exact fun _ _ _ h => h) (Or.inl ⟨by rfl, ?_⟩) (by assumption) ?_
      rotate_left
      · intro w hSw; (try dsimp only at hSw); go_split_ands; go_simp <;> with_reducible rfl
      try simp only [Act.put, List.setIfInBounds_toArray, List.set_cons_zero, List.set_cons_succ]
      refine wpAnyH_take (i := 7) (v := ?_) (by simp only [List.getElem?_toArray, List.getElem?_cons_succ, List.getElem?_cons_zero]; rfl) (by kernel_rfl) (by kernel_rfl) (by kernel_rfl) (by exact fun _ _ _ h => h) (Or.inl ⟨by rfl, ?_⟩) (by assumption) ?_
      rotate_left
      · intro w hSw; (try dsimp only at hSw); go_split_ands; go_simp <;> with_reducible rfl
      try simp only [Act.put, List.setIfInBounds_toArray, List.set_cons_zero, List.set_cons_succ]
      refine wpAnyH_ready (rs := [8]) (by kernel_rfl) (by simp) ?_
      refine AllReadyH.cons (by simp only [List.getElem?_toArray, List.getElem?_cons_succ, List.getElem?_cons_zero]; rfl) (fun K hK => ?_) AllReadyH.nil
      go_simp
      go_at_call 27
      refine (HSM.out _ (Below.refl _ _).drew).mono ?_
      rintro e w2 ⟨rfl, hb2⟩
      have HB2 : Hid (Below wr.heap.size wr w2) := Lib.hid ⟨hb2.os, hb2.tape, hb2.output, hb2.size, hb2.block⟩
      have hS3 := x10 w2 HB2.out
      clear hb2
      try go_simp
      refine hK.out _ _ (hS3) (fun hHeld => ?_)
      clear hK K
      try simp only [Act.put, List.setIfInBounds_toArray, List.set_cons_zero, List.set_cons_succ]
      refine wpAnyH_ready (rs := [9]) (by kernel_rfl) (by simp) ?_
      refine AllReadyH.cons (by simp only [List.getElem?_toArray, List.getElem?_cons_succ, List.getElem?_cons_zero]; rfl) (fun K hK => ?_) AllReadyH.nil
      go_simp
      refine hK.out _ _ (hHeld) (fun hHeld => ?_)
      clear hK K
      try simp only [Act.put, List.setIfInBounds_toArray, List.set_cons_zero, List.set_cons_succ]
      refine wpAnyH_done (by kernel_rfl) ?_ _
      go_wp2
      go_roundw
      case rel => exact ⟨i + 1, HLT.out, by go_num, HBR.out.trans (HB2.out.mono hws)⟩
      case measure => have := HLT.out; simp [intOf]; omega
    · obtain rfl : i = l1.length := by omega
      go_wp2
      go_ret
      exact ⟨rfl, hbr⟩
end Go.Proofs.Ytjhkfpemcplaaaa
