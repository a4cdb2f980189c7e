/-
  The walk of event. No statement of the seat is proved here.
-/
import Derived.Test.YtjhkfpemcplaaaaClG
import Derived.Test.YtjhkfpemcplaaaaHeldX
namespace Go.Proofs.Ytjhkfpemcplaaaa
open Go.RowKit

theorem info70 : (Try.prog.info? 70).map (fun i => (i.zero, i.size, i.bytes)) = some (some (.agg #[.int .u64 0, .int .i64 0, .slice none 0 0, .string ByteArray.empty]), 4, 56) := by kernel_rfl
theorem info53 : (Try.prog.info? 53).map (fun i => (i.zero, i.size, i.bytes)) = some (some (.agg #[.int .i64 0, .slice none 0 0, .string ByteArray.empty]), 3, 48) := by kernel_rfl
theorem read_one (w : World) (cs : List Value) (t : TypeId) : Reads (w.alloc (.cells cs.toArray t)) (w.heap.size + 1) cs.length (some ⟨w.heap.size, 0, none⟩) 1 cs := by
  have := Reads.built w t cs
  refine ⟨by simp, fun _ => ?_⟩
  rcases Nat.eq_zero_or_pos cs.length with h0 | h0
  · exact ⟨_, rfl, by simp, fun j u hu => by rw [List.getElem?_eq_none (by omega)] at hu; cases hu⟩
  · exact this.2 h0
set_option maxRecDepth 20000 in
set_option maxHeartbeats 4000000 in
theorem event_any {base N : Nat} {p : Pa} {c : Cl} {w : World} (q : Pk) (A : Option Addr) (cc : Nat) (h : CA base w p c) (ok : c.Ok N) (hN : (N + 1) * 56 ≤ 140737488355328) (hr : RdB w w.heap.size A q.body.length q.body) (hcc : q.body.length ≤ cc) (hlen : q.body.length ≤ 1024) :
    Calls Try.prog 79 #[.pointer (some ⟨p.g, 0, none⟩), pkV q A cc] w (MetP base w p (evtF c q)) := by
  have hB := Bx.start (cc := cc) hr
  have hS1 := (Stp.refl h 0).below hB.old
  obtain ⟨w1, hw1⟩ : ∃ w1, w.alloc (.cells (pkC q A cc) 39) = w1 := ⟨_, rfl⟩
  rw [hw1] at hB hS1
  have HB := Lib.hid hB
  have HS1 := Lib.hid hS1
  have x0 : w1.cell? ⟨w.heap.size, 0, none⟩ = some (.int .i64 (q.kind : Int)) := hB.blk.cell 0
  have x1 : w1.cell? ⟨w.heap.size, 1, none⟩ = some (.int .u64 (q.tok : Int)) := hB.blk.cell 1
  have x2 : w1.cell? ⟨w.heap.size, 2, none⟩ = some (.int .u64 (q.seq : Int)) := hB.blk.cell 2
  have x3 : w1.cell? ⟨w.heap.size, 3, none⟩ = some (.int .u64 (q.ack : Int)) := hB.blk.cell 3
  have x4 : w1.cell? ⟨w.heap.size, 4, none⟩ = some (.slice A q.body.length cc) := hB.blk.cell 4
  have HO := Lib.hid (ours_any (hS1.ca.keep (w' := w1.drew) fun _ _ => rfl) q A cc)
  have HOB : Hid ((decide (c.tok ≠ 0) && decide (q.tok = c.tok)) = oursB c q) := Lib.hid rfl
  rw [HOB.out] at HO
  have k12 : w1.cell? ⟨p.g, 12, none⟩ = some (.int .u64 (c.ev : Int)) := hS1.ca.cells 12
  have hg1 := hS1.ca.blk.lt
  have hwb := hB.blk.lt
  have HX := Lib.hid fun (W : World) (hb : Below w1.heap.size w1 W) => (show W.cell? ⟨w.heap.size, 0, none⟩ = some (.int .i64 (q.kind : Int)) ∧ W.cell? ⟨w.heap.size, 1, none⟩ = some (.int .u64 (q.tok : Int)) ∧ W.cell? ⟨w.heap.size, 2, none⟩ = some (.int .u64 (q.seq : Int)) ∧ W.cell? ⟨w.heap.size, 3, none⟩ = some (.int .u64 (q.ack : Int)) ∧ W.cell? ⟨w.heap.size, 4, none⟩ = some (.slice A q.body.length cc) ∧ W.cell? ⟨p.g, 12, none⟩ = some (.int .u64 (c.ev : Int)) from ⟨(hb.cell (p := ⟨w.heap.size, 0, none⟩) hwb).trans x0, (hb.cell (p := ⟨w.heap.size, 1, none⟩) hwb).trans x1, (hb.cell (p := ⟨w.heap.size, 2, none⟩) hwb).trans x2, (hb.cell (p := ⟨w.heap.size, 3, none⟩) hwb).trans x3, (hb.cell (p := ⟨w.heap.size, 4, none⟩) hwb).trans x4, (hb.cell (p := ⟨p.g, 12, none⟩) hg1).trans k12⟩)
  have hS := HX.out w1.drew (Below.refl _ _).drew
  unfold pkV at HO ⊢
  unfold pkC at hw1
  have HOK := Lib.hid ok
  clear h ok hr hB hS1
  go_enter Try.func79, Try.ntmps79
  go_upto_region 1 with fail
  cases ho : oursB c q with
  | false =>
    have HF : Hid (evtF c q = ([], c)) := Lib.hid (by unfold evtF; rw [if_pos (.inl ho)])
    rw [ho] at HO
    refine wp_region_held_drew (S := fun W => W.cell? ⟨w.heap.size, 0, none⟩ = some (.int .i64 (q.kind : Int)) ∧ W.cell? ⟨w.heap.size, 1, none⟩ = some (.int .u64 (q.tok : Int)) ∧ W.cell? ⟨w.heap.size, 2, none⟩ = some (.int .u64 (q.seq : Int)) ∧ W.cell? ⟨w.heap.size, 3, none⟩ = some (.int .u64 (q.ack : Int)) ∧ W.cell? ⟨w.heap.size, 4, none⟩ = some (.slice A q.body.length cc) ∧ W.cell? ⟨p.g, 12, none⟩ = some (.int .u64 (c.ev : Int))) (by kernel_rfl) hS (fun hHeld => ?_)
    refine wpAnyH_take (i := 0) (v := ?_) (by simp only [List.getElem?_toArray, List.getElem?_cons_zero]; rfl) (by kernel_rfl) (by kernel_rfl) (by kernel_rfl) (by exact fun _ _ _ h => h) (Or.inl ⟨by rfl, ?_⟩) (by assumption) ?_
    rotate_left
    · intro w hSw; (try dsimp only at hSw); go_split_ands; go_simp <;> with_reducible rfl
    try simp only [Act.put, List.setIfInBounds_toArray, List.set_cons_zero, List.set_cons_succ]
    refine wpAnyH_take (i := 1) (v := ?_) (by simp only [List.getElem?_toArray, List.getElem?_cons_succ, List.getElem?_cons_zero]; rfl) (by kernel_rfl) (by kernel_rfl) (by kernel_rfl) (by exact fun _ _ _ h => h) (Or.inl ⟨by rfl, ?_⟩) (by assumption) ?_
    rotate_left
    · intro w hSw; (try dsimp only at hSw); go_split_ands; go_simp <;> with_reducible rfl
    try simp only [Act.put, List.setIfInBounds_toArray, List.set_cons_zero, List.set_cons_succ]
    refine wpAnyH_ready (rs := [2]) (by kernel_rfl) (by simp) ?_
    refine AllReadyH.cons (by simp only [List.getElem?_toArray, List.getElem?_cons_succ, List.getElem?_cons_zero]; rfl) (fun K hK => ?_) AllReadyH.nil
    go_simp
    go_at_call 91
    refine HO.out.mono ?_
    rintro e w2 ⟨rfl, hb2⟩
    have HB2 : Hid (Below w1.heap.size w1 w2) := Lib.hid ⟨hb2.os, hb2.tape, hb2.output, hb2.size, hb2.block⟩
    have hS2 := HX.out w2 HB2.out
    clear hb2
    try go_simp
    refine hK.out _ _ (hS2) (fun hHeld => ?_)
    clear hK K
    try simp only [Act.put, List.setIfInBounds_toArray, List.set_cons_zero, List.set_cons_succ]
    refine wpAnyH_take (i := 3) (v := ?_) (by simp only [List.getElem?_toArray, List.getElem?_cons_succ, List.getElem?_cons_zero]; rfl) (by kernel_rfl) (by kernel_rfl) (by kernel_rfl) (by exact fun _ _ _ h => h) (Or.inl ⟨by rfl, ?_⟩) (by assumption) ?_
    rotate_left
    · intro w hSw; (try dsimp only at hSw); go_split_ands; go_simp <;> with_reducible rfl
    try simp only [Act.put, List.setIfInBounds_toArray, List.set_cons_zero, List.set_cons_succ]
    refine wpAnyH_take (i := 4) (v := ?_) (by simp only [List.getElem?_toArray, List.getElem?_cons_succ, List.getElem?_cons_zero]; rfl) (by kernel_rfl) (by kernel_rfl) (by kernel_rfl) (by exact fun _ _ _ h => h) (Or.inl ⟨by rfl, ?_⟩) (by assumption) ?_
    rotate_left
    · intro w hSw; (try dsimp only at hSw); go_split_ands; go_simp <;> with_reducible rfl
    try simp only [Act.put, List.setIfInBounds_toArray, List.set_cons_zero, List.set_cons_succ]
    refine wpAnyH_take (i := 5) (v := undef) (by simp only [List.getElem?_toArray, List.getElem?_cons_succ, List.getElem?_cons_zero]; rfl) (by kernel_rfl) (by kernel_rfl) (by kernel_rfl) (by exact fun _ _ _ h => h) (Or.inr ⟨by rfl, by rfl⟩) (by assumption) ?_
    try simp only [Act.put, List.setIfInBounds_toArray, List.set_cons_zero, List.set_cons_succ]
    refine wpAnyH_take (i := 6) (v := undef) (by simp only [List.getElem?_toArray, List.getElem?_cons_succ, List.getElem?_cons_zero]; rfl) (by kernel_rfl) (by kernel_rfl) (by kernel_rfl) (by exact fun _ _ _ h => h) (Or.inr ⟨by rfl, by rfl⟩) (by assumption) ?_
    try simp only [Act.put, List.setIfInBounds_toArray, List.set_cons_zero, List.set_cons_succ]
    refine wpAnyH_take (i := 7) (v := undef) (by simp only [List.getElem?_toArray, List.getElem?_cons_succ, List.getElem?_cons_zero]; rfl) (by kernel_rfl) (by kernel_rfl) (by kernel_rfl) (by exact fun _ _ _ h => h) (Or.inr ⟨by rfl, by rfl⟩) (by assumption) ?_
    try simp only [Act.put, List.setIfInBounds_toArray, List.set_cons_zero, List.set_cons_succ]
    refine wpAnyH_take (i := 8) (v := undef) (by simp only [List.getElem?_toArray, List.getElem?_cons_succ, List.getElem?_cons_zero]; rfl) (by kernel_rfl) (by kernel_rfl) (by kernel_rfl) (by exact fun _ _ _ h => h) (Or.inr ⟨by rfl, by rfl⟩) (by assumption) ?_
    try simp only [Act.put, List.setIfInBounds_toArray, List.set_cons_zero, List.set_cons_succ]
    refine wpAnyH_take (i := 9) (v := undef) (by simp only [List.getElem?_toArray, List.getElem?_cons_succ, List.getElem?_cons_zero]; rfl) (by kernel_rfl) (by kernel_rfl) (by kernel_rfl) (by exact fun _ _ _ h => h) (Or.inr ⟨by rfl, by rfl⟩) (by assumption) ?_
    try simp only [Act.put, List.setIfInBounds_toArray, List.set_cons_zero, List.set_cons_succ]
    refine wpAnyH_take (i := 10) (v := undef) (by simp only [List.getElem?_toArray, List.getElem?_cons_succ, List.getElem?_cons_zero]; rfl) (by kernel_rfl) (by kernel_rfl) (by kernel_rfl) (by exact fun _ _ _ h => h) (Or.inr ⟨by rfl, by rfl⟩) (by assumption) ?_
    try simp only [Act.put, List.setIfInBounds_toArray, List.set_cons_zero, List.set_cons_succ]
    refine wpAnyH_take (i := 11) (v := undef) (by simp only [List.getElem?_toArray, List.getElem?_cons_succ, List.getElem?_cons_zero]; rfl) (by kernel_rfl) (by kernel_rfl) (by kernel_rfl) (by exact fun _ _ _ h => h) (Or.inr ⟨by rfl, by rfl⟩) (by assumption) ?_
    try simp only [Act.put, List.setIfInBounds_toArray, List.set_cons_zero, List.set_cons_succ]
    refine wpAnyH_take (i := 12) (v := undef) (by simp only [List.getElem?_toArray, List.getElem?_cons_succ, List.getElem?_cons_zero]; rfl) (by kernel_rfl) (by kernel_rfl) (by kernel_rfl) (by exact fun _ _ _ h => h) (Or.inr ⟨by rfl, by rfl⟩) (by assumption) ?_
    try simp only [Act.put, List.setIfInBounds_toArray, List.set_cons_zero, List.set_cons_succ]
    refine wpAnyH_take (i := 13) (v := ?_) (by simp only [List.getElem?_toArray, List.getElem?_cons_succ, List.getElem?_cons_zero]; rfl) (by kernel_rfl) (by kernel_rfl) (by kernel_rfl) (by exact fun _ _ _ h => h) (Or.inl ⟨by rfl, ?_⟩) (by assumption) ?_
    rotate_left
    · intro w hSw; (try dsimp only at hSw); go_split_ands; go_simp <;> with_reducible rfl
    try simp only [Act.put, List.setIfInBounds_toArray, List.set_cons_zero, List.set_cons_succ]
    refine wpAnyH_done (by kernel_rfl) ?_ _
    go_wp2
    go_ret
    rw [HF.out]
    exact ⟨_, [], p, rfl, HS1.out.below HB2.out, Frs.nil _ _ _⟩
  | true =>
    rw [ho] at HO
    by_cases hse : q.seq ≤ c.ev
    · have HF : Hid (evtF c q = ([], c)) := Lib.hid (by unfold evtF; rw [if_pos (.inr hse)])
      have l1 : (q.seq : Int) ≤ (c.ev : Int) := by omega
      refine wp_region_held_drew (S := fun W => W.cell? ⟨w.heap.size, 0, none⟩ = some (.int .i64 (q.kind : Int)) ∧ W.cell? ⟨w.heap.size, 1, none⟩ = some (.int .u64 (q.tok : Int)) ∧ W.cell? ⟨w.heap.size, 2, none⟩ = some (.int .u64 (q.seq : Int)) ∧ W.cell? ⟨w.heap.size, 3, none⟩ = some (.int .u64 (q.ack : Int)) ∧ W.cell? ⟨w.heap.size, 4, none⟩ = some (.slice A q.body.length cc) ∧ W.cell? ⟨p.g, 12, none⟩ = some (.int .u64 (c.ev : Int))) (by kernel_rfl) hS (fun hHeld => ?_)
      refine wpAnyH_take (i := 0) (v := ?_) (by simp only [List.getElem?_toArray, List.getElem?_cons_zero]; rfl) (by kernel_rfl) (by kernel_rfl) (by kernel_rfl) (by exact fun _ _ _ h => h) (Or.inl ⟨by rfl, ?_⟩) (by assumption) ?_
      rotate_left
      · intro w hSw; (try dsimp only at hSw); go_split_ands; go_simp <;> with_reducible rfl
      try simp only [Act.put, List.setIfInBounds_toArray, List.set_cons_zero, List.set_cons_succ]
      refine wpAnyH_take (i := 1) (v := ?_) (by simp only [List.getElem?_toArray, List.getElem?_cons_succ, List.getElem?_cons_zero]; rfl) (by kernel_rfl) (by kernel_rfl) (by kernel_rfl) (by exact fun _ _ _ h => h) (Or.inl ⟨by rfl, ?_⟩) (by assumption) ?_
      rotate_left
      · intro w hSw; (try dsimp only at hSw); go_split_ands; go_simp <;> with_reducible rfl
      try simp only [Act.put, List.setIfInBounds_toArray, List.set_cons_zero, List.set_cons_succ]
      refine wpAnyH_ready (rs := [2]) (by kernel_rfl) (by simp) ?_
      refine AllReadyH.cons (by simp only [List.getElem?_toArray, List.getElem?_cons_succ, List.getElem?_cons_zero]; rfl) (fun K hK => ?_) AllReadyH.nil
      go_simp
      go_at_call 91
      refine HO.out.mono ?_
      rintro e w2 ⟨rfl, hb2⟩
      have HB2 : Hid (Below w1.heap.size w1 w2) := Lib.hid ⟨hb2.os, hb2.tape, hb2.output, hb2.size, hb2.block⟩
      have hS2 := HX.out w2 HB2.out
      clear hb2
      try go_simp
      refine hK.out _ _ (hS2) (fun hHeld => ?_)
      clear hK K
      try simp only [Act.put, List.setIfInBounds_toArray, List.set_cons_zero, List.set_cons_succ]
      refine wpAnyH_take (i := 3) (v := ?_) (by simp only [List.getElem?_toArray, List.getElem?_cons_succ, List.getElem?_cons_zero]; rfl) (by kernel_rfl) (by kernel_rfl) (by kernel_rfl) (by exact fun _ _ _ h => h) (Or.inl ⟨by rfl, ?_⟩) (by assumption) ?_
      rotate_left
      · intro w hSw; (try dsimp only at hSw); go_split_ands; go_simp <;> with_reducible rfl
      try simp only [Act.put, List.setIfInBounds_toArray, List.set_cons_zero, List.set_cons_succ]
      refine wpAnyH_take (i := 4) (v := ?_) (by simp only [List.getElem?_toArray, List.getElem?_cons_succ, List.getElem?_cons_zero]; rfl) (by kernel_rfl) (by kernel_rfl) (by kernel_rfl) (by exact fun _ _ _ h => h) (Or.inl ⟨by rfl, ?_⟩) (by assumption) ?_
      rotate_left
      · intro w hSw; (try dsimp only at hSw); go_split_ands; go_simp <;> with_reducible rfl
      try simp only [Act.put, List.setIfInBounds_toArray, List.set_cons_zero, List.set_cons_succ]
      refine wpAnyH_take (i := 5) (v := ?_) (by simp only [List.getElem?_toArray, List.getElem?_cons_succ, List.getElem?_cons_zero]; rfl) (by kernel_rfl) (by kernel_rfl) (by kernel_rfl) (by exact fun _ _ _ h => h) (Or.inl ⟨by rfl, ?_⟩) (by assumption) ?_
      rotate_left
      · intro w hSw; (try dsimp only at hSw); go_split_ands; go_simp <;> with_reducible rfl
      try simp only [Act.put, List.setIfInBounds_toArray, List.set_cons_zero, List.set_cons_succ]
      refine wpAnyH_take (i := 6) (v := ?_) (by simp only [List.getElem?_toArray, List.getElem?_cons_succ, List.getElem?_cons_zero]; rfl) (by kernel_rfl) (by kernel_rfl) (by kernel_rfl) (by exact fun _ _ _ h => h) (Or.inl ⟨by rfl, ?_⟩) (by assumption) ?_
      rotate_left
      · intro w hSw; (try dsimp only at hSw); go_split_ands; go_simp <;> with_reducible rfl
      try simp only [Act.put, List.setIfInBounds_toArray, List.set_cons_zero, List.set_cons_succ]
      refine wpAnyH_take (i := 7) (v := ?_) (by simp only [List.getElem?_toArray, List.getElem?_cons_succ, List.getElem?_cons_zero]; rfl) (by kernel_rfl) (by kernel_rfl) (by kernel_rfl) (by exact fun _ _ _ h => h) (Or.inl ⟨by rfl, ?_⟩) (by assumption) ?_
      rotate_left
      · intro w hSw; (try dsimp only at hSw); go_split_ands; go_simp <;> with_reducible rfl
      try simp only [Act.put, List.setIfInBounds_toArray, List.set_cons_zero, List.set_cons_succ]
      refine wpAnyH_take (i := 8) (v := ?_) (by simp only [List.getElem?_toArray, List.getElem?_cons_succ, List.getElem?_cons_zero]; rfl) (by kernel_rfl) (by kernel_rfl) (by kernel_rfl) (by exact fun _ _ _ h => h) (Or.inl ⟨by rfl, ?_⟩) (by assumption) ?_
      rotate_left
      · intro w hSw; (try dsimp only at hSw); go_split_ands; go_simp <;> with_reducible rfl
      try simp only [Act.put, List.setIfInBounds_toArray, List.set_cons_zero, List.set_cons_succ]
      refine wpAnyH_take (i := 9) (v := ?_) (by simp only [List.getElem?_toArray, List.getElem?_cons_succ, List.getElem?_cons_zero]; rfl) (by kernel_rfl) (by kernel_rfl) (by kernel_rfl) (by exact fun _ _ _ h => h) (Or.inl ⟨by rfl, ?_⟩) (by assumption) ?_
      rotate_left
      · intro w hSw; (try dsimp only at hSw); go_split_ands; go_simp <;> with_reducible rfl
      try simp only [Act.put, List.setIfInBounds_toArray, List.set_cons_zero, List.set_cons_succ]
      refine wpAnyH_take (i := 10) (v := ?_) (by simp only [List.getElem?_toArray, List.getElem?_cons_succ, List.getElem?_cons_zero]; rfl) (by kernel_rfl) (by kernel_rfl) (by kernel_rfl) (by exact fun _ _ _ h => h) (Or.inl ⟨by rfl, ?_⟩) (by assumption) ?_
      rotate_left
      · intro w hSw; (try dsimp only at hSw); go_split_ands; go_simp <;> with_reducible rfl
      try simp only [Act.put, List.setIfInBounds_toArray, List.set_cons_zero, List.set_cons_succ]
      refine wpAnyH_take (i := 11) (v := ?_) (by simp only [List.getElem?_toArray, List.getElem?_cons_succ, List.getElem?_cons_zero]; rfl) (by kernel_rfl) (by kernel_rfl) (by kernel_rfl) (by exact fun _ _ _ h => h) (Or.inl ⟨by rfl, ?_⟩) (by assumption) ?_
      rotate_left
      · intro w hSw; (try dsimp only at hSw); go_split_ands; go_simp <;> with_reducible rfl
      try simp only [Act.put, List.setIfInBounds_toArray, List.set_cons_zero, List.set_cons_succ]
      refine wpAnyH_take (i := 12) (v := ?_) (by simp only [List.getElem?_toArray, List.getElem?_cons_succ, List.getElem?_cons_zero]; rfl) (by kernel_rfl) (by kernel_rfl) (by kernel_rfl) (by exact fun _ _ _ h => h) (Or.inl ⟨by rfl, ?_⟩) (by assumption) ?_
      rotate_left
      · intro w hSw; (try dsimp only at hSw); go_split_ands; go_simp <;> with_reducible rfl
      try simp only [Act.put, List.setIfInBounds_toArray, List.set_cons_zero, List.set_cons_succ]
      refine wpAnyH_take (i := 13) (v := ?_) (by simp only [List.getElem?_toArray, List.getElem?_cons_succ, List.getElem?_cons_zero]; rfl) (by kernel_rfl) (by kernel_rfl) (by kernel_rfl) (by exact fun _ _ _ h => h) (Or.inl ⟨by rfl, ?_⟩) (by assumption) ?_
      rotate_left
      · intro w hSw; (try dsimp only at hSw); go_split_ands; go_simp <;> with_reducible rfl
      try simp only [Act.put, List.setIfInBounds_toArray, List.set_cons_zero, List.set_cons_succ]
      refine wpAnyH_done (by kernel_rfl) ?_ _
      go_wp2
      go_ret
      rw [HF.out]
      exact ⟨_, [], p, rfl, HS1.out.below HB2.out, Frs.nil _ _ _⟩
    · have l1 : ¬ (q.seq : Int) ≤ (c.ev : Int) := by omega
      refine wp_region_held_drew (S := fun W => W.cell? ⟨w.heap.size, 0, none⟩ = some (.int .i64 (q.kind : Int)) ∧ W.cell? ⟨w.heap.size, 1, none⟩ = some (.int .u64 (q.tok : Int)) ∧ W.cell? ⟨w.heap.size, 2, none⟩ = some (.int .u64 (q.seq : Int)) ∧ W.cell? ⟨w.heap.size, 3, none⟩ = some (.int .u64 (q.ack : Int)) ∧ W.cell? ⟨w.heap.size, 4, none⟩ = some (.slice A q.body.length cc) ∧ W.cell? ⟨p.g, 12, none⟩ = some (.int .u64 (c.ev : Int))) (by kernel_rfl) hS (fun hHeld => ?_)
      refine wpAnyH_take (i := 0) (v := ?_) (by simp only [List.getElem?_toArray, List.getElem?_cons_zero]; rfl) (by kernel_rfl) (by kernel_rfl) (by kernel_rfl) (by exact fun _ _ _ h => h) (Or.inl ⟨by rfl, ?_⟩) (by assumption) ?_
      rotate_left
      · intro w hSw; (try dsimp only at hSw); go_split_ands; go_simp <;> with_reducible rfl
      try simp only [Act.put, List.setIfInBounds_toArray, List.set_cons_zero, List.set_cons_succ]
      refine wpAnyH_take (i := 1) (v := ?_) (by simp only [List.getElem?_toArray, List.getElem?_cons_succ, List.getElem?_cons_zero]; rfl) (by kernel_rfl) (by kernel_rfl) (by kernel_rfl) (by exact fun _ _ _ h => h) (Or.inl ⟨by rfl, ?_⟩) (by assumption) ?_
      rotate_left
      · intro w hSw; (try dsimp only at hSw); go_split_ands; go_simp <;> with_reducible rfl
      try simp only [Act.put, List.setIfInBounds_toArray, List.set_cons_zero, List.set_cons_succ]
      refine wpAnyH_ready (rs := [2]) (by kernel_rfl) (by simp) ?_
      refine AllReadyH.cons (by simp only [List.getElem?_toArray, List.getElem?_cons_succ, List.getElem?_cons_zero]; rfl) (fun K hK => ?_) AllReadyH.nil
      go_simp
      go_at_call 91
      refine HO.out.mono ?_
      rintro e w2 ⟨rfl, hb2⟩
      have HB2 : Hid (Below w1.heap.size w1 w2) := Lib.hid ⟨hb2.os, hb2.tape, hb2.output, hb2.size, hb2.block⟩
      have hS2 := HX.out w2 HB2.out
      clear hb2
      try go_simp
      refine hK.out _ _ (hS2) (fun hHeld => ?_)
      clear hK K
      try simp only [Act.put, List.setIfInBounds_toArray, List.set_cons_zero, List.set_cons_succ]
      refine wpAnyH_take (i := 3) (v := ?_) (by simp only [List.getElem?_toArray, List.getElem?_cons_succ, List.getElem?_cons_zero]; rfl) (by kernel_rfl) (by kernel_rfl) (by kernel_rfl) (by exact fun _ _ _ h => h) (Or.inl ⟨by rfl, ?_⟩) (by assumption) ?_
      rotate_left
      · intro w hSw; (try dsimp only at hSw); go_split_ands; go_simp <;> with_reducible rfl
      try simp only [Act.put, List.setIfInBounds_toArray, List.set_cons_zero, List.set_cons_succ]
      refine wpAnyH_take (i := 4) (v := ?_) (by simp only [List.getElem?_toArray, List.getElem?_cons_succ, List.getElem?_cons_zero]; rfl) (by kernel_rfl) (by kernel_rfl) (by kernel_rfl) (by exact fun _ _ _ h => h) (Or.inl ⟨by rfl, ?_⟩) (by assumption) ?_
      rotate_left
      · intro w hSw; (try dsimp only at hSw); go_split_ands; go_simp <;> with_reducible rfl
      try simp only [Act.put, List.setIfInBounds_toArray, List.set_cons_zero, List.set_cons_succ]
      refine wpAnyH_take (i := 5) (v := ?_) (by simp only [List.getElem?_toArray, List.getElem?_cons_succ, List.getElem?_cons_zero]; rfl) (by kernel_rfl) (by kernel_rfl) (by kernel_rfl) (by exact fun _ _ _ h => h) (Or.inl ⟨by rfl, ?_⟩) (by assumption) ?_
      rotate_left
      · intro w hSw; (try dsimp only at hSw); go_split_ands; go_simp <;> with_reducible rfl
      try simp only [Act.put, List.setIfInBounds_toArray, List.set_cons_zero, List.set_cons_succ]
      refine wpAnyH_take (i := 6) (v := ?_) (by simp only [List.getElem?_toArray, List.getElem?_cons_succ, List.getElem?_cons_zero]; rfl) (by kernel_rfl) (by kernel_rfl) (by kernel_rfl) (by exact fun _ _ _ h => h) (Or.inl ⟨by rfl, ?_⟩) (by assumption) ?_
      rotate_left
      · intro w hSw; (try dsimp only at hSw); go_split_ands; go_simp <;> with_reducible rfl
      try simp only [Act.put, List.setIfInBounds_toArray, List.set_cons_zero, List.set_cons_succ]
      refine wpAnyH_take (i := 7) (v := ?_) (by simp only [List.getElem?_toArray, List.getElem?_cons_succ, List.getElem?_cons_zero]; rfl) (by kernel_rfl) (by kernel_rfl) (by kernel_rfl) (by exact fun _ _ _ h => h) (Or.inl ⟨by rfl, ?_⟩) (by assumption) ?_
      rotate_left
      · intro w hSw; (try dsimp only at hSw); go_split_ands; go_simp <;> with_reducible rfl
      try simp only [Act.put, List.setIfInBounds_toArray, List.set_cons_zero, List.set_cons_succ]
      refine wpAnyH_take (i := 8) (v := ?_) (by simp only [List.getElem?_toArray, List.getElem?_cons_succ, List.getElem?_cons_zero]; rfl) (by kernel_rfl) (by kernel_rfl) (by kernel_rfl) (by exact fun _ _ _ h => h) (Or.inl ⟨by rfl, ?_⟩) (by assumption) ?_
      rotate_left
      · intro w hSw; (try dsimp only at hSw); go_split_ands; go_simp <;> with_reducible rfl
      try simp only [Act.put, List.setIfInBounds_toArray, List.set_cons_zero, List.set_cons_succ]
      refine wpAnyH_take (i := 9) (v := ?_) (by simp only [List.getElem?_toArray, List.getElem?_cons_succ, List.getElem?_cons_zero]; rfl) (by kernel_rfl) (by kernel_rfl) (by kernel_rfl) (by exact fun _ _ _ h => h) (Or.inl ⟨by rfl, ?_⟩) (by assumption) ?_
      rotate_left
      · intro w hSw; (try dsimp only at hSw); go_split_ands; go_simp <;> with_reducible rfl
      try simp only [Act.put, List.setIfInBounds_toArray, List.set_cons_zero, List.set_cons_succ]
      refine wpAnyH_take (i := 10) (v := ?_) (by simp only [List.getElem?_toArray, List.getElem?_cons_succ, List.getElem?_cons_zero]; rfl) (by kernel_rfl) (by kernel_rfl) (by kernel_rfl) (by exact fun _ _ _ h => h) (Or.inl ⟨by rfl, ?_⟩) (by assumption) ?_
      rotate_left
      · intro w hSw; (try dsimp only at hSw); go_split_ands; go_simp <;> with_reducible rfl
      try simp only [Act.put, List.setIfInBounds_toArray, List.set_cons_zero, List.set_cons_succ]
      refine wpAnyH_take (i := 11) (v := ?_) (by simp only [List.getElem?_toArray, List.getElem?_cons_succ, List.getElem?_cons_zero]; rfl) (by kernel_rfl) (by kernel_rfl) (by kernel_rfl) (by exact fun _ _ _ h => h) (Or.inl ⟨by rfl, ?_⟩) (by assumption) ?_
      rotate_left
      · intro w hSw; (try dsimp only at hSw); go_split_ands; go_simp <;> with_reducible rfl
      try simp only [Act.put, List.setIfInBounds_toArray, List.set_cons_zero, List.set_cons_succ]
      refine wpAnyH_take (i := 12) (v := ?_) (by simp only [List.getElem?_toArray, List.getElem?_cons_succ, List.getElem?_cons_zero]; rfl) (by kernel_rfl) (by kernel_rfl) (by kernel_rfl) (by exact fun _ _ _ h => h) (Or.inl ⟨by rfl, ?_⟩) (by assumption) ?_
      rotate_left
      · intro w hSw; (try dsimp only at hSw); go_split_ands; go_simp <;> with_reducible rfl
      try simp only [Act.put, List.setIfInBounds_toArray, List.set_cons_zero, List.set_cons_succ]
      refine wpAnyH_take (i := 13) (v := ?_) (by simp only [List.getElem?_toArray, List.getElem?_cons_succ, List.getElem?_cons_zero]; rfl) (by kernel_rfl) (by kernel_rfl) (by kernel_rfl) (by exact fun _ _ _ h => h) (Or.inl ⟨by rfl, ?_⟩) (by assumption) ?_
      rotate_left
      · intro w hSw; (try dsimp only at hSw); go_split_ands; go_simp <;> with_reducible rfl
      try simp only [Act.put, List.setIfInBounds_toArray, List.set_cons_zero, List.set_cons_succ]
      refine wpAnyH_done (by kernel_rfl) ?_ _
      have HSE := Lib.hid hse
      have HS2 := Lib.hid (HS1.out.below HB2.out)
      have HBX := Lib.hid (HB.out.blk.below HB2.out HB.out.blk.lt)
      have HRD := Lib.hid ((HB.out.rd.below HB2.out).more HB2.out.size)
      have hB2w : w1.heap.size ≤ w2.heap.size := HB2.out.size
      have hB1w : w.heap.size ≤ w1.heap.size := HB.out.old.size
      have HG := Lib.hid (getr_any A q.body.length cc q.body w2 HRD.out hcc (by omega))
      have y4 : w2.cell? ⟨w.heap.size, 4, none⟩ = some (.slice A q.body.length cc) := HBX.out.cell 4
      have z53 : ∀ w : World, (zeroValue 53).run Try.prog w = .ok (.agg #[.int .i64 0, .slice none 0 0, .string ByteArray.empty]) w := fun w => by kernel_rfl
      clear x0 x1 x2 x3 x4 k12 hS hw1 HO HOB HX l1
      by_cases hgd : goodG q.body
      · have HF : Hid (evtF c q = ([], { c with evs := c.evs ++ [(q.seq, repG q.body)], ev := q.seq })) := Lib.hid (by
          unfold evtF
          rw [if_neg (by rintro (h | h); · rw [ho] at h; cases h
                         · exact HSE.out h), getG_yes hgd])
        obtain ⟨rp, hrp⟩ : ∃ rp, repG q.body = rp := ⟨_, rfl⟩
        have HGY : Hid (Calls Try.prog 92 #[.slice A q.body.length cc] w2 fun e w' => ∃ A3 c3, e = .returned (.tuple #[.agg #[.int .i64 rp.err, .slice A3 rp.vals.length c3, .string ⟨rp.text.toArray⟩], .int .i64 0]) ∧ w'.ownsRow w2.heap.size 68 2 (.slice A3 rp.vals.length c3) rp.vals.length (vcells rp.vals) ∧ Below w2.heap.size w2 w') := Lib.hid (HG.out.mono fun e w' ⟨hb, hp⟩ => by
          rcases hp with ⟨_, A3, n3, c3, he, ho3⟩ | ⟨hn, _⟩
          · have hn3 : (repV q.body).1.length = n3 := cells_len ho3
            subst hn3
            subst hrp
            exact ⟨A3, c3, he, ho3, hb⟩
          · exact absurd hgd hn)
        rw [hrp] at HF
        clear HG hgd hrp
        go_upto_region 4 with (go_at_call 92; refine HGY.out.mono ?_; rintro e w3 ⟨A3, c3, rfl, ho3, hb3⟩; have HO3 := Lib.hid ho3; have HB3 := Lib.hid hb3; clear ho3 hb3)
        have HQ := Lib.hid (Blk.new w3 53 #[.int .i64 rp.err, .slice A3 rp.vals.length c3, .string ⟨rp.text.toArray⟩])
        have HB4 : Hid (Below w2.heap.size w2 (w3.alloc (.cells #[.int .i64 rp.err, .slice A3 rp.vals.length c3, .string ⟨rp.text.toArray⟩] 53))) := Lib.hid (HB3.out.alloc HB3.out.size _)
        have HO4 := Lib.hid (World.ownsRow.alloc HO3.out (.cells #[.int .i64 rp.err, .slice A3 rp.vals.length c3, .string ⟨rp.text.toArray⟩] 53))
        generalize w3.alloc (.cells #[.int .i64 rp.err, .slice A3 rp.vals.length c3, .string ⟨rp.text.toArray⟩] 53) = w4 at *
        generalize w3.heap.size = b3 at *
        have HS4 := Lib.hid (HS2.out.below HB4.out)
        have HBX4 := Lib.hid (HBX.out.below HB4.out HBX.out.lt)
        clear y4 HGY HB3 HO3 HBX HRD HS2
        go_upto_region 6 with fail
        obtain ⟨Av, cv, hev, _, _⟩ := HS4.out.ca.rows.e.form
        have HEV := Lib.hid hev
        have HROW := Lib.hid HS4.out.ca.rows.e.row
        rw [hev] at HROW
        have q6 : w4.cell? ⟨p.g, 6, none⟩ = some (.slice Av p.el.length cv) := (HS4.out.ca.cells 6).trans (by rw [← hev]; rfl)
        have q12 : w4.cell? ⟨p.g, 12, none⟩ = some (.int .u64 (c.ev : Int)) := HS4.out.ca.cells 12
        have r0 : w4.cell? ⟨b3, 0, none⟩ = some (.int .i64 rp.err) := HQ.out.cell 0
        have r1 : w4.cell? ⟨b3, 1, none⟩ = some (.slice A3 rp.vals.length c3) := HQ.out.cell 1
        have r2 : w4.cell? ⟨b3, 2, none⟩ = some (.string ⟨rp.text.toArray⟩) := HQ.out.cell 2
        have s2 : w4.cell? ⟨w.heap.size, 2, none⟩ = some (.int .u64 (q.seq : Int)) := HBX4.out.cell 2
        have hlb : (p.el.length + 1) * 56 ≤ 140737488355328 := by
          have h1 := congrArg List.length HS4.out.ca.rows.ei
          rw [List.length_map] at h1
          have := HOK.out.el
          omega
        obtain ⟨i0, hi, hz0, hz1, hz2⟩ := info_parts info70
        have hbase4 : base ≤ w4.heap.size := by have := (HS4.out.ca.lt (k := p.g) (.inl rfl)); omega
        have hS4 : w4.drew.cell? ⟨p.g, 6, none⟩ = some (.slice Av p.el.length cv) ∧ w4.drew.cell? ⟨w.heap.size, 2, none⟩ = some (.int .u64 (q.seq : Int)) ∧ w4.drew.cell? ⟨b3, 0, none⟩ = some (.int .i64 rp.err) ∧ w4.drew.cell? ⟨b3, 1, none⟩ = some (.slice A3 rp.vals.length c3) ∧ w4.drew.cell? ⟨b3, 2, none⟩ = some (.string ⟨rp.text.toArray⟩) := ⟨q6, s2, r0, r1, r2⟩
        have hg4 := HS4.out.ca.blk.lt
        have hb34 := HQ.out.lt
        have hw4 := HBX4.out.lt
        have HCA4 := Lib.hid fun (o : Obj) => (CA.below HS4.out.ca ((Below.refl _ _).alloc (Nat.le_refl _) o)).keep (w' := (w4.alloc o).drew) fun _ _ => rfl
        refine wp_region_x (s := 13) (S := fun W => W.cell? ⟨p.g, 6, none⟩ = some (.slice Av p.el.length cv) ∧ W.cell? ⟨w.heap.size, 2, none⟩ = some (.int .u64 (q.seq : Int)) ∧ W.cell? ⟨b3, 0, none⟩ = some (.int .i64 rp.err) ∧ W.cell? ⟨b3, 1, none⟩ = some (.slice A3 rp.vals.length c3) ∧ W.cell? ⟨b3, 2, none⟩ = some (.string ⟨rp.text.toArray⟩)) (by kernel_rfl) hS4 (fun hHeld => ?_)
        refine wpAnyX_take (i := 0) (v := ?_) (by simp only [List.getElem?_toArray, List.getElem?_cons_zero]; rfl) (by kernel_rfl) (by kernel_rfl) (by kernel_rfl) (by kernel_rfl) (by exact fun _ _ _ h => h) (Or.inl ⟨by rfl, ?_⟩) (by assumption) ?_
        rotate_left
        · intro w hSw; (try dsimp only at hSw); go_split_ands; go_simp <;> with_reducible rfl
        try simp only [Act.put, List.setIfInBounds_toArray, List.set_cons_zero, List.set_cons_succ]
        refine wpAnyX_take (i := 1) (v := ?_) (by simp only [List.getElem?_toArray, List.getElem?_cons_succ, List.getElem?_cons_zero]; rfl) (by kernel_rfl) (by kernel_rfl) (by kernel_rfl) (by kernel_rfl) (by exact fun _ _ _ h => h) (Or.inl ⟨by rfl, ?_⟩) (by assumption) ?_
        rotate_left
        · intro w hSw; (try dsimp only at hSw); go_split_ands; go_simp <;> with_reducible rfl
        try simp only [Act.put, List.setIfInBounds_toArray, List.set_cons_zero, List.set_cons_succ]
        refine wpAnyX_take (i := 2) (v := ?_) (by simp only [List.getElem?_toArray, List.getElem?_cons_succ, List.getElem?_cons_zero]; rfl) (by kernel_rfl) (by kernel_rfl) (by kernel_rfl) (by kernel_rfl) (by exact fun _ _ _ h => h) (Or.inl ⟨by rfl, ?_⟩) (by assumption) ?_
        rotate_left
        · intro w hSw; (try dsimp only at hSw); go_split_ands; go_simp <;> with_reducible rfl
        try simp only [Act.put, List.setIfInBounds_toArray, List.set_cons_zero, List.set_cons_succ]
        refine wpAnyX_take (i := 3) (v := ?_) (by simp only [List.getElem?_toArray, List.getElem?_cons_succ, List.getElem?_cons_zero]; rfl) (by kernel_rfl) (by kernel_rfl) (by kernel_rfl) (by kernel_rfl) (by exact fun _ _ _ h => h) (Or.inl ⟨by rfl, ?_⟩) (by assumption) ?_
        rotate_left
        · intro w hSw; (try dsimp only at hSw); go_split_ands; go_simp <;> with_reducible rfl
        try simp only [Act.put, List.setIfInBounds_toArray, List.set_cons_zero, List.set_cons_succ]
        refine wpAnyX_take (i := 4) (v := ?_) (by simp only [List.getElem?_toArray, List.getElem?_cons_succ, List.getElem?_cons_zero]; rfl) (by kernel_rfl) (by kernel_rfl) (by kernel_rfl) (by kernel_rfl) (by exact fun _ _ _ h => h) (Or.inl ⟨by rfl, ?_⟩) (by assumption) ?_
        rotate_left
        · intro w hSw; (try dsimp only at hSw); go_split_ands; go_simp <;> with_reducible rfl
        try simp only [Act.put, List.setIfInBounds_toArray, List.set_cons_zero, List.set_cons_succ]
        refine wpAnyX_take (i := 5) (v := ?_) (by simp only [List.getElem?_toArray, List.getElem?_cons_succ, List.getElem?_cons_zero]; rfl) (by kernel_rfl) (by kernel_rfl) (by kernel_rfl) (by kernel_rfl) (by exact fun _ _ _ h => h) (Or.inl ⟨by rfl, ?_⟩) (by assumption) ?_
        rotate_left
        · intro w hSw; (try dsimp only at hSw); go_split_ands; go_simp <;> with_reducible rfl
        try simp only [Act.put, List.setIfInBounds_toArray, List.set_cons_zero, List.set_cons_succ]
        refine wpAnyX_take (i := 6) (v := ?_) (by simp only [List.getElem?_toArray, List.getElem?_cons_succ, List.getElem?_cons_zero]; rfl) (by kernel_rfl) (by kernel_rfl) (by kernel_rfl) (by kernel_rfl) (by exact fun _ _ _ h => h) (Or.inl ⟨by rfl, ?_⟩) (by assumption) ?_
        rotate_left
        · intro w hSw; (try dsimp only at hSw); go_split_ands; go_simp <;> with_reducible rfl
        try simp only [Act.put, List.setIfInBounds_toArray, List.set_cons_zero, List.set_cons_succ]
        refine wpAnyX_take (i := 7) (v := ?_) (by simp only [List.getElem?_toArray, List.getElem?_cons_succ, List.getElem?_cons_zero]; rfl) (by kernel_rfl) (by kernel_rfl) (by kernel_rfl) (by kernel_rfl) (by exact fun _ _ _ h => h) (Or.inl ⟨by rfl, ?_⟩) (by assumption) ?_
        rotate_left
        · intro w hSw; (try dsimp only at hSw); go_split_ands; go_simp <;> with_reducible rfl
        try simp only [Act.put, List.setIfInBounds_toArray, List.set_cons_zero, List.set_cons_succ]
        refine wpAnyX_take (i := 8) (v := ?_) (by simp only [List.getElem?_toArray, List.getElem?_cons_succ, List.getElem?_cons_zero]; rfl) (by kernel_rfl) (by kernel_rfl) (by kernel_rfl) (by kernel_rfl) (by exact fun _ _ _ h => h) (Or.inl ⟨by rfl, ?_⟩) (by assumption) ?_
        rotate_left
        · intro w hSw; (try dsimp only at hSw); go_split_ands; go_simp <;> with_reducible rfl
        try simp only [Act.put, List.setIfInBounds_toArray, List.set_cons_zero, List.set_cons_succ]
        refine wpAnyX_one (i := 9) (by kernel_rfl) (by simp only [List.getElem?_toArray, List.getElem?_cons_succ, List.getElem?_cons_zero]; rfl) (fun K2 hK2 => ?_)
        go_simp
        refine hK2.out _ _ (by go_keep) (fun hHeld => ?_)
        clear hK2 K2
        try simp only [Act.put, List.setIfInBounds_toArray, List.set_cons_zero, List.set_cons_succ]
        refine wpAnyX_one (i := 10) (by kernel_rfl) (by simp only [List.getElem?_toArray, List.getElem?_cons_succ, List.getElem?_cons_zero]; rfl) (fun K2 hK2 => ?_)
        (refine step_append_any _ rfl (.tmp 33) (.tmp 38) 65 rfl base 70 i0 _ 4 56 Try.underlying65 hi hz0 hz1 hz2 rfl (by decide) (.slice Av p.el.length cv) p.el.length (kE.flat p.el) (by rfl) ((World.ownsRow.alloc HROW.out _).drew) _ _ 1 1 [.int .u64 (q.seq : Int), .int .i64 rp.err, .slice A3 rp.vals.length c3, .string ⟨rp.text.toArray⟩] (by rfl) ((read_one _ [.int .u64 (q.seq : Int), .int .i64 rp.err, .slice A3 rp.vals.length c3, .string ⟨rp.text.toArray⟩] 70).drew) (by simp [Value.oneCell']) (by simp only [maxLen]; omega) hlb (by simp; omega) ?_; intro v5 w5 hr5 hg5 hv5; obtain ⟨A5, c5, rfl, _, _⟩ := own_formL hr5; have HR5 := Lib.hid hr5; have HG5 := Lib.hid hg5; have HV5 := Lib.hid hv5; have hst := (HCA4.out (.cells #[.int .u64 (q.seq : Int), .int .i64 rp.err, .slice A3 rp.vals.length c3, .string ⟨rp.text.toArray⟩] 70)).stayE (by rw [HEV.out]; exact hg5); have t6 : w5.cell? ⟨p.g, 6, none⟩ = some (.slice Av p.el.length cv) := (hst.1.cell 6).trans (by rw [← HEV.out]; rfl); have t12 : w5.cell? ⟨p.g, 12, none⟩ = some (.int .u64 (c.ev : Int)) := hst.1.cell 12; have fr := fun i => hst.1.frozen i; have fr6 := fr 6; have fr12 := fr 12; have hg5w := hst.1.lt; have hb5 := ((HQ.out.alloc (.cells #[.int .u64 (q.seq : Int), .int .i64 rp.err, .slice A3 rp.vals.length c3, .string ⟨rp.text.toArray⟩] 70)).drew).grown hg5 (fun e => own_blk_ne ((World.ownsRow.alloc HROW.out (.cells #[.int .u64 (q.seq : Int), .int .i64 rp.err, .slice A3 rp.vals.length c3, .string ⟨rp.text.toArray⟩] 70)).drew) ((HQ.out.alloc (.cells #[.int .u64 (q.seq : Int), .int .i64 rp.err, .slice A3 rp.vals.length c3, .string ⟨rp.text.toArray⟩] 70)).drew) (by decide) e.symm); have hx5 := ((HBX4.out.alloc (.cells #[.int .u64 (q.seq : Int), .int .i64 rp.err, .slice A3 rp.vals.length c3, .string ⟨rp.text.toArray⟩] 70)).drew).grown hg5 (fun e => own_blk_ne ((World.ownsRow.alloc HROW.out (.cells #[.int .u64 (q.seq : Int), .int .i64 rp.err, .slice A3 rp.vals.length c3, .string ⟨rp.text.toArray⟩] 70)).drew) ((HBX4.out.alloc (.cells #[.int .u64 (q.seq : Int), .int .i64 rp.err, .slice A3 rp.vals.length c3, .string ⟨rp.text.toArray⟩] 70)).drew) (by decide) e.symm); have t2 : w5.cell? ⟨w.heap.size, 2, none⟩ = some (.int .u64 (q.seq : Int)) := hx5.cell 2; have hS5 := And.intro t6 (And.intro t2 (And.intro (show w5.cell? ⟨b3, 0, none⟩ = some (.int .i64 rp.err) from hb5.cell 0) (And.intro (show w5.cell? ⟨b3, 1, none⟩ = some (.slice A3 rp.vals.length c3) from hb5.cell 1) (show w5.cell? ⟨b3, 2, none⟩ = some (.string ⟨rp.text.toArray⟩) from hb5.cell 2)))); have hx5w := hx5.lt; clear hr5 hg5 hv5 hst fr hb5 hx5)
        try go_simp
        refine hK2.out _ _ (hS5) (fun hHeld => ?_)
        clear hK2 K2
        try simp only [Act.put, List.setIfInBounds_toArray, List.set_cons_zero, List.set_cons_succ]
        refine wpAnyX_one (i := 11) (by kernel_rfl) (by simp only [List.getElem?_toArray, List.getElem?_cons_succ, List.getElem?_cons_zero]; rfl) (fun K2 hK2 => ?_)
        go_simp
        refine hK2.out _ _ (hHeld) (fun hHeld => ?_)
        clear hK2 K2
        try simp only [Act.put, List.setIfInBounds_toArray, List.set_cons_zero, List.set_cons_succ]
        refine wpAnyX_one (i := 12) (by kernel_rfl) (by simp only [List.getElem?_toArray, List.getElem?_cons_succ, List.getElem?_cons_zero]; rfl) (fun K2 hK2 => ?_)
        go_simp
        refine hK2.out _ _ (hHeld) (fun hHeld => ?_)
        clear hK2 K2
        try simp only [Act.put, List.setIfInBounds_toArray, List.set_cons_zero, List.set_cons_succ]
        refine wpAnyX_last (by kernel_rfl) (by simp only [List.getElem?_toArray, List.getElem?_cons_succ, List.getElem?_cons_zero]; rfl) (fun K2 hK2 => ?_)
        go_simp
        refine hK2.out _ _ ?_
        clear hK2 K2
        try simp only [Act.put, List.setIfInBounds_toArray, List.set_cons_zero, List.set_cons_succ]
        refine wpAnyX_done (by kernel_rfl) ?_ _
        go_wp2
        go_ret
        rw [HF.out]
        refine ⟨_, [], { p with ev := .slice A5 (p.el.length + 1) c5, el := p.el ++ [((q.seq, rp), A3, c3)] }, rfl, ?_, Frs.nil _ _ _⟩
        have hg5 := HG5.out
        rw [← HEV.out] at hg5
        have hca := HCA4.out (.cells #[.int .u64 (q.seq : Int), .int .i64 rp.err, .slice A3 rp.vals.length c3, .string ⟨rp.text.toArray⟩] 70)
        have hst := hca.stayE hg5
        have hlt4 := fun k (hk : CF p k) => (HS1.out.ca.lt hk).2
        refine ⟨hca.pushE (x := ((q.seq, rp), A3, c3)) (own_base ((World.ownsRow.alloc HO4.out _).drew) (by have := (HS1.out.ca.lt (k := p.g) (.inl rfl)); omega)) HR5.out hg5 ((hst.1.set_ 6 _).set_ 12 _) (fun k hk hn => by rw [Below.heap_setCell _ _ _ _ hn, Below.heap_setCell _ _ _ _ hn]) rfl rfl rfl rfl, rfl, fun k hk => ?_, ?_, by dsimp only; omega⟩
        · rcases hk with e | e | e | e | e | (e | e)
          · exact .inl (.inl e)
          · exact .inl (.inr (.inl e))
          · exact .inl (.inr (.inr (.inl e)))
          · exact .inl (.inr (.inr (.inr (.inl e))))
          · exact .inl (.inr (.inr (.inr (.inr (.inl e)))))
          · rcases HV5.out with h1 | h1
            · exact .inl (.inr (.inr (.inr (.inr (.inr (.inl (by rw [HEV.out, ← h1]; exact e)))))))
            · refine .inr ?_
              have h2 : (Value.slice A5 (p.el.length + 1) c5).ownBlock = some k := e
              rw [h1] at h2
              injection h2 with h2
              have h3 : (w4.alloc (.cells #[.int .u64 (q.seq : Int), .int .i64 rp.err, .slice A3 rp.vals.length c3, .string ⟨rp.text.toArray⟩] 70)).heap.size = k := h2
              rw [← h3]
              simp
              omega
          · rcases inB_push e with e | e
            · exact .inl (.inr (.inr (.inr (.inr (.inr (.inr e))))))
            · have h1 := (World.ownsRow.lt HO4.out k e).1
              exact .inr (by omega)
        · exact (((HS4.out.chg.alloc _).drew.trans (Chg.of_grown hg5 (F := CF p) fun k hk => .inr (.inr (.inr (.inr (.inr (.inl hk)))))) (fun _ _ h => h)).setCell (p := ⟨p.g, 6, none⟩) (fun _ => .inl rfl) _).setCell (p := ⟨p.g, 12, none⟩) (fun _ => .inl rfl) _
      · have HF : Hid (evtF c q = ([], c)) := Lib.hid (by
          unfold evtF
          rw [if_neg (by rintro (h | h); · rw [ho] at h; cases h
                         · exact HSE.out h), getG_no hgd])
        have HGN : Hid (Calls Try.prog 92 #[.slice A q.body.length cc] w2 fun e w' => e = .returned (.tuple #[.agg #[.int .i64 0, .slice none 0 0, .string ByteArray.empty], .int .i64 173]) ∧ Below w2.heap.size w2 w') := Lib.hid (HG.out.mono fun e w' ⟨hb, hp⟩ => by
          rcases hp with ⟨hn, _⟩ | ⟨_, he⟩
          · exact absurd hn hgd
          · exact ⟨he, hb⟩)
        clear HG hgd
        go_upto_region 4 with (go_at_call 92; refine HGN.out.mono ?_; rintro e w3 ⟨rfl, hb3⟩; have HB3 := Lib.hid hb3; clear hb3)
        go_wp2
        go_ret
        rw [HF.out]
        exact ⟨_, [], p, rfl, HS2.out.below (HB3.out.alloc HB3.out.size _), Frs.nil _ _ _⟩
end Go.Proofs.Ytjhkfpemcplaaaa
