/-
  The walk of reply. No statement of the seat is proved here.
-/
import Derived.Test.YtjhkfpemcplaaaaClH
namespace Go.Proofs.Ytjhkfpemcplaaaa
open Go.RowKit

set_option maxRecDepth 20000 in
set_option maxHeartbeats 4000000 in
theorem reply_any {base N : Nat} {p : Pa} {c : Cl} {w : World} (q : Pk) (A : Option Addr) (cc : Nat) (h : CA base w p c) (ok : c.Ok N) (hN : (N + 1) * 48 ≤ 140737488355328) (hr : RdB w w.heap.size A q.body.length q.body) (hcc : q.body.length ≤ cc) (hlen : q.body.length ≤ 1024) :
    Calls Try.prog 78 #[.pointer (some ⟨p.g, 0, none⟩), pkV q A cc] w (MetP base w p (repF c q)) := by
  have hB := Bx.start (cc := cc) hr
  have hS1 := (Stp.refl h 0).below hB.old
  obtain ⟨w1, hw1⟩ : ∃ w1, w.alloc (.cells (pkC q A cc) 39) = w1 := ⟨_, rfl⟩
  rw [hw1] at hB hS1
  have HB := Lib.hid hB
  have HS1 := Lib.hid hS1
  have x0 : w1.cell? ⟨w.heap.size, 0, none⟩ = some (.int .i64 (q.kind : Int)) := hB.blk.cell 0
  have x1 : w1.cell? ⟨w.heap.size, 1, none⟩ = some (.int .u64 (q.tok : Int)) := hB.blk.cell 1
  have x2 : w1.cell? ⟨w.heap.size, 2, none⟩ = some (.int .u64 (q.seq : Int)) := hB.blk.cell 2
  have x3 : w1.cell? ⟨w.heap.size, 3, none⟩ = some (.int .u64 (q.ack : Int)) := hB.blk.cell 3
  have x4 : w1.cell? ⟨w.heap.size, 4, none⟩ = some (.slice A q.body.length cc) := hB.blk.cell 4
  have HO := Lib.hid (ours_any (hS1.ca.keep (w' := w1.drew) fun _ _ => rfl) q A cc)
  have HOB : Hid ((decide (c.tok ≠ 0) && decide (q.tok = c.tok)) = oursB c q) := Lib.hid rfl
  rw [HOB.out] at HO
  have k10 : w1.cell? ⟨p.g, 10, none⟩ = some (.int .u64 (c.iss : Int)) := hS1.ca.cells 10
  have k11 : w1.cell? ⟨p.g, 11, none⟩ = some (.int .u64 (c.rep : Int)) := hS1.ca.cells 11
  have b1 := ok.rp
  have b2 := ok.is
  have e1 : IntKind.u64.wrap ((c.rep : Int) + 1) = (c.rep : Int) + 1 := by simp [IntKind.wrap, IntKind.bits, IntKind.signed]; omega
  have hg1 := hS1.ca.blk.lt
  have hwb := hB.blk.lt
  have HX := Lib.hid fun (W : World) (hb : Below w1.heap.size w1 W) => (show W.cell? ⟨w.heap.size, 0, none⟩ = some (.int .i64 (q.kind : Int)) ∧ W.cell? ⟨w.heap.size, 1, none⟩ = some (.int .u64 (q.tok : Int)) ∧ W.cell? ⟨w.heap.size, 2, none⟩ = some (.int .u64 (q.seq : Int)) ∧ W.cell? ⟨w.heap.size, 3, none⟩ = some (.int .u64 (q.ack : Int)) ∧ W.cell? ⟨w.heap.size, 4, none⟩ = some (.slice A q.body.length cc) ∧ W.cell? ⟨p.g, 10, none⟩ = some (.int .u64 (c.iss : Int)) ∧ W.cell? ⟨p.g, 11, none⟩ = some (.int .u64 (c.rep : Int)) from ⟨(hb.cell (p := ⟨w.heap.size, 0, none⟩) hwb).trans x0, (hb.cell (p := ⟨w.heap.size, 1, none⟩) hwb).trans x1, (hb.cell (p := ⟨w.heap.size, 2, none⟩) hwb).trans x2, (hb.cell (p := ⟨w.heap.size, 3, none⟩) hwb).trans x3, (hb.cell (p := ⟨w.heap.size, 4, none⟩) hwb).trans x4, (hb.cell (p := ⟨p.g, 10, none⟩) hg1).trans k10, (hb.cell (p := ⟨p.g, 11, none⟩) hg1).trans k11⟩)
  have hS := HX.out w1.drew (Below.refl _ _).drew
  unfold pkV at HO ⊢
  unfold pkC at hw1
  have HOK := Lib.hid ok
  clear h ok hr hB hS1
  go_enter Try.func78, Try.ntmps78
  go_upto_region 1 with fail
  cases ho : oursB c q with
  | false =>
    have HF : Hid (repF c q = ([], c)) := Lib.hid (by unfold repF; rw [if_pos (.inl ho)])
    rw [ho] at HO
    refine wp_region_held_drew (S := fun W => W.cell? ⟨w.heap.size, 0, none⟩ = some (.int .i64 (q.kind : Int)) ∧ W.cell? ⟨w.heap.size, 1, none⟩ = some (.int .u64 (q.tok : Int)) ∧ W.cell? ⟨w.heap.size, 2, none⟩ = some (.int .u64 (q.seq : Int)) ∧ W.cell? ⟨w.heap.size, 3, none⟩ = some (.int .u64 (q.ack : Int)) ∧ W.cell? ⟨w.heap.size, 4, none⟩ = some (.slice A q.body.length cc) ∧ W.cell? ⟨p.g, 10, none⟩ = some (.int .u64 (c.iss : Int)) ∧ W.cell? ⟨p.g, 11, none⟩ = some (.int .u64 (c.rep : Int))) (by kernel_rfl) hS (fun hHeld => ?_)
    refine wpAnyH_take (i := 0) (v := ?_) (by simp only [List.getElem?_toArray, List.getElem?_cons_zero]; rfl) (by kernel_rfl) (by kernel_rfl) (by kernel_rfl) (by exact fun _ _ _ h => h) (Or.inl ⟨by rfl, ?_⟩) (by assumption) ?_
    rotate_left
    · intro w hSw; (try dsimp only at hSw); go_split_ands; go_simp <;> with_reducible rfl
    try simp only [Act.put, List.setIfInBounds_toArray, List.set_cons_zero, List.set_cons_succ]
    refine wpAnyH_take (i := 1) (v := ?_) (by simp only [List.getElem?_toArray, List.getElem?_cons_succ, List.getElem?_cons_zero]; rfl) (by kernel_rfl) (by kernel_rfl) (by kernel_rfl) (by exact fun _ _ _ h => h) (Or.inl ⟨by rfl, ?_⟩) (by assumption) ?_
    rotate_left
    · intro w hSw; (try dsimp only at hSw); go_split_ands; go_simp <;> with_reducible rfl
    try simp only [Act.put, List.setIfInBounds_toArray, List.set_cons_zero, List.set_cons_succ]
    refine wpAnyH_ready (rs := [2]) (by kernel_rfl) (by simp) ?_
    refine AllReadyH.cons (by simp only [List.getElem?_toArray, List.getElem?_cons_succ, List.getElem?_cons_zero]; rfl) (fun K hK => ?_) AllReadyH.nil
    go_simp
    go_at_call 91
    refine HO.out.mono ?_
    rintro e w2 ⟨rfl, hb2⟩
    have HB2 : Hid (Below w1.heap.size w1 w2) := Lib.hid ⟨hb2.os, hb2.tape, hb2.output, hb2.size, hb2.block⟩
    have hS2 := HX.out w2 HB2.out
    clear hb2
    try go_simp
    refine hK.out _ _ (hS2) (fun hHeld => ?_)
    clear hK K
    try simp only [Act.put, List.setIfInBounds_toArray, List.set_cons_zero, List.set_cons_succ]
    refine wpAnyH_take (i := 3) (v := ?_) (by simp only [List.getElem?_toArray, List.getElem?_cons_succ, List.getElem?_cons_zero]; rfl) (by kernel_rfl) (by kernel_rfl) (by kernel_rfl) (by exact fun _ _ _ h => h) (Or.inl ⟨by rfl, ?_⟩) (by assumption) ?_
    rotate_left
    · intro w hSw; (try dsimp only at hSw); go_split_ands; go_simp <;> with_reducible rfl
    try simp only [Act.put, List.setIfInBounds_toArray, List.set_cons_zero, List.set_cons_succ]
    refine wpAnyH_take (i := 4) (v := ?_) (by simp only [List.getElem?_toArray, List.getElem?_cons_succ, List.getElem?_cons_zero]; rfl) (by kernel_rfl) (by kernel_rfl) (by kernel_rfl) (by exact fun _ _ _ h => h) (Or.inl ⟨by rfl, ?_⟩) (by assumption) ?_
    rotate_left
    · intro w hSw; (try dsimp only at hSw); go_split_ands; go_simp <;> with_reducible rfl
    try simp only [Act.put, List.setIfInBounds_toArray, List.set_cons_zero, List.set_cons_succ]
    refine wpAnyH_take (i := 5) (v := undef) (by simp only [List.getElem?_toArray, List.getElem?_cons_succ, List.getElem?_cons_zero]; rfl) (by kernel_rfl) (by kernel_rfl) (by kernel_rfl) (by exact fun _ _ _ h => h) (Or.inr ⟨by rfl, by rfl⟩) (by assumption) ?_
    try simp only [Act.put, List.setIfInBounds_toArray, List.set_cons_zero, List.set_cons_succ]
    refine wpAnyH_take (i := 6) (v := undef) (by simp only [List.getElem?_toArray, List.getElem?_cons_succ, List.getElem?_cons_zero]; rfl) (by kernel_rfl) (by kernel_rfl) (by kernel_rfl) (by exact fun _ _ _ h => h) (Or.inr ⟨by rfl, by rfl⟩) (by assumption) ?_
    try simp only [Act.put, List.setIfInBounds_toArray, List.set_cons_zero, List.set_cons_succ]
    refine wpAnyH_take (i := 7) (v := undef) (by simp only [List.getElem?_toArray, List.getElem?_cons_succ, List.getElem?_cons_zero]; rfl) (by kernel_rfl) (by kernel_rfl) (by kernel_rfl) (by exact fun _ _ _ h => h) (Or.inr ⟨by rfl, by rfl⟩) (by assumption) ?_
    try simp only [Act.put, List.setIfInBounds_toArray, List.set_cons_zero, List.set_cons_succ]
    refine wpAnyH_take (i := 8) (v := undef) (by simp only [List.getElem?_toArray, List.getElem?_cons_succ, List.getElem?_cons_zero]; rfl) (by kernel_rfl) (by kernel_rfl) (by kernel_rfl) (by exact fun _ _ _ h => h) (Or.inr ⟨by rfl, by rfl⟩) (by assumption) ?_
    try simp only [Act.put, List.setIfInBounds_toArray, List.set_cons_zero, List.set_cons_succ]
    refine wpAnyH_take (i := 9) (v := undef) (by simp only [List.getElem?_toArray, List.getElem?_cons_succ, List.getElem?_cons_zero]; rfl) (by kernel_rfl) (by kernel_rfl) (by kernel_rfl) (by exact fun _ _ _ h => h) (Or.inr ⟨by rfl, by rfl⟩) (by assumption) ?_
    try simp only [Act.put, List.setIfInBounds_toArray, List.set_cons_zero, List.set_cons_succ]
    refine wpAnyH_take (i := 10) (v := undef) (by simp only [List.getElem?_toArray, List.getElem?_cons_succ, List.getElem?_cons_zero]; rfl) (by kernel_rfl) (by kernel_rfl) (by kernel_rfl) (by exact fun _ _ _ h => h) (Or.inr ⟨by rfl, by rfl⟩) (by assumption) ?_
    try simp only [Act.put, List.setIfInBounds_toArray, List.set_cons_zero, List.set_cons_succ]
    refine wpAnyH_take (i := 11) (v := undef) (by simp only [List.getElem?_toArray, List.getElem?_cons_succ, List.getElem?_cons_zero]; rfl) (by kernel_rfl) (by kernel_rfl) (by kernel_rfl) (by exact fun _ _ _ h => h) (Or.inr ⟨by rfl, by rfl⟩) (by assumption) ?_
    try simp only [Act.put, List.setIfInBounds_toArray, List.set_cons_zero, List.set_cons_succ]
    refine wpAnyH_take (i := 12) (v := undef) (by simp only [List.getElem?_toArray, List.getElem?_cons_succ, List.getElem?_cons_zero]; rfl) (by kernel_rfl) (by kernel_rfl) (by kernel_rfl) (by exact fun _ _ _ h => h) (Or.inr ⟨by rfl, by rfl⟩) (by assumption) ?_
    try simp only [Act.put, List.setIfInBounds_toArray, List.set_cons_zero, List.set_cons_succ]
    refine wpAnyH_take (i := 13) (v := undef) (by simp only [List.getElem?_toArray, List.getElem?_cons_succ, List.getElem?_cons_zero]; rfl) (by kernel_rfl) (by kernel_rfl) (by kernel_rfl) (by exact fun _ _ _ h => h) (Or.inr ⟨by rfl, by rfl⟩) (by assumption) ?_
    try simp only [Act.put, List.setIfInBounds_toArray, List.set_cons_zero, List.set_cons_succ]
    refine wpAnyH_take (i := 14) (v := ?_) (by simp only [List.getElem?_toArray, List.getElem?_cons_succ, List.getElem?_cons_zero]; rfl) (by kernel_rfl) (by kernel_rfl) (by kernel_rfl) (by exact fun _ _ _ h => h) (Or.inl ⟨by rfl, ?_⟩) (by assumption) ?_
    rotate_left
    · intro w hSw; (try dsimp only at hSw); go_split_ands; go_simp <;> with_reducible rfl
    try simp only [Act.put, List.setIfInBounds_toArray, List.set_cons_zero, List.set_cons_succ]
    refine wpAnyH_take (i := 15) (v := ?_) (by simp only [List.getElem?_toArray, List.getElem?_cons_succ, List.getElem?_cons_zero]; rfl) (by kernel_rfl) (by kernel_rfl) (by kernel_rfl) (by exact fun _ _ _ h => h) (Or.inl ⟨by rfl, ?_⟩) (by assumption) ?_
    rotate_left
    · intro w hSw; (try dsimp only at hSw); go_split_ands; go_simp <;> with_reducible rfl
    try simp only [Act.put, List.setIfInBounds_toArray, List.set_cons_zero, List.set_cons_succ]
    refine wpAnyH_take (i := 16) (v := undef) (by simp only [List.getElem?_toArray, List.getElem?_cons_succ, List.getElem?_cons_zero]; rfl) (by kernel_rfl) (by kernel_rfl) (by kernel_rfl) (by exact fun _ _ _ h => h) (Or.inr ⟨by rfl, by rfl⟩) (by assumption) ?_
    try simp only [Act.put, List.setIfInBounds_toArray, List.set_cons_zero, List.set_cons_succ]
    refine wpAnyH_take (i := 17) (v := undef) (by simp only [List.getElem?_toArray, List.getElem?_cons_succ, List.getElem?_cons_zero]; rfl) (by kernel_rfl) (by kernel_rfl) (by kernel_rfl) (by exact fun _ _ _ h => h) (Or.inr ⟨by rfl, by rfl⟩) (by assumption) ?_
    try simp only [Act.put, List.setIfInBounds_toArray, List.set_cons_zero, List.set_cons_succ]
    refine wpAnyH_take (i := 18) (v := undef) (by simp only [List.getElem?_toArray, List.getElem?_cons_succ, List.getElem?_cons_zero]; rfl) (by kernel_rfl) (by kernel_rfl) (by kernel_rfl) (by exact fun _ _ _ h => h) (Or.inr ⟨by rfl, by rfl⟩) (by assumption) ?_
    try simp only [Act.put, List.setIfInBounds_toArray, List.set_cons_zero, List.set_cons_succ]
    refine wpAnyH_take (i := 19) (v := undef) (by simp only [List.getElem?_toArray, List.getElem?_cons_succ, List.getElem?_cons_zero]; rfl) (by kernel_rfl) (by kernel_rfl) (by kernel_rfl) (by exact fun _ _ _ h => h) (Or.inr ⟨by rfl, by rfl⟩) (by assumption) ?_
    try simp only [Act.put, List.setIfInBounds_toArray, List.set_cons_zero, List.set_cons_succ]
    refine wpAnyH_take (i := 20) (v := undef) (by simp only [List.getElem?_toArray, List.getElem?_cons_succ, List.getElem?_cons_zero]; rfl) (by kernel_rfl) (by kernel_rfl) (by kernel_rfl) (by exact fun _ _ _ h => h) (Or.inr ⟨by rfl, by rfl⟩) (by assumption) ?_
    try simp only [Act.put, List.setIfInBounds_toArray, List.set_cons_zero, List.set_cons_succ]
    refine wpAnyH_take (i := 21) (v := undef) (by simp only [List.getElem?_toArray, List.getElem?_cons_succ, List.getElem?_cons_zero]; rfl) (by kernel_rfl) (by kernel_rfl) (by kernel_rfl) (by exact fun _ _ _ h => h) (Or.inr ⟨by rfl, by rfl⟩) (by assumption) ?_
    try simp only [Act.put, List.setIfInBounds_toArray, List.set_cons_zero, List.set_cons_succ]
    refine wpAnyH_take (i := 22) (v := undef) (by simp only [List.getElem?_toArray, List.getElem?_cons_succ, List.getElem?_cons_zero]; rfl) (by kernel_rfl) (by kernel_rfl) (by kernel_rfl) (by exact fun _ _ _ h => h) (Or.inr ⟨by rfl, by rfl⟩) (by assumption) ?_
    try simp only [Act.put, List.setIfInBounds_toArray, List.set_cons_zero, List.set_cons_succ]
    refine wpAnyH_take (i := 23) (v := undef) (by simp only [List.getElem?_toArray, List.getElem?_cons_succ, List.getElem?_cons_zero]; rfl) (by kernel_rfl) (by kernel_rfl) (by kernel_rfl) (by exact fun _ _ _ h => h) (Or.inr ⟨by rfl, by rfl⟩) (by assumption) ?_
    try simp only [Act.put, List.setIfInBounds_toArray, List.set_cons_zero, List.set_cons_succ]
    refine wpAnyH_take (i := 24) (v := ?_) (by simp only [List.getElem?_toArray, List.getElem?_cons_succ, List.getElem?_cons_zero]; rfl) (by kernel_rfl) (by kernel_rfl) (by kernel_rfl) (by exact fun _ _ _ h => h) (Or.inl ⟨by rfl, ?_⟩) (by assumption) ?_
    rotate_left
    · intro w hSw; (try dsimp only at hSw); go_split_ands; go_simp <;> with_reducible rfl
    try simp only [Act.put, List.setIfInBounds_toArray, List.set_cons_zero, List.set_cons_succ]
    refine wpAnyH_done (by kernel_rfl) ?_ _
    go_wp2
    go_ret
    rw [HF.out]
    exact ⟨_, [], p, rfl, HS1.out.below HB2.out, Frs.nil _ _ _⟩
  | true =>
    rw [ho] at HO
    by_cases hse : q.seq ≠ c.rep + 1
    · have HF : Hid (repF c q = ([], c)) := Lib.hid (by unfold repF; rw [if_pos (.inr (.inl hse))])
      have l1 : ((q.seq : Int) != (c.rep : Int) + 1) = true := by simp; omega
      refine wp_region_held_drew (S := fun W => W.cell? ⟨w.heap.size, 0, none⟩ = some (.int .i64 (q.kind : Int)) ∧ W.cell? ⟨w.heap.size, 1, none⟩ = some (.int .u64 (q.tok : Int)) ∧ W.cell? ⟨w.heap.size, 2, none⟩ = some (.int .u64 (q.seq : Int)) ∧ W.cell? ⟨w.heap.size, 3, none⟩ = some (.int .u64 (q.ack : Int)) ∧ W.cell? ⟨w.heap.size, 4, none⟩ = some (.slice A q.body.length cc) ∧ W.cell? ⟨p.g, 10, none⟩ = some (.int .u64 (c.iss : Int)) ∧ W.cell? ⟨p.g, 11, none⟩ = some (.int .u64 (c.rep : Int))) (by kernel_rfl) hS (fun hHeld => ?_)
      refine wpAnyH_take (i := 0) (v := ?_) (by simp only [List.getElem?_toArray, List.getElem?_cons_zero]; rfl) (by kernel_rfl) (by kernel_rfl) (by kernel_rfl) (by exact fun _ _ _ h => h) (Or.inl ⟨by rfl, ?_⟩) (by assumption) ?_
      rotate_left
      · intro w hSw; (try dsimp only at hSw); go_split_ands; go_simp <;> with_reducible rfl
      try simp only [Act.put, List.setIfInBounds_toArray, List.set_cons_zero, List.set_cons_succ]
      refine wpAnyH_take (i := 1) (v := ?_) (by simp only [List.getElem?_toArray, List.getElem?_cons_succ, List.getElem?_cons_zero]; rfl) (by kernel_rfl) (by kernel_rfl) (by kernel_rfl) (by exact fun _ _ _ h => h) (Or.inl ⟨by rfl, ?_⟩) (by assumption) ?_
      rotate_left
      · intro w hSw; (try dsimp only at hSw); go_split_ands; go_simp <;> with_reducible rfl
      try simp only [Act.put, List.setIfInBounds_toArray, List.set_cons_zero, List.set_cons_succ]
      refine wpAnyH_ready (rs := [2]) (by kernel_rfl) (by simp) ?_
      refine AllReadyH.cons (by simp only [List.getElem?_toArray, List.getElem?_cons_succ, List.getElem?_cons_zero]; rfl) (fun K hK => ?_) AllReadyH.nil
      go_simp
      go_at_call 91
      refine HO.out.mono ?_
      rintro e w2 ⟨rfl, hb2⟩
      have HB2 : Hid (Below w1.heap.size w1 w2) := Lib.hid ⟨hb2.os, hb2.tape, hb2.output, hb2.size, hb2.block⟩
      have hS2 := HX.out w2 HB2.out
      clear hb2
      try go_simp
      refine hK.out _ _ (hS2) (fun hHeld => ?_)
      clear hK K
      try simp only [Act.put, List.setIfInBounds_toArray, List.set_cons_zero, List.set_cons_succ]
      refine wpAnyH_take (i := 3) (v := ?_) (by simp only [List.getElem?_toArray, List.getElem?_cons_succ, List.getElem?_cons_zero]; rfl) (by kernel_rfl) (by kernel_rfl) (by kernel_rfl) (by exact fun _ _ _ h => h) (Or.inl ⟨by rfl, ?_⟩) (by assumption) ?_
      rotate_left
      · intro w hSw; (try dsimp only at hSw); go_split_ands; go_simp <;> with_reducible rfl
      try simp only [Act.put, List.setIfInBounds_toArray, List.set_cons_zero, List.set_cons_succ]
      refine wpAnyH_take (i := 4) (v := ?_) (by simp only [List.getElem?_toArray, List.getElem?_cons_succ, List.getElem?_cons_zero]; rfl) (by kernel_rfl) (by kernel_rfl) (by kernel_rfl) (by exact fun _ _ _ h => h) (Or.inl ⟨by rfl, ?_⟩) (by assumption) ?_
      rotate_left
      · intro w hSw; (try dsimp only at hSw); go_split_ands; go_simp <;> with_reducible rfl
      try simp only [Act.put, List.setIfInBounds_toArray, List.set_cons_zero, List.set_cons_succ]
      refine wpAnyH_take (i := 5) (v := ?_) (by simp only [List.getElem?_toArray, List.getElem?_cons_succ, List.getElem?_cons_zero]; rfl) (by kernel_rfl) (by kernel_rfl) (by kernel_rfl) (by exact fun _ _ _ h => h) (Or.inl ⟨by rfl, ?_⟩) (by assumption) ?_
      rotate_left
      · intro w hSw; (try dsimp only at hSw); go_split_ands; go_simp <;> with_reducible rfl
      try simp only [Act.put, List.setIfInBounds_toArray, List.set_cons_zero, List.set_cons_succ]
      refine wpAnyH_take (i := 6) (v := ?_) (by simp only [List.getElem?_toArray, List.getElem?_cons_succ, List.getElem?_cons_zero]; rfl) (by kernel_rfl) (by kernel_rfl) (by kernel_rfl) (by exact fun _ _ _ h => h) (Or.inl ⟨by rfl, ?_⟩) (by assumption) ?_
      rotate_left
      · intro w hSw; (try dsimp only at hSw); go_split_ands; go_simp <;> with_reducible rfl
      try simp only [Act.put, List.setIfInBounds_toArray, List.set_cons_zero, List.set_cons_succ]
      refine wpAnyH_take (i := 7) (v := ?_) (by simp only [List.getElem?_toArray, List.getElem?_cons_succ, List.getElem?_cons_zero]; rfl) (by kernel_rfl) (by kernel_rfl) (by kernel_rfl) (by exact fun _ _ _ h => h) (Or.inl ⟨by rfl, ?_⟩) (by assumption) ?_
      rotate_left
      · intro w hSw; (try dsimp only at hSw); go_split_ands; go_simp <;> with_reducible rfl
      try simp only [Act.put, List.setIfInBounds_toArray, List.set_cons_zero, List.set_cons_succ]
      refine wpAnyH_take (i := 8) (v := ?_) (by simp only [List.getElem?_toArray, List.getElem?_cons_succ, List.getElem?_cons_zero]; rfl) (by kernel_rfl) (by kernel_rfl) (by kernel_rfl) (by exact fun _ _ _ h => h) (Or.inl ⟨by rfl, ?_⟩) (by assumption) ?_
      rotate_left
      · intro w hSw; (try dsimp only at hSw); go_split_ands; go_simp <;> with_reducible rfl
      try simp only [Act.put, List.setIfInBounds_toArray, List.set_cons_zero, List.set_cons_succ]
      refine wpAnyH_take (i := 9) (v := ?_) (by simp only [List.getElem?_toArray, List.getElem?_cons_succ, List.getElem?_cons_zero]; rfl) (by kernel_rfl) (by kernel_rfl) (by kernel_rfl) (by exact fun _ _ _ h => h) (Or.inl ⟨by rfl, ?_⟩) (by assumption) ?_
      rotate_left
      · intro w hSw; (try dsimp only at hSw); go_split_ands; go_simp <;> with_reducible rfl
      try simp only [Act.put, List.setIfInBounds_toArray, List.set_cons_zero, List.set_cons_succ]
      refine wpAnyH_take (i := 10) (v := ?_) (by simp only [List.getElem?_toArray, List.getElem?_cons_succ, List.getElem?_cons_zero]; rfl) (by kernel_rfl) (by kernel_rfl) (by kernel_rfl) (by exact fun _ _ _ h => h) (Or.inl ⟨by rfl, ?_⟩) (by assumption) ?_
      rotate_left
      · intro w hSw; (try dsimp only at hSw); go_split_ands; go_simp <;> with_reducible rfl
      try simp only [Act.put, List.setIfInBounds_toArray, List.set_cons_zero, List.set_cons_succ]
      refine wpAnyH_take (i := 11) (v := ?_) (by simp only [List.getElem?_toArray, List.getElem?_cons_succ, List.getElem?_cons_zero]; rfl) (by kernel_rfl) (by kernel_rfl) (by kernel_rfl) (by exact fun _ _ _ h => h) (Or.inl ⟨by rfl, ?_⟩) (by assumption) ?_
      rotate_left
      · intro w hSw; (try dsimp only at hSw); go_split_ands; go_simp <;> with_reducible rfl
      try simp only [Act.put, List.setIfInBounds_toArray, List.set_cons_zero, List.set_cons_succ]
      refine wpAnyH_take (i := 12) (v := ?_) (by simp only [List.getElem?_toArray, List.getElem?_cons_succ, List.getElem?_cons_zero]; rfl) (by kernel_rfl) (by kernel_rfl) (by kernel_rfl) (by exact fun _ _ _ h => h) (Or.inl ⟨by rfl, ?_⟩) (by assumption) ?_
      rotate_left
      · intro w hSw; (try dsimp only at hSw); go_split_ands; go_simp <;> with_reducible rfl
      try simp only [Act.put, List.setIfInBounds_toArray, List.set_cons_zero, List.set_cons_succ]
      refine wpAnyH_take (i := 13) (v := ?_) (by simp only [List.getElem?_toArray, List.getElem?_cons_succ, List.getElem?_cons_zero]; rfl) (by kernel_rfl) (by kernel_rfl) (by kernel_rfl) (by exact fun _ _ _ h => h) (Or.inl ⟨by rfl, ?_⟩) (by assumption) ?_
      rotate_left
      · intro w hSw; (try dsimp only at hSw); go_split_ands; go_simp <;> with_reducible rfl
      try simp only [Act.put, List.setIfInBounds_toArray, List.set_cons_zero, List.set_cons_succ]
      refine wpAnyH_take (i := 14) (v := ?_) (by simp only [List.getElem?_toArray, List.getElem?_cons_succ, List.getElem?_cons_zero]; rfl) (by kernel_rfl) (by kernel_rfl) (by kernel_rfl) (by exact fun _ _ _ h => h) (Or.inl ⟨by rfl, ?_⟩) (by assumption) ?_
      rotate_left
      · intro w hSw; (try dsimp only at hSw); go_split_ands; go_simp <;> with_reducible rfl
      try simp only [Act.put, List.setIfInBounds_toArray, List.set_cons_zero, List.set_cons_succ]
      refine wpAnyH_take (i := 15) (v := ?_) (by simp only [List.getElem?_toArray, List.getElem?_cons_succ, List.getElem?_cons_zero]; rfl) (by kernel_rfl) (by kernel_rfl) (by kernel_rfl) (by exact fun _ _ _ h => h) (Or.inl ⟨by rfl, ?_⟩) (by assumption) ?_
      rotate_left
      · intro w hSw; (try dsimp only at hSw); go_split_ands; go_simp <;> with_reducible rfl
      try simp only [Act.put, List.setIfInBounds_toArray, List.set_cons_zero, List.set_cons_succ]
      refine wpAnyH_take (i := 16) (v := undef) (by simp only [List.getElem?_toArray, List.getElem?_cons_succ, List.getElem?_cons_zero]; rfl) (by kernel_rfl) (by kernel_rfl) (by kernel_rfl) (by exact fun _ _ _ h => h) (Or.inr ⟨by rfl, by rfl⟩) (by assumption) ?_
      try simp only [Act.put, List.setIfInBounds_toArray, List.set_cons_zero, List.set_cons_succ]
      refine wpAnyH_take (i := 17) (v := undef) (by simp only [List.getElem?_toArray, List.getElem?_cons_succ, List.getElem?_cons_zero]; rfl) (by kernel_rfl) (by kernel_rfl) (by kernel_rfl) (by exact fun _ _ _ h => h) (Or.inr ⟨by rfl, by rfl⟩) (by assumption) ?_
      try simp only [Act.put, List.setIfInBounds_toArray, List.set_cons_zero, List.set_cons_succ]
      refine wpAnyH_take (i := 18) (v := undef) (by simp only [List.getElem?_toArray, List.getElem?_cons_succ, List.getElem?_cons_zero]; rfl) (by kernel_rfl) (by kernel_rfl) (by kernel_rfl) (by exact fun _ _ _ h => h) (Or.inr ⟨by rfl, by rfl⟩) (by assumption) ?_
      try simp only [Act.put, List.setIfInBounds_toArray, List.set_cons_zero, List.set_cons_succ]
      refine wpAnyH_take (i := 19) (v := undef) (by simp only [List.getElem?_toArray, List.getElem?_cons_succ, List.getElem?_cons_zero]; rfl) (by kernel_rfl) (by kernel_rfl) (by kernel_rfl) (by exact fun _ _ _ h => h) (Or.inr ⟨by rfl, by rfl⟩) (by assumption) ?_
      try simp only [Act.put, List.setIfInBounds_toArray, List.set_cons_zero, List.set_cons_succ]
      refine wpAnyH_take (i := 20) (v := undef) (by simp only [List.getElem?_toArray, List.getElem?_cons_succ, List.getElem?_cons_zero]; rfl) (by kernel_rfl) (by kernel_rfl) (by kernel_rfl) (by exact fun _ _ _ h => h) (Or.inr ⟨by rfl, by rfl⟩) (by assumption) ?_
      try simp only [Act.put, List.setIfInBounds_toArray, List.set_cons_zero, List.set_cons_succ]
      refine wpAnyH_take (i := 21) (v := undef) (by simp only [List.getElem?_toArray, List.getElem?_cons_succ, List.getElem?_cons_zero]; rfl) (by kernel_rfl) (by kernel_rfl) (by kernel_rfl) (by exact fun _ _ _ h => h) (Or.inr ⟨by rfl, by rfl⟩) (by assumption) ?_
      try simp only [Act.put, List.setIfInBounds_toArray, List.set_cons_zero, List.set_cons_succ]
      refine wpAnyH_take (i := 22) (v := undef) (by simp only [List.getElem?_toArray, List.getElem?_cons_succ, List.getElem?_cons_zero]; rfl) (by kernel_rfl) (by kernel_rfl) (by kernel_rfl) (by exact fun _ _ _ h => h) (Or.inr ⟨by rfl, by rfl⟩) (by assumption) ?_
      try simp only [Act.put, List.setIfInBounds_toArray, List.set_cons_zero, List.set_cons_succ]
      refine wpAnyH_take (i := 23) (v := undef) (by simp only [List.getElem?_toArray, List.getElem?_cons_succ, List.getElem?_cons_zero]; rfl) (by kernel_rfl) (by kernel_rfl) (by kernel_rfl) (by exact fun _ _ _ h => h) (Or.inr ⟨by rfl, by rfl⟩) (by assumption) ?_
      try simp only [Act.put, List.setIfInBounds_toArray, List.set_cons_zero, List.set_cons_succ]
      refine wpAnyH_take (i := 24) (v := ?_) (by simp only [List.getElem?_toArray, List.getElem?_cons_succ, List.getElem?_cons_zero]; rfl) (by kernel_rfl) (by kernel_rfl) (by kernel_rfl) (by exact fun _ _ _ h => h) (Or.inl ⟨by rfl, ?_⟩) (by assumption) ?_
      rotate_left
      · intro w hSw; (try dsimp only at hSw); go_split_ands; go_simp <;> with_reducible rfl
      try simp only [Act.put, List.setIfInBounds_toArray, List.set_cons_zero, List.set_cons_succ]
      refine wpAnyH_done (by kernel_rfl) ?_ _
      go_wp2
      go_ret
      rw [HF.out]
      exact ⟨_, [], p, rfl, HS1.out.below HB2.out, Frs.nil _ _ _⟩
    · have hse2 : q.seq = c.rep + 1 := by omega
      have l1 : ((q.seq : Int) != (c.rep : Int) + 1) = false := by simp; omega
      have HSQ := Lib.hid hse2
      have HSQ2 := Lib.hid hse
      clear hse hse2
      by_cases his : c.iss < q.seq
      · have HF : Hid (repF c q = ([], c)) := Lib.hid (by unfold repF; rw [if_pos (.inr (.inr his))])
        have l2 : (c.iss : Int) < (q.seq : Int) := by omega
        refine wp_region_held_drew (S := fun W => W.cell? ⟨w.heap.size, 0, none⟩ = some (.int .i64 (q.kind : Int)) ∧ W.cell? ⟨w.heap.size, 1, none⟩ = some (.int .u64 (q.tok : Int)) ∧ W.cell? ⟨w.heap.size, 2, none⟩ = some (.int .u64 (q.seq : Int)) ∧ W.cell? ⟨w.heap.size, 3, none⟩ = some (.int .u64 (q.ack : Int)) ∧ W.cell? ⟨w.heap.size, 4, none⟩ = some (.slice A q.body.length cc) ∧ W.cell? ⟨p.g, 10, none⟩ = some (.int .u64 (c.iss : Int)) ∧ W.cell? ⟨p.g, 11, none⟩ = some (.int .u64 (c.rep : Int))) (by kernel_rfl) hS (fun hHeld => ?_)
        refine wpAnyH_take (i := 0) (v := ?_) (by simp only [List.getElem?_toArray, List.getElem?_cons_zero]; rfl) (by kernel_rfl) (by kernel_rfl) (by kernel_rfl) (by exact fun _ _ _ h => h) (Or.inl ⟨by rfl, ?_⟩) (by assumption) ?_
        rotate_left
        · intro w hSw; (try dsimp only at hSw); go_split_ands; go_simp <;> with_reducible rfl
        try simp only [Act.put, List.setIfInBounds_toArray, List.set_cons_zero, List.set_cons_succ]
        refine wpAnyH_take (i := 1) (v := ?_) (by simp only [List.getElem?_toArray, List.getElem?_cons_succ, List.getElem?_cons_zero]; rfl) (by kernel_rfl) (by kernel_rfl) (by kernel_rfl) (by exact fun _ _ _ h => h) (Or.inl ⟨by rfl, ?_⟩) (by assumption) ?_
        rotate_left
        · intro w hSw; (try dsimp only at hSw); go_split_ands; go_simp <;> with_reducible rfl
        try simp only [Act.put, List.setIfInBounds_toArray, List.set_cons_zero, List.set_cons_succ]
        refine wpAnyH_ready (rs := [2]) (by kernel_rfl) (by simp) ?_
        refine AllReadyH.cons (by simp only [List.getElem?_toArray, List.getElem?_cons_succ, List.getElem?_cons_zero]; rfl) (fun K hK => ?_) AllReadyH.nil
        go_simp
        go_at_call 91
        refine HO.out.mono ?_
        rintro e w2 ⟨rfl, hb2⟩
        have HB2 : Hid (Below w1.heap.size w1 w2) := Lib.hid ⟨hb2.os, hb2.tape, hb2.output, hb2.size, hb2.block⟩
        have hS2 := HX.out w2 HB2.out
        clear hb2
        try go_simp
        refine hK.out _ _ (hS2) (fun hHeld => ?_)
        clear hK K
        try simp only [Act.put, List.setIfInBounds_toArray, List.set_cons_zero, List.set_cons_succ]
        refine wpAnyH_take (i := 3) (v := ?_) (by simp only [List.getElem?_toArray, List.getElem?_cons_succ, List.getElem?_cons_zero]; rfl) (by kernel_rfl) (by kernel_rfl) (by kernel_rfl) (by exact fun _ _ _ h => h) (Or.inl ⟨by rfl, ?_⟩) (by assumption) ?_
        rotate_left
        · intro w hSw; (try dsimp only at hSw); go_split_ands; go_simp <;> with_reducible rfl
        try simp only [Act.put, List.setIfInBounds_toArray, List.set_cons_zero, List.set_cons_succ]
        refine wpAnyH_take (i := 4) (v := ?_) (by simp only [List.getElem?_toArray, List.getElem?_cons_succ, List.getElem?_cons_zero]; rfl) (by kernel_rfl) (by kernel_rfl) (by kernel_rfl) (by exact fun _ _ _ h => h) (Or.inl ⟨by rfl, ?_⟩) (by assumption) ?_
        rotate_left
        · intro w hSw; (try dsimp only at hSw); go_split_ands; go_simp <;> with_reducible rfl
        try simp only [Act.put, List.setIfInBounds_toArray, List.set_cons_zero, List.set_cons_succ]
        refine wpAnyH_take (i := 5) (v := ?_) (by simp only [List.getElem?_toArray, List.getElem?_cons_succ, List.getElem?_cons_zero]; rfl) (by kernel_rfl) (by kernel_rfl) (by kernel_rfl) (by exact fun _ _ _ h => h) (Or.inl ⟨by rfl, ?_⟩) (by assumption) ?_
        rotate_left
        · intro w hSw; (try dsimp only at hSw); go_split_ands; go_simp <;> with_reducible rfl
        try simp only [Act.put, List.setIfInBounds_toArray, List.set_cons_zero, List.set_cons_succ]
        refine wpAnyH_take (i := 6) (v := ?_) (by simp only [List.getElem?_toArray, List.getElem?_cons_succ, List.getElem?_cons_zero]; rfl) (by kernel_rfl) (by kernel_rfl) (by kernel_rfl) (by exact fun _ _ _ h => h) (Or.inl ⟨by rfl, ?_⟩) (by assumption) ?_
        rotate_left
        · intro w hSw; (try dsimp only at hSw); go_split_ands; go_simp <;> with_reducible rfl
        try simp only [Act.put, List.setIfInBounds_toArray, List.set_cons_zero, List.set_cons_succ]
        refine wpAnyH_take (i := 7) (v := ?_) (by simp only [List.getElem?_toArray, List.getElem?_cons_succ, List.getElem?_cons_zero]; rfl) (by kernel_rfl) (by kernel_rfl) (by kernel_rfl) (by exact fun _ _ _ h => h) (Or.inl ⟨by rfl, ?_⟩) (by assumption) ?_
        rotate_left
        · intro w hSw; (try dsimp only at hSw); go_split_ands; go_simp <;> with_reducible rfl
        try simp only [Act.put, List.setIfInBounds_toArray, List.set_cons_zero, List.set_cons_succ]
        refine wpAnyH_take (i := 8) (v := ?_) (by simp only [List.getElem?_toArray, List.getElem?_cons_succ, List.getElem?_cons_zero]; rfl) (by kernel_rfl) (by kernel_rfl) (by kernel_rfl) (by exact fun _ _ _ h => h) (Or.inl ⟨by rfl, ?_⟩) (by assumption) ?_
        rotate_left
        · intro w hSw; (try dsimp only at hSw); go_split_ands; go_simp <;> with_reducible rfl
        try simp only [Act.put, List.setIfInBounds_toArray, List.set_cons_zero, List.set_cons_succ]
        refine wpAnyH_take (i := 9) (v := ?_) (by simp only [List.getElem?_toArray, List.getElem?_cons_succ, List.getElem?_cons_zero]; rfl) (by kernel_rfl) (by kernel_rfl) (by kernel_rfl) (by exact fun _ _ _ h => h) (Or.inl ⟨by rfl, ?_⟩) (by assumption) ?_
        rotate_left
        · intro w hSw; (try dsimp only at hSw); go_split_ands; go_simp <;> with_reducible rfl
        try simp only [Act.put, List.setIfInBounds_toArray, List.set_cons_zero, List.set_cons_succ]
        refine wpAnyH_take (i := 10) (v := ?_) (by simp only [List.getElem?_toArray, List.getElem?_cons_succ, List.getElem?_cons_zero]; rfl) (by kernel_rfl) (by kernel_rfl) (by kernel_rfl) (by exact fun _ _ _ h => h) (Or.inl ⟨by rfl, ?_⟩) (by assumption) ?_
        rotate_left
        · intro w hSw; (try dsimp only at hSw); go_split_ands; go_simp <;> with_reducible rfl
        try simp only [Act.put, List.setIfInBounds_toArray, List.set_cons_zero, List.set_cons_succ]
        refine wpAnyH_take (i := 11) (v := ?_) (by simp only [List.getElem?_toArray, List.getElem?_cons_succ, List.getElem?_cons_zero]; rfl) (by kernel_rfl) (by kernel_rfl) (by kernel_rfl) (by exact fun _ _ _ h => h) (Or.inl ⟨by rfl, ?_⟩) (by assumption) ?_
        rotate_left
        · intro w hSw; (try dsimp only at hSw); go_split_ands; go_simp <;> with_reducible rfl
        try simp only [Act.put, List.setIfInBounds_toArray, List.set_cons_zero, List.set_cons_succ]
        refine wpAnyH_take (i := 12) (v := ?_) (by simp only [List.getElem?_toArray, List.getElem?_cons_succ, List.getElem?_cons_zero]; rfl) (by kernel_rfl) (by kernel_rfl) (by kernel_rfl) (by exact fun _ _ _ h => h) (Or.inl ⟨by rfl, ?_⟩) (by assumption) ?_
        rotate_left
        · intro w hSw; (try dsimp only at hSw); go_split_ands; go_simp <;> with_reducible rfl
        try simp only [Act.put, List.setIfInBounds_toArray, List.set_cons_zero, List.set_cons_succ]
        refine wpAnyH_take (i := 13) (v := ?_) (by simp only [List.getElem?_toArray, List.getElem?_cons_succ, List.getElem?_cons_zero]; rfl) (by kernel_rfl) (by kernel_rfl) (by kernel_rfl) (by exact fun _ _ _ h => h) (Or.inl ⟨by rfl, ?_⟩) (by assumption) ?_
        rotate_left
        · intro w hSw; (try dsimp only at hSw); go_split_ands; go_simp <;> with_reducible rfl
        try simp only [Act.put, List.setIfInBounds_toArray, List.set_cons_zero, List.set_cons_succ]
        refine wpAnyH_take (i := 14) (v := ?_) (by simp only [List.getElem?_toArray, List.getElem?_cons_succ, List.getElem?_cons_zero]; rfl) (by kernel_rfl) (by kernel_rfl) (by kernel_rfl) (by exact fun _ _ _ h => h) (Or.inl ⟨by rfl, ?_⟩) (by assumption) ?_
        rotate_left
        · intro w hSw; (try dsimp only at hSw); go_split_ands; go_simp <;> with_reducible rfl
        try simp only [Act.put, List.setIfInBounds_toArray, List.set_cons_zero, List.set_cons_succ]
        refine wpAnyH_take (i := 15) (v := ?_) (by simp only [List.getElem?_toArray, List.getElem?_cons_succ, List.getElem?_cons_zero]; rfl) (by kernel_rfl) (by kernel_rfl) (by kernel_rfl) (by exact fun _ _ _ h => h) (Or.inl ⟨by rfl, ?_⟩) (by assumption) ?_
        rotate_left
        · intro w hSw; (try dsimp only at hSw); go_split_ands; go_simp <;> with_reducible rfl
        try simp only [Act.put, List.setIfInBounds_toArray, List.set_cons_zero, List.set_cons_succ]
        refine wpAnyH_take (i := 16) (v := ?_) (by simp only [List.getElem?_toArray, List.getElem?_cons_succ, List.getElem?_cons_zero]; rfl) (by kernel_rfl) (by kernel_rfl) (by kernel_rfl) (by exact fun _ _ _ h => h) (Or.inl ⟨by rfl, ?_⟩) (by assumption) ?_
        rotate_left
        · intro w hSw; (try dsimp only at hSw); go_split_ands; go_simp <;> with_reducible rfl
        try simp only [Act.put, List.setIfInBounds_toArray, List.set_cons_zero, List.set_cons_succ]
        refine wpAnyH_take (i := 17) (v := ?_) (by simp only [List.getElem?_toArray, List.getElem?_cons_succ, List.getElem?_cons_zero]; rfl) (by kernel_rfl) (by kernel_rfl) (by kernel_rfl) (by exact fun _ _ _ h => h) (Or.inl ⟨by rfl, ?_⟩) (by assumption) ?_
        rotate_left
        · intro w hSw; (try dsimp only at hSw); go_split_ands; go_simp <;> with_reducible rfl
        try simp only [Act.put, List.setIfInBounds_toArray, List.set_cons_zero, List.set_cons_succ]
        refine wpAnyH_take (i := 18) (v := ?_) (by simp only [List.getElem?_toArray, List.getElem?_cons_succ, List.getElem?_cons_zero]; rfl) (by kernel_rfl) (by kernel_rfl) (by kernel_rfl) (by exact fun _ _ _ h => h) (Or.inl ⟨by rfl, ?_⟩) (by assumption) ?_
        rotate_left
        · intro w hSw; (try dsimp only at hSw); go_split_ands; go_simp <;> with_reducible rfl
        try simp only [Act.put, List.setIfInBounds_toArray, List.set_cons_zero, List.set_cons_succ]
        refine wpAnyH_take (i := 19) (v := ?_) (by simp only [List.getElem?_toArray, List.getElem?_cons_succ, List.getElem?_cons_zero]; rfl) (by kernel_rfl) (by kernel_rfl) (by kernel_rfl) (by exact fun _ _ _ h => h) (Or.inl ⟨by rfl, ?_⟩) (by assumption) ?_
        rotate_left
        · intro w hSw; (try dsimp only at hSw); go_split_ands; go_simp <;> with_reducible rfl
        try simp only [Act.put, List.setIfInBounds_toArray, List.set_cons_zero, List.set_cons_succ]
        refine wpAnyH_take (i := 20) (v := ?_) (by simp only [List.getElem?_toArray, List.getElem?_cons_succ, List.getElem?_cons_zero]; rfl) (by kernel_rfl) (by kernel_rfl) (by kernel_rfl) (by exact fun _ _ _ h => h) (Or.inl ⟨by rfl, ?_⟩) (by assumption) ?_
        rotate_left
        · intro w hSw; (try dsimp only at hSw); go_split_ands; go_simp <;> with_reducible rfl
        try simp only [Act.put, List.setIfInBounds_toArray, List.set_cons_zero, List.set_cons_succ]
        refine wpAnyH_take (i := 21) (v := ?_) (by simp only [List.getElem?_toArray, List.getElem?_cons_succ, List.getElem?_cons_zero]; rfl) (by kernel_rfl) (by kernel_rfl) (by kernel_rfl) (by exact fun _ _ _ h => h) (Or.inl ⟨by rfl, ?_⟩) (by assumption) ?_
        rotate_left
        · intro w hSw; (try dsimp only at hSw); go_split_ands; go_simp <;> with_reducible rfl
        try simp only [Act.put, List.setIfInBounds_toArray, List.set_cons_zero, List.set_cons_succ]
        refine wpAnyH_take (i := 22) (v := ?_) (by simp only [List.getElem?_toArray, List.getElem?_cons_succ, List.getElem?_cons_zero]; rfl) (by kernel_rfl) (by kernel_rfl) (by kernel_rfl) (by exact fun _ _ _ h => h) (Or.inl ⟨by rfl, ?_⟩) (by assumption) ?_
        rotate_left
        · intro w hSw; (try dsimp only at hSw); go_split_ands; go_simp <;> with_reducible rfl
        try simp only [Act.put, List.setIfInBounds_toArray, List.set_cons_zero, List.set_cons_succ]
        refine wpAnyH_take (i := 23) (v := ?_) (by simp only [List.getElem?_toArray, List.getElem?_cons_succ, List.getElem?_cons_zero]; rfl) (by kernel_rfl) (by kernel_rfl) (by kernel_rfl) (by exact fun _ _ _ h => h) (Or.inl ⟨by rfl, ?_⟩) (by assumption) ?_
        rotate_left
        · intro w hSw; (try dsimp only at hSw); go_split_ands; go_simp <;> with_reducible rfl
        try simp only [Act.put, List.setIfInBounds_toArray, List.set_cons_zero, List.set_cons_succ]
        refine wpAnyH_take (i := 24) (v := ?_) (by simp only [List.getElem?_toArray, List.getElem?_cons_succ, List.getElem?_cons_zero]; rfl) (by kernel_rfl) (by kernel_rfl) (by kernel_rfl) (by exact fun _ _ _ h => h) (Or.inl ⟨by rfl, ?_⟩) (by assumption) ?_
        rotate_left
        · intro w hSw; (try dsimp only at hSw); go_split_ands; go_simp <;> with_reducible rfl
        try simp only [Act.put, List.setIfInBounds_toArray, List.set_cons_zero, List.set_cons_succ]
        refine wpAnyH_done (by kernel_rfl) ?_ _
        go_wp2
        go_ret
        rw [HF.out]
        exact ⟨_, [], p, rfl, HS1.out.below HB2.out, Frs.nil _ _ _⟩
      · have l2 : ¬ (c.iss : Int) < (q.seq : Int) := by omega
        have HSE : Hid (¬ (oursB c q = false ∨ q.seq ≠ c.rep + 1 ∨ c.iss < q.seq)) := Lib.hid fun h => h.elim (fun h => by rw [ho] at h; cases h) fun h => h.elim (fun h => h HSQ.out) fun h => his h
        refine wp_region_held_drew (S := fun W => W.cell? ⟨w.heap.size, 0, none⟩ = some (.int .i64 (q.kind : Int)) ∧ W.cell? ⟨w.heap.size, 1, none⟩ = some (.int .u64 (q.tok : Int)) ∧ W.cell? ⟨w.heap.size, 2, none⟩ = some (.int .u64 (q.seq : Int)) ∧ W.cell? ⟨w.heap.size, 3, none⟩ = some (.int .u64 (q.ack : Int)) ∧ W.cell? ⟨w.heap.size, 4, none⟩ = some (.slice A q.body.length cc) ∧ W.cell? ⟨p.g, 10, none⟩ = some (.int .u64 (c.iss : Int)) ∧ W.cell? ⟨p.g, 11, none⟩ = some (.int .u64 (c.rep : Int))) (by kernel_rfl) hS (fun hHeld => ?_)
        refine wpAnyH_take (i := 0) (v := ?_) (by simp only [List.getElem?_toArray, List.getElem?_cons_zero]; rfl) (by kernel_rfl) (by kernel_rfl) (by kernel_rfl) (by exact fun _ _ _ h => h) (Or.inl ⟨by rfl, ?_⟩) (by assumption) ?_
        rotate_left
        · intro w hSw; (try dsimp only at hSw); go_split_ands; go_simp <;> with_reducible rfl
        try simp only [Act.put, List.setIfInBounds_toArray, List.set_cons_zero, List.set_cons_succ]
        refine wpAnyH_take (i := 1) (v := ?_) (by simp only [List.getElem?_toArray, List.getElem?_cons_succ, List.getElem?_cons_zero]; rfl) (by kernel_rfl) (by kernel_rfl) (by kernel_rfl) (by exact fun _ _ _ h => h) (Or.inl ⟨by rfl, ?_⟩) (by assumption) ?_
        rotate_left
        · intro w hSw; (try dsimp only at hSw); go_split_ands; go_simp <;> with_reducible rfl
        try simp only [Act.put, List.setIfInBounds_toArray, List.set_cons_zero, List.set_cons_succ]
        refine wpAnyH_ready (rs := [2]) (by kernel_rfl) (by simp) ?_
        refine AllReadyH.cons (by simp only [List.getElem?_toArray, List.getElem?_cons_succ, List.getElem?_cons_zero]; rfl) (fun K hK => ?_) AllReadyH.nil
        go_simp
        go_at_call 91
        refine HO.out.mono ?_
        rintro e w2 ⟨rfl, hb2⟩
        have HB2 : Hid (Below w1.heap.size w1 w2) := Lib.hid ⟨hb2.os, hb2.tape, hb2.output, hb2.size, hb2.block⟩
        have hS2 := HX.out w2 HB2.out
        clear hb2
        try go_simp
        refine hK.out _ _ (hS2) (fun hHeld => ?_)
        clear hK K
        try simp only [Act.put, List.setIfInBounds_toArray, List.set_cons_zero, List.set_cons_succ]
        refine wpAnyH_take (i := 3) (v := ?_) (by simp only [List.getElem?_toArray, List.getElem?_cons_succ, List.getElem?_cons_zero]; rfl) (by kernel_rfl) (by kernel_rfl) (by kernel_rfl) (by exact fun _ _ _ h => h) (Or.inl ⟨by rfl, ?_⟩) (by assumption) ?_
        rotate_left
        · intro w hSw; (try dsimp only at hSw); go_split_ands; go_simp <;> with_reducible rfl
        try simp only [Act.put, List.setIfInBounds_toArray, List.set_cons_zero, List.set_cons_succ]
        refine wpAnyH_take (i := 4) (v := ?_) (by simp only [List.getElem?_toArray, List.getElem?_cons_succ, List.getElem?_cons_zero]; rfl) (by kernel_rfl) (by kernel_rfl) (by kernel_rfl) (by exact fun _ _ _ h => h) (Or.inl ⟨by rfl, ?_⟩) (by assumption) ?_
        rotate_left
        · intro w hSw; (try dsimp only at hSw); go_split_ands; go_simp <;> with_reducible rfl
        try simp only [Act.put, List.setIfInBounds_toArray, List.set_cons_zero, List.set_cons_succ]
        refine wpAnyH_take (i := 5) (v := ?_) (by simp only [List.getElem?_toArray, List.getElem?_cons_succ, List.getElem?_cons_zero]; rfl) (by kernel_rfl) (by kernel_rfl) (by kernel_rfl) (by exact fun _ _ _ h => h) (Or.inl ⟨by rfl, ?_⟩) (by assumption) ?_
        rotate_left
        · intro w hSw; (try dsimp only at hSw); go_split_ands; go_simp <;> with_reducible rfl
        try simp only [Act.put, List.setIfInBounds_toArray, List.set_cons_zero, List.set_cons_succ]
        refine wpAnyH_take (i := 6) (v := ?_) (by simp only [List.getElem?_toArray, List.getElem?_cons_succ, List.getElem?_cons_zero]; rfl) (by kernel_rfl) (by kernel_rfl) (by kernel_rfl) (by exact fun _ _ _ h => h) (Or.inl ⟨by rfl, ?_⟩) (by assumption) ?_
        rotate_left
        · intro w hSw; (try dsimp only at hSw); go_split_ands; go_simp <;> with_reducible rfl
        try simp only [Act.put, List.setIfInBounds_toArray, List.set_cons_zero, List.set_cons_succ]
        refine wpAnyH_take (i := 7) (v := ?_) (by simp only [List.getElem?_toArray, List.getElem?_cons_succ, List.getElem?_cons_zero]; rfl) (by kernel_rfl) (by kernel_rfl) (by kernel_rfl) (by exact fun _ _ _ h => h) (Or.inl ⟨by rfl, ?_⟩) (by assumption) ?_
        rotate_left
        · intro w hSw; (try dsimp only at hSw); go_split_ands; go_simp <;> with_reducible rfl
        try simp only [Act.put, List.setIfInBounds_toArray, List.set_cons_zero, List.set_cons_succ]
        refine wpAnyH_take (i := 8) (v := ?_) (by simp only [List.getElem?_toArray, List.getElem?_cons_succ, List.getElem?_cons_zero]; rfl) (by kernel_rfl) (by kernel_rfl) (by kernel_rfl) (by exact fun _ _ _ h => h) (Or.inl ⟨by rfl, ?_⟩) (by assumption) ?_
        rotate_left
        · intro w hSw; (try dsimp only at hSw); go_split_ands; go_simp <;> with_reducible rfl
        try simp only [Act.put, List.setIfInBounds_toArray, List.set_cons_zero, List.set_cons_succ]
        refine wpAnyH_take (i := 9) (v := ?_) (by simp only [List.getElem?_toArray, List.getElem?_cons_succ, List.getElem?_cons_zero]; rfl) (by kernel_rfl) (by kernel_rfl) (by kernel_rfl) (by exact fun _ _ _ h => h) (Or.inl ⟨by rfl, ?_⟩) (by assumption) ?_
        rotate_left
        · intro w hSw; (try dsimp only at hSw); go_split_ands; go_simp <;> with_reducible rfl
        try simp only [Act.put, List.setIfInBounds_toArray, List.set_cons_zero, List.set_cons_succ]
        refine wpAnyH_take (i := 10) (v := ?_) (by simp only [List.getElem?_toArray, List.getElem?_cons_succ, List.getElem?_cons_zero]; rfl) (by kernel_rfl) (by kernel_rfl) (by kernel_rfl) (by exact fun _ _ _ h => h) (Or.inl ⟨by rfl, ?_⟩) (by assumption) ?_
        rotate_left
        · intro w hSw; (try dsimp only at hSw); go_split_ands; go_simp <;> with_reducible rfl
        try simp only [Act.put, List.setIfInBounds_toArray, List.set_cons_zero, List.set_cons_succ]
        refine wpAnyH_take (i := 11) (v := ?_) (by simp only [List.getElem?_toArray, List.getElem?_cons_succ, List.getElem?_cons_zero]; rfl) (by kernel_rfl) (by kernel_rfl) (by kernel_rfl) (by exact fun _ _ _ h => h) (Or.inl ⟨by rfl, ?_⟩) (by assumption) ?_
        rotate_left
        · intro w hSw; (try dsimp only at hSw); go_split_ands; go_simp <;> with_reducible rfl
        try simp only [Act.put, List.setIfInBounds_toArray, List.set_cons_zero, List.set_cons_succ]
        refine wpAnyH_take (i := 12) (v := ?_) (by simp only [List.getElem?_toArray, List.getElem?_cons_succ, List.getElem?_cons_zero]; rfl) (by kernel_rfl) (by kernel_rfl) (by kernel_rfl) (by exact fun _ _ _ h => h) (Or.inl ⟨by rfl, ?_⟩) (by assumption) ?_
        rotate_left
        · intro w hSw; (try dsimp only at hSw); go_split_ands; go_simp <;> with_reducible rfl
        try simp only [Act.put, List.setIfInBounds_toArray, List.set_cons_zero, List.set_cons_succ]
        refine wpAnyH_take (i := 13) (v := ?_) (by simp only [List.getElem?_toArray, List.getElem?_cons_succ, List.getElem?_cons_zero]; rfl) (by kernel_rfl) (by kernel_rfl) (by kernel_rfl) (by exact fun _ _ _ h => h) (Or.inl ⟨by rfl, ?_⟩) (by assumption) ?_
        rotate_left
        · intro w hSw; (try dsimp only at hSw); go_split_ands; go_simp <;> with_reducible rfl
        try simp only [Act.put, List.setIfInBounds_toArray, List.set_cons_zero, List.set_cons_succ]
        refine wpAnyH_take (i := 14) (v := ?_) (by simp only [List.getElem?_toArray, List.getElem?_cons_succ, List.getElem?_cons_zero]; rfl) (by kernel_rfl) (by kernel_rfl) (by kernel_rfl) (by exact fun _ _ _ h => h) (Or.inl ⟨by rfl, ?_⟩) (by assumption) ?_
        rotate_left
        · intro w hSw; (try dsimp only at hSw); go_split_ands; go_simp <;> with_reducible rfl
        try simp only [Act.put, List.setIfInBounds_toArray, List.set_cons_zero, List.set_cons_succ]
        refine wpAnyH_take (i := 15) (v := ?_) (by simp only [List.getElem?_toArray, List.getElem?_cons_succ, List.getElem?_cons_zero]; rfl) (by kernel_rfl) (by kernel_rfl) (by kernel_rfl) (by exact fun _ _ _ h => h) (Or.inl ⟨by rfl, ?_⟩) (by assumption) ?_
        rotate_left
        · intro w hSw; (try dsimp only at hSw); go_split_ands; go_simp <;> with_reducible rfl
        try simp only [Act.put, List.setIfInBounds_toArray, List.set_cons_zero, List.set_cons_succ]
        refine wpAnyH_take (i := 16) (v := ?_) (by simp only [List.getElem?_toArray, List.getElem?_cons_succ, List.getElem?_cons_zero]; rfl) (by kernel_rfl) (by kernel_rfl) (by kernel_rfl) (by exact fun _ _ _ h => h) (Or.inl ⟨by rfl, ?_⟩) (by assumption) ?_
        rotate_left
        · intro w hSw; (try dsimp only at hSw); go_split_ands; go_simp <;> with_reducible rfl
        try simp only [Act.put, List.setIfInBounds_toArray, List.set_cons_zero, List.set_cons_succ]
        refine wpAnyH_take (i := 17) (v := ?_) (by simp only [List.getElem?_toArray, List.getElem?_cons_succ, List.getElem?_cons_zero]; rfl) (by kernel_rfl) (by kernel_rfl) (by kernel_rfl) (by exact fun _ _ _ h => h) (Or.inl ⟨by rfl, ?_⟩) (by assumption) ?_
        rotate_left
        · intro w hSw; (try dsimp only at hSw); go_split_ands; go_simp <;> with_reducible rfl
        try simp only [Act.put, List.setIfInBounds_toArray, List.set_cons_zero, List.set_cons_succ]
        refine wpAnyH_take (i := 18) (v := ?_) (by simp only [List.getElem?_toArray, List.getElem?_cons_succ, List.getElem?_cons_zero]; rfl) (by kernel_rfl) (by kernel_rfl) (by kernel_rfl) (by exact fun _ _ _ h => h) (Or.inl ⟨by rfl, ?_⟩) (by assumption) ?_
        rotate_left
        · intro w hSw; (try dsimp only at hSw); go_split_ands; go_simp <;> with_reducible rfl
        try simp only [Act.put, List.setIfInBounds_toArray, List.set_cons_zero, List.set_cons_succ]
        refine wpAnyH_take (i := 19) (v := ?_) (by simp only [List.getElem?_toArray, List.getElem?_cons_succ, List.getElem?_cons_zero]; rfl) (by kernel_rfl) (by kernel_rfl) (by kernel_rfl) (by exact fun _ _ _ h => h) (Or.inl ⟨by rfl, ?_⟩) (by assumption) ?_
        rotate_left
        · intro w hSw; (try dsimp only at hSw); go_split_ands; go_simp <;> with_reducible rfl
        try simp only [Act.put, List.setIfInBounds_toArray, List.set_cons_zero, List.set_cons_succ]
        refine wpAnyH_take (i := 20) (v := ?_) (by simp only [List.getElem?_toArray, List.getElem?_cons_succ, List.getElem?_cons_zero]; rfl) (by kernel_rfl) (by kernel_rfl) (by kernel_rfl) (by exact fun _ _ _ h => h) (Or.inl ⟨by rfl, ?_⟩) (by assumption) ?_
        rotate_left
        · intro w hSw; (try dsimp only at hSw); go_split_ands; go_simp <;> with_reducible rfl
        try simp only [Act.put, List.setIfInBounds_toArray, List.set_cons_zero, List.set_cons_succ]
        refine wpAnyH_take (i := 21) (v := ?_) (by simp only [List.getElem?_toArray, List.getElem?_cons_succ, List.getElem?_cons_zero]; rfl) (by kernel_rfl) (by kernel_rfl) (by kernel_rfl) (by exact fun _ _ _ h => h) (Or.inl ⟨by rfl, ?_⟩) (by assumption) ?_
        rotate_left
        · intro w hSw; (try dsimp only at hSw); go_split_ands; go_simp <;> with_reducible rfl
        try simp only [Act.put, List.setIfInBounds_toArray, List.set_cons_zero, List.set_cons_succ]
        refine wpAnyH_take (i := 22) (v := ?_) (by simp only [List.getElem?_toArray, List.getElem?_cons_succ, List.getElem?_cons_zero]; rfl) (by kernel_rfl) (by kernel_rfl) (by kernel_rfl) (by exact fun _ _ _ h => h) (Or.inl ⟨by rfl, ?_⟩) (by assumption) ?_
        rotate_left
        · intro w hSw; (try dsimp only at hSw); go_split_ands; go_simp <;> with_reducible rfl
        try simp only [Act.put, List.setIfInBounds_toArray, List.set_cons_zero, List.set_cons_succ]
        refine wpAnyH_take (i := 23) (v := ?_) (by simp only [List.getElem?_toArray, List.getElem?_cons_succ, List.getElem?_cons_zero]; rfl) (by kernel_rfl) (by kernel_rfl) (by kernel_rfl) (by exact fun _ _ _ h => h) (Or.inl ⟨by rfl, ?_⟩) (by assumption) ?_
        rotate_left
        · intro w hSw; (try dsimp only at hSw); go_split_ands; go_simp <;> with_reducible rfl
        try simp only [Act.put, List.setIfInBounds_toArray, List.set_cons_zero, List.set_cons_succ]
        refine wpAnyH_take (i := 24) (v := ?_) (by simp only [List.getElem?_toArray, List.getElem?_cons_succ, List.getElem?_cons_zero]; rfl) (by kernel_rfl) (by kernel_rfl) (by kernel_rfl) (by exact fun _ _ _ h => h) (Or.inl ⟨by rfl, ?_⟩) (by assumption) ?_
        rotate_left
        · intro w hSw; (try dsimp only at hSw); go_split_ands; go_simp <;> with_reducible rfl
        try simp only [Act.put, List.setIfInBounds_toArray, List.set_cons_zero, List.set_cons_succ]
        refine wpAnyH_done (by kernel_rfl) ?_ _
        have HIS := Lib.hid (show c.rep + 1 ≤ c.iss by have := HSQ.out; omega)
        clear his
        have HS2 := Lib.hid (HS1.out.below HB2.out)
        have HBX := Lib.hid (HB.out.blk.below HB2.out HB.out.blk.lt)
        have HRD := Lib.hid ((HB.out.rd.below HB2.out).more HB2.out.size)
        have hB2w : w1.heap.size ≤ w2.heap.size := HB2.out.size
        have hB1w : w.heap.size ≤ w1.heap.size := HB.out.old.size
        have HG := Lib.hid (getr_any A q.body.length cc q.body w2 HRD.out hcc (by omega))
        have y4 : w2.cell? ⟨w.heap.size, 4, none⟩ = some (.slice A q.body.length cc) := HBX.out.cell 4
        have z53 : ∀ w : World, (zeroValue 53).run Try.prog w = .ok (.agg #[.int .i64 0, .slice none 0 0, .string ByteArray.empty]) w := fun w => by kernel_rfl
        clear x0 x1 x2 x3 x4 k10 k11 hS hw1 HO HOB HX l1 l2
        by_cases hgd : goodG q.body
        · have HF : Hid (repF c q = (if c.greet = true ∧ c.rep + 1 + c.win ≤ c.iss then [({ c with reps := c.reps ++ [repG q.body], rep := c.rep + 1, wait := 0 } : Cl).cmd (c.rep + 1 + c.win)] else [], { c with reps := c.reps ++ [repG q.body], rep := c.rep + 1, wait := 0 })) := Lib.hid (by
            unfold repF
            rw [if_neg HSE.out, getG_yes hgd])
          obtain ⟨rp, hrp⟩ : ∃ rp, repG q.body = rp := ⟨_, rfl⟩
          have HGY : Hid (Calls Try.prog 92 #[.slice A q.body.length cc] w2 fun e w' => ∃ A3 c3, e = .returned (.tuple #[.agg #[.int .i64 rp.err, .slice A3 rp.vals.length c3, .string ⟨rp.text.toArray⟩], .int .i64 0]) ∧ w'.ownsRow w2.heap.size 68 2 (.slice A3 rp.vals.length c3) rp.vals.length (vcells rp.vals) ∧ Below w2.heap.size w2 w') := Lib.hid (HG.out.mono fun e w' ⟨hb, hp⟩ => by
            rcases hp with ⟨_, A3, n3, c3, he, ho3⟩ | ⟨hn, _⟩
            · have hn3 : (repV q.body).1.length = n3 := cells_len ho3
              subst hn3
              subst hrp
              exact ⟨A3, c3, he, ho3, hb⟩
            · exact absurd hgd hn)
          rw [hrp] at HF
          clear HG hgd hrp
          go_upto_region 4 with (go_at_call 92; refine HGY.out.mono ?_; rintro e w3 ⟨A3, c3, rfl, ho3, hb3⟩; have HO3 := Lib.hid ho3; have HB3 := Lib.hid hb3; clear ho3 hb3)
          have HQ := Lib.hid (Blk.new w3 53 #[.int .i64 rp.err, .slice A3 rp.vals.length c3, .string ⟨rp.text.toArray⟩])
          have HB4 : Hid (Below w2.heap.size w2 (w3.alloc (.cells #[.int .i64 rp.err, .slice A3 rp.vals.length c3, .string ⟨rp.text.toArray⟩] 53))) := Lib.hid (HB3.out.alloc HB3.out.size _)
          have HO4 := Lib.hid (World.ownsRow.alloc HO3.out (.cells #[.int .i64 rp.err, .slice A3 rp.vals.length c3, .string ⟨rp.text.toArray⟩] 53))
          have hb3w : w2.heap.size ≤ w3.heap.size := HB3.out.size
          generalize w3.alloc (.cells #[.int .i64 rp.err, .slice A3 rp.vals.length c3, .string ⟨rp.text.toArray⟩] 53) = w4 at *
          generalize w3.heap.size = b3 at *
          have HS4 := Lib.hid (HS2.out.below HB4.out)
          have HBX4 := Lib.hid (HBX.out.below HB4.out HBX.out.lt)
          clear y4 HGY HB3 HO3 HBX HRD HS2
          go_upto_region 6 with fail
          obtain ⟨Av, cv, hrv, _, _⟩ := HS4.out.ca.rows.r.form
          have HRV := Lib.hid hrv
          have HNB : Hid (some b3 ≠ p.rv.ownBlock) := Lib.hid fun e => by have := (HS1.out.ca.lt (k := b3) (.inr (.inr (.inr (.inr (.inl (.inl e.symm))))))).2; omega
          rw [hrv] at HNB
          have HROW := Lib.hid HS4.out.ca.rows.r.row
          rw [hrv] at HROW
          have q5 : w4.cell? ⟨p.g, 5, none⟩ = some (.slice Av p.rl.length cv) := (HS4.out.ca.cells 5).trans (by rw [← hrv]; rfl)
          have r0 : w4.cell? ⟨b3, 0, none⟩ = some (.int .i64 rp.err) := HQ.out.cell 0
          have r1 : w4.cell? ⟨b3, 1, none⟩ = some (.slice A3 rp.vals.length c3) := HQ.out.cell 1
          have r2 : w4.cell? ⟨b3, 2, none⟩ = some (.string ⟨rp.text.toArray⟩) := HQ.out.cell 2
          have hlb : (p.rl.length + 1) * 48 ≤ 140737488355328 := by
            have h1 := congrArg List.length HS4.out.ca.rows.ri
            rw [List.length_map] at h1
            have := HOK.out.rl
            have := HOK.out.rp
            have := HOK.out.is
            omega
          obtain ⟨i0, hi, hz0, hz1, hz2⟩ := info_parts info53
          have hbase4 : base ≤ w4.heap.size := by have := (HS4.out.ca.lt (k := p.g) (.inl rfl)); omega
          have hS4 : w4.drew.cell? ⟨p.g, 5, none⟩ = some (.slice Av p.rl.length cv) ∧ w4.drew.cell? ⟨b3, 0, none⟩ = some (.int .i64 rp.err) ∧ w4.drew.cell? ⟨b3, 1, none⟩ = some (.slice A3 rp.vals.length c3) ∧ w4.drew.cell? ⟨b3, 2, none⟩ = some (.string ⟨rp.text.toArray⟩) := ⟨q5, r0, r1, r2⟩
          have hg4 := HS4.out.ca.blk.lt
          have hb34 := HQ.out.lt
          have hw4 := HBX4.out.lt
          have HCA4 := Lib.hid fun (o : Obj) => (CA.below HS4.out.ca ((Below.refl _ _).alloc (Nat.le_refl _) o)).keep (w' := (w4.alloc o).drew) fun _ _ => rfl
          refine wp_region_x (s := 10) (S := fun W => W.cell? ⟨p.g, 5, none⟩ = some (.slice Av p.rl.length cv) ∧ W.cell? ⟨b3, 0, none⟩ = some (.int .i64 rp.err) ∧ W.cell? ⟨b3, 1, none⟩ = some (.slice A3 rp.vals.length c3) ∧ W.cell? ⟨b3, 2, none⟩ = some (.string ⟨rp.text.toArray⟩)) (by kernel_rfl) hS4 (fun hHeld => ?_)
          refine wpAnyX_take (i := 0) (v := ?_) (by simp only [List.getElem?_toArray, List.getElem?_cons_zero]; rfl) (by kernel_rfl) (by kernel_rfl) (by kernel_rfl) (by kernel_rfl) (by exact fun _ _ _ h => h) (Or.inl ⟨by rfl, ?_⟩) (by assumption) ?_
          rotate_left
          · intro w hSw; (try dsimp only at hSw); go_split_ands; go_simp <;> with_reducible rfl
          try simp only [Act.put, List.setIfInBounds_toArray, List.set_cons_zero, List.set_cons_succ]
          refine wpAnyX_take (i := 1) (v := ?_) (by simp only [List.getElem?_toArray, List.getElem?_cons_succ, List.getElem?_cons_zero]; rfl) (by kernel_rfl) (by kernel_rfl) (by kernel_rfl) (by kernel_rfl) (by exact fun _ _ _ h => h) (Or.inl ⟨by rfl, ?_⟩) (by assumption) ?_
          rotate_left
          · intro w hSw; (try dsimp only at hSw); go_split_ands; go_simp <;> with_reducible rfl
          try simp only [Act.put, List.setIfInBounds_toArray, List.set_cons_zero, List.set_cons_succ]
          refine wpAnyX_take (i := 2) (v := ?_) (by simp only [List.getElem?_toArray, List.getElem?_cons_succ, List.getElem?_cons_zero]; rfl) (by kernel_rfl) (by kernel_rfl) (by kernel_rfl) (by kernel_rfl) (by exact fun _ _ _ h => h) (Or.inl ⟨by rfl, ?_⟩) (by assumption) ?_
          rotate_left
          · intro w hSw; (try dsimp only at hSw); go_split_ands; go_simp <;> with_reducible rfl
          try simp only [Act.put, List.setIfInBounds_toArray, List.set_cons_zero, List.set_cons_succ]
          refine wpAnyX_take (i := 3) (v := ?_) (by simp only [List.getElem?_toArray, List.getElem?_cons_succ, List.getElem?_cons_zero]; rfl) (by kernel_rfl) (by kernel_rfl) (by kernel_rfl) (by kernel_rfl) (by exact fun _ _ _ h => h) (Or.inl ⟨by rfl, ?_⟩) (by assumption) ?_
          rotate_left
          · intro w hSw; (try dsimp only at hSw); go_split_ands; go_simp <;> with_reducible rfl
          try simp only [Act.put, List.setIfInBounds_toArray, List.set_cons_zero, List.set_cons_succ]
          refine wpAnyX_take (i := 4) (v := ?_) (by simp only [List.getElem?_toArray, List.getElem?_cons_succ, List.getElem?_cons_zero]; rfl) (by kernel_rfl) (by kernel_rfl) (by kernel_rfl) (by kernel_rfl) (by exact fun _ _ _ h => h) (Or.inl ⟨by rfl, ?_⟩) (by assumption) ?_
          rotate_left
          · intro w hSw; (try dsimp only at hSw); go_split_ands; go_simp <;> with_reducible rfl
          try simp only [Act.put, List.setIfInBounds_toArray, List.set_cons_zero, List.set_cons_succ]
          refine wpAnyX_take (i := 5) (v := ?_) (by simp only [List.getElem?_toArray, List.getElem?_cons_succ, List.getElem?_cons_zero]; rfl) (by kernel_rfl) (by kernel_rfl) (by kernel_rfl) (by kernel_rfl) (by exact fun _ _ _ h => h) (Or.inl ⟨by rfl, ?_⟩) (by assumption) ?_
          rotate_left
          · intro w hSw; (try dsimp only at hSw); go_split_ands; go_simp <;> with_reducible rfl
          try simp only [Act.put, List.setIfInBounds_toArray, List.set_cons_zero, List.set_cons_succ]
          refine wpAnyX_one (i := 6) (by kernel_rfl) (by simp only [List.getElem?_toArray, List.getElem?_cons_succ, List.getElem?_cons_zero]; rfl) (fun K2 hK2 => ?_)
          go_simp
          refine hK2.out _ _ (by go_keep) (fun hHeld => ?_)
          clear hK2 K2
          try simp only [Act.put, List.setIfInBounds_toArray, List.set_cons_zero, List.set_cons_succ]
          refine wpAnyX_one (i := 7) (by kernel_rfl) (by simp only [List.getElem?_toArray, List.getElem?_cons_succ, List.getElem?_cons_zero]; rfl) (fun K2 hK2 => ?_)
          (refine step_append_any _ rfl (.tmp 45) (.tmp 47) 63 rfl base 53 i0 _ 3 48 Try.underlying63 hi hz0 hz1 hz2 rfl (by decide) (.slice Av p.rl.length cv) p.rl.length (kR.flat p.rl) (by rfl) ((World.ownsRow.alloc HROW.out _).drew) _ _ 1 1 [.int .i64 rp.err, .slice A3 rp.vals.length c3, .string ⟨rp.text.toArray⟩] (by rfl) ((read_one _ [.int .i64 rp.err, .slice A3 rp.vals.length c3, .string ⟨rp.text.toArray⟩] 53).drew) (by simp [Value.oneCell']) (by simp only [maxLen]; omega) hlb (by simp; omega) ?_; intro v5 w5 hr5 hg5 hv5; obtain ⟨A5, c5, rfl, _, _⟩ := own_formL hr5; have HR5 := Lib.hid hr5; have HG5 := Lib.hid hg5; have HV5 := Lib.hid hv5; have hst := (HCA4.out (.cells #[.int .i64 rp.err, .slice A3 rp.vals.length c3, .string ⟨rp.text.toArray⟩] 53)).stayR (by rw [HRV.out]; exact hg5); have t5 : w5.cell? ⟨p.g, 5, none⟩ = some (.slice Av p.rl.length cv) := (hst.1.cell 5).trans (by rw [← HRV.out]; rfl); have t11 : w5.cell? ⟨p.g, 11, none⟩ = some (.int .u64 (c.rep : Int)) := hst.1.cell 11; have t13 : w5.cell? ⟨p.g, 13, none⟩ = some (.int .i64 (c.wait : Int)) := hst.1.cell 13; have fr := fun i => hst.1.frozen i; have fr5 := fr 5; have fr11 := fr 11; have fr13 := fr 13; have hg5w := hst.1.lt; have hb5 := ((HQ.out.alloc (.cells #[.int .i64 rp.err, .slice A3 rp.vals.length c3, .string ⟨rp.text.toArray⟩] 53)).drew).grown hg5 HNB.out; have hx5 := ((HBX4.out.alloc (.cells #[.int .i64 rp.err, .slice A3 rp.vals.length c3, .string ⟨rp.text.toArray⟩] 53)).drew).grown hg5 (fun e => own_blk_ne ((World.ownsRow.alloc HROW.out (.cells #[.int .i64 rp.err, .slice A3 rp.vals.length c3, .string ⟨rp.text.toArray⟩] 53)).drew) ((HBX4.out.alloc (.cells #[.int .i64 rp.err, .slice A3 rp.vals.length c3, .string ⟨rp.text.toArray⟩] 53)).drew) (by decide) e.symm); have hS5 := And.intro t5 (And.intro (show w5.cell? ⟨b3, 0, none⟩ = some (.int .i64 rp.err) from hb5.cell 0) (And.intro (show w5.cell? ⟨b3, 1, none⟩ = some (.slice A3 rp.vals.length c3) from hb5.cell 1) (show w5.cell? ⟨b3, 2, none⟩ = some (.string ⟨rp.text.toArray⟩) from hb5.cell 2))); have hx5w := hx5.lt; clear hr5 hg5 hv5 hst fr hb5 hx5)
          try go_simp
          refine hK2.out _ _ (hS5) (fun hHeld => ?_)
          clear hK2 K2
          try simp only [Act.put, List.setIfInBounds_toArray, List.set_cons_zero, List.set_cons_succ]
          refine wpAnyX_one (i := 8) (by kernel_rfl) (by simp only [List.getElem?_toArray, List.getElem?_cons_succ, List.getElem?_cons_zero]; rfl) (fun K2 hK2 => ?_)
          go_simp
          refine hK2.out _ _ (hHeld) (fun hHeld => ?_)
          clear hK2 K2
          try simp only [Act.put, List.setIfInBounds_toArray, List.set_cons_zero, List.set_cons_succ]
          refine wpAnyX_one (i := 9) (by kernel_rfl) (by simp only [List.getElem?_toArray, List.getElem?_cons_succ, List.getElem?_cons_zero]; rfl) (fun K2 hK2 => ?_)
          go_simp
          refine hK2.out _ _ (hHeld) (fun hHeld => ?_)
          clear hK2 K2
          try simp only [Act.put, List.setIfInBounds_toArray, List.set_cons_zero, List.set_cons_succ]
          refine wpAnyX_last (by kernel_rfl) (by simp only [List.getElem?_toArray, List.getElem?_cons_succ, List.getElem?_cons_zero]; rfl) (fun K2 hK2 => ?_)
          go_simp
          refine hK2.out _ _ ?_
          clear hK2 K2
          try simp only [Act.put, List.setIfInBounds_toArray, List.set_cons_zero, List.set_cons_succ]
          refine wpAnyX_done (by kernel_rfl) ?_ _
          go_upto_region 9 with fail
          have hS7 : Stp base w p 0 { c with reps := c.reps ++ [rp], rep := c.rep + 1, wait := 0 } { p with rv := .slice A5 (p.rl.length + 1) c5, rl := p.rl ++ [(rp, A3, c3)] } (((w5.setCell ⟨p.g, 5, none⟩ (.slice A5 (p.rl.length + 1) c5)).setCell ⟨p.g, 11, none⟩ (.int .u64 ((c.rep : Int) + 1))).setCell ⟨p.g, 13, none⟩ (.int .i64 0)) := by
            have hg5 := HG5.out
            rw [← HRV.out] at hg5
            have hca := HCA4.out (.cells #[.int .i64 rp.err, .slice A3 rp.vals.length c3, .string ⟨rp.text.toArray⟩] 53)
            have hst := hca.stayR hg5
            refine ⟨hca.pushR (x := (rp, A3, c3)) (own_base ((World.ownsRow.alloc HO4.out _).drew) (by have := (HS1.out.ca.lt (k := p.g) (.inl rfl)); omega)) HR5.out hg5 (((hst.1.set_ 5 _).set_ 11 _).set_ 13 _) (fun k hk hn => by rw [Below.heap_setCell _ _ _ _ hn, Below.heap_setCell _ _ _ _ hn, Below.heap_setCell _ _ _ _ hn]) rfl rfl rfl rfl, rfl, fun k hk => ?_, ?_, by dsimp only; omega⟩
            · rcases hk with e | e | e | e | (e | e) | e
              · exact .inl (.inl e)
              · exact .inl (.inr (.inl e))
              · exact .inl (.inr (.inr (.inl e)))
              · exact .inl (.inr (.inr (.inr (.inl e))))
              · rcases HV5.out with h1 | h1
                · exact .inl (.inr (.inr (.inr (.inr (.inl (.inl (by rw [HRV.out, ← h1]; exact e)))))))
                · refine .inr ?_
                  have h2 : (Value.slice A5 (p.rl.length + 1) c5).ownBlock = some k := e
                  rw [h1] at h2
                  injection h2 with h2
                  have h3 : (w4.alloc (.cells #[.int .i64 rp.err, .slice A3 rp.vals.length c3, .string ⟨rp.text.toArray⟩] 53)).heap.size = k := h2
                  rw [← h3]
                  simp
                  omega
              · rcases inB_push e with e | e
                · exact .inl (.inr (.inr (.inr (.inr (.inl (.inr e))))))
                · have h1 := (World.ownsRow.lt HO4.out k e).1
                  exact .inr (by omega)
              · exact .inl (.inr (.inr (.inr (.inr (.inr e)))))
            · exact ((((HS4.out.chg.alloc _).drew.trans (Chg.of_grown hg5 (F := CF p) fun k hk => .inr (.inr (.inr (.inr (.inl (.inl hk)))))) (fun _ _ h => h)).setCell (p := ⟨p.g, 5, none⟩) (fun _ => .inl rfl) _).setCell (p := ⟨p.g, 11, none⟩) (fun _ => .inl rfl) _).setCell (p := ⟨p.g, 13, none⟩) (fun _ => .inl rfl) _
          generalize (((w5.setCell ⟨p.g, 5, none⟩ (.slice A5 (p.rl.length + 1) c5)).setCell ⟨p.g, 11, none⟩ (.int .u64 ((c.rep : Int) + 1))).setCell ⟨p.g, 13, none⟩ (.int .i64 0)) = w7 at hS7 ⊢
          generalize hp' : ({ p with rv := .slice A5 (p.rl.length + 1) c5, rl := p.rl ++ [(rp, A3, c3)] } : Pa) = p' at hS7
          have hpg : p'.g = p.g := by rw [← hp']
          have HS7 := Lib.hid hS7
          have hok7 : ({ c with reps := c.reps ++ [rp], rep := c.rep + 1, wait := 0 } : Cl).Ok N := ⟨HOK.out.no, HOK.out.wi, HOK.out.pa, HOK.out.bl, HOK.out.bs, HIS.out, by have := HOK.out.rl; simp [this], HOK.out.is, HOK.out.tk, HOK.out.ev, HOK.out.el, Nat.zero_le _, HOK.out.kp⟩
          have HO7 := Lib.hid hok7
          have m1 : w7.cell? ⟨p.g, 1, none⟩ = some (.int .i64 (c.win : Int)) := by rw [← hpg]; exact hS7.ca.cells 1
          have m9 : w7.cell? ⟨p.g, 9, none⟩ = some (.bool c.greet) := by rw [← hpg]; exact hS7.ca.cells 9
          have m10 : w7.cell? ⟨p.g, 10, none⟩ = some (.int .u64 (c.iss : Int)) := by rw [← hpg]; exact hS7.ca.cells 10
          have m11 : w7.cell? ⟨p.g, 11, none⟩ = some (.int .u64 ((c.rep : Int) + 1)) := by rw [← hpg]; exact hS7.ca.cells 11
          have e2 : IntKind.u64.wrap (c.win : Int) = (c.win : Int) := by have := HOK.out.wi; simp [IntKind.wrap, IntKind.bits, IntKind.signed]; omega
          have e3 : IntKind.u64.wrap ((c.rep : Int) + 1 + (c.win : Int)) = (c.rep : Int) + 1 + (c.win : Int) := by have := HOK.out.wi; simp [IntKind.wrap, IntKind.bits, IntKind.signed]; omega
          have HSZ : Hid (w.heap.size ≤ w7.heap.size) := Lib.hid hS7.chg.size
          clear hS7 hok7 hp' t5 t11 t13 fr5 fr11 fr13 hx5w q5 r0 r1 r2 hS4 HQ HROW HR5 HG5 HV5 HCA4 HBX4 HO4 HS4
          go_quiet (fail)
          cases hgr : c.greet with
          | false =>
            rw [hgr] at m9
            go_wp2
            go_ret
            rw [HF.out, if_neg (by rw [hgr]; rintro ⟨h, _⟩; cases h)]
            exact ⟨_, [], p', rfl, HS7.out.below (below_drewN (Below.refl _ _) _), Frs.nil _ _ _⟩
          | true =>
            rw [hgr] at m9
            by_cases hki : c.rep + 1 + c.win ≤ c.iss
            · have l5 : (c.rep : Int) + 1 + (c.win : Int) ≤ (c.iss : Int) := by omega
              have HCM := Lib.hid (cmd_any (HS7.out.ca.drewN nq) HO7.out (by omega) (c.rep + 1 + c.win) (by omega) hki)
              have HFR := Lib.hid fun A cc (w5 : World) hr => frames_one (({ c with reps := c.reps ++ [rp], rep := c.rep + 1, wait := 0 } : Cl).cmd (c.rep + 1 + c.win)) A cc w5 hr (cmd_ok HO7.out (by omega) hki)
              rw [hpg] at HCM
              have e4 : ((c.rep + 1 + c.win : Nat) : Int) = (c.rep : Int) + 1 + (c.win : Int) := by push_cast; rfl
              rw [e4] at HCM
              unfold pkV at HCM
              go_wp2_with (first
                | (go_at_call 52; refine HCM.out.mono ?_; rintro e w8 ⟨A5, c5, rfl, hr5, hb5⟩; have HR5 := Lib.hid hr5; have HB5 : Hid (Below w7.heap.size w7 w8) := Lib.hid ⟨hb5.os, hb5.tape, hb5.output, hb5.size, hb5.block⟩; clear hb5 hr5)
                | (go_at_call 48; refine (HFR.out _ _ _ HR5.out).mono ?_; rintro e w9 ⟨v, l, rfl, hr, hl, hb6⟩; have HR := Lib.hid hr; have HL := Lib.hid hl; have HB6 := Lib.hid hb6; clear hr hl hb6))
              go_ret
              rw [HF.out, if_pos ⟨hgr, hki⟩]
              exact HS7.out.ans (Nat.le_trans HSZ.out HB5.out.size) HB5.out.size rfl HR.out HL.out (HB5.out.trans (HB6.out.mono HB5.out.size))
            · have l5 : ¬ (c.rep : Int) + 1 + (c.win : Int) ≤ (c.iss : Int) := by omega
              go_wp2
              go_ret
              rw [HF.out, if_neg (by rintro ⟨_, h⟩; exact hki h)]
              exact ⟨_, [], p', rfl, HS7.out.below (below_drewN (Below.refl _ _) _), Frs.nil _ _ _⟩
        · have HF : Hid (repF c q = ([], c)) := Lib.hid (by
            unfold repF
            rw [if_neg HSE.out, getG_no hgd])
          have HGN : Hid (Calls Try.prog 92 #[.slice A q.body.length cc] w2 fun e w' => e = .returned (.tuple #[.agg #[.int .i64 0, .slice none 0 0, .string ByteArray.empty], .int .i64 173]) ∧ Below w2.heap.size w2 w') := Lib.hid (HG.out.mono fun e w' ⟨hb, hp⟩ => by
            rcases hp with ⟨hn, _⟩ | ⟨_, he⟩
            · exact absurd hn hgd
            · exact ⟨he, hb⟩)
          clear HG hgd
          go_upto_region 4 with (go_at_call 92; refine HGN.out.mono ?_; rintro e w3 ⟨rfl, hb3⟩; have HB3 := Lib.hid hb3; clear hb3)
          go_wp2
          go_ret
          rw [HF.out]
          exact ⟨_, [], p, rfl, HS2.out.below (HB3.out.alloc HB3.out.size _), Frs.nil _ _ _⟩
end Go.Proofs.Ytjhkfpemcplaaaa
