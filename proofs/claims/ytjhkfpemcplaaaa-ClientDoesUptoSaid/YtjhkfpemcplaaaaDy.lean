/-
  Merged: DlG, DlH, DlI.
-/
import Derived.Test.YtjhkfpemcplaaaaDx
import Derived.Test.YtjhkfpemcplaaaaClD
import Derived.Test.YtjhkfpemcplaaaaClE
import Derived.Test.YtjhkfpemcplaaaaFsA
namespace Go.Proofs.Ytjhkfpemcplaaaa
open Go.RowKit

def RTickP (base : Nat) (w : World) (p : Pa) (c' : Cl) (qs : List Pk) (e : Ending) (w' : World) : Prop := AnsD base w p c' qs (fun v => v) e w'
theorem CD.setWait {base : Nat} {w : World} {p : Pa} {c : Cl} (h : CD base w p c) (x : Nat) (m : Nat) : CD base ((w.setCell ⟨p.g, 9, none⟩ (.int .i64 (x : Int))).drewN m) p { c with wait := x } ∧ Chg (fun k => k = p.g) w ((w.setCell ⟨p.g, 9, none⟩ (.int .i64 (x : Int))).drewN m) := by
  have hc : Chg (fun k => k = p.g) w ((w.setCell ⟨p.g, 9, none⟩ (.int .i64 (x : Int))).drewN m) := ((Chg.refl (fun k => k = p.g) w).setCell (p := ⟨p.g, 9, none⟩) (fun _ => rfl) _).drewN m
  exact ⟨h.turn (h.blk.set_ 9 _) hc rfl rfl rfl rfl, hc⟩
set_option maxRecDepth 20000 in
set_option maxHeartbeats 4000000 in
theorem rtick_any {base N : Nat} {p : Pa} {c : Cl} {w : World} (n : Int) (h : CD base w p c) (ok : c.Ok N) (hN : N ≤ 1152921504606846976) : Calls Try.prog 69 #[.pointer (some ⟨p.g, 0, none⟩), .int .i64 n] w (RTickP base w p (tickF c n).2 (tickF c n).1) := by
  have c2 : w.cell? ⟨p.g, 2, none⟩ = some (.int .i64 (c.pat : Int)) := h.blk.cell 2
  have c4 : w.cell? ⟨p.g, 4, none⟩ = some (.bool c.conn) := h.blk.cell 4
  have c9 : w.cell? ⟨p.g, 9, none⟩ = some (.int .i64 (c.wait : Int)) := h.blk.cell 9
  have c10 : w.cell? ⟨p.g, 10, none⟩ = some (.bool c.over) := h.blk.cell 10
  have HC := Lib.hid h
  have HOK := Lib.hid ok
  have f9 := h.blk.frozen 9
  have hg := h.blk.lt
  have hp1 := ok.pa.1
  have hp2 := ok.pa.2
  have hwt := ok.wt
  clear h ok
  by_cases hbad : n < 1 ∨ c.conn = false ∨ c.over = true
  · have HF : Hid (tickF c n = ([], c)) := Lib.hid (by unfold tickF; rw [if_pos hbad])
    rw [HF.out]
    have h3 : n < 1 ∨ (1 ≤ n ∧ c.conn = false) ∨ (1 ≤ n ∧ c.conn = true ∧ c.over = true) := by
      rcases hbad with h1 | h1 | h1
      · exact .inl h1
      · by_cases h2 : n < 1
        · exact .inl h2
        · exact .inr (.inl ⟨by omega, h1⟩)
      · by_cases h2 : n < 1
        · exact .inl h2
        · cases h4 : c.conn with
          | false => exact .inr (.inl ⟨by omega, rfl⟩)
          | true => exact .inr (.inr ⟨by omega, rfl, h1⟩)
    clear hbad
    rcases h3 with h1 | ⟨h1, h2⟩ | ⟨h1, h2, h4⟩
    · go_enter Try.func69, Try.ntmps69
      go_wp2
      go_ret
      exact ⟨_, [], rfl, HC.out, Chg.refl _ _, RowK.nil _ _ _, rfl⟩
    · rw [h2] at c4
      go_enter Try.func69, Try.ntmps69
      go_wp2
      go_ret
      exact ⟨_, [], rfl, HC.out, Chg.refl _ _, RowK.nil _ _ _, rfl⟩
    · rw [h2] at c4
      rw [h4] at c10
      go_enter Try.func69, Try.ntmps69
      go_wp2
      go_ret
      exact ⟨_, [], rfl, HC.out, Chg.refl _ _, RowK.nil _ _ _, rfl⟩
  · have h1 : 1 ≤ n := by omega
    have h2 : c.conn = true := by cases h : c.conn <;> simp_all
    have h3 : c.over = false := by cases h : c.over <;> simp_all
    have HBAD := Lib.hid hbad
    rw [h2] at c4
    rw [h3] at c10
    clear hbad h2 h3
    obtain ⟨x, hx⟩ : ∃ x : Nat, (x : Int) = min (c.pat : Int) ((c.wait : Int) + min n (c.pat : Int)) := ⟨(min (c.pat : Int) ((c.wait : Int) + min n (c.pat : Int))).toNat, by omega⟩
    have HX := Lib.hid hx
    have f2 := h1
    clear hx
    go_enter Try.func69, Try.ntmps69
    go_upto_region 3 with fail
    go_cut [39] (fun _ wx => ∃ m, wx = (w.setCell ⟨p.g, 9, none⟩ (.int .i64 (x : Int))).drewN m)
    case first =>
      have hxx := HX.out
      obtain ⟨dd, hdd⟩ : ∃ dd : Int, dd = (c.pat : Int) - (c.wait : Int) := ⟨_, rfl⟩
      obtain ⟨mn, hmn⟩ : ∃ mn : Int, mn = min n dd := ⟨_, rfl⟩
      have e0 : IntKind.i64.wrap ((c.pat : Int) - (c.wait : Int)) = dd := by rw [IntKind.wrap_i64]; omega
      have e1 : (if dd < n then dd else n) = mn := by split <;> omega
      have e2 : IntKind.i64.wrap ((c.wait : Int) + mn) = (x : Int) := by rw [IntKind.wrap_i64]; omega
      clear hxx hmn hdd
      have hS : w.drew.cell? ⟨p.g, 2, none⟩ = some (.int .i64 (c.pat : Int)) ∧ w.drew.cell? ⟨p.g, 9, none⟩ = some (.int .i64 (c.wait : Int)) := ⟨c2, c9⟩
      generalize c.pat = pt at *
      generalize c.wait = wt at *
      · refine wp_region_x (s := 21) (S := fun W' => W'.cell? ⟨p.g, 2, none⟩ = some (.int .i64 (pt : Int)) ∧ W'.cell? ⟨p.g, 9, none⟩ = some (.int .i64 (wt : Int))) (by kernel_rfl) hS (fun hHeld => ?_)
        refine wpAnyX_take (i := 0) (v := ?_) (by simp only [List.getElem?_toArray, List.getElem?_cons_zero]; rfl) (by kernel_rfl) (by kernel_rfl) (by kernel_rfl) (by kernel_rfl) (by exact fun _ _ _ h => h) (Or.inl ⟨by rfl, ?_⟩) (by assumption) ?_
        rotate_left
        · intro w hSw; (try dsimp only at hSw); go_split_ands; go_simp <;> with_reducible rfl
        try simp only [Act.put, List.setIfInBounds_toArray, List.set_cons_zero, List.set_cons_succ]
        refine wpAnyX_take (i := 1) (v := ?_) (by simp only [List.getElem?_toArray, List.getElem?_cons_succ, List.getElem?_cons_zero]; rfl) (by kernel_rfl) (by kernel_rfl) (by kernel_rfl) (by kernel_rfl) (by exact fun _ _ _ h => h) (Or.inl ⟨by rfl, ?_⟩) (by assumption) ?_
        rotate_left
        · intro w hSw; (try dsimp only at hSw); go_split_ands; go_simp <;> with_reducible rfl
        try simp only [Act.put, List.setIfInBounds_toArray, List.set_cons_zero, List.set_cons_succ]
        refine wpAnyX_take (i := 2) (v := ?_) (by simp only [List.getElem?_toArray, List.getElem?_cons_succ, List.getElem?_cons_zero]; rfl) (by kernel_rfl) (by kernel_rfl) (by kernel_rfl) (by kernel_rfl) (by exact fun _ _ _ h => h) (Or.inl ⟨by rfl, ?_⟩) (by assumption) ?_
        rotate_left
        · intro w hSw; (try dsimp only at hSw); go_split_ands; go_simp <;> with_reducible rfl
        try simp only [Act.put, List.setIfInBounds_toArray, List.set_cons_zero, List.set_cons_succ]
        refine wpAnyX_take (i := 3) (v := ?_) (by simp only [List.getElem?_toArray, List.getElem?_cons_succ, List.getElem?_cons_zero]; rfl) (by kernel_rfl) (by kernel_rfl) (by kernel_rfl) (by kernel_rfl) (by exact fun _ _ _ h => h) (Or.inl ⟨by rfl, ?_⟩) (by assumption) ?_
        rotate_left
        · intro w hSw; (try dsimp only at hSw); go_split_ands; go_simp <;> with_reducible rfl
        try simp only [Act.put, List.setIfInBounds_toArray, List.set_cons_zero, List.set_cons_succ]
        refine wpAnyX_take (i := 4) (v := ?_) (by simp only [List.getElem?_toArray, List.getElem?_cons_succ, List.getElem?_cons_zero]; rfl) (by kernel_rfl) (by kernel_rfl) (by kernel_rfl) (by kernel_rfl) (by exact fun _ _ _ h => h) (Or.inl ⟨by rfl, ?_⟩) (by assumption) ?_
        rotate_left
        · intro w hSw; (try dsimp only at hSw); go_split_ands; go_simp <;> with_reducible rfl
        try simp only [Act.put, List.setIfInBounds_toArray, List.set_cons_zero, List.set_cons_succ]
        refine wpAnyX_take (i := 5) (v := ?_) (by simp only [List.getElem?_toArray, List.getElem?_cons_succ, List.getElem?_cons_zero]; rfl) (by kernel_rfl) (by kernel_rfl) (by kernel_rfl) (by kernel_rfl) (by exact fun _ _ _ h => h) (Or.inl ⟨by rfl, ?_⟩) (by assumption) ?_
        rotate_left
        · intro w hSw; (try dsimp only at hSw); go_split_ands; go_simp <;> with_reducible rfl
        try simp only [Act.put, List.setIfInBounds_toArray, List.set_cons_zero, List.set_cons_succ]
        refine wpAnyX_take (i := 6) (v := ?_) (by simp only [List.getElem?_toArray, List.getElem?_cons_succ, List.getElem?_cons_zero]; rfl) (by kernel_rfl) (by kernel_rfl) (by kernel_rfl) (by kernel_rfl) (by exact fun _ _ _ h => h) (Or.inl ⟨by rfl, ?_⟩) (by assumption) ?_
        rotate_left
        · intro w hSw; (try dsimp only at hSw); go_split_ands; go_simp <;> with_reducible rfl
        try simp only [Act.put, List.setIfInBounds_toArray, List.set_cons_zero, List.set_cons_succ]
        refine wpAnyX_take (i := 7) (v := ?_) (by simp only [List.getElem?_toArray, List.getElem?_cons_succ, List.getElem?_cons_zero]; rfl) (by kernel_rfl) (by kernel_rfl) (by kernel_rfl) (by kernel_rfl) (by exact fun _ _ _ h => h) (Or.inl ⟨by rfl, ?_⟩) (by assumption) ?_
        rotate_left
        · intro w hSw; (try dsimp only at hSw); go_split_ands; go_simp <;> with_reducible rfl
        try simp only [Act.put, List.setIfInBounds_toArray, List.set_cons_zero, List.set_cons_succ]
        refine wpAnyX_take (i := 8) (v := ?_) (by simp only [List.getElem?_toArray, List.getElem?_cons_succ, List.getElem?_cons_zero]; rfl) (by kernel_rfl) (by kernel_rfl) (by kernel_rfl) (by kernel_rfl) (by exact fun _ _ _ h => h) (Or.inl ⟨by rfl, ?_⟩) (by assumption) ?_
        rotate_left
        · intro w hSw; (try dsimp only at hSw); go_split_ands; go_simp <;> with_reducible rfl
        try simp only [Act.put, List.setIfInBounds_toArray, List.set_cons_zero, List.set_cons_succ]
        refine wpAnyX_take (i := 9) (v := ?_) (by simp only [List.getElem?_toArray, List.getElem?_cons_succ, List.getElem?_cons_zero]; rfl) (by kernel_rfl) (by kernel_rfl) (by kernel_rfl) (by kernel_rfl) (by exact fun _ _ _ h => h) (Or.inl ⟨by rfl, ?_⟩) (by assumption) ?_
        rotate_left
        · intro w hSw; (try dsimp only at hSw); go_split_ands; go_simp <;> with_reducible rfl
        try simp only [Act.put, List.setIfInBounds_toArray, List.set_cons_zero, List.set_cons_succ]
        refine wpAnyX_take (i := 10) (v := ?_) (by simp only [List.getElem?_toArray, List.getElem?_cons_succ, List.getElem?_cons_zero]; rfl) (by kernel_rfl) (by kernel_rfl) (by kernel_rfl) (by kernel_rfl) (by exact fun _ _ _ h => h) (Or.inl ⟨by rfl, ?_⟩) (by assumption) ?_
        rotate_left
        · intro w hSw; (try dsimp only at hSw); go_split_ands; go_simp <;> with_reducible rfl
        try simp only [Act.put, List.setIfInBounds_toArray, List.set_cons_zero, List.set_cons_succ]
        refine wpAnyX_take (i := 11) (v := ?_) (by simp only [List.getElem?_toArray, List.getElem?_cons_succ, List.getElem?_cons_zero]; rfl) (by kernel_rfl) (by kernel_rfl) (by kernel_rfl) (by kernel_rfl) (by exact fun _ _ _ h => h) (Or.inl ⟨by rfl, ?_⟩) (by assumption) ?_
        rotate_left
        · intro w hSw; (try dsimp only at hSw); go_split_ands; go_simp <;> with_reducible rfl
        try simp only [Act.put, List.setIfInBounds_toArray, List.set_cons_zero, List.set_cons_succ]
        refine wpAnyX_take (i := 12) (v := ?_) (by simp only [List.getElem?_toArray, List.getElem?_cons_succ, List.getElem?_cons_zero]; rfl) (by kernel_rfl) (by kernel_rfl) (by kernel_rfl) (by kernel_rfl) (by exact fun _ _ _ h => h) (Or.inl ⟨by rfl, ?_⟩) (by assumption) ?_
        rotate_left
        · intro w hSw; (try dsimp only at hSw); go_split_ands; go_simp <;> with_reducible rfl
        try simp only [Act.put, List.setIfInBounds_toArray, List.set_cons_zero, List.set_cons_succ]
        refine wpAnyX_take (i := 13) (v := ?_) (by simp only [List.getElem?_toArray, List.getElem?_cons_succ, List.getElem?_cons_zero]; rfl) (by kernel_rfl) (by kernel_rfl) (by kernel_rfl) (by kernel_rfl) (by exact fun _ _ _ h => h) (Or.inl ⟨by rfl, ?_⟩) (by assumption) ?_
        rotate_left
        · intro w hSw; (try dsimp only at hSw); go_split_ands; go_simp <;> with_reducible rfl
        try simp only [Act.put, List.setIfInBounds_toArray, List.set_cons_zero, List.set_cons_succ]
        refine wpAnyX_take (i := 14) (v := ?_) (by simp only [List.getElem?_toArray, List.getElem?_cons_succ, List.getElem?_cons_zero]; rfl) (by kernel_rfl) (by kernel_rfl) (by kernel_rfl) (by kernel_rfl) (by exact fun _ _ _ h => h) (Or.inl ⟨by rfl, ?_⟩) (by assumption) ?_
        rotate_left
        · intro w hSw; (try dsimp only at hSw); go_split_ands; go_simp <;> with_reducible rfl
        try simp only [Act.put, List.setIfInBounds_toArray, List.set_cons_zero, List.set_cons_succ]
        refine wpAnyX_one (i := 15) (by kernel_rfl) (by simp only [List.getElem?_toArray, List.getElem?_cons_succ, List.getElem?_cons_zero]; rfl) (fun K2 hK2 => ?_)
        go_simp
        refine hK2.out _ _ (hHeld) (fun hHeld => ?_)
        clear hK2 K2
        try simp only [Act.put, List.setIfInBounds_toArray, List.set_cons_zero, List.set_cons_succ]
        refine wpAnyX_one (i := 16) (by kernel_rfl) (by simp only [List.getElem?_toArray, List.getElem?_cons_succ, List.getElem?_cons_zero]; rfl) (fun K2 hK2 => ?_)
        go_simp
        refine hK2.out _ _ (hHeld) (fun hHeld => ?_)
        clear hK2 K2
        try simp only [Act.put, List.setIfInBounds_toArray, List.set_cons_zero, List.set_cons_succ]
        refine wpAnyX_one (i := 17) (by kernel_rfl) (by simp only [List.getElem?_toArray, List.getElem?_cons_succ, List.getElem?_cons_zero]; rfl) (fun K2 hK2 => ?_)
        go_simp
        refine hK2.out _ _ (hHeld) (fun hHeld => ?_)
        clear hK2 K2
        try simp only [Act.put, List.setIfInBounds_toArray, List.set_cons_zero, List.set_cons_succ]
        refine wpAnyX_one (i := 18) (by kernel_rfl) (by simp only [List.getElem?_toArray, List.getElem?_cons_succ, List.getElem?_cons_zero]; rfl) (fun K2 hK2 => ?_)
        go_simp
        refine hK2.out _ _ (hHeld) (fun hHeld => ?_)
        clear hK2 K2
        try simp only [Act.put, List.setIfInBounds_toArray, List.set_cons_zero, List.set_cons_succ]
        refine wpAnyX_one (i := 19) (by kernel_rfl) (by simp only [List.getElem?_toArray, List.getElem?_cons_succ, List.getElem?_cons_zero]; rfl) (fun K2 hK2 => ?_)
        go_simp
        refine hK2.out _ _ (hHeld) (fun hHeld => ?_)
        clear hK2 K2
        try simp only [Act.put, List.setIfInBounds_toArray, List.set_cons_zero, List.set_cons_succ]
        refine wpAnyX_one (i := 20) (by kernel_rfl) (by simp only [List.getElem?_toArray, List.getElem?_cons_succ, List.getElem?_cons_zero]; rfl) (fun K2 hK2 => ?_)
        go_simp
        refine hK2.out _ _ (hHeld) (fun hHeld => ?_)
        clear hK2 K2
        try simp only [Act.put, List.setIfInBounds_toArray, List.set_cons_zero, List.set_cons_succ]
        refine wpAnyX_last (by kernel_rfl) (by simp only [List.getElem?_toArray, List.getElem?_cons_succ, List.getElem?_cons_zero]; rfl) (fun K2 hK2 => ?_)
        go_simp
        refine hK2.out _ _ ?_
        clear hK2 K2
        try simp only [Act.put, List.setIfInBounds_toArray, List.set_cons_zero, List.set_cons_succ]
        refine wpAnyX_done (by kernel_rfl) ?_ _
        go_wp2_with fail
        go_meet
        exact ⟨1, rfl⟩
    case rest =>
      obtain ⟨m, rfl⟩ := hcut
      have hST := HC.out.setWait x m
      obtain ⟨w3, hw3⟩ : ∃ w3, (w.setCell ⟨p.g, 9, none⟩ (.int .i64 (x : Int))).drewN m = w3 := ⟨_, rfl⟩
      rw [hw3] at hST ⊢
      have HST := Lib.hid hST
      have k2 : w3.cell? ⟨p.g, 2, none⟩ = some (.int .i64 (c.pat : Int)) := hST.1.blk.cell 2
      have k9 : w3.cell? ⟨p.g, 9, none⟩ = some (.int .i64 (x : Int)) := hST.1.blk.cell 9
      have hx2 : (x : Int) ≤ (c.pat : Int) := by have := HX.out; omega
      clear hw3 hST c2 c4 c9 c10 f9
      by_cases hlow : (x : Int) < (c.pat : Int)
      · have HF : Hid (tickF c n = ([], { c with wait := x })) := Lib.hid (by
          have h9 := HX.out
          unfold tickF
          rw [if_neg HBAD.out, if_pos (by omega), show ((c.wait : Int) + n).toNat = x by omega])
        go_upto_region 4 with fail
        go_quiet (fail)
        go_wp2
        go_ret
        rw [HF.out]
        exact ⟨_, [], rfl, HST.out.1.below (below_drewN (Below.refl _ _) _), HST.out.2.drewN _, RowK.nil _ _ _, rfl⟩
      · have HF : Hid (tickF c n = (if c.greet = false then [c.hello] else if c.rep + 1 ≤ c.iss then [c.cmd (c.rep + 1)] else [], { c with wait := 0 })) := Lib.hid (by
          have h9 := HX.out
          unfold tickF
          rw [if_neg HBAD.out, if_neg (by omega)])
        have f9 : w3.frozen? ⟨p.g, 9, none⟩ = false := HST.out.1.blk.frozen 9
        go_upto_region 4 with fail
        go_quiet (fail)
        go_upto_region 7 with fail
        have hS4 := (HST.out.1.below (below_drewN (Below.refl _ _) nq)).setWait 0 0
        have hG4 : Chg (fun k => k = p.g) w ((w3.drewN nq).setCell ⟨p.g, 9, none⟩ (.int .i64 0)) := (HST.out.2.drewN nq).trans hS4.2 (fun _ _ h => h)
        have hD4 : CD base ((w3.drewN nq).setCell ⟨p.g, 9, none⟩ (.int .i64 0)) p { c with wait := 0 } := hS4.1
        clear hS4
        generalize (w3.drewN nq).setCell ⟨p.g, 9, none⟩ (.int .i64 0) = w4 at hD4 hG4 ⊢
        have HS := Lib.hid hD4
        have HG := Lib.hid hG4
        have HSZ : Hid (w.heap.size ≤ w4.heap.size) := Lib.hid hG4.size
        have k5 : w4.cell? ⟨p.g, 5, none⟩ = some (.bool c.greet) := hD4.blk.cell 5
        have k6 : w4.cell? ⟨p.g, 6, none⟩ = some (.int .u64 (c.iss : Int)) := hD4.blk.cell 6
        have k7 : w4.cell? ⟨p.g, 7, none⟩ = some (.int .u64 (c.rep : Int)) := hD4.blk.cell 7
        have hok4 : ({ c with wait := 0 } : Cl).Ok N := ⟨HOK.out.no, HOK.out.wi, HOK.out.pa, HOK.out.bl, HOK.out.bs, HOK.out.rp, HOK.out.rl, HOK.out.is, HOK.out.tk, HOK.out.ev, HOK.out.el, Nat.zero_le _, HOK.out.kp⟩
        have HO4 := Lib.hid hok4
        have b1 := HOK.out.rp
        have b2 := HOK.out.is
        clear hD4 hG4 hok4 k2 k9 f9 HST
        cases hgr : c.greet with
        | false =>
          rw [hgr] at k5
          have HH := Lib.hid (rhello_any HS.out HO4.out)
          go_wp2_with (go_at_call 83; refine HH.out.mono ?_; rintro e w5 ⟨v5, rfl, ho5, hb5⟩; obtain ⟨A5, c5, rfl, _, _⟩ := ho5.form; have HO5 := Lib.hid ho5; have HB5 := Lib.hid hb5; clear ho5 hb5)
          go_ret
          rw [HF.out, if_pos hgr]
          have hb6 := (HB5.out.alloc (by have := HB5.out.size; omega) (.cells #[.slice A5 (frm ({ c with wait := 0 } : Cl).hello).length c5] 37))
          exact ⟨_, _, rfl, HS.out.below hb6, HG.out.trans (Chg.of_below hb6 (fun _ => False)) (fun _ _ h => h.elim), (one_row HO5.out HB5.out.size).rebase HSZ.out, rfl⟩
        | true =>
          rw [hgr] at k5
          by_cases hri : c.rep + 1 ≤ c.iss
          · have HCM := Lib.hid fun (w5 : World) (hb : Below w4.heap.size w4 w5) => rcmd_any (HS.out.below hb) HO4.out hN (c.rep + 1) (by omega) hri
            have hri2 : (c.rep : Int) < (c.iss : Int) := by omega
            have e1 : ((c.rep + 1 : Nat) : Int) = (c.rep : Int) + 1 := by push_cast; rfl
            rw [e1] at HCM
            have e2 : IntKind.u64.wrap ((c.rep : Int) + 1) = (c.rep : Int) + 1 := by simp [IntKind.wrap, IntKind.bits, IntKind.signed]; omega
            go_upto_region 9 with fail
            go_quiet (fail)
            have HB9 : Hid (Below w4.heap.size w4 (w4.drewN nq)) := Lib.hid (below_drewN (Below.refl _ _) nq)
            have j7 : (w4.drewN nq).cell? ⟨p.g, 7, none⟩ = some (.int .u64 (c.rep : Int)) := k7
            clear k5 k6 k7
            generalize w4.drewN nq = w9 at *
            have HCM9 := Lib.hid (HCM.out w9 HB9.out)
            go_wp2_with (go_at_call 82; refine HCM9.out.mono ?_; rintro e w5 ⟨v5, rfl, ho5, hb5⟩; obtain ⟨A5, c5, rfl, _, _⟩ := ho5.form; have HO5 := Lib.hid ho5; have HB5 := Lib.hid hb5; clear ho5 hb5)
            go_ret
            rw [HF.out, if_neg (by rw [hgr]; decide), if_pos hri]
            have hb5' := HB9.out.trans (HB5.out.mono HB9.out.size)
            have hb6 := (hb5'.alloc hb5'.size (.cells #[.slice A5 (frm (({ c with wait := 0 } : Cl).cmd (c.rep + 1))).length c5] 37))
            exact ⟨_, _, rfl, HS.out.below hb6, HG.out.trans (Chg.of_below hb6 (fun _ => False)) (fun _ _ h => h.elim), (one_row HO5.out HB5.out.size).rebase (Nat.le_trans HSZ.out HB9.out.size), rfl⟩
          · have hri2 : ¬ (c.rep : Int) < (c.iss : Int) := by omega
            go_upto_region 9 with fail
            go_quiet (fail)
            go_wp2_with fail
            go_ret
            rw [HF.out, if_neg (by rw [hgr]; decide), if_neg hri]
            exact ⟨_, [], rfl, HS.out.below (below_drewN (Below.refl _ _) _), HG.out.drewN _, RowK.nil _ _ _, rfl⟩
end Go.Proofs.Ytjhkfpemcplaaaa
namespace Go.Proofs.Ytjhkfpemcplaaaa
open Go.RowKit

theorem own_block_addr {ad : Addr} {n c k : Nat} (h : (Value.slice (some ad) n c).ownBlock = some k) : ad.block = k := by simpa [Value.ownBlock] using h
section
variable {base : Nat} {w w4 w5 : World} {p : Pa} {c c' : Cl} {v' : Value}
/-- the reader, where the change leaves it -/
theorem CD.reader (h : CD base w p c) {F : Nat → Prop} (hc : Chg F w w4) (hr : ¬ F p.r) (hk : ∀ k, KvB p k → ¬ F k) : ∃ A k N, p.kv = kvOf A c.kept.length k ∧ XRd w4 p.r N A k c.kept p.d ∧ N ≤ w4.heap.size ∧ base ≤ N ∧ (∀ ad, A = some ad → 0 < c.kept.length → ad.block < w.heap.size ∧ ¬ CFd p ad.block ∧ KvB p ad.block) := by
  obtain ⟨A, kk, N, hkv, ⟨x1, x2, x3, x4⟩, hN, hbN, ha⟩ := h.rd
  have hkb : ∀ ad, A = some ad → 0 < c.kept.length → KvB p ad.block := fun ad e hp => ⟨ad, _, kk, by rw [hkv, e]; exact kvOf_pos hp, rfl, hp⟩
  refine ⟨A, kk, N, hkv, ⟨(hc.block _ x1.lt hr).trans x1, ?_, x3, x4⟩, Nat.le_trans hN hc.size, hbN, fun ad e hp => ⟨?_, ha ad e hp, hkb ad e hp⟩⟩
  · refine ⟨x2.1, fun hp => ?_⟩
    obtain ⟨ad, e, hlt, hcell⟩ := x2.2 hp
    refine ⟨ad, e, Nat.lt_of_lt_of_le hlt hc.size, fun j u hu => ?_⟩
    have hb : w4.heap[ad.block]? = w.heap[ad.block]? := hc.block _ hlt (hk _ (hkb ad e hp))
    have hb' : w4.heap[(ad.add j).block]? = w.heap[(ad.add j).block]? := by rw [block_of_add]; exact hb
    exact (World.cell?_of_block hb').trans (hcell j u hu)
  · obtain ⟨ad2, e2, hlt, _⟩ := x2.2 hp
    rw [e] at e2
    injection e2 with e2
    subst e2
    exact hlt
/-- the client's own block and its reader's are none of the rows' -/
theorem CD.ne (h : CD base w p c) : p.g ≠ p.r ∧ ∀ k, ((p.bv.ownBlock = some k ∨ kB.inB p.bl k) ∨ (p.rv.ownBlock = some k ∨ kR.inB p.rl k) ∨ (p.ev.ownBlock = some k ∨ kE.inB p.el k)) → k ≠ p.g ∧ k ≠ p.r := by
  obtain ⟨A, kk, N, hkv, ⟨x1, x2, x3, x4⟩, hN, hbN, ha⟩ := h.rd
  refine ⟨Blk.ne_ h.blk x1 (by decide), fun k hk => ?_⟩
  have key : ∀ {t : TypeId} {s n : Nat} {u : Value} {xs : List Value}, w.ownsRow base t s u n xs → t ≠ 94 → t ≠ 77 → u.ownBlock = some k → k ≠ p.g ∧ k ≠ p.r := fun ho h1 h2 e =>
    ⟨fun e2 => own_blk_ne ho h.blk h1 (by rw [e, e2]), fun e2 => own_blk_ne ho x1 h2 (by rw [e, e2])⟩
  rcases hk with (e | ⟨q, hq, e⟩) | (e | ⟨q, hq, e⟩) | (e | ⟨q, hq, e⟩)
  · exact key h.rows.b.row (by decide) (by decide) e
  · exact key (h.rows.b.els q hq) (by decide) (by decide) e
  · exact key h.rows.r.row (by decide) (by decide) e
  · exact key (h.rows.r.els q hq) (by decide) (by decide) e
  · exact key h.rows.e.row (by decide) (by decide) e
  · exact key (h.rows.e.els q hq) (by decide) (by decide) e
/-- while the row of bodies grows, all else of the client stays -/
theorem CD.stayB (h : CD base w p c) (hg : w.grownBy w4 p.bv.ownBlock) : Blk w4 p.g 94 (layD c p) ∧ RowK kR base w4 p.rv p.rl ∧ RowK kE base w4 p.ev p.el := by
  have kp : ∀ k, k < w.heap.size → p.bv.ownBlock ≠ some k → w4.heap[k]? = w.heap[k]? := fun k hk hn => hg.block k hk (fun e => hn e.symm)
  refine ⟨(kp _ h.blk.lt fun e => own_blk_ne h.rows.b.row h.blk (by decide) e).trans h.blk, h.rows.r.keep fun k hk => kp k (h.rows.r.lt hk).2 fun e => ?_, h.rows.e.keep fun k hk => kp k (h.rows.e.lt hk).2 fun e => ?_⟩
  · rcases hk with hk | ⟨q, hq, hk⟩
    · exact own_apart h.rows.r.row h.rows.b.row (by decide) k hk e
    · exact own_apart (h.rows.r.els q hq) h.rows.b.row (by decide) k hk e
  · rcases hk with hk | ⟨q, hq, hk⟩
    · exact own_apart h.rows.e.row h.rows.b.row (by decide) k hk e
    · exact own_apart (h.rows.e.els q hq) h.rows.b.row (by decide) k hk e
/-- one more body -/
theorem CD.pushB {body : List UInt8} {A2 : Option Addr} {c2 : Nat} (h : CD base w p c) (hq : OwnB 5 w base (.slice A2 body.length c2) body) (hf : ∀ k, (Value.slice A2 body.length c2).ownBlock = some k → ¬ CFe p k)
    (hr : w4.ownsRow base 37 1 v' (p.bl.length + 1) (kB.flat p.bl ++ [.slice A2 body.length c2])) (hg : w.grownBy w4 p.bv.ownBlock) (hv : v'.ownBlock = p.bv.ownBlock ∨ v'.ownBlock = some w.heap.size) (hb : Blk w5 p.g 94 (layD c' { p with bv := v', bl := p.bl ++ [(body, A2, c2)] })) (hk : Chg (fun k => k = p.g) w4 w5)
    (h1 : c'.bodies = c.bodies ++ [body]) (h2 : c'.reps = c.reps) (h3 : c'.evs = c.evs) (h4 : c'.kept = c.kept) : CD base w5 { p with bv := v', bl := p.bl ++ [(body, A2, c2)] } c' := by
  obtain ⟨s1, s4, s5⟩ := h.stayB hg
  obtain ⟨n1, n2⟩ := h.ne
  have hrow : RowK kB base w4 v' (p.bl ++ [(body, A2, c2)]) := h.rows.b.push (by decide) (q := (body, A2, c2)) hq hr hg
  have key : ∀ {t : TypeId} {s n : Nat} {u : Value} {xs : List Value} {k : Nat}, w4.ownsRow base t s u n xs → t ≠ 94 → u.ownBlock = some k → w5.heap[k]? = w4.heap[k]? := fun ho ht e =>
    hk.block _ (World.ownsRow.lt ho _ e).2 fun e2 => own_blk_ne ho s1 ht (by rw [e, e2])
  have hchg : Chg (fun k => p.bv.ownBlock = some k ∨ k = p.g) w w5 := (Chg.of_grown (F := fun k => p.bv.ownBlock = some k) hg fun k e => e).mono (fun _ _ e => .inl e) |>.trans hk fun i _ e => .inr e
  obtain ⟨A, kk, N, hkv, hx, hN, hbN, ha⟩ := h.reader hchg (fun e => by
      rcases e with e | e
      · exact (n2 _ (.inl (.inl e))).2 rfl
      · exact n1 e.symm) (fun k hkb e => by
      obtain ⟨ad, n, cx, e1, rfl, hn⟩ := hkb
      obtain ⟨A, kk, N, hkv, ⟨x1, x2, x3, x4⟩, hN, hbN, ha⟩ := h.rd
      obtain ⟨e1, e3⟩ := kvOf_some (hkv.symm.trans e1) hn
      refine ha ad e1 (by omega) ?_
      rcases e with e | e
      · exact .inr (.inr (.inl (.inl e)))
      · exact .inl e)
  refine ⟨hb, ⟨A, kk, N, by rw [h4]; exact hkv, by rw [h4]; exact hx, hN, hbN, by
      rw [h4]
      intro ad e hp hc
      obtain ⟨a1, a2, a3⟩ := ha ad e hp
      rcases hc with hc | hc | (hc | hc) | hc | hc
      · exact a2 (.inl hc)
      · exact a2 (.inr (.inl hc))
      · rcases hv with h9 | h9
        · exact a2 (.inr (.inr (.inl (.inl (by rw [← h9]; exact hc)))))
        · have h10 : v'.ownBlock = some ad.block := hc
          rw [h9] at h10
          injection h10 with h10
          omega
      · rcases inB_push hc with h9 | h9
        · exact a2 (.inr (.inr (.inl (.inr h9))))
        · exact hf _ h9 (.inr a3)
      · exact a2 (.inr (.inr (.inr (.inl hc))))
      · exact a2 (.inr (.inr (.inr (.inr hc))))⟩, ⟨hrow.keep fun k hk' => ?_, s4.keep fun k hk' => ?_, s5.keep fun k hk' => ?_, ?_, by rw [h2]; exact h.rows.ri, by rw [h3]; exact h.rows.ei, fun k hk' => ?_⟩, h.ge, h.dr⟩
  · rcases hk' with e | ⟨q, hq', e⟩
    · exact key hrow.row (by decide) e
    · exact key (hrow.els q hq') (by decide) e
  · rcases hk' with e | ⟨q, hq', e⟩
    · exact key s4.row (by decide) e
    · exact key (s4.els q hq') (by decide) e
  · rcases hk' with e | ⟨q, hq', e⟩
    · exact key s5.row (by decide) e
    · exact key (s5.els q hq') (by decide) e
  · rw [h1, ← h.rows.bi]; simp
  · rcases inB_push hk' with e | e
    · exact h.rows.ap k e
    · intro e2
      refine hf k e (.inr ?_)
      obtain ⟨A, kk, N, hkv, ⟨x1, x2, x3, x4⟩, hN, hbN, ha⟩ := h.rd
      have e3 : p.kv.ownBlock = some k := e2
      rw [hkv] at e3
      unfold kvOf at e3
      split at e3
      · simp [Value.ownBlock] at e3
      · rename_i hn
        have hA : ∃ ad, A = some ad ∧ ad.block = k := by
          cases A with
          | none => simp [Value.ownBlock] at e3
          | some ad => exact ⟨ad, rfl, own_block_addr e3⟩
        obtain ⟨ad, rfl, hb2⟩ := hA
        exact ⟨ad, _, kk, by rw [hkv]; exact kvOf_pos (by omega), hb2, by omega⟩
end
end Go.Proofs.Ytjhkfpemcplaaaa
namespace Go.Proofs.Ytjhkfpemcplaaaa
open Go.RowKit

def RIssP (base : Nat) (w : World) (p : Pa) (r : Nat × List Pk × Int × Cl) (e : Ending) (w' : World) : Prop := AnsE base w p 0 r.2.2.2 r.2.1 (fun v => .tuple #[.int .u64 (r.1 : Int), v, .int .i64 r.2.2.1]) e w'
set_option maxRecDepth 20000 in
set_option maxHeartbeats 4000000 in
theorem rissue_any {base N : Nat} {p : Pa} {c : Cl} {w : World} (kind : Int) (hd : Nat) (A : Option Addr) (n cc : Nat) (ns : List Int) (s : ByteArray) (good : Bool) (h : CD base w p c) (ok : c.Ok N) (hN : N + 1 ≤ 1152921504606846976) (hN2 : (N + 1) * 24 ≤ 140737488355328)
    (hh : hd < 18446744073709551616) (hr : RdI w w.heap.size A n ns) (hu : ∀ z ∈ ns, I64 z) (hgd : good = true ↔ goodC kind hd ns s.data.toList) :
    Calls Try.prog 64 #[.pointer (some ⟨p.g, 0, none⟩), .agg #[.int .i64 kind, .int .u64 (hd : Int), .slice A n cc, .string s]] w (RIssP base w p (issueF c good (cmdB kind hd ns s.data.toList))) := by
  have hb1 : Below w.heap.size w (w.alloc (.cells #[.int .i64 kind, .int .u64 (hd : Int), .slice A n cc, .string s] 35)) := (Below.refl _ _).alloc (Nat.le_refl _) _
  have HP := Lib.hid ((rputc_any kind hd A n cc ns s (w.alloc (.cells #[.int .i64 kind, .int .u64 (hd : Int), .slice A n cc, .string s] 35)) hh ((hr.below hb1).more hb1.size) hu).mono fun _ _ h => putX_of hgd h)
  have HB1 := Lib.hid hb1
  have hbl := ok.bl
  have hbs : base ≤ w.heap.size := by have := h.cfe (k := p.g) (.inl (.inl rfl)); omega
  have HBN : Hid (good = true → (cmdB kind hd ns s.data.toList).length ≤ 1024) := Lib.hid fun hg => (hgd.1 hg).2.2.2.2
  obtain ⟨body, hbody⟩ : ∃ b, cmdB kind hd ns s.data.toList = b := ⟨_, rfl⟩
  rw [hbody] at HP HBN ⊢
  have HOK := Lib.hid ok
  have hS1 : StpD base w p 0 c p (w.alloc (.cells #[.int .i64 kind, .int .u64 (hd : Int), .slice A n cc, .string s] 35)) := (StpD.refl h 0).below hb1
  have HLT : Hid (∀ k, CFe p k → k < w.heap.size) := Lib.hid fun k hk => (h.cfe hk).2
  clear h ok hgd hb1 hr hu hbody
  have hX := Blk.new w 35 #[.int .i64 kind, .int .u64 (hd : Int), .slice A n cc, .string s]
  generalize hw1 : w.alloc (.cells #[.int .i64 kind, .int .u64 (hd : Int), .slice A n cc, .string s] 35) = w1 at *
  have HS1 := Lib.hid hS1
  have HW1 : Hid (w.heap.size ≤ w1.heap.size) := Lib.hid HB1.out.size
  have x0 : w1.cell? ⟨w.heap.size, 0, none⟩ = some (.int .i64 kind) := hX.cell 0
  have x1 : w1.cell? ⟨w.heap.size, 1, none⟩ = some (.int .u64 (hd : Int)) := hX.cell 1
  have x2 : w1.cell? ⟨w.heap.size, 2, none⟩ = some (.slice A n cc) := hX.cell 2
  have x3 : w1.cell? ⟨w.heap.size, 3, none⟩ = some (.string s) := hX.cell 3
  clear hX hS1
  go_enter Try.func64, Try.ntmps64
  go_upto_region 2 with (go_at_call 14; refine HP.out.mono ?_; rintro e w2 ⟨A2, n2, c2, rfl, hg2, hb2⟩; have HG2 := Lib.hid hg2; have HB2 := Lib.hid hb2; clear hg2 hb2)
  clear x0 x1 x2 x3 HP hw1
  have HS2 := Lib.hid (HS1.out.below HB2.out)
  have k10 : w2.cell? ⟨p.g, 10, none⟩ = some (.bool c.over) := HS2.out.cd.blk.cell 10
  have k6 : w2.cell? ⟨p.g, 6, none⟩ = some (.int .u64 (c.iss : Int)) := HS2.out.cd.blk.cell 6
  have k7 : w2.cell? ⟨p.g, 7, none⟩ = some (.int .u64 (c.rep : Int)) := HS2.out.cd.blk.cell 7
  have b1 := HOK.out.rp
  have b2 := HOK.out.is
  cases good with
  | false => as_aux_lemma =>
    have HF : Hid (issueF c false body = (0, [], 173, c)) := Lib.hid (by unfold issueF; rw [if_pos rfl])
    go_wp2
    exact bodyPost_ret (v := .tuple #[.int .u64 0, .slice none 0 0, .int .i64 173]) (by simp [results, Try.results64, go_sem]) rfl (by rw [HF.out]; exact ⟨_, [], p, rfl, HS2.out, FrsD.nil _ _ _⟩)
  | true => as_aux_lemma =>
    obtain ⟨hn2, ho2⟩ := HG2.out rfl
    have hb1024 := HBN.out rfl
    subst hn2
    have HO2 := Lib.hid ho2
    clear ho2 HG2
    cases ho : c.over with
    | true =>
      have HF : Hid (issueF c true body = (0, [], 202, c)) := Lib.hid (by unfold issueF; rw [if_neg (by decide), if_pos ho])
      rw [ho] at k10
      go_wp2
      exact bodyPost_ret (v := .tuple #[.int .u64 0, .slice none 0 0, .int .i64 202]) (by simp [results, Try.results64, go_sem]) rfl (by rw [HF.out]; exact ⟨_, [], p, rfl, HS2.out, FrsD.nil _ _ _⟩)
    | false =>
      rw [ho] at k10
      have e1 : IntKind.u64.wrap ((c.iss : Int) - (c.rep : Int)) = (c.iss : Int) - (c.rep : Int) := by simp [IntKind.wrap, IntKind.bits, IntKind.signed]; omega
      by_cases hq : 256 ≤ c.iss - c.rep
      · have HF : Hid (issueF c true body = (0, [], 201, c)) := Lib.hid (by unfold issueF; rw [if_neg (by decide), if_neg (by rw [ho]; decide), if_pos hq])
        have hq2 : (256 : Int) ≤ (c.iss : Int) - (c.rep : Int) := by omega
        go_upto_region 6 with fail
        go_quiet (fail)
        go_wp2
        exact bodyPost_ret (v := .tuple #[.int .u64 0, .slice none 0 0, .int .i64 201]) (by simp [results, Try.results64, go_sem]) rfl (by rw [HF.out]; exact ⟨_, [], p, rfl, HS2.out.below (below_drewN (Below.refl _ _) _), FrsD.nil _ _ _⟩)
      · have hq2 : ¬ (256 : Int) ≤ (c.iss : Int) - (c.rep : Int) := by omega
        go_upto_region 6 with fail
        go_quiet (fail)
        have hS3 := HS2.out.below (below_drewN (Below.refl _ _) nq)
        have hO3 : OwnB 5 (w2.drewN nq) w1.heap.size (.slice A2 body.length c2) body := HO2.out
        have hw3 : w1.heap.size ≤ (w2.drewN nq).heap.size := HB2.out.size
        generalize w2.drewN nq = w3 at hS3 hO3 hw3 ⊢
        have HS3 := Lib.hid hS3
        have HO3 := Lib.hid hO3
        obtain ⟨Av, cv, hbv, hcv1, hcv2⟩ := hS3.cd.rows.b.form
        have HROW := Lib.hid hS3.cd.rows.b.row
        rw [hbv] at HROW
        have hbl3 : p.bl.length = c.iss := by have := congrArg List.length hS3.cd.rows.bi; rw [List.length_map] at this; omega
        have k12 : w3.cell? ⟨p.g, 12, none⟩ = some (.slice Av p.bl.length cv) := (hS3.cd.blk.cell 12).trans (by rw [← hbv]; rfl)
        obtain ⟨i0, hi, hz0, hz1, hz2⟩ := info_parts info37
        have hbase3 : base ≤ w3.heap.size := by have := HW1.out; omega
        have hlb : (p.bl.length + 1) * 24 ≤ 140737488355328 := by have := HOK.out.is; omega
        have HBL3 := Lib.hid hbl3
        have HBV := Lib.hid hbv
        clear hS3 hO3 k10 k6 k7 HS2 HO2 HB2 hbv hbl3 HS1
        go_upto_region 9 with (at_builtin; refine wpList_append_any _ rfl (.tmp 38) (.tmp 40) 31 rfl base 37 i0 _ 1 24 Try.underlying31 hi hz0 hz1 hz2 rfl (by decide) (.slice Av p.bl.length cv) p.bl.length (kB.flat p.bl) rfl (World.ownsRow.alloc HROW.out _) _ _ 1 1 [.slice A2 body.length c2] rfl (Reads.built _ 37 [.slice A2 body.length c2]) (by simp [Value.oneCell']) (by simp only [maxLen]; omega) (by omega) (by simp; omega) ?_; intro v4 w4 hr4 hg4 hv4; obtain ⟨A4, c4, rfl, _, _⟩ := own_formL hr4; have HR4 := Lib.hid hr4; have HG4 := Lib.hid hg4; have HV4 := Lib.hid hv4; have hst := (CD.below HS3.out.cd ((Below.refl _ _).alloc (Nat.le_refl _) _)).stayB (by rw [HBV.out]; exact hg4); have q12 : w4.cell? ⟨p.g, 12, none⟩ = some (.slice Av p.bl.length cv) := (hst.1.cell 12).trans (by rw [← HBV.out]; rfl); have q6 : w4.cell? ⟨p.g, 6, none⟩ = some (.int .u64 (c.iss : Int)) := hst.1.cell 6; have fr := fun i => hst.1.frozen i; have fr12 := fr 12; have fr6 := fr 6; have hg4w := hst.1.lt; clear hr4 hg4 hv4 hst fr)
        obtain ⟨j, hj⟩ : ∃ j, c.iss + 1 = j := ⟨_, rfl⟩
        have e2 : IntKind.u64.wrap ((c.iss : Int) + 1) = (j : Int) := by simp [IntKind.wrap, IntKind.bits, IntKind.signed]; omega
        go_upto_region 10 with fail
        have hS6 : StpD base w p 0 { c with bodies := c.bodies ++ [body], iss := j } { p with bv := .slice A4 (p.bl.length + 1) c4, bl := p.bl ++ [(body, A2, c2)] } ((w4.setCell ⟨p.g, 12, none⟩ (.slice A4 (p.bl.length + 1) c4)).setCell ⟨p.g, 6, none⟩ (.int .u64 (j : Int))) := by
          have hg4 := HG4.out
          rw [← HBV.out] at hg4
          have hca := CD.below HS3.out.cd ((Below.refl _ _).alloc (Nat.le_refl _) (.cells #[.slice A2 body.length c2] 37))
          have hst := hca.stayB hg4
          have hws3 := HS3.out.chg.size
          have hc5 : Chg (fun k => k = p.g) w4 ((w4.setCell ⟨p.g, 12, none⟩ (.slice A4 (p.bl.length + 1) c4)).setCell ⟨p.g, 6, none⟩ (.int .u64 (j : Int))) := (((Chg.refl (fun k => k = p.g) w4).setCell (p := ⟨p.g, 12, none⟩) (fun _ => rfl) _).setCell (p := ⟨p.g, 6, none⟩) (fun _ => rfl) _)
          refine ⟨hca.pushB (own_base (World.ownsRow.alloc HO3.out _) (by have := HW1.out; omega)) (fun k hk hc => ?_) HR4.out hg4 (by rw [HBV.out]; exact HV4.out) ((hst.1.set_ 12 _).set_ 6 _) hc5 rfl rfl rfl rfl, rfl, fun k hk => ?_, fun k hk => .inl hk, ?_, by dsimp only; omega⟩
          · have h1 := (World.ownsRow.lt HO3.out k hk).1
            have h2 := HLT.out k hc
            have := HW1.out
            omega
          · rcases hk with e | e | (e | e) | e
            · exact .inl (.inl e)
            · exact .inl (.inr (.inl e))
            · rcases HV4.out with h1 | h1
              · exact .inl (.inr (.inr (.inl (.inl (by rw [HBV.out, ← h1]; exact e)))))
              · refine .inr ?_
                have h2 : (Value.slice A4 (p.bl.length + 1) c4).ownBlock = some k := e
                rw [h1] at h2
                injection h2 with h2
                rw [← h2]
                simp
                omega
            · rcases inB_push e with e | e
              · exact .inl (.inr (.inr (.inl (.inr e))))
              · have h1 := (World.ownsRow.lt HO3.out k e).1
                have := HW1.out
                exact .inr (by omega)
            · exact .inl (.inr (.inr (.inr e)))
          · exact ((HS3.out.chg.alloc _).trans (Chg.of_grown hg4 (F := CFd p) fun k hk => .inr (.inr (.inl (.inl hk)))) (fun _ _ h => h)).trans hc5 fun i _ e => .inl e
        generalize (w4.setCell ⟨p.g, 12, none⟩ (.slice A4 (p.bl.length + 1) c4)).setCell ⟨p.g, 6, none⟩ (.int .u64 (j : Int)) = w6 at hS6 ⊢
        generalize hp' : ({ p with bv := .slice A4 (p.bl.length + 1) c4, bl := p.bl ++ [(body, A2, c2)] } : Pa) = p' at hS6
        have HS6 := Lib.hid hS6
        have hpg : p'.g = p.g := by rw [← hp']
        have hok6 := issue_ok HOK.out hb1024
        rw [hj] at hok6
        have HO6 := Lib.hid hok6
        have k5 : w6.cell? ⟨p.g, 5, none⟩ = some (.bool c.greet) := by rw [← hpg]; exact hS6.cd.blk.cell 5
        have k6 : w6.cell? ⟨p.g, 6, none⟩ = some (.int .u64 (j : Int)) := by rw [← hpg]; exact hS6.cd.blk.cell 6
        have k7 : w6.cell? ⟨p.g, 7, none⟩ = some (.int .u64 (c.rep : Int)) := by rw [← hpg]; exact hS6.cd.blk.cell 7
        have k1 : w6.cell? ⟨p.g, 1, none⟩ = some (.int .i64 (c.win : Int)) := by rw [← hpg]; exact hS6.cd.blk.cell 1
        have HSZ : Hid (w.heap.size ≤ w6.heap.size) := Lib.hid hS6.chg.size
        have hwi := HOK.out.wi.2
        have ew : IntKind.u64.wrap (c.win : Int) = (c.win : Int) := by simp [IntKind.wrap, IntKind.bits, IntKind.signed]; omega
        have er : IntKind.u64.wrap ((c.rep : Int) + (c.win : Int)) = (c.rep : Int) + (c.win : Int) := by simp [IntKind.wrap, IntKind.bits, IntKind.signed]; omega
        clear hS6 hok6 hp' q12 q6 fr12 fr6 hg4w k12 HS3 HO3 HROW HR4 HG4 HV4
        cases hgr : c.greet with
        | false => as_aux_lemma =>
          have HF : Hid (issueF c true body = (j, [], 0, { c with bodies := c.bodies ++ [body], iss := j })) := Lib.hid (by unfold issueF; rw [if_neg (by decide), if_neg (by rw [ho]; decide), if_neg hq, if_neg (by rw [hgr]; rintro ⟨h, _⟩; cases h), hj])
          rw [hgr] at k5
          go_upto_region 11 with fail
          go_quiet (fail)
          go_wp2
          exact bodyPost_ret (v := .tuple #[.int .u64 (j : Int), .slice none 0 0, .int .i64 0]) (by simp [results, Try.results64, go_sem]) rfl (by rw [HF.out]; exact ⟨_, [], p', rfl, HS6.out.below (below_drewN (Below.refl _ _) _), FrsD.nil _ _ _⟩)
        | true =>
          rw [hgr] at k5
          by_cases hjl : j ≤ c.rep + c.win
          · as_aux_lemma =>
            have HF : Hid (issueF c true body = (j, [({ c with bodies := c.bodies ++ [body], iss := j } : Cl).cmd j], 0, { c with bodies := c.bodies ++ [body], iss := j })) := Lib.hid (by unfold issueF; rw [if_neg (by decide), if_neg (by rw [ho]; decide), if_neg hq, if_pos ⟨hgr, by omega⟩, hj])
            have l1 : (j : Int) ≤ (c.rep : Int) + (c.win : Int) := by omega
            have HCM := Lib.hid fun (W : World) (hW : Below w6.heap.size w6 W) => rcmd_any (HS6.out.cd.below hW) HO6.out hN j (by omega) (Nat.le_refl _)
            rw [hpg] at HCM
            go_upto_region 11 with fail
            go_quiet (fail)
            have HB9 : Hid (Below w6.heap.size w6 (w6.drewN nq)) := Lib.hid (below_drewN (Below.refl _ _) nq)
            clear k5 k6 k7 k1
            generalize w6.drewN nq = w9 at *
            have HCM9 := Lib.hid (HCM.out w9 HB9.out)
            clear HCM
            go_wp2_with (go_at_call 82; refine HCM9.out.mono ?_; rintro e w7 ⟨v7, rfl, ho7, hb7⟩; obtain ⟨A7, c7, rfl, _, _⟩ := ho7.form; have HO7 := Lib.hid ho7; have HB7 := Lib.hid hb7; clear ho7 hb7)
            have hb8 := HB9.out.trans (HB7.out.mono HB9.out.size)
            have hb9 := hb8.alloc hb8.size (.cells #[.slice A7 (frm (({ c with bodies := c.bodies ++ [body], iss := j } : Cl).cmd j)).length c7] 37)
            exact bodyPost_ret (v := .tuple #[.int .u64 (j : Int), .slice (some ⟨w7.heap.size, 0, none⟩) 1 1, .int .i64 0]) (by simp [results, Try.results64, go_sem]) rfl (by rw [HF.out]; exact HS6.out.ans (B := w9.heap.size) (Nat.le_trans HSZ.out HB9.out.size) HB9.out.size rfl (one_row HO7.out HB7.out.size) rfl hb9)
          · as_aux_lemma =>
            have HF : Hid (issueF c true body = (j, [], 0, { c with bodies := c.bodies ++ [body], iss := j })) := Lib.hid (by unfold issueF; rw [if_neg (by decide), if_neg (by rw [ho]; decide), if_neg hq, if_neg (by rintro ⟨_, h⟩; omega), hj])
            have l1 : ¬ (j : Int) ≤ (c.rep : Int) + (c.win : Int) := by omega
            go_upto_region 11 with fail
            go_quiet (fail)
            go_wp2
            exact bodyPost_ret (v := .tuple #[.int .u64 (j : Int), .slice none 0 0, .int .i64 0]) (by simp [results, Try.results64, go_sem]) rfl (by rw [HF.out]; exact ⟨_, [], p', rfl, HS6.out.below (below_drewN (Below.refl _ _) _), FrsD.nil _ _ _⟩)
end Go.Proofs.Ytjhkfpemcplaaaa
