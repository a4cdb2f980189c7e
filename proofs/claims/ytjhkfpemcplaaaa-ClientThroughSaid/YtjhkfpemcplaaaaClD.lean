/-
  The walk of Tick. No statement of the seat is proved here.
-/
import Derived.Test.YtjhkfpemcplaaaaClC
import Derived.Test.YtjhkfpemcplaaaaHeldX
namespace Go.Proofs.Ytjhkfpemcplaaaa
open Go.RowKit

def TickP (base : Nat) (w : World) (p : Pa) (c' : Cl) (qs : List Pk) (e : Ending) (w' : World) : Prop := AnsP base w p 0 c' qs (fun v => v) e w'
theorem CA.setWait {base : Nat} {w : World} {p : Pa} {c : Cl} (h : CA base w p c) (x : Nat) (m : Nat) : Stp base w p 0 { c with wait := x } p ((w.setCell ⟨p.g, 13, none⟩ (.int .i64 (x : Int))).drewN m) :=
  ⟨h.turn (h.blk.set_ 13 _) (fun k hk hn => by show (w.setCell _ _).heap[k]? = _; rw [Below.heap_setCell _ _ _ _ hn]) rfl rfl rfl rfl, rfl, fun k hk => .inl hk, ((Chg.refl (CF p) w).setCell (p := ⟨p.g, 13, none⟩) (fun _ => .inl rfl) _).drewN m, by omega⟩
theorem Stp.trans {base a b : Nat} {w w1 w2 : World} {p p1 p2 : Pa} {c1 c2 : Cl} (h : Stp base w p a c1 p1 w1) (k : Stp base w1 p1 b c2 p2 w2) : Stp base w p (a + b) c2 p2 w2 := by
  have key : ∀ k', CF p2 k' → CF p k' ∨ w.heap.size ≤ k' := fun k' hk => by
    rcases k.sub k' hk with e | e
    · exact h.sub k' e
    · have := h.chg.size
      exact .inr (by omega)
  refine ⟨k.ca, k.g.trans h.g, key, h.chg.trans k.chg fun i hi hg => ?_, by have := h.d; have := k.d; push_cast; omega⟩
  rcases h.sub i hg with e | e
  · exact e
  · omega
set_option maxRecDepth 20000 in
set_option maxHeartbeats 2000000 in
theorem tick_any {base N : Nat} {p : Pa} {c : Cl} {w : World} (n : Int) (h : CA base w p c) (ok : c.Ok N) (hN : N ≤ 1152921504606846976) : Calls Try.prog 24 #[.pointer (some ⟨p.g, 0, none⟩), .int .i64 n] w (TickP base w p (tickF c n).2 (tickF c n).1) := by
  have c0 : w.cell? ⟨p.g, 0, none⟩ = some (.int .u64 (c.nonce : Int)) := h.cells 0
  have c2 : w.cell? ⟨p.g, 2, none⟩ = some (.int .i64 (c.pat : Int)) := h.cells 2
  have c8 : w.cell? ⟨p.g, 8, none⟩ = some (.bool c.conn) := h.cells 8
  have c13 : w.cell? ⟨p.g, 13, none⟩ = some (.int .i64 (c.wait : Int)) := h.cells 13
  have c14 : w.cell? ⟨p.g, 14, none⟩ = some (.bool c.over) := h.cells 14
  have HM := Lib.hid (made_at p.g c.nonce w c0)
  have d1 : decide (1 ≤ c.nonce) = true := by simpa using ok.no.1
  rw [d1] at HM
  have HC := Lib.hid h
  have HOK := Lib.hid ok
  have f13 := h.blk.frozen 13
  have hg := h.blk.lt
  have hp1 := ok.pa.1
  have hp2 := ok.pa.2
  have hwt := ok.wt
  clear h ok d1 c0
  by_cases hbad : n < 1 ∨ c.conn = false ∨ c.over = true
  · have HF : Hid (tickF c n = ([], c)) := Lib.hid (by unfold tickF; rw [if_pos hbad])
    rw [HF.out]
    have h3 : n < 1 ∨ (1 ≤ n ∧ c.conn = false) ∨ (1 ≤ n ∧ c.conn = true ∧ c.over = true) := by
      rcases hbad with h1 | h1 | h1
      · exact .inl h1
      · by_cases h2 : n < 1
        · exact .inl h2
        · exact .inr (.inl ⟨by omega, h1⟩)
      · by_cases h2 : n < 1
        · exact .inl h2
        · cases h4 : c.conn with
          | false => exact .inr (.inl ⟨by omega, rfl⟩)
          | true => exact .inr (.inr ⟨by omega, rfl, h1⟩)
    clear hbad
    rcases h3 with h1 | ⟨h1, h2⟩ | ⟨h1, h2, h4⟩
    · go_enter Try.func24, Try.ntmps24
      go_wp2_with (go_at_call 43; refine HM.out.mono ?_; rintro e w2 ⟨rfl, rfl⟩)
      go_ret
      exact ⟨_, [], p, rfl, Stp.refl HC.out 0, Frs.nil _ _ _⟩
    · rw [h2] at c8
      go_enter Try.func24, Try.ntmps24
      go_wp2_with (go_at_call 43; refine HM.out.mono ?_; rintro e w2 ⟨rfl, rfl⟩)
      go_ret
      exact ⟨_, [], p, rfl, Stp.refl HC.out 0, Frs.nil _ _ _⟩
    · rw [h2] at c8
      rw [h4] at c14
      go_enter Try.func24, Try.ntmps24
      go_wp2_with (go_at_call 43; refine HM.out.mono ?_; rintro e w2 ⟨rfl, rfl⟩)
      go_ret
      exact ⟨_, [], p, rfl, Stp.refl HC.out 0, Frs.nil _ _ _⟩
  · have h1 : 1 ≤ n := by omega
    have h2 : c.conn = true := by cases h : c.conn <;> simp_all
    have h3 : c.over = false := by cases h : c.over <;> simp_all
    have HBAD := Lib.hid hbad
    rw [h2] at c8
    rw [h3] at c14
    clear hbad h2 h3
    obtain ⟨x, hx⟩ : ∃ x : Nat, (x : Int) = min (c.pat : Int) ((c.wait : Int) + min n (c.pat : Int)) := ⟨(min (c.pat : Int) ((c.wait : Int) + min n (c.pat : Int))).toNat, by omega⟩
    have HX := Lib.hid hx
    have f2 := h1
    clear hx
    go_enter Try.func24, Try.ntmps24
    go_upto_region 3 with (go_at_call 43; refine HM.out.mono ?_; rintro e w2 ⟨rfl, rfl⟩)
    go_cut [28] (fun _ wx => ∃ m, wx = (w.setCell ⟨p.g, 13, none⟩ (.int .i64 (x : Int))).drewN m)
    case first =>
      have hxx := HX.out
      obtain ⟨mn, hmn⟩ : ∃ mn : Int, mn = min n (c.pat : Int) := ⟨_, rfl⟩
      rw [← hmn] at hxx
      have e1 : (if (c.pat : Int) < n then (c.pat : Int) else n) = mn := by split <;> omega
      have e2 : IntKind.i64.wrap ((c.wait : Int) + mn) = (c.wait : Int) + mn := by rw [IntKind.wrap_i64]; omega
      have e3 : (if (c.wait : Int) + mn < (c.pat : Int) then (c.wait : Int) + mn else (c.pat : Int)) = (x : Int) := by split <;> omega
      clear hxx hmn
      have hS : w.drew.cell? ⟨p.g, 2, none⟩ = some (.int .i64 (c.pat : Int)) ∧ w.drew.cell? ⟨p.g, 13, none⟩ = some (.int .i64 (c.wait : Int)) := ⟨c2, c13⟩
      generalize c.pat = pt at *
      generalize c.wait = wt at *
      · refine wp_region_x (s := 21) (S := fun W' => W'.cell? ⟨p.g, 2, none⟩ = some (.int .i64 (pt : Int)) ∧ W'.cell? ⟨p.g, 13, none⟩ = some (.int .i64 (wt : Int))) (by kernel_rfl) hS (fun hHeld => ?_)
        refine wpAnyX_take (i := 0) (v := ?_) (by simp only [List.getElem?_toArray, List.getElem?_cons_zero]; rfl) (by kernel_rfl) (by kernel_rfl) (by kernel_rfl) (by kernel_rfl) (by exact fun _ _ _ h => h) (Or.inl ⟨by rfl, ?_⟩) (by assumption) ?_
        rotate_left
        · intro w hSw; (try dsimp only at hSw); go_split_ands; go_simp <;> with_reducible rfl
        try simp only [Act.put, List.setIfInBounds_toArray, List.set_cons_zero, List.set_cons_succ]
        refine wpAnyX_take (i := 1) (v := ?_) (by simp only [List.getElem?_toArray, List.getElem?_cons_succ, List.getElem?_cons_zero]; rfl) (by kernel_rfl) (by kernel_rfl) (by kernel_rfl) (by kernel_rfl) (by exact fun _ _ _ h => h) (Or.inl ⟨by rfl, ?_⟩) (by assumption) ?_
        rotate_left
        · intro w hSw; (try dsimp only at hSw); go_split_ands; go_simp <;> with_reducible rfl
        try simp only [Act.put, List.setIfInBounds_toArray, List.set_cons_zero, List.set_cons_succ]
        refine wpAnyX_take (i := 2) (v := ?_) (by simp only [List.getElem?_toArray, List.getElem?_cons_succ, List.getElem?_cons_zero]; rfl) (by kernel_rfl) (by kernel_rfl) (by kernel_rfl) (by kernel_rfl) (by exact fun _ _ _ h => h) (Or.inl ⟨by rfl, ?_⟩) (by assumption) ?_
        rotate_left
        · intro w hSw; (try dsimp only at hSw); go_split_ands; go_simp <;> with_reducible rfl
        try simp only [Act.put, List.setIfInBounds_toArray, List.set_cons_zero, List.set_cons_succ]
        refine wpAnyX_take (i := 3) (v := ?_) (by simp only [List.getElem?_toArray, List.getElem?_cons_succ, List.getElem?_cons_zero]; rfl) (by kernel_rfl) (by kernel_rfl) (by kernel_rfl) (by kernel_rfl) (by exact fun _ _ _ h => h) (Or.inl ⟨by rfl, ?_⟩) (by assumption) ?_
        rotate_left
        · intro w hSw; (try dsimp only at hSw); go_split_ands; go_simp <;> with_reducible rfl
        try simp only [Act.put, List.setIfInBounds_toArray, List.set_cons_zero, List.set_cons_succ]
        refine wpAnyX_take (i := 4) (v := ?_) (by simp only [List.getElem?_toArray, List.getElem?_cons_succ, List.getElem?_cons_zero]; rfl) (by kernel_rfl) (by kernel_rfl) (by kernel_rfl) (by kernel_rfl) (by exact fun _ _ _ h => h) (Or.inl ⟨by rfl, ?_⟩) (by assumption) ?_
        rotate_left
        · intro w hSw; (try dsimp only at hSw); go_split_ands; go_simp <;> with_reducible rfl
        try simp only [Act.put, List.setIfInBounds_toArray, List.set_cons_zero, List.set_cons_succ]
        refine wpAnyX_take (i := 5) (v := ?_) (by simp only [List.getElem?_toArray, List.getElem?_cons_succ, List.getElem?_cons_zero]; rfl) (by kernel_rfl) (by kernel_rfl) (by kernel_rfl) (by kernel_rfl) (by exact fun _ _ _ h => h) (Or.inl ⟨by rfl, ?_⟩) (by assumption) ?_
        rotate_left
        · intro w hSw; (try dsimp only at hSw); go_split_ands; go_simp <;> with_reducible rfl
        try simp only [Act.put, List.setIfInBounds_toArray, List.set_cons_zero, List.set_cons_succ]
        refine wpAnyX_take (i := 6) (v := ?_) (by simp only [List.getElem?_toArray, List.getElem?_cons_succ, List.getElem?_cons_zero]; rfl) (by kernel_rfl) (by kernel_rfl) (by kernel_rfl) (by kernel_rfl) (by exact fun _ _ _ h => h) (Or.inl ⟨by rfl, ?_⟩) (by assumption) ?_
        rotate_left
        · intro w hSw; (try dsimp only at hSw); go_split_ands; go_simp <;> with_reducible rfl
        try simp only [Act.put, List.setIfInBounds_toArray, List.set_cons_zero, List.set_cons_succ]
        refine wpAnyX_take (i := 7) (v := ?_) (by simp only [List.getElem?_toArray, List.getElem?_cons_succ, List.getElem?_cons_zero]; rfl) (by kernel_rfl) (by kernel_rfl) (by kernel_rfl) (by kernel_rfl) (by exact fun _ _ _ h => h) (Or.inl ⟨by rfl, ?_⟩) (by assumption) ?_
        rotate_left
        · intro w hSw; (try dsimp only at hSw); go_split_ands; go_simp <;> with_reducible rfl
        try simp only [Act.put, List.setIfInBounds_toArray, List.set_cons_zero, List.set_cons_succ]
        refine wpAnyX_take (i := 8) (v := ?_) (by simp only [List.getElem?_toArray, List.getElem?_cons_succ, List.getElem?_cons_zero]; rfl) (by kernel_rfl) (by kernel_rfl) (by kernel_rfl) (by kernel_rfl) (by exact fun _ _ _ h => h) (Or.inl ⟨by rfl, ?_⟩) (by assumption) ?_
        rotate_left
        · intro w hSw; (try dsimp only at hSw); go_split_ands; go_simp <;> with_reducible rfl
        try simp only [Act.put, List.setIfInBounds_toArray, List.set_cons_zero, List.set_cons_succ]
        refine wpAnyX_take (i := 9) (v := ?_) (by simp only [List.getElem?_toArray, List.getElem?_cons_succ, List.getElem?_cons_zero]; rfl) (by kernel_rfl) (by kernel_rfl) (by kernel_rfl) (by kernel_rfl) (by exact fun _ _ _ h => h) (Or.inl ⟨by rfl, ?_⟩) (by assumption) ?_
        rotate_left
        · intro w hSw; (try dsimp only at hSw); go_split_ands; go_simp <;> with_reducible rfl
        try simp only [Act.put, List.setIfInBounds_toArray, List.set_cons_zero, List.set_cons_succ]
        refine wpAnyX_take (i := 10) (v := ?_) (by simp only [List.getElem?_toArray, List.getElem?_cons_succ, List.getElem?_cons_zero]; rfl) (by kernel_rfl) (by kernel_rfl) (by kernel_rfl) (by kernel_rfl) (by exact fun _ _ _ h => h) (Or.inl ⟨by rfl, ?_⟩) (by assumption) ?_
        rotate_left
        · intro w hSw; (try dsimp only at hSw); go_split_ands; go_simp <;> with_reducible rfl
        try simp only [Act.put, List.setIfInBounds_toArray, List.set_cons_zero, List.set_cons_succ]
        refine wpAnyX_take (i := 11) (v := ?_) (by simp only [List.getElem?_toArray, List.getElem?_cons_succ, List.getElem?_cons_zero]; rfl) (by kernel_rfl) (by kernel_rfl) (by kernel_rfl) (by kernel_rfl) (by exact fun _ _ _ h => h) (Or.inl ⟨by rfl, ?_⟩) (by assumption) ?_
        rotate_left
        · intro w hSw; (try dsimp only at hSw); go_split_ands; go_simp <;> with_reducible rfl
        try simp only [Act.put, List.setIfInBounds_toArray, List.set_cons_zero, List.set_cons_succ]
        refine wpAnyX_take (i := 12) (v := ?_) (by simp only [List.getElem?_toArray, List.getElem?_cons_succ, List.getElem?_cons_zero]; rfl) (by kernel_rfl) (by kernel_rfl) (by kernel_rfl) (by kernel_rfl) (by exact fun _ _ _ h => h) (Or.inl ⟨by rfl, ?_⟩) (by assumption) ?_
        rotate_left
        · intro w hSw; (try dsimp only at hSw); go_split_ands; go_simp <;> with_reducible rfl
        try simp only [Act.put, List.setIfInBounds_toArray, List.set_cons_zero, List.set_cons_succ]
        refine wpAnyX_take (i := 13) (v := ?_) (by simp only [List.getElem?_toArray, List.getElem?_cons_succ, List.getElem?_cons_zero]; rfl) (by kernel_rfl) (by kernel_rfl) (by kernel_rfl) (by kernel_rfl) (by exact fun _ _ _ h => h) (Or.inl ⟨by rfl, ?_⟩) (by assumption) ?_
        rotate_left
        · intro w hSw; (try dsimp only at hSw); go_split_ands; go_simp <;> with_reducible rfl
        try simp only [Act.put, List.setIfInBounds_toArray, List.set_cons_zero, List.set_cons_succ]
        refine wpAnyX_take (i := 14) (v := ?_) (by simp only [List.getElem?_toArray, List.getElem?_cons_succ, List.getElem?_cons_zero]; rfl) (by kernel_rfl) (by kernel_rfl) (by kernel_rfl) (by kernel_rfl) (by exact fun _ _ _ h => h) (Or.inl ⟨by rfl, ?_⟩) (by assumption) ?_
        rotate_left
        · intro w hSw; (try dsimp only at hSw); go_split_ands; go_simp <;> with_reducible rfl
        try simp only [Act.put, List.setIfInBounds_toArray, List.set_cons_zero, List.set_cons_succ]
        refine wpAnyX_one (i := 15) (by kernel_rfl) (by simp only [List.getElem?_toArray, List.getElem?_cons_succ, List.getElem?_cons_zero]; rfl) (fun K2 hK2 => ?_)
        go_simp
        refine hK2.out _ _ (hHeld) (fun hHeld => ?_)
        clear hK2 K2
        try simp only [Act.put, List.setIfInBounds_toArray, List.set_cons_zero, List.set_cons_succ]
        refine wpAnyX_one (i := 16) (by kernel_rfl) (by simp only [List.getElem?_toArray, List.getElem?_cons_succ, List.getElem?_cons_zero]; rfl) (fun K2 hK2 => ?_)
        go_simp
        refine hK2.out _ _ (hHeld) (fun hHeld => ?_)
        clear hK2 K2
        try simp only [Act.put, List.setIfInBounds_toArray, List.set_cons_zero, List.set_cons_succ]
        refine wpAnyX_one (i := 17) (by kernel_rfl) (by simp only [List.getElem?_toArray, List.getElem?_cons_succ, List.getElem?_cons_zero]; rfl) (fun K2 hK2 => ?_)
        go_simp
        refine hK2.out _ _ (hHeld) (fun hHeld => ?_)
        clear hK2 K2
        try simp only [Act.put, List.setIfInBounds_toArray, List.set_cons_zero, List.set_cons_succ]
        refine wpAnyX_one (i := 18) (by kernel_rfl) (by simp only [List.getElem?_toArray, List.getElem?_cons_succ, List.getElem?_cons_zero]; rfl) (fun K2 hK2 => ?_)
        go_simp
        refine hK2.out _ _ (hHeld) (fun hHeld => ?_)
        clear hK2 K2
        try simp only [Act.put, List.setIfInBounds_toArray, List.set_cons_zero, List.set_cons_succ]
        refine wpAnyX_one (i := 19) (by kernel_rfl) (by simp only [List.getElem?_toArray, List.getElem?_cons_succ, List.getElem?_cons_zero]; rfl) (fun K2 hK2 => ?_)
        go_simp
        refine hK2.out _ _ (hHeld) (fun hHeld => ?_)
        clear hK2 K2
        try simp only [Act.put, List.setIfInBounds_toArray, List.set_cons_zero, List.set_cons_succ]
        refine wpAnyX_one (i := 20) (by kernel_rfl) (by simp only [List.getElem?_toArray, List.getElem?_cons_succ, List.getElem?_cons_zero]; rfl) (fun K2 hK2 => ?_)
        go_simp
        refine hK2.out _ _ (hHeld) (fun hHeld => ?_)
        clear hK2 K2
        try simp only [Act.put, List.setIfInBounds_toArray, List.set_cons_zero, List.set_cons_succ]
        refine wpAnyX_last (by kernel_rfl) (by simp only [List.getElem?_toArray, List.getElem?_cons_succ, List.getElem?_cons_zero]; rfl) (fun K2 hK2 => ?_)
        go_simp
        refine hK2.out _ _ ?_
        clear hK2 K2
        try simp only [Act.put, List.setIfInBounds_toArray, List.set_cons_zero, List.set_cons_succ]
        refine wpAnyX_done (by kernel_rfl) ?_ _
        go_wp2_with fail
        go_meet
        exact ⟨1, rfl⟩
    case rest =>
      obtain ⟨m, rfl⟩ := hcut
      have hST := HC.out.setWait x m
      obtain ⟨w3, hw3⟩ : ∃ w3, (w.setCell ⟨p.g, 13, none⟩ (.int .i64 (x : Int))).drewN m = w3 := ⟨_, rfl⟩
      rw [hw3] at hST ⊢
      have HST := Lib.hid hST
      have k2 : w3.cell? ⟨p.g, 2, none⟩ = some (.int .i64 (c.pat : Int)) := hST.ca.cells 2
      have k13 : w3.cell? ⟨p.g, 13, none⟩ = some (.int .i64 (x : Int)) := hST.ca.cells 13
      have hx2 : (x : Int) ≤ (c.pat : Int) := by have := HX.out; omega
      clear hw3 hST c2 c8 c13 c14 f13 HM
      by_cases hlow : (x : Int) < (c.pat : Int)
      · have HF : Hid (tickF c n = ([], { c with wait := x })) := Lib.hid (by
          have h9 := HX.out
          unfold tickF
          rw [if_neg HBAD.out, if_pos (by omega), show ((c.wait : Int) + n).toNat = x by omega])
        go_upto_region 4 with fail
        go_quiet (fail)
        go_wp2
        go_ret
        rw [HF.out]
        exact ⟨_, [], p, rfl, HST.out.below (below_drewN (Below.refl _ _) _), Frs.nil _ _ _⟩
      · have HF : Hid (tickF c n = (if c.greet = false then [c.hello] else if c.rep + 1 ≤ c.iss then [c.cmd (c.rep + 1)] else [], { c with wait := 0 })) := Lib.hid (by
          have h9 := HX.out
          unfold tickF
          rw [if_neg HBAD.out, if_neg (by omega)])
        have f13 : w3.frozen? ⟨p.g, 13, none⟩ = false := HST.out.ca.blk.frozen 13
        go_upto_region 4 with fail
        go_quiet (fail)
        go_upto_region 7 with fail
        have hS4 : Stp base w p 0 { c with wait := 0 } p ((w3.drewN nq).setCell ⟨p.g, 13, none⟩ (.int .i64 0)) := (HST.out.below (below_drewN (Below.refl _ _) nq)).trans ((HST.out.ca.drewN nq).setWait 0 0)
        generalize (w3.drewN nq).setCell ⟨p.g, 13, none⟩ (.int .i64 0) = w4 at hS4 ⊢
        have HS := Lib.hid hS4
        have HSZ : Hid (w.heap.size ≤ w4.heap.size) := Lib.hid hS4.chg.size
        have k9 : w4.cell? ⟨p.g, 9, none⟩ = some (.bool c.greet) := hS4.ca.cells 9
        have k10 : w4.cell? ⟨p.g, 10, none⟩ = some (.int .u64 (c.iss : Int)) := hS4.ca.cells 10
        have k11 : w4.cell? ⟨p.g, 11, none⟩ = some (.int .u64 (c.rep : Int)) := hS4.ca.cells 11
        have hok4 : ({ c with wait := 0 } : Cl).Ok N := ⟨HOK.out.no, HOK.out.wi, HOK.out.pa, HOK.out.bl, HOK.out.bs, HOK.out.rp, HOK.out.rl, HOK.out.is, HOK.out.tk, HOK.out.ev, HOK.out.el, Nat.zero_le _, HOK.out.kp⟩
        have HO4 := Lib.hid hok4
        have b1 := HOK.out.rp
        have b2 := HOK.out.is
        clear hS4 hok4 k2 k13 f13 HST
        cases hgr : c.greet with
        | false =>
          rw [hgr] at k9
          have HH := Lib.hid (hello_any p.g c.tok c.nonce w4 (HS.out.ca.cells 0) (HS.out.ca.cells 7) HS.out.ca.blk.lt)
          have HFR := Lib.hid fun (w5 : World) => frames_one ({ c with wait := 0 } : Cl).hello none 0 w5 Reads.none_ (hello_ok HO4.out)
          unfold Cl.hello at HFR
          go_wp2_with (first
            | (go_at_call 49; refine HH.out.mono ?_; rintro e w5 ⟨rfl, hb5⟩; have HB5 := Lib.hid hb5; clear hb5)
            | (go_at_call 48; refine (HFR.out _).mono ?_; rintro e w6 ⟨v, l, rfl, hr, hl, hb6⟩; have HR := Lib.hid hr; have HL := Lib.hid hl; have HB6 := Lib.hid hb6; clear hr hl hb6))
          go_ret
          rw [HF.out, if_pos hgr]
          exact HS.out.ans (Nat.le_trans HSZ.out HB5.out.size) HB5.out.size rfl HR.out HL.out (HB5.out.trans (HB6.out.mono HB5.out.size))
        | true =>
          rw [hgr] at k9
          by_cases hri : c.rep + 1 ≤ c.iss
          · have HCM := Lib.hid (cmd_any HS.out.ca HO4.out hN (c.rep + 1) (by omega) hri)
            have HFR := Lib.hid fun A cc (w5 : World) hr => frames_one (({ c with wait := 0 } : Cl).cmd (c.rep + 1)) A cc w5 hr (cmd_ok HO4.out hN hri)
            have hri2 : (c.rep : Int) + 1 ≤ (c.iss : Int) := by omega
            have e1 : ((c.rep + 1 : Nat) : Int) = (c.rep : Int) + 1 := by push_cast; rfl
            rw [e1] at HCM
            have e2 : IntKind.u64.wrap ((c.rep : Int) + 1) = (c.rep : Int) + 1 := by simp [IntKind.wrap, IntKind.bits, IntKind.signed]; omega
            unfold pkV at HCM
            go_wp2_with (first
              | (go_at_call 52; refine HCM.out.mono ?_; rintro e w5 ⟨A5, c5, rfl, hr5, hb5⟩; have HR5 := Lib.hid hr5; have HB5 := Lib.hid hb5; clear hb5 hr5)
              | (go_at_call 48; refine (HFR.out _ _ _ HR5.out).mono ?_; rintro e w6 ⟨v, l, rfl, hr, hl, hb6⟩; have HR := Lib.hid hr; have HL := Lib.hid hl; have HB6 := Lib.hid hb6; clear hr hl hb6))
            go_ret
            rw [HF.out, if_neg (by rw [hgr]; decide), if_pos hri]
            exact HS.out.ans (Nat.le_trans HSZ.out HB5.out.size) HB5.out.size rfl HR.out HL.out (HB5.out.trans (HB6.out.mono HB5.out.size))
          · have hri2 : ¬ (c.rep : Int) + 1 ≤ (c.iss : Int) := by omega
            have e2 : IntKind.u64.wrap ((c.rep : Int) + 1) = (c.rep : Int) + 1 := by simp [IntKind.wrap, IntKind.bits, IntKind.signed]; omega
            go_wp2_with fail
            go_ret
            rw [HF.out, if_neg (by rw [hgr]; decide), if_neg hri]
            exact ⟨_, [], p, rfl, HS.out, Frs.nil _ _ _⟩
end Go.Proofs.Ytjhkfpemcplaaaa
