/-
  The walk of Events. No statement of the seat is proved here.
-/
import Derived.Test.YtjhkfpemcplaaaaClT
namespace Go.Proofs.Ytjhkfpemcplaaaa
open Go.RowKit

def EvsP (w : World) (rs : List (Nat × Rp)) (e : Ending) (w' : World) : Prop := ∃ v l, e = .returned v ∧ RowK kE w.heap.size w' v l ∧ l.map (·.1) = rs ∧ Below w.heap.size w w'
set_option maxRecDepth 20000 in
set_option maxHeartbeats 4000000 in
theorem events_any {base N : Nat} {p : Pa} {c : Cl} {w : World} (h : CA base w p c) (ok : c.Ok N) (hN : N ≤ 549755813888) (hv : ∀ r ∈ c.evs, r.2.vals.length ≤ 32) :
    Calls Try.prog 26 #[.pointer (some ⟨p.g, 0, none⟩)] w (EvsP w c.evs) := by
  have c0 : w.cell? ⟨p.g, 0, none⟩ = some (.int .u64 (c.nonce : Int)) := h.cells 0
  have c6 : w.cell? ⟨p.g, 6, none⟩ = some p.ev := h.cells 6
  have HM := Lib.hid (made_at p.g c.nonce w c0)
  have d1 : decide (1 ≤ c.nonce) = true := by simpa using ok.no.1
  rw [d1] at HM
  have HS := Lib.hid h.rows.e
  have hri := h.rows.ei
  have hlen : p.el.length ≤ 549755813888 := by
    have e1 := congrArg List.length hri
    rw [List.length_map] at e1
    have := ok.el
    omega
  obtain ⟨AS, cS, hrv, _, _⟩ := HS.out.form
  rw [hrv] at c6
  have hv' : ∀ q ∈ p.el, q.1.2.vals.length ≤ 32 := fun q hq => hv _ (by rw [← hri]; exact List.mem_map_of_mem hq)
  have HV := Lib.hid hv'
  rw [← hri]
  generalize p.el = qs at *
  generalize p.ev = rv at *
  subst hrv
  generalize p.g = g at *
  obtain ⟨i0, hi, hz0, hz1, hz2⟩ := info_parts info70
  have z70 : ∀ w : World, (zeroValue 70).run Try.prog w = .ok (.agg #[.int .u64 0, .int .i64 0, .slice none 0 0, .string ByteArray.empty]) w := fun w => by kernel_rfl
  clear h ok hv hv' hri d1 c0
  go_enter Try.func26, Try.ntmps26
  go_wp2_with (go_at_call 43; refine HM.out.mono ?_; rintro e w2 ⟨rfl, rfl⟩)
  go_loopw [3, 14] (fun v i wr => ∃ (k : Nat) (l : List (QX (Nat × Rp))), k ≤ qs.length ∧ i = .int .i64 (k : Int) ∧ RowK kE w.heap.size wr v l ∧ l.map (·.1) = (qs.take k).map (·.1) ∧ Below w.heap.size w wr) (fun _ i _ => qs.length - (intOf i).toNat)
  case atStart => exact ⟨0, [], Nat.zero_le _, rfl, RowK.nil _ _ _, rfl, Below.refl _ _⟩
  case round =>
    obtain ⟨k, l, hk, rfl, hrow, hl, hb⟩ := hrel
    have HROW := Lib.hid hrow
    have HL := Lib.hid hl
    have HB := Lib.hid hb
    have hws := hb.size
    obtain ⟨Av, cv, rfl, _, _⟩ := hrow.form
    have hll : l.length = k := by
      have := congrArg List.length hl
      simp at this
      omega
    clear hrow hl hb
    by_cases hlt : k < qs.length
    · obtain ⟨q, hq⟩ : ∃ q, qs[k]? = some q := ⟨_, List.getElem?_eq_getElem hlt⟩
      obtain ⟨gb, cb, hbv, _, hgb, hcell⟩ := (HS.out.below HB.out).at_ kE_len hq
      injection hbv with hA _ hC
      subst hA
      subst hC
      have hqm := List.mem_of_getElem? hq
      have HQO := Lib.hid ((HS.out.below HB.out).els q hqm)
      have hq32 := HV.out q hqm
      have HNX : Hid ((qs.take (k + 1)).map (·.1) = (qs.take k).map (·.1) ++ [q.1]) := Lib.hid (by
        rw [List.take_add_one, hq]
        simp)
      obtain ⟨⟨sq, er, vs, tx⟩, Aq, cq⟩ := q
      have e0 : wr.cell? ⟨gb, k * 4, none⟩ = some (.int .u64 (sq : Int)) := hcell 0 _ rfl
      have e1 : wr.cell? ⟨gb, k * 4 + 1, none⟩ = some (.int .i64 er) := hcell 1 _ rfl
      have e2 : wr.cell? ⟨gb, k * 4 + 2, none⟩ = some (.slice Aq vs.length cq) := hcell 2 _ rfl
      have e3 : wr.cell? ⟨gb, k * 4 + 3, none⟩ = some (.string ⟨tx.toArray⟩) := hcell 3 _ rfl
      have l1 : (0 : Int) ≤ (k : Int) := by omega
      have l2 : (k : Int) < (qs.length : Int) := by omega
      have HLN := Lib.hid hll
      have HRD : Hid (Reads wr wr.heap.size 2 Aq vs.length (vcells vs)) := Lib.hid (Reads.of_own HQO.out)
      go_upto_region 7 with fail
      clear e0 e1 e2 e3
      have hX := Blk.new wr 70 #[.int .u64 (sq : Int), .int .i64 er, .slice Aq vs.length cq, .string ⟨tx.toArray⟩]
      have hb1 := (Below.refl wr.heap.size wr).alloc (Nat.le_refl _) (.cells #[.int .u64 (sq : Int), .int .i64 er, .slice Aq vs.length cq, .string ⟨tx.toArray⟩] 70)
      have HB1 := Lib.hid hb1
      have HTO := Lib.hid (told_any ⟨er, vs, tx⟩ Aq vs.length cq (wr.alloc (.cells #[.int .u64 (sq : Int), .int .i64 er, .slice Aq vs.length cq, .string ⟨tx.toArray⟩] 70)).drew ((HRD.out.below hb1.drew).more hb1.size) rfl (by dsimp only at hq32; omega))
      clear hq hqm hll hcell hq32 hb1
      generalize wr.alloc (.cells #[.int .u64 (sq : Int), .int .i64 er, .slice Aq vs.length cq, .string ⟨tx.toArray⟩] 70) = w1 at *
      generalize hbx : wr.heap.size = bx at *
      have hb1s : bx ≤ w1.heap.size := hbx ▸ HB1.out.size
      have x10 : ∀ w3, Below w1.heap.size w1 w3 → w3.cell? ⟨bx, 0, none⟩ = some (.int .u64 (sq : Int)) ∧ w3.cell? ⟨bx, 1, none⟩ = some (.int .i64 er) ∧ w3.cell? ⟨bx, 2, none⟩ = some (.slice Aq vs.length cq) ∧ w3.cell? ⟨bx, 3, none⟩ = some (.string ⟨tx.toArray⟩) := fun w3 h => ⟨(h.cell (p := ⟨bx, 0, none⟩) hX.lt).trans (hX.cell 0), (h.cell (p := ⟨bx, 1, none⟩) hX.lt).trans (hX.cell 1), (h.cell (p := ⟨bx, 2, none⟩) hX.lt).trans (hX.cell 2), (h.cell (p := ⟨bx, 3, none⟩) hX.lt).trans (hX.cell 3)⟩
      refine wp_region_held_drew (S := fun W => W.cell? ⟨bx, 0, none⟩ = some (.int .u64 (sq : Int)) ∧ W.cell? ⟨bx, 1, none⟩ = some (.int .i64 er) ∧ W.cell? ⟨bx, 2, none⟩ = some (.slice Aq vs.length cq) ∧ W.cell? ⟨bx, 3, none⟩ = some (.string ⟨tx.toArray⟩)) (by kernel_rfl) (x10 _ (Below.refl _ _).drew) (fun hHeld => ?_)
      refine wpAnyH_take (i := 0) (v := ?_) (by simp only [List.getElem?_toArray, List.getElem?_cons_zero]; rfl) (by kernel_rfl) (by kernel_rfl) (by kernel_rfl) (by exact fun _ _ _ h => h) (Or.inl ⟨by rfl, ?_⟩) (by assumption) ?_
      rotate_left
      · intro w hSw; (try dsimp only at hSw); go_split_ands; go_simp <;> with_reducible rfl
      try simp only [Act.put, List.setIfInBounds_toArray, List.set_cons_zero, List.set_cons_succ]
      refine wpAnyH_take (i := 1) (v := ?_) (by simp only [List.getElem?_toArray, List.getElem?_cons_succ, List.getElem?_cons_zero]; rfl) (by kernel_rfl) (by kernel_rfl) (by kernel_rfl) (by exact fun _ _ _ h => h) (Or.inl ⟨by rfl, ?_⟩) (by assumption) ?_
      rotate_left
      · intro w hSw; (try dsimp only at hSw); go_split_ands; go_simp <;> with_reducible rfl
      try simp only [Act.put, List.setIfInBounds_toArray, List.set_cons_zero, List.set_cons_succ]
      refine wpAnyH_take (i := 2) (v := ?_) (by simp only [List.getElem?_toArray, List.getElem?_cons_succ, List.getElem?_cons_zero]; rfl) (by kernel_rfl) (by kernel_rfl) (by kernel_rfl) (by exact fun _ _ _ h => h) (Or.inl ⟨by rfl, ?_⟩) (by assumption) ?_
      rotate_left
      · intro w hSw; (try dsimp only at hSw); go_split_ands; go_simp <;> with_reducible rfl
      try simp only [Act.put, List.setIfInBounds_toArray, List.set_cons_zero, List.set_cons_succ]
      refine wpAnyH_take (i := 3) (v := ?_) (by simp only [List.getElem?_toArray, List.getElem?_cons_succ, List.getElem?_cons_zero]; rfl) (by kernel_rfl) (by kernel_rfl) (by kernel_rfl) (by exact fun _ _ _ h => h) (Or.inl ⟨by rfl, ?_⟩) (by assumption) ?_
      rotate_left
      · intro w hSw; (try dsimp only at hSw); go_split_ands; go_simp <;> with_reducible rfl
      try simp only [Act.put, List.setIfInBounds_toArray, List.set_cons_zero, List.set_cons_succ]
      refine wpAnyH_take (i := 4) (v := ?_) (by simp only [List.getElem?_toArray, List.getElem?_cons_succ, List.getElem?_cons_zero]; rfl) (by kernel_rfl) (by kernel_rfl) (by kernel_rfl) (by exact fun _ _ _ h => h) (Or.inl ⟨by rfl, ?_⟩) (by assumption) ?_
      rotate_left
      · intro w hSw; (try dsimp only at hSw); go_split_ands; go_simp <;> with_reducible rfl
      try simp only [Act.put, List.setIfInBounds_toArray, List.set_cons_zero, List.set_cons_succ]
      refine wpAnyH_ready (rs := [5]) (by kernel_rfl) (by simp) ?_
      refine AllReadyH.cons (by simp only [List.getElem?_toArray, List.getElem?_cons_succ, List.getElem?_cons_zero]; rfl) (fun K hK => ?_) AllReadyH.nil
      go_simp
      go_at_call 55
      refine HTO.out.mono ?_
      rintro e w2 ⟨A2, c2, rfl, ho2, hb2⟩
      have HB2 : Hid (Below w1.heap.size w1 w2) := Lib.hid ⟨hb2.os, hb2.tape, hb2.output, hb2.size, hb2.block⟩
      have HB3 : Hid (Below bx wr w2) := Lib.hid (HB1.out.trans (HB2.out.mono hb1s))
      have HO2 : Hid (w2.ownsRow w.heap.size 68 2 (.slice A2 vs.length c2) vs.length (vcells vs)) := Lib.hid (own_base (show w2.ownsRow w1.heap.size 68 2 (.slice A2 vs.length c2) vs.length (vcells vs) from ho2) (Nat.le_trans hws hb1s))
      have HROW3 := Lib.hid (HROW.out.below (hbx.symm ▸ HB3.out))
      have HB4 := Lib.hid (HB.out.trans (HB3.out.mono hws))
      have hw2s : w.heap.size ≤ w2.heap.size := HB4.out.size
      have hS3 := x10 w2 HB2.out
      clear ho2 hb2
      try go_simp
      refine hK.out _ _ (hS3) (fun hHeld => ?_)
      clear hK K
      try simp only [Act.put, List.setIfInBounds_toArray, List.set_cons_zero, List.set_cons_succ]
      refine wpAnyH_ready (rs := [6]) (by kernel_rfl) (by simp) ?_
      refine AllReadyH.cons (by simp only [List.getElem?_toArray, List.getElem?_cons_succ, List.getElem?_cons_zero]; rfl) (fun K hK => ?_) AllReadyH.nil
      go_simp
      refine hK.out _ _ (hHeld) (fun hHeld => ?_)
      clear hK K
      try simp only [Act.put, List.setIfInBounds_toArray, List.set_cons_zero, List.set_cons_succ]
      refine wpAnyH_ready (rs := [7]) (by kernel_rfl) (by simp) ?_
      refine AllReadyH.cons (by simp only [List.getElem?_toArray, List.getElem?_cons_succ, List.getElem?_cons_zero]; rfl) (fun K hK => ?_) AllReadyH.nil
      go_simp
      refine hK.out _ _ (by go_keep) (fun hHeld => ?_)
      clear hK K
      try simp only [Act.put, List.setIfInBounds_toArray, List.set_cons_zero, List.set_cons_succ]
      refine wpAnyH_ready (rs := [8]) (by kernel_rfl) (by simp) ?_
      refine AllReadyH.cons (by simp only [List.getElem?_toArray, List.getElem?_cons_succ, List.getElem?_cons_zero]; rfl) (fun K hK => ?_) AllReadyH.nil
      (refine step_append_any _ rfl (.tmp 18) (.tmp 25) 65 rfl w.heap.size 70 i0 _ 4 56 Try.underlying65 hi hz0 hz1 hz2 rfl (by decide) (.slice Av l.length cv) l.length (kE.flat l) (by rfl) (World.ownsRow.alloc HROW3.out.row _) _ _ 1 1 [.int .u64 (sq : Int), .int .i64 er, .slice A2 vs.length c2, .string ⟨tx.toArray⟩] (by rfl) (read_one _ [.int .u64 (sq : Int), .int .i64 er, .slice A2 vs.length c2, .string ⟨tx.toArray⟩] 70) (by simp [Value.oneCell']) (by simp only [maxLen]; have := HLN.out; omega) (by have := HLN.out; omega) (by simp; omega) ?_; intro v4 w4 hr4 hg4 hv4; have HR4 := Lib.hid hr4; have HG4 := Lib.hid hg4; have hx4 := ((show Blk w2 bx 70 #[.int .u64 (sq : Int), .int .i64 er, .slice Aq vs.length cq, .string ⟨tx.toArray⟩] from (HB2.out.block _ hX.lt).trans hX).alloc (.cells #[.int .u64 (sq : Int), .int .i64 er, .slice A2 vs.length c2, .string ⟨tx.toArray⟩] 70)).grown hg4 (fun e => by have := (HROW.out.lt (.inl e.symm)).2; omega); have hS5 := And.intro (show w4.cell? ⟨bx, 0, none⟩ = some (.int .u64 (sq : Int)) from hx4.cell 0) (And.intro (show w4.cell? ⟨bx, 1, none⟩ = some (.int .i64 er) from hx4.cell 1) (And.intro (show w4.cell? ⟨bx, 2, none⟩ = some (.slice Aq vs.length cq) from hx4.cell 2) (show w4.cell? ⟨bx, 3, none⟩ = some (.string ⟨tx.toArray⟩) from hx4.cell 3))); clear hr4 hg4 hv4 hx4)
      try go_simp
      refine hK.out _ _ (hS5) (fun hHeld => ?_)
      clear hK K
      try simp only [Act.put, List.setIfInBounds_toArray, List.set_cons_zero, List.set_cons_succ]
      refine wpAnyH_ready (rs := [9]) (by kernel_rfl) (by simp) ?_
      refine AllReadyH.cons (by simp only [List.getElem?_toArray, List.getElem?_cons_succ, List.getElem?_cons_zero]; rfl) (fun K hK => ?_) AllReadyH.nil
      go_simp
      refine hK.out _ _ (hHeld) (fun hHeld => ?_)
      clear hK K
      try simp only [Act.put, List.setIfInBounds_toArray, List.set_cons_zero, List.set_cons_succ]
      refine wpAnyH_done (by kernel_rfl) ?_ _
      go_wp2
      go_roundw
      case rel => exact ⟨k + 1, l ++ [((sq, ⟨er, vs, tx⟩), A2, c2)], by omega, by go_num, RowK.push (w := w2.alloc _) (q := ((sq, ⟨er, vs, tx⟩), A2, c2)) ⟨World.ownsRow.alloc HROW3.out.row _, fun x hx => World.ownsRow.alloc (HROW3.out.els x hx) _⟩ (by decide) (World.ownsRow.alloc HO2.out _) HR4.out HG4.out, by rw [HNX.out, List.map_append, HL.out]; rfl, (HB4.out.alloc hw2s _).grown HG4.out (by simp; omega) fun k hk => (HROW3.out.lt (.inl hk)).1⟩
      case measure => simp [intOf]; omega
    · clear hll
      obtain rfl : k = qs.length := by omega
      have HE := Lib.hid HL.out
      rw [List.take_length] at HE
      go_wp2
      go_ret
      exact ⟨_, l, rfl, HROW.out, HE.out, HB.out⟩
end Go.Proofs.Ytjhkfpemcplaaaa
