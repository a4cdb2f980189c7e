/-
  The walk of welcome. No statement of the seat is proved here.
-/
import Derived.Test.YtjhkfpemcplaaaaClI
namespace Go.Proofs.Ytjhkfpemcplaaaa
open Go.RowKit

set_option maxRecDepth 20000 in
set_option maxHeartbeats 1000000 in
/-- the packet of a command, its body the client's own -/
theorem cmd_own {base N : Nat} {p : Pa} {c : Cl} {w : World} (h : CA base w p c) (ok : c.Ok N) (hN : N ≤ 1152921504606846976) (k : Nat) (h1 : 1 ≤ k) (h2 : k ≤ c.iss) :
    Calls Try.prog 52 #[.pointer (some ⟨p.g, 0, none⟩), .int .u64 (k : Int)] w fun e w' => ∃ A cc, e = .returned (pkV (c.cmd k) A cc) ∧ OwnB 5 w' base (.slice A (c.cmd k).body.length cc) (c.cmd k).body ∧ Below w.heap.size w w' := by
  have hl : k - 1 < p.bl.length := by
    have e1 := congrArg List.length h.rows.bi
    rw [List.length_map] at e1
    have := ok.bl
    omega
  obtain ⟨q, hq⟩ : ∃ q, p.bl[k - 1]? = some q := ⟨_, List.getElem?_eq_getElem hl⟩
  have hbody : (c.cmd k).body = q.1 := by
    show c.bodies.getD (k - 1) [] = q.1
    rw [← h.rows.bi, List.getD_eq_getElem?_getD, List.getElem?_map, hq]
    rfl
  obtain ⟨gb, cb, hbv, _, hgb, hcell⟩ := h.rows.b.at_ kB_len hq
  have hx : w.cell? ⟨gb, k - 1, none⟩ = some (.slice q.2.1 q.1.length q.2.2) := by
    have := hcell 0 _ rfl
    simpa [kB, Kd.val] using this
  have hown := h.rows.b.els q (List.mem_of_getElem? hq)
  have HR : Hid (OwnB 5 w base (.slice q.2.1 q.1.length q.2.2) q.1) := Lib.hid hown
  have c4 : w.cell? ⟨p.g, 4, none⟩ = some (.slice (some ⟨gb, 0, none⟩) p.bl.length cb) := (h.cells 4).trans (by rw [← hbv]; rfl)
  have c7 : w.cell? ⟨p.g, 7, none⟩ = some (.int .u64 (c.tok : Int)) := h.cells 7
  have c11 : w.cell? ⟨p.g, 11, none⟩ = some (.int .u64 (c.rep : Int)) := h.cells 11
  have hg := h.blk.lt
  have hk : k ≤ 1152921504606846976 := by have := ok.is; omega
  have e1 : IntKind.u64.wrap ((k : Int) - 1) = ((k - 1 : Nat) : Int) := by simp [IntKind.wrap, IntKind.bits, IntKind.signed]; omega
  have e2 : ((k - 1 : Nat) : Int) < ((p.bl.length : Nat) : Int) := by omega
  have e3 : (0 : Int) ≤ ((k - 1 : Nat) : Int) := by omega
  have HE : Hid (pkV (c.cmd k) q.2.1 q.2.2 = .agg #[.int .i64 3, .int .u64 (c.tok : Int), .int .u64 (k : Int), .int .u64 (c.rep : Int), .slice q.2.1 q.1.length q.2.2]) := Lib.hid (by unfold pkV; rw [hbody]; rfl)
  have HBD := Lib.hid hbody
  have z39 : ∀ w : World, (zeroValue 39).run Try.prog w = .ok (.agg #[.int .i64 0, .int .u64 0, .int .u64 0, .int .u64 0, .slice none 0 0]) w := fun w => by kernel_rfl
  have k0 := (Below.refl w.heap.size w).alloc (Nat.le_refl _) (.cells #[.int .i64 0, .int .u64 0, .int .u64 0, .int .u64 0, .slice none 0 0] 39)
  have k4 := (k0.cell (p := ⟨p.g, 4, none⟩) hg).trans c4
  have k7 := (k0.cell (p := ⟨p.g, 7, none⟩) hg).trans c7
  have k11 := (k0.cell (p := ⟨p.g, 11, none⟩) hg).trans c11
  have kx := (k0.cell (p := ⟨gb, k - 1, none⟩) hgb).trans hx
  generalize c.tok = t at *
  generalize c.rep = rp at *
  generalize p.bl.length = bn at *
  generalize p.g = g at *
  generalize hk1 : k - 1 = j at *
  have hgn : w.heap.size ≠ g := by omega
  have hgn2 : w.heap.size ≠ gb := by omega
  clear h ok hown hq hcell hbv hbody k0 hl
  go_enter Try.func52, Try.ntmps52
  go_upto_region 1 with fail
  go_region_held3 (fun W => W.cell? ⟨g, 4, none⟩ = some (.slice (some ⟨gb, 0, none⟩) bn cb) ∧ W.cell? ⟨g, 7, none⟩ = some (.int .u64 (t : Int)) ∧ W.cell? ⟨g, 11, none⟩ = some (.int .u64 (rp : Int)) ∧ W.cell? ⟨gb, j, none⟩ = some (.slice q.2.1 q.1.length q.2.2))
    (go_keep)
    (fail)
  all_goals
    go_wp2
    have hb2 : Below w.heap.size w (w.alloc (.cells #[.int .i64 3, .int .u64 (t : Int), .int .u64 (k : Int), .int .u64 (rp : Int), .slice q.2.1 q.1.length q.2.2] 39)).drew := ((Below.refl _ _).alloc (Nat.le_refl _) _).drew
    exact bodyPost_ret (v := .agg #[.int .i64 3, .int .u64 (t : Int), .int .u64 (k : Int), .int .u64 (rp : Int), .slice q.2.1 q.1.length q.2.2]) (by simp [results, Try.results52, go_sem]) rfl ⟨q.2.1, q.2.2, by rw [HE.out], by rw [HBD.out]; exact own_same HR.out fun k hk => hb2.block k (World.ownsRow.lt HR.out k hk).2, hb2⟩
theorem PkRow.below {w w' : World} {base : Nat} {V : Value} {qs : List (Pk × Option Addr × Nat)} (h : PkRow w base V qs) (hb : Below w.heap.size w w') : PkRow w' base V qs :=
  ⟨own_same h.1 fun k hk => hb.block k (World.ownsRow.lt h.1 k hk).2, fun q hq => own_same (h.2 q hq) fun k hk => hb.block k (World.ownsRow.lt (h.2 q hq) k hk).2⟩
theorem CA.setTok {base : Nat} {w : World} {p : Pa} {c : Cl} (h : CA base w p c) (x : Nat) : Stp base w p 0 { c with tok := x } p (w.setCell ⟨p.g, 7, none⟩ (.int .u64 (x : Int))) :=
  ⟨h.turn (h.blk.set_ 7 _) (fun k hk hn => by rw [Below.heap_setCell _ _ _ _ hn]) rfl rfl rfl rfl, rfl, fun k hk => .inl hk, (Chg.refl (CF p) w).setCell (p := ⟨p.g, 7, none⟩) (fun _ => .inl rfl) _, by omega⟩
theorem CA.setGreet {base : Nat} {w : World} {p : Pa} {c : Cl} (h : CA base w p c) : Stp base w p 0 { c with greet := true, wait := 0 } p ((w.setCell ⟨p.g, 9, none⟩ (.bool true)).setCell ⟨p.g, 13, none⟩ (.int .i64 0)) :=
  ⟨h.turn ((h.blk.set_ 9 _).set_ 13 _) (fun k hk hn => by rw [Below.heap_setCell _ _ _ _ hn, Below.heap_setCell _ _ _ _ hn]) rfl rfl rfl rfl, rfl, fun k hk => .inl hk, ((Chg.refl (CF p) w).setCell (p := ⟨p.g, 9, none⟩) (fun _ => .inl rfl) _).setCell (p := ⟨p.g, 13, none⟩) (fun _ => .inl rfl) _, by omega⟩
set_option maxRecDepth 20000 in
set_option maxHeartbeats 4000000 in
theorem welcome_any {base N : Nat} {p : Pa} {c : Cl} {w : World} (q : Pk) (A : Option Addr) (cc : Nat) (h : CA base w p c) (ok : c.Ok N) (hN : N ≤ 1152921504606846976) (hr : RdB w w.heap.size A q.body.length q.body) (hqt : q.tok < 18446744073709551616) :
    Calls Try.prog 77 #[.pointer (some ⟨p.g, 0, none⟩), pkV q A cc] w (MetP base w p (welF c q)) := by
  have hB := Bx.start (cc := cc) hr
  have hS1 := (Stp.refl h 0).below hB.old
  obtain ⟨w1, hw1⟩ : ∃ w1, w.alloc (.cells (pkC q A cc) 39) = w1 := ⟨_, rfl⟩
  rw [hw1] at hB hS1
  have HB := Lib.hid hB
  have HS1 := Lib.hid hS1
  have x0 : w1.cell? ⟨w.heap.size, 0, none⟩ = some (.int .i64 (q.kind : Int)) := hB.blk.cell 0
  have x1 : w1.cell? ⟨w.heap.size, 1, none⟩ = some (.int .u64 (q.tok : Int)) := hB.blk.cell 1
  have x2 : w1.cell? ⟨w.heap.size, 2, none⟩ = some (.int .u64 (q.seq : Int)) := hB.blk.cell 2
  have x3 : w1.cell? ⟨w.heap.size, 3, none⟩ = some (.int .u64 (q.ack : Int)) := hB.blk.cell 3
  have x4 : w1.cell? ⟨w.heap.size, 4, none⟩ = some (.slice A q.body.length cc) := hB.blk.cell 4
  have HO := Lib.hid (ours_any hS1.ca q A cc)
  have HOB : Hid ((decide (c.tok ≠ 0) && decide (q.tok = c.tok)) = oursB c q) := Lib.hid rfl
  rw [HOB.out] at HO
  have k7 : w1.cell? ⟨p.g, 7, none⟩ = some (.int .u64 (c.tok : Int)) := hS1.ca.cells 7
  have hg1 := hS1.ca.blk.lt
  have hwb := hB.blk.lt
  have HBX := Lib.hid hB.blk
  unfold pkV at HO ⊢
  unfold pkC at hw1
  have HOK := Lib.hid ok
  clear h ok hr hB hS1
  go_enter Try.func77, Try.ntmps77
  go_upto_region 1 with fail
  by_cases hbad : q.tok = 0 ∨ (c.tok ≠ 0 ∧ oursB c q = false)
  · have HF : Hid (welF c q = ([], c)) := Lib.hid (by unfold welF; rw [if_pos hbad])
    have hcs : q.tok = 0 ∨ (q.tok ≠ 0 ∧ c.tok ≠ 0 ∧ oursB c q = false) := by
      by_cases h0 : q.tok = 0
      · exact .inl h0
      · exact .inr ⟨h0, hbad.resolve_left h0⟩
    clear hbad
    rcases hcs with h0 | ⟨h1, h2, h3⟩
    · have d1 : ((q.tok : Int) == 0) = true := by simp [h0]
      clear h0
      go_wp2
      go_ret
      rw [HF.out]
      exact ⟨_, [], p, rfl, HS1.out, Frs.nil _ _ _⟩
    · have d1 : ((q.tok : Int) == 0) = false := by simp; omega
      have d2 : ((c.tok : Int) != 0) = true := by simp; omega
      rw [h3] at HO
      clear h1 h2
      go_wp2_with (go_at_call 91; refine HO.out.mono ?_; rintro e w2 ⟨rfl, hb2⟩; have HB2 := Lib.hid hb2; clear hb2)
      go_ret
      rw [HF.out]
      exact ⟨_, [], p, rfl, HS1.out.below HB2.out, Frs.nil _ _ _⟩
  · have HNB := Lib.hid hbad
    go_cut [23] (fun v wx => v = .bool false ∧ Below w1.heap.size w1 wx)
    case first =>
      have h0 : q.tok ≠ 0 := fun h => hbad (.inl h)
      have d1 : ((q.tok : Int) == 0) = false := by simp; omega
      by_cases h2 : c.tok = 0
      · have d2 : ((c.tok : Int) != 0) = false := by simp [h2]
        clear hbad h0 h2
        go_wp2
        go_meet
        exact ⟨rfl, Below.refl _ _⟩
      · have d2 : ((c.tok : Int) != 0) = true := by simp; omega
        have h3 : oursB c q = true := by
          cases h : oursB c q with
          | true => rfl
          | false => exact absurd (.inr ⟨h2, h⟩) hbad
        rw [h3] at HO
        clear hbad h0 h2
        go_wp2_with (go_at_call 91; refine HO.out.mono ?_; rintro e w2 ⟨rfl, hb2⟩; have HB2 := Lib.hid hb2; clear hb2)
        go_meet
        exact ⟨rfl, HB2.out⟩
    case rest =>
      obtain ⟨rfl, hb2⟩ := hcut
      have hS2 := HS1.out.below hb2
      have hbx2 := HBX.out.below hb2 HBX.out.lt
      have HS2 := Lib.hid hS2
      have y1 : wc.cell? ⟨w.heap.size, 1, none⟩ = some (.int .u64 (q.tok : Int)) := hbx2.cell 1
      have y7 : wc.cell? ⟨p.g, 7, none⟩ = some (.int .u64 (c.tok : Int)) := hS2.ca.cells 7
      have fz7 := hS2.ca.blk.frozen 7
      have hgc := hS2.ca.blk.lt
      have hwc := hbx2.lt
      clear x0 x1 x2 x3 x4 k7 hg1 hwb HO HOB hw1 hbad hb2 hS2 hbx2 HBX
      go_upto_region 4 with fail
      have hS3 := HS2.out.trans (HS2.out.ca.setTok q.tok)
      generalize wc.setCell ⟨p.g, 7, none⟩ (.int .u64 (q.tok : Int)) = w3 at hS3 ⊢
      have HS3 := Lib.hid hS3
      have z9 : w3.cell? ⟨p.g, 9, none⟩ = some (.bool c.greet) := hS3.ca.cells 9
      have z11 : w3.cell? ⟨p.g, 11, none⟩ = some (.int .u64 (c.rep : Int)) := hS3.ca.cells 11
      have z13 : w3.cell? ⟨p.g, 13, none⟩ = some (.int .i64 (c.wait : Int)) := hS3.ca.cells 13
      have fz9 := hS3.ca.blk.frozen 9
      have fz13 := hS3.ca.blk.frozen 13
      have hg3 := hS3.ca.blk.lt
      clear y1 y7 fz7 hgc hwc hS3 HS2
      cases hgr : c.greet with
      | true =>
        have HF : Hid (welF c q = ([], { c with tok := q.tok })) := Lib.hid (by unfold welF; rw [if_neg HNB.out, if_pos hgr])
        rw [hgr] at z9
        go_wp2
        go_ret
        rw [HF.out]
        exact ⟨_, [], p, rfl, HS3.out, Frs.nil _ _ _⟩
      | false =>
        rw [hgr] at z9
        have HF : Hid (welF c q = ((List.range (c.last - c.rep)).map fun i => ({ c with tok := q.tok, greet := true, wait := 0 } : Cl).cmd (c.rep + 1 + i), { c with tok := q.tok, greet := true, wait := 0 })) := Lib.hid (by unfold welF; rw [if_neg HNB.out, if_neg (by rw [hgr]; decide)])
        go_upto_region 7 with fail
        have hS4 := HS3.out.trans HS3.out.ca.setGreet
        generalize (w3.setCell ⟨p.g, 9, none⟩ (.bool true)).setCell ⟨p.g, 13, none⟩ (.int .i64 0) = w4 at hS4 ⊢
        obtain ⟨c4, hc4⟩ : ∃ c4 : Cl, ({ c with tok := q.tok, greet := true, wait := 0 } : Cl) = c4 := ⟨_, rfl⟩
        have hok4 : ({ c with tok := q.tok, greet := true, wait := 0 } : Cl).Ok N := ⟨HOK.out.no, HOK.out.wi, HOK.out.pa, HOK.out.bl, HOK.out.bs, HOK.out.rp, HOK.out.rl, HOK.out.is, hqt, HOK.out.ev, HOK.out.el, Nat.zero_le _, HOK.out.kp⟩
        have hrep : c4.rep = c.rep := by rw [← hc4]
        have hiss : c4.iss = c.iss := by rw [← hc4]
        have hwin : c4.win = c.win := by rw [← hc4]
        have hl4 : c.last = min (c4.rep + c4.win) c4.iss := by rw [hrep, hwin, hiss]; rfl
        have hS4' : Stp base w p 0 c4 p w4 := by rw [← hc4]; exact hS4
        rw [hc4] at hok4 HF
        have HS4 := Lib.hid hS4'
        have HO4 := Lib.hid hok4
        rw [hl4, ← hrep] at HF
        have b1 := hok4.rp
        have b2 := hok4.is
        have b3 := hok4.wi
        have z11' : w4.cell? ⟨p.g, 11, none⟩ = some (.int .u64 (c4.rep : Int)) := hS4'.ca.cells 11
        have HSZ : Hid (w.heap.size ≤ w4.heap.size) := Lib.hid hS4'.chg.size
        have HLT := Lib.hid fun k (hk : CF p k) => hS4'.ca.lt hk
        clear hS4 hS4' hok4 hc4 hrep hiss hwin hl4 z9 z11 z13 fz9 fz13 hg3 HS3 hgr HOK HNB
        obtain ⟨lst, hlst⟩ : ∃ lst, min (c4.rep + c4.win) c4.iss = lst := ⟨_, rfl⟩
        have HLS := Lib.hid hlst
        rw [hlst] at HF
        have l0 : lst ≤ c4.rep + 16 := by omega
        have l00 : lst ≤ c4.iss := by omega
        obtain ⟨rp, hrp⟩ : ∃ rp, c4.rep = rp := ⟨_, rfl⟩
        rw [hrp] at z11' b1 l0 HF
        have HRP := Lib.hid hrp
        clear hlst hrp
        have e1 : IntKind.u64.wrap ((rp : Int) + 1) = (rp : Int) + 1 := by simp [IntKind.wrap, IntKind.bits, IntKind.signed]; omega
        obtain ⟨i0, hi, hz0, hz1, hz2⟩ := info_parts info39
        go_wp2
        go_loopw [5, 6] (fun V k wr => ∃ (i : Nat) (qs : List (Pk × Option Addr × Nat)), i ≤ lst - rp ∧ k = .int .u64 ((rp : Int) + 1 + (i : Int)) ∧ PkRow wr base V qs ∧ wr.ownsRow w4.heap.size 39 5 V qs.length (qs.flatMap pqCells) ∧ qs.map (·.1) = (List.range i).map (fun i => c4.cmd (rp + 1 + i)) ∧ Below w4.heap.size w4 wr) (fun _ k _ => lst + 1 - (intOf k).toNat)
        case atStart => exact ⟨0, [], Nat.zero_le _, rfl, PkRow.nil _ _, World.ownsRow_nil _ _ _ _, rfl, Below.refl _ _⟩
        case round =>
          obtain ⟨i, qs, hi9, rfl, hrow, hown, hqs, hb⟩ := hrel
          have HROW := Lib.hid hrow
          have HOWN := Lib.hid hown
          have HQS := Lib.hid hqs
          have HB := Lib.hid hb
          have hSr := HS4.out.below hb
          have HSR := Lib.hid hSr
          have hws := hb.size
          have HLA := Lib.hid (last_any p.g c4.rep c4.win c4.iss wr (hSr.ca.cells 1) (hSr.ca.cells 10) (hSr.ca.cells 11) b3.2 (by have := HRP.out; omega))
          rw [HLS.out] at HLA
          have hql : qs.length = i := by
            have := congrArg List.length hqs
            simpa using this
          obtain ⟨Av, cv, rfl, _, _⟩ := own_formL hown
          clear hrow hown hqs hb hSr
          by_cases hlt : i < lst - rp
          · have l1 : (rp : Int) + 1 + (i : Int) ≤ (lst : Int) := by omega
            have e4 : ((rp + 1 + i : Nat) : Int) = (rp : Int) + 1 + (i : Int) := by push_cast; rfl
            have HCM := Lib.hid fun m => cmd_own (HSR.out.ca.drewN m) HO4.out hN (rp + 1 + i) (by omega) (by omega)
            rw [e4] at HCM
            have e5 : IntKind.u64.wrap ((rp : Int) + 1 + (i : Int) + 1) = (rp : Int) + 1 + (i : Int) + 1 := by simp [IntKind.wrap, IntKind.bits, IntKind.signed]; omega
            have HNX : Hid ((List.range (i + 1)).map (fun i => c4.cmd (rp + 1 + i)) = (List.range i).map (fun i => c4.cmd (rp + 1 + i)) ++ [c4.cmd (rp + 1 + i)]) := Lib.hid (by rw [List.range_succ]; simp)
            have HQL := Lib.hid hql
            have hql2 : qs.length ≤ 16 := by omega
            generalize c4.cmd (rp + 1 + i) = ck at *
            unfold pkV at HCM
            clear hql hi9
            go_upto_region 11 with (go_at_call 51; refine HLA.out.mono ?_; rintro e w5 ⟨rfl, m5, rfl⟩)
            go_upto_region 10 with (first
              | (go_at_call 52; refine (HCM.out _).mono ?_; rintro e w6 ⟨A5, c5, rfl, ho5, hb5⟩; have HO5 := Lib.hid ho5; have HB5 : Hid (Below wr.heap.size wr w6) := Lib.hid ⟨hb5.os, hb5.tape, hb5.output, hb5.size, hb5.block⟩; clear ho5 hb5; have HROW6 := Lib.hid (HROW.out.below HB5.out); have HOWN6 := Lib.hid (own_same HOWN.out fun k hk => HB5.out.block k (World.ownsRow.lt HOWN.out k hk).2); have hw6 : wr.heap.size ≤ w6.heap.size := HB5.out.size)
              | (at_builtin; refine wpList_append_any _ rfl (.tmp 55) (.tmp 59) 119 rfl w4.heap.size 39 i0 _ 5 56 Try.underlying119 hi hz0 hz1 hz2 rfl (by decide) (.slice Av qs.length cv) qs.length (qs.flatMap pqCells) rfl (World.ownsRow.alloc HOWN6.out _) _ _ 1 1 [.int .i64 (ck.kind : Int), .int .u64 (ck.tok : Int), .int .u64 (ck.seq : Int), .int .u64 (ck.ack : Int), .slice A5 ck.body.length c5] rfl (read_one _ [.int .i64 (ck.kind : Int), .int .u64 (ck.tok : Int), .int .u64 (ck.seq : Int), .int .u64 (ck.ack : Int), .slice A5 ck.body.length c5] 39) (by simp [Value.oneCell']) (by simp only [maxLen]; omega) (by omega) (by simp; omega) ?_; intro v7 w7 hr7 hg7 hv7; have HR7 := Lib.hid hr7; have HG7 := Lib.hid hg7; clear hr7 hg7 hv7))
            go_wp2
            go_roundw
            case rel => exact ⟨i + 1, qs ++ [(ck, A5, c5)], by omega, congrArg (Value.int .u64) (by push_cast; omega), PkRow.snoc (w := w6.alloc _) (HROW6.out.below ((Below.refl _ _).alloc (Nat.le_refl _) _)) (q := (ck, A5, c5)) (World.ownsRow.alloc HO5.out _) HG7.out (own_base (by simpa [pqCells] using HR7.out) (by have := (HLT.out p.g (.inl rfl)); omega)), by simpa [pqCells] using HR7.out, by rw [HNX.out, List.map_append, HQS.out]; rfl, (HB.out.trans (HB5.out.mono hws)).alloc (by omega) _ |>.grown HG7.out (by simp; omega) fun k hk => (World.ownsRow.lt HOWN6.out k hk).1⟩
            case measure => simp [intOf]; omega
          · obtain rfl : i = lst - rp := by omega
            have l1 : ¬ (rp : Int) + 1 + ((lst - rp : Nat) : Int) ≤ (lst : Int) := by omega
            have HFR := Lib.hid fun m => frames_any Av qs.length cv qs (wr.drewN m) (PkRow.prd (n := qs.length) (c := cv) (show PkRow (wr.drewN m) base _ qs from HROW.out)).2 rfl (by omega) (fun x hx => by
              have h1 : x.1 ∈ qs.map (·.1) := List.mem_map_of_mem hx
              rw [HQS.out] at h1
              obtain ⟨j, hj, e⟩ := List.mem_map.1 h1
              have := List.mem_range.1 hj
              rw [← e]
              exact cmd_ok HO4.out hN (by omega))
            have HQM : Hid ((qs.map fun q => frm q.1) = ((List.range (lst - rp)).map fun i => c4.cmd (rp + 1 + i)).map frm) := Lib.hid (by rw [← HQS.out, List.map_map]; rfl)
            clear hql hi9
            go_wp2_with (first
              | (go_at_call 51; refine HLA.out.mono ?_; rintro e w5 ⟨rfl, m5, rfl⟩)
              | (go_at_call 48; refine (HFR.out _).mono ?_; rintro e w6 ⟨v, l, rfl, hr, hl, hb6⟩; have HR := Lib.hid hr; have HL := Lib.hid hl; have HB6 : Hid (Below wr.heap.size wr w6) := Lib.hid ⟨hb6.os, hb6.tape, hb6.output, hb6.size, hb6.block⟩; clear hr hl hb6))
            go_ret
            rw [HF.out]
            exact HSR.out.ans (Nat.le_trans HSZ.out hws) (Nat.le_refl _) rfl HR.out (by rw [HL.out]; exact HQM.out) HB6.out
end Go.Proofs.Ytjhkfpemcplaaaa
