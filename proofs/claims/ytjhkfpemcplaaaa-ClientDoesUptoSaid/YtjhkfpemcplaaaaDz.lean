/-
  Merged: DlJ, DlK, DlL, DlM, DlN, DlO.
-/
import Derived.Test.YtjhkfpemcplaaaaDy
import Derived.Test.YtjhkfpemcplaaaaClL
namespace Go.Proofs.Ytjhkfpemcplaaaa
open Go.RowKit

def RMetP (base : Nat) (w : World) (p : Pa) (r : List Pk × Cl) (e : Ending) (w' : World) : Prop := AnsE base w p 0 r.2 r.1 (fun v => v) e w'
theorem CD.setOver {base : Nat} {w : World} {p : Pa} {c : Cl} (h : CD base w p c) (z : Int) : StpD base w p 0 { c with over := true, reason := z } p ((w.setCell ⟨p.g, 10, none⟩ (.bool true)).setCell ⟨p.g, 11, none⟩ (.int .i64 z)) := by
  have hc : Chg (fun k => k = p.g) w ((w.setCell ⟨p.g, 10, none⟩ (.bool true)).setCell ⟨p.g, 11, none⟩ (.int .i64 z)) := ((Chg.refl (fun k => k = p.g) w).setCell (p := ⟨p.g, 10, none⟩) (fun _ => rfl) _).setCell (p := ⟨p.g, 11, none⟩) (fun _ => rfl) _
  exact ⟨h.turn ((h.blk.set_ 10 _).set_ 11 _) hc rfl rfl rfl rfl, rfl, fun k hk => .inl hk, fun k hk => .inl hk, hc.mono fun k _ e => .inl e, by omega⟩
set_option maxRecDepth 20000 in
set_option maxHeartbeats 4000000 in
theorem rpack_other {base : Nat} {p : Pa} {c : Cl} {w : World} (q : Pk) (A : Option Addr) (cc : Nat) (h : CD base w p c) (hr : RdB w w.heap.size A q.body.length q.body) (hk : q.kind ≠ 2 ∧ q.kind ≠ 4 ∧ q.kind ≠ 5 ∧ q.kind ≠ 6) :
    Calls Try.prog 84 #[.pointer (some ⟨p.g, 0, none⟩), pkV q A cc] w (RMetP base w p (packF c q)) := by
  have HF : Hid (packF c q = ([], c)) := Lib.hid (by unfold packF; rw [if_neg hk.1, if_neg hk.2.1, if_neg hk.2.2.1, if_neg hk.2.2.2])
  have hB := Bx.start (cc := cc) hr
  have hS1 := (StpD.refl h 0).below hB.old
  obtain ⟨w1, hw1⟩ : ∃ w1, w.alloc (.cells (pkC q A cc) 39) = w1 := ⟨_, rfl⟩
  rw [hw1] at hB hS1
  have HB := Lib.hid hB
  have HS1 := Lib.hid hS1
  have x0 : w1.cell? ⟨w.heap.size, 0, none⟩ = some (.int .i64 (q.kind : Int)) := hB.blk.cell 0
  have x1 : w1.cell? ⟨w.heap.size, 1, none⟩ = some (.int .u64 (q.tok : Int)) := hB.blk.cell 1
  have x2 : w1.cell? ⟨w.heap.size, 2, none⟩ = some (.int .u64 (q.seq : Int)) := hB.blk.cell 2
  have x4 : w1.cell? ⟨w.heap.size, 4, none⟩ = some (.slice A q.body.length cc) := hB.blk.cell 4
  have k3 : w1.cell? ⟨p.g, 3, none⟩ = some (.int .u64 (c.tok : Int)) := hS1.cd.blk.cell 3
  have hg1 := hS1.cd.blk.lt
  have hwb := hB.blk.lt
  unfold pkV
  unfold pkC at hw1
  have d2 : ((q.kind : Int) == 2) = false := by simp; omega
  have d4 : ((q.kind : Int) == 4) = false := by simp; omega
  have d5 : ((q.kind : Int) == 5) = false := by simp; omega
  have d6 : ((q.kind : Int) == 6) = false := by simp; omega
  clear h hr hB hS1 hk
  go_enter Try.func84, Try.ntmps84
  go_upto_region 1 with fail
  go_quiet (fail)
  go_wp2
  go_ret
  rw [HF.out]
  exact ⟨_, [], p, rfl, HS1.out.below (below_drewN (Below.refl _ _) _), FrsD.nil _ _ _⟩
set_option maxRecDepth 20000 in
set_option maxHeartbeats 4000000 in
theorem rpack_ref {base : Nat} {p : Pa} {c : Cl} {w : World} (q : Pk) (A : Option Addr) (cc : Nat) (h : CD base w p c) (hr : RdB w w.heap.size A q.body.length q.body) (hk : q.kind = 6) :
    Calls Try.prog 84 #[.pointer (some ⟨p.g, 0, none⟩), pkV q A cc] w (RMetP base w p (packF c q)) := by
  have HP : Hid (packF c q = refF c q) := Lib.hid (by unfold packF; rw [if_neg (by omega), if_neg (by omega), if_neg (by omega), if_pos hk])
  rw [HP.out]
  have hB := Bx.start (cc := cc) hr
  have hS1 := (StpD.refl h 0).below hB.old
  obtain ⟨w1, hw1⟩ : ∃ w1, w.alloc (.cells (pkC q A cc) 39) = w1 := ⟨_, rfl⟩
  rw [hw1] at hB hS1
  have HB := Lib.hid hB
  have HS1 := Lib.hid hS1
  have x0 : w1.cell? ⟨w.heap.size, 0, none⟩ = some (.int .i64 (q.kind : Int)) := hB.blk.cell 0
  have x1 : w1.cell? ⟨w.heap.size, 1, none⟩ = some (.int .u64 (q.tok : Int)) := hB.blk.cell 1
  have x2 : w1.cell? ⟨w.heap.size, 2, none⟩ = some (.int .u64 (q.seq : Int)) := hB.blk.cell 2
  have x4 : w1.cell? ⟨w.heap.size, 4, none⟩ = some (.slice A q.body.length cc) := hB.blk.cell 4
  have k3 : w1.cell? ⟨p.g, 3, none⟩ = some (.int .u64 (c.tok : Int)) := hS1.cd.blk.cell 3
  have hg1 := hS1.cd.blk.lt
  have hwb := hB.blk.lt
  unfold pkV
  unfold pkC at hw1
  have k10 : w1.cell? ⟨p.g, 10, none⟩ = some (.bool c.over) := hS1.cd.blk.cell 10
  have k11 : w1.cell? ⟨p.g, 11, none⟩ = some (.int .i64 c.reason) := hS1.cd.blk.cell 11
  have f10 := hS1.cd.blk.frozen 10
  have f11 := hS1.cd.blk.frozen 11
  obtain ⟨bl, hbl⟩ : ∃ bl, q.body.length = bl := ⟨_, rfl⟩
  rw [hbl] at hw1 x4 ⊢
  have HBL := Lib.hid hbl
  have e6 : (q.kind : Int) = 6 := by omega
  rw [e6] at hw1 x0 ⊢
  clear h hr hbl hB hS1 hk e6
  go_enter Try.func84, Try.ntmps84
  go_upto_region 1 with fail
  by_cases ht : q.tok = c.tok
  · by_cases h1 : bl = 1
    · have HF : Hid (refF c q = ([], { c with over := true, reason := ((q.body.getD 0 0).toNat : Int) })) := Lib.hid (by unfold refF; rw [if_pos ⟨ht, by rw [HBL.out, h1]⟩])
      have hrb := HB.out.rd
      rw [HBL.out, h1] at hrb
      obtain ⟨ad, xb, rfl, hx, hxb, cx⟩ := Reads.byte hrb (show 0 < 1 by omega)
      have hbx : q.body.getD 0 0 = xb := by rw [List.getD_eq_getElem?_getD, hxb]; rfl
      rw [hbx] at HF
      have d1 : ((q.tok : Int) == (c.tok : Int)) = true := by simp [ht]
      have hx8 := xb.toNat_lt
      have e1 : IntKind.i64.wrap (xb.toNat : Int) = (xb.toNat : Int) := by rw [IntKind.wrap_i64]; omega
      have cx2 : w1.cell? ad = some (.int .u8 (xb.toNat : Int)) := by simpa [Addr.add] using cx
      have hadg : ad ≠ ⟨p.g, 10, none⟩ := fun e => by
        have := cx2
        rw [e, k10] at this
        cases this
      have cx3 : ∀ m u, ((w1.drewN m).setCell ⟨p.g, 10, none⟩ u).cell? ad = some (.int .u8 (xb.toNat : Int)) := fun m u => (World.cell?_setCell_other (w1.drewN m) _ ad u (fun e => hadg e.symm)).trans cx2
      subst h1
      clear hrb hx hxb hbx ht cx
      go_quiet (fail)
      go_wp2
      go_ret
      rw [HF.out]
      exact ⟨_, [], p, rfl, (HS1.out.below (below_drewN (Below.refl _ _) _)).trans ((HS1.out.cd.below (below_drewN (Below.refl _ _) _)).setOver _), FrsD.nil _ _ _⟩
    · have HF : Hid (refF c q = ([], c)) := Lib.hid (by unfold refF; rw [if_neg (by rintro ⟨_, h⟩; rw [HBL.out] at h; exact h1 h)])
      have d1 : ((q.tok : Int) == (c.tok : Int)) = true := by simp [ht]
      have d2 : ((bl : Int) == 1) = false := by simp; omega
      clear ht h1
      go_quiet (fail)
      go_wp2
      go_ret
      rw [HF.out]
      exact ⟨_, [], p, rfl, HS1.out.below (below_drewN (Below.refl _ _) _), FrsD.nil _ _ _⟩
  · have HF : Hid (refF c q = ([], c)) := Lib.hid (by unfold refF; rw [if_neg (by rintro ⟨h, _⟩; exact ht h)])
    have d1 : ((q.tok : Int) == (c.tok : Int)) = false := by simp; omega
    clear ht
    go_quiet (fail)
    go_wp2
    go_ret
    rw [HF.out]
    exact ⟨_, [], p, rfl, HS1.out.below (below_drewN (Below.refl _ _) _), FrsD.nil _ _ _⟩
end Go.Proofs.Ytjhkfpemcplaaaa
namespace Go.Proofs.Ytjhkfpemcplaaaa
open Go.RowKit

theorem CD.setTok {base : Nat} {w : World} {p : Pa} {c : Cl} (h : CD base w p c) (t : Nat) : StpD base w p 0 { c with tok := t } p (w.setCell ⟨p.g, 3, none⟩ (.int .u64 (t : Int))) := by
  have hc : Chg (fun k => k = p.g) w (w.setCell ⟨p.g, 3, none⟩ (.int .u64 (t : Int))) := (Chg.refl (fun k => k = p.g) w).setCell (p := ⟨p.g, 3, none⟩) (fun _ => rfl) _
  exact ⟨h.turn (h.blk.set_ 3 _) hc rfl rfl rfl rfl, rfl, fun k hk => .inl hk, fun k hk => .inl hk, hc.mono fun k _ e => .inl e, by omega⟩
theorem CD.setGreet {base : Nat} {w : World} {p : Pa} {c : Cl} (h : CD base w p c) : StpD base w p 0 { c with greet := true, wait := 0 } p ((w.setCell ⟨p.g, 5, none⟩ (.bool true)).setCell ⟨p.g, 9, none⟩ (.int .i64 0)) := by
  have hc : Chg (fun k => k = p.g) w ((w.setCell ⟨p.g, 5, none⟩ (.bool true)).setCell ⟨p.g, 9, none⟩ (.int .i64 0)) := ((Chg.refl (fun k => k = p.g) w).setCell (p := ⟨p.g, 5, none⟩) (fun _ => rfl) _).setCell (p := ⟨p.g, 9, none⟩) (fun _ => rfl) _
  exact ⟨h.turn ((h.blk.set_ 5 _).set_ 9 _) hc rfl rfl rfl rfl, rfl, fun k hk => .inl hk, fun k hk => .inl hk, hc.mono fun k _ e => .inl e, by omega⟩
set_option maxRecDepth 20000 in
set_option maxHeartbeats 4000000 in
theorem rpack_wel {base N : Nat} {p : Pa} {c : Cl} {w : World} (q : Pk) (A : Option Addr) (cc : Nat) (h : CD base w p c) (ok : c.Ok N) (hN : N ≤ 1152921504606846976) (hr : RdB w w.heap.size A q.body.length q.body) (hk : q.kind = 2) (hqt : q.tok < 18446744073709551616) :
    Calls Try.prog 84 #[.pointer (some ⟨p.g, 0, none⟩), pkV q A cc] w (RMetP base w p (packF c q)) := by
  have HP : Hid (packF c q = welF c q) := Lib.hid (by unfold packF; rw [if_pos hk])
  rw [HP.out]
  have hB := Bx.start (cc := cc) hr
  have hS1 := (StpD.refl h 0).below hB.old
  obtain ⟨w1, hw1⟩ : ∃ w1, w.alloc (.cells (pkC q A cc) 39) = w1 := ⟨_, rfl⟩
  rw [hw1] at hB hS1
  have HS1 := Lib.hid hS1
  have x0 : w1.cell? ⟨w.heap.size, 0, none⟩ = some (.int .i64 (q.kind : Int)) := hB.blk.cell 0
  have x1 : w1.cell? ⟨w.heap.size, 1, none⟩ = some (.int .u64 (q.tok : Int)) := hB.blk.cell 1
  have k3 : w1.cell? ⟨p.g, 3, none⟩ = some (.int .u64 (c.tok : Int)) := hS1.cd.blk.cell 3
  have k5 : w1.cell? ⟨p.g, 5, none⟩ = some (.bool c.greet) := hS1.cd.blk.cell 5
  have k6 : w1.cell? ⟨p.g, 6, none⟩ = some (.int .u64 (c.iss : Int)) := hS1.cd.blk.cell 6
  have k7 : w1.cell? ⟨p.g, 7, none⟩ = some (.int .u64 (c.rep : Int)) := hS1.cd.blk.cell 7
  have k9 : w1.cell? ⟨p.g, 9, none⟩ = some (.int .i64 (c.wait : Int)) := hS1.cd.blk.cell 9
  have f3 := hS1.cd.blk.frozen 3
  have f5 := hS1.cd.blk.frozen 5
  have f9 := hS1.cd.blk.frozen 9
  have hg1 := hS1.cd.blk.lt
  have hgw : p.g < w.heap.size := h.blk.lt
  have hwb := hB.blk.lt
  have hgn : w.heap.size ≠ p.g := by omega
  unfold pkV
  unfold pkC at hw1
  have e2 : (q.kind : Int) = 2 := by omega
  rw [e2] at hw1 x0 ⊢
  have HOK := Lib.hid ok
  clear h hr hB hS1 hk e2 ok
  go_enter Try.func84, Try.ntmps84
  go_upto_region 1 with fail
  have hcase : q.tok = 0 ∨ (q.tok ≠ 0 ∧ c.tok ≠ 0 ∧ q.tok ≠ c.tok) ∨ (q.tok ≠ 0 ∧ (c.tok = 0 ∨ q.tok = c.tok)) := by omega
  rcases hcase with h0 | ⟨h0, h1, h2⟩ | ⟨h0, h1⟩
  · as_aux_lemma =>
    have HF : Hid (welF c q = ([], c)) := Lib.hid (by unfold welF; rw [if_pos (.inl h0)])
    have d1 : ((q.tok : Int) == 0) = true := by simp [h0]
    clear h0
    go_quiet (fail)
    go_wp2
    go_ret
    rw [HF.out]
    exact ⟨_, [], p, rfl, HS1.out.below (below_drewN (Below.refl _ _) _), FrsD.nil _ _ _⟩
  · as_aux_lemma =>
    have HF : Hid (welF c q = ([], c)) := Lib.hid (by unfold welF; rw [if_pos (.inr ⟨h1, by simp [oursB, h2]⟩)])
    have d1 : ((q.tok : Int) == 0) = false := by simp; omega
    have d2 : ((c.tok : Int) != 0) = true := by simp; omega
    have d3 : ((q.tok : Int) == (c.tok : Int)) = false := by simp; omega
    clear h0 h1 h2
    go_quiet (fail)
    go_wp2
    go_ret
    rw [HF.out]
    exact ⟨_, [], p, rfl, HS1.out.below (below_drewN (Below.refl _ _) _), FrsD.nil _ _ _⟩
  · have hno : ¬ (q.tok = 0 ∨ (c.tok ≠ 0 ∧ oursB c q = false)) := by
      rintro (h | ⟨h2, h3⟩)
      · exact h0 h
      · rcases h1 with h1 | h1
        · exact h2 h1
        · simp [oursB, h1, h2] at h3
    have HNO := Lib.hid hno
    have d1 : ((q.tok : Int) == 0) = false := by simp; omega
    clear hno h0
    go_quiet (fail)
    have HS2 := Lib.hid (HS1.out.below (below_drewN (Below.refl _ _) nq))
    have y0 : (w1.drewN nq).cell? ⟨w.heap.size, 0, none⟩ = some (.int .i64 2) := x0
    have y1 : (w1.drewN nq).cell? ⟨w.heap.size, 1, none⟩ = some (.int .u64 (q.tok : Int)) := x1
    have hwb2 : w.heap.size < (w1.drewN nq).heap.size := hwb
    clear x0 x1 k3 k5 k6 k7 k9 f3 f5 f9 hg1 hwb HS1 hw1
    generalize w1.drewN nq = w2 at *
    have k3 : w2.cell? ⟨p.g, 3, none⟩ = some (.int .u64 (c.tok : Int)) := HS2.out.cd.blk.cell 3
    have f3 := HS2.out.cd.blk.frozen 3
    have hg2 := HS2.out.cd.blk.lt
    have hcut4 : ((q.tok : Int) == (c.tok : Int)) = true ∨ c.tok = 0 := by
      rcases h1 with h1 | h1
      · exact .inr h1
      · exact .inl (by simp [h1])
    go_upto_region 4 with fail
    go_cut [37] (fun v wx => v = .bool false ∧ w2 = wx)
    case first => as_aux_lemma =>
      by_cases hc0 : c.tok = 0
      · have d2 : ((c.tok : Int) != 0) = false := by simp [hc0]
        clear hcut4 h1 hc0
        go_wp2
        go_meet
        exact ⟨rfl, rfl⟩
      · have d2 : ((c.tok : Int) != 0) = true := by simp; omega
        have d3 : ((q.tok : Int) == (c.tok : Int)) = true := by
          rcases hcut4 with h | h
          · exact h
          · exact absurd h hc0
        clear hcut4 h1 hc0
        go_wp2
        go_meet
        exact ⟨rfl, rfl⟩
    case rest => as_aux_lemma =>
    obtain ⟨rfl, rfl⟩ := hcut
    clear hcut4 h1 d1
    go_upto_region 7 with fail
    have hS3 := HS2.out.trans (HS2.out.cd.setTok q.tok)
    generalize w2.setCell ⟨p.g, 3, none⟩ (.int .u64 (q.tok : Int)) = w3 at *
    have HS3 := Lib.hid hS3
    clear hS3 y0 y1 k3 f3 HS2
    have k5 : w3.cell? ⟨p.g, 5, none⟩ = some (.bool c.greet) := HS3.out.cd.blk.cell 5
    have k9 : w3.cell? ⟨p.g, 9, none⟩ = some (.int .i64 (c.wait : Int)) := HS3.out.cd.blk.cell 9
    have f5 := HS3.out.cd.blk.frozen 5
    have f9 := HS3.out.cd.blk.frozen 9
    have hg3 := HS3.out.cd.blk.lt
    cases hgr : c.greet with
    | true => as_aux_lemma =>
      have HF : Hid (welF c q = ([], { c with tok := q.tok })) := Lib.hid (by unfold welF; rw [if_neg HNO.out, if_pos hgr])
      rw [hgr] at k5
      go_wp2
      go_ret
      rw [HF.out]
      exact ⟨_, [], p, rfl, HS3.out, FrsD.nil _ _ _⟩
    | false =>
      have hok1 : ({ c with tok := q.tok, greet := true, wait := 0 } : Cl).Ok N := ⟨HOK.out.no, HOK.out.wi, HOK.out.pa, HOK.out.bl, HOK.out.bs, HOK.out.rp, HOK.out.rl, HOK.out.is, hqt, HOK.out.ev, HOK.out.el, Nat.zero_le _, HOK.out.kp⟩
      have HF : Hid (welF c q = ((List.range (c.last - c.rep)).map fun i => ({ c with tok := q.tok, greet := true, wait := 0 } : Cl).cmd (c.rep + 1 + i), { c with tok := q.tok, greet := true, wait := 0 })) := Lib.hid (by unfold welF; rw [if_neg HNO.out, if_neg (by rw [hgr]; decide)])
      rw [hgr] at k5
      have hS5 := HS3.out.trans HS3.out.cd.setGreet
      go_upto_region 11 with fail
      clear k5 k9 f5 f9
      generalize (w3.setCell ⟨p.g, 5, none⟩ (.bool true)).setCell ⟨p.g, 9, none⟩ (.int .i64 0) = w5 at *
      obtain ⟨c1, hc1⟩ : ∃ c1, ({ c with tok := q.tok, greet := true, wait := 0 } : Cl) = c1 := ⟨_, rfl⟩
      have hS5' : StpD base w p 0 c1 p w5 := by rw [← hc1]; exact hS5
      rw [hc1] at hok1 HF
      have e6 : c1.iss = c.iss := by rw [← hc1]
      have e7 : c1.rep = c.rep := by rw [← hc1]
      have e1 : c1.win = c.win := by rw [← hc1]
      obtain ⟨m, hm⟩ : ∃ m, c.last - c.rep = m := ⟨_, rfl⟩
      have hml : m = min (c.rep + c.win) c.iss - c.rep := by rw [← hm]; rfl
      rw [hm] at HF
      rw [← e6, ← e7, ← e1] at hml
      rw [← e7] at HF
      have HS5 := Lib.hid hS5'
      have HO1 := Lib.hid hok1
      have HML := Lib.hid hml
      have hrp := hok1.rp
      have his := hok1.is
      have hwi := hok1.wi.2
      have k7 : w5.cell? ⟨p.g, 7, none⟩ = some (.int .u64 (c1.rep : Int)) := hS5'.cd.blk.cell 7
      have HSZ : Hid (w.heap.size ≤ w5.heap.size) := Lib.hid hS5'.chg.size
      have e3 : IntKind.u64.wrap ((c1.rep : Int) + 1) = ((c1.rep + 1 : Nat) : Int) := by simp [IntKind.wrap, IntKind.bits, IntKind.signed]; omega
      have ew : IntKind.u64.wrap (c1.win : Int) = (c1.win : Int) := by simp [IntKind.wrap, IntKind.bits, IntKind.signed]; omega
      have er : IntKind.u64.wrap ((c1.rep : Int) + (c1.win : Int)) = (c1.rep : Int) + (c1.win : Int) := by simp [IntKind.wrap, IntKind.bits, IntKind.signed]; omega
      clear hS5 hS5' hok1 hml hm HS3 hc1 e6 e7 e1 HNO HOK hqt hg2 hg3 hwb2 HP
      obtain ⟨i0, hi0, hz0, hz1, hz2⟩ := info_parts info37
      go_wp2_with fail
      go_loopw [6, 7] (fun V v wr => ∃ (i : Nat) (l : List (QX (List UInt8))), i ≤ m ∧ v = .int .u64 ((c1.rep + 1 + i : Nat) : Int) ∧ RowK kB w5.heap.size wr V l ∧ l.map (·.1) = (List.range i).map (fun i => frm (c1.cmd (c1.rep + 1 + i))) ∧ Below w5.heap.size w5 wr) (fun _ v _ => m + c1.rep + 1 - (intOf v).toNat)
      case atStart => exact ⟨0, [], Nat.zero_le _, rfl, RowK.nil _ _ _, rfl, Below.refl _ _⟩
      case round =>
        obtain ⟨i, l, hi, rfl, hrow, hl, hb⟩ := hrel
        have HROW := Lib.hid hrow
        have HL := Lib.hid hl
        have HB := Lib.hid hb
        have hcd := HS5.out.cd.below hb
        have HCD := Lib.hid hcd
        have k1 : wr.cell? ⟨p.g, 1, none⟩ = some (.int .i64 (c1.win : Int)) := hcd.blk.cell 1
        have k6 : wr.cell? ⟨p.g, 6, none⟩ = some (.int .u64 (c1.iss : Int)) := hcd.blk.cell 6
        have k7 : wr.cell? ⟨p.g, 7, none⟩ = some (.int .u64 (c1.rep : Int)) := hcd.blk.cell 7
        obtain ⟨AV, cV, rfl, _, _⟩ := hrow.form
        have hll : l.length = i := by have := congrArg List.length hl; simpa using this
        have hws := hb.size
        clear hrow hl hb hcd
        obtain ⟨kk, hkk⟩ : ∃ kk, c1.rep + 1 + i = kk := ⟨_, rfl⟩
        rw [hkk]
        by_cases hlt : i < m
        · as_aux_lemma =>
          have hm9 := HML.out
          have n1 : ((kk : Nat) : Int) ≤ (c1.iss : Int) := by omega
          have n2 : ((kk : Nat) : Int) ≤ (c1.rep : Int) + (c1.win : Int) := by omega
          have hki : kk ≤ c1.iss := by omega
          have hk1 : 1 ≤ kk := by omega
          have hl16 : l.length ≤ 16 := by omega
          have HKK := Lib.hid hkk
          have HLL := Lib.hid hll
          have ek : IntKind.u64.wrap ((kk : Int) + 1) = ((kk + 1 : Nat) : Int) := by simp [IntKind.wrap, IntKind.bits, IntKind.signed]; omega
          clear hm9 hkk hll hrp his hwi
          go_upto_region 13 with fail
          go_quiet (fail)
          have HB9 : Hid (Below w5.heap.size w5 (wr.drewN nq)) := Lib.hid (below_drewN HB.out nq)
          have HROW9 := Lib.hid (HROW.out.below (below_drewN (Below.refl wr.heap.size wr) nq))
          have HCM := Lib.hid (rcmd_any (HCD.out.below (below_drewN (Below.refl wr.heap.size wr) nq)) HO1.out hN kk hk1 hki)
          have hws9 : w5.heap.size ≤ (wr.drewN nq).heap.size := hws
          clear k1 k6 k7 n1 n2 hki hk1 HB HROW HCD hws
          generalize wr.drewN nq = w9 at *
          go_wp2_with (first
            | (go_at_call 82; refine HCM.out.mono ?_; rintro e w7 ⟨v7, rfl, ho7, hb7⟩; obtain ⟨A7, c7, rfl, _, _⟩ := ho7.form; have HO7 := Lib.hid ho7; have HB7 := Lib.hid hb7; have HW7 : Hid (w9.heap.size ≤ w7.heap.size) := Lib.hid hb7.size; clear ho7 hb7)
            | (at_builtin; refine wpList_append_any _ rfl (.tmp 87) (.tmp 91) 31 rfl w5.heap.size 37 i0 _ 1 24 Try.underlying31 hi0 hz0 hz1 hz2 rfl (by decide) (.slice AV l.length cV) l.length (kB.flat l) rfl (World.ownsRow.alloc (HROW9.out.below HB7.out).row _) _ _ 1 1 [.slice A7 (frm (c1.cmd kk)).length c7] rfl (Reads.built _ 37 [.slice A7 (frm (c1.cmd kk)).length c7]) (by simp [Value.oneCell']) (by simp only [maxLen]; omega) (by omega) (by have := HW7.out; simp; omega) ?_; intro v8 w8 hr8 hg8 hv8; have HR8 := Lib.hid hr8; have HG8 := Lib.hid hg8; clear hr8 hg8 hv8))
          have hpush := RowK.push (w := w7.alloc (.cells #[.slice A7 (frm (c1.cmd kk)).length c7] 37)) (q := (frm (c1.cmd kk), A7, c7)) ⟨World.ownsRow.alloc (HROW9.out.below HB7.out).row _, fun x hx => World.ownsRow.alloc ((HROW9.out.below HB7.out).els x hx) _⟩ (by decide) (own_base (World.ownsRow.alloc HO7.out _) hws9) HR8.out HG8.out
          have hbel : Below w5.heap.size w5 w8 := ((HB9.out.trans (HB7.out.mono hws9)).alloc (Nat.le_trans hws9 HW7.out) _).grown HG8.out (by have := HW7.out; simp; omega) fun k hk => (HROW9.out.lt (.inl hk)).1
          have HPU := Lib.hid hpush
          have HBE := Lib.hid hbel
          clear hpush hbel
          go_roundw
          case rel => exact ⟨i + 1, l ++ [(frm (c1.cmd kk), A7, c7)], hlt, by rw [← HKK.out]; first | rfl | (congr 2), HPU.out, by rw [List.map_append, HL.out, List.range_succ, List.map_append, ← HKK.out]; rfl, HBE.out⟩
          case measure => have := HKK.out; simp [intOf]; omega
        · obtain rfl : i = m := by omega
          have hm9 := HML.out
          by_cases hki : kk ≤ c1.iss
          · as_aux_lemma =>
            have n1 : ((kk : Nat) : Int) ≤ (c1.iss : Int) := by omega
            have n2 : ¬ ((kk : Nat) : Int) ≤ (c1.rep : Int) + (c1.win : Int) := by omega
            clear hm9 hki hkk hll
            go_upto_region 13 with fail
            go_quiet (fail)
            go_wp2
            go_ret
            rw [HF.out]
            exact HS5.out.ans (B := w5.heap.size) HSZ.out (Nat.le_refl _) rfl (HROW.out.below (below_drewN (Below.refl _ _) _)) (by rw [HL.out, List.map_map]; rfl) (below_drewN HB.out _)
          · as_aux_lemma =>
            have n1 : ¬ ((kk : Nat) : Int) ≤ (c1.iss : Int) := by omega
            clear hm9 hki hkk hll
            go_upto_region 13 with fail
            go_quiet (fail)
            go_wp2
            go_ret
            rw [HF.out]
            exact HS5.out.ans (B := w5.heap.size) HSZ.out (Nat.le_refl _) rfl (HROW.out.below (below_drewN (Below.refl _ _) _)) (by rw [HL.out, List.map_map]; rfl) (below_drewN HB.out _)
end Go.Proofs.Ytjhkfpemcplaaaa
namespace Go.Proofs.Ytjhkfpemcplaaaa
open Go.RowKit

section
variable {base : Nat} {w w4 w5 : World} {p : Pa} {c c' : Cl} {v' : Value}
theorem CD.stayR (h : CD base w p c) (hg : w.grownBy w4 p.rv.ownBlock) : Blk w4 p.g 94 (layD c p) ∧ RowK kB base w4 p.bv p.bl ∧ RowK kE base w4 p.ev p.el := by
  have kp : ∀ k, k < w.heap.size → p.rv.ownBlock ≠ some k → w4.heap[k]? = w.heap[k]? := fun k hk hn => hg.block k hk (fun e => hn e.symm)
  refine ⟨(kp _ h.blk.lt fun e => own_blk_ne h.rows.r.row h.blk (by decide) e).trans h.blk, h.rows.b.keep fun k hk => kp k (h.rows.b.lt hk).2 fun e => ?_, h.rows.e.keep fun k hk => kp k (h.rows.e.lt hk).2 fun e => ?_⟩
  · rcases hk with hk | ⟨q, hq, hk⟩
    · exact own_apart h.rows.b.row h.rows.r.row (by decide) k hk e
    · exact own_apart (h.rows.b.els q hq) h.rows.r.row (by decide) k hk e
  · rcases hk with hk | ⟨q, hq, hk⟩
    · exact own_apart h.rows.e.row h.rows.r.row (by decide) k hk e
    · exact own_apart (h.rows.e.els q hq) h.rows.r.row (by decide) k hk e
theorem CD.stayE (h : CD base w p c) (hg : w.grownBy w4 p.ev.ownBlock) : Blk w4 p.g 94 (layD c p) ∧ RowK kB base w4 p.bv p.bl ∧ RowK kR base w4 p.rv p.rl := by
  have kp : ∀ k, k < w.heap.size → p.ev.ownBlock ≠ some k → w4.heap[k]? = w.heap[k]? := fun k hk hn => hg.block k hk (fun e => hn e.symm)
  refine ⟨(kp _ h.blk.lt fun e => own_blk_ne h.rows.e.row h.blk (by decide) e).trans h.blk, h.rows.b.keep fun k hk => kp k (h.rows.b.lt hk).2 fun e => ?_, h.rows.r.keep fun k hk => kp k (h.rows.r.lt hk).2 fun e => ?_⟩
  · rcases hk with hk | ⟨q, hq, hk⟩
    · exact own_apart h.rows.b.row h.rows.e.row (by decide) k hk e
    · exact own_apart (h.rows.b.els q hq) h.rows.e.row (by decide) k hk e
  · rcases hk with hk | ⟨q, hq, hk⟩
    · exact own_apart h.rows.r.row h.rows.e.row (by decide) k hk e
    · exact own_apart (h.rows.r.els q hq) h.rows.e.row (by decide) k hk e
theorem CD.pushR {x : QX Rp} (h : CD base w p c) (hq : w.ownsRow base 68 2 (kR.val x) (kR.n x.1) (kR.xs x.1)) (hf : ∀ k, (kR.val x).ownBlock = some k → ¬ CFe p k)
    (hr : w4.ownsRow base kR.t kR.size v' (p.rl.length + 1) (kR.flat p.rl ++ kR.cells x)) (hg : w.grownBy w4 p.rv.ownBlock) (hv : v'.ownBlock = p.rv.ownBlock ∨ v'.ownBlock = some w.heap.size) (hb : Blk w5 p.g 94 (layD c' { p with rv := v', rl := p.rl ++ [x] })) (hk : Chg (fun k => k = p.g) w4 w5)
    (h1 : c'.bodies = c.bodies) (h2 : c'.reps = c.reps ++ [x.1]) (h3 : c'.evs = c.evs) (h4 : c'.kept = c.kept) : CD base w5 { p with rv := v', rl := p.rl ++ [x] } c' := by
  obtain ⟨s1, s4, s5⟩ := h.stayR hg
  obtain ⟨n1, n2⟩ := h.ne
  have hrow : RowK kR base w4 v' (p.rl ++ [x]) := h.rows.r.push (by decide) (q := x) hq hr hg
  have key : ∀ {t : TypeId} {s n : Nat} {u : Value} {xs : List Value} {k : Nat}, w4.ownsRow base t s u n xs → t ≠ 94 → u.ownBlock = some k → w5.heap[k]? = w4.heap[k]? := fun ho ht e =>
    hk.block _ (World.ownsRow.lt ho _ e).2 fun e2 => own_blk_ne ho s1 ht (by rw [e, e2])
  have hchg : Chg (fun k => p.rv.ownBlock = some k ∨ k = p.g) w w5 := (Chg.of_grown (F := fun k => p.rv.ownBlock = some k) hg fun k e => e).mono (fun _ _ e => .inl e) |>.trans hk fun i _ e => .inr e
  obtain ⟨A, kk, N, hkv, hx, hN, hbN, ha⟩ := h.reader hchg (fun e => by
      rcases e with e | e
      · exact (n2 _ (.inr (.inl (.inl e)))).2 rfl
      · exact n1 e.symm) (fun k hkb e => by
      obtain ⟨ad, n, cx, e1, rfl, hn⟩ := hkb
      obtain ⟨A, kk, N, hkv, ⟨x1, x2, x3, x4⟩, hN, hbN, ha⟩ := h.rd
      obtain ⟨e1, e3⟩ := kvOf_some (hkv.symm.trans e1) hn
      refine ha ad e1 (by omega) ?_
      rcases e with e | e
      · exact .inr (.inr (.inr (.inl (.inl e))))
      · exact .inl e)
  refine ⟨hb, ⟨A, kk, N, by rw [h4]; exact hkv, by rw [h4]; exact hx, hN, hbN, by
      rw [h4]
      intro ad e hp hc
      obtain ⟨a1, a2, a3⟩ := ha ad e hp
      have hgrow : ∀ b : v'.ownBlock = some ad.block ∨ kR.inB (p.rl ++ [x]) ad.block, False := fun hc => by
        rcases hc with hc | hc
        · rcases hv with h9 | h9
          · have hc9 : p.rv.ownBlock = some ad.block := by rw [← h9]; exact hc
            exact a2 (.inr (.inr (.inr (.inl (.inl hc9)))))
          · rw [h9] at hc
            injection hc with hc
            omega
        · rcases inB_push hc with h9 | h9
          · exact a2 (.inr (.inr (.inr (.inl (.inr h9)))))
          · exact hf _ h9 (.inr a3)
      rcases hc with hc | hc | hc | hc | hc
      · exact a2 (.inl hc)
      · exact a2 (.inr (.inl hc))
      · exact a2 (.inr (.inr (.inl hc)))
      · exact hgrow hc
      · exact a2 (.inr (.inr (.inr (.inr hc))))⟩, ⟨s4.keep fun k hk' => ?_, hrow.keep fun k hk' => ?_, s5.keep fun k hk' => ?_, by rw [h1]; exact h.rows.bi, by rw [h2, ← h.rows.ri]; simp, by rw [h3]; exact h.rows.ei, fun k hk' => h.rows.ap k hk'⟩, h.ge, h.dr⟩
  · rcases hk' with e | ⟨q, hq', e⟩
    · exact key s4.row (by decide) e
    · exact key (s4.els q hq') (by decide) e
  · rcases hk' with e | ⟨q, hq', e⟩
    · exact key hrow.row (by decide) e
    · exact key (hrow.els q hq') (by decide) e
  · rcases hk' with e | ⟨q, hq', e⟩
    · exact key s5.row (by decide) e
    · exact key (s5.els q hq') (by decide) e
theorem CD.pushE {x : QX (Nat × Rp)} (h : CD base w p c) (hq : w.ownsRow base 68 2 (kE.val x) (kE.n x.1) (kE.xs x.1)) (hf : ∀ k, (kE.val x).ownBlock = some k → ¬ CFe p k)
    (hr : w4.ownsRow base kE.t kE.size v' (p.el.length + 1) (kE.flat p.el ++ kE.cells x)) (hg : w.grownBy w4 p.ev.ownBlock) (hv : v'.ownBlock = p.ev.ownBlock ∨ v'.ownBlock = some w.heap.size) (hb : Blk w5 p.g 94 (layD c' { p with ev := v', el := p.el ++ [x] })) (hk : Chg (fun k => k = p.g) w4 w5)
    (h1 : c'.bodies = c.bodies) (h2 : c'.reps = c.reps) (h3 : c'.evs = c.evs ++ [x.1]) (h4 : c'.kept = c.kept) : CD base w5 { p with ev := v', el := p.el ++ [x] } c' := by
  obtain ⟨s1, s4, s5⟩ := h.stayE hg
  obtain ⟨n1, n2⟩ := h.ne
  have hrow : RowK kE base w4 v' (p.el ++ [x]) := h.rows.e.push (by decide) (q := x) hq hr hg
  have key : ∀ {t : TypeId} {s n : Nat} {u : Value} {xs : List Value} {k : Nat}, w4.ownsRow base t s u n xs → t ≠ 94 → u.ownBlock = some k → w5.heap[k]? = w4.heap[k]? := fun ho ht e =>
    hk.block _ (World.ownsRow.lt ho _ e).2 fun e2 => own_blk_ne ho s1 ht (by rw [e, e2])
  have hchg : Chg (fun k => p.ev.ownBlock = some k ∨ k = p.g) w w5 := (Chg.of_grown (F := fun k => p.ev.ownBlock = some k) hg fun k e => e).mono (fun _ _ e => .inl e) |>.trans hk fun i _ e => .inr e
  obtain ⟨A, kk, N, hkv, hx, hN, hbN, ha⟩ := h.reader hchg (fun e => by
      rcases e with e | e
      · exact (n2 _ (.inr (.inr (.inl e)))).2 rfl
      · exact n1 e.symm) (fun k hkb e => by
      obtain ⟨ad, n, cx, e1, rfl, hn⟩ := hkb
      obtain ⟨A, kk, N, hkv, ⟨x1, x2, x3, x4⟩, hN, hbN, ha⟩ := h.rd
      obtain ⟨e1, e3⟩ := kvOf_some (hkv.symm.trans e1) hn
      refine ha ad e1 (by omega) ?_
      rcases e with e | e
      · exact .inr (.inr (.inr (.inr (.inl e))))
      · exact .inl e)
  refine ⟨hb, ⟨A, kk, N, by rw [h4]; exact hkv, by rw [h4]; exact hx, hN, hbN, by
      rw [h4]
      intro ad e hp hc
      obtain ⟨a1, a2, a3⟩ := ha ad e hp
      have hgrow : ∀ b : v'.ownBlock = some ad.block ∨ kE.inB (p.el ++ [x]) ad.block, False := fun hc => by
        rcases hc with hc | hc
        · rcases hv with h9 | h9
          · have hc9 : p.ev.ownBlock = some ad.block := by rw [← h9]; exact hc
            exact a2 (.inr (.inr (.inr (.inr (.inl hc9)))))
          · rw [h9] at hc
            injection hc with hc
            omega
        · rcases inB_push hc with h9 | h9
          · exact a2 (.inr (.inr (.inr (.inr (.inr h9)))))
          · exact hf _ h9 (.inr a3)
      rcases hc with hc | hc | hc | hc | hc
      · exact a2 (.inl hc)
      · exact a2 (.inr (.inl hc))
      · exact a2 (.inr (.inr (.inl hc)))
      · exact a2 (.inr (.inr (.inr (.inl hc))))
      · exact hgrow hc⟩, ⟨s4.keep fun k hk' => ?_, s5.keep fun k hk' => ?_, hrow.keep fun k hk' => ?_, by rw [h1]; exact h.rows.bi, by rw [h2]; exact h.rows.ri, by rw [h3, ← h.rows.ei]; simp, fun k hk' => h.rows.ap k hk'⟩, h.ge, h.dr⟩
  · rcases hk' with e | ⟨q, hq', e⟩
    · exact key s4.row (by decide) e
    · exact key (s4.els q hq') (by decide) e
  · rcases hk' with e | ⟨q, hq', e⟩
    · exact key s5.row (by decide) e
    · exact key (s5.els q hq') (by decide) e
  · rcases hk' with e | ⟨q, hq', e⟩
    · exact key hrow.row (by decide) e
    · exact key (hrow.els q hq') (by decide) e
end
/-- the document's GetReply, good or not -/
theorem rget_any (A : Option Addr) (n c : Nat) (bs : List UInt8) (w : World) (hr : RdB w w.heap.size A n bs) (hc : n ≤ c) (hm : n ≤ 1024) :
    Calls Try.prog 31 #[.slice A n c] w fun e w' => ∃ (er : Int) (A2 : Option Addr) (n2 c2 : Nat) (st : ByteArray) (ok : Bool), e = .returned (.tuple #[.agg #[.int .i64 er, .slice A2 n2 c2, .string st], .bool ok]) ∧ Below w.heap.size w w' ∧ (ok = true ↔ goodG bs) ∧
      (goodG bs → er = (repG bs).err ∧ n2 = (repG bs).vals.length ∧ st = ⟨(repG bs).text.toArray⟩ ∧ w'.ownsRow w.heap.size 68 2 (.slice A2 n2 c2) n2 (vcells (repG bs).vals)) := by
  have hl := hr.len1
  refine (rgetr_any A n c bs w hr hc (by omega)).mono ?_
  rintro e w' ⟨hb, h | ⟨h1, rfl⟩⟩
  · obtain ⟨h1, A2, n2, c2, rfl, ho⟩ := h
    have hg : goodG bs := (rep_good bs).2 ⟨h1.1, h1.2.1, by rw [hl]; exact h1.2.2.1, h1.2.2.2⟩
    refine ⟨_, A2, n2, c2, _, true, rfl, hb, ⟨fun _ => hg, fun _ => rfl⟩, fun hg => ?_⟩
    have ht : repTD bs = repT bs := ((txt_flag (repV bs).2.1 (repV bs).2.2).2 h1.1).symm
    refine ⟨rfl, ?_, by rw [ht]; rfl, ho⟩
    have := cells_len ho
    exact this.symm
  · have hng : ¬ goodG bs := fun hg => h1 (by
      have h2 := (rep_good bs).1 hg
      exact ⟨h2.1, h2.2.1, by rw [← hl]; exact h2.2.2.1, h2.2.2.2⟩)
    exact ⟨0, none, 0, 0, _, false, rfl, hb, ⟨(fun e => by cases e), fun hg => absurd hg hng⟩, fun hg => absurd hg hng⟩
end Go.Proofs.Ytjhkfpemcplaaaa
namespace Go.Proofs.Ytjhkfpemcplaaaa
open Go.RowKit

theorem CD.setEv {base : Nat} {w : World} {p : Pa} {c : Cl} (h : CD base w p c) (t : Nat) : StpD base w p 0 { c with ev := t } p (w.setCell ⟨p.g, 8, none⟩ (.int .u64 (t : Int))) := by
  have hc : Chg (fun k => k = p.g) w (w.setCell ⟨p.g, 8, none⟩ (.int .u64 (t : Int))) := (Chg.refl (fun k => k = p.g) w).setCell (p := ⟨p.g, 8, none⟩) (fun _ => rfl) _
  exact ⟨h.turn (h.blk.set_ 8 _) hc rfl rfl rfl rfl, rfl, fun k hk => .inl hk, fun k hk => .inl hk, hc.mono fun k _ e => .inl e, by omega⟩
set_option maxRecDepth 20000 in
set_option maxHeartbeats 4000000 in
theorem rpack_evt {base N : Nat} {p : Pa} {c : Cl} {w : World} (q : Pk) (A : Option Addr) (cc : Nat) (h : CD base w p c) (ok : c.Ok N) (hN : (N + 1) * 56 ≤ 140737488355328) (hr : RdB w w.heap.size A q.body.length q.body) (hcc : q.body.length ≤ cc) (hlen : q.body.length ≤ 1024) (hk : q.kind = 5) :
    Calls Try.prog 84 #[.pointer (some ⟨p.g, 0, none⟩), pkV q A cc] w (RMetP base w p (packF c q)) := by
  have HP : Hid (packF c q = evtF c q) := Lib.hid (by unfold packF; rw [if_neg (by omega), if_neg (by omega), if_pos hk])
  rw [HP.out]
  have hB := Bx.start (cc := cc) hr
  have hS1 := (StpD.refl h 0).below hB.old
  obtain ⟨w1, hw1⟩ : ∃ w1, w.alloc (.cells (pkC q A cc) 39) = w1 := ⟨_, rfl⟩
  rw [hw1] at hB hS1
  have HS1 := Lib.hid hS1
  have HB := Lib.hid hB
  have x0 : w1.cell? ⟨w.heap.size, 0, none⟩ = some (.int .i64 (q.kind : Int)) := hB.blk.cell 0
  have x1 : w1.cell? ⟨w.heap.size, 1, none⟩ = some (.int .u64 (q.tok : Int)) := hB.blk.cell 1
  have x4 : w1.cell? ⟨w.heap.size, 4, none⟩ = some (.slice A q.body.length cc) := hB.blk.cell 4
  have k3 : w1.cell? ⟨p.g, 3, none⟩ = some (.int .u64 (c.tok : Int)) := hS1.cd.blk.cell 3
  have HLT : Hid (∀ k, CFe p k → k < w.heap.size) := Lib.hid fun k hk => (h.cfe hk).2
  have HBS : Hid (base ≤ w.heap.size) := Lib.hid (by have := h.cfe (k := p.g) (.inl (.inl rfl)); omega)
  unfold pkV
  unfold pkC at hw1
  have e5 : (q.kind : Int) = 5 := by omega
  rw [e5] at hw1 x0 ⊢
  have HOK := Lib.hid ok
  have HK5 := Lib.hid e5
  clear h hr hB hS1 hk e5 ok HP
  have hown : ∃ own : Bool, ((q.tok : Int) == (c.tok : Int)) = own ∧ (own = true ↔ q.tok = c.tok) := by
    by_cases ht : q.tok = c.tok
    · exact ⟨true, by simp [ht], fun _ => ht, fun _ => rfl⟩
    · exact ⟨false, by simp; omega, (fun e => by cases e), fun e => absurd e ht⟩
  obtain ⟨own, ho, how⟩ := hown
  have HOW := Lib.hid how
  clear how
  go_enter Try.func84, Try.ntmps84
  go_upto_region 1 with fail
  go_quiet (fail)
  have HS2 := Lib.hid (HS1.out.below (below_drewN (Below.refl _ _) nq))
  have HBX : Hid (Blk (w1.drewN nq) w.heap.size 39 (pkC q A cc)) := Lib.hid HB.out.blk
  have HRD : Hid (RdB (w1.drewN nq) (w1.drewN nq).heap.size A q.body.length q.body) := Lib.hid HB.out.rd
  have HW2 : Hid (w.heap.size ≤ (w1.drewN nq).heap.size) := Lib.hid HB.out.old.size
  have y0 : (w1.drewN nq).cell? ⟨w.heap.size, 0, none⟩ = some (.int .i64 5) := x0
  have y4 : (w1.drewN nq).cell? ⟨w.heap.size, 4, none⟩ = some (.slice A q.body.length cc) := x4
  clear x0 x1 x4 k3 HS1 hw1 HB ho
  generalize w1.drewN nq = w2 at *
  have HG := Lib.hid (rget_any A q.body.length cc q.body w2 HRD.out hcc hlen)
  go_upto_region 20 with (go_at_call 31; refine HG.out.mono ?_; rintro e w3 ⟨er, A3, n3, c3, st, ok, rfl, hb3, hok3, hg3⟩; have HB3 := Lib.hid hb3; have HOK3 := Lib.hid hok3; have HG3 := Lib.hid hg3; clear hb3 hok3 hg3)
  have HQ := Lib.hid (Blk.new w3 53 #[.int .i64 er, .slice A3 n3 c3, .string st])
  have HB4 : Hid (Below w2.heap.size w2 (w3.alloc (.cells #[.int .i64 er, .slice A3 n3 c3, .string st] 53))) := Lib.hid (HB3.out.alloc HB3.out.size _)
  have HG4 : Hid (goodG q.body → er = (repG q.body).err ∧ n3 = (repG q.body).vals.length ∧ st = ⟨(repG q.body).text.toArray⟩ ∧ (w3.alloc (.cells #[.int .i64 er, .slice A3 n3 c3, .string st] 53)).ownsRow w2.heap.size 68 2 (.slice A3 n3 c3) n3 (vcells (repG q.body).vals)) := Lib.hid fun h => by
    obtain ⟨a1, a2, a3, a4⟩ := HG3.out h
    exact ⟨a1, a2, a3, World.ownsRow.alloc a4 _⟩
  generalize w3.alloc (.cells #[.int .i64 er, .slice A3 n3 c3, .string st] 53) = w4 at *
  generalize w3.heap.size = b3 at *
  have HS4 := Lib.hid (HS2.out.below HB4.out)
  have HBX4 := Lib.hid (HBX.out.below HB4.out HBX.out.lt)
  have k3 : w4.cell? ⟨p.g, 3, none⟩ = some (.int .u64 (c.tok : Int)) := HS4.out.cd.blk.cell 3
  have k8 : w4.cell? ⟨p.g, 8, none⟩ = some (.int .u64 (c.ev : Int)) := HS4.out.cd.blk.cell 8
  have z0 : w4.cell? ⟨w.heap.size, 0, none⟩ = some (.int .i64 5) := (HBX4.out.cell 0).trans (by show some (Value.int .i64 (q.kind : Int)) = _; rw [HK5.out])
  have z2 : w4.cell? ⟨w.heap.size, 2, none⟩ = some (.int .u64 (q.seq : Int)) := HBX4.out.cell 2
  have HW4 : Hid (w.heap.size ≤ w4.heap.size ∧ w.heap.size ≤ w2.heap.size) := Lib.hid (by have := HW2.out; have := HB4.out.size; omega)
  clear y0 y4 HG HB3 HG3 HRD HBX HS2
  cases ok with
  | false => as_aux_lemma =>
    have HF : Hid (evtF c q = ([], c)) := Lib.hid (by
      have hn : ¬ goodG q.body := fun h => by have := HOK3.out.2 h; cases this
      unfold evtF
      split
      · rfl
      · rw [getG_no hn])
    go_wp2
    go_ret
    rw [HF.out]
    exact ⟨_, [], p, rfl, HS4.out, FrsD.nil _ _ _⟩
  | true =>
    have hgd := HOK3.out.1 rfl
    cases own with
    | false => as_aux_lemma =>
      have HF : Hid (evtF c q = ([], c)) := Lib.hid (by
        have hn : q.tok ≠ c.tok := fun h => by have := HOW.out.2 h; cases this
        unfold evtF
        rw [if_pos (.inl (by simp [oursB, hn]))])
      go_wp2
      go_ret
      rw [HF.out]
      exact ⟨_, [], p, rfl, HS4.out, FrsD.nil _ _ _⟩
    | true =>
      have htk := HOW.out.1 rfl
      by_cases ht0 : c.tok = 0
      · as_aux_lemma =>
        have HF : Hid (evtF c q = ([], c)) := Lib.hid (by unfold evtF; rw [if_pos (.inl (by simp [oursB, ht0]))])
        have d1 : ((c.tok : Int) == 0) = true := by simp [ht0]
        clear ht0 htk hgd
        go_wp2
        go_ret
        rw [HF.out]
        exact ⟨_, [], p, rfl, HS4.out, FrsD.nil _ _ _⟩
      · have d1 : ((c.tok : Int) == 0) = false := by simp; omega
        have hours : oursB c q = true := by simp [oursB, ht0, htk]
        have HOU := Lib.hid hours
        clear ht0 htk hours
        by_cases hse : q.seq ≤ c.ev
        · as_aux_lemma =>
          have HF : Hid (evtF c q = ([], c)) := Lib.hid (by unfold evtF; rw [if_pos (.inr hse)])
          have l1 : ¬ (c.ev : Int) < (q.seq : Int) := by omega
          clear hgd hse
          go_upto_region 23 with fail
          go_quiet (fail)
          go_wp2
          go_ret
          rw [HF.out]
          exact ⟨_, [], p, rfl, HS4.out.below (below_drewN (Below.refl _ _) _), FrsD.nil _ _ _⟩
        · have HF : Hid (evtF c q = ([], { c with evs := c.evs ++ [(q.seq, repG q.body)], ev := q.seq })) := Lib.hid (by
            unfold evtF
            rw [if_neg (by rintro (h | h); · rw [HOU.out] at h; cases h
                           · exact hse h), getG_yes hgd])
          have l1 : (c.ev : Int) < (q.seq : Int) := by omega
          obtain ⟨a1, a2, a3, a4⟩ := HG4.out hgd
          obtain ⟨rp, hrp⟩ : ∃ rp, repG q.body = rp := ⟨_, rfl⟩
          rw [hrp] at a1 a2 a3 a4 HF
          subst a1 a2 a3
          have HO4 := Lib.hid a4
          clear a4 HG4 hgd hse hrp
          go_upto_region 23 with fail
          go_quiet (fail)
          have HS5 := Lib.hid (HS4.out.below (below_drewN (Below.refl _ _) nq))
          have m2 : (w4.drewN nq).cell? ⟨w.heap.size, 2, none⟩ = some (.int .u64 (q.seq : Int)) := z2
          have HQ5 : Hid (Blk (w4.drewN nq) b3 53 #[.int .i64 rp.err, .slice A3 rp.vals.length c3, .string ⟨rp.text.toArray⟩]) := Lib.hid HQ.out
          have HBX5 : Hid (Blk (w4.drewN nq) w.heap.size 39 (pkC q A cc)) := Lib.hid HBX4.out
          have HO5 : Hid ((w4.drewN nq).ownsRow w2.heap.size 68 2 (.slice A3 rp.vals.length c3) rp.vals.length (vcells rp.vals)) := Lib.hid HO4.out
          have HW5 : Hid (w.heap.size ≤ (w4.drewN nq).heap.size ∧ w.heap.size ≤ w2.heap.size) := Lib.hid HW4.out
          have HB5 : Hid (w2.heap.size ≤ (w4.drewN nq).heap.size) := Lib.hid HB4.out.size
          clear k3 k8 z0 z2 HS4 HQ HBX4 HO4 HW4 HB4
          generalize w4.drewN nq = w5 at *
          have k8 : w5.cell? ⟨p.g, 8, none⟩ = some (.int .u64 (c.ev : Int)) := HS5.out.cd.blk.cell 8
          have f8 := HS5.out.cd.blk.frozen 8
          have hg5 := HS5.out.cd.blk.lt
          go_upto_region 25 with fail
          have hS6 := HS5.out.trans (HS5.out.cd.setEv q.seq)
          have hbxg : w.heap.size ≠ p.g := Blk.ne_ HBX5.out HS5.out.cd.blk (by decide)
          have hb3g : b3 ≠ p.g := Blk.ne_ HQ5.out HS5.out.cd.blk (by decide)
          have HBX6 := Lib.hid (HBX5.out.far (p := ⟨p.g, 8, none⟩) hbxg (.int .u64 (q.seq : Int)))
          have HQ6 := Lib.hid (HQ5.out.far (p := ⟨p.g, 8, none⟩) hb3g (.int .u64 (q.seq : Int)))
          have HO6 := Lib.hid (own_same (w' := w5.setCell ⟨p.g, 8, none⟩ (.int .u64 (q.seq : Int))) HO5.out fun k hk => Below.heap_setCell _ _ _ _ (fun e => own_blk_ne HO5.out HS5.out.cd.blk (by decide) (by rw [hk]; exact congrArg some e)))
          have HW6 : Hid (w.heap.size ≤ (w5.setCell ⟨p.g, 8, none⟩ (.int .u64 (q.seq : Int))).heap.size ∧ w.heap.size ≤ w2.heap.size) := Lib.hid (by simpa [World.setCell] using HW5.out)
          generalize w5.setCell ⟨p.g, 8, none⟩ (.int .u64 (q.seq : Int)) = w6 at *
          have HS6 := Lib.hid hS6
          clear hS6 HS5 HBX5 HQ5 HO5 HW5 HB5 m2 k8 f8 hg5 l1 d1 hbxg hb3g
          obtain ⟨Av, cv, hev, _, _⟩ := HS6.out.cd.rows.e.form
          have HEV := Lib.hid hev
          have HROW := Lib.hid HS6.out.cd.rows.e.row
          rw [hev] at HROW
          have q14 : w6.cell? ⟨p.g, 14, none⟩ = some (.slice Av p.el.length cv) := (HS6.out.cd.blk.cell 14).trans (by rw [← hev]; rfl)
          have r0 : w6.cell? ⟨b3, 0, none⟩ = some (.int .i64 rp.err) := HQ6.out.cell 0
          have r1 : w6.cell? ⟨b3, 1, none⟩ = some (.slice A3 rp.vals.length c3) := HQ6.out.cell 1
          have r2 : w6.cell? ⟨b3, 2, none⟩ = some (.string ⟨rp.text.toArray⟩) := HQ6.out.cell 2
          have s2 : w6.cell? ⟨w.heap.size, 2, none⟩ = some (.int .u64 (q.seq : Int)) := HBX6.out.cell 2
          have hlb : (p.el.length + 1) * 56 ≤ 140737488355328 := by
            have h1 := congrArg List.length HS6.out.cd.rows.ei
            rw [List.length_map] at h1
            have := HOK.out.el
            dsimp only at h1
            omega
          obtain ⟨i0, hi, hz0, hz1, hz2⟩ := info_parts info70
          have hbase6 : base ≤ w6.heap.size := by have := HBS.out; have := HW6.out; omega
          have hS : w6.drew.cell? ⟨p.g, 14, none⟩ = some (.slice Av p.el.length cv) ∧ w6.drew.cell? ⟨w.heap.size, 2, none⟩ = some (.int .u64 (q.seq : Int)) ∧ w6.drew.cell? ⟨b3, 0, none⟩ = some (.int .i64 rp.err) ∧ w6.drew.cell? ⟨b3, 1, none⟩ = some (.slice A3 rp.vals.length c3) ∧ w6.drew.cell? ⟨b3, 2, none⟩ = some (.string ⟨rp.text.toArray⟩) := ⟨q14, s2, r0, r1, r2⟩
          have hg6 := HS6.out.cd.blk.lt
          have hb36 := HQ6.out.lt
          have hw6 := HBX6.out.lt
          have HCD6 := Lib.hid fun (o : Obj) => CD.below HS6.out.cd (((Below.refl _ _).alloc (Nat.le_refl _) o).drew)
          refine wp_region_x (s := 13) (S := fun W => W.cell? ⟨p.g, 14, none⟩ = some (.slice Av p.el.length cv) ∧ W.cell? ⟨w.heap.size, 2, none⟩ = some (.int .u64 (q.seq : Int)) ∧ W.cell? ⟨b3, 0, none⟩ = some (.int .i64 rp.err) ∧ W.cell? ⟨b3, 1, none⟩ = some (.slice A3 rp.vals.length c3) ∧ W.cell? ⟨b3, 2, none⟩ = some (.string ⟨rp.text.toArray⟩)) (by kernel_rfl) hS (fun hHeld => ?_)
          refine wpAnyX_take (i := 0) (v := ?_) (by simp only [List.getElem?_toArray, List.getElem?_cons_zero]; rfl) (by kernel_rfl) (by kernel_rfl) (by kernel_rfl) (by kernel_rfl) (by exact fun _ _ _ h => h) (Or.inl ⟨by rfl, ?_⟩) (by assumption) ?_
          rotate_left
          · intro w hSw; (try dsimp only at hSw); go_split_ands; go_simp <;> with_reducible rfl
          try simp only [Act.put, List.setIfInBounds_toArray, List.set_cons_zero, List.set_cons_succ]
          refine wpAnyX_take (i := 1) (v := ?_) (by simp only [List.getElem?_toArray, List.getElem?_cons_succ, List.getElem?_cons_zero]; rfl) (by kernel_rfl) (by kernel_rfl) (by kernel_rfl) (by kernel_rfl) (by exact fun _ _ _ h => h) (Or.inl ⟨by rfl, ?_⟩) (by assumption) ?_
          rotate_left
          · intro w hSw; (try dsimp only at hSw); go_split_ands; go_simp <;> with_reducible rfl
          try simp only [Act.put, List.setIfInBounds_toArray, List.set_cons_zero, List.set_cons_succ]
          refine wpAnyX_take (i := 2) (v := ?_) (by simp only [List.getElem?_toArray, List.getElem?_cons_succ, List.getElem?_cons_zero]; rfl) (by kernel_rfl) (by kernel_rfl) (by kernel_rfl) (by kernel_rfl) (by exact fun _ _ _ h => h) (Or.inl ⟨by rfl, ?_⟩) (by assumption) ?_
          rotate_left
          · intro w hSw; (try dsimp only at hSw); go_split_ands; go_simp <;> with_reducible rfl
          try simp only [Act.put, List.setIfInBounds_toArray, List.set_cons_zero, List.set_cons_succ]
          refine wpAnyX_take (i := 3) (v := ?_) (by simp only [List.getElem?_toArray, List.getElem?_cons_succ, List.getElem?_cons_zero]; rfl) (by kernel_rfl) (by kernel_rfl) (by kernel_rfl) (by kernel_rfl) (by exact fun _ _ _ h => h) (Or.inl ⟨by rfl, ?_⟩) (by assumption) ?_
          rotate_left
          · intro w hSw; (try dsimp only at hSw); go_split_ands; go_simp <;> with_reducible rfl
          try simp only [Act.put, List.setIfInBounds_toArray, List.set_cons_zero, List.set_cons_succ]
          refine wpAnyX_take (i := 4) (v := ?_) (by simp only [List.getElem?_toArray, List.getElem?_cons_succ, List.getElem?_cons_zero]; rfl) (by kernel_rfl) (by kernel_rfl) (by kernel_rfl) (by kernel_rfl) (by exact fun _ _ _ h => h) (Or.inl ⟨by rfl, ?_⟩) (by assumption) ?_
          rotate_left
          · intro w hSw; (try dsimp only at hSw); go_split_ands; go_simp <;> with_reducible rfl
          try simp only [Act.put, List.setIfInBounds_toArray, List.set_cons_zero, List.set_cons_succ]
          refine wpAnyX_take (i := 5) (v := ?_) (by simp only [List.getElem?_toArray, List.getElem?_cons_succ, List.getElem?_cons_zero]; rfl) (by kernel_rfl) (by kernel_rfl) (by kernel_rfl) (by kernel_rfl) (by exact fun _ _ _ h => h) (Or.inl ⟨by rfl, ?_⟩) (by assumption) ?_
          rotate_left
          · intro w hSw; (try dsimp only at hSw); go_split_ands; go_simp <;> with_reducible rfl
          try simp only [Act.put, List.setIfInBounds_toArray, List.set_cons_zero, List.set_cons_succ]
          refine wpAnyX_take (i := 6) (v := ?_) (by simp only [List.getElem?_toArray, List.getElem?_cons_succ, List.getElem?_cons_zero]; rfl) (by kernel_rfl) (by kernel_rfl) (by kernel_rfl) (by kernel_rfl) (by exact fun _ _ _ h => h) (Or.inl ⟨by rfl, ?_⟩) (by assumption) ?_
          rotate_left
          · intro w hSw; (try dsimp only at hSw); go_split_ands; go_simp <;> with_reducible rfl
          try simp only [Act.put, List.setIfInBounds_toArray, List.set_cons_zero, List.set_cons_succ]
          refine wpAnyX_take (i := 7) (v := ?_) (by simp only [List.getElem?_toArray, List.getElem?_cons_succ, List.getElem?_cons_zero]; rfl) (by kernel_rfl) (by kernel_rfl) (by kernel_rfl) (by kernel_rfl) (by exact fun _ _ _ h => h) (Or.inl ⟨by rfl, ?_⟩) (by assumption) ?_
          rotate_left
          · intro w hSw; (try dsimp only at hSw); go_split_ands; go_simp <;> with_reducible rfl
          try simp only [Act.put, List.setIfInBounds_toArray, List.set_cons_zero, List.set_cons_succ]
          refine wpAnyX_take (i := 8) (v := ?_) (by simp only [List.getElem?_toArray, List.getElem?_cons_succ, List.getElem?_cons_zero]; rfl) (by kernel_rfl) (by kernel_rfl) (by kernel_rfl) (by kernel_rfl) (by exact fun _ _ _ h => h) (Or.inl ⟨by rfl, ?_⟩) (by assumption) ?_
          rotate_left
          · intro w hSw; (try dsimp only at hSw); go_split_ands; go_simp <;> with_reducible rfl
          try simp only [Act.put, List.setIfInBounds_toArray, List.set_cons_zero, List.set_cons_succ]
          refine wpAnyX_one (i := 9) (by kernel_rfl) (by simp only [List.getElem?_toArray, List.getElem?_cons_succ, List.getElem?_cons_zero]; rfl) (fun K2 hK2 => ?_)
          go_simp
          refine hK2.out _ _ (by go_keep) (fun hHeld => ?_)
          clear hK2 K2
          try simp only [Act.put, List.setIfInBounds_toArray, List.set_cons_zero, List.set_cons_succ]
          refine wpAnyX_one (i := 10) (by kernel_rfl) (by simp only [List.getElem?_toArray, List.getElem?_cons_succ, List.getElem?_cons_zero]; rfl) (fun K2 hK2 => ?_)
          (refine step_append_any _ rfl (.tmp 138) (.tmp 143) 65 rfl base 70 i0 _ 4 56 Try.underlying65 hi hz0 hz1 hz2 rfl (by decide) (.slice Av p.el.length cv) p.el.length (kE.flat p.el) (by rfl) ((World.ownsRow.alloc HROW.out _).drew) _ _ 1 1 [.int .u64 (q.seq : Int), .int .i64 rp.err, .slice A3 rp.vals.length c3, .string ⟨rp.text.toArray⟩] (by rfl) ((read_one _ [.int .u64 (q.seq : Int), .int .i64 rp.err, .slice A3 rp.vals.length c3, .string ⟨rp.text.toArray⟩] 70).drew) (by simp [Value.oneCell']) (by simp only [maxLen]; omega) hlb (by simp; omega) ?_; intro v7 w7 hr7 hg7 hv7; obtain ⟨A7, c7, rfl, _, _⟩ := own_formL hr7; have HR7 := Lib.hid hr7; have HG7 := Lib.hid hg7; have HV7 := Lib.hid hv7; have hst := (HCD6.out (.cells #[.int .u64 (q.seq : Int), .int .i64 rp.err, .slice A3 rp.vals.length c3, .string ⟨rp.text.toArray⟩] 70)).stayE (by rw [HEV.out]; exact hg7); have t14 : w7.cell? ⟨p.g, 14, none⟩ = some (.slice Av p.el.length cv) := (hst.1.cell 14).trans (by rw [← HEV.out]; rfl); have fr14 := hst.1.frozen 14; have hg7w := hst.1.lt; have hb7 := ((HQ6.out.alloc (.cells #[.int .u64 (q.seq : Int), .int .i64 rp.err, .slice A3 rp.vals.length c3, .string ⟨rp.text.toArray⟩] 70)).drew).grown hg7 (fun e => own_blk_ne ((World.ownsRow.alloc HROW.out (.cells #[.int .u64 (q.seq : Int), .int .i64 rp.err, .slice A3 rp.vals.length c3, .string ⟨rp.text.toArray⟩] 70)).drew) ((HQ6.out.alloc (.cells #[.int .u64 (q.seq : Int), .int .i64 rp.err, .slice A3 rp.vals.length c3, .string ⟨rp.text.toArray⟩] 70)).drew) (by decide) e.symm); have hx7 := ((HBX6.out.alloc (.cells #[.int .u64 (q.seq : Int), .int .i64 rp.err, .slice A3 rp.vals.length c3, .string ⟨rp.text.toArray⟩] 70)).drew).grown hg7 (fun e => own_blk_ne ((World.ownsRow.alloc HROW.out (.cells #[.int .u64 (q.seq : Int), .int .i64 rp.err, .slice A3 rp.vals.length c3, .string ⟨rp.text.toArray⟩] 70)).drew) ((HBX6.out.alloc (.cells #[.int .u64 (q.seq : Int), .int .i64 rp.err, .slice A3 rp.vals.length c3, .string ⟨rp.text.toArray⟩] 70)).drew) (by decide) e.symm); have t2 : w7.cell? ⟨w.heap.size, 2, none⟩ = some (.int .u64 (q.seq : Int)) := hx7.cell 2; have hS7 := And.intro t14 (And.intro t2 (And.intro (show w7.cell? ⟨b3, 0, none⟩ = some (.int .i64 rp.err) from hb7.cell 0) (And.intro (show w7.cell? ⟨b3, 1, none⟩ = some (.slice A3 rp.vals.length c3) from hb7.cell 1) (show w7.cell? ⟨b3, 2, none⟩ = some (.string ⟨rp.text.toArray⟩) from hb7.cell 2)))); clear hr7 hg7 hv7 hst hb7 hx7)
          try go_simp
          refine hK2.out _ _ (hS7) (fun hHeld => ?_)
          clear hK2 K2
          try simp only [Act.put, List.setIfInBounds_toArray, List.set_cons_zero, List.set_cons_succ]
          refine wpAnyX_one (i := 11) (by kernel_rfl) (by simp only [List.getElem?_toArray, List.getElem?_cons_succ, List.getElem?_cons_zero]; rfl) (fun K2 hK2 => ?_)
          go_simp
          refine hK2.out _ _ (hHeld) (fun hHeld => ?_)
          clear hK2 K2
          try simp only [Act.put, List.setIfInBounds_toArray, List.set_cons_zero, List.set_cons_succ]
          refine wpAnyX_one (i := 12) (by kernel_rfl) (by simp only [List.getElem?_toArray, List.getElem?_cons_succ, List.getElem?_cons_zero]; rfl) (fun K2 hK2 => ?_)
          go_simp
          refine hK2.out _ _ (hHeld) (fun hHeld => ?_)
          clear hK2 K2
          try simp only [Act.put, List.setIfInBounds_toArray, List.set_cons_zero, List.set_cons_succ]
          refine wpAnyX_last (by kernel_rfl) (by simp only [List.getElem?_toArray, List.getElem?_cons_succ, List.getElem?_cons_zero]; rfl) (fun K2 hK2 => ?_)
          go_simp
          refine hK2.out _ _ ?_
          clear hK2 K2
          try simp only [Act.put, List.setIfInBounds_toArray, List.set_cons_zero, List.set_cons_succ]
          refine wpAnyX_done (by kernel_rfl) ?_ _
          go_wp2
          go_ret
          rw [HF.out]
          refine ⟨_, [], { p with ev := .slice A7 (p.el.length + 1) c7, el := p.el ++ [((q.seq, rp), A3, c3)] }, rfl, ?_, FrsD.nil _ _ _⟩
          have hg7 := HG7.out
          rw [← HEV.out] at hg7
          have hca := HCD6.out (.cells #[.int .u64 (q.seq : Int), .int .i64 rp.err, .slice A3 rp.vals.length c3, .string ⟨rp.text.toArray⟩] 70)
          have hst := hca.stayE hg7
          have hws := HW6.out
          have hbs := HBS.out
          have hc8 : Chg (fun k => k = p.g) w7 (w7.setCell ⟨p.g, 14, none⟩ (.slice A7 (p.el.length + 1) c7)) := (Chg.refl (fun k => k = p.g) w7).setCell (p := ⟨p.g, 14, none⟩) (fun _ => rfl) _
          refine ⟨hca.pushE (x := ((q.seq, rp), A3, c3)) (own_base ((World.ownsRow.alloc HO6.out _).drew) (by omega)) (fun k hk hc => ?_) HR7.out hg7 (by rw [HEV.out]; exact HV7.out) (hst.1.set_ 14 _) hc8 rfl rfl rfl rfl, rfl, fun k hk => ?_, fun k hk => .inl hk, ?_, by dsimp only; omega⟩
          · have h1 := (World.ownsRow.lt HO6.out k hk).1
            have h2 := HLT.out k hc
            omega
          · rcases hk with e | e | e | e | (e | e)
            · exact .inl (.inl e)
            · exact .inl (.inr (.inl e))
            · exact .inl (.inr (.inr (.inl e)))
            · exact .inl (.inr (.inr (.inr (.inl e))))
            · rcases HV7.out with h1 | h1
              · exact .inl (.inr (.inr (.inr (.inr (.inl (by rw [HEV.out, ← h1]; exact e))))))
              · refine .inr ?_
                have h2 : (Value.slice A7 (p.el.length + 1) c7).ownBlock = some k := e
                rw [h1] at h2
                injection h2 with h2
                rw [← h2]
                simp [World.drew]
                omega
            · rcases inB_push e with e | e
              · exact .inl (.inr (.inr (.inr (.inr (.inr e)))))
              · have h1 := (World.ownsRow.lt HO6.out k e).1
                exact .inr (by omega)
          · exact (((HS6.out.chg.alloc _).drew).trans (Chg.of_grown hg7 (F := CFd p) fun k hk => .inr (.inr (.inr (.inr (.inl hk))))) (fun _ _ h => h)).trans hc8 fun i _ e => .inl e
end Go.Proofs.Ytjhkfpemcplaaaa
namespace Go.Proofs.Ytjhkfpemcplaaaa
open Go.RowKit

theorem CD.setRep {base : Nat} {w : World} {p : Pa} {c : Cl} (h : CD base w p c) (t : Nat) : StpD base w p 0 { c with rep := t, wait := 0 } p ((w.setCell ⟨p.g, 7, none⟩ (.int .u64 (t : Int))).setCell ⟨p.g, 9, none⟩ (.int .i64 0)) := by
  have hc : Chg (fun k => k = p.g) w ((w.setCell ⟨p.g, 7, none⟩ (.int .u64 (t : Int))).setCell ⟨p.g, 9, none⟩ (.int .i64 0)) := ((Chg.refl (fun k => k = p.g) w).setCell (p := ⟨p.g, 7, none⟩) (fun _ => rfl) _).setCell (p := ⟨p.g, 9, none⟩) (fun _ => rfl) _
  exact ⟨h.turn ((h.blk.set_ 7 _).set_ 9 _) hc rfl rfl rfl rfl, rfl, fun k hk => .inl hk, fun k hk => .inl hk, hc.mono fun k _ e => .inl e, by omega⟩
set_option maxRecDepth 20000 in
set_option maxHeartbeats 4000000 in
theorem rpack_rep {base N : Nat} {p : Pa} {c : Cl} {w : World} (q : Pk) (A : Option Addr) (cc : Nat) (h : CD base w p c) (ok : c.Ok N) (hN : (N + 1) * 48 ≤ 140737488355328) (hqs : q.seq < 18446744073709551616) (hqt : q.tok < 18446744073709551616) (hr : RdB w w.heap.size A q.body.length q.body) (hcc : q.body.length ≤ cc) (hlen : q.body.length ≤ 1024) (hk : q.kind = 4) :
    Calls Try.prog 84 #[.pointer (some ⟨p.g, 0, none⟩), pkV q A cc] w (RMetP base w p (packF c q)) := by
  have HP : Hid (packF c q = repF c q) := Lib.hid (by unfold packF; rw [if_neg (by omega), if_pos hk])
  have HOKN := Lib.hid (packF_ok (q := q) ok hqt hqs)
  rw [HP.out] at HOKN
  rw [HP.out]
  have hB := Bx.start (cc := cc) hr
  have hS1 := (StpD.refl h 0).below hB.old
  obtain ⟨w1, hw1⟩ : ∃ w1, w.alloc (.cells (pkC q A cc) 39) = w1 := ⟨_, rfl⟩
  rw [hw1] at hB hS1
  have HS1 := Lib.hid hS1
  have HB := Lib.hid hB
  have x0 : w1.cell? ⟨w.heap.size, 0, none⟩ = some (.int .i64 (q.kind : Int)) := hB.blk.cell 0
  have x1 : w1.cell? ⟨w.heap.size, 1, none⟩ = some (.int .u64 (q.tok : Int)) := hB.blk.cell 1
  have x4 : w1.cell? ⟨w.heap.size, 4, none⟩ = some (.slice A q.body.length cc) := hB.blk.cell 4
  have k3 : w1.cell? ⟨p.g, 3, none⟩ = some (.int .u64 (c.tok : Int)) := hS1.cd.blk.cell 3
  have HLT : Hid (∀ k, CFe p k → k < w.heap.size) := Lib.hid fun k hk => (h.cfe hk).2
  have HBS : Hid (base ≤ w.heap.size) := Lib.hid (by have := h.cfe (k := p.g) (.inl (.inl rfl)); omega)
  unfold pkV
  unfold pkC at hw1
  have e5 : (q.kind : Int) = 4 := by omega
  rw [e5] at hw1 x0 ⊢
  have HOK := Lib.hid ok
  have HK5 := Lib.hid e5
  clear h hr hB hS1 hk e5 ok HP
  have hown : ∃ own : Bool, ((q.tok : Int) == (c.tok : Int)) = own ∧ (own = true ↔ q.tok = c.tok) := by
    by_cases ht : q.tok = c.tok
    · exact ⟨true, by simp [ht], fun _ => ht, fun _ => rfl⟩
    · exact ⟨false, by simp; omega, (fun e => by cases e), fun e => absurd e ht⟩
  obtain ⟨own, ho, how⟩ := hown
  have HOW := Lib.hid how
  clear how
  go_enter Try.func84, Try.ntmps84
  go_upto_region 1 with fail
  go_quiet (fail)
  have HS2 := Lib.hid (HS1.out.below (below_drewN (Below.refl _ _) nq))
  have HBX : Hid (Blk (w1.drewN nq) w.heap.size 39 (pkC q A cc)) := Lib.hid HB.out.blk
  have HRD : Hid (RdB (w1.drewN nq) (w1.drewN nq).heap.size A q.body.length q.body) := Lib.hid HB.out.rd
  have HW2 : Hid (w.heap.size ≤ (w1.drewN nq).heap.size) := Lib.hid HB.out.old.size
  have y0 : (w1.drewN nq).cell? ⟨w.heap.size, 0, none⟩ = some (.int .i64 4) := x0
  have y4 : (w1.drewN nq).cell? ⟨w.heap.size, 4, none⟩ = some (.slice A q.body.length cc) := x4
  clear x0 x1 x4 k3 HS1 hw1 HB ho
  generalize w1.drewN nq = w2 at *
  have HG := Lib.hid (rget_any A q.body.length cc q.body w2 HRD.out hcc hlen)
  go_upto_region 20 with (go_at_call 31; refine HG.out.mono ?_; rintro e w3 ⟨er, A3, n3, c3, st, ok, rfl, hb3, hok3, hg3⟩; have HB3 := Lib.hid hb3; have HOK3 := Lib.hid hok3; have HG3 := Lib.hid hg3; clear hb3 hok3 hg3)
  have HQ := Lib.hid (Blk.new w3 53 #[.int .i64 er, .slice A3 n3 c3, .string st])
  have HB4 : Hid (Below w2.heap.size w2 (w3.alloc (.cells #[.int .i64 er, .slice A3 n3 c3, .string st] 53))) := Lib.hid (HB3.out.alloc HB3.out.size _)
  have HG4 : Hid (goodG q.body → er = (repG q.body).err ∧ n3 = (repG q.body).vals.length ∧ st = ⟨(repG q.body).text.toArray⟩ ∧ (w3.alloc (.cells #[.int .i64 er, .slice A3 n3 c3, .string st] 53)).ownsRow w2.heap.size 68 2 (.slice A3 n3 c3) n3 (vcells (repG q.body).vals)) := Lib.hid fun h => by
    obtain ⟨a1, a2, a3, a4⟩ := HG3.out h
    exact ⟨a1, a2, a3, World.ownsRow.alloc a4 _⟩
  generalize w3.alloc (.cells #[.int .i64 er, .slice A3 n3 c3, .string st] 53) = w4 at *
  have HB3W : Hid (w.heap.size ≤ w3.heap.size) := Lib.hid (by have := HW2.out; have := HB3.out.size; omega)
  generalize w3.heap.size = b3 at *
  have HS4 := Lib.hid (HS2.out.below HB4.out)
  have HBX4 := Lib.hid (HBX.out.below HB4.out HBX.out.lt)
  have k3 : w4.cell? ⟨p.g, 3, none⟩ = some (.int .u64 (c.tok : Int)) := HS4.out.cd.blk.cell 3
  have k6 : w4.cell? ⟨p.g, 6, none⟩ = some (.int .u64 (c.iss : Int)) := HS4.out.cd.blk.cell 6
  have k7 : w4.cell? ⟨p.g, 7, none⟩ = some (.int .u64 (c.rep : Int)) := HS4.out.cd.blk.cell 7
  have z0 : w4.cell? ⟨w.heap.size, 0, none⟩ = some (.int .i64 4) := (HBX4.out.cell 0).trans (by show some (Value.int .i64 (q.kind : Int)) = _; rw [HK5.out])
  have z2 : w4.cell? ⟨w.heap.size, 2, none⟩ = some (.int .u64 (q.seq : Int)) := HBX4.out.cell 2
  have HW4 : Hid (w.heap.size ≤ w4.heap.size ∧ w.heap.size ≤ w2.heap.size) := Lib.hid (by have := HW2.out; have := HB4.out.size; omega)
  clear y0 y4 HG HB3 HG3 HRD HBX HS2
  cases ok with
  | false => as_aux_lemma =>
    have HF : Hid (repF c q = ([], c)) := Lib.hid (by
      have hn : ¬ goodG q.body := fun h => by have := HOK3.out.2 h; cases this
      unfold repF
      split
      · rfl
      · rw [getG_no hn])
    go_wp2
    go_ret
    rw [HF.out]
    exact ⟨_, [], p, rfl, HS4.out, FrsD.nil _ _ _⟩
  | true =>
    have hgd := HOK3.out.1 rfl
    cases own with
    | false => as_aux_lemma =>
      have HF : Hid (repF c q = ([], c)) := Lib.hid (by
        have hn : q.tok ≠ c.tok := fun h => by have := HOW.out.2 h; cases this
        unfold repF
        rw [if_pos (.inl (by simp [oursB, hn]))])
      go_wp2
      go_ret
      rw [HF.out]
      exact ⟨_, [], p, rfl, HS4.out, FrsD.nil _ _ _⟩
    | true =>
      have htk := HOW.out.1 rfl
      by_cases ht0 : c.tok = 0
      · as_aux_lemma =>
        have HF : Hid (repF c q = ([], c)) := Lib.hid (by unfold repF; rw [if_pos (.inl (by simp [oursB, ht0]))])
        have d1 : ((c.tok : Int) == 0) = true := by simp [ht0]
        clear ht0 htk hgd
        go_wp2
        go_ret
        rw [HF.out]
        exact ⟨_, [], p, rfl, HS4.out, FrsD.nil _ _ _⟩
      · have d1 : ((c.tok : Int) == 0) = false := by simp; omega
        have hours : oursB c q = true := by simp [oursB, ht0, htk]
        have HOU := Lib.hid hours
        clear ht0 htk hours
        have brp := HOK.out.rp
        have bis := HOK.out.is
        have er : IntKind.u64.wrap ((c.rep : Int) + 1) = (c.rep : Int) + 1 := by simp [IntKind.wrap, IntKind.bits, IntKind.signed]; omega
        by_cases hs1 : q.seq ≠ c.rep + 1
        · as_aux_lemma =>
          have HF : Hid (repF c q = ([], c)) := Lib.hid (by unfold repF; rw [if_pos (.inr (.inl hs1))])
          have l1 : ((q.seq : Int) != (c.rep : Int) + 1) = true := by simp; omega
          clear hgd hs1
          go_upto_region 27 with fail
          go_quiet (fail)
          go_wp2
          go_ret
          rw [HF.out]
          exact ⟨_, [], p, rfl, HS4.out.below (below_drewN (Below.refl _ _) _), FrsD.nil _ _ _⟩
        · have l1 : ((q.seq : Int) != (c.rep : Int) + 1) = false := by simp; omega
          by_cases hs2 : c.iss < q.seq
          · as_aux_lemma =>
            have HF : Hid (repF c q = ([], c)) := Lib.hid (by unfold repF; rw [if_pos (.inr (.inr hs2))])
            have l2 : (c.iss : Int) < (q.seq : Int) := by omega
            clear hgd hs1 hs2
            go_upto_region 27 with fail
            go_quiet (fail)
            go_wp2
            go_ret
            rw [HF.out]
            exact ⟨_, [], p, rfl, HS4.out.below (below_drewN (Below.refl _ _) _), FrsD.nil _ _ _⟩
          · have HF : Hid (repF c q = (if c.greet = true ∧ c.rep + 1 + c.win ≤ c.iss then [({ c with reps := c.reps ++ [repG q.body], rep := c.rep + 1, wait := 0 } : Cl).cmd (c.rep + 1 + c.win)] else [], { c with reps := c.reps ++ [repG q.body], rep := c.rep + 1, wait := 0 })) := Lib.hid (by
              unfold repF
              rw [if_neg (by rintro (h | h | h); · rw [HOU.out] at h; cases h
                             · exact hs1 h
                             · exact hs2 h), getG_yes hgd])
            have l2 : ¬ (c.iss : Int) < (q.seq : Int) := by omega
            obtain ⟨a1, a2, a3, a4⟩ := HG4.out hgd
            obtain ⟨rp, hrp⟩ : ∃ rp, repG q.body = rp := ⟨_, rfl⟩
            rw [hrp] at a1 a2 a3 a4 HF
            have HOK2 : Hid (({ c with reps := c.reps ++ [rp], rep := c.rep + 1, wait := 0 } : Cl).Ok (N + 1)) := Lib.hid (by
              have := HOKN.out
              rw [HF.out] at this
              exact this)
            subst a1 a2 a3
            have HO4 := Lib.hid a4
            clear a4 HG4 hgd hs1 hs2 hrp HOKN
            go_upto_region 27 with fail
            go_quiet (fail)
            have HS5 := Lib.hid (HS4.out.below (below_drewN (Below.refl _ _) nq))
            have HQ5 : Hid (Blk (w4.drewN nq) b3 53 #[.int .i64 rp.err, .slice A3 rp.vals.length c3, .string ⟨rp.text.toArray⟩]) := Lib.hid HQ.out
            have HO5 : Hid ((w4.drewN nq).ownsRow w2.heap.size 68 2 (.slice A3 rp.vals.length c3) rp.vals.length (vcells rp.vals)) := Lib.hid HO4.out
            have HW5 : Hid (w.heap.size ≤ (w4.drewN nq).heap.size ∧ w.heap.size ≤ w2.heap.size) := Lib.hid HW4.out
            clear k3 k6 k7 z0 z2 HS4 HQ HBX4 HO4 HW4 HB4
            generalize w4.drewN nq = w5 at *
            have k7 : w5.cell? ⟨p.g, 7, none⟩ = some (.int .u64 (c.rep : Int)) := HS5.out.cd.blk.cell 7
            have k9 : w5.cell? ⟨p.g, 9, none⟩ = some (.int .i64 (c.wait : Int)) := HS5.out.cd.blk.cell 9
            have f7 := HS5.out.cd.blk.frozen 7
            have f9 := HS5.out.cd.blk.frozen 9
            have hg5 := HS5.out.cd.blk.lt
            obtain ⟨j, hj⟩ : ∃ j, c.rep + 1 = j := ⟨_, rfl⟩
            have ej : (c.rep : Int) + 1 = (j : Int) := by omega
            rw [ej] at er
            rw [hj] at HF HOK2
            go_upto_region 31 with fail
            have hS6 := HS5.out.trans (HS5.out.cd.setRep j)
            have hb3g : b3 ≠ p.g := Blk.ne_ HQ5.out HS5.out.cd.blk (by decide)
            have HQ6 := Lib.hid ((HQ5.out.far (p := ⟨p.g, 7, none⟩) hb3g (.int .u64 (j : Int))).far (p := ⟨p.g, 9, none⟩) hb3g (.int .i64 0))
            have HO6 := Lib.hid (own_same (w' := (w5.setCell ⟨p.g, 7, none⟩ (.int .u64 (j : Int))).setCell ⟨p.g, 9, none⟩ (.int .i64 0)) HO5.out fun k hk => by
              have hne : k ≠ p.g := fun e => own_blk_ne HO5.out HS5.out.cd.blk (by decide) (by rw [hk]; exact congrArg some e)
              rw [Below.heap_setCell _ _ _ _ hne, Below.heap_setCell _ _ _ _ hne])
            have HW6 : Hid (w.heap.size ≤ ((w5.setCell ⟨p.g, 7, none⟩ (.int .u64 (j : Int))).setCell ⟨p.g, 9, none⟩ (.int .i64 0)).heap.size ∧ w.heap.size ≤ w2.heap.size) := Lib.hid (by simpa [World.setCell] using HW5.out)
            generalize (w5.setCell ⟨p.g, 7, none⟩ (.int .u64 (j : Int))).setCell ⟨p.g, 9, none⟩ (.int .i64 0) = w6 at *
            have HS6 := Lib.hid hS6
            clear hS6 HS5 HQ5 HO5 HW5 k7 k9 f7 f9 hg5 l1 l2 d1 hb3g ej er
            obtain ⟨Av, cv, hev, _, _⟩ := HS6.out.cd.rows.r.form
            have HEV := Lib.hid hev
            have HROW := Lib.hid HS6.out.cd.rows.r.row
            rw [hev] at HROW
            have q13 : w6.cell? ⟨p.g, 13, none⟩ = some (.slice Av p.rl.length cv) := (HS6.out.cd.blk.cell 13).trans (by rw [← hev]; rfl)
            have r0 : w6.cell? ⟨b3, 0, none⟩ = some (.int .i64 rp.err) := HQ6.out.cell 0
            have r1 : w6.cell? ⟨b3, 1, none⟩ = some (.slice A3 rp.vals.length c3) := HQ6.out.cell 1
            have r2 : w6.cell? ⟨b3, 2, none⟩ = some (.string ⟨rp.text.toArray⟩) := HQ6.out.cell 2
            have hlb : (p.rl.length + 1) * 48 ≤ 140737488355328 := by
              have h1 := congrArg List.length HS6.out.cd.rows.ri
              rw [List.length_map] at h1
              have := HOK.out.rl
              dsimp only at h1
              omega
            obtain ⟨i0, hi, hz0, hz1, hz2⟩ := info_parts info53
            have HNE : Hid ((Value.slice Av p.rl.length cv).ownBlock ≠ some b3) := Lib.hid (fun e => by have := HLT.out b3 (.inl (.inr (.inr (.inr (.inl (.inl (by rw [hev]; exact e))))))); have := HB3W.out; omega)
            have hbase6 : base ≤ w6.heap.size := by have := HBS.out; have := HW6.out; omega
            have hS : w6.drew.cell? ⟨p.g, 13, none⟩ = some (.slice Av p.rl.length cv) ∧ w6.drew.cell? ⟨b3, 0, none⟩ = some (.int .i64 rp.err) ∧ w6.drew.cell? ⟨b3, 1, none⟩ = some (.slice A3 rp.vals.length c3) ∧ w6.drew.cell? ⟨b3, 2, none⟩ = some (.string ⟨rp.text.toArray⟩) := ⟨q13, r0, r1, r2⟩
            have hg6 := HS6.out.cd.blk.lt
            have hb36 := HQ6.out.lt
            have HCD6 := Lib.hid fun (o : Obj) => CD.below HS6.out.cd (((Below.refl _ _).alloc (Nat.le_refl _) o).drew)
            refine wp_region_x (s := 10) (S := fun W => W.cell? ⟨p.g, 13, none⟩ = some (.slice Av p.rl.length cv) ∧ W.cell? ⟨b3, 0, none⟩ = some (.int .i64 rp.err) ∧ W.cell? ⟨b3, 1, none⟩ = some (.slice A3 rp.vals.length c3) ∧ W.cell? ⟨b3, 2, none⟩ = some (.string ⟨rp.text.toArray⟩)) (by kernel_rfl) hS (fun hHeld => ?_)
            refine wpAnyX_take (i := 0) (v := ?_) (by simp only [List.getElem?_toArray, List.getElem?_cons_zero]; rfl) (by kernel_rfl) (by kernel_rfl) (by kernel_rfl) (by kernel_rfl) (by exact fun _ _ _ h => h) (Or.inl ⟨by rfl, ?_⟩) (by assumption) ?_
            rotate_left
            · intro w hSw; (try dsimp only at hSw); go_split_ands; go_simp <;> with_reducible rfl
            try simp only [Act.put, List.setIfInBounds_toArray, List.set_cons_zero, List.set_cons_succ]
            refine wpAnyX_take (i := 1) (v := ?_) (by simp only [List.getElem?_toArray, List.getElem?_cons_succ, List.getElem?_cons_zero]; rfl) (by kernel_rfl) (by kernel_rfl) (by kernel_rfl) (by kernel_rfl) (by exact fun _ _ _ h => h) (Or.inl ⟨by rfl, ?_⟩) (by assumption) ?_
            rotate_left
            · intro w hSw; (try dsimp only at hSw); go_split_ands; go_simp <;> with_reducible rfl
            try simp only [Act.put, List.setIfInBounds_toArray, List.set_cons_zero, List.set_cons_succ]
            refine wpAnyX_take (i := 2) (v := ?_) (by simp only [List.getElem?_toArray, List.getElem?_cons_succ, List.getElem?_cons_zero]; rfl) (by kernel_rfl) (by kernel_rfl) (by kernel_rfl) (by kernel_rfl) (by exact fun _ _ _ h => h) (Or.inl ⟨by rfl, ?_⟩) (by assumption) ?_
            rotate_left
            · intro w hSw; (try dsimp only at hSw); go_split_ands; go_simp <;> with_reducible rfl
            try simp only [Act.put, List.setIfInBounds_toArray, List.set_cons_zero, List.set_cons_succ]
            refine wpAnyX_take (i := 3) (v := ?_) (by simp only [List.getElem?_toArray, List.getElem?_cons_succ, List.getElem?_cons_zero]; rfl) (by kernel_rfl) (by kernel_rfl) (by kernel_rfl) (by kernel_rfl) (by exact fun _ _ _ h => h) (Or.inl ⟨by rfl, ?_⟩) (by assumption) ?_
            rotate_left
            · intro w hSw; (try dsimp only at hSw); go_split_ands; go_simp <;> with_reducible rfl
            try simp only [Act.put, List.setIfInBounds_toArray, List.set_cons_zero, List.set_cons_succ]
            refine wpAnyX_take (i := 4) (v := ?_) (by simp only [List.getElem?_toArray, List.getElem?_cons_succ, List.getElem?_cons_zero]; rfl) (by kernel_rfl) (by kernel_rfl) (by kernel_rfl) (by kernel_rfl) (by exact fun _ _ _ h => h) (Or.inl ⟨by rfl, ?_⟩) (by assumption) ?_
            rotate_left
            · intro w hSw; (try dsimp only at hSw); go_split_ands; go_simp <;> with_reducible rfl
            try simp only [Act.put, List.setIfInBounds_toArray, List.set_cons_zero, List.set_cons_succ]
            refine wpAnyX_take (i := 5) (v := ?_) (by simp only [List.getElem?_toArray, List.getElem?_cons_succ, List.getElem?_cons_zero]; rfl) (by kernel_rfl) (by kernel_rfl) (by kernel_rfl) (by kernel_rfl) (by exact fun _ _ _ h => h) (Or.inl ⟨by rfl, ?_⟩) (by assumption) ?_
            rotate_left
            · intro w hSw; (try dsimp only at hSw); go_split_ands; go_simp <;> with_reducible rfl
            try simp only [Act.put, List.setIfInBounds_toArray, List.set_cons_zero, List.set_cons_succ]
            refine wpAnyX_one (i := 6) (by kernel_rfl) (by simp only [List.getElem?_toArray, List.getElem?_cons_succ, List.getElem?_cons_zero]; rfl) (fun K2 hK2 => ?_)
            go_simp
            refine hK2.out _ _ (by go_keep) (fun hHeld => ?_)
            clear hK2 K2
            try simp only [Act.put, List.setIfInBounds_toArray, List.set_cons_zero, List.set_cons_succ]
            refine wpAnyX_one (i := 7) (by kernel_rfl) (by simp only [List.getElem?_toArray, List.getElem?_cons_succ, List.getElem?_cons_zero]; rfl) (fun K2 hK2 => ?_)
            (refine step_append_any _ rfl (.tmp 183) (.tmp 185) 63 rfl base 53 i0 _ 3 48 Try.underlying63 hi hz0 hz1 hz2 rfl (by decide) (.slice Av p.rl.length cv) p.rl.length (kR.flat p.rl) (by rfl) ((World.ownsRow.alloc HROW.out _).drew) _ _ 1 1 [.int .i64 rp.err, .slice A3 rp.vals.length c3, .string ⟨rp.text.toArray⟩] (by rfl) ((read_one _ [.int .i64 rp.err, .slice A3 rp.vals.length c3, .string ⟨rp.text.toArray⟩] 53).drew) (by simp [Value.oneCell']) (by simp only [maxLen]; omega) hlb (by simp; omega) ?_; intro v7 w7 hr7 hg7 hv7; obtain ⟨A7, c7, rfl, _, _⟩ := own_formL hr7; have HR7 := Lib.hid hr7; have HG7 := Lib.hid hg7; have HV7 := Lib.hid hv7; have hst := (HCD6.out (.cells #[.int .i64 rp.err, .slice A3 rp.vals.length c3, .string ⟨rp.text.toArray⟩] 53)).stayR (by rw [HEV.out]; exact hg7); have t13 : w7.cell? ⟨p.g, 13, none⟩ = some (.slice Av p.rl.length cv) := (hst.1.cell 13).trans (by rw [← HEV.out]; rfl); have fr13 := hst.1.frozen 13; have hg7w := hst.1.lt; have hne7 := HNE.out; have hb7 := ((HQ6.out.alloc (.cells #[.int .i64 rp.err, .slice A3 rp.vals.length c3, .string ⟨rp.text.toArray⟩] 53)).drew).grown hg7 (fun e => hne7 e.symm); have hS7 := And.intro t13 (And.intro (show w7.cell? ⟨b3, 0, none⟩ = some (.int .i64 rp.err) from hb7.cell 0) (And.intro (show w7.cell? ⟨b3, 1, none⟩ = some (.slice A3 rp.vals.length c3) from hb7.cell 1) (show w7.cell? ⟨b3, 2, none⟩ = some (.string ⟨rp.text.toArray⟩) from hb7.cell 2))); clear hr7 hg7 hv7 hst hb7 hne7)
            try go_simp
            refine hK2.out _ _ (hS7) (fun hHeld => ?_)
            clear hK2 K2
            try simp only [Act.put, List.setIfInBounds_toArray, List.set_cons_zero, List.set_cons_succ]
            refine wpAnyX_one (i := 8) (by kernel_rfl) (by simp only [List.getElem?_toArray, List.getElem?_cons_succ, List.getElem?_cons_zero]; rfl) (fun K2 hK2 => ?_)
            go_simp
            refine hK2.out _ _ (hHeld) (fun hHeld => ?_)
            clear hK2 K2
            try simp only [Act.put, List.setIfInBounds_toArray, List.set_cons_zero, List.set_cons_succ]
            refine wpAnyX_one (i := 9) (by kernel_rfl) (by simp only [List.getElem?_toArray, List.getElem?_cons_succ, List.getElem?_cons_zero]; rfl) (fun K2 hK2 => ?_)
            go_simp
            refine hK2.out _ _ (hHeld) (fun hHeld => ?_)
            clear hK2 K2
            try simp only [Act.put, List.setIfInBounds_toArray, List.set_cons_zero, List.set_cons_succ]
            refine wpAnyX_last (by kernel_rfl) (by simp only [List.getElem?_toArray, List.getElem?_cons_succ, List.getElem?_cons_zero]; rfl) (fun K2 hK2 => ?_)
            go_simp
            refine hK2.out _ _ ?_
            clear hK2 K2
            try simp only [Act.put, List.setIfInBounds_toArray, List.set_cons_zero, List.set_cons_succ]
            refine wpAnyX_done (by kernel_rfl) ?_ _
            have hS8 : StpD base w p 0 { c with reps := c.reps ++ [rp], rep := j, wait := 0 } { p with rv := .slice A7 (p.rl.length + 1) c7, rl := p.rl ++ [(rp, A3, c3)] } (w7.setCell ⟨p.g, 13, none⟩ (.slice A7 (p.rl.length + 1) c7)) := by
              have hg7 := HG7.out
              rw [← HEV.out] at hg7
              have hca := HCD6.out (.cells #[.int .i64 rp.err, .slice A3 rp.vals.length c3, .string ⟨rp.text.toArray⟩] 53)
              have hst := hca.stayR hg7
              have hws := HW6.out
              have hbs := HBS.out
              have hc8 : Chg (fun k => k = p.g) w7 (w7.setCell ⟨p.g, 13, none⟩ (.slice A7 (p.rl.length + 1) c7)) := (Chg.refl (fun k => k = p.g) w7).setCell (p := ⟨p.g, 13, none⟩) (fun _ => rfl) _
              refine ⟨hca.pushR (x := (rp, A3, c3)) (own_base ((World.ownsRow.alloc HO6.out _).drew) (by omega)) (fun k hk hc => ?_) HR7.out hg7 (by rw [HEV.out]; exact HV7.out) (hst.1.set_ 13 _) hc8 rfl rfl rfl rfl, rfl, fun k hk => ?_, fun k hk => .inl hk, ?_, by dsimp only; omega⟩
              · have h1 := (World.ownsRow.lt HO6.out k hk).1
                have h2 := HLT.out k hc
                omega
              · rcases hk with e | e | e | (e | e) | e
                · exact .inl (.inl e)
                · exact .inl (.inr (.inl e))
                · exact .inl (.inr (.inr (.inl e)))
                · rcases HV7.out with h1 | h1
                  · exact .inl (.inr (.inr (.inr (.inl (.inl (by rw [HEV.out, ← h1]; exact e))))))
                  · refine .inr ?_
                    have h2 : (Value.slice A7 (p.rl.length + 1) c7).ownBlock = some k := e
                    rw [h1] at h2
                    injection h2 with h2
                    rw [← h2]
                    simp [World.drew]
                    omega
                · rcases inB_push e with e | e
                  · exact .inl (.inr (.inr (.inr (.inl (.inr e)))))
                  · have h1 := (World.ownsRow.lt HO6.out k e).1
                    exact .inr (by omega)
                · exact .inl (.inr (.inr (.inr (.inr e))))
              · exact (((HS6.out.chg.alloc _).drew).trans (Chg.of_grown hg7 (F := CFd p) fun k hk => .inr (.inr (.inr (.inl (.inl hk))))) (fun _ _ h => h)).trans hc8 fun i _ e => .inl e
            go_upto_region 32 with fail
            generalize w7.setCell ⟨p.g, 13, none⟩ (.slice A7 (p.rl.length + 1) c7) = w8 at hS8 ⊢
            generalize hp' : ({ p with rv := .slice A7 (p.rl.length + 1) c7, rl := p.rl ++ [(rp, A3, c3)] } : Pa) = p' at hS8
            have HS8 := Lib.hid hS8
            have hpg : p'.g = p.g := by rw [← hp']
            have k1 : w8.cell? ⟨p.g, 1, none⟩ = some (.int .i64 (c.win : Int)) := by rw [← hpg]; exact hS8.cd.blk.cell 1
            have k5 : w8.cell? ⟨p.g, 5, none⟩ = some (.bool c.greet) := by rw [← hpg]; exact hS8.cd.blk.cell 5
            have k6 : w8.cell? ⟨p.g, 6, none⟩ = some (.int .u64 (c.iss : Int)) := by rw [← hpg]; exact hS8.cd.blk.cell 6
            have k7 : w8.cell? ⟨p.g, 7, none⟩ = some (.int .u64 (j : Int)) := by rw [← hpg]; exact hS8.cd.blk.cell 7
            have HSZ : Hid (w.heap.size ≤ w8.heap.size) := Lib.hid hS8.chg.size
            have hwi := HOK.out.wi
            obtain ⟨kk, hkk⟩ : ∃ kk, j + c.win = kk := ⟨_, rfl⟩
            have ew : IntKind.u64.wrap (c.win : Int) = (c.win : Int) := by simp [IntKind.wrap, IntKind.bits, IntKind.signed]; omega
            have er : IntKind.u64.wrap ((j : Int) + (c.win : Int)) = (kk : Int) := by simp [IntKind.wrap, IntKind.bits, IntKind.signed]; omega
            rw [hkk] at HF
            clear hS8 hp' q13 r0 r1 r2 hS HS6 HQ6 HO6 HROW HR7 HG7 HV7 HCD6 fr13 hg7w hb36 hg6 hlb
            go_quiet (fail)
            have HB9 : Hid (Below w8.heap.size w8 (w8.drewN nq)) := Lib.hid (below_drewN (Below.refl _ _) nq)
            have m5 : (w8.drewN nq).cell? ⟨p.g, 5, none⟩ = some (.bool c.greet) := k5
            have m6 : (w8.drewN nq).cell? ⟨p.g, 6, none⟩ = some (.int .u64 (c.iss : Int)) := k6
            clear k1 k5 k6 k7
            generalize w8.drewN nq = w9 at *
            cases hgr : c.greet with
            | false => as_aux_lemma =>
              rw [hgr] at m5
              go_wp2
              go_ret
              rw [HF.out, if_neg (by rw [hgr]; rintro ⟨h, _⟩; cases h)]
              exact ⟨_, [], p', rfl, HS8.out.below HB9.out, FrsD.nil _ _ _⟩
            | true =>
              rw [hgr] at m5
              by_cases hle : kk ≤ c.iss
              · as_aux_lemma =>
                have n1 : (kk : Int) ≤ (c.iss : Int) := by omega
                have HCM := Lib.hid (rcmd_any (HS8.out.cd.below HB9.out) HOK2.out (by omega) kk (by omega) hle)
                rw [hpg] at HCM
                go_wp2_with (go_at_call 82; refine HCM.out.mono ?_; rintro e w10 ⟨v10, rfl, ho10, hb10⟩; obtain ⟨A10, c10, rfl, _, _⟩ := ho10.form; have HO10 := Lib.hid ho10; have HB10 := Lib.hid hb10; clear ho10 hb10)
                go_ret
                rw [HF.out, if_pos ⟨hgr, hle⟩]
                have hb9 := HB9.out.trans (HB10.out.mono HB9.out.size)
                have hb11 := hb9.alloc hb9.size (.cells #[.slice A10 (frm (({ c with reps := c.reps ++ [rp], rep := j, wait := 0 } : Cl).cmd kk)).length c10] 37)
                exact HS8.out.ans (B := w9.heap.size) (Nat.le_trans HSZ.out HB9.out.size) HB9.out.size rfl (one_row HO10.out HB10.out.size) rfl hb11
              · as_aux_lemma =>
                have n1 : ¬ (kk : Int) ≤ (c.iss : Int) := by omega
                go_wp2
                go_ret
                rw [HF.out, if_neg (by rintro ⟨_, h⟩; exact hle h)]
                exact ⟨_, [], p', rfl, HS8.out.below HB9.out, FrsD.nil _ _ _⟩
end Go.Proofs.Ytjhkfpemcplaaaa
namespace Go.Proofs.Ytjhkfpemcplaaaa
open Go.RowKit

theorem rpack_any {base N : Nat} {p : Pa} {c : Cl} {w : World} (q : Pk) (A : Option Addr) (cc : Nat) (h : CD base w p c) (ok : c.Ok N) (hN : N ≤ 1099511627776) (hr : RdB w w.heap.size A q.body.length q.body) (hq : okPk q) (hcc : q.body.length ≤ cc) :
    Calls Try.prog 84 #[.pointer (some ⟨p.g, 0, none⟩), pkV q A cc] w (RMetP base w p (packF c q)) := by
  have hl : q.body.length ≤ 1024 := (mayB_no hq.1).2.2
  by_cases h2 : q.kind = 2
  · exact rpack_wel q A cc h ok (by omega) hr h2 hq.2.1
  · by_cases h4 : q.kind = 4
    · exact rpack_rep q A cc h ok (by omega) hq.2.2.1 hq.2.1 hr hcc hl h4
    · by_cases h5 : q.kind = 5
      · exact rpack_evt q A cc h ok (by omega) hr hcc hl h5
      · by_cases h6 : q.kind = 6
        · exact rpack_ref q A cc h hr h6
        · exact rpack_other q A cc h hr ⟨h2, h4, h5, h6⟩
end Go.Proofs.Ytjhkfpemcplaaaa
