/-
  The walk of the document's at f39: Double.
-/
import Derived.Test.YtbkgphmocjjmmaaRnE
import Derived.StillTailTactics
namespace Go.Proofs.Ytbkgphmocjjmmaa
open Go.RowKit

set_option maxRecDepth 20000 in
set_option maxHeartbeats 4000000 in
theorem rat_6f (g : Nat) (S : Ns) (v : Bool → Value) (l : Bool → List LP) (s : Bool) (i : Nat) (p : LP) (z j m : Int) (A : Option Addr) (n c : Nat) (w : World) (h : NetR w g S v l) (hp : (l s)[i]? = some p) (hf : S.limit ≤ ((l s).length : Int)) :
    Calls Try.prog 39 #[.pointer (some ⟨g, 0, none⟩), .int .i64 6, .int .i64 (idxN s), actV 6 z i j m A n c] w (RStepP w g v l S 0 [] 183) := by
  have u0 : w.cell? ⟨g, rwayO s, none⟩ = some (v s) := (h.blk.cell _).trans (layR_under _ _ s)
  have k0 : w.cell? ⟨g, 0, none⟩ = some (.int .i64 S.limit) := h.blk.cell 0
  obtain ⟨A1, c1, hv, _, _⟩ := own_form (h.row s)
  rw [hv] at u0
  have hg : g < w.heap.size := h.blk.lt
  have hi : i < (l s).length := (List.getElem?_eq_some_iff.1 hp).1
  have l0 : decide ((i : Int) < 0) = false := decide_eq_false (by omega)
  have l1 : (i : Int) < ((l s).length : Int) := by omega
  have HST := Lib.hid (RatS.start w 6 z i j m A n c)
  have H := Lib.hid h
  clear h hv hp
  unfold actV
  generalize S.limit = lim at *
  cases s
  all_goals
    simp only [idxN, rwayO] at *
    go_enter Try.func39, Try.ntmps39
    go_upto_region 1 with fail
    generalize (w.alloc (.cells #[.int .i64 6, .int .i64 z, .int .i64 i, .int .i64 j, .int .u8 m, .slice A n c] 55)).alloc (.cells #[.int .i64 0, .slice none 0 0] 36) = w1 at *
    have a2 : w1.cell? ⟨w.heap.size, 2, none⟩ = some (.int .i64 i) := HST.out.act.cell 2
    have u1 := (HST.out.old.cell (p := ⟨g, _, none⟩) hg).trans u0
    have hb1 := HST.out.res.lt
    have hg1 : g < w1.heap.size := by omega
    go_quiet (fail)
    have HS2 := Lib.hid (HST.out.drewN nq)
    generalize w1.drewN nq = w2 at HS2 ⊢
    clear a2 u1 hb1 hg1
    have k1 := (HS2.out.old.cell (p := ⟨g, _, none⟩) hg).trans k0
    have u1 := (HS2.out.old.cell (p := ⟨g, _, none⟩) hg).trans u0
    have hb2 := HS2.out.res.lt
    have hg2 : g < w2.heap.size := by omega
    go_upto_region 11 with fail
    go_quiet (fail)
    have HS3 := Lib.hid (HS2.out.drewN nq)
    generalize w2.drewN nq = w3 at HS3 ⊢
    have r0 := HS3.out.res.cell 0
    have r1 := HS3.out.res.cell 1
    have f0 := HS3.out.res.frozen 0
    have f1 := HS3.out.res.frozen 1
    have hb3 := HS3.out.res.lt
    go_wp2
    clear r0 r1 f0 f1
    have HE := HS3.out.err H.out 183
    have t0 := HE.1.cell 0
    have t1 := HE.1.cell 1
    exact bodyPost_ret (v := .tuple #[.agg #[.int .i64 0, .slice none 0 0], .int .i64 183]) (by simp [results, Try.results39, go_sem, t0, t1]) rfl HE.2
set_option maxRecDepth 20000 in
set_option maxHeartbeats 4000000 in
theorem rat_6 (g : Nat) (S : Ns) (v : Bool → Value) (l : Bool → List LP) (K : Int) (s : Bool) (i : Nat) (p : LP) (z j m : Int) (A : Option Addr) (n c : Nat) (w : World) (h : NetR w g S v l) (hk : S.ok K) (hK : K ≤ 4611686018427387900) (hp : (l s)[i]? = some p) (hf : ((l s).length : Int) < S.limit) (hpb : p.pk.bytes.length ≤ 140737488355328) :
    Calls Try.prog 39 #[.pointer (some ⟨g, 0, none⟩), .int .i64 6, .int .i64 (idxN s), actV 6 z i j m A n c] w (RStepP w g v l ((S.add s 1 1).put s p.pk.bytes) (S.number + 1) p.pk.bytes 0) := by
  have u0 : w.cell? ⟨g, rwayO s, none⟩ = some (v s) := (h.blk.cell _).trans (layR_under _ _ s)
  have k0 : w.cell? ⟨g, 0, none⟩ = some (.int .i64 S.limit) := h.blk.cell 0
  have k1 : w.cell? ⟨g, rcntO s + 1, none⟩ = some (.int .i64 ((S.c s).get 1)) := (h.blk.cell _).trans (layR_get S v s 1 (by omega))
  have f1 := h.blk.frozen (rcntO s + 1)
  have hc0 := Cn.get_ok (hk.cn s) 1 (by omega)
  have e0 := hc0.1
  have e1 := Int.le_trans hc0.2 hK
  obtain ⟨gb, cb, hv, hgb, q0, q1⟩ := (h.row s).at_ hp
  rw [val_form] at q1
  have HV := Lib.hid hv
  rw [hv] at u0
  have hg : g < w.heap.size := h.blk.lt
  have hi : i < (l s).length := (List.getElem?_eq_some_iff.1 hp).1
  have l0 : decide ((i : Int) < 0) = false := decide_eq_false (by omega)
  have l1 : (i : Int) < ((l s).length : Int) := by omega
  have l2 : (0 : Int) ≤ (i : Int) := by omega
  have HST := Lib.hid (RatS.start w 6 z i j m A n c)
  have H := Lib.hid h
  have HCT := Lib.hid fun (W : World) (hW : RatS w 6 z i j m A n c W) => hW.count h s 1 (by omega)
  have HROW := Lib.hid fun (W : World) (hW : NetR W g (S.add s 1 1) v l) => (show W.cell? ⟨g, rwayO s, none⟩ = some (.slice (some ⟨gb, 0, none⟩) (l s).length cb) from by rw [← hv]; exact (hW.blk.cell _).trans (layR_under _ _ s))
  have HCEL := Lib.hid fun (W : World) (hW : NetR W g (S.add s 1 1) v l) => (show W.cell? ⟨gb, i * 2 + 1, none⟩ = some (.slice p.A p.pk.bytes.length p.c) ∧ gb < W.heap.size from by
    obtain ⟨gb', cb', hv', hgb', _, q1'⟩ := (hW.row s).at_ hp
    rw [hv] at hv'
    injection hv' with e _ _
    injection e with e
    injection e with e
    subst e
    rw [val_form] at q1'
    exact ⟨q1', hgb'⟩)
  have HPUT := Lib.hid fun (W : World) (hW : NetR W g (S.add s 1 1) v l) => rput_any g (S.add s 1 1) v l (K + 1) s p.A p.pk.bytes.length p.c W.heap.size p.pk.bytes W hW (Ns.add_ok hk s 1 (by omega) 1 (by omega)) (by omega) (OwnB.reads (hW.pks s p (List.mem_of_getElem? hp)) rfl) (Nat.le_refl _) hpb
  clear h hv hk hc0 hp q0 q1
  unfold actV
  generalize (S.c s).get 1 = cc at *
  generalize hlim : S.limit = lim at *
  clear hlim
  cases s
  all_goals
    simp only [idxN, rwayO, rcntO] at *
    simp only [Nat.reduceAdd] at *
    go_enter Try.func39, Try.ntmps39
    go_upto_region 1 with fail
    generalize (w.alloc (.cells #[.int .i64 6, .int .i64 z, .int .i64 i, .int .i64 j, .int .u8 m, .slice A n c] 55)).alloc (.cells #[.int .i64 0, .slice none 0 0] 36) = w1 at *
    have a2 : w1.cell? ⟨w.heap.size, 2, none⟩ = some (.int .i64 i) := HST.out.act.cell 2
    have u1 := (HST.out.old.cell (p := ⟨g, _, none⟩) hg).trans u0
    have hb1 := HST.out.res.lt
    have hg1 : g < w1.heap.size := by omega
    go_quiet (fail)
    have HS2 := Lib.hid (HST.out.drewN nq)
    generalize w1.drewN nq = w2 at HS2 ⊢
    clear a2 u1 hb1 hg1
    have u1 := (HS2.out.old.cell (p := ⟨g, _, none⟩) hg).trans u0
    have z1 := (HS2.out.old.cell (p := ⟨g, _, none⟩) hg).trans k0
    have hb2 := HS2.out.res.lt
    have hg2 : g < w2.heap.size := by omega
    go_upto_region 11 with fail
    go_quiet (fail)
    have HS3 := Lib.hid (HS2.out.drewN nq)
    generalize w2.drewN nq = w3 at HS3 ⊢
    clear u1 z1 hb2 hg2
    have k2 := (HS3.out.old.cell (p := ⟨g, _, none⟩) hg).trans k1
    have f2 := (HS3.out.old.frozen (p := ⟨g, _, none⟩) hg).trans f1
    have hb3 := HS3.out.res.lt
    have hg3 : g < w3.heap.size := by omega
    have HC2 := Lib.hid (HCT.out w3 HS3.out)
    go_upto_region 13 with fail
    go_region
    all_goals
      generalize (w3.setCell _ _).drew = w4 at HC2 ⊢
      have a3 : w4.cell? ⟨w.heap.size, 2, none⟩ = some (.int .i64 i) := HC2.out.act.cell 2
      have u3 := HROW.out w4 HC2.out.net
      have q3 := (HCEL.out w4 HC2.out.net).1
      have hgb4 := (HCEL.out w4 HC2.out.net).2
      have hg4 := HC2.out.net.blk.lt
      have hb4 := HC2.out.res.lt
      have HC3 := Lib.hid (HC2.out.drew)
      have HP3 := Lib.hid (HPUT.out w4.drew HC3.out.net)
      clear k2 f2 hb3 hg3 u0 k0 k1 f1
      go_upto_region 14 with fail
      go_still_tail 13, (by kernel_rfl)
      change wpList _ _ _ _ _ w4.drew
      generalize w4.drew = w5 at HC3 HP3 ⊢
      go_wp2_with fail
      refine (HP3.out).mono ?_
      rintro e w6 ⟨v1, p1, A2, c2, hE, hp1, hn6, hsub6, hc6, ho6, _⟩
      have hE' : e = .returned (.agg #[.int .i64 (S.number + 1), .slice A2 p.pk.bytes.length c2]) := hE
      clear hE
      subst hE'
      have HD := Lib.hid (HC3.out.done HS3.out H.out hn6 hsub6 hc6 (OwnQ.new ho6 (by have := HS3.out.old.size; have := HC3.out.size; omega)) 0 (num := S.number + 1))
      clear hn6 hsub6 hc6 ho6
      have r0 := HD.out.1.cell 0
      have r1 := HD.out.1.cell 1
      have s0 := HD.out.1.frozen 0
      have s1 := HD.out.1.frozen 1
      have hb6 := HD.out.1.lt
      go_wp2
      clear r0 r1 s0 s1
      have t0 := HD.out.2.1.cell 0
      have t1 := HD.out.2.1.cell 1
      exact bodyPost_ret (v := .tuple #[.agg #[.int .i64 (S.number + 1), .slice A2 p.pk.bytes.length c2], .int .i64 0]) (by simp [results, Try.results39, go_sem, t0, t1]) rfl HD.out.2.2
end Go.Proofs.Ytbkgphmocjjmmaa
