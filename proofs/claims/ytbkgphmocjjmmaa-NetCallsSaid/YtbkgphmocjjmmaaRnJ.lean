/-
  The walk of the document's Act f21: Cut and Send.
-/
import Derived.Test.YtbkgphmocjjmmaaRnI
namespace Go.Proofs.Ytbkgphmocjjmmaa
open Go.RowKit

theorem layR_lose (S : Ns) (v : Bool → Value) (s : Bool) : ((layR S v).setIfInBounds (rcntO s + 4) (.int .i64 ((S.c s).get 4 + (S.u s).length))).setIfInBounds (rwayO s) (.slice none 0 0) = layR (S.lose s) (upd v s (.slice none 0 0)) := by
  cases s <;> simp [layR, rwayO, rcntO, upd, Ns.lose, Cn.put, Cn.get]
theorem NetX.rlost {w : World} {g : Nat} {S : Ns} {v : Bool → Value} {l : Bool → List LP} (h : NetR w g S v l) (s : Bool) :
    NetR ((w.setCell ⟨g, rcntO s + 4, none⟩ (.int .i64 ((S.c s).get 4 + (S.u s).length))).drew.setCell ⟨g, rwayO s, none⟩ (.slice none 0 0)) g (S.lose s) (Go.Proofs.Ytbkgphmocjjmmaa.upd v s (.slice none 0 0)) (Go.Proofs.Ytbkgphmocjjmmaa.upd l s []) ∧
    Chg (· = g) w ((w.setCell ⟨g, rcntO s + 4, none⟩ (.int .i64 ((S.c s).get 4 + (S.u s).length))).drew.setCell ⟨g, rwayO s, none⟩ (.slice none 0 0)) := by
  have hc : Chg (· = g) w ((w.setCell ⟨g, rcntO s + 4, none⟩ (.int .i64 ((S.c s).get 4 + (S.u s).length))).drew.setCell ⟨g, rwayO s, none⟩ (.slice none 0 0)) :=
    ((Chg.refl (· = g) w).setCell (p := ⟨g, rcntO s + 4, none⟩) (fun _ => rfl) _).drew.setCell (p := ⟨g, rwayO s, none⟩) (fun _ => rfl) _
  refine ⟨h.upd s (S' := S.lose s) ?_ (World.ownsRow_nil _ 0 36 2) (fun p hp => by cases hp) rfl List.Pairwise.nil (.inl rfl) (fun p hp => by cases hp) (fun k hk => ?_), hc⟩
  · rw [← layR_lose]
    have h1 := h.blk.set_ (rcntO s + 4) (.int .i64 ((S.c s).get 4 + (S.u s).length))
    exact (h1.below (Below.refl _ _).drew h1.lt).set_ _ _
  · obtain ⟨h1, _⟩ := h.other (by decide) (by decide) s hk
    refine hc.block k ?_ h1
    rcases hk with hk | ⟨p, hp, hk⟩
    · exact (World.ownsRow.lt (h.row _) k hk).2
    · exact (World.ownsRow.lt (h.pks _ p hp) k hk).2
/-- the rounds of Cut -/
def RCutR (w1 : World) (g : Nat) (S : Ns) (v : Bool → Value) (l : Bool → List LP) (k : Nat) (W : World) : Prop :=
  Chg (· = g) w1 W ∧
  ((k = 0 ∧ NetR W g S.down v l) ∨ (k = 1 ∧ NetR W g (S.down.lose false) (upd v false (.slice none 0 0)) (upd l false [])) ∨
   (k = 2 ∧ NetR W g S.cut (upd (upd v false (.slice none 0 0)) true (.slice none 0 0)) (upd (upd l false []) true [])))
theorem RCutR.start {w1 : World} {g : Nat} {S : Ns} {v : Bool → Value} {l : Bool → List LP} (h : NetR w1 g S v l) : RCutR w1 g S v l 0 (w1.setCell ⟨g, 1, none⟩ (.bool false)) :=
  ⟨(Chg.refl (· = g) w1).setCell (p := ⟨g, 1, none⟩) (fun _ => rfl) _, .inl ⟨rfl, h.head (h.blk.set_ 1 _) rfl (fun k _ hn => Below.heap_setCell _ _ _ _ hn) (by decide) (by decide)⟩⟩
theorem RCutR.last {w w1 W : World} {g : Nat} {S : Ns} {v : Bool → Value} {l : Bool → List LP} {k z i j m : Int} {A : Option Addr} {n c : Nat} (hs : RatS w k z i j m A n c w1) (h : NetR w g S v l) (hr : RCutR w1 g S v l 2 W) :
    Blk W (w.heap.size + 1) 36 #[.int .i64 0, .slice none 0 0] ∧ Blk ((W.setCell ⟨w.heap.size + 1, 0, none⟩ (.int .i64 0)).setCell ⟨w.heap.size + 1, 1, none⟩ (.slice none 0 0)) (w.heap.size + 1) 36 #[.int .i64 0, .slice none 0 0] ∧
    RStepP w g v l S.cut 0 [] 0 (.returned (.tuple #[.agg #[.int .i64 0, .slice none 0 0], .int .i64 0])) ((W.setCell ⟨w.heap.size + 1, 0, none⟩ (.int .i64 0)).setCell ⟨w.heap.size + 1, 1, none⟩ (.slice none 0 0)) := by
  obtain ⟨hc, ⟨h0, _⟩ | ⟨h0, _⟩ | ⟨_, hn⟩⟩ := hr
  · cases h0
  · cases h0
  · refine rat_end (num := 0) (A := none) (c := 0) (bytes := []) 0 h hs.old hs.res (by omega) hn (fun k hk => .inl ?_) (hc.mono fun k _ e => .inl e) (OwnQ.nil _ _ _)
    rcases hk with e | ⟨s, e⟩ | ⟨s, p, hp, e⟩
    · exact .inl e
    · cases s <;> simp [upd, Value.ownBlock] at e
    · cases s <;> simp [upd] at hp
set_option maxRecDepth 20000 in
set_option maxHeartbeats 4000000 in
theorem ract_cut (g : Nat) (S : Ns) (v : Bool → Value) (l : Bool → List LP) (k z i j m : Int) (A : Option Addr) (n c : Nat) (w : World) (h : NetR w g S v l) (K : Int) (hok : S.ok K) (hK : K ≤ 4611686018427387900) (hk : k = 2) (hu : S.up = true) :
    Calls Try.prog 21 #[.pointer (some ⟨g, 0, none⟩), actV k z i j m A n c] w (RStepP w g v l S.cut 0 [] 0) := by
  have k1 : w.cell? ⟨g, 1, none⟩ = some (.bool S.up) := h.blk.cell 1
  rw [hu] at k1
  have g1 := h.blk.frozen 1
  have hg : g < w.heap.size := h.blk.lt
  have e1 : (k == 1) = false := by rw [beq_eq_false_iff_ne]; omega
  have e2 : ¬ k < 1 := by omega
  have e3 : ¬ 8 < k := by omega
  have e6 : ¬ 2 < k := by omega
  have e5 : (k == 3) = false := by rw [beq_eq_false_iff_ne]; omega
  have e7 : (k == 2) = true := by rw [hk]; rfl
  have hl0 := hok.len false
  have hl1 := hok.len true
  have hh := hok.hi
  have b0 := Cn.get_ok (hok.cn false) 4 (by omega)
  have b1 := Cn.get_ok (hok.cn true) 4 (by omega)
  have HST := Lib.hid (RatS.start w k z i j m A n c)
  have H := Lib.hid h
  have HLAST := Lib.hid fun (w1 W : World) (hs : RatS w k z i j m A n c w1) => RCutR.last (W := W) hs h
  clear h hk hok hu
  unfold actV
  go_enter Try.func21, Try.ntmps21
  go_upto_region 1 with fail
  generalize (w.alloc (.cells #[.int .i64 k, .int .i64 z, .int .i64 i, .int .i64 j, .int .u8 m, .slice A n c] 55)).alloc (.cells #[.int .i64 0, .slice none 0 0] 36) = w1 at *
  have a0 : w1.cell? ⟨w.heap.size, 0, none⟩ = some (.int .i64 k) := HST.out.act.cell 0
  have a1 : w1.cell? ⟨w.heap.size, 1, none⟩ = some (.int .i64 z) := HST.out.act.cell 1
  have a5 : w1.cell? ⟨w.heap.size, 5, none⟩ = some (.slice A n c) := HST.out.act.cell 5
  have u1 := (HST.out.old.cell (p := ⟨g, _, none⟩) hg).trans k1
  have v1 := (HST.out.old.frozen (p := ⟨g, _, none⟩) hg).trans g1
  have hb1 := HST.out.res.lt
  have hg1 : g < w1.heap.size := by omega
  have hw1 : w.heap.size < w1.heap.size := by omega
  have HX := Lib.hid (RCutR.start (H.out.below HST.out.old))
  have HL := Lib.hid fun W => HLAST.out w1 W HST.out
  clear k1 g1 HLAST
  go_upto_region 20 with fail
  generalize w1.setCell ⟨g, 1, none⟩ (.bool false) = w2 at *
  clear a0 a1 a5 u1 v1 hb1 hg1 hw1
  go_loopw [8] (fun d wr => ∃ (q : Nat), d = .int .i64 q ∧ RCutR w1 g S v l q wr) (fun d _ => 2 - (intOf d).toNat)
  case atStart => exact ⟨0, rfl, HX.out⟩
  case round =>
    obtain ⟨q, rfl, hr⟩ := hrel
    clear HX
    have HR := Lib.hid hr
    obtain ⟨hc, ⟨rfl, hn⟩ | ⟨rfl, hn⟩ | ⟨rfl, hn⟩⟩ := hr
    · have hg1 := hn.blk.lt
      have u0 := hn.blk.cell 4
      have u1 : wr.cell? ⟨g, 10, none⟩ = some (.int .i64 ((S.c false).get 4)) := hn.blk.cell 10
      have f0 := hn.blk.frozen 4
      have f1 := hn.blk.frozen 10
      have HN : Hid (RCutR w1 g S v l 1 ((wr.setCell ⟨g, rcntO false + 4, none⟩ (.int .i64 ((S.c false).get 4 + (S.u false).length))).drew.setCell ⟨g, rwayO false, none⟩ (.slice none 0 0))) := Lib.hid ⟨hc.trans (hn.rlost false).2 (fun _ _ e => e), .inr (.inl ⟨rfl, (hn.rlost false).1⟩)⟩
      have HLE : Hid ((l false).length = (S.u false).length) := Lib.hid (hn.len false)
      obtain ⟨A1, c1, hv, _, _⟩ := own_form (hn.row false)
      simp only [layR, List.getElem?_toArray, List.getElem?_cons_succ, List.getElem?_cons_zero] at u0
      rw [hv, HLE.out] at u0
      simp only [rwayO, rcntO] at HN
      have ha : IntKind.i64.wrap ((S.c false).get 4 + ((S.u false).length : Int)) = (S.c false).get 4 + ((S.u false).length : Int) := by simp [IntKind.wrap, IntKind.bits, IntKind.signed]; omega
      clear hn hc hv
      generalize (S.c false).get 4 = cc at *
      go_upto_region 22 with fail
      go_region
      all_goals
        go_wp2
        go_roundw
        case rel => exact ⟨1, rfl, HN.out⟩
        case measure => simp [intOf]
    · have hg1 := hn.blk.lt
      have u0 := hn.blk.cell 5
      have u1 : wr.cell? ⟨g, 17, none⟩ = some (.int .i64 ((S.c true).get 4)) := hn.blk.cell 17
      have f0 := hn.blk.frozen 5
      have f1 := hn.blk.frozen 17
      have HN : Hid (RCutR w1 g S v l 2 ((wr.setCell ⟨g, rcntO true + 4, none⟩ (.int .i64 ((S.c true).get 4 + (S.u true).length))).drew.setCell ⟨g, rwayO true, none⟩ (.slice none 0 0))) := Lib.hid ⟨hc.trans (hn.rlost true).2 (fun _ _ e => e), .inr (.inr ⟨rfl, (hn.rlost true).1⟩)⟩
      have HLE : Hid (((upd l false []) true).length = (S.u true).length) := Lib.hid (hn.len true)
      obtain ⟨A1, c1, hv, _, _⟩ := own_form (hn.row true)
      simp only [layR, List.getElem?_toArray, List.getElem?_cons_succ, List.getElem?_cons_zero] at u0
      rw [hv, HLE.out] at u0
      simp only [rwayO, rcntO] at HN
      have ha : IntKind.i64.wrap ((S.c true).get 4 + ((S.u true).length : Int)) = (S.c true).get 4 + ((S.u true).length : Int) := by simp [IntKind.wrap, IntKind.bits, IntKind.signed]; omega
      clear hn hc hv
      generalize (S.c true).get 4 = cc at *
      go_upto_region 22 with fail
      go_region
      all_goals
        go_wp2
        go_roundw
        case rel => exact ⟨2, rfl, HN.out⟩
        case measure => simp [intOf]
    · have HE := Lib.hid (HL.out wr HR.out)
      clear hn hc
      have r0 := HE.out.1.cell 0
      have r1 := HE.out.1.cell 1
      have f0 := HE.out.1.frozen 0
      have f1 := HE.out.1.frozen 1
      have hb2 := HE.out.1.lt
      go_wp2
      clear r0 r1 f0 f1
      have t0 := HE.out.2.1.cell 0
      have t1 := HE.out.2.1.cell 1
      exact bodyPost_ret (v := .tuple #[.agg #[.int .i64 0, .slice none 0 0], .int .i64 0]) (by simp [results, Try.results21, go_sem, t0, t1]) rfl HE.out.2.2
set_option maxRecDepth 20000 in
set_option maxHeartbeats 4000000 in
theorem ract_full (g : Nat) (S : Ns) (v : Bool → Value) (l : Bool → List LP) (s : Bool) (k z i j m : Int) (A : Option Addr) (n c : Nat) (w : World) (h : NetR w g S v l) (hk : k = 3) (hz : z = sideN s) (hn : n ≤ 8192) (hu : S.up = true) (hf : ((S.u s).length : Int) = S.limit) :
    Calls Try.prog 21 #[.pointer (some ⟨g, 0, none⟩), actV k z i j m A n c] w (RStepP w g v l S 0 [] 183) := by
  have k1 : w.cell? ⟨g, 1, none⟩ = some (.bool S.up) := h.blk.cell 1
  rw [hu] at k1
  have u0 : w.cell? ⟨g, rwayO s, none⟩ = some (v s) := (h.blk.cell _).trans (layR_under _ _ s)
  have k0 : w.cell? ⟨g, 0, none⟩ = some (.int .i64 S.limit) := h.blk.cell 0
  obtain ⟨A1, c1, hv, _, _⟩ := own_form (h.row s)
  rw [hv, h.len s] at u0
  have hg : g < w.heap.size := h.blk.lt
  have n1 : ¬ (8192 : Int) < (n : Int) := by omega
  have l1 : S.limit ≤ ((S.u s).length : Int) := by omega
  have e1 : (k == 1) = false := by rw [beq_eq_false_iff_ne]; omega
  have e2 : ¬ k < 1 := by omega
  have e3 : ¬ 8 < k := by omega
  have e6 : 2 < k := by omega
  have e5 : (k == 3) = true := by rw [hk]; rfl
  have e7 : (k == 2) = false := by rw [beq_eq_false_iff_ne]; omega
  have HST := Lib.hid (RatS.start w k z i j m A n c)
  have H := Lib.hid h
  clear h hk hv hf
  unfold actV
  generalize S.limit = lim at *
  generalize (S.u s).length = us at *
  cases s
  all_goals
    simp only [sideN, rwayO] at *
    subst hz
    go_enter Try.func21, Try.ntmps21
    go_upto_region 1 with fail
    generalize (w.alloc (.cells #[.int .i64 k, .int .i64 _, .int .i64 i, .int .i64 j, .int .u8 m, .slice A n c] 55)).alloc (.cells #[.int .i64 0, .slice none 0 0] 36) = w1 at *
    have a0 : w1.cell? ⟨w.heap.size, 0, none⟩ = some (.int .i64 k) := HST.out.act.cell 0
    have a1 := HST.out.act.cell 1
    simp only [List.getElem?_toArray, List.getElem?_cons_succ, List.getElem?_cons_zero] at a1
    have a5 : w1.cell? ⟨w.heap.size, 5, none⟩ = some (.slice A n c) := HST.out.act.cell 5
    have u1 := (HST.out.old.cell (p := ⟨g, _, none⟩) hg).trans k1
    have u2 := (HST.out.old.cell (p := ⟨g, _, none⟩) hg).trans k0
    have u3 := (HST.out.old.cell (p := ⟨g, _, none⟩) hg).trans u0
    have hb1 := HST.out.res.lt
    have hg1 : g < w1.heap.size := by omega
    have hw1 : w.heap.size < w1.heap.size := by omega
    clear k1 k0 u0
    go_upto_region 27 with fail
    go_quiet (fail)
    have HS2 := Lib.hid (HST.out.drewN nq)
    generalize w1.drewN nq = w2 at HS2 ⊢
    clear a0 a1 a5 u1 u2 u3 hb1 hg1 hw1
    have r0 := HS2.out.res.cell 0
    have r1 := HS2.out.res.cell 1
    have f0 := HS2.out.res.frozen 0
    have f1 := HS2.out.res.frozen 1
    have hb2 := HS2.out.res.lt
    go_wp2
    clear r0 r1 f0 f1
    have HE := HS2.out.err H.out 183
    have t0 := HE.1.cell 0
    have t1 := HE.1.cell 1
    exact bodyPost_ret (v := .tuple #[.agg #[.int .i64 0, .slice none 0 0], .int .i64 183]) (by simp [results, Try.results21, go_sem, t0, t1]) rfl HE.2
theorem send_rd {w W1 W : World} {g B n : Nat} {S : Ns} {v : Bool → Value} {l : Bool → List LP} {A : Option Addr} {b : List UInt8} (h : NetR w g S v l) (hr : RdB w B A n b) (hB : B ≤ w.heap.size) (h1 : Below w.heap.size w W1) (hc : Chg (· = g) W1 W) : RdB W B A n b :=
  rrd_far (h.below h1) (hr.below (h1.mono hB)) (by have := h1.size; omega) (fun k hk hn => hc.block k hk hn)
set_option maxRecDepth 20000 in
set_option maxHeartbeats 4000000 in
theorem ract_send (g : Nat) (S : Ns) (v : Bool → Value) (l : Bool → List LP) (K : Int) (s : Bool) (k z i j m : Int) (A : Option Addr) (n c B : Nat) (b : List UInt8) (w : World) (h : NetR w g S v l) (hok : S.ok K) (hK : K ≤ 4611686018427387900) (hk : k = 3) (hz : z = sideN s) (hn : n ≤ 8192) (hu : S.up = true) (hf : ((S.u s).length : Int) < S.limit) (hr : RdB w B A n b) (hB : B ≤ w.heap.size) :
    Calls Try.prog 21 #[.pointer (some ⟨g, 0, none⟩), actV k z i j m A n c] w (RStepP w g v l ((S.add s 0 1).put s b) (S.number + 1) b 0) := by
  have k1 : w.cell? ⟨g, 1, none⟩ = some (.bool S.up) := h.blk.cell 1
  rw [hu] at k1
  have u0 : w.cell? ⟨g, rwayO s, none⟩ = some (v s) := (h.blk.cell _).trans (layR_under _ _ s)
  have k0 : w.cell? ⟨g, 0, none⟩ = some (.int .i64 S.limit) := h.blk.cell 0
  have k2 : w.cell? ⟨g, rcntO s + 0, none⟩ = some (.int .i64 ((S.c s).get 0)) := (h.blk.cell _).trans (layR_get S v s 0 (by omega))
  have f2 := h.blk.frozen (rcntO s + 0)
  have hc0 := Cn.get_ok (hok.cn s) 0 (by omega)
  have x0 := hc0.1
  have x1 := Int.le_trans hc0.2 hK
  obtain ⟨A1, c1, hv, _, _⟩ := own_form (h.row s)
  rw [hv, h.len s] at u0
  have hg : g < w.heap.size := h.blk.lt
  have n1 : ¬ (8192 : Int) < (n : Int) := by omega
  have l1 : ¬ S.limit ≤ ((S.u s).length : Int) := by omega
  have e1 : (k == 1) = false := by rw [beq_eq_false_iff_ne]; omega
  have e2 : ¬ k < 1 := by omega
  have e3 : ¬ 8 < k := by omega
  have e6 : 2 < k := by omega
  have e5 : (k == 3) = true := by rw [hk]; rfl
  have e7 : (k == 2) = false := by rw [beq_eq_false_iff_ne]; omega
  have hbl : b.length ≤ 140737488355328 := by have := Reads.len1 hr; omega
  have HST := Lib.hid (RatS.start w k z i j m A n c)
  have H := Lib.hid h
  have HCT := Lib.hid fun (W : World) (hW : RatS w k z i j m A n c W) => And.intro (hW.count h s 0 (by omega)) (((Chg.refl (· = g) W).setCell (p := ⟨g, rcntO s + 0, none⟩) (fun _ => rfl) (.int .i64 ((S.c s).get 0 + 1))).drew)
  have HPUT := Lib.hid fun (W1 W : World) (h1 : RatS w k z i j m A n c W1) (hW : RatC w W1 g (S.add s 0 1) v l k z i j m A n c W) (hcg : Chg (· = g) W1 W) => rput_any g (S.add s 0 1) v l (K + 1) s A n c B b W hW.net (Ns.add_ok hok s 0 (by omega) 1 (by omega)) (by omega) (send_rd h hr hB h1.old hcg) (by have := h1.old.size; have := hW.size; omega) hbl
  clear h hk hv hf hok hc0 hr
  unfold actV
  generalize hlim : S.limit = lim at *
  generalize hus : (S.u s).length = us at *
  generalize (S.c s).get 0 = cc at *
  clear hlim hus
  cases s
  all_goals
    simp only [sideN, rwayO, rcntO, idxN] at *
    simp only [Nat.reduceAdd] at *
    subst hz
    go_enter Try.func21, Try.ntmps21
    go_upto_region 1 with fail
    generalize (w.alloc (.cells #[.int .i64 k, .int .i64 _, .int .i64 i, .int .i64 j, .int .u8 m, .slice A n c] 55)).alloc (.cells #[.int .i64 0, .slice none 0 0] 36) = w1 at *
    have a0 : w1.cell? ⟨w.heap.size, 0, none⟩ = some (.int .i64 k) := HST.out.act.cell 0
    have a1 := HST.out.act.cell 1
    simp only [List.getElem?_toArray, List.getElem?_cons_succ, List.getElem?_cons_zero] at a1
    have a5 : w1.cell? ⟨w.heap.size, 5, none⟩ = some (.slice A n c) := HST.out.act.cell 5
    have u1 := (HST.out.old.cell (p := ⟨g, _, none⟩) hg).trans k1
    have u2 := (HST.out.old.cell (p := ⟨g, _, none⟩) hg).trans k0
    have u3 := (HST.out.old.cell (p := ⟨g, _, none⟩) hg).trans u0
    have hb1 := HST.out.res.lt
    have hg1 : g < w1.heap.size := by omega
    have hw1 : w.heap.size < w1.heap.size := by omega
    clear k1 k0 u0
    go_upto_region 27 with fail
    go_quiet (fail)
    have HS2 := Lib.hid (HST.out.drewN nq)
    generalize w1.drewN nq = w2 at HS2 ⊢
    clear a0 a1 a5 u1 u2 u3 hb1 hg1 hw1
    have k3 := (HS2.out.old.cell (p := ⟨g, _, none⟩) hg).trans k2
    have f3 := (HS2.out.old.frozen (p := ⟨g, _, none⟩) hg).trans f2
    have hb2 := HS2.out.res.lt
    have hg2 : g < w2.heap.size := by omega
    have HC2 := Lib.hid (HCT.out w2 HS2.out)
    go_upto_region 29 with fail
    go_region
    all_goals
      generalize (w2.setCell _ _).drew = w3 at HC2 ⊢
      have a5 : w3.cell? ⟨w.heap.size, 5, none⟩ = some (.slice A n c) := HC2.out.1.act.cell 5
      have hb3 := HC2.out.1.res.lt
      have HP := Lib.hid (HPUT.out w2 w3 HS2.out HC2.out.1 HC2.out.2)
      clear k3 f3 hb2 hg2 k2 f2
      go_wp2_with fail
      refine HP.out.mono ?_
      rintro e w4 ⟨v1, p1, A2, c2, hE, _, hn4, hsub4, hc4, ho4, _⟩
      have hE' : e = .returned (.agg #[.int .i64 (S.number + 1), .slice A2 b.length c2]) := hE
      clear hE
      subst hE'
      have HD := Lib.hid (HC2.out.1.done HS2.out H.out hn4 hsub4 hc4 (OwnQ.new ho4 (by have := HS2.out.old.size; have := HC2.out.1.size; omega)) 0 (num := S.number + 1))
      clear hn4 hsub4 hc4 ho4 a5 hb3
      have r0 := HD.out.1.cell 0
      have r1 := HD.out.1.cell 1
      have s0 := HD.out.1.frozen 0
      have s1 := HD.out.1.frozen 1
      have hb4 := HD.out.1.lt
      go_wp2
      clear r0 r1 s0 s1
      have t0 := HD.out.2.1.cell 0
      have t1 := HD.out.2.1.cell 1
      exact bodyPost_ret (v := .tuple #[.agg #[.int .i64 (S.number + 1), .slice A2 b.length c2], .int .i64 0]) (by simp [results, Try.results21, go_sem, t0, t1]) rfl HD.out.2.2
end Go.Proofs.Ytbkgphmocjjmmaa
