/-
  Parts RxN, RxO of the proof. No statement of the seat is proved here.
-/
import Derived.Test.YtbnlnndeajjenaaGreatP22
set_option maxHeartbeats 4000000
namespace Go.Proofs.YtbnlnndeajjenaaGreat
open Go.RowKit
theorem Rs.casL_stop {L : List Lx.Tk} {f : Nat} {l : List Ps.Tr} {s : Rs.RS} (h : Rs.is_ L 7 [59] s = false) : Rs.casL L f l s = (l, s) := by
 cases f with
 | zero => unfold Rs.casL; rfl
 | succ f => unfold Rs.casL; rw [if_neg (by rw [h]; decide)]
theorem flat_inj : ∀ {a b : List (List Value)}, (∀ c ∈ a, c.length = 7) → (∀ c ∈ b, c.length = 7) → a.flatten = b.flatten → a = b
 | [], [], _, _, _ => rfl
 | [], y :: _, _, hb, h => by
  have := hb y (by simp)
  have e := congrArg List.length h
  simp only [List.flatten_nil, List.length_nil, List.flatten_cons, List.length_append] at e
  omega
 | x :: _, [], ha, _, h => by
  have := ha x (by simp)
  have e := congrArg List.length h
  simp only [List.flatten_nil, List.length_nil, List.flatten_cons, List.length_append] at e
  omega
 | x :: a, y :: b, ha, hb, h => by
  rw [List.flatten_cons, List.flatten_cons] at h
  obtain ⟨e1, e2⟩ := List.append_inj h (by rw [ha x (by simp), hb y (by simp)])
  rw [e1, flat_inj (fun c hc => ha c (by simp [hc])) (fun c hc => hb c (by simp [hc])) e2]
set_option maxRecDepth 100000 in
set_option maxHeartbeats 8000000 in
theorem rexpr_any {g c fin F : Nat} {A : Option Addr} {T : List Lx.Tk} (hT : Ps.Fits 65536 T) (ih : ∀ f, f < F → RWAll g A c T fin f) (s : Rs.RS) (w : World) (h : RA w g A c (Rs.toks T fin) s) (hb : Rs.Bd T s) (hk : Rs.bad s = false) (hf : Rs.rem T s + 7 ≤ F) :
  Calls Tryz.prog 44 #[.pointer (some ⟨g, 0, none⟩)] w (RNd w g A c T fin w.heap.size (Rs.expr (Rs.toks T fin) F s)) := by
 have hTl := hT.len
 have hgb := h.lt
 have hs := hb.le hTl
 have hsa := hb.at_
 have E0 := (Ev.start h).box 26 [.int .i64 0, .string ⟨#[]⟩, .slice none 0 0, .slice none 0 0, .slice none 0 0, .int .i64 0, .int .i64 0]
 obtain ⟨f, rfl⟩ : ∃ F', F = F' + 1 := ⟨F - 1, by omega⟩
 obtain ⟨t, ht⟩ : ∃ t, Rs.tok (Rs.toks T fin) s = t := ⟨_, rfl⟩
 obtain ⟨R, hR⟩ : ∃ R, Rs.expr (Rs.toks T fin) (f + 1) s = R := ⟨_, rfl⟩
 obtain ⟨q, hq⟩ : ∃ q, (Rs.is_ (Rs.toks T fin) 1 [] s && (Rs.tok1 (Rs.toks T fin) s).1 == 7 && (Rs.tok1 (Rs.toks T fin) s).2.1 == [58, 61]) = q := ⟨_, rfl⟩
 obtain ⟨pk, hpk⟩ : ∃ x, Rs.keyw (Rs.toks T fin) f s = x := ⟨_, rfl⟩
 have HE : Hid (R = if q then (Ps.nd 4 t.2.1 [(Rs.expr (Rs.toks T fin) f (Rs.adv (if Ps.resv t.2.1 then Rs.fail (Rs.adv s) 126 t.2.2 else Rs.adv s))).1] t.2.2, (Rs.expr (Rs.toks T fin) f (Rs.adv (if Ps.resv t.2.1 then Rs.fail (Rs.adv s) 126 t.2.2 else Rs.adv s))).2) else if !Rs.is_ (Rs.toks T fin) 7 [59] pk.2 then pk else if pk.1.kind != 5 || Rs.grouped (Rs.toks T fin) s.at_ pk.2.at_ then (pk.1, Rs.fail pk.2 124 (Rs.tok (Rs.toks T fin) pk.2).2.2) else (Ps.nd 6 [] (Rs.casL (Rs.toks T fin) f [pk.1.nodes.headD Ps.Tr.zero, Ps.nd 7 pk.1.name pk.1.nodes.tail pk.1.place] pk.2).1 pk.1.place, (Rs.casL (Rs.toks T fin) f [pk.1.nodes.headD Ps.Tr.zero, Ps.nd 7 pk.1.name pk.1.nodes.tail pk.1.place] pk.2).2)) := Hd (by rw [← hR, Rs.expr, ht, hq, hpk])
 rw [hR]
 have H1 := Hd fun (W : World) (h : RA W g A c (Rs.toks T fin) s) => ris_z h (hb).lt 1 [] (z := 1) rfl (xs := #[]) rfl
 have HB := Hd hb
 have IH := Hd ih
 have HHQ := Hd hq
 have HHT := Hd ht
 have HPK := Hd hpk
 have HE0 := Hd E0
 have HKS := Hd hk
 clear h hb ih hR ht hpk E0
 go_enter Tryz.func44, Tryz.ntmps44
 go_upto_region 1 with fail
 refine wp_world (Ev w g A c (Rs.toks T fin) s _) HE0.out fun w1 E1 => ?_
 have HE1 := Hd E1
 clear E1 HE0
 go_cut [39] (fun v W => v = .bool q ∧ Below w1.heap.size w1 W)
 case first =>
  have hg := HE1.out.pa.lt
  obtain ⟨k0, k1, k2, k3, k4⟩ := HE1.out.pa.cells
  have hl : s.at_ + 1 < (Rs.toks T fin).length := by rw [Ps.toks_len]; omega
  obtain ⟨bb, off, rfl, hbg, hbw, t0, t1, t2⟩ := HE1.out.pa.tok hl
  have HN : Hid (Rs.tok1 (Rs.toks T fin) s = (Rs.toks T fin).getD (s.at_ + 1) (0, [], 0)) := Hd rfl
  rw [HN.out] at hq
  generalize (Rs.toks T fin).getD (s.at_ + 1) (0, [], 0) = n at *
  obtain ⟨j, hj⟩ : ∃ j, s.at_ + 1 = j := ⟨_, rfl⟩
  have hji : (s.at_ : Int) + 1 = (j : Int) := by omega
  have hwr : IntKind.i64.wrap (j : Int) = (j : Int) := by rw [IntKind.wrap_i64]; omega
  rw [hj] at t0 t1 t2 hl
  have l1 : (0 : Int) ≤ (j : Int) := by omega
  have l2 : (j : Int) < ((Rs.toks T fin).length : Int) := by omega
  have HS : Hid (∀ W, Below w1.heap.size w1 W → W.cell? ⟨g, 0, none⟩ = some (.slice (some ⟨bb, off, none⟩) (Rs.toks T fin).length c) ∧ W.cell? ⟨g, 1, none⟩ = some (.int .i64 (s.at_ : Int)) ∧ W.cell? ⟨bb, off + j * 3, none⟩ = some (.int .i64 (n.1 : Int)) ∧ W.cell? ⟨bb, off + j * 3 + 1, none⟩ = some (.string ⟨n.2.1.toArray⟩)) :=
   Hd fun W hb => ⟨(hb.cell (p := ⟨g, 0, none⟩) hg).trans k0, (hb.cell (p := ⟨g, 1, none⟩) hg).trans k1, (hb.cell (p := ⟨bb, off + j * 3, none⟩) hbw).trans t0, (hb.cell (p := ⟨bb, off + j * 3 + 1, none⟩) hbw).trans t1⟩
  clear k0 k1 k2 k3 k4 t0 t1 t2 hj hg hbg hbw hl
  cases hi : Rs.is_ (Rs.toks T fin) 1 [] s with
  | false =>
   have HQ2 : Hid (q = false) := Hd (by rw [← hq, hi]; rfl)
   rw [hi] at H1
   clear hi hq
   refine wp_region_held_drew (S := fun W => W.cell? ⟨g, 0, none⟩ = some (.slice (some ⟨bb, off, none⟩) (Rs.toks T fin).length c) ∧ W.cell? ⟨g, 1, none⟩ = some (.int .i64 (s.at_ : Int)) ∧ W.cell? ⟨bb, off + j * 3, none⟩ = some (.int .i64 (n.1 : Int)) ∧ W.cell? ⟨bb, off + j * 3 + 1, none⟩ = some (.string ⟨n.2.1.toArray⟩)) (by kernel_rfl) (HS.out _ (Below.refl _ _).drew) (fun hHeld => ?_)
   refine ht (i := 0) ?_
   refine wpAnyH_ready (rs := [1]) (by kernel_rfl) (by simp) ?_
   refine AllReadyH.cons (by simp only [List.getElem?_toArray, List.getElem?_cons_succ, List.getElem?_cons_zero]; rfl) (fun K hK => ?_) AllReadyH.nil
   go_simp
   go_at_call 38
   with_reducible refine (H1.out _ HE1.out.pa.drew).mono ?_
   rintro e wy ⟨rfl, hb⟩
   have HB1 : Hid (Below w1.heap.size w1 wy) := Hd ((Below.refl _ _).drew.trans hb)
   clear hb
   try go_simp
   refine hK.out _ _ (HS.out _ HB1.out) (fun hHeld => ?_)
   clear hK K
   refine ht (i := 2) ?_
   refine hsk (i := 3) ?_
   refine hsk (i := 4) ?_
   refine hsk (i := 5) ?_
   refine hsk (i := 6) ?_
   refine hsk (i := 7) ?_
   refine hsk (i := 8) ?_
   refine hsk (i := 9) ?_
   refine hsk (i := 10) ?_
   refine hsk (i := 11) ?_
   refine hsk (i := 12) ?_
   refine hsk (i := 13) ?_
   refine hsk (i := 14) ?_
   refine hsk (i := 15) ?_
   refine ht (i := 16) ?_
   refine ht (i := 17) ?_
   refine hsk (i := 18) ?_
   refine hsk (i := 19) ?_
   refine hsk (i := 20) ?_
   refine hsk (i := 21) ?_
   refine hsk (i := 22) ?_
   refine hsk (i := 23) ?_
   refine hsk (i := 24) ?_
   refine hsk (i := 25) ?_
   refine hsk (i := 26) ?_
   refine hsk (i := 27) ?_
   refine hsk (i := 28) ?_
   refine hsk (i := 29) ?_
   refine hsk (i := 30) ?_
   refine ht (i := 31) ?_
   refine wpAnyH_done (by kernel_rfl) ?_ _
   go_wp2_with fail
   go_meet
   exact ⟨by rw [HQ2.out], HB1.out⟩
  | true =>
   rw [hi] at H1
   cases h7 : n.1 == 7 with
   | false =>
    have HQ2 : Hid (q = false) := Hd (by rw [← hq, hi, h7]; rfl)
    have d4 : ((n.1 : Int) == 7) = false := (kd_eqb n.1 7).trans h7
    clear hi hq h7
    refine wp_region_held_drew (S := fun W => W.cell? ⟨g, 0, none⟩ = some (.slice (some ⟨bb, off, none⟩) (Rs.toks T fin).length c) ∧ W.cell? ⟨g, 1, none⟩ = some (.int .i64 (s.at_ : Int)) ∧ W.cell? ⟨bb, off + j * 3, none⟩ = some (.int .i64 (n.1 : Int)) ∧ W.cell? ⟨bb, off + j * 3 + 1, none⟩ = some (.string ⟨n.2.1.toArray⟩)) (by kernel_rfl) (HS.out _ (Below.refl _ _).drew) (fun hHeld => ?_)
    refine ht (i := 0) ?_
    refine wpAnyH_ready (rs := [1]) (by kernel_rfl) (by simp) ?_
    refine AllReadyH.cons (by simp only [List.getElem?_toArray, List.getElem?_cons_succ, List.getElem?_cons_zero]; rfl) (fun K hK => ?_) AllReadyH.nil
    go_simp
    go_at_call 38
    with_reducible refine (H1.out _ HE1.out.pa.drew).mono ?_
    rintro e wy ⟨rfl, hb⟩
    have HB1 : Hid (Below w1.heap.size w1 wy) := Hd ((Below.refl _ _).drew.trans hb)
    clear hb
    try go_simp
    refine hK.out _ _ (HS.out _ HB1.out) (fun hHeld => ?_)
    clear hK K
    refine ht (i := 2) ?_
    refine ht (i := 3) ?_
    refine ht (i := 4) ?_
    refine ht (i := 5) ?_
    refine ht (i := 6) ?_
    refine ht (i := 7) ?_
    refine ht (i := 8) ?_
    refine ht (i := 9) ?_
    refine ht (i := 10) ?_
    refine ht (i := 11) ?_
    refine ht (i := 12) ?_
    refine ht (i := 13) ?_
    refine ht (i := 14) ?_
    refine ht (i := 15) ?_
    refine ht (i := 16) ?_
    refine ht (i := 17) ?_
    refine hsk (i := 18) ?_
    refine hsk (i := 19) ?_
    refine hsk (i := 20) ?_
    refine hsk (i := 21) ?_
    refine hsk (i := 22) ?_
    refine hsk (i := 23) ?_
    refine hsk (i := 24) ?_
    refine hsk (i := 25) ?_
    refine hsk (i := 26) ?_
    refine hsk (i := 27) ?_
    refine hsk (i := 28) ?_
    refine hsk (i := 29) ?_
    refine hsk (i := 30) ?_
    refine ht (i := 31) ?_
    refine wpAnyH_done (by kernel_rfl) ?_ _
    go_wp2_with fail
    go_meet
    exact ⟨by rw [HQ2.out], HB1.out⟩
   | true =>
    have HQ2 : Hid (q = (n.2.1 == [58, 61])) := Hd (by rw [← hq, hi, h7]; rfl)
    have d4 : ((n.1 : Int) == 7) = true := (kd_eqb n.1 7).trans h7
    have d5 := str_eqb n.2.1 [58, 61]
    clear hi hq h7
    refine wp_region_held_drew (S := fun W => W.cell? ⟨g, 0, none⟩ = some (.slice (some ⟨bb, off, none⟩) (Rs.toks T fin).length c) ∧ W.cell? ⟨g, 1, none⟩ = some (.int .i64 (s.at_ : Int)) ∧ W.cell? ⟨bb, off + j * 3, none⟩ = some (.int .i64 (n.1 : Int)) ∧ W.cell? ⟨bb, off + j * 3 + 1, none⟩ = some (.string ⟨n.2.1.toArray⟩)) (by kernel_rfl) (HS.out _ (Below.refl _ _).drew) (fun hHeld => ?_)
    refine ht (i := 0) ?_
    refine wpAnyH_ready (rs := [1]) (by kernel_rfl) (by simp) ?_
    refine AllReadyH.cons (by simp only [List.getElem?_toArray, List.getElem?_cons_succ, List.getElem?_cons_zero]; rfl) (fun K hK => ?_) AllReadyH.nil
    go_simp
    go_at_call 38
    with_reducible refine (H1.out _ HE1.out.pa.drew).mono ?_
    rintro e wy ⟨rfl, hb⟩
    have HB1 : Hid (Below w1.heap.size w1 wy) := Hd ((Below.refl _ _).drew.trans hb)
    clear hb
    try go_simp
    refine hK.out _ _ (HS.out _ HB1.out) (fun hHeld => ?_)
    clear hK K
    refine ht (i := 2) ?_
    refine ht (i := 3) ?_
    refine ht (i := 4) ?_
    refine ht (i := 5) ?_
    refine ht (i := 6) ?_
    refine ht (i := 7) ?_
    refine ht (i := 8) ?_
    refine ht (i := 9) ?_
    refine ht (i := 10) ?_
    refine ht (i := 11) ?_
    refine ht (i := 12) ?_
    refine ht (i := 13) ?_
    refine ht (i := 14) ?_
    refine ht (i := 15) ?_
    refine ht (i := 16) ?_
    refine ht (i := 17) ?_
    refine ht (i := 18) ?_
    refine ht (i := 19) ?_
    refine ht (i := 20) ?_
    refine ht (i := 21) ?_
    refine ht (i := 22) ?_
    refine ht (i := 23) ?_
    refine ht (i := 24) ?_
    refine ht (i := 25) ?_
    refine ht (i := 26) ?_
    refine ht (i := 27) ?_
    refine ht (i := 28) ?_
    refine ht (i := 29) ?_
    refine ht (i := 30) ?_
    refine ht (i := 31) ?_
    refine wpAnyH_done (by kernel_rfl) ?_ _
    go_wp2_with fail
    go_meet
    exact ⟨by rw [HQ2.out], HB1.out⟩
 case rest =>
  obtain ⟨rfl, hbw⟩ := hcut
  have E := HE1.out.below hbw
  clear hbw HE1 H1 hq
  cases q with
  | true =>
   have hq := HHQ.out
   rw [Bool.and_eq_true, Bool.and_eq_true] at hq
   have hi := hq.1.1
   have hlt := Rs.is_lt (by decide) hi
   have hlt2 : s.at_ + 1 < T.length := Rs.tok1_lt (fin := fin) (by
    have : (Rs.tok1 (Rs.toks T fin) s).1 = 7 := by simpa using hq.1.2
    rw [this]; decide)
   have HTK := Hd fun (W : World) (h : RA W g A c (Rs.toks T fin) s) => rtake_z h (HB.out).lt ((HB.out).le hTl) 1 [] (z := 1) rfl (xs := #[]) rfl
   rw [Rs.take_yes hi, HHT.out] at HTK
   have HRV := Hd fun W => rresv_any t.2.1 W
   obtain ⟨s2, hs2⟩ : ∃ s2, (if Ps.resv t.2.1 then Rs.fail (Rs.adv s) 126 t.2.2 else Rs.adv s) = s2 := ⟨_, rfl⟩
   have hat2 : s2.at_ = s.at_ + 1 := by rw [← hs2]; split <;> rfl
   obtain ⟨pe, hpe⟩ : ∃ x, Rs.expr (Rs.toks T fin) f (Rs.adv s2) = x := ⟨_, rfl⟩
   have HE2 : Hid (R = (Ps.nd 4 t.2.1 [pe.1] t.2.2, pe.2)) := Hd (by rw [HE.out, if_pos rfl, hs2, hpe])
   have HBA := Hd (HB.out.adv hlt)
   have HB2 : Hid (Rs.Bd T s2) := Hd (by rw [← hs2]; split; exact HBA.out.mv (Rs.mv_fail _ _ _ _); exact HBA.out)
   have HB3 := Hd (HB2.out.adv (by rw [hat2]; exact hlt2))
   have hrm : Rs.rem T (Rs.adv s2) ≤ Rs.rem T s := Rs.rem_le (by show s.at_ ≤ s2.at_ + 1; omega)
   have hrm2 : Rs.rem T (Rs.adv s) + 10 ≤ Rs.rem T s := Rs.rem_adv (Nat.lt_succ_self _) hlt
   have hrm3 : Rs.rem T (Rs.adv s2) ≤ Rs.rem T (Rs.adv s) := Rs.rem_le (by show s.at_ + 1 ≤ s2.at_ + 1; omega)
   have HEX := Hd fun (W : World) (h : RA W g A c (Rs.toks T fin) (Rs.adv s2)) => (IH.out f (by omega)).expr (Rs.adv s2) W h HB3.out (fun _ => by omega)
   have HMP : Hid (Rs.Mv T (Rs.adv s2) pe.2) := Hd (by rw [← hpe]; exact (Rs.mvAll (T := T) (fin := fin) f).expr _ HB3.out.at_)
   have HBP := Hd (HB3.out.mv HMP.out)
   rw [hpe] at HEX
   clear hq hi hpe
   go_upto_region 3 with (go_at_call 41; refine (HTK.out _ E.pa).mono ?_; rintro e w2 ⟨rfl, hp⟩; have E2 := E.call hp; clear hp)
   refine wp_world (Ev w g A c (Rs.toks T fin) (Rs.adv s) _) (E2.box 40 [_, _, _]) fun w3 E3 => ?_
   clear E E2 HTK
   obtain ⟨a, a0, a1, a2⟩ := E3.c3 0 rfl
   have key : ∀ (w5 : World), Ev w g A c (Rs.toks T fin) s2 [⟨w2.heap.size, 40, [.int .i64 (t.1 : Int), .string ⟨t.2.1.toArray⟩, .int .i64 (t.2.2 : Int)]⟩, ⟨w.heap.size, 26, [.int .i64 0, .string ⟨#[]⟩, .slice none 0 0, .slice none 0 0, .slice none 0 0, .int .i64 0, .int .i64 0]⟩] w5 → True := fun _ _ => trivial
   clear key
   obtain ⟨rv, hrv⟩ : ∃ rv, Ps.resv t.2.1 = rv := ⟨_, rfl⟩
   rw [hrv] at HRV hs2
   cases rv with
   | true =>
    have e2 : Rs.fail (Rs.adv s) 126 t.2.2 = s2 := hs2
    go_upto_region 5 with (first
     | (go_at_call 64; refine (HRV.out _).mono ?_; rintro e w4 ⟨rfl, rfl⟩)
     | (go_at_call 42; refine (rfail_any E3.pa 126 t.2.2 (by decide)).mono ?_; rintro e w5 ⟨rfl, hp⟩; have E5 := E3.call hp; rw [e2] at E5; clear hp))
    clear a a0 a1 a2 E3 e2
    obtain ⟨k0, k1, k2, k3, k4⟩ := E5.pa.cells
    have kf := E5.pa.frz 1
    have hg := E5.pa.lt
    go_upto_region 6 with fail
    refine wp_world (Ev w g A c (Rs.toks T fin) (Rs.adv s2) _) (E5.setAt (s2.at_ + 1) _ (by omega)) fun w6 E6 => ?_
    clear k0 k1 k2 k3 k4 kf hg E5
    obtain ⟨la, a0, a1, a2⟩ := E6.c3 0 rfl
    have hlo := (E6.blk 1 rfl).lt
    have hS6 : w6.drew.cell? ⟨w2.heap.size, 1, none⟩ = some (.string ⟨t.2.1.toArray⟩) ∧ w6.drew.cell? ⟨w2.heap.size, 2, none⟩ = some (.int .i64 (t.2.2 : Int)) := ⟨a1, a2⟩
    refine wp_region_x (s := 8) (S := fun W => W.cell? ⟨w2.heap.size, 1, none⟩ = some (.string ⟨t.2.1.toArray⟩) ∧ W.cell? ⟨w2.heap.size, 2, none⟩ = some (.int .i64 (t.2.2 : Int))) (by kernel_rfl) hS6 (fun hHeld => ?_)
    refine xt (i := 0) ?_
    refine xt (i := 1) ?_
    refine xt (i := 2) ?_
    refine xt (i := 5) ?_
    refine xt (i := 6) ?_
    refine Go.Proofs.YtbnlnndeajjenaaGreat.x1 (i := 3) (fun K2 hK2 => ?_)
    go_simp
    go_at_call 44
    refine (HEX.out _ E6.pa.drew).mono ?_
    rintro e wa ⟨cs, rfl, hp, hbq, ht⟩
    have hza : w6.heap.size ≤ wa.heap.size := hp.1.size
    have HEa := Hd ((E6.below (Below.refl _ _).drew).call hp)
    have HTa := Hd ht
    obtain ⟨p0, p1, C1, o1, e1, C2, o2, e2, C3, o3, e3, p5, p6, rfl⟩ := ht.form
    obtain ⟨la, qa0, qa1, qa2⟩ := HEa.out.c3 0 rfl
    have qa : wa.cell? ⟨w2.heap.size, 1, none⟩ = some (.string ⟨t.2.1.toArray⟩) ∧ wa.cell? ⟨w2.heap.size, 2, none⟩ = some (.int .i64 (t.2.2 : Int)) := ⟨qa1, qa2⟩
    have fz := HEa.out.fz 1 rfl
    obtain ⟨b, b0, b1, b2, b3, b4, b5, b6⟩ := HEa.out.c7 1 rfl
    clear hp ht
    try go_simp
    refine hK2.out _ _ (qa) (fun hHeld => ?_)
    clear hK2 K2
    try simp only [Act.put, List.setIfInBounds_toArray, List.set_cons_zero, List.set_cons_succ]
    refine Go.Proofs.YtbnlnndeajjenaaGreat.x1 (i := 4) (fun K2 hK2 => ?_)
    go_simp
    refine hK2.out _ _ (by go_keep) (fun hHeld => ?_)
    clear hK2 K2
    refine xt (i := 7) ?_
    refine xl (fun K2 hK2 => ?_)
    go_simp
    refine hK2.out _ _ ?_
    clear hK2 K2
    try simp only [Act.put, List.setIfInBounds_toArray, List.set_cons_zero, List.set_cons_succ]
    refine wpAnyX_done (by kernel_rfl) ?_ _
    go_wp2_with fail
    obtain ⟨hb4, hnd⟩ := RNd.put (HEa.out.alloc (.cells #[.int .i64 (p0 : Int), .string ⟨p1.toArray⟩, .slice C1 o1 e1, .slice C2 o2 e2, .slice C3 o3 e3, .int .i64 (p5 : Int), .int .i64 (p6 : Int)] 26)) 1 rfl rfl (TrM.nd (l := [pe.1]) 4 t.2.1 t.2.2 (TsM.one HTa.out hza (fun e => e))) hlo HBP.out HE2.out
    have l9 : w.heap.size < wa.heap.size := Nat.lt_of_lt_of_le hlo hza
    rw [← set7_alloc _ _ _ _ _ _ _ _ _ _ l9] at hb4 hnd
    exact bodyPost_ret (ret26 rfl _ _ rfl hb4) rfl hnd
   | false =>
    have e2 : Rs.adv s = s2 := hs2
    go_upto_region 5 with (go_at_call 64; refine (HRV.out _).mono ?_; rintro e w4 ⟨rfl, rfl⟩)
    have E5 := E3
    rw [e2] at E5
    clear a a0 a1 a2 E3 e2
    obtain ⟨k0, k1, k2, k3, k4⟩ := E5.pa.cells
    have kf := E5.pa.frz 1
    have hg := E5.pa.lt
    go_upto_region 6 with fail
    refine wp_world (Ev w g A c (Rs.toks T fin) (Rs.adv s2) _) (E5.setAt (s2.at_ + 1) _ (by omega)) fun w6 E6 => ?_
    clear k0 k1 k2 k3 k4 kf hg E5
    obtain ⟨la, a0, a1, a2⟩ := E6.c3 0 rfl
    have hlo := (E6.blk 1 rfl).lt
    have hS6 : w6.drew.cell? ⟨w2.heap.size, 1, none⟩ = some (.string ⟨t.2.1.toArray⟩) ∧ w6.drew.cell? ⟨w2.heap.size, 2, none⟩ = some (.int .i64 (t.2.2 : Int)) := ⟨a1, a2⟩
    refine wp_region_x (s := 8) (S := fun W => W.cell? ⟨w2.heap.size, 1, none⟩ = some (.string ⟨t.2.1.toArray⟩) ∧ W.cell? ⟨w2.heap.size, 2, none⟩ = some (.int .i64 (t.2.2 : Int))) (by kernel_rfl) hS6 (fun hHeld => ?_)
    refine xt (i := 0) ?_
    refine xt (i := 1) ?_
    refine xt (i := 2) ?_
    refine xt (i := 5) ?_
    refine xt (i := 6) ?_
    refine Go.Proofs.YtbnlnndeajjenaaGreat.x1 (i := 3) (fun K2 hK2 => ?_)
    go_simp
    go_at_call 44
    refine (HEX.out _ E6.pa.drew).mono ?_
    rintro e wa ⟨cs, rfl, hp, hbq, ht⟩
    have hza : w6.heap.size ≤ wa.heap.size := hp.1.size
    have HEa := Hd ((E6.below (Below.refl _ _).drew).call hp)
    have HTa := Hd ht
    obtain ⟨p0, p1, C1, o1, e1, C2, o2, e2, C3, o3, e3, p5, p6, rfl⟩ := ht.form
    obtain ⟨la, qa0, qa1, qa2⟩ := HEa.out.c3 0 rfl
    have qa : wa.cell? ⟨w2.heap.size, 1, none⟩ = some (.string ⟨t.2.1.toArray⟩) ∧ wa.cell? ⟨w2.heap.size, 2, none⟩ = some (.int .i64 (t.2.2 : Int)) := ⟨qa1, qa2⟩
    have fz := HEa.out.fz 1 rfl
    obtain ⟨b, b0, b1, b2, b3, b4, b5, b6⟩ := HEa.out.c7 1 rfl
    clear hp ht
    try go_simp
    refine hK2.out _ _ (qa) (fun hHeld => ?_)
    clear hK2 K2
    try simp only [Act.put, List.setIfInBounds_toArray, List.set_cons_zero, List.set_cons_succ]
    refine Go.Proofs.YtbnlnndeajjenaaGreat.x1 (i := 4) (fun K2 hK2 => ?_)
    go_simp
    refine hK2.out _ _ (by go_keep) (fun hHeld => ?_)
    clear hK2 K2
    refine xt (i := 7) ?_
    refine xl (fun K2 hK2 => ?_)
    go_simp
    refine hK2.out _ _ ?_
    clear hK2 K2
    try simp only [Act.put, List.setIfInBounds_toArray, List.set_cons_zero, List.set_cons_succ]
    refine wpAnyX_done (by kernel_rfl) ?_ _
    go_wp2_with fail
    obtain ⟨hb4, hnd⟩ := RNd.put (HEa.out.alloc (.cells #[.int .i64 (p0 : Int), .string ⟨p1.toArray⟩, .slice C1 o1 e1, .slice C2 o2 e2, .slice C3 o3 e3, .int .i64 (p5 : Int), .int .i64 (p6 : Int)] 26)) 1 rfl rfl (TrM.nd (l := [pe.1]) 4 t.2.1 t.2.2 (TsM.one HTa.out hza (fun e => e))) hlo HBP.out HE2.out
    have l9 : w.heap.size < wa.heap.size := Nat.lt_of_lt_of_le hlo hza
    rw [← set7_alloc _ _ _ _ _ _ _ _ _ _ l9] at hb4 hnd
    exact bodyPost_ret (ret26 rfl _ _ rfl hb4) rfl hnd
  | false =>
   have HMK : Hid (Rs.Mv T s pk.2) := Hd (by rw [← HPK.out]; exact (Rs.mvAll (T := T) (fin := fin) f).keyw s hsa)
   have hpat := HMK.out.at_ hsa
   have HBK := Hd (HB.out.mv HMK.out)
   have HK5 : Hid (Rs.K5 pk.1 pk.2) := Hd (by rw [← HPK.out]; exact (Rs.k5All (T := T) (fin := fin) f).keyw s hsa)
   have HKA : Hid (Rs.bad pk.2 = false → s.at_ < pk.2.at_) := Hd (fun h => by rw [← HPK.out] at h ⊢; exact Rs.keyw_adv (by omega) hsa h)
   have HKW := Hd fun (W : World) (h : RA W g A c (Rs.toks T fin) s) => (IH.out f (by omega)).keyw s W h HB.out HKS.out (by omega)
   rw [HPK.out] at HKW
   have HI := Hd fun (W : World) (h : RA W g A c (Rs.toks T fin) pk.2) => ris_z h (HBK.out).lt 7 [59] (z := 7) rfl (xs := #[59]) rfl
   obtain ⟨k0, k1, k2, k3, k4⟩ := E.pa.cells
   have hg := E.pa.lt
   have hl1 := (E.blk 0 rfl).lt
   go_upto_region 9 with (go_at_call 65; refine (HKW.out _ E.pa).mono ?_; rintro e w2 ⟨cs, rfl, hp, hb1, ht⟩; have hs2 := hp.1.size; have E2 := E.call hp; have HT2 := Hd ht; obtain ⟨q0, q1, D1, m1, d1, D2, m2, d2, D3, m3, d3, q5, q6, rfl⟩ := ht.form; clear hp hb1 ht)
   have hlo := hl1
   have hsz := (E2.blk 0 rfl).lt
   refine wp_world (fun W => Ev w g A c (Rs.toks T fin) pk.2 [⟨w2.heap.size, 26, [.int .i64 (q0 : Int), .string ⟨q1.toArray⟩, .slice D1 m1 d1, .slice D2 m2 d2, .slice D3 m3 d3, .int .i64 (q5 : Int), .int .i64 (q6 : Int)]⟩, ⟨w.heap.size, 26, [.int .i64 0, .string ⟨#[]⟩, .slice none 0 0, .slice none 0 0, .slice none 0 0, .int .i64 0, .int .i64 0]⟩] W ∧ TrIn W (fun k => w.heap.size < k ∧ k < w2.heap.size) [.int .i64 (q0 : Int), .string ⟨q1.toArray⟩, .slice D1 m1 d1, .slice D2 m2 d2, .slice D3 m3 d3, .int .i64 (q5 : Int), .int .i64 (q6 : Int)] pk.1) ⟨E2.box 26 _, (TrIn.keep HT2.out (by simp) fun k hk hl => Below.heap_alloc _ _ _ hl).more fun k hk hl => ⟨by omega, hk.2.1⟩⟩ fun w3 h3 => ?_
   obtain ⟨tb, htb⟩ : ∃ tb, w2.heap.size = tb := ⟨_, rfl⟩
   rw [htb] at h3 hsz ⊢
   have HE3 := Hd h3.1
   have HT3 := Hd h3.2
   clear h3 E E2 HKW HT2 k0 k1 k2 k3 k4 hg htb
   cases hi : Rs.is_ (Rs.toks T fin) 7 [59] pk.2 with
   | false =>
    have HE2 : Hid (R = (pk.1, pk.2)) := Hd (by rw [HE.out, if_neg (by decide), if_pos (by rw [hi]; rfl)])
    rw [hi] at HI
    clear hi
    go_upto_region 10 with (go_at_call 38; with_reducible refine (HI.out _ HE3.out.pa).mono ?_; rintro e w4 ⟨rfl, hb⟩; have E4 := HE3.out.below hb; have HT4 := Hd (HT3.out.keep hb.size fun k hk hl => hb.block k hl); clear hb)
    clear HE3 HT3
    obtain ⟨a, a0, a1, a2, a3, a4, a5, a6⟩ := E4.c7 0 rfl
    obtain ⟨b, b0, b1, b2, b3, b4, b5, b6⟩ := E4.c7 1 rfl
    have f1 := E4.fz 1 rfl
    go_wp2
    obtain ⟨hb4, hnd⟩ := RNd.put (lo := w.heap.size + 1) E4 1 rfl rfl (TrIn.more HT4.out fun k hk hl => ⟨hk.1, hl, fun e => e⟩) (Nat.lt_succ_self _) HBK.out HE2.out
    exact bodyPost_ret (ret26 rfl _ _ rfl hb4) rfl hnd
   | true =>
    have hlt := Rs.is_lt (by decide) hi
    have hko := Rs.is_ok hi
    have hkat := HKA.out hko
    rw [hi] at HI
    have HTQ := Hd fun (W : World) (h : RA W g A c (Rs.toks T fin) pk.2) => rtok_any h (HBK.out).lt
    obtain ⟨tq, htq⟩ : ∃ tq, Rs.tok (Rs.toks T fin) pk.2 = tq := ⟨_, rfl⟩
    rw [htq] at HTQ
    have hq2 := fld2 (.int .i64 (tq.1 : Int)) (.string ⟨tq.2.1.toArray⟩) (.int .i64 (tq.2.2 : Int))
    have HEB : Hid (R = if pk.1.kind != 5 || Rs.grouped (Rs.toks T fin) s.at_ pk.2.at_ then (pk.1, Rs.fail pk.2 124 tq.2.2) else (Ps.nd 6 [] (Rs.casL (Rs.toks T fin) f [pk.1.nodes.headD Ps.Tr.zero, Ps.nd 7 pk.1.name pk.1.nodes.tail pk.1.place] pk.2).1 pk.1.place, (Rs.casL (Rs.toks T fin) f [pk.1.nodes.headD Ps.Tr.zero, Ps.nd 7 pk.1.name pk.1.nodes.tail pk.1.place] pk.2).2)) := Hd (by rw [HE.out, if_neg (by decide), if_neg (by rw [hi]; decide), htq])
    have HGR := Hd fun (W : World) (h : RA W g A c (Rs.toks T fin) pk.2) => rgrp_any h (from_ := s.at_) hpat.1 (by have := Ps.toks_len (T := T) (fin := fin); omega) (HBK.out.le hTl)
    obtain ⟨q0', q1', _, _, _, _, _, _, _, _, _, _, q6', ee, e1, e2, e3, e4, -⟩ := HT3.out.seven
    simp only [List.cons.injEq, Value.int.injEq, true_and, and_true] at ee
    have hkd : Hid (q0 = pk.1.kind) := Hd (by have := ee.1; omega)
    clear hi htq ee e1 e2 e3 e4
    go_upto_region 11 with (go_at_call 38; with_reducible refine (HI.out _ HE3.out.pa).mono ?_; rintro e w4 ⟨rfl, hb⟩; have HE4 := Hd (HE3.out.below hb); have HT4 := Hd (HT3.out.keep hb.size fun k hk hl => hb.block k hl); clear hb)
    clear HE3 HT3 HI
    obtain ⟨a, a0, a1, a2, a3, a4, a5, a6⟩ := HE4.out.c7 0 rfl
    cases h5 : pk.1.kind != 5 with
    | true =>
     have d5 : ((q0 : Int) != 5) = true := by rw [hkd.out]; exact (kd_neb pk.1.kind 5).trans h5
     have HE2 : Hid (R = (pk.1, Rs.fail pk.2 124 tq.2.2)) := Hd (by rw [HEB.out, if_pos (by rw [h5]; rfl)])
     go_upto_region 13 with (first
      | (go_at_call 66; refine (HGR.out _ HE4.out.pa).mono ?_; rintro e w5 ⟨rfl, rfl⟩)
      | (go_at_call 37; refine (HTQ.out _ HE4.out.pa).mono ?_; rintro e w6 ⟨rfl, hb⟩; have HE6 := Hd (HE4.out.below hb); have HT6 := Hd (HT4.out.keep hb.size fun k hk hl => hb.block k hl); clear hb)
      | (go_at_call 42; refine (rfail_any HE6.out.pa 124 tq.2.2 (by decide)).mono ?_; rintro e w7 ⟨rfl, hp⟩; have E7 := HE6.out.call hp; have HT7 := Hd (HT6.out.keep hp.1.size fun k hk hl => hp.1.block k hl (by omega)); clear hp))
     clear a a0 a1 a2 a3 a4 a5 a6 HE4 HT4 HE6 HT6
     obtain ⟨a, a0, a1, a2, a3, a4, a5, a6⟩ := E7.c7 0 rfl
     obtain ⟨b, b0, b1, b2, b3, b4, b5, b6⟩ := E7.c7 1 rfl
     have f1 := E7.fz 1 rfl
     go_wp2
     obtain ⟨hb4, hnd⟩ := RNd.put (lo := w.heap.size + 1) E7 1 rfl rfl (TrIn.more HT7.out fun k hk hl => ⟨hk.1, hl, fun e => e⟩) (Nat.lt_succ_self _) (HBK.out.mv (Rs.mv_fail _ _ _ _)) HE2.out
     exact bodyPost_ret (ret26 rfl _ _ rfl hb4) rfl hnd
    | false =>
     have d5 : ((q0 : Int) != 5) = false := by rw [hkd.out]; exact (kd_neb pk.1.kind 5).trans h5
     cases hgr : Rs.grouped (Rs.toks T fin) s.at_ pk.2.at_ with
     | true =>
      rw [hgr] at HGR
      have HE2 : Hid (R = (pk.1, Rs.fail pk.2 124 tq.2.2)) := Hd (by rw [HEB.out, if_pos (by rw [h5, hgr]; rfl)])
      go_upto_region 13 with (first
       | (go_at_call 66; refine (HGR.out _ HE4.out.pa).mono ?_; rintro e w5 ⟨rfl, rfl⟩)
       | (go_at_call 37; refine (HTQ.out _ HE4.out.pa).mono ?_; rintro e w6 ⟨rfl, hb⟩; have HE6 := Hd (HE4.out.below hb); have HT6 := Hd (HT4.out.keep hb.size fun k hk hl => hb.block k hl); clear hb)
       | (go_at_call 42; refine (rfail_any HE6.out.pa 124 tq.2.2 (by decide)).mono ?_; rintro e w7 ⟨rfl, hp⟩; have E7 := HE6.out.call hp; have HT7 := Hd (HT6.out.keep hp.1.size fun k hk hl => hp.1.block k hl (by omega)); clear hp))
      clear a a0 a1 a2 a3 a4 a5 a6 HE4 HT4 HE6 HT6
      obtain ⟨a, a0, a1, a2, a3, a4, a5, a6⟩ := E7.c7 0 rfl
      obtain ⟨b, b0, b1, b2, b3, b4, b5, b6⟩ := E7.c7 1 rfl
      have f1 := E7.fz 1 rfl
      go_wp2
      obtain ⟨hb4, hnd⟩ := RNd.put (lo := w.heap.size + 1) E7 1 rfl rfl (TrIn.more HT7.out fun k hk hl => ⟨hk.1, hl, fun e => e⟩) (Nat.lt_succ_self _) (HBK.out.mv (Rs.mv_fail _ _ _ _)) HE2.out
      exact bodyPost_ret (ret26 rfl _ _ rfl hb4) rfl hnd
     | false =>
      rw [hgr] at HGR
      have h5' : pk.1.kind = 5 := by simpa using h5
      obtain ⟨hn1, hn2⟩ := HK5.out h5'
      obtain ⟨l0', hl0'⟩ : ∃ l, [pk.1.nodes.headD Ps.Tr.zero, Ps.nd 7 pk.1.name pk.1.nodes.tail pk.1.place] = l := ⟨_, rfl⟩
      obtain ⟨RK, hRK⟩ : ∃ x, Rs.casL (Rs.toks T fin) f l0' pk.2 = x := ⟨_, rfl⟩
      have HE2 : Hid (R = (Ps.nd 6 [] RK.1 q6, RK.2)) := Hd (by
       obtain ⟨_, _, _, _, _, e6, _⟩ := HT4.out.split1 hn1
       rw [HEB.out, if_neg (by rw [h5, hgr]; decide), hl0', hRK, e6])
      have HRK := Hd hRK
      have HL0 := Hd hl0'
      clear h5 hgr hRK hl0' h5'
      go_upto_region 14 with (go_at_call 66; refine (HGR.out _ HE4.out.pa).mono ?_; rintro e w5 ⟨rfl, rfl⟩)
      clear HGR
      go_upto_region 15 with fail
      obtain ⟨ts, hts⟩ : ∃ ts, w5.heap.size = ts := ⟨_, rfl⟩
      have hlts : tb < ts := by rw [← hts]; exact a
      refine wp_world (fun W => RCa w g A c T fin ts tb q6 pk.2 [] (.slice none 0 0) [.int .i64 (q0 : Int), .string ⟨q1.toArray⟩, .slice D1 m1 d1, .slice D2 m2 d2, .slice D3 m3 d3, .int .i64 (q5 : Int), .int .i64 (q6 : Int)] pk.1 W) (by
       refine ⟨RAc.start HE4.out 1 rfl hts (TsM.nil _ _ (fun k => k = w.heap.size)) rfl HBK.out (fun k hk => by simp [Value.ownBlock] at hk) 6 q6 [], (HE4.out.blk 0 rfl).alloc _, HT4.out.keep (by simp) fun k hk hl => Below.heap_alloc _ _ _ hl, ⟨by omega, hlts⟩, fun k hk => by simp [Value.ownBlock] at hk⟩) fun w6 hc6 => ?_
      rw [hts]
      have HC6 := Hd hc6
      obtain ⟨n1, n2, n3, n4, n5, n6, bb, off, x0, x1, B1, y1, z1, B2, y2, z2, B3, y3, z3, x5, x6, css0, hD3, hSb, hbl, c0, c1, c2, c3, c4, c5, c6, hhead, hcl0, hfl0, hcs0, htr0⟩ := hc6.kt.split1 hn1
      subst hD3
      have HN2 := Hd n2
      have HN5 := Hd n5
      have HN6 := Hd n6
      have hm3 : m3 ≤ pk.2.at_ + 1 := by omega
      clear n2 n4 n5 n6
      have HHD := Hd hhead
      have HTR := Hd htr0
      have HCS := Hd hcs0
      obtain ⟨A', hA'⟩ : ∃ A', (if d3 = 1 then some (⟨bb, off, none⟩ : Addr) else some ⟨bb, off + 7, none⟩) = A' := ⟨_, rfl⟩
      have HAP := Hd hA'
      clear hc6 hhead htr0 hcs0 hA' a a0 a1 a2 a3 a4 a5 a6 HE4 HT4 hts
      obtain ⟨css, hcl, hown, hpush⟩ := HC6.out.head HHD.out hgb
      have HOWN := Hd hown
      have HPUSH := Hd hpush
      obtain ⟨i0, hii, hz0, hz1, hz2⟩ := info_parts info26
      obtain ⟨a, a0, a1, a2, a3, a4, a5, a6⟩ := HC6.out.acc.env.c7 0 rfl
      have hk4 := HC6.out.kb.cell 4
      have hw6 : w.heap.size ≤ w6.heap.size := HC6.out.acc.env.size
      have v0 : 0 < m3 := n1
      have v1 : (1 : Int) ≤ (m3 : Int) := by omega
      have v2 : (m3 : Int) ≤ (d3 : Int) := by omega
      have v3 : (0 : Int) < (m3 : Int) := by omega
      have v4 : (1 : Int) ≤ (d3 : Int) := by omega
      have v6 : 1 ≤ d3 := by omega
      clear hown hpush hcl
      have hS6 : w6.drew.cell? ⟨ts, 4, none⟩ = some (.slice none 0 0) ∧ w6.drew.cell? ⟨tb, 4, none⟩ = some (.slice (some ⟨bb, off, none⟩) m3 d3) ∧ w6.drew.cell? ⟨bb, off, none⟩ = some (.int .i64 (x0 : Int)) ∧ w6.drew.cell? ⟨bb, off + 1, none⟩ = some (.string ⟨x1.toArray⟩) ∧ w6.drew.cell? ⟨bb, off + 2, none⟩ = some (.slice B1 y1 z1) ∧ w6.drew.cell? ⟨bb, off + 3, none⟩ = some (.slice B2 y2 z2) ∧ w6.drew.cell? ⟨bb, off + 4, none⟩ = some (.slice B3 y3 z3) ∧ w6.drew.cell? ⟨bb, off + 5, none⟩ = some (.int .i64 (x5 : Int)) ∧ w6.drew.cell? ⟨bb, off + 6, none⟩ = some (.int .i64 (x6 : Int)) := ⟨a4, hk4, c0, c1, c2, c3, c4, c5, c6⟩
      refine wp_region_x (s := 9) (S := fun W => W.cell? ⟨ts, 4, none⟩ = some (.slice none 0 0) ∧ W.cell? ⟨tb, 4, none⟩ = some (.slice (some ⟨bb, off, none⟩) m3 d3) ∧ W.cell? ⟨bb, off, none⟩ = some (.int .i64 (x0 : Int)) ∧ W.cell? ⟨bb, off + 1, none⟩ = some (.string ⟨x1.toArray⟩) ∧ W.cell? ⟨bb, off + 2, none⟩ = some (.slice B1 y1 z1) ∧ W.cell? ⟨bb, off + 3, none⟩ = some (.slice B2 y2 z2) ∧ W.cell? ⟨bb, off + 4, none⟩ = some (.slice B3 y3 z3) ∧ W.cell? ⟨bb, off + 5, none⟩ = some (.int .i64 (x5 : Int)) ∧ W.cell? ⟨bb, off + 6, none⟩ = some (.int .i64 (x6 : Int))) (by kernel_rfl) hS6 (fun hHeld => ?_)
      refine xt (i := 0) ?_
      refine xt (i := 1) ?_
      refine xt (i := 2) ?_
      refine xt (i := 3) ?_
      refine xt (i := 4) ?_
      refine xt (i := 5) ?_
      refine Go.Proofs.YtbnlnndeajjenaaGreat.x1 (i := 6) (fun K2 hK2 => ?_)
      go_simp
      refine hK2.out _ _ (by go_keep) (fun hHeld => ?_)
      clear hK2 K2
      try simp only [Act.put, List.setIfInBounds_toArray, List.set_cons_zero, List.set_cons_succ]
      refine Go.Proofs.YtbnlnndeajjenaaGreat.x1 (i := 7) (fun K2 hK2 => ?_)
      refine step_append_any _ rfl (.tmp 92) (.tmp 97) 24 rfl w.heap.size 26 i0 _ 7 112 Tryz.underlying24 hii hz0 hz1 hz2 rfl (by decide) (.slice none 0 0) 0 css.flatten (by rfl) (World.ownsRow.alloc HOWN.out _) (w6.heap.size + 1) (some ⟨w6.heap.size, 0, none⟩) 1 1 _ (by rfl) (Reads.builtN w6 26 [_, _, _, _, _, _, _] 1 7 rfl) (by intro u hu; simp only [List.mem_cons, List.not_mem_nil, or_false] at hu; rcases hu with rfl | rfl | rfl | rfl | rfl | rfl | rfl <;> rfl) (by simp only [maxLen]; omega) (by omega) (by simp; omega) ?_
      intro v6' wb hown6 hgrow6 hv6
      obtain ⟨A6, c6', rfl, _, _⟩ := own_form hown6
      obtain ⟨hcl, hfz, hlt6, hold, hac⟩ := HPUSH.out _ _ _ hown6 ⟨hgrow6.os, hgrow6.tape, hgrow6.output, hgrow6.size, hgrow6.block⟩ (by simpa using hv6)
      have HAC := Hd hac
      have kbf := hfz 4
      have qb : wb.cell? ⟨ts, 4, none⟩ = some (.slice none 0 0) ∧ wb.cell? ⟨tb, 4, none⟩ = some (.slice (some ⟨bb, off, none⟩) m3 d3) ∧ wb.cell? ⟨bb, off, none⟩ = some (.int .i64 (x0 : Int)) ∧ wb.cell? ⟨bb, off + 1, none⟩ = some (.string ⟨x1.toArray⟩) ∧ wb.cell? ⟨bb, off + 2, none⟩ = some (.slice B1 y1 z1) ∧ wb.cell? ⟨bb, off + 3, none⟩ = some (.slice B2 y2 z2) ∧ wb.cell? ⟨bb, off + 4, none⟩ = some (.slice B3 y3 z3) ∧ wb.cell? ⟨bb, off + 5, none⟩ = some (.int .i64 (x5 : Int)) ∧ wb.cell? ⟨bb, off + 6, none⟩ = some (.int .i64 (x6 : Int)) := ⟨(hcl 4).trans a4, (hold ⟨tb, 4, none⟩ (Nat.le_refl _)).trans hk4, (hold ⟨bb, off, none⟩ (Nat.le_of_lt hSb.2)).trans c0, (hold ⟨bb, off + 1, none⟩ (Nat.le_of_lt hSb.2)).trans c1, (hold ⟨bb, off + 2, none⟩ (Nat.le_of_lt hSb.2)).trans c2, (hold ⟨bb, off + 3, none⟩ (Nat.le_of_lt hSb.2)).trans c3, (hold ⟨bb, off + 4, none⟩ (Nat.le_of_lt hSb.2)).trans c4, (hold ⟨bb, off + 5, none⟩ (Nat.le_of_lt hSb.2)).trans c5, (hold ⟨bb, off + 6, none⟩ (Nat.le_of_lt hSb.2)).trans c6⟩
      clear hown6 hgrow6 hv6 hcl hfz hac hold
      try go_simp
      refine hK2.out _ _ (qb) (fun hHeld => ?_)
      clear hK2 K2
      try simp only [Act.put, List.setIfInBounds_toArray, List.set_cons_zero, List.set_cons_succ]
      refine Go.Proofs.YtbnlnndeajjenaaGreat.x1 (i := 8) (fun K2 hK2 => ?_)
      go_simp
      refine hK2.out _ _ (hHeld) (fun hHeld => ?_)
      clear hK2 K2
      try simp only [Act.put, List.setIfInBounds_toArray, List.set_cons_zero, List.set_cons_succ]
      refine xl (fun K2 hK2 => ?_)
      go_simp
      refine hK2.out _ _ ?_
      clear hK2 K2
      try simp only [Act.put, List.setIfInBounds_toArray, List.set_cons_zero, List.set_cons_succ]
      refine wpAnyX_done (by kernel_rfl) ?_ _
      clear hHeld qb a a0 a1 a2 a3 a4 a5 a6 hS6 hk4 c0 c1 c2 c3 c4 c5 c6
      go_upto_region 16 with fail
      refine wp_world (fun W => RCa w g A c T fin ts tb q6 pk.2 ([] ++ [pk.1.nodes.headD Ps.Tr.zero]) _ [.int .i64 (q0 : Int), .string ⟨q1.toArray⟩, .slice D1 m1 d1, .slice D2 m2 d2, .slice (some ⟨bb, off, none⟩) m3 d3, .int .i64 (q5 : Int), .int .i64 (q6 : Int)] pk.1 W) HAC.out fun w7 h7 => ?_
      have HC7 := Hd h7
      clear h7 HAC HC6 HHD HOWN HPUSH HAP kbf HTR HCS hcl0 hfl0 hbl hSb
      have y1 := HC7.out.kb.cell 1
      have y6 := HC7.out.kb.cell 6
      have yl := HC7.out.kb.lt
      obtain ⟨t7, ht7⟩ : ∃ t7, w7.heap.size = t7 := ⟨_, rfl⟩
      go_upto_region 17 with fail
      refine wp_world (fun W => RCa w g A c T fin ts tb q6 pk.2 ([] ++ [pk.1.nodes.headD Ps.Tr.zero]) _ [.int .i64 (q0 : Int), .string ⟨q1.toArray⟩, .slice D1 m1 d1, .slice D2 m2 d2, .slice (some ⟨bb, off, none⟩) m3 d3, .int .i64 (q5 : Int), .int .i64 (q6 : Int)] pk.1 W ∧ Blk W w7.heap.size 26 #[.int .i64 7, .string ⟨q1.toArray⟩, .slice none 0 0, .slice none 0 0, .slice none 0 0, .int .i64 0, .int .i64 (q6 : Int)] ∧ Below w7.heap.size w7 W) ⟨HC7.out.below (new_below _ _), Blk.new _ _ _, new_below _ _⟩ fun w9 h9 => ?_
      have HC9 := Hd h9.1
      have HK9 := Hd h9.2.1
      have HB9 := Hd h9.2.2
      rw [ht7] at HK9
      have HT7 := Hd ht7
      clear h9 y1 y6 yl ht7
      obtain ⟨tl, htl⟩ : ∃ tl, pk.1.nodes.tail = tl := ⟨_, rfl⟩
      have HTL := Hd htl
      obtain ⟨n1', n2, -, -, -, -, bb', off', _, _, _, _, _, _, _, _, _, _, _, _, _, css0, hD3, hSb, hbl, -, -, -, -, -, -, -, -, hcl0, hfl0, hcs0, htr0⟩ := HC9.out.kt.split1 hn1
      injection hD3 with hD3
      injection hD3 with e1 e2 _
      subst e1 e2
      have hn7 : Hid (m3 - 1 = tl.length) := Hd (by rw [← htl, List.length_tail, ← n2])
      have HTR : Hid (∀ (i : Nat) (cs' : List Value) (t' : Ps.Tr), css0[i]? = some cs' → tl[i]? = some t' → TrIn w7 (fun k => w.heap.size < k ∧ k < tb) cs' t') := Hd (by
       obtain ⟨_, _, -, -, -, -, bb2, off2, _, _, _, _, _, _, _, _, _, _, _, _, _, css1, hD4, hSb2, hbl2, -, -, -, -, -, -, -, -, hcl1, hfl1, hcs1, htr1⟩ := HC7.out.kt.split1 hn1
       injection hD4 with hD4
       injection hD4 with e1 e2 _
       subst e1 e2
       have hlt7 : bb < w7.heap.size := hbl2
       have ee : css0.flatten = css1.flatten := by
        apply List.ext_getElem?
        intro i
        rcases Nat.lt_or_ge i ((m3 - 1) * 7) with h | h
        ·have a1 := hcs0 i _ (List.getElem?_eq_getElem (by rw [hfl0]; exact h))
         have a2 := hcs1 i _ (List.getElem?_eq_getElem (by rw [hfl1]; exact h))
         rw [(HB9.out.cell (p := ⟨bb, off + 7 + i, none⟩) hlt7)] at a1
         rw [List.getElem?_eq_getElem (by rw [hfl0]; exact h), List.getElem?_eq_getElem (by rw [hfl1]; exact h)]
         exact a1.symm.trans a2
        ·rw [List.getElem?_eq_none (by rw [hfl0]; exact h), List.getElem?_eq_none (by rw [hfl1]; exact h)]
       have eq : css0 = css1 := flat_inj (fun cs hcs => by
        obtain ⟨i, hi, rfl⟩ := List.getElem_of_mem hcs
        exact TrIn.len (htr0 i _ _ (List.getElem?_eq_getElem hi) (List.getElem?_eq_getElem (by rw [← hcl0]; exact hi)))) (fun cs hcs => by
        obtain ⟨i, hi, rfl⟩ := List.getElem_of_mem hcs
        exact TrIn.len (htr1 i _ _ (List.getElem?_eq_getElem hi) (List.getElem?_eq_getElem (by rw [← hcl1]; exact hi)))) ee
       intro i cs' t' hc ht
       rw [eq] at hc
       rw [← htl] at ht
       exact htr1 i cs' t' hc ht)
      rw [htl] at hcl0
      have HCL := Hd hcl0
      have hone : ∀ u ∈ css0.flatten, u.oneCell' = true := fun u hu => by
       obtain ⟨cs', hcs', hu'⟩ := List.mem_flatten.1 hu
       obtain ⟨i, hi, rfl⟩ := List.getElem_of_mem hcs'
       exact TrIn.one (HTR.out i _ _ (List.getElem?_eq_getElem hi) (List.getElem?_eq_getElem (by rw [← HCL.out]; exact hi))) u hu'
      have hrd : Reads w9 w9.heap.size 7 (if d3 = 1 then some (⟨bb, off, none⟩ : Addr) else some ⟨bb, off + 7, none⟩) (m3 - 1) css0.flatten := ⟨hfl0, fun h => by
       refine ⟨⟨bb, off + 7, none⟩, if_neg (by omega), hbl, fun j u hu => ?_⟩
       have e : (⟨bb, off + 7, none⟩ : Addr).add j = ⟨bb, off + 7 + j, none⟩ := by unfold Addr.add; split <;> simp_all
       rw [e]
       exact hcs0 j u hu⟩
      have HONE := Hd hone
      have HRD := Hd hrd
      have hx4 := HK9.out.cell 4
      have hxf := HK9.out.frozen
      have hxl := HK9.out.lt
      have hk4 := HC9.out.kb.cell 4
      have hw9 : w.heap.size ≤ w9.heap.size := HC9.out.acc.env.size
      clear htl n1' n2 hcl0 hfl0 hcs0 htr0 hone hrd hSb hbl
      have hS9 : w9.drew.cell? ⟨t7, 4, none⟩ = some (.slice none 0 0) ∧ w9.drew.cell? ⟨tb, 4, none⟩ = some (.slice (some ⟨bb, off, none⟩) m3 d3) := ⟨hx4, hk4⟩
      refine wp_region_x (s := 7) (S := fun W => W.cell? ⟨t7, 4, none⟩ = some (.slice none 0 0) ∧ W.cell? ⟨tb, 4, none⟩ = some (.slice (some ⟨bb, off, none⟩) m3 d3)) (by kernel_rfl) hS9 (fun hHeld => ?_)
      refine xt (i := 0) ?_
      refine xt (i := 1) ?_
      refine xt (i := 2) ?_
      refine xt (i := 3) ?_
      refine xt (i := 4) ?_
      refine Go.Proofs.YtbnlnndeajjenaaGreat.x1 (i := 5) (fun K2 hK2 => ?_)
      refine step_append_any _ rfl (.tmp 106) (.tmp 109) 24 rfl w.heap.size 26 i0 _ 7 112 Tryz.underlying24 hii hz0 hz1 hz2 rfl (by decide) (.slice none 0 0) 0 [] (by rfl) (World.ownsRow_nil _ _ _ _) w9.heap.size (if d3 = 1 then some (⟨bb, off, none⟩ : Addr) else some ⟨bb, off + 7, none⟩) (m3 - 1) (d3 - 1) css0.flatten (by rfl) (HRD.out.drew) HONE.out (by simp only [maxLen]; omega) (by omega) hw9 ?_
      intro v7 w10 hown6 hgrow6 hv6
      rw [hn7.out, Nat.zero_add, List.nil_append] at hown6
      obtain ⟨A7, c7, rfl, _, _⟩ := own_form hown6
      have HTS := Hd (HC7.out.tail (HB9.out.drew) HT7.out (by have := HB9.out.size; have := HK9.out.lt; show _ ≤ w9.heap.size; omega) HCL.out HTR.out hown6 hgrow6 (by simpa [Value.ownBlock] using hv6))
      have HK10 := Hd ((Blk.drew HK9.out).grown hgrow6 (by simp [Value.ownBlock]))
      have HB10 : Hid (Below w7.heap.size w7 w10) := Hd (HB9.out.trans (B := w7.heap.size) ⟨hgrow6.os, hgrow6.tape, hgrow6.output, hgrow6.size, fun i hi => hgrow6.block i (Nat.lt_of_lt_of_le hi HB9.out.size) (by simp [Value.ownBlock])⟩)
      have q10 : w10.cell? ⟨t7, 4, none⟩ = some (.slice none 0 0) ∧ w10.cell? ⟨tb, 4, none⟩ = some (.slice (some ⟨bb, off, none⟩) m3 d3) := ⟨HK10.out.cell 4, ((Blk.drew HC9.out.kb).grown hgrow6 (by simp [Value.ownBlock])).cell 4⟩
      have f10 := HK10.out.frozen
      have l10 := HK10.out.lt
      clear hown6 hgrow6 hv6
      try go_simp
      refine hK2.out _ _ (q10) (fun hHeld => ?_)
      clear hK2 K2
      try simp only [Act.put, List.setIfInBounds_toArray, List.set_cons_zero, List.set_cons_succ]
      refine Go.Proofs.YtbnlnndeajjenaaGreat.x1 (i := 6) (fun K2 hK2 => ?_)
      go_simp
      refine hK2.out _ _ (hHeld) (fun hHeld => ?_)
      clear hK2 K2
      try simp only [Act.put, List.setIfInBounds_toArray, List.set_cons_zero, List.set_cons_succ]
      refine xl (fun K2 hK2 => ?_)
      go_simp
      refine hK2.out _ _ ?_
      clear hK2 K2
      try simp only [Act.put, List.setIfInBounds_toArray, List.set_cons_zero, List.set_cons_succ]
      refine wpAnyX_done (by kernel_rfl) ?_ _
      clear hHeld HRD
      generalize (if d3 = 1 then some (⟨bb, off, none⟩ : Addr) else some ⟨bb, off + 7, none⟩) = A9
      go_upto_region 18 with fail
      refine wp_world (fun W => RCa w g A c T fin ts tb q6 pk.2 ([] ++ [pk.1.nodes.headD Ps.Tr.zero]) _ [.int .i64 (q0 : Int), .string ⟨q1.toArray⟩, .slice D1 m1 d1, .slice D2 m2 d2, .slice (some ⟨bb, off, none⟩) m3 d3, .int .i64 (q5 : Int), .int .i64 (q6 : Int)] pk.1 W ∧ Blk W t7 26 #[.int .i64 7, .string ⟨q1.toArray⟩, (.slice none 0 0), (.slice none 0 0), .slice A7 tl.length c7, .int .i64 0, .int .i64 (q6 : Int)] ∧ TsM W w.heap.size (fun k => k = ts ∨ k = w.heap.size ∨ some k = (Value.slice A6 _ c6').ownBlock ∨ k = t7) (.slice A7 tl.length c7) tl) ⟨HC7.out.below (HB10.out.setCell (p := ⟨t7, 4, none⟩) (by rw [HT7.out]; exact Nat.le_refl _) _), by have := HK10.out.set_ 4 (.slice A7 tl.length c7); simpa only [List.setIfInBounds_toArray, List.set_cons_zero, List.set_cons_succ] using this, HTS.out.store (chg_set _ _ _ _) fun k e => .inr (.inr (.inr e))⟩ fun w11 h11 => ?_
      have HC11 := Hd h11.1
      have HK11 := Hd h11.2.1
      have HT11 := Hd h11.2.2
      clear h11 HC7 HC9 HB9 HK9 HK10 HB10 HTS HTR HONE HCL hx4 hxf hxl hk4 hS9 v0 v1 v2 v3 v4 v6
      have htf : TrIn w11 (fun k => w.heap.size ≤ k ∧ k < w11.heap.size ∧ ¬ (k = ts ∨ k = w.heap.size) ∧ some k ≠ (Value.slice A6 _ c6').ownBlock) _ (Ps.nd 7 q1 tl q6) := TrIn.more (TrM.nd (l := tl) 7 q1 q6 HT11.out) fun k hk hlt => ⟨hk.1, hk.2.1, fun e => hk.2.2 (by rcases e with e | e; exact .inl e; exact .inr (.inl e)), fun e => hk.2.2 (.inr (.inr (.inl e)))⟩
      obtain ⟨css, hcl, hown, hpush⟩ := HC11.out.acc.pushG htf hgb
      have HOWN := Hd hown
      have HPUSH := Hd hpush
      obtain ⟨a, a0, a1, a2, a3, a4, a5, a6⟩ := HC11.out.acc.env.c7 0 rfl
      have fz := HC11.out.acc.env.fz 0 rfl
      have y := HK11.out.lt
      have y0 := HK11.out.cell 0
      have y1 := HK11.out.cell 1
      have y2 := HK11.out.cell 2
      have y3 := HK11.out.cell 3
      have y4 := HK11.out.cell 4
      have y5 := HK11.out.cell 5
      have y6 := HK11.out.cell 6
      have hw11 : w.heap.size ≤ w11.heap.size := HC11.out.acc.env.size
      clear hown hpush hcl htf
      go_upto_block 0 with (at_builtin; refine wpList_append_any _ rfl (.tmp 113) (.tmp 115) 24 rfl w.heap.size 26 i0 _ 7 112 Tryz.underlying24 hii hz0 hz1 hz2 rfl (by decide) (.slice A6 _ c6') 1 css.flatten (by rfl) (World.ownsRow.alloc HOWN.out _) (w11.heap.size + 1) (some ⟨w11.heap.size, 0, none⟩) 1 1 _ (by rfl) (Reads.builtN w11 26 [_, _, _, _, _, _, _] 1 7 rfl) (by intro u hu; simp only [List.mem_cons, List.not_mem_nil, or_false] at hu; rcases hu with rfl | rfl | rfl | rfl | rfl | rfl | rfl <;> rfl) (by simp only [maxLen]; omega) (by omega) (by simp; omega) ?_; intro v8 wb hown6 hgrow6 hv6; obtain ⟨A8, c8, rfl, _, _⟩ := own_form hown6; obtain ⟨hcl, hfz, hlt6, hold, hac, -, -⟩ := HPUSH.out _ _ _ hown6 hgrow6 (by simpa using hv6); have HAC := Hd hac; have kb := hcl 4; rw [a4] at kb; have kbf := hfz 4; clear hown6 hgrow6 hv6 hcl hfz hac hold)
      refine wp_world (fun W => RAc w g A c T fin w.heap.size ts w.heap.size 6 q6 pk.2 [] (([] ++ [pk.1.nodes.headD Ps.Tr.zero]) ++ [Ps.nd 7 q1 tl q6]) _ W) HAC.out fun w13 h13 => ?_
      have HC1 := Hd h13
      have hll : ([] ++ [pk.1.nodes.headD Ps.Tr.zero]) ++ [Ps.nd 7 q1 tl q6] = l0' := by rw [← HL0.out, HTL.out, HN5.out, HN6.out]; rfl
      rw [hll] at HC1
      have hlen0 : l0'.length = 2 := by rw [← HL0.out]; rfl
      clear h13 HAC kb kbf HOWN HPUSH HC11 HK11 HT11 a a0 a1 a2 a3 a4 a5 a6 fz y y0 y1 y2 y3 y4 y5 y6 hll
      go_wp2
      go_loopg [] f (fun f' wr => ∃ (s' : Rs.RS) (l : List Ps.Tr) (v : Value), f' ≤ f ∧ RAc w g A c T fin w.heap.size ts w.heap.size 6 q6 s' [] l v wr ∧ Rs.rem T s' + 1 ≤ f' ∧ l.length ≤ s'.at_ + 1 ∧ Rs.casL (Rs.toks T fin) f' l s' = RK)
      case atStart => exact ⟨pk.2, l0', _, Nat.le_refl _, HC1.out, by have := Rs.rem_adv (T := T) hkat (by omega); omega, by omega, HRK.out⟩
      case round =>
       obtain ⟨s', l, v', hfF, hA, hrm, hll, hR⟩ := hrel
       have HA := Hd hA
       have HR2 := Hd hR
       obtain ⟨Av, cv, rfl, -, -⟩ := hA.row.form
       have HI := Hd fun (W : World) (h : RA W g A c (Rs.toks T fin) s') => ris_z h (HA.out.bd).lt 7 [59] (z := 7) rfl (xs := #[59]) rfl
       have hat := hA.bd.at_
       clear hA hR HC1 HRK
       cases hi : Rs.is_ (Rs.toks T fin) 7 [59] s' with
       | false =>
        have HE3 : Hid (R = (Ps.nd 6 [] l q6, s')) := Hd (by
         have : RK = (l, s') := by rw [← HR2.out]; exact Rs.casL_stop hi
         rw [HE2.out, this])
        rw [hi] at HI
        clear hi
        go_upto_region 22 with (go_at_call 38; with_reducible refine (HI.out _ HA.out.env.pa).mono ?_; rintro e w4 ⟨rfl, hb⟩; have HA5 := Hd (HA.out.below hb); clear hb)
        obtain ⟨a, a0, a1, a2, a3, a4, a5, a6⟩ := HA5.out.env.c7 0 rfl
        obtain ⟨b, b0, b1, b2, b3, b4, b5, b6⟩ := HA5.out.env.c7 1 rfl
        have fz := HA5.out.env.fz 1 rfl
        go_wp2
        obtain ⟨hb4, hnd⟩ := HA5.out.done (R := R) (HE3.out)
        exact bodyPost_ret (ret26 rfl _ _ rfl hb4) rfl hnd
       | true =>
        have hlt := Rs.is_lt (by decide) hi
        have hko := Rs.is_ok hi
        have hs' := HA.out.bd.le hTl
        obtain ⟨f', rfl⟩ : ∃ f, gk = f + 1 := ⟨gk - 1, by omega⟩
        obtain ⟨pb, hpb⟩ : ∃ x, Rs.msg (Rs.toks T fin) f' (Rs.adv s') = x := ⟨_, rfl⟩
        have HR3 : Hid (Rs.casL (Rs.toks T fin) f' (l ++ [pb.1]) pb.2 = RK) := Hd (by rw [← HR2.out, Rs.casL, if_pos hi, hpb])
        have hra := Rs.rem_adv (T := T) (s := s') (s' := Rs.adv s') (Nat.lt_succ_self _) hlt
        have HBA := Hd (HA.out.bd.adv hlt)
        have HMV : Hid (Rs.Mv T (Rs.adv s') pb.2) := Hd (by rw [← hpb]; exact (Rs.mvAll (T := T) (fin := fin) f').msg _ hlt)
        have hle3 : s'.at_ + 1 ≤ pb.2.at_ := (HMV.out.at_ hlt).1
        have hle2 : Rs.rem T pb.2 ≤ Rs.rem T (Rs.adv s') := Rs.rem_le hle3
        have HMS := Hd fun w5 (hp : RA w5 g A c (Rs.toks T fin) (Rs.adv s')) (hb : Rs.Bd T (Rs.adv s')) => (IH.out f' (by omega)).msg (Rs.adv s') w5 hp hb hko (by omega)
        rw [hpb] at HMS
        rw [hi] at HI
        clear hi hpb
        go_upto_region 20 with (go_at_call 38; with_reducible refine (HI.out _ HA.out.env.pa).mono ?_; rintro e w4 ⟨rfl, hb⟩; have HA5 := Hd (HA.out.below hb); clear hb)
        obtain ⟨k0, k1, k2, k3, k4⟩ := HA5.out.env.pa.cells
        have kf := HA5.out.env.pa.frz 1
        have hg := HA5.out.env.pa.lt
        go_upto_region 21 with fail
        refine wp_world (fun W => RAc w g A c T fin w.heap.size ts w.heap.size 6 q6 (Rs.adv s') [] l (.slice Av l.length cv) W) (HA5.out.adv hgb hlt _ (by omega)) fun w7 ha7 => ?_
        have HA7 := Hd ha7
        clear ha7 k0 k1 k2 k3 k4 kf hg HA5 HA HI HR2
        obtain ⟨i0, hi, hz0, hz1, hz2⟩ := info_parts info26
        have hS4 : w7.cell? ⟨ts, 4, none⟩ = some (.slice Av l.length cv) := (HA7.out.env.c7 0 rfl).2.2.2.2.2.1
        have HL7 := Hd HA7.out.lts
        have hbw7 : w.heap.size ≤ w7.heap.size := HA7.out.env.size
        have hx7 := (HA7.out.env.c7 0 rfl).1
        go_upto_region 21 with fail
        refine wp_region_x (s := 7) (S := fun W => W.cell? ⟨ts, 4, none⟩ = some (.slice Av l.length cv)) (by kernel_rfl) hS4 (fun hHeld => ?_)
        refine xt (i := 0) ?_
        refine xt (i := 1) ?_
        refine xt (i := 2) ?_
        refine Go.Proofs.YtbnlnndeajjenaaGreat.x1 (i := 3) (fun K2 hK2 => ?_)
        go_simp
        go_at_call 67
        refine (HMS.out _ (HA7.out.env.pa.drew) HA7.out.bd).mono ?_
        rintro e wa ⟨csa, rfl, hpa, hba, hta⟩
        have hza := hpa.1.size
        have HAa := Hd ((HA7.out.below (Below.refl _ _).drew).call hpa hba hgb)
        have HTa := Hd hta
        have qa : wa.cell? ⟨ts, 4, none⟩ = some (.slice Av l.length cv) := (HAa.out.env.c7 0 rfl).2.2.2.2.2.1
        obtain ⟨css, hcl, hown, hpush⟩ := HAa.out.push HTa.out (by show _ ≤ w7.heap.size; omega) ⟨HL7.out.1, HL7.out.2.1, HL7.out.2.2.2.2⟩ hgb
        have HOWN := Hd hown
        have HPUSH := Hd hpush
        obtain ⟨p0, p1, C1, o1, e1', C2, o2, e2', C3, o3, e3', p5, p6, rfl⟩ := HTa.out.form
        have hsa : w.heap.size ≤ wa.heap.size := HAa.out.env.size
        clear hown hpush hcl
        clear hpa hba hta
        refine hK2.out _ _ (qa) (fun hHeld => ?_)
        clear hK2 K2
        try simp only [Act.put, List.setIfInBounds_toArray, List.set_cons_zero, List.set_cons_succ]
        refine Go.Proofs.YtbnlnndeajjenaaGreat.x1 (i := 4) (fun K2 hK2 => ?_)
        go_simp
        refine hK2.out _ _ (by go_keep) (fun hHeld => ?_)
        clear hK2 K2
        try simp only [Act.put, List.setIfInBounds_toArray, List.set_cons_zero, List.set_cons_succ]
        refine Go.Proofs.YtbnlnndeajjenaaGreat.x1 (i := 5) (fun K2 hK2 => ?_)
        refine step_append_any _ rfl (.tmp 128) (.tmp 131) 24 rfl w.heap.size 26 i0 _ 7 112 Tryz.underlying24 hi hz0 hz1 hz2 rfl (by decide) (.slice Av l.length cv) l.length css.flatten (by rfl) (World.ownsRow.alloc HOWN.out _) (wa.heap.size + 1) (some ⟨wa.heap.size, 0, none⟩) 1 1 _ (by rfl) (Reads.builtN wa 26 [_, _, _, _, _, _, _] 1 7 rfl) (by intro u hu; simp only [List.mem_cons, List.not_mem_nil, or_false] at hu; rcases hu with rfl | rfl | rfl | rfl | rfl | rfl | rfl <;> rfl) (by simp only [maxLen]; omega) (by omega) (by simp; omega) ?_
        intro v6 wb hown6 hgrow6 hv6
        obtain ⟨A6, c6, rfl, _, _⟩ := own_form hown6
        obtain ⟨hcl, hfz, hlt6, hac⟩ := HPUSH.out _ _ _ hown6 hgrow6 (by simpa using hv6)
        have HAC := Hd hac
        have kb : wb.cell? ⟨ts, 4, none⟩ = some (.slice Av l.length cv) := by rw [hcl 4]; exact qa
        have kbf := hfz 4
        clear hown6 hgrow6 hv6 hcl hfz hac
        try go_simp
        refine hK2.out _ _ (kb) (fun hHeld => ?_)
        clear hK2 K2
        try simp only [Act.put, List.setIfInBounds_toArray, List.set_cons_zero, List.set_cons_succ]
        refine Go.Proofs.YtbnlnndeajjenaaGreat.x1 (i := 6) (fun K2 hK2 => ?_)
        go_simp
        refine hK2.out _ _ (hHeld) (fun hHeld => ?_)
        clear hK2 K2
        try simp only [Act.put, List.setIfInBounds_toArray, List.set_cons_zero, List.set_cons_succ]
        refine xl (fun K2 hK2 => ?_)
        go_simp
        refine hK2.out _ _ ?_
        clear hK2 K2
        try simp only [Act.put, List.setIfInBounds_toArray, List.set_cons_zero, List.set_cons_succ]
        refine wpAnyX_done (by kernel_rfl) ?_ _
        go_wp2_with fail
        go_roundg f'
        case measure => omega
        case rel => exact ⟨pb.2, l ++ [pb.1], _, by omega, HAC.out, by omega, by simp only [List.length_append, List.length_singleton]; omega, HR3.out⟩
theorem rwall_any {g c fin : Nat} {A : Option Addr} {T : List Lx.Tk} (hT : Ps.Fits 65536 T) (hfin : fin ≤ 65536) : ∀ F, RWAll g A c T fin F := by
 intro F
 induction F using Nat.strongRecOn with
 | _ F ih =>
  exact {
   expr := fun s w h hb hf => by
    cases hk : Rs.bad s with
    | true => rw [Rs.expr_bad hk]; exact rexpB_any h hb hk
    | false => exact rexpr_any hT ih s w h hb hk (hf hk)
   msg := fun s w h hb hk hf => rmsg_any hT ih s w h hb hk hf
   keyw := fun s w h hb hk hf => rkeyw_any hT ih s w h hb hk hf
   bins := fun s w h hb hk hf => rbins_any hT ih s w h hb hk hf
   unary := fun s w h hb hk hf => runa_any hT ih s w h hb hk hf
   prim := fun s w h hb hk hf => rprim_any hT hfin ih s w h hb hk hf
   arr := fun s w h hb hk hlt hf => rarr_any hT ih s w h hb hk hlt hf
   lit := fun s w h hb hk hf => rlit_any hT hfin ih s w h hb hk hf
   bra := fun s w h hb hk hlt hf => rbra_any hT ih s w h hb hk hlt hf
   blk := fun s w h hb hk hlt hf => rblk_any hT ih s w h hb hk hlt hf
   stL := fun m s w h hb hf => rstat_any hT ih m s w h hb hf }
end Go.Proofs.YtbnlnndeajjenaaGreat
