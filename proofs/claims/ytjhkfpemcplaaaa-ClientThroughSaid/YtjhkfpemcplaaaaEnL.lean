/-
  The walk of the link's do. No statement of the seat is proved here.
-/
import Derived.Test.YtjhkfpemcplaaaaEnK
namespace Go.Proofs.Ytjhkfpemcplaaaa
open Go.RowKit

def Rd.v (d : Rd) : Array Value := #[.int .i64 d.K, .int .i64 d.I, .int .i64 d.Z, .int .i64 d.xk, .int .u64 (d.xh : Int), .slice d.xA d.xn d.xc, .string d.xs]
/-- what a link on its way keeps -/
structure DoOk (N D : Nat) (s : Pl) : Prop where
  c : s.c.Ok N
  y : s.y.Ok N
  h : s.h.length ≤ 1000
  r : s.r.length ≤ 1000
  i : s.i.length ≤ N
  fh : ∀ b ∈ s.h, ∃ q, okPk q ∧ b = frm q
  fr : ∀ b ∈ s.r, ∃ q, okPk q ∧ b = frm q
  fl : ∀ b ∈ s.r, (recvF s.c b).1.length ≤ 16
theorem LkS.drew_ {w0 w : World} {k : Lk} {c : Cl} {y : Ty} {D : Nat} {f : Nat → Nat} (h : LkS w0 k c y D f w) : LkS w0 k c y D f w.drew := h.below ⟨rfl, rfl, rfl, Nat.le_refl _, fun _ _ => rfl⟩
set_option maxRecDepth 20000 in
set_option maxHeartbeats 8000000 in
theorem ldo_any {w0 w : World} {gl gc gt D N : Nat} {s : Pl} (d : Rd) (h : LkX w0 gl gc gt s D w) (ok : DoOk N D s) (hN : N + 1 ≤ 2199023255552) (hD : D ≤ 1152921504606846976) (hd : d.In w0) :
    Calls Try.prog 28 #[.pointer (some ⟨gl, 0, none⟩), .agg d.v] w (LinkP w0 gl gc gt (roadPl s d) (D + 2176)) := by
  obtain ⟨w1, hw1⟩ : ∃ w1, w.alloc (.cells d.v 84) = w1 := ⟨_, rfl⟩
  have hb1 : Below w.heap.size w w1 := hw1 ▸ (Below.refl _ _).alloc (Nat.le_refl _) _
  have hX : Blk w1 w.heap.size 84 d.v := hw1 ▸ Blk.new w 84 _
  have ht1 := h.below hb1
  have HRP : Hid (roadPl s d = { midPl s d with h := cap60 (midPl s d).h, r := cap60 (midPl s d).r }) := Lib.hid rfl
  have HMD : Hid (midPl s d = if d.K.tmod 10 = 0 ∨ d.K.tmod 10 = 1 then issPl s d else if d.K.tmod 10 = 2 then connPl s else if d.K.tmod 10 = 3 then (if d.Z.tmod 4 = 0 then cutPl s else s) else if d.K.tmod 10 = 4 ∨ d.K.tmod 10 = 5 then arrPl s (decide (d.K.tmod 10 = 4)) d.I false else if d.K.tmod 10 = 6 ∨ d.K.tmod 10 = 7 then arrPl s (decide (d.K.tmod 10 = 6)) d.I true else if d.K.tmod 10 = 8 then losePl s (decide (d.Z.tmod 2 = 0)) d.I else tickPl s d.Z) := Lib.hid rfl
  generalize roadPl s d = sr at *
  generalize midPl s d = sm at *
  have HISS := Lib.hid fun (W : World) (hW : LkX w0 gl gc gt s D W) => liss_any d hW ok.c hN ok.h ok.i hd
  have HT1 := Lib.hid ht1
  have HB1 := Lib.hid hb1
  have HOK := Lib.hid ok
  have HN := Lib.hid hN
  have HDD := Lib.hid hD
  have HX := Lib.hid hX
  have HLT : Hid (∀ k f, LkS w0 k s.c s.y D f w → ¬ CF k.p w.heap.size) := Lib.hid fun k f h4 e => by have := (h4.ca.lt e).2; omega
  have HTW := Lib.hid h
  unfold Rd.cmd at HISS
  unfold Rd.v at hX hw1 HX ⊢
  have y0 : w1.cell? ⟨w.heap.size, 0, none⟩ = some (.int .i64 d.K) := hX.cell 0
  have y1 : w1.cell? ⟨w.heap.size, 1, none⟩ = some (.int .i64 d.I) := hX.cell 1
  have y2 : w1.cell? ⟨w.heap.size, 2, none⟩ = some (.int .i64 d.Z) := hX.cell 2
  have y3 : w1.cell? ⟨w.heap.size, 3, none⟩ = some (.int .i64 d.xk) := hX.cell 3
  have y4 : w1.cell? ⟨w.heap.size, 4, none⟩ = some (.int .u64 (d.xh : Int)) := hX.cell 4
  have y5 : w1.cell? ⟨w.heap.size, 5, none⟩ = some (.slice d.xA d.xn d.xc) := hX.cell 5
  have y6 : w1.cell? ⟨w.heap.size, 6, none⟩ = some (.string d.xs) := hX.cell 6
  obtain ⟨kk, eK⟩ : ∃ kk, d.K.tmod 10 = kk := ⟨_, rfl⟩
  have hK : kk = 0 ∨ kk = 1 ∨ kk = 2 ∨ kk = 3 ∨ kk = 4 ∨ kk = 5 ∨ kk = 6 ∨ kk = 7 ∨ kk = 8 ∨ (kk ≠ 0 ∧ kk ≠ 1 ∧ kk ≠ 2 ∧ kk ≠ 3 ∧ kk ≠ 4 ∧ kk ≠ 5 ∧ kk ≠ 6 ∧ kk ≠ 7 ∧ kk ≠ 8) := by omega
  clear h ok hN hD hd ht1 hX hb1
  go_enter Try.func28, Try.ntmps28
  go_upto_region 1 with fail
  clear hw1
  go_upto_block 0 with fail
  go_cut [] (fun wx => ∃ wz, wz = wx ∧ LkX w0 gl gc gt sm (D + 2176) wz)
  case first =>
    rcases hK with rfl | rfl | rfl | rfl | rfl | rfl | rfl | rfl | rfl | eN
    · have HM : Hid (sm = issPl s d) := Lib.hid (by rw [HMD.out]; simp [eK])
      clear HMD HRP
      go_wp2_with (go_at_call 56; refine (HISS.out w1 HT1.out).mono ?_; rintro e w2 ⟨rfl, hx⟩; have HX2 := Lib.hid hx; clear hx)
      go_meet
      exact ⟨_, rfl, by rw [HM.out]; exact HX2.out.more (by omega)⟩
    · have HM : Hid (sm = issPl s d) := Lib.hid (by rw [HMD.out]; simp [eK])
      clear HMD HRP
      go_wp2_with (go_at_call 56; refine (HISS.out w1 HT1.out).mono ?_; rintro e w2 ⟨rfl, hx⟩; have HX2 := Lib.hid hx; clear hx)
      go_meet
      exact ⟨_, rfl, by rw [HM.out]; exact HX2.out.more (by omega)⟩
    · have HM : Hid (sm = connPl s) := Lib.hid (by rw [HMD.out]; simp [eK])
      clear HMD HRP
      go_wp2_with (go_at_call 32; refine (lconn_any HT1.out HOK.out.c HOK.out.h).mono ?_; rintro e w2 ⟨rfl, hx⟩; have HX2 := Lib.hid hx; clear hx)
      go_meet
      exact ⟨_, rfl, by rw [HM.out]; exact HX2.out.more (by omega)⟩
    · by_cases hz : d.Z.tmod 4 = 0
      · have tz : (d.Z.tmod 4 == 0) = true := by simp [hz]
        have HM : Hid (sm = cutPl s) := Lib.hid (by rw [HMD.out]; simp [eK, hz])
        clear HMD HRP
        go_wp2_with (go_at_call 57; refine (lcut_any HT1.out HOK.out.c HDD.out).mono ?_; rintro e w2 ⟨rfl, hx⟩; have HX2 := Lib.hid hx; clear hx)
        go_meet
        exact ⟨_, rfl, by rw [HM.out]; exact HX2.out.more (by omega)⟩
      · have tz : (d.Z.tmod 4 == 0) = false := by simp [hz]
        have HM : Hid (sm = s) := Lib.hid (by rw [HMD.out]; simp [eK, hz])
        clear HMD HRP
        go_wp2_with fail
        go_meet
        exact ⟨_, rfl, by rw [HM.out]; exact HT1.out.more (by omega)⟩
    · have HM : Hid (sm = arrPl s true d.I false) := Lib.hid (by rw [HMD.out]; simp [eK])
      clear HMD HRP
      go_wp2_with (go_at_call 58; refine (larr_true_false d.I HT1.out HOK.out.h HOK.out.r HOK.out.y (by have := HN.out; omega) HOK.out.fh).mono ?_; rintro e w2 ⟨rfl, hx⟩; have HX2 := Lib.hid hx; clear hx)
      go_meet
      exact ⟨_, rfl, by rw [HM.out]; exact HX2.out.more (by omega)⟩
    · have HM : Hid (sm = arrPl s false d.I false) := Lib.hid (by rw [HMD.out]; simp [eK])
      clear HMD HRP
      go_wp2_with (go_at_call 58; refine (larr_false_false d.I HT1.out HOK.out.h HOK.out.r HOK.out.c (by have := HN.out; omega) HDD.out HOK.out.fr HOK.out.fl).mono ?_; rintro e w2 ⟨rfl, hx⟩; have HX2 := Lib.hid hx; clear hx)
      go_meet
      exact ⟨_, rfl, by rw [HM.out]; exact HX2.out.more (by omega)⟩
    · have HM : Hid (sm = arrPl s true d.I true) := Lib.hid (by rw [HMD.out]; simp [eK])
      clear HMD HRP
      go_wp2_with (go_at_call 58; refine (larr_true_true d.I HT1.out HOK.out.h HOK.out.r HOK.out.y (by have := HN.out; omega) HOK.out.fh).mono ?_; rintro e w2 ⟨rfl, hx⟩; have HX2 := Lib.hid hx; clear hx)
      go_meet
      exact ⟨_, rfl, by rw [HM.out]; exact HX2.out.more (by omega)⟩
    · have HM : Hid (sm = arrPl s false d.I true) := Lib.hid (by rw [HMD.out]; simp [eK])
      clear HMD HRP
      go_wp2_with (go_at_call 58; refine (larr_false_true d.I HT1.out HOK.out.h HOK.out.r HOK.out.c (by have := HN.out; omega) HDD.out HOK.out.fr HOK.out.fl).mono ?_; rintro e w2 ⟨rfl, hx⟩; have HX2 := Lib.hid hx; clear hx)
      go_meet
      exact ⟨_, rfl, by rw [HM.out]; exact HX2.out.more (by omega)⟩
    · by_cases hz : d.Z.tmod 2 = 0
      · have tz : (d.Z.tmod 2 == 0) = true := by simp [hz]
        have HM : Hid (sm = losePl s true d.I) := Lib.hid (by rw [HMD.out]; simp [eK, hz])
        clear HMD HRP
        go_wp2_with (go_at_call 59; refine (llose_true d.I HT1.out HOK.out.h).mono ?_; rintro e w2 ⟨rfl, hx⟩; have HX2 := Lib.hid hx; clear hx)
        go_meet
        exact ⟨_, rfl, by rw [HM.out]; exact HX2.out.more (by omega)⟩
      · have tz : (d.Z.tmod 2 == 0) = false := by simp [hz]
        have HM : Hid (sm = losePl s false d.I) := Lib.hid (by rw [HMD.out]; simp [eK, hz])
        clear HMD HRP
        go_wp2_with (go_at_call 59; refine (llose_false d.I HT1.out HOK.out.r).mono ?_; rintro e w2 ⟨rfl, hx⟩; have HX2 := Lib.hid hx; clear hx)
        go_meet
        exact ⟨_, rfl, by rw [HM.out]; exact HX2.out.more (by omega)⟩
    · obtain ⟨e0, e1, e2, e3, e4, e5, e6, e7, e8⟩ := eN
      have HM : Hid (sm = tickPl s d.Z) := Lib.hid (by rw [HMD.out, eK, if_neg (by omega), if_neg (by omega), if_neg (by omega), if_neg (by omega), if_neg (by omega), if_neg (by omega)])
      clear HMD HRP HISS
      obtain ⟨k, f, rfl, rfl, rfl, hk0, hh1, hr1, hi1⟩ := HTW.out
      have hk := hk0.below HB1.out
      have HNB : Hid (¬ CF k.p w.heap.size) := Lib.hid (HLT.out k f hk0)
      have HK := Lib.hid hk
      have HH1 := Lib.hid hh1
      have HR1 := Lib.hid hr1
      have HI1 := Lib.hid hi1
      obtain ⟨i0, hi, hz0, hz1, hz2⟩ := info_parts info37
      obtain ⟨rA, rc, hrv, _, _⟩ := hk.he.form
      have HRV := Lib.hid hrv
      have hhl : k.hl.length ≤ 1000 := by have := congrArg List.length hh1; rw [List.length_map] at this; have := HOK.out.h; omega
      have HFL : Hid ((tickF s.c d.Z).1.length ≤ 1) := Lib.hid (by unfold tickF; (repeat' split) <;> simp)
      have HNC : Hid (¬ CF k.p w.heap.size) := Lib.hid (HNB.out)
      have x3 : w1.cell? ⟨k.gl, 2, none⟩ = some (.slice rA k.hl.length rc) := by rw [← hrv]; exact hk.lk.cell 2
      have x4 : w1.cell? ⟨k.gl, 0, none⟩ = some (.pointer (some ⟨k.p.g, 0, none⟩)) := hk.lk.cell 0
      have HWD : Hid (Below w1.heap.size w1 w1.drew) := Lib.hid ⟨rfl, rfl, rfl, Nat.le_refl _, fun _ _ => rfl⟩
      have HB8 : Hid (w0.heap.size ≤ w1.drew.heap.size) := Lib.hid hk.old.size
      clear hk hh1 hr1 hi1 hrv
      go_upto_region 2 with fail
      refine wp_region_x (s := 15) (S := fun W => W.cell? ⟨k.gl, 2, none⟩ = some (.slice rA k.hl.length rc) ∧ W.cell? ⟨k.gl, 0, none⟩ = some (.pointer (some ⟨k.p.g, 0, none⟩)) ∧ W.cell? ⟨w.heap.size, 2, none⟩ = some (.int .i64 d.Z)) (by kernel_rfl) ⟨x3, x4, y2⟩ (fun hHeld => ?_)
      refine wpAnyX_take (i := 0) (v := ?_) (by simp only [List.getElem?_toArray, List.getElem?_cons_zero]; rfl) (by kernel_rfl) (by kernel_rfl) (by kernel_rfl) (by kernel_rfl) (by exact fun _ _ _ h => h) (Or.inl ⟨by rfl, ?_⟩) (by assumption) ?_
      rotate_left
      · intro w hSw; (try dsimp only at hSw); go_split_ands; go_simp <;> with_reducible rfl
      try simp only [Act.put, List.setIfInBounds_toArray, List.set_cons_zero, List.set_cons_succ]
      refine wpAnyX_take (i := 1) (v := ?_) (by simp only [List.getElem?_toArray, List.getElem?_cons_succ, List.getElem?_cons_zero]; rfl) (by kernel_rfl) (by kernel_rfl) (by kernel_rfl) (by kernel_rfl) (by exact fun _ _ _ h => h) (Or.inl ⟨by rfl, ?_⟩) (by assumption) ?_
      rotate_left
      · intro w hSw; (try dsimp only at hSw); go_split_ands; go_simp <;> with_reducible rfl
      try simp only [Act.put, List.setIfInBounds_toArray, List.set_cons_zero, List.set_cons_succ]
      refine wpAnyX_take (i := 2) (v := ?_) (by simp only [List.getElem?_toArray, List.getElem?_cons_succ, List.getElem?_cons_zero]; rfl) (by kernel_rfl) (by kernel_rfl) (by kernel_rfl) (by kernel_rfl) (by exact fun _ _ _ h => h) (Or.inl ⟨by rfl, ?_⟩) (by assumption) ?_
      rotate_left
      · intro w hSw; (try dsimp only at hSw); go_split_ands; go_simp <;> with_reducible rfl
      try simp only [Act.put, List.setIfInBounds_toArray, List.set_cons_zero, List.set_cons_succ]
      refine wpAnyX_take (i := 3) (v := ?_) (by simp only [List.getElem?_toArray, List.getElem?_cons_succ, List.getElem?_cons_zero]; rfl) (by kernel_rfl) (by kernel_rfl) (by kernel_rfl) (by kernel_rfl) (by exact fun _ _ _ h => h) (Or.inl ⟨by rfl, ?_⟩) (by assumption) ?_
      rotate_left
      · intro w hSw; (try dsimp only at hSw); go_split_ands; go_simp <;> with_reducible rfl
      try simp only [Act.put, List.setIfInBounds_toArray, List.set_cons_zero, List.set_cons_succ]
      refine wpAnyX_take (i := 4) (v := ?_) (by simp only [List.getElem?_toArray, List.getElem?_cons_succ, List.getElem?_cons_zero]; rfl) (by kernel_rfl) (by kernel_rfl) (by kernel_rfl) (by kernel_rfl) (by exact fun _ _ _ h => h) (Or.inl ⟨by rfl, ?_⟩) (by assumption) ?_
      rotate_left
      · intro w hSw; (try dsimp only at hSw); go_split_ands; go_simp <;> with_reducible rfl
      try simp only [Act.put, List.setIfInBounds_toArray, List.set_cons_zero, List.set_cons_succ]
      refine wpAnyX_take (i := 5) (v := ?_) (by simp only [List.getElem?_toArray, List.getElem?_cons_succ, List.getElem?_cons_zero]; rfl) (by kernel_rfl) (by kernel_rfl) (by kernel_rfl) (by kernel_rfl) (by exact fun _ _ _ h => h) (Or.inl ⟨by rfl, ?_⟩) (by assumption) ?_
      rotate_left
      · intro w hSw; (try dsimp only at hSw); go_split_ands; go_simp <;> with_reducible rfl
      try simp only [Act.put, List.setIfInBounds_toArray, List.set_cons_zero, List.set_cons_succ]
      refine wpAnyX_take (i := 6) (v := ?_) (by simp only [List.getElem?_toArray, List.getElem?_cons_succ, List.getElem?_cons_zero]; rfl) (by kernel_rfl) (by kernel_rfl) (by kernel_rfl) (by kernel_rfl) (by exact fun _ _ _ h => h) (Or.inl ⟨by rfl, ?_⟩) (by assumption) ?_
      rotate_left
      · intro w hSw; (try dsimp only at hSw); go_split_ands; go_simp <;> with_reducible rfl
      try simp only [Act.put, List.setIfInBounds_toArray, List.set_cons_zero, List.set_cons_succ]
      refine wpAnyX_take (i := 7) (v := ?_) (by simp only [List.getElem?_toArray, List.getElem?_cons_succ, List.getElem?_cons_zero]; rfl) (by kernel_rfl) (by kernel_rfl) (by kernel_rfl) (by kernel_rfl) (by exact fun _ _ _ h => h) (Or.inl ⟨by rfl, ?_⟩) (by assumption) ?_
      rotate_left
      · intro w hSw; (try dsimp only at hSw); go_split_ands; go_simp <;> with_reducible rfl
      try simp only [Act.put, List.setIfInBounds_toArray, List.set_cons_zero, List.set_cons_succ]
      refine wpAnyX_take (i := 8) (v := ?_) (by simp only [List.getElem?_toArray, List.getElem?_cons_succ, List.getElem?_cons_zero]; rfl) (by kernel_rfl) (by kernel_rfl) (by kernel_rfl) (by kernel_rfl) (by exact fun _ _ _ h => h) (Or.inl ⟨by rfl, ?_⟩) (by assumption) ?_
      rotate_left
      · intro w hSw; (try dsimp only at hSw); go_split_ands; go_simp <;> with_reducible rfl
      try simp only [Act.put, List.setIfInBounds_toArray, List.set_cons_zero, List.set_cons_succ]
      refine wpAnyX_take (i := 9) (v := ?_) (by simp only [List.getElem?_toArray, List.getElem?_cons_succ, List.getElem?_cons_zero]; rfl) (by kernel_rfl) (by kernel_rfl) (by kernel_rfl) (by kernel_rfl) (by exact fun _ _ _ h => h) (Or.inl ⟨by rfl, ?_⟩) (by assumption) ?_
      rotate_left
      · intro w hSw; (try dsimp only at hSw); go_split_ands; go_simp <;> with_reducible rfl
      try simp only [Act.put, List.setIfInBounds_toArray, List.set_cons_zero, List.set_cons_succ]
      refine wpAnyX_take (i := 10) (v := ?_) (by simp only [List.getElem?_toArray, List.getElem?_cons_succ, List.getElem?_cons_zero]; rfl) (by kernel_rfl) (by kernel_rfl) (by kernel_rfl) (by kernel_rfl) (by exact fun _ _ _ h => h) (Or.inl ⟨by rfl, ?_⟩) (by assumption) ?_
      rotate_left
      · intro w hSw; (try dsimp only at hSw); go_split_ands; go_simp <;> with_reducible rfl
      try simp only [Act.put, List.setIfInBounds_toArray, List.set_cons_zero, List.set_cons_succ]
      refine wpAnyX_one (i := 11) (by kernel_rfl) (by simp only [List.getElem?_toArray, List.getElem?_cons_succ, List.getElem?_cons_zero]; rfl) (fun K2 hK2 => ?_)
      go_simp
      go_at_call 24
      refine (tick_any d.Z (HK.out.below HWD.out).ca HOK.out.c (by have := HN.out; omega)).mono ?_
      rintro e w9 ⟨v9, l9, p9, rfl, hs, hf⟩
      obtain ⟨f9, hk9, hlow, hnew⟩ := (HK.out.below HWD.out).stepC hs
      have HK9 := Lib.hid hk9
      have H79 : Hid (∀ a, (v9.ownBlock = some a ∨ kB.inB l9 a) → f9 a = 7) := Lib.hid fun a ha => hnew a (hf.row.lt ha).1 (hf.ap a ha)
      have HR9 := Lib.hid hf.row
      have HL9 := Lib.hid hf.is
      have HG9 := Lib.hid hs.g
      have hl9 : l9.length ≤ 1 := by have h1 := congrArg List.length hf.is; rw [List.length_map, List.length_map] at h1; have h2 := HFL.out; omega
      obtain ⟨A9, c9, rfl, _, _⟩ := hf.row.form
      have hk1 : w9.cell? ⟨k.gl, 2, none⟩ = some (.slice rA k.hl.length rc) := by have := hk9.lk.cell 2; rw [← HRV.out]; exact this
      have hk2 : w9.cell? ⟨k.gl, 0, none⟩ = some (.pointer (some ⟨k.p.g, 0, none⟩)) := by have := hk9.lk.cell 0; rw [show _ = _ from this]; simp [HG9.out]
      have hb9 : Blk w9 w.heap.size 84 _ := hs.chg.blk (w := w1.drew) HX.out HNC.out
      have HB9 := Lib.hid hb9
      have hk3 : w9.cell? ⟨w.heap.size, 2, none⟩ = some (.int .i64 d.Z) := hb9.cell 2
      have HRW : Hid (OwnO w9 w0.heap.size 37 1 (.slice rA k.hl.length rc) k.hl.length (kB.flat k.hl)) := Lib.hid (by rw [← HRV.out]; exact hk9.he.row)
      have hbs : w0.heap.size ≤ w9.heap.size := hk9.old.size
      clear hk9 hlow hnew hs hf hb9
      try go_simp
      refine hK2.out _ _ (⟨hk1, hk2, hk3⟩) (fun hHeld => ?_)
      clear hK2 K2
      try simp only [Act.put, List.setIfInBounds_toArray, List.set_cons_zero, List.set_cons_succ]
      refine wpAnyX_one (i := 12) (by kernel_rfl) (by simp only [List.getElem?_toArray, List.getElem?_cons_succ, List.getElem?_cons_zero]; rfl) (fun K2 hK2 => ?_)
      (refine step_append_o _ rfl (.tmp 11) (.tmp 18) 31 rfl w0.heap.size 37 i0 _ 1 24 Try.underlying31 hi hz0 hz1 hz2 rfl (by decide) (.slice rA k.hl.length rc) k.hl.length (kB.flat k.hl) (by rfl) HRW.out _ A9 l9.length c9 (kB.flat l9) (by rfl) (Reads.of_own HR9.out.row) (kB_one _) (by simp only [maxLen]; omega) (by omega) hbs ?_)
      intro v10 w10 hr10 hg10 hv10
      rw [← HRV.out] at hg10 hv10
      have hb10 := HK9.out.lkH hg10
      have y14 := hb10.frozen 2
      have hk1' : w10.cell? ⟨k.gl, 2, none⟩ = some (.slice rA k.hl.length rc) := by have := hb10.cell 2; rw [← HRV.out]; exact this
      have hk2' : w10.cell? ⟨k.gl, 0, none⟩ = some (.pointer (some ⟨k.p.g, 0, none⟩)) := by have := hb10.cell 0; rw [show _ = _ from this]; simp [HG9.out]
      have hk3' : w10.cell? ⟨w.heap.size, 2, none⟩ = some (.int .i64 d.Z) := (HB9.out.grown (t := 84) hg10 fun e => OwnO.blk_ne HK9.out.he.row HB9.out (by decide) e.symm).cell 2
      have HP10 := Lib.hid (HK9.out.pushH HR9.out HB8.out H79.out hr10 hg10 hv10)
      obtain ⟨A10, c10, rfl, _, _⟩ := hr10.form
      clear hr10 hg10 hv10 hb10
      refine hK2.out _ _ (⟨hk1', hk2', hk3'⟩) (fun hHeld => ?_)
      clear hK2 K2
      try simp only [Act.put, List.setIfInBounds_toArray, List.set_cons_zero, List.set_cons_succ]
      refine wpAnyX_one (i := 13) (by kernel_rfl) (by simp only [List.getElem?_toArray, List.getElem?_cons_succ, List.getElem?_cons_zero]; rfl) (fun K2 hK2 => ?_)
      go_simp
      refine hK2.out _ _ (hHeld) (fun hHeld => ?_)
      clear hK2 K2
      try simp only [Act.put, List.setIfInBounds_toArray, List.set_cons_zero, List.set_cons_succ]
      refine wpAnyX_one (i := 14) (by kernel_rfl) (by simp only [List.getElem?_toArray, List.getElem?_cons_succ, List.getElem?_cons_zero]; rfl) (fun K2 hK2 => ?_)
      go_simp
      refine hK2.out _ _ (hHeld) (fun hHeld => ?_)
      clear hK2 K2
      try simp only [Act.put, List.setIfInBounds_toArray, List.set_cons_zero, List.set_cons_succ]
      refine wpAnyX_last (by kernel_rfl) (by simp only [List.getElem?_toArray, List.getElem?_cons_succ, List.getElem?_cons_zero]; rfl) (fun K2 hK2 => ?_)
      go_simp
      refine hK2.out _ _ ?_
      clear hK2 K2
      try simp only [Act.put, List.setIfInBounds_toArray, List.set_cons_zero, List.set_cons_succ]
      refine wpAnyX_done (by kernel_rfl) ?_ _
      go_wp2_with fail
      go_meet
      exact ⟨_, rfl, by rw [HM.out]; exact LkS.toX HP10.out rfl HG9.out rfl (by omega) (by dsimp only; rw [List.map_append, HH1.out, HL9.out]) HR1.out HI1.out⟩
  case rest =>
  obtain ⟨w5, rfl, hx5⟩ := hcut
  clear HISS HT1 HB1 HOK HN HDD HX HLT HTW HMD y0 y1 y2 y3 y4 y5 y6 hK eK
  obtain ⟨k, f, rfl, rfl, rfl, hk, hh1, hr1, hi1⟩ := hx5
  by_cases h60 : 60 < k.hl.length
  · obtain ⟨hg, ho, hc, hhv, hcl, hcm⟩ := hk.he.some_ (by omega)
    obtain ⟨m, hm⟩ : ∃ m, k.hl.length - 60 = m := ⟨_, rfl⟩
    have x2 : w5.cell? ⟨k.gl, 2, none⟩ = some (.slice (some ⟨hg, ho, none⟩) k.hl.length hc) := by rw [← hhv]; exact hk.lk.cell 2
    have fx2 := hk.lk.frozen 2
    have r1 : (60 : Int) < (k.hl.length : Int) := by omega
    have r2 : (k.hl.length : Int) - 60 = (m : Int) := by omega
    have r3 : (0 : Int) ≤ (m : Int) := by omega
    have r4 : (m : Int) ≤ (k.hl.length : Int) := by omega
    have r5 : ¬ hc = m := by omega
    have r6 : IntKind.i64.wrap (m : Int) = (m : Int) := by rw [IntKind.wrap_i64]; have := hcm; simp only [maxLen] at this; omega
    have HH60 : Hid (cap60 sm.h = sm.h.drop m) := Lib.hid (by
      have e : sm.h.length = k.hl.length := by rw [← hh1, List.length_map]
      unfold cap60
      rw [if_pos (by omega), e, hm])
    have hp6 := LkS.drew_ (hk.capH (m := m) hhv (by omega))
    have HH1 := Lib.hid hh1
    clear hhv h60 hh1 hm hk
    go_upto_region 20 with fail
    refine wp_region_x (s := 14) (S := fun W => W.cell? ⟨k.gl, 2, none⟩ = some (.slice (some ⟨hg, ho, none⟩) k.hl.length hc)) (by kernel_rfl) x2 (fun hHeld => ?_)
    refine wpAnyX_take (i := 0) (v := ?_) (by simp only [List.getElem?_toArray, List.getElem?_cons_zero]; rfl) (by kernel_rfl) (by kernel_rfl) (by kernel_rfl) (by kernel_rfl) (by exact fun _ _ _ h => h) (Or.inl ⟨by rfl, ?_⟩) (by assumption) ?_
    rotate_left
    · intro w hSw; (try dsimp only at hSw); go_split_ands; go_simp <;> with_reducible rfl
    try simp only [Act.put, List.setIfInBounds_toArray, List.set_cons_zero, List.set_cons_succ]
    refine wpAnyX_take (i := 1) (v := ?_) (by simp only [List.getElem?_toArray, List.getElem?_cons_succ, List.getElem?_cons_zero]; rfl) (by kernel_rfl) (by kernel_rfl) (by kernel_rfl) (by kernel_rfl) (by exact fun _ _ _ h => h) (Or.inl ⟨by rfl, ?_⟩) (by assumption) ?_
    rotate_left
    · intro w hSw; (try dsimp only at hSw); go_split_ands; go_simp <;> with_reducible rfl
    try simp only [Act.put, List.setIfInBounds_toArray, List.set_cons_zero, List.set_cons_succ]
    refine wpAnyX_take (i := 2) (v := ?_) (by simp only [List.getElem?_toArray, List.getElem?_cons_succ, List.getElem?_cons_zero]; rfl) (by kernel_rfl) (by kernel_rfl) (by kernel_rfl) (by kernel_rfl) (by exact fun _ _ _ h => h) (Or.inl ⟨by rfl, ?_⟩) (by assumption) ?_
    rotate_left
    · intro w hSw; (try dsimp only at hSw); go_split_ands; go_simp <;> with_reducible rfl
    try simp only [Act.put, List.setIfInBounds_toArray, List.set_cons_zero, List.set_cons_succ]
    refine wpAnyX_take (i := 3) (v := ?_) (by simp only [List.getElem?_toArray, List.getElem?_cons_succ, List.getElem?_cons_zero]; rfl) (by kernel_rfl) (by kernel_rfl) (by kernel_rfl) (by kernel_rfl) (by exact fun _ _ _ h => h) (Or.inl ⟨by rfl, ?_⟩) (by assumption) ?_
    rotate_left
    · intro w hSw; (try dsimp only at hSw); go_split_ands; go_simp <;> with_reducible rfl
    try simp only [Act.put, List.setIfInBounds_toArray, List.set_cons_zero, List.set_cons_succ]
    refine wpAnyX_take (i := 4) (v := ?_) (by simp only [List.getElem?_toArray, List.getElem?_cons_succ, List.getElem?_cons_zero]; rfl) (by kernel_rfl) (by kernel_rfl) (by kernel_rfl) (by kernel_rfl) (by exact fun _ _ _ h => h) (Or.inl ⟨by rfl, ?_⟩) (by assumption) ?_
    rotate_left
    · intro w hSw; (try dsimp only at hSw); go_split_ands; go_simp <;> with_reducible rfl
    try simp only [Act.put, List.setIfInBounds_toArray, List.set_cons_zero, List.set_cons_succ]
    refine wpAnyX_take (i := 5) (v := ?_) (by simp only [List.getElem?_toArray, List.getElem?_cons_succ, List.getElem?_cons_zero]; rfl) (by kernel_rfl) (by kernel_rfl) (by kernel_rfl) (by kernel_rfl) (by exact fun _ _ _ h => h) (Or.inl ⟨by rfl, ?_⟩) (by assumption) ?_
    rotate_left
    · intro w hSw; (try dsimp only at hSw); go_split_ands; go_simp <;> with_reducible rfl
    try simp only [Act.put, List.setIfInBounds_toArray, List.set_cons_zero, List.set_cons_succ]
    refine wpAnyX_take (i := 6) (v := ?_) (by simp only [List.getElem?_toArray, List.getElem?_cons_succ, List.getElem?_cons_zero]; rfl) (by kernel_rfl) (by kernel_rfl) (by kernel_rfl) (by kernel_rfl) (by exact fun _ _ _ h => h) (Or.inl ⟨by rfl, ?_⟩) (by assumption) ?_
    rotate_left
    · intro w hSw; (try dsimp only at hSw); go_split_ands; go_simp <;> with_reducible rfl
    try simp only [Act.put, List.setIfInBounds_toArray, List.set_cons_zero, List.set_cons_succ]
    refine wpAnyX_take (i := 7) (v := ?_) (by simp only [List.getElem?_toArray, List.getElem?_cons_succ, List.getElem?_cons_zero]; rfl) (by kernel_rfl) (by kernel_rfl) (by kernel_rfl) (by kernel_rfl) (by exact fun _ _ _ h => h) (Or.inl ⟨by rfl, ?_⟩) (by assumption) ?_
    rotate_left
    · intro w hSw; (try dsimp only at hSw); go_split_ands; go_simp <;> with_reducible rfl
    try simp only [Act.put, List.setIfInBounds_toArray, List.set_cons_zero, List.set_cons_succ]
    refine wpAnyX_take (i := 8) (v := ?_) (by simp only [List.getElem?_toArray, List.getElem?_cons_succ, List.getElem?_cons_zero]; rfl) (by kernel_rfl) (by kernel_rfl) (by kernel_rfl) (by kernel_rfl) (by exact fun _ _ _ h => h) (Or.inl ⟨by rfl, ?_⟩) (by assumption) ?_
    rotate_left
    · intro w hSw; (try dsimp only at hSw); go_split_ands; go_simp <;> with_reducible rfl
    try simp only [Act.put, List.setIfInBounds_toArray, List.set_cons_zero, List.set_cons_succ]
    refine wpAnyX_take (i := 9) (v := ?_) (by simp only [List.getElem?_toArray, List.getElem?_cons_succ, List.getElem?_cons_zero]; rfl) (by kernel_rfl) (by kernel_rfl) (by kernel_rfl) (by kernel_rfl) (by exact fun _ _ _ h => h) (Or.inl ⟨by rfl, ?_⟩) (by assumption) ?_
    rotate_left
    · intro w hSw; (try dsimp only at hSw); go_split_ands; go_simp <;> with_reducible rfl
    try simp only [Act.put, List.setIfInBounds_toArray, List.set_cons_zero, List.set_cons_succ]
    refine wpAnyX_take (i := 10) (v := ?_) (by simp only [List.getElem?_toArray, List.getElem?_cons_succ, List.getElem?_cons_zero]; rfl) (by kernel_rfl) (by kernel_rfl) (by kernel_rfl) (by kernel_rfl) (by exact fun _ _ _ h => h) (Or.inl ⟨by rfl, ?_⟩) (by assumption) ?_
    rotate_left
    · intro w hSw; (try dsimp only at hSw); go_split_ands; go_simp <;> with_reducible rfl
    try simp only [Act.put, List.setIfInBounds_toArray, List.set_cons_zero, List.set_cons_succ]
    refine wpAnyX_take (i := 11) (v := ?_) (by simp only [List.getElem?_toArray, List.getElem?_cons_succ, List.getElem?_cons_zero]; rfl) (by kernel_rfl) (by kernel_rfl) (by kernel_rfl) (by kernel_rfl) (by exact fun _ _ _ h => h) (Or.inl ⟨by rfl, ?_⟩) (by assumption) ?_
    rotate_left
    · intro w hSw; (try dsimp only at hSw); go_split_ands; go_simp <;> with_reducible rfl
    try simp only [Act.put, List.setIfInBounds_toArray, List.set_cons_zero, List.set_cons_succ]
    refine wpAnyX_one (i := 12) (by kernel_rfl) (by simp only [List.getElem?_toArray, List.getElem?_cons_succ, List.getElem?_cons_zero]; rfl) (fun K2 hK2 => ?_)
    go_simp
    refine hK2.out _ _ (hHeld) (fun hHeld => ?_)
    clear hK2 K2
    try simp only [Act.put, List.setIfInBounds_toArray, List.set_cons_zero, List.set_cons_succ]
    refine wpAnyX_one (i := 13) (by kernel_rfl) (by simp only [List.getElem?_toArray, List.getElem?_cons_succ, List.getElem?_cons_zero]; rfl) (fun K2 hK2 => ?_)
    go_simp
    refine hK2.out _ _ (hHeld) (fun hHeld => ?_)
    clear hK2 K2
    try simp only [Act.put, List.setIfInBounds_toArray, List.set_cons_zero, List.set_cons_succ]
    refine wpAnyX_last (by kernel_rfl) (by simp only [List.getElem?_toArray, List.getElem?_cons_succ, List.getElem?_cons_zero]; rfl) (fun K2 hK2 => ?_)
    go_simp
    refine hK2.out _ _ ?_
    clear hK2 K2
    try simp only [Act.put, List.setIfInBounds_toArray, List.set_cons_zero, List.set_cons_succ]
    refine wpAnyX_done (by kernel_rfl) ?_ _
    go_upto_region 21 with fail
    generalize (w5.setCell ⟨k.gl, 2, none⟩ (.slice (some ⟨hg, ho + m, none⟩) (k.hl.length - m) (hc - m))).drew = w6 at hp6 ⊢
    have HK6 := Lib.hid hp6
    clear hp6 x2 fx2
    by_cases r60 : 60 < k.rl.length
    · obtain ⟨rg, ro, rc, hrv, rcl, rcm⟩ := HK6.out.th.some_ (by first | omega | (dsimp only; omega))
      have hrv' : k.rv = .slice (some ⟨rg, ro, none⟩) k.rl.length rc := hrv
      have rcl' : k.rl.length ≤ rc := rcl
      obtain ⟨m3, hm3⟩ : ∃ m3, k.rl.length - 60 = m3 := ⟨_, rfl⟩
      have x3 : w6.cell? ⟨k.gl, 3, none⟩ = some (.slice (some ⟨rg, ro, none⟩) k.rl.length rc) := by rw [← hrv']; exact HK6.out.lk.cell 3
      have fx3 := HK6.out.lk.frozen 3
      have s1 : (60 : Int) < (k.rl.length : Int) := by omega
      have s2 : (k.rl.length : Int) - 60 = (m3 : Int) := by omega
      have s3 : (0 : Int) ≤ (m3 : Int) := by omega
      have s4 : (m3 : Int) ≤ (k.rl.length : Int) := by omega
      have s5 : ¬ rc = m3 := by omega
      have s6 : IntKind.i64.wrap (m3 : Int) = (m3 : Int) := by rw [IntKind.wrap_i64]; have := rcm; simp only [maxLen] at this; omega
      have HR60 : Hid (cap60 sm.r = sm.r.drop m3) := Lib.hid (by
        have e : sm.r.length = k.rl.length := by rw [← hr1, List.length_map]
        unfold cap60
        rw [if_pos (by omega), e, hm3])
      have HP7 := Lib.hid (LkS.drew_ (HK6.out.capR (m := m3) hrv (by first | omega | (dsimp only; omega))))
      have HR1 := Lib.hid hr1
      clear hrv hrv' r60 hr1 hm3
      go_upto_region 22 with fail
      refine wp_region_x (s := 14) (S := fun W => W.cell? ⟨k.gl, 3, none⟩ = some (.slice (some ⟨rg, ro, none⟩) k.rl.length rc)) (by kernel_rfl) x3 (fun hHeld => ?_)
      refine wpAnyX_take (i := 0) (v := ?_) (by simp only [List.getElem?_toArray, List.getElem?_cons_zero]; rfl) (by kernel_rfl) (by kernel_rfl) (by kernel_rfl) (by kernel_rfl) (by exact fun _ _ _ h => h) (Or.inl ⟨by rfl, ?_⟩) (by assumption) ?_
      rotate_left
      · intro w hSw; (try dsimp only at hSw); go_split_ands; go_simp <;> with_reducible rfl
      try simp only [Act.put, List.setIfInBounds_toArray, List.set_cons_zero, List.set_cons_succ]
      refine wpAnyX_take (i := 1) (v := ?_) (by simp only [List.getElem?_toArray, List.getElem?_cons_succ, List.getElem?_cons_zero]; rfl) (by kernel_rfl) (by kernel_rfl) (by kernel_rfl) (by kernel_rfl) (by exact fun _ _ _ h => h) (Or.inl ⟨by rfl, ?_⟩) (by assumption) ?_
      rotate_left
      · intro w hSw; (try dsimp only at hSw); go_split_ands; go_simp <;> with_reducible rfl
      try simp only [Act.put, List.setIfInBounds_toArray, List.set_cons_zero, List.set_cons_succ]
      refine wpAnyX_take (i := 2) (v := ?_) (by simp only [List.getElem?_toArray, List.getElem?_cons_succ, List.getElem?_cons_zero]; rfl) (by kernel_rfl) (by kernel_rfl) (by kernel_rfl) (by kernel_rfl) (by exact fun _ _ _ h => h) (Or.inl ⟨by rfl, ?_⟩) (by assumption) ?_
      rotate_left
      · intro w hSw; (try dsimp only at hSw); go_split_ands; go_simp <;> with_reducible rfl
      try simp only [Act.put, List.setIfInBounds_toArray, List.set_cons_zero, List.set_cons_succ]
      refine wpAnyX_take (i := 3) (v := ?_) (by simp only [List.getElem?_toArray, List.getElem?_cons_succ, List.getElem?_cons_zero]; rfl) (by kernel_rfl) (by kernel_rfl) (by kernel_rfl) (by kernel_rfl) (by exact fun _ _ _ h => h) (Or.inl ⟨by rfl, ?_⟩) (by assumption) ?_
      rotate_left
      · intro w hSw; (try dsimp only at hSw); go_split_ands; go_simp <;> with_reducible rfl
      try simp only [Act.put, List.setIfInBounds_toArray, List.set_cons_zero, List.set_cons_succ]
      refine wpAnyX_take (i := 4) (v := ?_) (by simp only [List.getElem?_toArray, List.getElem?_cons_succ, List.getElem?_cons_zero]; rfl) (by kernel_rfl) (by kernel_rfl) (by kernel_rfl) (by kernel_rfl) (by exact fun _ _ _ h => h) (Or.inl ⟨by rfl, ?_⟩) (by assumption) ?_
      rotate_left
      · intro w hSw; (try dsimp only at hSw); go_split_ands; go_simp <;> with_reducible rfl
      try simp only [Act.put, List.setIfInBounds_toArray, List.set_cons_zero, List.set_cons_succ]
      refine wpAnyX_take (i := 5) (v := ?_) (by simp only [List.getElem?_toArray, List.getElem?_cons_succ, List.getElem?_cons_zero]; rfl) (by kernel_rfl) (by kernel_rfl) (by kernel_rfl) (by kernel_rfl) (by exact fun _ _ _ h => h) (Or.inl ⟨by rfl, ?_⟩) (by assumption) ?_
      rotate_left
      · intro w hSw; (try dsimp only at hSw); go_split_ands; go_simp <;> with_reducible rfl
      try simp only [Act.put, List.setIfInBounds_toArray, List.set_cons_zero, List.set_cons_succ]
      refine wpAnyX_take (i := 6) (v := ?_) (by simp only [List.getElem?_toArray, List.getElem?_cons_succ, List.getElem?_cons_zero]; rfl) (by kernel_rfl) (by kernel_rfl) (by kernel_rfl) (by kernel_rfl) (by exact fun _ _ _ h => h) (Or.inl ⟨by rfl, ?_⟩) (by assumption) ?_
      rotate_left
      · intro w hSw; (try dsimp only at hSw); go_split_ands; go_simp <;> with_reducible rfl
      try simp only [Act.put, List.setIfInBounds_toArray, List.set_cons_zero, List.set_cons_succ]
      refine wpAnyX_take (i := 7) (v := ?_) (by simp only [List.getElem?_toArray, List.getElem?_cons_succ, List.getElem?_cons_zero]; rfl) (by kernel_rfl) (by kernel_rfl) (by kernel_rfl) (by kernel_rfl) (by exact fun _ _ _ h => h) (Or.inl ⟨by rfl, ?_⟩) (by assumption) ?_
      rotate_left
      · intro w hSw; (try dsimp only at hSw); go_split_ands; go_simp <;> with_reducible rfl
      try simp only [Act.put, List.setIfInBounds_toArray, List.set_cons_zero, List.set_cons_succ]
      refine wpAnyX_take (i := 8) (v := ?_) (by simp only [List.getElem?_toArray, List.getElem?_cons_succ, List.getElem?_cons_zero]; rfl) (by kernel_rfl) (by kernel_rfl) (by kernel_rfl) (by kernel_rfl) (by exact fun _ _ _ h => h) (Or.inl ⟨by rfl, ?_⟩) (by assumption) ?_
      rotate_left
      · intro w hSw; (try dsimp only at hSw); go_split_ands; go_simp <;> with_reducible rfl
      try simp only [Act.put, List.setIfInBounds_toArray, List.set_cons_zero, List.set_cons_succ]
      refine wpAnyX_take (i := 9) (v := ?_) (by simp only [List.getElem?_toArray, List.getElem?_cons_succ, List.getElem?_cons_zero]; rfl) (by kernel_rfl) (by kernel_rfl) (by kernel_rfl) (by kernel_rfl) (by exact fun _ _ _ h => h) (Or.inl ⟨by rfl, ?_⟩) (by assumption) ?_
      rotate_left
      · intro w hSw; (try dsimp only at hSw); go_split_ands; go_simp <;> with_reducible rfl
      try simp only [Act.put, List.setIfInBounds_toArray, List.set_cons_zero, List.set_cons_succ]
      refine wpAnyX_take (i := 10) (v := ?_) (by simp only [List.getElem?_toArray, List.getElem?_cons_succ, List.getElem?_cons_zero]; rfl) (by kernel_rfl) (by kernel_rfl) (by kernel_rfl) (by kernel_rfl) (by exact fun _ _ _ h => h) (Or.inl ⟨by rfl, ?_⟩) (by assumption) ?_
      rotate_left
      · intro w hSw; (try dsimp only at hSw); go_split_ands; go_simp <;> with_reducible rfl
      try simp only [Act.put, List.setIfInBounds_toArray, List.set_cons_zero, List.set_cons_succ]
      refine wpAnyX_take (i := 11) (v := ?_) (by simp only [List.getElem?_toArray, List.getElem?_cons_succ, List.getElem?_cons_zero]; rfl) (by kernel_rfl) (by kernel_rfl) (by kernel_rfl) (by kernel_rfl) (by exact fun _ _ _ h => h) (Or.inl ⟨by rfl, ?_⟩) (by assumption) ?_
      rotate_left
      · intro w hSw; (try dsimp only at hSw); go_split_ands; go_simp <;> with_reducible rfl
      try simp only [Act.put, List.setIfInBounds_toArray, List.set_cons_zero, List.set_cons_succ]
      refine wpAnyX_one (i := 12) (by kernel_rfl) (by simp only [List.getElem?_toArray, List.getElem?_cons_succ, List.getElem?_cons_zero]; rfl) (fun K2 hK2 => ?_)
      go_simp
      refine hK2.out _ _ (hHeld) (fun hHeld => ?_)
      clear hK2 K2
      try simp only [Act.put, List.setIfInBounds_toArray, List.set_cons_zero, List.set_cons_succ]
      refine wpAnyX_one (i := 13) (by kernel_rfl) (by simp only [List.getElem?_toArray, List.getElem?_cons_succ, List.getElem?_cons_zero]; rfl) (fun K2 hK2 => ?_)
      go_simp
      refine hK2.out _ _ (hHeld) (fun hHeld => ?_)
      clear hK2 K2
      try simp only [Act.put, List.setIfInBounds_toArray, List.set_cons_zero, List.set_cons_succ]
      refine wpAnyX_last (by kernel_rfl) (by simp only [List.getElem?_toArray, List.getElem?_cons_succ, List.getElem?_cons_zero]; rfl) (fun K2 hK2 => ?_)
      go_simp
      refine hK2.out _ _ ?_
      clear hK2 K2
      try simp only [Act.put, List.setIfInBounds_toArray, List.set_cons_zero, List.set_cons_succ]
      refine wpAnyX_done (by kernel_rfl) ?_ _
      go_wp2_with fail
      refine Go.bodyPost_end (v := .tuple #[]) (by simp [results, Try.results28, go_sem]) rfl ⟨rfl, by rw [HRP.out]; exact LkS.toX HP7.out rfl rfl rfl (by omega) (by dsimp only; rw [HH60.out, List.map_drop, HH1.out]) (by dsimp only; rw [HR60.out, List.map_drop, HR1.out]) hi1⟩
    · obtain ⟨rA, rc, hrv, _, _⟩ := HK6.out.th.form
      have hrv' : k.rv = .slice rA k.rl.length rc := hrv
      have x3 : w6.cell? ⟨k.gl, 3, none⟩ = some (.slice rA k.rl.length rc) := by rw [← hrv']; exact HK6.out.lk.cell 3
      have s1 : ¬ (60 : Int) < (k.rl.length : Int) := by omega
      have HR60 : Hid (cap60 sm.r = sm.r) := Lib.hid (by
        have e : sm.r.length = k.rl.length := by rw [← hr1, List.length_map]
        unfold cap60
        rw [if_neg (by omega)])
      clear hrv hrv' r60
      go_wp2_with fail
      refine Go.bodyPost_end (v := .tuple #[]) (by simp [results, Try.results28, go_sem]) rfl ⟨rfl, by rw [HRP.out]; exact LkS.toX HK6.out rfl rfl rfl (by omega) (by dsimp only; rw [HH60.out, List.map_drop, HH1.out]) (by rw [HR60.out]; exact hr1) hi1⟩
  · obtain ⟨hA, hc, hhv, _, _⟩ := hk.he.form
    have x2 : w5.cell? ⟨k.gl, 2, none⟩ = some (.slice hA k.hl.length hc) := by rw [← hhv]; exact hk.lk.cell 2
    have r1 : ¬ (60 : Int) < (k.hl.length : Int) := by omega
    have HH60 : Hid (cap60 sm.h = sm.h) := Lib.hid (by
      have e : sm.h.length = k.hl.length := by rw [← hh1, List.length_map]
      unfold cap60
      rw [if_neg (by omega)])
    have HK6 := Lib.hid hk
    clear hhv h60 hk
    by_cases r60 : 60 < k.rl.length
    · obtain ⟨rg, ro, rc, hrv, rcl, rcm⟩ := HK6.out.th.some_ (by first | omega | (dsimp only; omega))
      have hrv' : k.rv = .slice (some ⟨rg, ro, none⟩) k.rl.length rc := hrv
      have rcl' : k.rl.length ≤ rc := rcl
      obtain ⟨m3, hm3⟩ : ∃ m3, k.rl.length - 60 = m3 := ⟨_, rfl⟩
      have x3 : w5.cell? ⟨k.gl, 3, none⟩ = some (.slice (some ⟨rg, ro, none⟩) k.rl.length rc) := by rw [← hrv']; exact HK6.out.lk.cell 3
      have fx3 := HK6.out.lk.frozen 3
      have s1 : (60 : Int) < (k.rl.length : Int) := by omega
      have s2 : (k.rl.length : Int) - 60 = (m3 : Int) := by omega
      have s3 : (0 : Int) ≤ (m3 : Int) := by omega
      have s4 : (m3 : Int) ≤ (k.rl.length : Int) := by omega
      have s5 : ¬ rc = m3 := by omega
      have s6 : IntKind.i64.wrap (m3 : Int) = (m3 : Int) := by rw [IntKind.wrap_i64]; have := rcm; simp only [maxLen] at this; omega
      have HR60 : Hid (cap60 sm.r = sm.r.drop m3) := Lib.hid (by
        have e : sm.r.length = k.rl.length := by rw [← hr1, List.length_map]
        unfold cap60
        rw [if_pos (by omega), e, hm3])
      have HP7 := Lib.hid (LkS.drew_ (HK6.out.capR (m := m3) hrv (by first | omega | (dsimp only; omega))))
      have HR1 := Lib.hid hr1
      clear hrv hrv' r60 hr1 hm3
      go_upto_region 22 with fail
      refine wp_region_x (s := 14) (S := fun W => W.cell? ⟨k.gl, 3, none⟩ = some (.slice (some ⟨rg, ro, none⟩) k.rl.length rc)) (by kernel_rfl) x3 (fun hHeld => ?_)
      refine wpAnyX_take (i := 0) (v := ?_) (by simp only [List.getElem?_toArray, List.getElem?_cons_zero]; rfl) (by kernel_rfl) (by kernel_rfl) (by kernel_rfl) (by kernel_rfl) (by exact fun _ _ _ h => h) (Or.inl ⟨by rfl, ?_⟩) (by assumption) ?_
      rotate_left
      · intro w hSw; (try dsimp only at hSw); go_split_ands; go_simp <;> with_reducible rfl
      try simp only [Act.put, List.setIfInBounds_toArray, List.set_cons_zero, List.set_cons_succ]
      refine wpAnyX_take (i := 1) (v := ?_) (by simp only [List.getElem?_toArray, List.getElem?_cons_succ, List.getElem?_cons_zero]; rfl) (by kernel_rfl) (by kernel_rfl) (by kernel_rfl) (by kernel_rfl) (by exact fun _ _ _ h => h) (Or.inl ⟨by rfl, ?_⟩) (by assumption) ?_
      rotate_left
      · intro w hSw; (try dsimp only at hSw); go_split_ands; go_simp <;> with_reducible rfl
      try simp only [Act.put, List.setIfInBounds_toArray, List.set_cons_zero, List.set_cons_succ]
      refine wpAnyX_take (i := 2) (v := ?_) (by simp only [List.getElem?_toArray, List.getElem?_cons_succ, List.getElem?_cons_zero]; rfl) (by kernel_rfl) (by kernel_rfl) (by kernel_rfl) (by kernel_rfl) (by exact fun _ _ _ h => h) (Or.inl ⟨by rfl, ?_⟩) (by assumption) ?_
      rotate_left
      · intro w hSw; (try dsimp only at hSw); go_split_ands; go_simp <;> with_reducible rfl
      try simp only [Act.put, List.setIfInBounds_toArray, List.set_cons_zero, List.set_cons_succ]
      refine wpAnyX_take (i := 3) (v := ?_) (by simp only [List.getElem?_toArray, List.getElem?_cons_succ, List.getElem?_cons_zero]; rfl) (by kernel_rfl) (by kernel_rfl) (by kernel_rfl) (by kernel_rfl) (by exact fun _ _ _ h => h) (Or.inl ⟨by rfl, ?_⟩) (by assumption) ?_
      rotate_left
      · intro w hSw; (try dsimp only at hSw); go_split_ands; go_simp <;> with_reducible rfl
      try simp only [Act.put, List.setIfInBounds_toArray, List.set_cons_zero, List.set_cons_succ]
      refine wpAnyX_take (i := 4) (v := ?_) (by simp only [List.getElem?_toArray, List.getElem?_cons_succ, List.getElem?_cons_zero]; rfl) (by kernel_rfl) (by kernel_rfl) (by kernel_rfl) (by kernel_rfl) (by exact fun _ _ _ h => h) (Or.inl ⟨by rfl, ?_⟩) (by assumption) ?_
      rotate_left
      · intro w hSw; (try dsimp only at hSw); go_split_ands; go_simp <;> with_reducible rfl
      try simp only [Act.put, List.setIfInBounds_toArray, List.set_cons_zero, List.set_cons_succ]
      refine wpAnyX_take (i := 5) (v := ?_) (by simp only [List.getElem?_toArray, List.getElem?_cons_succ, List.getElem?_cons_zero]; rfl) (by kernel_rfl) (by kernel_rfl) (by kernel_rfl) (by kernel_rfl) (by exact fun _ _ _ h => h) (Or.inl ⟨by rfl, ?_⟩) (by assumption) ?_
      rotate_left
      · intro w hSw; (try dsimp only at hSw); go_split_ands; go_simp <;> with_reducible rfl
      try simp only [Act.put, List.setIfInBounds_toArray, List.set_cons_zero, List.set_cons_succ]
      refine wpAnyX_take (i := 6) (v := ?_) (by simp only [List.getElem?_toArray, List.getElem?_cons_succ, List.getElem?_cons_zero]; rfl) (by kernel_rfl) (by kernel_rfl) (by kernel_rfl) (by kernel_rfl) (by exact fun _ _ _ h => h) (Or.inl ⟨by rfl, ?_⟩) (by assumption) ?_
      rotate_left
      · intro w hSw; (try dsimp only at hSw); go_split_ands; go_simp <;> with_reducible rfl
      try simp only [Act.put, List.setIfInBounds_toArray, List.set_cons_zero, List.set_cons_succ]
      refine wpAnyX_take (i := 7) (v := ?_) (by simp only [List.getElem?_toArray, List.getElem?_cons_succ, List.getElem?_cons_zero]; rfl) (by kernel_rfl) (by kernel_rfl) (by kernel_rfl) (by kernel_rfl) (by exact fun _ _ _ h => h) (Or.inl ⟨by rfl, ?_⟩) (by assumption) ?_
      rotate_left
      · intro w hSw; (try dsimp only at hSw); go_split_ands; go_simp <;> with_reducible rfl
      try simp only [Act.put, List.setIfInBounds_toArray, List.set_cons_zero, List.set_cons_succ]
      refine wpAnyX_take (i := 8) (v := ?_) (by simp only [List.getElem?_toArray, List.getElem?_cons_succ, List.getElem?_cons_zero]; rfl) (by kernel_rfl) (by kernel_rfl) (by kernel_rfl) (by kernel_rfl) (by exact fun _ _ _ h => h) (Or.inl ⟨by rfl, ?_⟩) (by assumption) ?_
      rotate_left
      · intro w hSw; (try dsimp only at hSw); go_split_ands; go_simp <;> with_reducible rfl
      try simp only [Act.put, List.setIfInBounds_toArray, List.set_cons_zero, List.set_cons_succ]
      refine wpAnyX_take (i := 9) (v := ?_) (by simp only [List.getElem?_toArray, List.getElem?_cons_succ, List.getElem?_cons_zero]; rfl) (by kernel_rfl) (by kernel_rfl) (by kernel_rfl) (by kernel_rfl) (by exact fun _ _ _ h => h) (Or.inl ⟨by rfl, ?_⟩) (by assumption) ?_
      rotate_left
      · intro w hSw; (try dsimp only at hSw); go_split_ands; go_simp <;> with_reducible rfl
      try simp only [Act.put, List.setIfInBounds_toArray, List.set_cons_zero, List.set_cons_succ]
      refine wpAnyX_take (i := 10) (v := ?_) (by simp only [List.getElem?_toArray, List.getElem?_cons_succ, List.getElem?_cons_zero]; rfl) (by kernel_rfl) (by kernel_rfl) (by kernel_rfl) (by kernel_rfl) (by exact fun _ _ _ h => h) (Or.inl ⟨by rfl, ?_⟩) (by assumption) ?_
      rotate_left
      · intro w hSw; (try dsimp only at hSw); go_split_ands; go_simp <;> with_reducible rfl
      try simp only [Act.put, List.setIfInBounds_toArray, List.set_cons_zero, List.set_cons_succ]
      refine wpAnyX_take (i := 11) (v := ?_) (by simp only [List.getElem?_toArray, List.getElem?_cons_succ, List.getElem?_cons_zero]; rfl) (by kernel_rfl) (by kernel_rfl) (by kernel_rfl) (by kernel_rfl) (by exact fun _ _ _ h => h) (Or.inl ⟨by rfl, ?_⟩) (by assumption) ?_
      rotate_left
      · intro w hSw; (try dsimp only at hSw); go_split_ands; go_simp <;> with_reducible rfl
      try simp only [Act.put, List.setIfInBounds_toArray, List.set_cons_zero, List.set_cons_succ]
      refine wpAnyX_one (i := 12) (by kernel_rfl) (by simp only [List.getElem?_toArray, List.getElem?_cons_succ, List.getElem?_cons_zero]; rfl) (fun K2 hK2 => ?_)
      go_simp
      refine hK2.out _ _ (hHeld) (fun hHeld => ?_)
      clear hK2 K2
      try simp only [Act.put, List.setIfInBounds_toArray, List.set_cons_zero, List.set_cons_succ]
      refine wpAnyX_one (i := 13) (by kernel_rfl) (by simp only [List.getElem?_toArray, List.getElem?_cons_succ, List.getElem?_cons_zero]; rfl) (fun K2 hK2 => ?_)
      go_simp
      refine hK2.out _ _ (hHeld) (fun hHeld => ?_)
      clear hK2 K2
      try simp only [Act.put, List.setIfInBounds_toArray, List.set_cons_zero, List.set_cons_succ]
      refine wpAnyX_last (by kernel_rfl) (by simp only [List.getElem?_toArray, List.getElem?_cons_succ, List.getElem?_cons_zero]; rfl) (fun K2 hK2 => ?_)
      go_simp
      refine hK2.out _ _ ?_
      clear hK2 K2
      try simp only [Act.put, List.setIfInBounds_toArray, List.set_cons_zero, List.set_cons_succ]
      refine wpAnyX_done (by kernel_rfl) ?_ _
      go_wp2_with fail
      refine Go.bodyPost_end (v := .tuple #[]) (by simp [results, Try.results28, go_sem]) rfl ⟨rfl, by rw [HRP.out]; exact LkS.toX HP7.out rfl rfl rfl (by omega) (by rw [HH60.out]; exact hh1) (by dsimp only; rw [HR60.out, List.map_drop, HR1.out]) hi1⟩
    · obtain ⟨rA, rc, hrv, _, _⟩ := HK6.out.th.form
      have hrv' : k.rv = .slice rA k.rl.length rc := hrv
      have x3 : w5.cell? ⟨k.gl, 3, none⟩ = some (.slice rA k.rl.length rc) := by rw [← hrv']; exact HK6.out.lk.cell 3
      have s1 : ¬ (60 : Int) < (k.rl.length : Int) := by omega
      have HR60 : Hid (cap60 sm.r = sm.r) := Lib.hid (by
        have e : sm.r.length = k.rl.length := by rw [← hr1, List.length_map]
        unfold cap60
        rw [if_neg (by omega)])
      clear hrv hrv' r60
      go_wp2_with fail
      refine Go.bodyPost_end (v := .tuple #[]) (by simp [results, Try.results28, go_sem]) rfl ⟨rfl, by rw [HRP.out]; exact LkS.toX HK6.out rfl rfl rfl (by omega) (by rw [HH60.out]; exact hh1) (by rw [HR60.out]; exact hr1) hi1⟩
end Go.Proofs.Ytjhkfpemcplaaaa
