/-
  The walk of the link's right. No statement of the seat is proved here.
-/
import Derived.Test.YtjhkfpemcplaaaaEnK
import Derived.Test.YtjhkfpemcplaaaaClT
import Derived.Test.YtjhkfpemcplaaaaClX
import Derived.Test.YtjhkfpemcplaaaaClY
namespace Go.Proofs.Ytjhkfpemcplaaaa
open Go.RowKit

theorem tyString : (⟨([] : List UInt8).toArray⟩ : ByteArray) = ByteArray.empty := rfl
set_option maxRecDepth 20000 in
set_option maxHeartbeats 8000000 in
theorem lright_any {w0 w : World} {gl gc gt D N : Nat} {s : Pl} (h : LkX w0 gl gc gt s D w) (ok : s.c.Ok N) (hN : N ≤ 2199023255552) (hsh : s.c.Short) (p1 : s.y.app.length ≤ s.i.length) (p2 : ∀ (j : Nat) (b : List UInt8), s.y.app[j]? = some b → s.i[j]? = some b)
    (p3 : s.c.rep ≤ s.y.app.length) (p4 : ∀ (j : Nat) (r : Rp), s.c.reps[j]? = some r → r = ⟨0, tV s.y.app (j + 1), []⟩) (p5 : s.y.app.length ≤ 1152921504606846976) :
    Calls Try.prog 29 #[.pointer (some ⟨gl, 0, none⟩)] w fun e w' => e = .returned (.bool true) ∧ Below w.heap.size w w' := by
  obtain ⟨k, f, rfl, rfl, rfl, hk, hh1, hr1, hi1⟩ := h
  have HK := Lib.hid hk
  obtain ⟨aA, ac, hav, _, _⟩ := hk.ty.row.form
  obtain ⟨iA, ic, hiv, _, _⟩ := hk.is.form
  have hal : k.t.al.length = s.y.app.length := hk.ty.len
  have hil : k.il.length = s.i.length := by have := congrArg List.length hi1; rw [List.length_map] at this; exact this
  have x0 : w.cell? ⟨k.gl, 0, none⟩ = some (.pointer (some ⟨k.p.g, 0, none⟩)) := hk.lk.cell 0
  have x1 : w.cell? ⟨k.gl, 1, none⟩ = some (.pointer (some ⟨k.t.g, 0, none⟩)) := hk.lk.cell 1
  have x4 : w.cell? ⟨k.gl, 4, none⟩ = some (.slice iA k.il.length ic) := by rw [← hiv]; exact hk.lk.cell 4
  have x3 : w.cell? ⟨k.t.g, 3, none⟩ = some (.slice aA k.t.al.length ac) := by rw [← hav]; exact hk.ty.blk.cell 3
  have HCE : Hid (∀ w', Below w.heap.size w w' → w'.cell? ⟨k.gl, 0, none⟩ = some (.pointer (some ⟨k.p.g, 0, none⟩)) ∧ w'.cell? ⟨k.gl, 1, none⟩ = some (.pointer (some ⟨k.t.g, 0, none⟩)) ∧ w'.cell? ⟨k.gl, 4, none⟩ = some (.slice iA k.il.length ic) ∧ w'.cell? ⟨k.t.g, 3, none⟩ = some (.slice aA k.t.al.length ac)) := Lib.hid fun w' hb =>
    ⟨(hb.cell (p := ⟨k.gl, 0, none⟩) hk.lk.lt).trans x0, (hb.cell (p := ⟨k.gl, 1, none⟩) hk.lk.lt).trans x1, (hb.cell (p := ⟨k.gl, 4, none⟩) hk.lk.lt).trans x4, (hb.cell (p := ⟨k.t.g, 3, none⟩) hk.ty.blk.lt).trans x3⟩
  have HRA : Hid (RowK kB w0.heap.size w (.slice aA k.t.al.length ac) k.t.al) := Lib.hid (by rw [← hav]; exact hk.ty.row)
  have HRI : Hid (RowK kB w0.heap.size w (.slice iA k.il.length ic) k.il) := Lib.hid (by rw [← hiv]; exact hk.is)
  have HAS := Lib.hid hk.ty.is
  have HIS := Lib.hid hi1
  have HOK := Lib.hid ok
  have HSH := Lib.hid hsh
  have HP2 := Lib.hid p2
  have HP4 := Lib.hid p4
  have HP5 := Lib.hid (show k.t.al.length ≤ 1152921504606846976 by omega)
  have HLE := Lib.hid (show k.t.al.length ≤ k.il.length by omega)
  have HRP := Lib.hid (show s.c.rep ≤ k.t.al.length by omega)
  have l0 : ¬ (k.il.length : Int) < (k.t.al.length : Int) := by omega
  have HAL := Lib.hid hal
  have n3 := HP5.out
  clear hk hav hiv hal hil hi1 hh1 hr1 ok hsh p1 p2 p3 p4 p5 x0
  go_enter Try.func29, Try.ntmps29
  go_upto_region 1 with fail
  go_region_held3 (fun W => W.cell? ⟨k.gl, 1, none⟩ = some (.pointer (some ⟨k.t.g, 0, none⟩)) ∧ W.cell? ⟨k.gl, 4, none⟩ = some (.slice iA k.il.length ic) ∧ W.cell? ⟨k.t.g, 3, none⟩ = some (.slice aA k.t.al.length ac)) (go_keep) (fail)
  have HW1 : Hid (Below w.heap.size w w.drew) := Lib.hid ⟨rfl, rfl, rfl, Nat.le_refl _, fun _ _ => rfl⟩
  generalize w.drew = w1 at HW1 ⊢
  clear x1 x3 x4
  go_wp2_with fail
  go_loopw [3] (fun V wr => ∃ i : Nat, i ≤ k.t.al.length ∧ V = .int .i64 (i : Int) ∧ Below w.heap.size w wr) (fun V _ => k.t.al.length - (intOf V).toNat)
  case atStart => exact ⟨0, Nat.zero_le _, rfl, HW1.out⟩
  case round =>
    obtain ⟨i, hi9, rfl, hbr⟩ := hrel
    obtain ⟨x0, x1, x4, x3⟩ := HCE.out wr hbr
    by_cases hlt : i < k.t.al.length
    · obtain ⟨q1, hq1⟩ : ∃ q, k.t.al[i]? = some q := ⟨_, List.getElem?_eq_getElem hlt⟩
      obtain ⟨q2, hq2⟩ : ∃ q, k.il[i]? = some q := ⟨_, List.getElem?_eq_getElem (by have := HLE.out; omega)⟩
      have hqq : q2.1 = q1.1 := by
        have h3 := HP2.out i q1.1 (by rw [← HAS.out, List.getElem?_map, hq1]; rfl)
        rw [← HIS.out, List.getElem?_map, hq2] at h3
        simpa using h3
      have r1 := HRA.out.below hbr
      have r2 := HRI.out.below hbr
      obtain ⟨g1, d1, e1, _, _, k1⟩ := r1.at_ kB_len hq1
      obtain ⟨g2, d2, e2, _, _, k2⟩ := r2.at_ kB_len hq2
      injection e1 with ea _ ec
      injection e2 with eb _ ed
      subst ea eb ec ed
      have z1 : wr.cell? ⟨g1, i, none⟩ = some (.slice q1.2.1 q1.1.length q1.2.2) := by
        have := k1 0 _ rfl
        simpa [kB, Kd.val] using this
      have z2 : wr.cell? ⟨g2, i, none⟩ = some (.slice q2.2.1 q1.1.length q2.2.2) := by
        have := k2 0 _ rfl
        rw [← hqq]
        simpa [kB, Kd.val] using this
      have o1 : RdB wr wr.heap.size q1.2.1 q1.1.length q1.1 := OwnB.reads (e := 5) (c := q1.2.2) (r1.els q1 (List.mem_of_getElem? hq1)) rfl
      have o2 : RdB wr wr.heap.size q2.2.1 q1.1.length q1.1 := by
        have := OwnB.reads (e := 5) (c := q2.2.2) (r2.els q2 (List.mem_of_getElem? hq2)) rfl
        rw [hqq] at this
        exact this
      have y1 : (convert 37 9 (.slice q1.2.1 q1.1.length q1.2.2)).run Try.prog wr.drew = .ok (.string ⟨q1.1.toArray⟩) wr.drew := run_string_of _ 37 9 5 (o1.below (Below.refl _ _).drew) Try.underlying37 Try.underlying5 Try.underlying9
      have y2 : (convert 37 9 (.slice q2.2.1 q1.1.length q2.2.2)).run Try.prog wr.drew = .ok (.string ⟨q1.1.toArray⟩) wr.drew := run_string_of _ 37 9 5 (o2.below (Below.refl _ _).drew) Try.underlying37 Try.underlying5 Try.underlying9
      have l3 : (0 : Int) ≤ (i : Int) := by omega
      have l4 : (i : Int) < (k.t.al.length : Int) := by omega
      have l5 : (i : Int) < (k.il.length : Int) := by have := HLE.out; omega
      have HBR := Lib.hid hbr
      have HLT := Lib.hid hlt
      clear k1 k2 r1 r2 o1 o2 hq1 hq2 hbr x0
      go_upto_region 6 with fail
      go_region_held3 (fun W => W.cell? ⟨k.gl, 1, none⟩ = some (.pointer (some ⟨k.t.g, 0, none⟩)) ∧ W.cell? ⟨k.gl, 4, none⟩ = some (.slice (some ⟨g2, 0, none⟩) k.il.length ic) ∧ W.cell? ⟨k.t.g, 3, none⟩ = some (.slice (some ⟨g1, 0, none⟩) k.t.al.length ac) ∧ W.cell? ⟨g1, i, none⟩ = some (.slice q1.2.1 q1.1.length q1.2.2) ∧ W.cell? ⟨g2, i, none⟩ = some (.slice q2.2.1 q1.1.length q2.2.2) ∧ (convert 37 9 (.slice q1.2.1 q1.1.length q1.2.2)).run Try.prog W = .ok (.string ⟨q1.1.toArray⟩) W ∧ (convert 37 9 (.slice q2.2.1 q1.1.length q2.2.2)).run Try.prog W = .ok (.string ⟨q1.1.toArray⟩) W)
        (go_keep)
        (fail)
      all_goals
        go_wp2
        go_roundw
        case rel => exact ⟨i + 1, HLT.out, by go_num, HBR.out.drew⟩
        case measure => have := HLT.out; simp [intOf]; omega
    · obtain rfl : i = k.t.al.length := by omega
      have HBR := Lib.hid hbr
      have HRPS := Lib.hid (replies_any (HK.out.ca.below hbr) HOK.out hN HSH.out.1)
      have l1 : ¬ (k.t.al.length : Int) < (k.t.al.length : Int) := by omega
      have HRL := Lib.hid HOK.out.rl
      clear hbr hlt HP2 HRI HIS HLE
      go_upto_block 2 with (go_at_call 25; refine HRPS.out.mono ?_; rintro e w6 ⟨v6, l6, rfl, hr6, hl6, hb6⟩; obtain ⟨A6, c6, rfl, _, hcm6⟩ := hr6.form; have HB6 : Hid (Below w.heap.size w w6) := Lib.hid (HBR.out.trans (hb6.mono HBR.out.size)); have HR6 := Lib.hid hr6; have HL6 := Lib.hid hl6; have hl9 : l6.length ≤ k.t.al.length := (by have h1 := congrArg List.length hl6; rw [List.length_map, HRL.out] at h1; have := HRP.out; omega); have l2 : ¬ (k.t.al.length : Int) < (l6.length : Int) := (by omega); obtain ⟨u0, u1, u4, u3⟩ := HCE.out w6 HB6.out; clear hr6 hl6 hb6)
      clear x0 x1 x3 x4 u0 u1 u4 u3 HRPS HW1
      go_wp2_with fail
      go_loopw [5] (fun V wr => ∃ i : Nat, i ≤ l6.length ∧ V = .int .i64 (i : Int) ∧ Below w6.heap.size w6 wr) (fun V _ => l6.length - (intOf V).toNat)
      case atStart => exact ⟨0, Nat.zero_le _, rfl, Below.refl _ _⟩
      case round =>
        obtain ⟨i, hi9, rfl, hbr⟩ := hrel
        have HBW : Hid (Below w.heap.size w wr) := Lib.hid (HB6.out.trans (hbr.mono HB6.out.size))
        obtain ⟨x0, x1, x4, x3⟩ := HCE.out wr HBW.out
        by_cases hlt : i < l6.length
        · obtain ⟨q1, hq1⟩ : ∃ q, l6[i]? = some q := ⟨_, List.getElem?_eq_getElem hlt⟩
          have hqq : q1.1 = ⟨0, tV s.y.app (i + 1), []⟩ := HP4.out i q1.1 (by rw [← HL6.out, List.getElem?_map, hq1]; rfl)
          have r1 := HR6.out.below hbr
          obtain ⟨g1, d1, e1, _, m1, k1⟩ := r1.at_ kR_len hq1
          injection e1 with ea _ ec
          subst ea ec
          have HQ1 := Lib.hid (r1.els q1 (List.mem_of_getElem? hq1))
          obtain ⟨rp1, Aq, cq⟩ := q1
          dsimp only at hqq
          subst hqq
          have HRA1 : Hid (Reads wr wr.heap.size 2 Aq 2 (vcells (tV s.y.app (i + 1)))) := Lib.hid (Reads.of_own HQ1.out)
          have z1 : wr.cell? ⟨g1, i * 3, none⟩ = some (.int .i64 0) := k1 0 _ rfl
          have z2 : wr.cell? ⟨g1, i * 3 + 1, none⟩ = some (.slice Aq 2 cq) := k1 1 _ rfl
          have z3 : wr.cell? ⟨g1, i * 3 + 2, none⟩ = some (.string ByteArray.empty) := k1 2 _ rfl
          have hlk := HK.out.lk.lt
          have hlkw : w.heap.size ≤ wr.heap.size := HBW.out.size
          have HSC : Hid (∀ w3, Below wr.heap.size wr w3 → w3.cell? ⟨g1, i * 3, none⟩ = some (.int .i64 0) ∧ w3.cell? ⟨g1, i * 3 + 1, none⟩ = some (.slice Aq 2 cq) ∧ w3.cell? ⟨g1, i * 3 + 2, none⟩ = some (.string ByteArray.empty) ∧ w3.cell? ⟨k.gl, 1, none⟩ = some (.pointer (some ⟨k.t.g, 0, none⟩))) := Lib.hid fun w3 h => ⟨(h.cell (p := ⟨g1, i * 3, none⟩) m1).trans z1, (h.cell (p := ⟨g1, i * 3 + 1, none⟩) m1).trans z2, (h.cell (p := ⟨g1, i * 3 + 2, none⟩) m1).trans z3, (h.cell (p := ⟨k.gl, 1, none⟩) (by dsimp only; omega)).trans x1⟩
          have l3 : (0 : Int) ≤ (i : Int) := by omega
          have l4 : (i : Int) < (l6.length : Int) := by omega
          have l5 : IntKind.u64.wrap ((i : Int) + 1) = (i : Int) + 1 := by have := HP5.out; simp [IntKind.wrap, IntKind.bits, IntKind.signed]; omega
          have l6 : IntKind.i64.wrap ((i : Int) + 1) = (i : Int) + 1 := by rw [IntKind.wrap_i64]; have := HP5.out; omega
          have HWD : Hid (Below wr.heap.size wr wr.drew) := Lib.hid ⟨rfl, rfl, rfl, Nat.le_refl _, fun _ _ => rfl⟩
          have hrp := treply_any ((HK.out.ty.below HBW.out).below HWD.out) (i + 1) (by omega) (by have := HAL.out; omega) (by have := HAL.out; have := HP5.out; omega)
          rw [show ((i + 1 : Nat) : Int) = (i : Int) + 1 from by omega] at hrp
          obtain ⟨vs, hvs⟩ : ∃ vs, tV s.y.app (i + 1) = vs := ⟨_, rfl⟩
          obtain ⟨es, hes⟩ : ∃ es, ByteArray.empty = es := ⟨_, rfl⟩
          rw [hvs, hes] at hrp
          rw [hvs] at HRA1
          rw [hes] at HSC z3
          have HTR := Lib.hid hrp
          clear hvs hes HQ1
          have HLT := Lib.hid hlt
          have HBR2 := Lib.hid hbr
          clear k1 r1 hq1 hbr hrp x0 x3 x4
          go_upto_region 14 with fail
          clear z1 z2 z3 x1
          refine wp_region_held_drew (S := fun W => W.cell? ⟨g1, i * 3, none⟩ = some (.int .i64 0) ∧ W.cell? ⟨g1, i * 3 + 1, none⟩ = some (.slice Aq 2 cq) ∧ W.cell? ⟨g1, i * 3 + 2, none⟩ = some (.string es) ∧ W.cell? ⟨k.gl, 1, none⟩ = some (.pointer (some ⟨k.t.g, 0, none⟩))) (by kernel_rfl) (HSC.out _ HWD.out) (fun hHeld => ?_)
          refine wpAnyH_take (i := 0) (v := ?_) (by simp only [List.getElem?_toArray, List.getElem?_cons_zero]; rfl) (by kernel_rfl) (by kernel_rfl) (by kernel_rfl) (by exact fun _ _ _ h => h) (Or.inl ⟨by rfl, ?_⟩) (by assumption) ?_
          rotate_left
          · intro w hSw; (try dsimp only at hSw); go_split_ands; go_simp <;> with_reducible rfl
          try simp only [Act.put, List.setIfInBounds_toArray, List.set_cons_zero, List.set_cons_succ]
          refine wpAnyH_take (i := 1) (v := ?_) (by simp only [List.getElem?_toArray, List.getElem?_cons_succ, List.getElem?_cons_zero]; rfl) (by kernel_rfl) (by kernel_rfl) (by kernel_rfl) (by exact fun _ _ _ h => h) (Or.inl ⟨by rfl, ?_⟩) (by assumption) ?_
          rotate_left
          · intro w hSw; (try dsimp only at hSw); go_split_ands; go_simp <;> with_reducible rfl
          try simp only [Act.put, List.setIfInBounds_toArray, List.set_cons_zero, List.set_cons_succ]
          refine wpAnyH_take (i := 2) (v := ?_) (by simp only [List.getElem?_toArray, List.getElem?_cons_succ, List.getElem?_cons_zero]; rfl) (by kernel_rfl) (by kernel_rfl) (by kernel_rfl) (by exact fun _ _ _ h => h) (Or.inl ⟨by rfl, ?_⟩) (by assumption) ?_
          rotate_left
          · intro w hSw; (try dsimp only at hSw); go_split_ands; go_simp <;> with_reducible rfl
          try simp only [Act.put, List.setIfInBounds_toArray, List.set_cons_zero, List.set_cons_succ]
          refine wpAnyH_take (i := 3) (v := ?_) (by simp only [List.getElem?_toArray, List.getElem?_cons_succ, List.getElem?_cons_zero]; rfl) (by kernel_rfl) (by kernel_rfl) (by kernel_rfl) (by exact fun _ _ _ h => h) (Or.inl ⟨by rfl, ?_⟩) (by assumption) ?_
          rotate_left
          · intro w hSw; (try dsimp only at hSw); go_split_ands; go_simp <;> with_reducible rfl
          try simp only [Act.put, List.setIfInBounds_toArray, List.set_cons_zero, List.set_cons_succ]
          refine wpAnyH_take (i := 4) (v := ?_) (by simp only [List.getElem?_toArray, List.getElem?_cons_succ, List.getElem?_cons_zero]; rfl) (by kernel_rfl) (by kernel_rfl) (by kernel_rfl) (by exact fun _ _ _ h => h) (Or.inl ⟨by rfl, ?_⟩) (by assumption) ?_
          rotate_left
          · intro w hSw; (try dsimp only at hSw); go_split_ands; go_simp <;> with_reducible rfl
          try simp only [Act.put, List.setIfInBounds_toArray, List.set_cons_zero, List.set_cons_succ]
          refine wpAnyH_take (i := 5) (v := ?_) (by simp only [List.getElem?_toArray, List.getElem?_cons_succ, List.getElem?_cons_zero]; rfl) (by kernel_rfl) (by kernel_rfl) (by kernel_rfl) (by exact fun _ _ _ h => h) (Or.inl ⟨by rfl, ?_⟩) (by assumption) ?_
          rotate_left
          · intro w hSw; (try dsimp only at hSw); go_split_ands; go_simp <;> with_reducible rfl
          try simp only [Act.put, List.setIfInBounds_toArray, List.set_cons_zero, List.set_cons_succ]
          refine wpAnyH_take (i := 6) (v := ?_) (by simp only [List.getElem?_toArray, List.getElem?_cons_succ, List.getElem?_cons_zero]; rfl) (by kernel_rfl) (by kernel_rfl) (by kernel_rfl) (by exact fun _ _ _ h => h) (Or.inl ⟨by rfl, ?_⟩) (by assumption) ?_
          rotate_left
          · intro w hSw; (try dsimp only at hSw); go_split_ands; go_simp <;> with_reducible rfl
          try simp only [Act.put, List.setIfInBounds_toArray, List.set_cons_zero, List.set_cons_succ]
          refine wpAnyH_take (i := 7) (v := ?_) (by simp only [List.getElem?_toArray, List.getElem?_cons_succ, List.getElem?_cons_zero]; rfl) (by kernel_rfl) (by kernel_rfl) (by kernel_rfl) (by exact fun _ _ _ h => h) (Or.inl ⟨by rfl, ?_⟩) (by assumption) ?_
          rotate_left
          · intro w hSw; (try dsimp only at hSw); go_split_ands; go_simp <;> with_reducible rfl
          try simp only [Act.put, List.setIfInBounds_toArray, List.set_cons_zero, List.set_cons_succ]
          refine wpAnyH_take (i := 8) (v := ?_) (by simp only [List.getElem?_toArray, List.getElem?_cons_succ, List.getElem?_cons_zero]; rfl) (by kernel_rfl) (by kernel_rfl) (by kernel_rfl) (by exact fun _ _ _ h => h) (Or.inl ⟨by rfl, ?_⟩) (by assumption) ?_
          rotate_left
          · intro w hSw; (try dsimp only at hSw); go_split_ands; go_simp <;> with_reducible rfl
          try simp only [Act.put, List.setIfInBounds_toArray, List.set_cons_zero, List.set_cons_succ]
          refine wpAnyH_take (i := 9) (v := ?_) (by simp only [List.getElem?_toArray, List.getElem?_cons_succ, List.getElem?_cons_zero]; rfl) (by kernel_rfl) (by kernel_rfl) (by kernel_rfl) (by exact fun _ _ _ h => h) (Or.inl ⟨by rfl, ?_⟩) (by assumption) ?_
          rotate_left
          · intro w hSw; (try dsimp only at hSw); go_split_ands; go_simp <;> with_reducible rfl
          try simp only [Act.put, List.setIfInBounds_toArray, List.set_cons_zero, List.set_cons_succ]
          refine wpAnyH_take (i := 10) (v := ?_) (by simp only [List.getElem?_toArray, List.getElem?_cons_succ, List.getElem?_cons_zero]; rfl) (by kernel_rfl) (by kernel_rfl) (by kernel_rfl) (by exact fun _ _ _ h => h) (Or.inl ⟨by rfl, ?_⟩) (by assumption) ?_
          rotate_left
          · intro w hSw; (try dsimp only at hSw); go_split_ands; go_simp <;> with_reducible rfl
          try simp only [Act.put, List.setIfInBounds_toArray, List.set_cons_zero, List.set_cons_succ]
          refine wpAnyH_ready (rs := [11]) (by kernel_rfl) (by simp) ?_
          refine AllReadyH.cons (by simp only [List.getElem?_toArray, List.getElem?_cons_succ, List.getElem?_cons_zero]; rfl) (fun K hK => ?_) AllReadyH.nil
          go_simp
          go_at_call 60
          refine HTR.out.mono ?_
          rintro e w7 ⟨A7, c7, rfl, ho7, hb7⟩
          have HO7 := Lib.hid ho7
          have HW7 : Hid (Below wr.heap.size wr w7) := Lib.hid (HWD.out.trans hb7)
          clear ho7 hb7
          try go_simp
          refine hK.out _ _ (HSC.out _ HW7.out) (fun hHeld => ?_)
          clear hK K
          try simp only [Act.put, List.setIfInBounds_toArray, List.set_cons_zero, List.set_cons_succ]
          refine wpAnyH_ready (rs := [12]) (by kernel_rfl) (by simp) ?_
          refine AllReadyH.cons (by simp only [List.getElem?_toArray, List.getElem?_cons_succ, List.getElem?_cons_zero]; rfl) (fun K hK => ?_) AllReadyH.nil
          go_simp
          go_at_call 27
          refine (samer_any 0 Aq A7 2 cq c7 es vs w7 ((HRA1.out.below HW7.out).more HW7.out.size) (Reads.of_own HO7.out) (by decide)).mono ?_
          rintro e w8 ⟨rfl, hb8⟩
          have HW8 : Hid (Below wr.heap.size wr w8) := Lib.hid (HW7.out.trans (hb8.mono HW7.out.size))
          clear hb8
          try go_simp
          refine hK.out _ _ (HSC.out _ HW8.out) (fun hHeld => ?_)
          clear hK K
          try simp only [Act.put, List.setIfInBounds_toArray, List.set_cons_zero, List.set_cons_succ]
          refine wpAnyH_take (i := 13) (v := ?_) (by simp only [List.getElem?_toArray, List.getElem?_cons_succ, List.getElem?_cons_zero]; rfl) (by kernel_rfl) (by kernel_rfl) (by kernel_rfl) (by exact fun _ _ _ h => h) (Or.inl ⟨by rfl, ?_⟩) (by assumption) ?_
          rotate_left
          · intro w hSw; (try dsimp only at hSw); go_split_ands; go_simp <;> with_reducible rfl
          try simp only [Act.put, List.setIfInBounds_toArray, List.set_cons_zero, List.set_cons_succ]
          refine wpAnyH_done (by kernel_rfl) ?_ _
          go_wp2
          go_roundw
          case rel => exact ⟨i + 1, HLT.out, by go_num, HBR2.out.trans (HW8.out.mono HBR2.out.size)⟩
          case measure => have := HLT.out; simp [intOf]; omega
        · obtain rfl : i = l6.length := by omega
          have l3 : ¬ (l6.length : Int) < (l6.length : Int) := by omega
          go_wp2
          go_ret
          exact ⟨rfl, HBW.out⟩
end Go.Proofs.Ytjhkfpemcplaaaa
