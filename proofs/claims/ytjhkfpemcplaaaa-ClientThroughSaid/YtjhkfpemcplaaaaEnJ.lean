/-
  The link's arrive. No statement of the seat is proved here.
-/
import Derived.Test.YtjhkfpemcplaaaaEnI
import Derived.Test.YtjhkfpemcplaaaaEnD
namespace Go.Proofs.Ytjhkfpemcplaaaa
open Go.RowKit

/-- the toy's answer to a frame -/
noncomputable def tyB (y : Ty) (b : List UInt8) : List Pk × Ty := match (feed b).1 with
  | [q] => tyF y q
  | _ => ([], y)
theorem tyB_frm {y : Ty} {q : Pk} (h : okPk q) : tyB y (frm q) = tyF y q := by unfold tyB; rw [feed_frame h]
theorem tyF_len (y : Ty) (q : Pk) : (tyF y q).1.length ≤ 1 := by
  unfold tyF
  repeat' split
  all_goals first | exact Nat.le_refl _ | (simp only []; split <;> simp) | simp
/-- a frame arrives -/
noncomputable def arrPl (s : Pl) (cl : Bool) (i : Int) (stays : Bool) : Pl :=
  if cl = true then (if s.h = [] ∨ i < 0 then s else ⟨s.c, (tyB s.y (s.h.getD (i.toNat % s.h.length) [])).2, if stays = true then s.h else dropPl s.h i, s.r ++ (tyB s.y (s.h.getD (i.toNat % s.h.length) [])).1.map frm, s.i⟩)
  else (if s.r = [] ∨ i < 0 then s else ⟨(recvF s.c (s.r.getD (i.toNat % s.r.length) [])).2, s.y, s.h ++ (recvF s.c (s.r.getD (i.toNat % s.r.length) [])).1.map frm, if stays = true then s.r else dropPl s.r i, s.i⟩)
theorem own_off {w : World} {base n hg ho hc j : Nat} {xs : List Value} (h : OwnO w base 37 1 (.slice (some ⟨hg, ho, none⟩) n hc) n xs) {u : Value} (hu : xs[j]? = some u) : w.cell? ⟨hg, ho + j, none⟩ = some u := by
  have hj : j < n := by
    have h1 := (List.getElem?_eq_some_iff.1 hu).1
    have := h.1
    omega
  obtain ⟨ad, e, _, hc⟩ := h.reads.2 (by omega)
  injection e with e
  subst e
  have := hc j u hu
  rw [← this]
  congr 1
  unfold Addr.add
  split <;> simp_all
set_option maxRecDepth 20000 in
set_option maxHeartbeats 8000000 in
theorem larr_true_true {w0 w : World} {gl gc gt D N : Nat} {s : Pl} (i : Int) (h : LkX w0 gl gc gt s D w) (hh : s.h.length ≤ 1000) (hr9 : s.r.length ≤ 1000) (hy : s.y.Ok N) (hN : N ≤ 2199023255552) (hfr : ∀ b ∈ s.h, ∃ q, okPk q ∧ b = frm q) :
    Calls Try.prog 58 #[.pointer (some ⟨gl, 0, none⟩), .bool true, .int .i64 i, .bool true] w (LinkP w0 gl gc gt (arrPl s true i true) D) := by
  obtain ⟨k, f, rfl, rfl, rfl, hk, hh1, hr1, hi1⟩ := h
  have HK := Lib.hid hk
  have HH1 := Lib.hid hh1
  have HR1 := Lib.hid hr1
  have HI1 := Lib.hid hi1
  obtain ⟨hA, hc, hhv, hcl, hcm⟩ := hk.he.form
  have hlen : k.hl.length = s.h.length := by have := congrArg List.length hh1; rw [List.length_map] at this; exact this
  have hlen2 : k.rl.length ≤ 1000 := by have := congrArg List.length hr1; rw [List.length_map] at this; omega
  have x2 : w.cell? ⟨k.gl, 2, none⟩ = some (.slice hA k.hl.length hc) := by rw [← hhv]; exact hk.lk.cell 2
  have hlk := hk.lk.lt
  obtain ⟨i0, hi, hz0, hz1, hz2⟩ := info_parts info37
  by_cases hbad : s.h = [] ∨ i < 0
  · have hpl : arrPl s true i true = s := by unfold arrPl; simp [hbad]
    have HPL := Lib.hid hpl
    have HT : Hid (LkX w0 k.gl k.p.g k.t.g s D w) := Lib.hid ⟨k, f, rfl, rfl, rfl, hk.more (by omega), hh1, hr1, hi1⟩
    clear hk hh1 hr1 hi1 hpl
    by_cases h0 : s.h = []
    · have hl0 : k.hl.length = 0 := by rw [hlen, h0]; rfl
      rw [hl0] at x2
      clear hbad h0 hl0 hhv hcl hlen hh hr9 hfr
      go_enter Try.func58, Try.ntmps58
      go_wp2
      refine Go.bodyPost_end (v := .tuple #[]) (by simp [results, Try.results58, go_sem]) rfl ⟨rfl, by rw [HPL.out]; exact HT.out⟩
    · have hi0 : i < 0 := hbad.resolve_left h0
      have hl0 : 0 < k.hl.length := by rw [hlen]; exact List.length_pos_iff.2 h0
      have t1 : ((k.hl.length : Int) == 0) = false := by rw [beq_eq_false_iff_ne]; omega
      clear hbad h0 hl0 hhv hcl hlen hh hr9 hfr
      go_enter Try.func58, Try.ntmps58
      go_wp2
      refine Go.bodyPost_end (v := .tuple #[]) (by simp [results, Try.results58, go_sem]) rfl ⟨rfl, by rw [HPL.out]; exact HT.out⟩
  · have h0 : ¬ s.h = [] := fun e => hbad (.inl e)
    obtain ⟨i, rfl⟩ := Int.eq_ofNat_of_zero_le (show 0 ≤ i by have : ¬ i < 0 := fun e => hbad (.inr e); omega)
    have hpos : 0 < k.hl.length := by rw [hlen]; exact List.length_pos_iff.2 h0
    obtain ⟨j, hj⟩ : ∃ j, i % k.hl.length = j := ⟨_, rfl⟩
    have hjl : j < k.hl.length := by rw [← hj]; exact Nat.mod_lt _ hpos
    obtain ⟨q, hq⟩ : ∃ q, k.hl[j]? = some q := ⟨_, List.getElem?_eq_getElem hjl⟩
    have hqs : s.h[j]? = some q.1 := by rw [← hh1, List.getElem?_map, hq]; rfl
    obtain ⟨q0, hq0, hqf⟩ := hfr q.1 (List.mem_of_getElem? hqs)
    have hpl : arrPl s true (i : Int) true = ⟨s.c, (tyF s.y q0).2, s.h, s.r ++ (tyF s.y q0).1.map frm, s.i⟩ := by
      have e1 : i % s.h.length = j := by rw [← hlen]; exact hj
      have e2 : s.h.getD j [] = frm q0 := by rw [List.getD_eq_getElem?_getD, hqs, ← hqf]; rfl
      have e3 : ((i : Int).toNat) = i := by simp
      unfold arrPl
      rw [if_pos rfl, if_neg hbad, e3, e1, e2, tyB_frm hq0]
      
      rw [if_pos rfl]
    have HPL := Lib.hid hpl
    have hqo := hk.he.els q (List.mem_of_getElem? hq)
    have HQO : Hid (OwnB 5 w w0.heap.size (.slice q.2.1 q.1.length q.2.2) q.1) := Lib.hid hqo
    have HQF := Lib.hid hqf
    have HQ0 := Lib.hid hq0
    have hrow := hk.he.row
    rw [hhv] at hrow
    obtain ⟨hg, ho, rfl⟩ : ∃ hg ho, hA = some ⟨hg, ho, none⟩ := by
      rcases hrow.2 with ⟨_, e0⟩ | ⟨g, o, _, _, e0, _⟩
      · omega
      · injection e0 with e0 _ _
        exact ⟨g, o, e0⟩
    have xq : w.cell? ⟨hg, ho + j, none⟩ = some (.slice q.2.1 q.1.length q.2.2) := own_off hrow (by
      rw [flatB, List.getElem?_map, hq]
      rfl)
    have hrd : Reads w w.heap.size 1 (some ⟨hg, ho, none⟩) k.hl.length (kB.flat k.hl) := hrow.reads
    have HFI : Hid (Reads w w.heap.size 1 (some ⟨hg, ho, none⟩) j ((kB.flat k.hl).take j)) := Lib.hid (by have := Reads.firstK hrd (k := j) (by omega); rwa [Nat.mul_one] at this)
    have HTL : Hid (Reads w w.heap.size 1 (if hc = j + 1 then some ⟨hg, ho, none⟩ else some ⟨hg, ho + (j + 1), none⟩) (k.hl.length - (j + 1)) ((kB.flat k.hl).drop (j + 1))) := Lib.hid (by have := Reads.cut hrd (k := j + 1) (cap := hc) (by omega) (by omega); simpa [Addr.add] using this)
    have t1 : ((k.hl.length : Int) == 0) = false := by rw [beq_eq_false_iff_ne]; omega
    have t2 : ((i : Int).tmod (k.hl.length : Int)) = (j : Int) := by rw [Int.tmod_eq_emod_of_nonneg (by omega), ← hj]; rfl
    have t3 : (0 : Int) ≤ (j : Int) := by omega
    have t4 : (j : Int) ≤ (hc : Int) := by omega
    have t5 : (0 : Int) ≤ (j : Int) + 1 := by omega
    have t6 : (j : Int) + 1 ≤ (k.hl.length : Int) := by omega
    have t7 : (0 : Int) ≤ (i : Int) := by omega
    have t8 : (j : Int) < (k.hl.length : Int) := by omega
    have hhl : k.hl.length ≤ 1000 := by omega
    have hfq := frm_len hq0
    have hql : q.1.length ≤ 1088 := by rw [hqf]; exact hfq
    have HFL := Lib.hid (tyF_len s.y q0)
    have HY := Lib.hid hy
    clear hk hh1 hr1 hi1 hpl hbad h0 hrow hrd hlen hh hr9 hj hfr hqs hq hqo hqf hq0 hfq
    go_enter Try.func58, Try.ntmps58
    go_upto_region 10 with fail
    all_goals
      have HK8 := HK
      have HQ8 := HQO
      clear HFI HTL HQO x2 xq
      generalize w = w8 at *
      obtain ⟨rA, rc, hrv, _, _⟩ := HK8.out.th.form
      have hrv' : k.rv = .slice rA k.rl.length rc := hrv
      have HRV := Lib.hid hrv'
      have x3 : w8.cell? ⟨k.gl, 3, none⟩ = some (.slice rA k.rl.length rc) := by rw [← hrv']; exact HK8.out.lk.cell 3
      have x4 : w8.cell? ⟨k.gl, 1, none⟩ = some (.pointer (some ⟨k.t.g, 0, none⟩)) := HK8.out.lk.cell 1
      have HWD : Hid (Below w8.heap.size w8 w8.drew) := Lib.hid ⟨rfl, rfl, rfl, Nat.le_refl _, fun _ _ => rfl⟩
      have HRD8 : Hid (RdB w8.drew w8.drew.heap.size q.2.1 q.1.length (frm q0)) := Lib.hid (HQF.out ▸ (Reads.of_own (own_same (w' := w8.drew) HQ8.out fun _ _ => rfl)))
      have HB8 : Hid (w0.heap.size ≤ w8.drew.heap.size) := Lib.hid HK8.out.old.size
      clear hrv hrv'
      go_upto_region 11 with fail
      refine wp_region_x (s := 14) (S := fun W => W.cell? ⟨k.gl, 3, none⟩ = some (.slice rA k.rl.length rc) ∧ W.cell? ⟨k.gl, 1, none⟩ = some (.pointer (some ⟨k.t.g, 0, none⟩))) (by kernel_rfl) ⟨x3, x4⟩ (fun hHeld => ?_)
      refine wpAnyX_take (i := 0) (v := ?_) (by simp only [List.getElem?_toArray, List.getElem?_cons_zero]; rfl) (by kernel_rfl) (by kernel_rfl) (by kernel_rfl) (by kernel_rfl) (by exact fun _ _ _ h => h) (Or.inl ⟨by rfl, ?_⟩) (by assumption) ?_
      rotate_left
      · intro w hSw; (try dsimp only at hSw); go_split_ands; go_simp <;> with_reducible rfl
      try simp only [Act.put, List.setIfInBounds_toArray, List.set_cons_zero, List.set_cons_succ]
      refine wpAnyX_take (i := 1) (v := ?_) (by simp only [List.getElem?_toArray, List.getElem?_cons_succ, List.getElem?_cons_zero]; rfl) (by kernel_rfl) (by kernel_rfl) (by kernel_rfl) (by kernel_rfl) (by exact fun _ _ _ h => h) (Or.inl ⟨by rfl, ?_⟩) (by assumption) ?_
      rotate_left
      · intro w hSw; (try dsimp only at hSw); go_split_ands; go_simp <;> with_reducible rfl
      try simp only [Act.put, List.setIfInBounds_toArray, List.set_cons_zero, List.set_cons_succ]
      refine wpAnyX_take (i := 2) (v := ?_) (by simp only [List.getElem?_toArray, List.getElem?_cons_succ, List.getElem?_cons_zero]; rfl) (by kernel_rfl) (by kernel_rfl) (by kernel_rfl) (by kernel_rfl) (by exact fun _ _ _ h => h) (Or.inl ⟨by rfl, ?_⟩) (by assumption) ?_
      rotate_left
      · intro w hSw; (try dsimp only at hSw); go_split_ands; go_simp <;> with_reducible rfl
      try simp only [Act.put, List.setIfInBounds_toArray, List.set_cons_zero, List.set_cons_succ]
      refine wpAnyX_take (i := 3) (v := ?_) (by simp only [List.getElem?_toArray, List.getElem?_cons_succ, List.getElem?_cons_zero]; rfl) (by kernel_rfl) (by kernel_rfl) (by kernel_rfl) (by kernel_rfl) (by exact fun _ _ _ h => h) (Or.inl ⟨by rfl, ?_⟩) (by assumption) ?_
      rotate_left
      · intro w hSw; (try dsimp only at hSw); go_split_ands; go_simp <;> with_reducible rfl
      try simp only [Act.put, List.setIfInBounds_toArray, List.set_cons_zero, List.set_cons_succ]
      refine wpAnyX_take (i := 4) (v := ?_) (by simp only [List.getElem?_toArray, List.getElem?_cons_succ, List.getElem?_cons_zero]; rfl) (by kernel_rfl) (by kernel_rfl) (by kernel_rfl) (by kernel_rfl) (by exact fun _ _ _ h => h) (Or.inl ⟨by rfl, ?_⟩) (by assumption) ?_
      rotate_left
      · intro w hSw; (try dsimp only at hSw); go_split_ands; go_simp <;> with_reducible rfl
      try simp only [Act.put, List.setIfInBounds_toArray, List.set_cons_zero, List.set_cons_succ]
      refine wpAnyX_take (i := 5) (v := ?_) (by simp only [List.getElem?_toArray, List.getElem?_cons_succ, List.getElem?_cons_zero]; rfl) (by kernel_rfl) (by kernel_rfl) (by kernel_rfl) (by kernel_rfl) (by exact fun _ _ _ h => h) (Or.inl ⟨by rfl, ?_⟩) (by assumption) ?_
      rotate_left
      · intro w hSw; (try dsimp only at hSw); go_split_ands; go_simp <;> with_reducible rfl
      try simp only [Act.put, List.setIfInBounds_toArray, List.set_cons_zero, List.set_cons_succ]
      refine wpAnyX_take (i := 6) (v := ?_) (by simp only [List.getElem?_toArray, List.getElem?_cons_succ, List.getElem?_cons_zero]; rfl) (by kernel_rfl) (by kernel_rfl) (by kernel_rfl) (by kernel_rfl) (by exact fun _ _ _ h => h) (Or.inl ⟨by rfl, ?_⟩) (by assumption) ?_
      rotate_left
      · intro w hSw; (try dsimp only at hSw); go_split_ands; go_simp <;> with_reducible rfl
      try simp only [Act.put, List.setIfInBounds_toArray, List.set_cons_zero, List.set_cons_succ]
      refine wpAnyX_take (i := 7) (v := ?_) (by simp only [List.getElem?_toArray, List.getElem?_cons_succ, List.getElem?_cons_zero]; rfl) (by kernel_rfl) (by kernel_rfl) (by kernel_rfl) (by kernel_rfl) (by exact fun _ _ _ h => h) (Or.inl ⟨by rfl, ?_⟩) (by assumption) ?_
      rotate_left
      · intro w hSw; (try dsimp only at hSw); go_split_ands; go_simp <;> with_reducible rfl
      try simp only [Act.put, List.setIfInBounds_toArray, List.set_cons_zero, List.set_cons_succ]
      refine wpAnyX_take (i := 8) (v := ?_) (by simp only [List.getElem?_toArray, List.getElem?_cons_succ, List.getElem?_cons_zero]; rfl) (by kernel_rfl) (by kernel_rfl) (by kernel_rfl) (by kernel_rfl) (by exact fun _ _ _ h => h) (Or.inl ⟨by rfl, ?_⟩) (by assumption) ?_
      rotate_left
      · intro w hSw; (try dsimp only at hSw); go_split_ands; go_simp <;> with_reducible rfl
      try simp only [Act.put, List.setIfInBounds_toArray, List.set_cons_zero, List.set_cons_succ]
      refine wpAnyX_take (i := 9) (v := ?_) (by simp only [List.getElem?_toArray, List.getElem?_cons_succ, List.getElem?_cons_zero]; rfl) (by kernel_rfl) (by kernel_rfl) (by kernel_rfl) (by kernel_rfl) (by exact fun _ _ _ h => h) (Or.inl ⟨by rfl, ?_⟩) (by assumption) ?_
      rotate_left
      · intro w hSw; (try dsimp only at hSw); go_split_ands; go_simp <;> with_reducible rfl
      try simp only [Act.put, List.setIfInBounds_toArray, List.set_cons_zero, List.set_cons_succ]
      refine wpAnyX_one (i := 10) (by kernel_rfl) (by simp only [List.getElem?_toArray, List.getElem?_cons_succ, List.getElem?_cons_zero]; rfl) (fun K2 hK2 => ?_)
      go_simp
      go_at_call 33
      refine (toy_any q0 q.2.1 q.1.length q.2.2 (HK8.out.ty.below HWD.out) HY.out hN HQ0.out HRD8.out).mono ?_
      rintro e w9 ⟨v9, l9, t9, rfl, hs, hr, hl, hap⟩
      obtain ⟨f9, hk9, hlow, hnew⟩ := (HK8.out.below HWD.out).stepT hs
      have HK9 := Lib.hid hk9
      have H79 : Hid (∀ a, (v9.ownBlock = some a ∨ kB.inB l9 a) → f9 a = 7) := Lib.hid fun a ha => hnew a (hr.lt ha).1 (hap a ha)
      have HR9 := Lib.hid hr
      have HL9 := Lib.hid hl
      have HG9 := Lib.hid hs.g
      have hl9 : l9.length ≤ 1 := by have h1 := congrArg List.length hl; rw [List.length_map, List.length_map] at h1; have h2 := HFL.out; omega
      obtain ⟨A9, c9, rfl, _, _⟩ := hr.form
      have hkc : w9.cell? ⟨k.gl, 3, none⟩ = some (.slice rA k.rl.length rc) := by have := hk9.lk.cell 3; rw [← HRV.out]; exact this
      have hkp : w9.cell? ⟨k.gl, 1, none⟩ = some (.pointer (some ⟨k.t.g, 0, none⟩)) := by have := hk9.lk.cell 1; rw [show _ = _ from this]; simp [HG9.out]
      have HRW : Hid (OwnO w9 w0.heap.size 37 1 (.slice rA k.rl.length rc) k.rl.length (kB.flat k.rl)) := Lib.hid (by rw [← HRV.out]; exact hk9.th.row)
      have hbs : w0.heap.size ≤ w9.heap.size := hk9.old.size
      clear hk9 hlow hnew hs hr hl hap
      try go_simp
      refine hK2.out _ _ (⟨hkc, hkp⟩) (fun hHeld => ?_)
      clear hK2 K2
      try simp only [Act.put, List.setIfInBounds_toArray, List.set_cons_zero, List.set_cons_succ]
      refine wpAnyX_one (i := 11) (by kernel_rfl) (by simp only [List.getElem?_toArray, List.getElem?_cons_succ, List.getElem?_cons_zero]; rfl) (fun K2 hK2 => ?_)
      (refine step_append_o _ rfl (.tmp 63) (.tmp 69) 31 rfl w0.heap.size 37 i0 _ 1 24 Try.underlying31 hi hz0 hz1 hz2 rfl (by decide) (.slice rA k.rl.length rc) k.rl.length (kB.flat k.rl) (by rfl) HRW.out _ A9 l9.length c9 (kB.flat l9) (by rfl) (Reads.of_own HR9.out.row) (kB_one _) (by simp only [maxLen]; omega) (by omega) hbs ?_)
      intro v10 w10 hr10 hg10 hv10
      rw [← HRV.out] at hg10 hv10
      have hb10 := HK9.out.lkR hg10
      have y4 := hb10.frozen 3
      have hkc' : w10.cell? ⟨k.gl, 3, none⟩ = some (.slice rA k.rl.length rc) := by have := hb10.cell 3; rw [← HRV.out]; exact this
      have hkp' : w10.cell? ⟨k.gl, 1, none⟩ = some (.pointer (some ⟨k.t.g, 0, none⟩)) := by have := hb10.cell 1; rw [show _ = _ from this]; simp [HG9.out]
      have HP10 := Lib.hid (HK9.out.pushR HR9.out HB8.out H79.out hr10 hg10 hv10)
      obtain ⟨A10, c10, rfl, _, _⟩ := hr10.form
      clear hr10 hg10 hv10 hb10
      refine hK2.out _ _ (⟨hkc', hkp'⟩) (fun hHeld => ?_)
      clear hK2 K2
      try simp only [Act.put, List.setIfInBounds_toArray, List.set_cons_zero, List.set_cons_succ]
      refine wpAnyX_one (i := 12) (by kernel_rfl) (by simp only [List.getElem?_toArray, List.getElem?_cons_succ, List.getElem?_cons_zero]; rfl) (fun K2 hK2 => ?_)
      go_simp
      refine hK2.out _ _ (hHeld) (fun hHeld => ?_)
      clear hK2 K2
      try simp only [Act.put, List.setIfInBounds_toArray, List.set_cons_zero, List.set_cons_succ]
      refine wpAnyX_one (i := 13) (by kernel_rfl) (by simp only [List.getElem?_toArray, List.getElem?_cons_succ, List.getElem?_cons_zero]; rfl) (fun K2 hK2 => ?_)
      go_simp
      refine hK2.out _ _ (hHeld) (fun hHeld => ?_)
      clear hK2 K2
      try simp only [Act.put, List.setIfInBounds_toArray, List.set_cons_zero, List.set_cons_succ]
      refine wpAnyX_last (by kernel_rfl) (by simp only [List.getElem?_toArray, List.getElem?_cons_succ, List.getElem?_cons_zero]; rfl) (fun K2 hK2 => ?_)
      go_simp
      refine hK2.out _ _ ?_
      clear hK2 K2
      try simp only [Act.put, List.setIfInBounds_toArray, List.set_cons_zero, List.set_cons_succ]
      refine wpAnyX_done (by kernel_rfl) ?_ _
      go_wp2_with fail
      all_goals refine Go.bodyPost_end (v := .tuple #[]) (by simp [results, Try.results58, go_sem]) rfl ⟨rfl, by rw [HPL.out]; exact LkS.toX HP10.out rfl rfl HG9.out (by omega) HH1.out (by dsimp only; rw [List.map_append, HR1.out, HL9.out]) HI1.out⟩
set_option maxRecDepth 20000 in
set_option maxHeartbeats 8000000 in
theorem larr_true_false {w0 w : World} {gl gc gt D N : Nat} {s : Pl} (i : Int) (h : LkX w0 gl gc gt s D w) (hh : s.h.length ≤ 1000) (hr9 : s.r.length ≤ 1000) (hy : s.y.Ok N) (hN : N ≤ 2199023255552) (hfr : ∀ b ∈ s.h, ∃ q, okPk q ∧ b = frm q) :
    Calls Try.prog 58 #[.pointer (some ⟨gl, 0, none⟩), .bool true, .int .i64 i, .bool false] w (LinkP w0 gl gc gt (arrPl s true i false) D) := by
  obtain ⟨k, f, rfl, rfl, rfl, hk, hh1, hr1, hi1⟩ := h
  have HK := Lib.hid hk
  have HH1 := Lib.hid hh1
  have HR1 := Lib.hid hr1
  have HI1 := Lib.hid hi1
  obtain ⟨hA, hc, hhv, hcl, hcm⟩ := hk.he.form
  have hlen : k.hl.length = s.h.length := by have := congrArg List.length hh1; rw [List.length_map] at this; exact this
  have hlen2 : k.rl.length ≤ 1000 := by have := congrArg List.length hr1; rw [List.length_map] at this; omega
  have x2 : w.cell? ⟨k.gl, 2, none⟩ = some (.slice hA k.hl.length hc) := by rw [← hhv]; exact hk.lk.cell 2
  have hlk := hk.lk.lt
  obtain ⟨i0, hi, hz0, hz1, hz2⟩ := info_parts info37
  by_cases hbad : s.h = [] ∨ i < 0
  · have hpl : arrPl s true i false = s := by unfold arrPl; simp [hbad]
    have HPL := Lib.hid hpl
    have HT : Hid (LkX w0 k.gl k.p.g k.t.g s D w) := Lib.hid ⟨k, f, rfl, rfl, rfl, hk.more (by omega), hh1, hr1, hi1⟩
    clear hk hh1 hr1 hi1 hpl
    by_cases h0 : s.h = []
    · have hl0 : k.hl.length = 0 := by rw [hlen, h0]; rfl
      rw [hl0] at x2
      clear hbad h0 hl0 hhv hcl hlen hh hr9 hfr
      go_enter Try.func58, Try.ntmps58
      go_wp2
      refine Go.bodyPost_end (v := .tuple #[]) (by simp [results, Try.results58, go_sem]) rfl ⟨rfl, by rw [HPL.out]; exact HT.out⟩
    · have hi0 : i < 0 := hbad.resolve_left h0
      have hl0 : 0 < k.hl.length := by rw [hlen]; exact List.length_pos_iff.2 h0
      have t1 : ((k.hl.length : Int) == 0) = false := by rw [beq_eq_false_iff_ne]; omega
      clear hbad h0 hl0 hhv hcl hlen hh hr9 hfr
      go_enter Try.func58, Try.ntmps58
      go_wp2
      refine Go.bodyPost_end (v := .tuple #[]) (by simp [results, Try.results58, go_sem]) rfl ⟨rfl, by rw [HPL.out]; exact HT.out⟩
  · have h0 : ¬ s.h = [] := fun e => hbad (.inl e)
    obtain ⟨i, rfl⟩ := Int.eq_ofNat_of_zero_le (show 0 ≤ i by have : ¬ i < 0 := fun e => hbad (.inr e); omega)
    have hpos : 0 < k.hl.length := by rw [hlen]; exact List.length_pos_iff.2 h0
    obtain ⟨j, hj⟩ : ∃ j, i % k.hl.length = j := ⟨_, rfl⟩
    have hjl : j < k.hl.length := by rw [← hj]; exact Nat.mod_lt _ hpos
    obtain ⟨q, hq⟩ : ∃ q, k.hl[j]? = some q := ⟨_, List.getElem?_eq_getElem hjl⟩
    have hqs : s.h[j]? = some q.1 := by rw [← hh1, List.getElem?_map, hq]; rfl
    obtain ⟨q0, hq0, hqf⟩ := hfr q.1 (List.mem_of_getElem? hqs)
    have hpl : arrPl s true (i : Int) false = ⟨s.c, (tyF s.y q0).2, s.h.take j ++ s.h.drop (j + 1), s.r ++ (tyF s.y q0).1.map frm, s.i⟩ := by
      have e1 : i % s.h.length = j := by rw [← hlen]; exact hj
      have e2 : s.h.getD j [] = frm q0 := by rw [List.getD_eq_getElem?_getD, hqs, ← hqf]; rfl
      have e3 : ((i : Int).toNat) = i := by simp
      unfold arrPl
      rw [if_pos rfl, if_neg hbad, e3, e1, e2, tyB_frm hq0]
      unfold dropPl; rw [if_neg hbad, e3, e1]
      rfl
    have HPL := Lib.hid hpl
    have hqo := hk.he.els q (List.mem_of_getElem? hq)
    have HQO : Hid (OwnB 5 w w0.heap.size (.slice q.2.1 q.1.length q.2.2) q.1) := Lib.hid hqo
    have HQF := Lib.hid hqf
    have HQ0 := Lib.hid hq0
    have hrow := hk.he.row
    rw [hhv] at hrow
    obtain ⟨hg, ho, rfl⟩ : ∃ hg ho, hA = some ⟨hg, ho, none⟩ := by
      rcases hrow.2 with ⟨_, e0⟩ | ⟨g, o, _, _, e0, _⟩
      · omega
      · injection e0 with e0 _ _
        exact ⟨g, o, e0⟩
    have xq : w.cell? ⟨hg, ho + j, none⟩ = some (.slice q.2.1 q.1.length q.2.2) := own_off hrow (by
      rw [flatB, List.getElem?_map, hq]
      rfl)
    have hrd : Reads w w.heap.size 1 (some ⟨hg, ho, none⟩) k.hl.length (kB.flat k.hl) := hrow.reads
    have HFI : Hid (Reads w w.heap.size 1 (some ⟨hg, ho, none⟩) j ((kB.flat k.hl).take j)) := Lib.hid (by have := Reads.firstK hrd (k := j) (by omega); rwa [Nat.mul_one] at this)
    have HTL : Hid (Reads w w.heap.size 1 (if hc = j + 1 then some ⟨hg, ho, none⟩ else some ⟨hg, ho + (j + 1), none⟩) (k.hl.length - (j + 1)) ((kB.flat k.hl).drop (j + 1))) := Lib.hid (by have := Reads.cut hrd (k := j + 1) (cap := hc) (by omega) (by omega); simpa [Addr.add] using this)
    have t1 : ((k.hl.length : Int) == 0) = false := by rw [beq_eq_false_iff_ne]; omega
    have t2 : ((i : Int).tmod (k.hl.length : Int)) = (j : Int) := by rw [Int.tmod_eq_emod_of_nonneg (by omega), ← hj]; rfl
    have t3 : (0 : Int) ≤ (j : Int) := by omega
    have t4 : (j : Int) ≤ (hc : Int) := by omega
    have t5 : (0 : Int) ≤ (j : Int) + 1 := by omega
    have t6 : (j : Int) + 1 ≤ (k.hl.length : Int) := by omega
    have t7 : (0 : Int) ≤ (i : Int) := by omega
    have t8 : (j : Int) < (k.hl.length : Int) := by omega
    have hhl : k.hl.length ≤ 1000 := by omega
    have hfq := frm_len hq0
    have hql : q.1.length ≤ 1088 := by rw [hqf]; exact hfq
    have HFL := Lib.hid (tyF_len s.y q0)
    have HY := Lib.hid hy
    clear hk hh1 hr1 hi1 hpl hbad h0 hrow hrd hlen hh hr9 hj hfr hqs hq hqo hqf hq0 hfq
    go_enter Try.func58, Try.ntmps58
    go_upto_region 10 with (first
      | (at_builtin; refine wpList_append_any _ rfl (.tmp 41) (.tmp 46) 31 rfl w.heap.size 37 i0 _ 1 24 Try.underlying31 hi hz0 hz1 hz2 rfl (by decide) (.slice none 0 0) 0 [] rfl (World.ownsRow_nil _ _ _ _) _ (some ⟨hg, ho, none⟩) j hc ((kB.flat k.hl).take j) rfl HFI.out (fun u hu => kB_one _ u (List.mem_of_mem_take hu)) (by simp only [maxLen]; omega) (by omega) (Nat.le_refl _) ?_; intro v5 w5 hr5 hg5 hv5; rw [Nat.zero_add, List.nil_append] at hr5; have HR5 := Lib.hid hr5; have HB5 : Hid (Below w.heap.size w w5) := Lib.hid ⟨hg5.os, hg5.tape, hg5.output, hg5.size, fun q hq => hg5.block q hq (by simp [Value.ownBlock])⟩; have z2 : w5.cell? ⟨k.gl, 2, none⟩ = some (.slice (some ⟨hg, ho, none⟩) k.hl.length hc) := (HB5.out.cell (p := ⟨k.gl, 2, none⟩) hlk).trans x2; obtain ⟨A5, c5, rfl, _, _⟩ := own_formL hr5; have hz5 : w.heap.size ≤ w5.heap.size := HB5.out.size; clear hr5 hg5 hv5)
      | (at_builtin; refine wpList_append_any _ rfl (.tmp 49) (.tmp 55) 31 rfl w.heap.size 37 i0 _ 1 24 Try.underlying31 hi hz0 hz1 hz2 rfl (by decide) (.slice A5 j c5) j ((kB.flat k.hl).take j) rfl HR5.out _ (if hc = j + 1 then some ⟨hg, ho, none⟩ else some ⟨hg, ho + (j + 1), none⟩) (k.hl.length - (j + 1)) (hc - (j + 1)) ((kB.flat k.hl).drop (j + 1)) rfl (HTL.out.below HB5.out) (fun u hu => kB_one _ u (List.mem_of_mem_drop hu)) (by simp only [maxLen]; omega) (by omega) hz5 ?_; intro v6 w6 hr6 hg6 hv6; have HB6 : Hid (Below w.heap.size w w6) := Lib.hid (HB5.out.trans_grown HR5.out hg6); have HP6 := Lib.hid (HK.out.dropH HB6.out hr6); have hb6 : Blk w6 k.gl 81 #[.pointer (some ⟨k.p.g, 0, none⟩), .pointer (some ⟨k.t.g, 0, none⟩), k.hv, k.rv, k.iv] := (HB6.out.block _ hlk).trans HK.out.lk; have y2 := hb6.frozen 2; have HLB6 := Lib.hid hb6; have y3 : w6.cell? ⟨k.gl, 2, none⟩ = some (.slice (some ⟨hg, ho, none⟩) k.hl.length hc) := (HB6.out.cell (p := ⟨k.gl, 2, none⟩) hlk).trans x2; obtain ⟨A6, c6, rfl, _, _⟩ := own_formL hr6; clear hr6 hg6 hv6 hb6))
    all_goals
      have hq8 : OwnB 5 (w6.setCell ⟨k.gl, 2, none⟩ (.slice A6 (j + (k.hl.length - (j + 1))) c6)) w0.heap.size (.slice q.2.1 q.1.length q.2.2) q.1 := OwnB.far (own_same HQO.out fun a ha => HB6.out.block a (World.ownsRow.lt HQO.out a ha).2) HLB6.out (by decide) 2 _
      have HQ8 := Lib.hid hq8
      have hk8 := HP6.out
      generalize w6.setCell ⟨k.gl, 2, none⟩ (.slice A6 (j + (k.hl.length - (j + 1))) c6) = w8 at hk8 HQ8
      have HK8 := Lib.hid hk8
      clear hk8 hq8 HP6 HLB6 HB6 HB5 HR5 HFI HTL HQO x2 xq z2 y2 y3
      obtain ⟨rA, rc, hrv, _, _⟩ := HK8.out.th.form
      have hrv' : k.rv = .slice rA k.rl.length rc := hrv
      have HRV := Lib.hid hrv'
      have x3 : w8.cell? ⟨k.gl, 3, none⟩ = some (.slice rA k.rl.length rc) := by rw [← hrv']; exact HK8.out.lk.cell 3
      have x4 : w8.cell? ⟨k.gl, 1, none⟩ = some (.pointer (some ⟨k.t.g, 0, none⟩)) := HK8.out.lk.cell 1
      have HWD : Hid (Below w8.heap.size w8 w8.drew) := Lib.hid ⟨rfl, rfl, rfl, Nat.le_refl _, fun _ _ => rfl⟩
      have HRD8 : Hid (RdB w8.drew w8.drew.heap.size q.2.1 q.1.length (frm q0)) := Lib.hid (HQF.out ▸ (Reads.of_own (own_same (w' := w8.drew) HQ8.out fun _ _ => rfl)))
      have HB8 : Hid (w0.heap.size ≤ w8.drew.heap.size) := Lib.hid HK8.out.old.size
      clear hrv hrv'
      go_upto_region 11 with fail
      refine wp_region_x (s := 14) (S := fun W => W.cell? ⟨k.gl, 3, none⟩ = some (.slice rA k.rl.length rc) ∧ W.cell? ⟨k.gl, 1, none⟩ = some (.pointer (some ⟨k.t.g, 0, none⟩))) (by kernel_rfl) ⟨x3, x4⟩ (fun hHeld => ?_)
      refine wpAnyX_take (i := 0) (v := ?_) (by simp only [List.getElem?_toArray, List.getElem?_cons_zero]; rfl) (by kernel_rfl) (by kernel_rfl) (by kernel_rfl) (by kernel_rfl) (by exact fun _ _ _ h => h) (Or.inl ⟨by rfl, ?_⟩) (by assumption) ?_
      rotate_left
      · intro w hSw; (try dsimp only at hSw); go_split_ands; go_simp <;> with_reducible rfl
      try simp only [Act.put, List.setIfInBounds_toArray, List.set_cons_zero, List.set_cons_succ]
      refine wpAnyX_take (i := 1) (v := ?_) (by simp only [List.getElem?_toArray, List.getElem?_cons_succ, List.getElem?_cons_zero]; rfl) (by kernel_rfl) (by kernel_rfl) (by kernel_rfl) (by kernel_rfl) (by exact fun _ _ _ h => h) (Or.inl ⟨by rfl, ?_⟩) (by assumption) ?_
      rotate_left
      · intro w hSw; (try dsimp only at hSw); go_split_ands; go_simp <;> with_reducible rfl
      try simp only [Act.put, List.setIfInBounds_toArray, List.set_cons_zero, List.set_cons_succ]
      refine wpAnyX_take (i := 2) (v := ?_) (by simp only [List.getElem?_toArray, List.getElem?_cons_succ, List.getElem?_cons_zero]; rfl) (by kernel_rfl) (by kernel_rfl) (by kernel_rfl) (by kernel_rfl) (by exact fun _ _ _ h => h) (Or.inl ⟨by rfl, ?_⟩) (by assumption) ?_
      rotate_left
      · intro w hSw; (try dsimp only at hSw); go_split_ands; go_simp <;> with_reducible rfl
      try simp only [Act.put, List.setIfInBounds_toArray, List.set_cons_zero, List.set_cons_succ]
      refine wpAnyX_take (i := 3) (v := ?_) (by simp only [List.getElem?_toArray, List.getElem?_cons_succ, List.getElem?_cons_zero]; rfl) (by kernel_rfl) (by kernel_rfl) (by kernel_rfl) (by kernel_rfl) (by exact fun _ _ _ h => h) (Or.inl ⟨by rfl, ?_⟩) (by assumption) ?_
      rotate_left
      · intro w hSw; (try dsimp only at hSw); go_split_ands; go_simp <;> with_reducible rfl
      try simp only [Act.put, List.setIfInBounds_toArray, List.set_cons_zero, List.set_cons_succ]
      refine wpAnyX_take (i := 4) (v := ?_) (by simp only [List.getElem?_toArray, List.getElem?_cons_succ, List.getElem?_cons_zero]; rfl) (by kernel_rfl) (by kernel_rfl) (by kernel_rfl) (by kernel_rfl) (by exact fun _ _ _ h => h) (Or.inl ⟨by rfl, ?_⟩) (by assumption) ?_
      rotate_left
      · intro w hSw; (try dsimp only at hSw); go_split_ands; go_simp <;> with_reducible rfl
      try simp only [Act.put, List.setIfInBounds_toArray, List.set_cons_zero, List.set_cons_succ]
      refine wpAnyX_take (i := 5) (v := ?_) (by simp only [List.getElem?_toArray, List.getElem?_cons_succ, List.getElem?_cons_zero]; rfl) (by kernel_rfl) (by kernel_rfl) (by kernel_rfl) (by kernel_rfl) (by exact fun _ _ _ h => h) (Or.inl ⟨by rfl, ?_⟩) (by assumption) ?_
      rotate_left
      · intro w hSw; (try dsimp only at hSw); go_split_ands; go_simp <;> with_reducible rfl
      try simp only [Act.put, List.setIfInBounds_toArray, List.set_cons_zero, List.set_cons_succ]
      refine wpAnyX_take (i := 6) (v := ?_) (by simp only [List.getElem?_toArray, List.getElem?_cons_succ, List.getElem?_cons_zero]; rfl) (by kernel_rfl) (by kernel_rfl) (by kernel_rfl) (by kernel_rfl) (by exact fun _ _ _ h => h) (Or.inl ⟨by rfl, ?_⟩) (by assumption) ?_
      rotate_left
      · intro w hSw; (try dsimp only at hSw); go_split_ands; go_simp <;> with_reducible rfl
      try simp only [Act.put, List.setIfInBounds_toArray, List.set_cons_zero, List.set_cons_succ]
      refine wpAnyX_take (i := 7) (v := ?_) (by simp only [List.getElem?_toArray, List.getElem?_cons_succ, List.getElem?_cons_zero]; rfl) (by kernel_rfl) (by kernel_rfl) (by kernel_rfl) (by kernel_rfl) (by exact fun _ _ _ h => h) (Or.inl ⟨by rfl, ?_⟩) (by assumption) ?_
      rotate_left
      · intro w hSw; (try dsimp only at hSw); go_split_ands; go_simp <;> with_reducible rfl
      try simp only [Act.put, List.setIfInBounds_toArray, List.set_cons_zero, List.set_cons_succ]
      refine wpAnyX_take (i := 8) (v := ?_) (by simp only [List.getElem?_toArray, List.getElem?_cons_succ, List.getElem?_cons_zero]; rfl) (by kernel_rfl) (by kernel_rfl) (by kernel_rfl) (by kernel_rfl) (by exact fun _ _ _ h => h) (Or.inl ⟨by rfl, ?_⟩) (by assumption) ?_
      rotate_left
      · intro w hSw; (try dsimp only at hSw); go_split_ands; go_simp <;> with_reducible rfl
      try simp only [Act.put, List.setIfInBounds_toArray, List.set_cons_zero, List.set_cons_succ]
      refine wpAnyX_take (i := 9) (v := ?_) (by simp only [List.getElem?_toArray, List.getElem?_cons_succ, List.getElem?_cons_zero]; rfl) (by kernel_rfl) (by kernel_rfl) (by kernel_rfl) (by kernel_rfl) (by exact fun _ _ _ h => h) (Or.inl ⟨by rfl, ?_⟩) (by assumption) ?_
      rotate_left
      · intro w hSw; (try dsimp only at hSw); go_split_ands; go_simp <;> with_reducible rfl
      try simp only [Act.put, List.setIfInBounds_toArray, List.set_cons_zero, List.set_cons_succ]
      refine wpAnyX_one (i := 10) (by kernel_rfl) (by simp only [List.getElem?_toArray, List.getElem?_cons_succ, List.getElem?_cons_zero]; rfl) (fun K2 hK2 => ?_)
      go_simp
      go_at_call 33
      refine (toy_any q0 q.2.1 q.1.length q.2.2 (HK8.out.ty.below HWD.out) HY.out hN HQ0.out HRD8.out).mono ?_
      rintro e w9 ⟨v9, l9, t9, rfl, hs, hr, hl, hap⟩
      obtain ⟨f9, hk9, hlow, hnew⟩ := (HK8.out.below HWD.out).stepT hs
      have HK9 := Lib.hid hk9
      have H79 : Hid (∀ a, (v9.ownBlock = some a ∨ kB.inB l9 a) → f9 a = 7) := Lib.hid fun a ha => hnew a (hr.lt ha).1 (hap a ha)
      have HR9 := Lib.hid hr
      have HL9 := Lib.hid hl
      have HG9 := Lib.hid hs.g
      have hl9 : l9.length ≤ 1 := by have h1 := congrArg List.length hl; rw [List.length_map, List.length_map] at h1; have h2 := HFL.out; omega
      obtain ⟨A9, c9, rfl, _, _⟩ := hr.form
      have hkc : w9.cell? ⟨k.gl, 3, none⟩ = some (.slice rA k.rl.length rc) := by have := hk9.lk.cell 3; rw [← HRV.out]; exact this
      have hkp : w9.cell? ⟨k.gl, 1, none⟩ = some (.pointer (some ⟨k.t.g, 0, none⟩)) := by have := hk9.lk.cell 1; rw [show _ = _ from this]; simp [HG9.out]
      have HRW : Hid (OwnO w9 w0.heap.size 37 1 (.slice rA k.rl.length rc) k.rl.length (kB.flat k.rl)) := Lib.hid (by rw [← HRV.out]; exact hk9.th.row)
      have hbs : w0.heap.size ≤ w9.heap.size := hk9.old.size
      clear hk9 hlow hnew hs hr hl hap
      try go_simp
      refine hK2.out _ _ (⟨hkc, hkp⟩) (fun hHeld => ?_)
      clear hK2 K2
      try simp only [Act.put, List.setIfInBounds_toArray, List.set_cons_zero, List.set_cons_succ]
      refine wpAnyX_one (i := 11) (by kernel_rfl) (by simp only [List.getElem?_toArray, List.getElem?_cons_succ, List.getElem?_cons_zero]; rfl) (fun K2 hK2 => ?_)
      (refine step_append_o _ rfl (.tmp 63) (.tmp 69) 31 rfl w0.heap.size 37 i0 _ 1 24 Try.underlying31 hi hz0 hz1 hz2 rfl (by decide) (.slice rA k.rl.length rc) k.rl.length (kB.flat k.rl) (by rfl) HRW.out _ A9 l9.length c9 (kB.flat l9) (by rfl) (Reads.of_own HR9.out.row) (kB_one _) (by simp only [maxLen]; omega) (by omega) hbs ?_)
      intro v10 w10 hr10 hg10 hv10
      rw [← HRV.out] at hg10 hv10
      have hb10 := HK9.out.lkR hg10
      have y4 := hb10.frozen 3
      have hkc' : w10.cell? ⟨k.gl, 3, none⟩ = some (.slice rA k.rl.length rc) := by have := hb10.cell 3; rw [← HRV.out]; exact this
      have hkp' : w10.cell? ⟨k.gl, 1, none⟩ = some (.pointer (some ⟨k.t.g, 0, none⟩)) := by have := hb10.cell 1; rw [show _ = _ from this]; simp [HG9.out]
      have HP10 := Lib.hid (HK9.out.pushR HR9.out HB8.out H79.out hr10 hg10 hv10)
      obtain ⟨A10, c10, rfl, _, _⟩ := hr10.form
      clear hr10 hg10 hv10 hb10
      refine hK2.out _ _ (⟨hkc', hkp'⟩) (fun hHeld => ?_)
      clear hK2 K2
      try simp only [Act.put, List.setIfInBounds_toArray, List.set_cons_zero, List.set_cons_succ]
      refine wpAnyX_one (i := 12) (by kernel_rfl) (by simp only [List.getElem?_toArray, List.getElem?_cons_succ, List.getElem?_cons_zero]; rfl) (fun K2 hK2 => ?_)
      go_simp
      refine hK2.out _ _ (hHeld) (fun hHeld => ?_)
      clear hK2 K2
      try simp only [Act.put, List.setIfInBounds_toArray, List.set_cons_zero, List.set_cons_succ]
      refine wpAnyX_one (i := 13) (by kernel_rfl) (by simp only [List.getElem?_toArray, List.getElem?_cons_succ, List.getElem?_cons_zero]; rfl) (fun K2 hK2 => ?_)
      go_simp
      refine hK2.out _ _ (hHeld) (fun hHeld => ?_)
      clear hK2 K2
      try simp only [Act.put, List.setIfInBounds_toArray, List.set_cons_zero, List.set_cons_succ]
      refine wpAnyX_last (by kernel_rfl) (by simp only [List.getElem?_toArray, List.getElem?_cons_succ, List.getElem?_cons_zero]; rfl) (fun K2 hK2 => ?_)
      go_simp
      refine hK2.out _ _ ?_
      clear hK2 K2
      try simp only [Act.put, List.setIfInBounds_toArray, List.set_cons_zero, List.set_cons_succ]
      refine wpAnyX_done (by kernel_rfl) ?_ _
      go_wp2_with fail
      all_goals refine Go.bodyPost_end (v := .tuple #[]) (by simp [results, Try.results58, go_sem]) rfl ⟨rfl, by rw [HPL.out]; exact LkS.toX HP10.out rfl rfl HG9.out (by omega) (by dsimp only; rw [List.map_append, List.map_take, List.map_drop, HH1.out]) (by dsimp only; rw [List.map_append, HR1.out, HL9.out]) HI1.out⟩
set_option maxRecDepth 20000 in
set_option maxHeartbeats 8000000 in
theorem larr_false_true {w0 w : World} {gl gc gt D N : Nat} {s : Pl} (i : Int) (h : LkX w0 gl gc gt s D w) (hh : s.h.length ≤ 1000) (hr9 : s.r.length ≤ 1000) (ok : s.c.Ok N) (hN : N ≤ 2199023255552) (hD : D ≤ 1152921504606846976) (hfr : ∀ b ∈ s.r, ∃ q, okPk q ∧ b = frm q) (hfl : ∀ b ∈ s.r, (recvF s.c b).1.length ≤ 16) :
    Calls Try.prog 58 #[.pointer (some ⟨gl, 0, none⟩), .bool false, .int .i64 i, .bool true] w (LinkP w0 gl gc gt (arrPl s false i true) (D + 2176)) := by
  obtain ⟨k, f, rfl, rfl, rfl, hk, hh1, hr1, hi1⟩ := h
  have HK := Lib.hid hk
  have HH1 := Lib.hid hh1
  have HR1 := Lib.hid hr1
  have HI1 := Lib.hid hi1
  obtain ⟨hA, hc, hhv, hcl, hcm⟩ := hk.th.form
  have hlen : k.rl.length = s.r.length := by have := congrArg List.length hr1; rw [List.length_map] at this; exact this
  have hlen2 : k.hl.length ≤ 1000 := by have := congrArg List.length hh1; rw [List.length_map] at this; omega
  have x2 : w.cell? ⟨k.gl, 3, none⟩ = some (.slice hA k.rl.length hc) := by rw [← hhv]; exact hk.lk.cell 3
  have hlk := hk.lk.lt
  obtain ⟨i0, hi, hz0, hz1, hz2⟩ := info_parts info37
  by_cases hbad : s.r = [] ∨ i < 0
  · have hpl : arrPl s false i true = s := by unfold arrPl; simp [hbad]
    have HPL := Lib.hid hpl
    have HT : Hid (LkX w0 k.gl k.p.g k.t.g s (D + 2176) w) := Lib.hid ⟨k, f, rfl, rfl, rfl, hk.more (by omega), hh1, hr1, hi1⟩
    clear hk hh1 hr1 hi1 hpl
    by_cases h0 : s.r = []
    · have hl0 : k.rl.length = 0 := by rw [hlen, h0]; rfl
      rw [hl0] at x2
      clear hbad h0 hl0 hhv hcl hlen hh hr9 hfr
      go_enter Try.func58, Try.ntmps58
      go_wp2
      refine Go.bodyPost_end (v := .tuple #[]) (by simp [results, Try.results58, go_sem]) rfl ⟨rfl, by rw [HPL.out]; exact HT.out⟩
    · have hi0 : i < 0 := hbad.resolve_left h0
      have hl0 : 0 < k.rl.length := by rw [hlen]; exact List.length_pos_iff.2 h0
      have t1 : ((k.rl.length : Int) == 0) = false := by rw [beq_eq_false_iff_ne]; omega
      clear hbad h0 hl0 hhv hcl hlen hh hr9 hfr
      go_enter Try.func58, Try.ntmps58
      go_wp2
      refine Go.bodyPost_end (v := .tuple #[]) (by simp [results, Try.results58, go_sem]) rfl ⟨rfl, by rw [HPL.out]; exact HT.out⟩
  · have h0 : ¬ s.r = [] := fun e => hbad (.inl e)
    obtain ⟨i, rfl⟩ := Int.eq_ofNat_of_zero_le (show 0 ≤ i by have : ¬ i < 0 := fun e => hbad (.inr e); omega)
    have hpos : 0 < k.rl.length := by rw [hlen]; exact List.length_pos_iff.2 h0
    obtain ⟨j, hj⟩ : ∃ j, i % k.rl.length = j := ⟨_, rfl⟩
    have hjl : j < k.rl.length := by rw [← hj]; exact Nat.mod_lt _ hpos
    obtain ⟨q, hq⟩ : ∃ q, k.rl[j]? = some q := ⟨_, List.getElem?_eq_getElem hjl⟩
    have hqs : s.r[j]? = some q.1 := by rw [← hr1, List.getElem?_map, hq]; rfl
    obtain ⟨q0, hq0, hqf⟩ := hfr q.1 (List.mem_of_getElem? hqs)
    have hpl : arrPl s false (i : Int) true = ⟨(recvF s.c (frm q0)).2, s.y, s.h ++ (recvF s.c (frm q0)).1.map frm, s.r, s.i⟩ := by
      have e1 : i % s.r.length = j := by rw [← hlen]; exact hj
      have e2 : s.r.getD j [] = frm q0 := by rw [List.getD_eq_getElem?_getD, hqs, ← hqf]; rfl
      have e3 : ((i : Int).toNat) = i := by simp
      unfold arrPl
      rw [if_neg (by decide), if_neg hbad, e3, e1, e2]
      
      rw [if_pos rfl]
    have HPL := Lib.hid hpl
    have hqo := hk.th.els q (List.mem_of_getElem? hq)
    have HQO : Hid (OwnB 5 w w0.heap.size (.slice q.2.1 q.1.length q.2.2) q.1) := Lib.hid hqo
    have HQF := Lib.hid hqf
    have HQ0 := Lib.hid hq0
    have hrow := hk.th.row
    rw [hhv] at hrow
    obtain ⟨hg, ho, rfl⟩ : ∃ hg ho, hA = some ⟨hg, ho, none⟩ := by
      rcases hrow.2 with ⟨_, e0⟩ | ⟨g, o, _, _, e0, _⟩
      · omega
      · injection e0 with e0 _ _
        exact ⟨g, o, e0⟩
    have xq : w.cell? ⟨hg, ho + j, none⟩ = some (.slice q.2.1 q.1.length q.2.2) := own_off hrow (by
      rw [flatB, List.getElem?_map, hq]
      rfl)
    have hrd : Reads w w.heap.size 1 (some ⟨hg, ho, none⟩) k.rl.length (kB.flat k.rl) := hrow.reads
    have HFI : Hid (Reads w w.heap.size 1 (some ⟨hg, ho, none⟩) j ((kB.flat k.rl).take j)) := Lib.hid (by have := Reads.firstK hrd (k := j) (by omega); rwa [Nat.mul_one] at this)
    have HTL : Hid (Reads w w.heap.size 1 (if hc = j + 1 then some ⟨hg, ho, none⟩ else some ⟨hg, ho + (j + 1), none⟩) (k.rl.length - (j + 1)) ((kB.flat k.rl).drop (j + 1))) := Lib.hid (by have := Reads.cut hrd (k := j + 1) (cap := hc) (by omega) (by omega); simpa [Addr.add] using this)
    have t1 : ((k.rl.length : Int) == 0) = false := by rw [beq_eq_false_iff_ne]; omega
    have t2 : ((i : Int).tmod (k.rl.length : Int)) = (j : Int) := by rw [Int.tmod_eq_emod_of_nonneg (by omega), ← hj]; rfl
    have t3 : (0 : Int) ≤ (j : Int) := by omega
    have t4 : (j : Int) ≤ (hc : Int) := by omega
    have t5 : (0 : Int) ≤ (j : Int) + 1 := by omega
    have t6 : (j : Int) + 1 ≤ (k.rl.length : Int) := by omega
    have t7 : (0 : Int) ≤ (i : Int) := by omega
    have t8 : (j : Int) < (k.rl.length : Int) := by omega
    have hhl : k.rl.length ≤ 1000 := by omega
    have hfq := frm_len hq0
    have hql : q.1.length ≤ 1088 := by rw [hqf]; exact hfq
    have HFL := Lib.hid (hfl q.1 (List.mem_of_getElem? hqs))
    have HOK := Lib.hid ok
    clear hk hh1 hr1 hi1 hpl hbad h0 hrow hrd hlen hh hr9 hj hfr hqs hq hqo hqf hq0 hfq
    go_enter Try.func58, Try.ntmps58
    go_upto_region 10 with fail
    all_goals
      have HK8 := HK
      have HQ8 := HQO
      clear HFI HTL HQO x2 xq
      generalize w = w8 at *
      obtain ⟨rA, rc, hrv, _, _⟩ := HK8.out.he.form
      have hrv' : k.hv = .slice rA k.hl.length rc := hrv
      have HRV := Lib.hid hrv'
      have x3 : w8.cell? ⟨k.gl, 2, none⟩ = some (.slice rA k.hl.length rc) := by rw [← hrv']; exact HK8.out.lk.cell 2
      have x4 : w8.cell? ⟨k.gl, 0, none⟩ = some (.pointer (some ⟨k.p.g, 0, none⟩)) := HK8.out.lk.cell 0
      have HWD : Hid (Below w8.heap.size w8 w8.drew) := Lib.hid ⟨rfl, rfl, rfl, Nat.le_refl _, fun _ _ => rfl⟩
      have HRD8 : Hid (RdB w8.drew w8.drew.heap.size q.2.1 q.1.length q.1) := Lib.hid ((Reads.of_own (own_same (w' := w8.drew) HQ8.out fun _ _ => rfl)))
      have HB8 : Hid (w0.heap.size ≤ w8.drew.heap.size) := Lib.hid HK8.out.old.size
      clear hrv hrv'
      go_upto_region 12 with fail
      refine wp_region_x (s := 14) (S := fun W => W.cell? ⟨k.gl, 2, none⟩ = some (.slice rA k.hl.length rc) ∧ W.cell? ⟨k.gl, 0, none⟩ = some (.pointer (some ⟨k.p.g, 0, none⟩))) (by kernel_rfl) ⟨x3, x4⟩ (fun hHeld => ?_)
      refine wpAnyX_take (i := 0) (v := ?_) (by simp only [List.getElem?_toArray, List.getElem?_cons_zero]; rfl) (by kernel_rfl) (by kernel_rfl) (by kernel_rfl) (by kernel_rfl) (by exact fun _ _ _ h => h) (Or.inl ⟨by rfl, ?_⟩) (by assumption) ?_
      rotate_left
      · intro w hSw; (try dsimp only at hSw); go_split_ands; go_simp <;> with_reducible rfl
      try simp only [Act.put, List.setIfInBounds_toArray, List.set_cons_zero, List.set_cons_succ]
      refine wpAnyX_take (i := 1) (v := ?_) (by simp only [List.getElem?_toArray, List.getElem?_cons_succ, List.getElem?_cons_zero]; rfl) (by kernel_rfl) (by kernel_rfl) (by kernel_rfl) (by kernel_rfl) (by exact fun _ _ _ h => h) (Or.inl ⟨by rfl, ?_⟩) (by assumption) ?_
      rotate_left
      · intro w hSw; (try dsimp only at hSw); go_split_ands; go_simp <;> with_reducible rfl
      try simp only [Act.put, List.setIfInBounds_toArray, List.set_cons_zero, List.set_cons_succ]
      refine wpAnyX_take (i := 2) (v := ?_) (by simp only [List.getElem?_toArray, List.getElem?_cons_succ, List.getElem?_cons_zero]; rfl) (by kernel_rfl) (by kernel_rfl) (by kernel_rfl) (by kernel_rfl) (by exact fun _ _ _ h => h) (Or.inl ⟨by rfl, ?_⟩) (by assumption) ?_
      rotate_left
      · intro w hSw; (try dsimp only at hSw); go_split_ands; go_simp <;> with_reducible rfl
      try simp only [Act.put, List.setIfInBounds_toArray, List.set_cons_zero, List.set_cons_succ]
      refine wpAnyX_take (i := 3) (v := ?_) (by simp only [List.getElem?_toArray, List.getElem?_cons_succ, List.getElem?_cons_zero]; rfl) (by kernel_rfl) (by kernel_rfl) (by kernel_rfl) (by kernel_rfl) (by exact fun _ _ _ h => h) (Or.inl ⟨by rfl, ?_⟩) (by assumption) ?_
      rotate_left
      · intro w hSw; (try dsimp only at hSw); go_split_ands; go_simp <;> with_reducible rfl
      try simp only [Act.put, List.setIfInBounds_toArray, List.set_cons_zero, List.set_cons_succ]
      refine wpAnyX_take (i := 4) (v := ?_) (by simp only [List.getElem?_toArray, List.getElem?_cons_succ, List.getElem?_cons_zero]; rfl) (by kernel_rfl) (by kernel_rfl) (by kernel_rfl) (by kernel_rfl) (by exact fun _ _ _ h => h) (Or.inl ⟨by rfl, ?_⟩) (by assumption) ?_
      rotate_left
      · intro w hSw; (try dsimp only at hSw); go_split_ands; go_simp <;> with_reducible rfl
      try simp only [Act.put, List.setIfInBounds_toArray, List.set_cons_zero, List.set_cons_succ]
      refine wpAnyX_take (i := 5) (v := ?_) (by simp only [List.getElem?_toArray, List.getElem?_cons_succ, List.getElem?_cons_zero]; rfl) (by kernel_rfl) (by kernel_rfl) (by kernel_rfl) (by kernel_rfl) (by exact fun _ _ _ h => h) (Or.inl ⟨by rfl, ?_⟩) (by assumption) ?_
      rotate_left
      · intro w hSw; (try dsimp only at hSw); go_split_ands; go_simp <;> with_reducible rfl
      try simp only [Act.put, List.setIfInBounds_toArray, List.set_cons_zero, List.set_cons_succ]
      refine wpAnyX_take (i := 6) (v := ?_) (by simp only [List.getElem?_toArray, List.getElem?_cons_succ, List.getElem?_cons_zero]; rfl) (by kernel_rfl) (by kernel_rfl) (by kernel_rfl) (by kernel_rfl) (by exact fun _ _ _ h => h) (Or.inl ⟨by rfl, ?_⟩) (by assumption) ?_
      rotate_left
      · intro w hSw; (try dsimp only at hSw); go_split_ands; go_simp <;> with_reducible rfl
      try simp only [Act.put, List.setIfInBounds_toArray, List.set_cons_zero, List.set_cons_succ]
      refine wpAnyX_take (i := 7) (v := ?_) (by simp only [List.getElem?_toArray, List.getElem?_cons_succ, List.getElem?_cons_zero]; rfl) (by kernel_rfl) (by kernel_rfl) (by kernel_rfl) (by kernel_rfl) (by exact fun _ _ _ h => h) (Or.inl ⟨by rfl, ?_⟩) (by assumption) ?_
      rotate_left
      · intro w hSw; (try dsimp only at hSw); go_split_ands; go_simp <;> with_reducible rfl
      try simp only [Act.put, List.setIfInBounds_toArray, List.set_cons_zero, List.set_cons_succ]
      refine wpAnyX_take (i := 8) (v := ?_) (by simp only [List.getElem?_toArray, List.getElem?_cons_succ, List.getElem?_cons_zero]; rfl) (by kernel_rfl) (by kernel_rfl) (by kernel_rfl) (by kernel_rfl) (by exact fun _ _ _ h => h) (Or.inl ⟨by rfl, ?_⟩) (by assumption) ?_
      rotate_left
      · intro w hSw; (try dsimp only at hSw); go_split_ands; go_simp <;> with_reducible rfl
      try simp only [Act.put, List.setIfInBounds_toArray, List.set_cons_zero, List.set_cons_succ]
      refine wpAnyX_take (i := 9) (v := ?_) (by simp only [List.getElem?_toArray, List.getElem?_cons_succ, List.getElem?_cons_zero]; rfl) (by kernel_rfl) (by kernel_rfl) (by kernel_rfl) (by kernel_rfl) (by exact fun _ _ _ h => h) (Or.inl ⟨by rfl, ?_⟩) (by assumption) ?_
      rotate_left
      · intro w hSw; (try dsimp only at hSw); go_split_ands; go_simp <;> with_reducible rfl
      try simp only [Act.put, List.setIfInBounds_toArray, List.set_cons_zero, List.set_cons_succ]
      refine wpAnyX_one (i := 10) (by kernel_rfl) (by simp only [List.getElem?_toArray, List.getElem?_cons_succ, List.getElem?_cons_zero]; rfl) (fun K2 hK2 => ?_)
      go_simp
      go_at_call 22
      refine (receive_any q.2.1 q.1.length q.2.2 q.1 (HK8.out.below HWD.out).ca HOK.out hN HRD8.out (by omega) (by have := HK8.out.d; omega)).mono ?_
      rintro e w9 ⟨v9, l9, p9, rfl, hs, hf⟩
      obtain ⟨f9, hk9, hlow, hnew⟩ := (HK8.out.below HWD.out).stepC hs
      have HK9 := Lib.hid hk9
      have H79 : Hid (∀ a, (v9.ownBlock = some a ∨ kB.inB l9 a) → f9 a = 7) := Lib.hid fun a ha => hnew a (hf.row.lt ha).1 (hf.ap a ha)
      have HR9 := Lib.hid hf.row
      have HL9 := Lib.hid hf.is
      have HG9 := Lib.hid hs.g
      have hl9 : l9.length ≤ 16 := by have h1 := congrArg List.length hf.is; rw [List.length_map, List.length_map] at h1; have h2 := HFL.out; omega
      obtain ⟨A9, c9, rfl, _, _⟩ := hf.row.form
      have hkc : w9.cell? ⟨k.gl, 2, none⟩ = some (.slice rA k.hl.length rc) := by have := hk9.lk.cell 2; rw [← HRV.out]; exact this
      have hkp : w9.cell? ⟨k.gl, 0, none⟩ = some (.pointer (some ⟨k.p.g, 0, none⟩)) := by have := hk9.lk.cell 0; rw [show _ = _ from this]; simp [HG9.out]
      have HRW : Hid (OwnO w9 w0.heap.size 37 1 (.slice rA k.hl.length rc) k.hl.length (kB.flat k.hl)) := Lib.hid (by rw [← HRV.out]; exact hk9.he.row)
      have hbs : w0.heap.size ≤ w9.heap.size := hk9.old.size
      clear hk9 hlow hnew hs hf
      try go_simp
      refine hK2.out _ _ (⟨hkc, hkp⟩) (fun hHeld => ?_)
      clear hK2 K2
      try simp only [Act.put, List.setIfInBounds_toArray, List.set_cons_zero, List.set_cons_succ]
      refine wpAnyX_one (i := 11) (by kernel_rfl) (by simp only [List.getElem?_toArray, List.getElem?_cons_succ, List.getElem?_cons_zero]; rfl) (fun K2 hK2 => ?_)
      (refine step_append_o _ rfl (.tmp 77) (.tmp 83) 31 rfl w0.heap.size 37 i0 _ 1 24 Try.underlying31 hi hz0 hz1 hz2 rfl (by decide) (.slice rA k.hl.length rc) k.hl.length (kB.flat k.hl) (by rfl) HRW.out _ A9 l9.length c9 (kB.flat l9) (by rfl) (Reads.of_own HR9.out.row) (kB_one _) (by simp only [maxLen]; omega) (by omega) hbs ?_)
      intro v10 w10 hr10 hg10 hv10
      rw [← HRV.out] at hg10 hv10
      have hb10 := HK9.out.lkH hg10
      have y4 := hb10.frozen 2
      have hkc' : w10.cell? ⟨k.gl, 2, none⟩ = some (.slice rA k.hl.length rc) := by have := hb10.cell 2; rw [← HRV.out]; exact this
      have hkp' : w10.cell? ⟨k.gl, 0, none⟩ = some (.pointer (some ⟨k.p.g, 0, none⟩)) := by have := hb10.cell 0; rw [show _ = _ from this]; simp [HG9.out]
      have HP10 := Lib.hid (HK9.out.pushH HR9.out HB8.out H79.out hr10 hg10 hv10)
      obtain ⟨A10, c10, rfl, _, _⟩ := hr10.form
      clear hr10 hg10 hv10 hb10
      refine hK2.out _ _ (⟨hkc', hkp'⟩) (fun hHeld => ?_)
      clear hK2 K2
      try simp only [Act.put, List.setIfInBounds_toArray, List.set_cons_zero, List.set_cons_succ]
      refine wpAnyX_one (i := 12) (by kernel_rfl) (by simp only [List.getElem?_toArray, List.getElem?_cons_succ, List.getElem?_cons_zero]; rfl) (fun K2 hK2 => ?_)
      go_simp
      refine hK2.out _ _ (hHeld) (fun hHeld => ?_)
      clear hK2 K2
      try simp only [Act.put, List.setIfInBounds_toArray, List.set_cons_zero, List.set_cons_succ]
      refine wpAnyX_one (i := 13) (by kernel_rfl) (by simp only [List.getElem?_toArray, List.getElem?_cons_succ, List.getElem?_cons_zero]; rfl) (fun K2 hK2 => ?_)
      go_simp
      refine hK2.out _ _ (hHeld) (fun hHeld => ?_)
      clear hK2 K2
      try simp only [Act.put, List.setIfInBounds_toArray, List.set_cons_zero, List.set_cons_succ]
      refine wpAnyX_last (by kernel_rfl) (by simp only [List.getElem?_toArray, List.getElem?_cons_succ, List.getElem?_cons_zero]; rfl) (fun K2 hK2 => ?_)
      go_simp
      refine hK2.out _ _ ?_
      clear hK2 K2
      try simp only [Act.put, List.setIfInBounds_toArray, List.set_cons_zero, List.set_cons_succ]
      refine wpAnyX_done (by kernel_rfl) ?_ _
      go_wp2_with fail
      all_goals refine Go.bodyPost_end (v := .tuple #[]) (by simp [results, Try.results58, go_sem]) rfl ⟨rfl, by rw [HPL.out]; have hp10 := HP10.out; have hfq : (frm q0).length ≤ 1088 := (by rw [← HQF.out]; exact hql); rw [HQF.out] at hp10; exact LkS.toX hp10 rfl HG9.out rfl (by omega) (by dsimp only; rw [List.map_append, HH1.out, HL9.out, HQF.out]) HR1.out HI1.out⟩
set_option maxRecDepth 20000 in
set_option maxHeartbeats 8000000 in
theorem larr_false_false {w0 w : World} {gl gc gt D N : Nat} {s : Pl} (i : Int) (h : LkX w0 gl gc gt s D w) (hh : s.h.length ≤ 1000) (hr9 : s.r.length ≤ 1000) (ok : s.c.Ok N) (hN : N ≤ 2199023255552) (hD : D ≤ 1152921504606846976) (hfr : ∀ b ∈ s.r, ∃ q, okPk q ∧ b = frm q) (hfl : ∀ b ∈ s.r, (recvF s.c b).1.length ≤ 16) :
    Calls Try.prog 58 #[.pointer (some ⟨gl, 0, none⟩), .bool false, .int .i64 i, .bool false] w (LinkP w0 gl gc gt (arrPl s false i false) (D + 2176)) := by
  obtain ⟨k, f, rfl, rfl, rfl, hk, hh1, hr1, hi1⟩ := h
  have HK := Lib.hid hk
  have HH1 := Lib.hid hh1
  have HR1 := Lib.hid hr1
  have HI1 := Lib.hid hi1
  obtain ⟨hA, hc, hhv, hcl, hcm⟩ := hk.th.form
  have hlen : k.rl.length = s.r.length := by have := congrArg List.length hr1; rw [List.length_map] at this; exact this
  have hlen2 : k.hl.length ≤ 1000 := by have := congrArg List.length hh1; rw [List.length_map] at this; omega
  have x2 : w.cell? ⟨k.gl, 3, none⟩ = some (.slice hA k.rl.length hc) := by rw [← hhv]; exact hk.lk.cell 3
  have hlk := hk.lk.lt
  obtain ⟨i0, hi, hz0, hz1, hz2⟩ := info_parts info37
  by_cases hbad : s.r = [] ∨ i < 0
  · have hpl : arrPl s false i false = s := by unfold arrPl; simp [hbad]
    have HPL := Lib.hid hpl
    have HT : Hid (LkX w0 k.gl k.p.g k.t.g s (D + 2176) w) := Lib.hid ⟨k, f, rfl, rfl, rfl, hk.more (by omega), hh1, hr1, hi1⟩
    clear hk hh1 hr1 hi1 hpl
    by_cases h0 : s.r = []
    · have hl0 : k.rl.length = 0 := by rw [hlen, h0]; rfl
      rw [hl0] at x2
      clear hbad h0 hl0 hhv hcl hlen hh hr9 hfr
      go_enter Try.func58, Try.ntmps58
      go_wp2
      refine Go.bodyPost_end (v := .tuple #[]) (by simp [results, Try.results58, go_sem]) rfl ⟨rfl, by rw [HPL.out]; exact HT.out⟩
    · have hi0 : i < 0 := hbad.resolve_left h0
      have hl0 : 0 < k.rl.length := by rw [hlen]; exact List.length_pos_iff.2 h0
      have t1 : ((k.rl.length : Int) == 0) = false := by rw [beq_eq_false_iff_ne]; omega
      clear hbad h0 hl0 hhv hcl hlen hh hr9 hfr
      go_enter Try.func58, Try.ntmps58
      go_wp2
      refine Go.bodyPost_end (v := .tuple #[]) (by simp [results, Try.results58, go_sem]) rfl ⟨rfl, by rw [HPL.out]; exact HT.out⟩
  · have h0 : ¬ s.r = [] := fun e => hbad (.inl e)
    obtain ⟨i, rfl⟩ := Int.eq_ofNat_of_zero_le (show 0 ≤ i by have : ¬ i < 0 := fun e => hbad (.inr e); omega)
    have hpos : 0 < k.rl.length := by rw [hlen]; exact List.length_pos_iff.2 h0
    obtain ⟨j, hj⟩ : ∃ j, i % k.rl.length = j := ⟨_, rfl⟩
    have hjl : j < k.rl.length := by rw [← hj]; exact Nat.mod_lt _ hpos
    obtain ⟨q, hq⟩ : ∃ q, k.rl[j]? = some q := ⟨_, List.getElem?_eq_getElem hjl⟩
    have hqs : s.r[j]? = some q.1 := by rw [← hr1, List.getElem?_map, hq]; rfl
    obtain ⟨q0, hq0, hqf⟩ := hfr q.1 (List.mem_of_getElem? hqs)
    have hpl : arrPl s false (i : Int) false = ⟨(recvF s.c (frm q0)).2, s.y, s.h ++ (recvF s.c (frm q0)).1.map frm, s.r.take j ++ s.r.drop (j + 1), s.i⟩ := by
      have e1 : i % s.r.length = j := by rw [← hlen]; exact hj
      have e2 : s.r.getD j [] = frm q0 := by rw [List.getD_eq_getElem?_getD, hqs, ← hqf]; rfl
      have e3 : ((i : Int).toNat) = i := by simp
      unfold arrPl
      rw [if_neg (by decide), if_neg hbad, e3, e1, e2]
      unfold dropPl; rw [if_neg hbad, e3, e1]
      rfl
    have HPL := Lib.hid hpl
    have hqo := hk.th.els q (List.mem_of_getElem? hq)
    have HQO : Hid (OwnB 5 w w0.heap.size (.slice q.2.1 q.1.length q.2.2) q.1) := Lib.hid hqo
    have HQF := Lib.hid hqf
    have HQ0 := Lib.hid hq0
    have hrow := hk.th.row
    rw [hhv] at hrow
    obtain ⟨hg, ho, rfl⟩ : ∃ hg ho, hA = some ⟨hg, ho, none⟩ := by
      rcases hrow.2 with ⟨_, e0⟩ | ⟨g, o, _, _, e0, _⟩
      · omega
      · injection e0 with e0 _ _
        exact ⟨g, o, e0⟩
    have xq : w.cell? ⟨hg, ho + j, none⟩ = some (.slice q.2.1 q.1.length q.2.2) := own_off hrow (by
      rw [flatB, List.getElem?_map, hq]
      rfl)
    have hrd : Reads w w.heap.size 1 (some ⟨hg, ho, none⟩) k.rl.length (kB.flat k.rl) := hrow.reads
    have HFI : Hid (Reads w w.heap.size 1 (some ⟨hg, ho, none⟩) j ((kB.flat k.rl).take j)) := Lib.hid (by have := Reads.firstK hrd (k := j) (by omega); rwa [Nat.mul_one] at this)
    have HTL : Hid (Reads w w.heap.size 1 (if hc = j + 1 then some ⟨hg, ho, none⟩ else some ⟨hg, ho + (j + 1), none⟩) (k.rl.length - (j + 1)) ((kB.flat k.rl).drop (j + 1))) := Lib.hid (by have := Reads.cut hrd (k := j + 1) (cap := hc) (by omega) (by omega); simpa [Addr.add] using this)
    have t1 : ((k.rl.length : Int) == 0) = false := by rw [beq_eq_false_iff_ne]; omega
    have t2 : ((i : Int).tmod (k.rl.length : Int)) = (j : Int) := by rw [Int.tmod_eq_emod_of_nonneg (by omega), ← hj]; rfl
    have t3 : (0 : Int) ≤ (j : Int) := by omega
    have t4 : (j : Int) ≤ (hc : Int) := by omega
    have t5 : (0 : Int) ≤ (j : Int) + 1 := by omega
    have t6 : (j : Int) + 1 ≤ (k.rl.length : Int) := by omega
    have t7 : (0 : Int) ≤ (i : Int) := by omega
    have t8 : (j : Int) < (k.rl.length : Int) := by omega
    have hhl : k.rl.length ≤ 1000 := by omega
    have hfq := frm_len hq0
    have hql : q.1.length ≤ 1088 := by rw [hqf]; exact hfq
    have HFL := Lib.hid (hfl q.1 (List.mem_of_getElem? hqs))
    have HOK := Lib.hid ok
    clear hk hh1 hr1 hi1 hpl hbad h0 hrow hrd hlen hh hr9 hj hfr hqs hq hqo hqf hq0 hfq
    go_enter Try.func58, Try.ntmps58
    go_upto_region 10 with (first
      | (at_builtin; refine wpList_append_any _ rfl (.tmp 41) (.tmp 46) 31 rfl w.heap.size 37 i0 _ 1 24 Try.underlying31 hi hz0 hz1 hz2 rfl (by decide) (.slice none 0 0) 0 [] rfl (World.ownsRow_nil _ _ _ _) _ (some ⟨hg, ho, none⟩) j hc ((kB.flat k.rl).take j) rfl HFI.out (fun u hu => kB_one _ u (List.mem_of_mem_take hu)) (by simp only [maxLen]; omega) (by omega) (Nat.le_refl _) ?_; intro v5 w5 hr5 hg5 hv5; rw [Nat.zero_add, List.nil_append] at hr5; have HR5 := Lib.hid hr5; have HB5 : Hid (Below w.heap.size w w5) := Lib.hid ⟨hg5.os, hg5.tape, hg5.output, hg5.size, fun q hq => hg5.block q hq (by simp [Value.ownBlock])⟩; have z2 : w5.cell? ⟨k.gl, 3, none⟩ = some (.slice (some ⟨hg, ho, none⟩) k.rl.length hc) := (HB5.out.cell (p := ⟨k.gl, 3, none⟩) hlk).trans x2; obtain ⟨A5, c5, rfl, _, _⟩ := own_formL hr5; have hz5 : w.heap.size ≤ w5.heap.size := HB5.out.size; clear hr5 hg5 hv5)
      | (at_builtin; refine wpList_append_any _ rfl (.tmp 49) (.tmp 55) 31 rfl w.heap.size 37 i0 _ 1 24 Try.underlying31 hi hz0 hz1 hz2 rfl (by decide) (.slice A5 j c5) j ((kB.flat k.rl).take j) rfl HR5.out _ (if hc = j + 1 then some ⟨hg, ho, none⟩ else some ⟨hg, ho + (j + 1), none⟩) (k.rl.length - (j + 1)) (hc - (j + 1)) ((kB.flat k.rl).drop (j + 1)) rfl (HTL.out.below HB5.out) (fun u hu => kB_one _ u (List.mem_of_mem_drop hu)) (by simp only [maxLen]; omega) (by omega) hz5 ?_; intro v6 w6 hr6 hg6 hv6; have HB6 : Hid (Below w.heap.size w w6) := Lib.hid (HB5.out.trans_grown HR5.out hg6); have HP6 := Lib.hid (HK.out.dropR HB6.out hr6); have hb6 : Blk w6 k.gl 81 #[.pointer (some ⟨k.p.g, 0, none⟩), .pointer (some ⟨k.t.g, 0, none⟩), k.hv, k.rv, k.iv] := (HB6.out.block _ hlk).trans HK.out.lk; have y2 := hb6.frozen 3; have HLB6 := Lib.hid hb6; have y3 : w6.cell? ⟨k.gl, 3, none⟩ = some (.slice (some ⟨hg, ho, none⟩) k.rl.length hc) := (HB6.out.cell (p := ⟨k.gl, 3, none⟩) hlk).trans x2; obtain ⟨A6, c6, rfl, _, _⟩ := own_formL hr6; clear hr6 hg6 hv6 hb6))
    all_goals
      have hq8 : OwnB 5 (w6.setCell ⟨k.gl, 3, none⟩ (.slice A6 (j + (k.rl.length - (j + 1))) c6)) w0.heap.size (.slice q.2.1 q.1.length q.2.2) q.1 := OwnB.far (own_same HQO.out fun a ha => HB6.out.block a (World.ownsRow.lt HQO.out a ha).2) HLB6.out (by decide) 3 _
      have HQ8 := Lib.hid hq8
      have hk8 := HP6.out
      generalize w6.setCell ⟨k.gl, 3, none⟩ (.slice A6 (j + (k.rl.length - (j + 1))) c6) = w8 at hk8 HQ8
      have HK8 := Lib.hid hk8
      clear hk8 hq8 HP6 HLB6 HB6 HB5 HR5 HFI HTL HQO x2 xq z2 y2 y3
      obtain ⟨rA, rc, hrv, _, _⟩ := HK8.out.he.form
      have hrv' : k.hv = .slice rA k.hl.length rc := hrv
      have HRV := Lib.hid hrv'
      have x3 : w8.cell? ⟨k.gl, 2, none⟩ = some (.slice rA k.hl.length rc) := by rw [← hrv']; exact HK8.out.lk.cell 2
      have x4 : w8.cell? ⟨k.gl, 0, none⟩ = some (.pointer (some ⟨k.p.g, 0, none⟩)) := HK8.out.lk.cell 0
      have HWD : Hid (Below w8.heap.size w8 w8.drew) := Lib.hid ⟨rfl, rfl, rfl, Nat.le_refl _, fun _ _ => rfl⟩
      have HRD8 : Hid (RdB w8.drew w8.drew.heap.size q.2.1 q.1.length q.1) := Lib.hid ((Reads.of_own (own_same (w' := w8.drew) HQ8.out fun _ _ => rfl)))
      have HB8 : Hid (w0.heap.size ≤ w8.drew.heap.size) := Lib.hid HK8.out.old.size
      clear hrv hrv'
      go_upto_region 12 with fail
      refine wp_region_x (s := 14) (S := fun W => W.cell? ⟨k.gl, 2, none⟩ = some (.slice rA k.hl.length rc) ∧ W.cell? ⟨k.gl, 0, none⟩ = some (.pointer (some ⟨k.p.g, 0, none⟩))) (by kernel_rfl) ⟨x3, x4⟩ (fun hHeld => ?_)
      refine wpAnyX_take (i := 0) (v := ?_) (by simp only [List.getElem?_toArray, List.getElem?_cons_zero]; rfl) (by kernel_rfl) (by kernel_rfl) (by kernel_rfl) (by kernel_rfl) (by exact fun _ _ _ h => h) (Or.inl ⟨by rfl, ?_⟩) (by assumption) ?_
      rotate_left
      · intro w hSw; (try dsimp only at hSw); go_split_ands; go_simp <;> with_reducible rfl
      try simp only [Act.put, List.setIfInBounds_toArray, List.set_cons_zero, List.set_cons_succ]
      refine wpAnyX_take (i := 1) (v := ?_) (by simp only [List.getElem?_toArray, List.getElem?_cons_succ, List.getElem?_cons_zero]; rfl) (by kernel_rfl) (by kernel_rfl) (by kernel_rfl) (by kernel_rfl) (by exact fun _ _ _ h => h) (Or.inl ⟨by rfl, ?_⟩) (by assumption) ?_
      rotate_left
      · intro w hSw; (try dsimp only at hSw); go_split_ands; go_simp <;> with_reducible rfl
      try simp only [Act.put, List.setIfInBounds_toArray, List.set_cons_zero, List.set_cons_succ]
      refine wpAnyX_take (i := 2) (v := ?_) (by simp only [List.getElem?_toArray, List.getElem?_cons_succ, List.getElem?_cons_zero]; rfl) (by kernel_rfl) (by kernel_rfl) (by kernel_rfl) (by kernel_rfl) (by exact fun _ _ _ h => h) (Or.inl ⟨by rfl, ?_⟩) (by assumption) ?_
      rotate_left
      · intro w hSw; (try dsimp only at hSw); go_split_ands; go_simp <;> with_reducible rfl
      try simp only [Act.put, List.setIfInBounds_toArray, List.set_cons_zero, List.set_cons_succ]
      refine wpAnyX_take (i := 3) (v := ?_) (by simp only [List.getElem?_toArray, List.getElem?_cons_succ, List.getElem?_cons_zero]; rfl) (by kernel_rfl) (by kernel_rfl) (by kernel_rfl) (by kernel_rfl) (by exact fun _ _ _ h => h) (Or.inl ⟨by rfl, ?_⟩) (by assumption) ?_
      rotate_left
      · intro w hSw; (try dsimp only at hSw); go_split_ands; go_simp <;> with_reducible rfl
      try simp only [Act.put, List.setIfInBounds_toArray, List.set_cons_zero, List.set_cons_succ]
      refine wpAnyX_take (i := 4) (v := ?_) (by simp only [List.getElem?_toArray, List.getElem?_cons_succ, List.getElem?_cons_zero]; rfl) (by kernel_rfl) (by kernel_rfl) (by kernel_rfl) (by kernel_rfl) (by exact fun _ _ _ h => h) (Or.inl ⟨by rfl, ?_⟩) (by assumption) ?_
      rotate_left
      · intro w hSw; (try dsimp only at hSw); go_split_ands; go_simp <;> with_reducible rfl
      try simp only [Act.put, List.setIfInBounds_toArray, List.set_cons_zero, List.set_cons_succ]
      refine wpAnyX_take (i := 5) (v := ?_) (by simp only [List.getElem?_toArray, List.getElem?_cons_succ, List.getElem?_cons_zero]; rfl) (by kernel_rfl) (by kernel_rfl) (by kernel_rfl) (by kernel_rfl) (by exact fun _ _ _ h => h) (Or.inl ⟨by rfl, ?_⟩) (by assumption) ?_
      rotate_left
      · intro w hSw; (try dsimp only at hSw); go_split_ands; go_simp <;> with_reducible rfl
      try simp only [Act.put, List.setIfInBounds_toArray, List.set_cons_zero, List.set_cons_succ]
      refine wpAnyX_take (i := 6) (v := ?_) (by simp only [List.getElem?_toArray, List.getElem?_cons_succ, List.getElem?_cons_zero]; rfl) (by kernel_rfl) (by kernel_rfl) (by kernel_rfl) (by kernel_rfl) (by exact fun _ _ _ h => h) (Or.inl ⟨by rfl, ?_⟩) (by assumption) ?_
      rotate_left
      · intro w hSw; (try dsimp only at hSw); go_split_ands; go_simp <;> with_reducible rfl
      try simp only [Act.put, List.setIfInBounds_toArray, List.set_cons_zero, List.set_cons_succ]
      refine wpAnyX_take (i := 7) (v := ?_) (by simp only [List.getElem?_toArray, List.getElem?_cons_succ, List.getElem?_cons_zero]; rfl) (by kernel_rfl) (by kernel_rfl) (by kernel_rfl) (by kernel_rfl) (by exact fun _ _ _ h => h) (Or.inl ⟨by rfl, ?_⟩) (by assumption) ?_
      rotate_left
      · intro w hSw; (try dsimp only at hSw); go_split_ands; go_simp <;> with_reducible rfl
      try simp only [Act.put, List.setIfInBounds_toArray, List.set_cons_zero, List.set_cons_succ]
      refine wpAnyX_take (i := 8) (v := ?_) (by simp only [List.getElem?_toArray, List.getElem?_cons_succ, List.getElem?_cons_zero]; rfl) (by kernel_rfl) (by kernel_rfl) (by kernel_rfl) (by kernel_rfl) (by exact fun _ _ _ h => h) (Or.inl ⟨by rfl, ?_⟩) (by assumption) ?_
      rotate_left
      · intro w hSw; (try dsimp only at hSw); go_split_ands; go_simp <;> with_reducible rfl
      try simp only [Act.put, List.setIfInBounds_toArray, List.set_cons_zero, List.set_cons_succ]
      refine wpAnyX_take (i := 9) (v := ?_) (by simp only [List.getElem?_toArray, List.getElem?_cons_succ, List.getElem?_cons_zero]; rfl) (by kernel_rfl) (by kernel_rfl) (by kernel_rfl) (by kernel_rfl) (by exact fun _ _ _ h => h) (Or.inl ⟨by rfl, ?_⟩) (by assumption) ?_
      rotate_left
      · intro w hSw; (try dsimp only at hSw); go_split_ands; go_simp <;> with_reducible rfl
      try simp only [Act.put, List.setIfInBounds_toArray, List.set_cons_zero, List.set_cons_succ]
      refine wpAnyX_one (i := 10) (by kernel_rfl) (by simp only [List.getElem?_toArray, List.getElem?_cons_succ, List.getElem?_cons_zero]; rfl) (fun K2 hK2 => ?_)
      go_simp
      go_at_call 22
      refine (receive_any q.2.1 q.1.length q.2.2 q.1 (HK8.out.below HWD.out).ca HOK.out hN HRD8.out (by omega) (by have := HK8.out.d; omega)).mono ?_
      rintro e w9 ⟨v9, l9, p9, rfl, hs, hf⟩
      obtain ⟨f9, hk9, hlow, hnew⟩ := (HK8.out.below HWD.out).stepC hs
      have HK9 := Lib.hid hk9
      have H79 : Hid (∀ a, (v9.ownBlock = some a ∨ kB.inB l9 a) → f9 a = 7) := Lib.hid fun a ha => hnew a (hf.row.lt ha).1 (hf.ap a ha)
      have HR9 := Lib.hid hf.row
      have HL9 := Lib.hid hf.is
      have HG9 := Lib.hid hs.g
      have hl9 : l9.length ≤ 16 := by have h1 := congrArg List.length hf.is; rw [List.length_map, List.length_map] at h1; have h2 := HFL.out; omega
      obtain ⟨A9, c9, rfl, _, _⟩ := hf.row.form
      have hkc : w9.cell? ⟨k.gl, 2, none⟩ = some (.slice rA k.hl.length rc) := by have := hk9.lk.cell 2; rw [← HRV.out]; exact this
      have hkp : w9.cell? ⟨k.gl, 0, none⟩ = some (.pointer (some ⟨k.p.g, 0, none⟩)) := by have := hk9.lk.cell 0; rw [show _ = _ from this]; simp [HG9.out]
      have HRW : Hid (OwnO w9 w0.heap.size 37 1 (.slice rA k.hl.length rc) k.hl.length (kB.flat k.hl)) := Lib.hid (by rw [← HRV.out]; exact hk9.he.row)
      have hbs : w0.heap.size ≤ w9.heap.size := hk9.old.size
      clear hk9 hlow hnew hs hf
      try go_simp
      refine hK2.out _ _ (⟨hkc, hkp⟩) (fun hHeld => ?_)
      clear hK2 K2
      try simp only [Act.put, List.setIfInBounds_toArray, List.set_cons_zero, List.set_cons_succ]
      refine wpAnyX_one (i := 11) (by kernel_rfl) (by simp only [List.getElem?_toArray, List.getElem?_cons_succ, List.getElem?_cons_zero]; rfl) (fun K2 hK2 => ?_)
      (refine step_append_o _ rfl (.tmp 77) (.tmp 83) 31 rfl w0.heap.size 37 i0 _ 1 24 Try.underlying31 hi hz0 hz1 hz2 rfl (by decide) (.slice rA k.hl.length rc) k.hl.length (kB.flat k.hl) (by rfl) HRW.out _ A9 l9.length c9 (kB.flat l9) (by rfl) (Reads.of_own HR9.out.row) (kB_one _) (by simp only [maxLen]; omega) (by omega) hbs ?_)
      intro v10 w10 hr10 hg10 hv10
      rw [← HRV.out] at hg10 hv10
      have hb10 := HK9.out.lkH hg10
      have y4 := hb10.frozen 2
      have hkc' : w10.cell? ⟨k.gl, 2, none⟩ = some (.slice rA k.hl.length rc) := by have := hb10.cell 2; rw [← HRV.out]; exact this
      have hkp' : w10.cell? ⟨k.gl, 0, none⟩ = some (.pointer (some ⟨k.p.g, 0, none⟩)) := by have := hb10.cell 0; rw [show _ = _ from this]; simp [HG9.out]
      have HP10 := Lib.hid (HK9.out.pushH HR9.out HB8.out H79.out hr10 hg10 hv10)
      obtain ⟨A10, c10, rfl, _, _⟩ := hr10.form
      clear hr10 hg10 hv10 hb10
      refine hK2.out _ _ (⟨hkc', hkp'⟩) (fun hHeld => ?_)
      clear hK2 K2
      try simp only [Act.put, List.setIfInBounds_toArray, List.set_cons_zero, List.set_cons_succ]
      refine wpAnyX_one (i := 12) (by kernel_rfl) (by simp only [List.getElem?_toArray, List.getElem?_cons_succ, List.getElem?_cons_zero]; rfl) (fun K2 hK2 => ?_)
      go_simp
      refine hK2.out _ _ (hHeld) (fun hHeld => ?_)
      clear hK2 K2
      try simp only [Act.put, List.setIfInBounds_toArray, List.set_cons_zero, List.set_cons_succ]
      refine wpAnyX_one (i := 13) (by kernel_rfl) (by simp only [List.getElem?_toArray, List.getElem?_cons_succ, List.getElem?_cons_zero]; rfl) (fun K2 hK2 => ?_)
      go_simp
      refine hK2.out _ _ (hHeld) (fun hHeld => ?_)
      clear hK2 K2
      try simp only [Act.put, List.setIfInBounds_toArray, List.set_cons_zero, List.set_cons_succ]
      refine wpAnyX_last (by kernel_rfl) (by simp only [List.getElem?_toArray, List.getElem?_cons_succ, List.getElem?_cons_zero]; rfl) (fun K2 hK2 => ?_)
      go_simp
      refine hK2.out _ _ ?_
      clear hK2 K2
      try simp only [Act.put, List.setIfInBounds_toArray, List.set_cons_zero, List.set_cons_succ]
      refine wpAnyX_done (by kernel_rfl) ?_ _
      go_wp2_with fail
      all_goals refine Go.bodyPost_end (v := .tuple #[]) (by simp [results, Try.results58, go_sem]) rfl ⟨rfl, by rw [HPL.out]; have hp10 := HP10.out; have hfq : (frm q0).length ≤ 1088 := (by rw [← HQF.out]; exact hql); rw [HQF.out] at hp10; exact LkS.toX hp10 rfl HG9.out rfl (by omega) (by dsimp only; rw [List.map_append, HH1.out, HL9.out, HQF.out]) (by dsimp only; rw [List.map_append, List.map_take, List.map_drop, HR1.out]) HI1.out⟩
end Go.Proofs.Ytjhkfpemcplaaaa
