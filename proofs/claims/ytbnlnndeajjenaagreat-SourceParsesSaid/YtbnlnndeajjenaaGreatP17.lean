/-
  Parts RxE, RxF of the proof. No statement of the seat is proved here.
-/
import Derived.Test.YtbnlnndeajjenaaGreatP16
import Derived.Laws.Cover1
import Derived.Sort.Walk0
set_option maxHeartbeats 4000000
namespace Go.Proofs.YtbnlnndeajjenaaGreat
open Go.RowKit
theorem Rs.opn_at {L : List Lx.Tk} {s : Rs.RS} (h : Rs.bad (Rs.opn L s) = false) : (Rs.opn L s).at_ = s.at_ + 1 := by
 unfold Rs.opn at h ⊢
 split at h
 ·rw [Rs.bad_fail] at h; cases h
 ·rename_i hc; rw [if_neg hc]; rfl
theorem Rs.Bd.opn {T : List Lx.Tk} {fin : Nat} {s : Rs.RS} (h : Rs.Bd T s) (hk : Rs.bad s = false) (hlt : s.at_ < T.length) : Rs.Bd T (Rs.opn (Rs.toks T fin) s) := by
 unfold Rs.opn
 split
 ·exact h.mv (Rs.mv_fail _ _ _ _)
 ·rename_i hc
  have := h.lo
  have := h.hi
  have h0 := h.ok hk
  refine ⟨hlt, ?_, ?_, fun _ => ?_⟩
  ·show -1 ≤ s.depth + 1; omega
  ·show s.depth + 1 ≤ 100; omega
  ·show 0 ≤ s.depth + 1; omega
theorem Rs.arrL_stop {L : List Lx.Tk} {f : Nat} {l : List Ps.Tr} {s : Rs.RS} (h : (!Rs.bad s && !Rs.is_ L 7 [41] s) = false) : Rs.arrL L f l s = (l, s) := by
 cases f with
 | zero => unfold Rs.arrL; rfl
 | succ f => unfold Rs.arrL; rw [if_neg (by rw [h]; decide)]
theorem Rs.braL_stop {L : List Lx.Tk} {f : Nat} {l : List Ps.Tr} {s : Rs.RS} (h : (!Rs.bad s && !Rs.is_ L 7 [125] s) = false) : Rs.braL L f l s = (l, s) := by
 cases f with
 | zero => unfold Rs.braL; rfl
 | succ f => unfold Rs.braL; rw [if_neg (by rw [h]; decide)]
theorem tok_at {T : List Lx.Tk} {fin i : Nat} : (∃ t, t ∈ T ∧ (Rs.toks T fin).getD i (0, [], 0) = t) ∨ (Rs.toks T fin).getD i (0, [], 0) = (0, [], fin) ∨ (Rs.toks T fin).getD i (0, [], 0) = (0, [], 0) := by
 unfold Rs.toks
 rw [List.getD_eq_getElem?_getD]
 rcases Nat.lt_or_ge i T.length with h | h
 ·left
  exact ⟨T[i], List.getElem_mem h, by rw [List.getElem?_append_left h, List.getElem?_eq_getElem h]; rfl⟩
 ·right
  rw [List.getElem?_append_right h]
  match i - T.length with
  | 0 => exact .inl rfl
  | 1 => exact .inl rfl
  | n + 2 => exact .inr rfl
theorem tok_txt {T : List Lx.Tk} {fin : Nat} (hT : Ps.Fits 65536 T) (s : Rs.RS) : (Rs.tok (Rs.toks T fin) s).2.1.length ≤ 65536 := by
 rcases tok_at (T := T) (fin := fin) (i := s.at_) with ⟨t, ht, e⟩ | e | e
 ·unfold Rs.tok; rw [e]; exact hT.txt t ht
 ·unfold Rs.tok; rw [e]; simp
 ·unfold Rs.tok; rw [e]; simp
theorem tok1_txt {T : List Lx.Tk} {fin : Nat} (hT : Ps.Fits 65536 T) (s : Rs.RS) : (Rs.tok1 (Rs.toks T fin) s).2.1.length ≤ 65536 := tok_txt (fin := fin) hT (Rs.adv s)
theorem tok_place {T : List Lx.Tk} {fin : Nat} (hT : Ps.Fits 65536 T) (hf : fin ≤ 65536) (s : Rs.RS) : (Rs.tok (Rs.toks T fin) s).2.2 ≤ 100000 := by
 rcases tok_at (T := T) (fin := fin) (i := s.at_) with ⟨t, ht, e⟩ | e | e
 ·unfold Rs.tok; rw [e]; have := hT.place t ht; omega
 ·unfold Rs.tok; rw [e]; show fin ≤ _; omega
 ·unfold Rs.tok; rw [e]; simp
theorem Rs.Bd.shutm {T : List Lx.Tk} {fin : Nat} {s s2 : Rs.RS} (h : Rs.Bd T s) (hk : Rs.bad s = false) (hlt : s.at_ < T.length) (m : Rs.Mv T (Rs.opn (Rs.toks T fin) s) s2) (x : Lx.Txt) : Rs.Bd T (Rs.shut (Rs.toks T fin) x s2) := h.mv (Rs.mv_brk hk hlt m x)
set_option maxRecDepth 20000 in
theorem rarr_any {g c fin F : Nat} {A : Option Addr} {T : List Lx.Tk} (hT : Ps.Fits 65536 T) (ih : ∀ f, f < F → RWAll g A c T fin f) (s : Rs.RS) (w : World) (h : RA w g A c (Rs.toks T fin) s) (hb : Rs.Bd T s) (hk : Rs.bad s = false) (hlt : s.at_ < T.length) (hf : Rs.rem T s + 2 ≤ F) :
  Calls Tryz.prog 99 #[.pointer (some ⟨g, 0, none⟩)] w (RNd w g A c T fin w.heap.size (Rs.arr (Rs.toks T fin) F s)) := by
 have hTl := hT.len
 have hgb := h.lt
 have E0 := (Ev.start h).box 26 [.int .i64 0, .string ⟨#[]⟩, .slice none 0 0, .slice none 0 0, .slice none 0 0, .int .i64 0, .int .i64 0]
 obtain ⟨F', rfl⟩ : ∃ F', F = F' + 1 := ⟨F - 1, by omega⟩
 obtain ⟨t, ht⟩ : ∃ t, Rs.tok (Rs.toks T fin) s = t := ⟨_, rfl⟩
 obtain ⟨s1, hs1⟩ : ∃ s1, Rs.opn (Rs.toks T fin) s = s1 := ⟨_, rfl⟩
 obtain ⟨RK, hRK⟩ : ∃ RK, Rs.arrL (Rs.toks T fin) F' [] s1 = RK := ⟨_, rfl⟩
 obtain ⟨R, hR⟩ : ∃ R, (Ps.nd 12 [] RK.1 t.2.2, Rs.shut (Rs.toks T fin) [41] RK.2) = R := ⟨_, rfl⟩
 have HE := Hd hR.symm
 have HTK := Hd fun (W : World) (h : RA W g A c (Rs.toks T fin) s) => rtok_any h (hb).lt
 have HOP := Hd fun (W : World) (h : RA W g A c (Rs.toks T fin) s) => ropen_any h hb.lt (hb.le hTl) ⟨hb.lo, hb.hi⟩
 have hb1 := Rs.Bd.opn (fin := fin) hb hk hlt
 have hra : Rs.bad s1 = false → Rs.rem T s1 + 10 ≤ Rs.rem T s := fun h1 => Rs.rem_adv (by rw [← hs1] at h1 ⊢; rw [Rs.opn_at h1]; omega) hlt
 rw [ht] at HTK
 rw [hs1] at HOP hb1
 have HTE := Hd ht
 have IH := Hd ih
 have HRK := Hd hRK
 have HB1 := Hd hb1
 have HB0 := Hd hb
 have HHR := Hd hra
 have hf2 := fld2 (.int .i64 (t.1 : Int)) (.string ⟨t.2.1.toArray⟩) (.int .i64 (t.2.2 : Int))
 have HS1 := Hd hs1
 have HE0 := Hd E0
 rw [Rs.arr, hs1, hRK, ht, hR]
 clear h ht hs1 hRK hR ih hb1 E0 hra hb
 go_enter Tryz.func99, Tryz.ntmps99
 go_upto_region 2 with (go_at_call 37; refine (HTK.out _ HE0.out.pa).mono ?_; rintro e w1 ⟨rfl, hp⟩; have HE1 := Hd (HE0.out.below hp); clear hp)
 refine wp_world (fun W => RAc w g A c T fin w.heap.size w1.heap.size w.heap.size 12 t.2.2 s [] [] (.slice none 0 0) W) (RAc.start HE1.out 0 rfl rfl (TsM.nil _ _ (fun k => k = w.heap.size)) rfl HB0.out (fun k hk => by simp [Value.ownBlock] at hk) 12 t.2.2 []) fun w2 ha2 => ?_
 have HA2 := Hd ha2
 obtain ⟨ts, hts⟩ : ∃ ts, w1.heap.size = ts := ⟨_, rfl⟩
 rw [hts] at HA2 ⊢
 clear ha2 HE0 HE1 HTK hf2 hts
 go_upto_block 0 with (go_at_call 101; refine (HOP.out _ HA2.out.env.pa).mono ?_; rintro e w3 ⟨rfl, hp⟩; have HA3 := Hd (HA2.out.call hp HB1.out hgb); clear hp)
 clear HA2 HOP
 go_wp2
 go_loopg [] F' (fun f wr => ∃ (s' : Rs.RS) (l : List Ps.Tr) (v : Value), f ≤ F' ∧ RAc w g A c T fin w.heap.size ts w.heap.size 12 t.2.2 s' [] l v wr ∧ Rs.Mv T s1 s' ∧ (Rs.bad s' = false → Rs.rem T s' + 4 ≤ f) ∧ (Rs.bad s' = false → l.length ≤ s'.at_) ∧ l.length ≤ s'.at_ + 1 ∧ Rs.arrL (Rs.toks T fin) f l s' = RK)
 case atStart => exact ⟨s1, [], _, Nat.le_refl _, HA3.out, Rs.Mv.refl _ _, fun h => by have := HHR.out h; omega, fun _ => by simp, by simp, HRK.out⟩
 case round =>
  obtain ⟨s', l, v', hfF, hA, hmv, hrm, hl1, hl2, hR⟩ := hrel
  have HA := Hd hA
  have HR2 := Hd hR
  have HRM := Hd hrm
  have HL1 := Hd hl1
  have HMV := Hd hmv
  obtain ⟨Av, cv, rfl, -, -⟩ := hA.row.form
  have HIS := Hd fun (W : World) (h : RA W g A c (Rs.toks T fin) s') => ris_z h (HA.out.bd).lt 7 [41] (z := 7) rfl (xs := #[41]) rfl
  have HBA := Hd fun (W : World) (h : RA W g A c (Rs.toks T fin) s') => rbad_any h
  clear hA hR hrm hl1 hmv HA3 HRK
  have HSH := Hd fun (W : World) (h : RA W g A c (Rs.toks T fin) s') => rshut_any h HA.out.bd.lt (HA.out.bd.le hTl) ⟨HA.out.bd.lo, HA.out.bd.hi⟩ [41]
  have HBS : Hid (Rs.Bd T (Rs.shut (Rs.toks T fin) [41] s')) := Hd (HB0.out.shutm hk hlt (by rw [HS1.out]; exact HMV.out) [41])
  cases hkb : Rs.bad s' with
  | true =>
   have HE2 : Hid (R = (Ps.nd 12 [] l t.2.2, Rs.shut (Rs.toks T fin) [41] s')) := Hd (by
    have : RK = (l, s') := by rw [← HR2.out]; exact Rs.arrL_stop (by rw [hkb]; rfl)
    rw [HE.out, this])
   rw [hkb] at HBA
   clear hkb
   go_upto_region 6 with (first
    | (go_at_call 26; with_reducible refine (HBA.out _ HA.out.env.pa).mono ?_; rintro e w4 ⟨rfl, rfl⟩)
    | (go_at_call 102; refine (HSH.out _ HA.out.env.pa).mono ?_; rintro e w5 ⟨rfl, hp⟩; have HA5 := Hd (HA.out.call hp HBS.out hgb); clear hp))
   obtain ⟨a, a0, a1, a2, a3, a4, a5, a6⟩ := HA5.out.env.c7 0 rfl
   obtain ⟨b, b0, b1, b2, b3, b4, b5, b6⟩ := HA5.out.env.c7 1 rfl
   have fz := HA5.out.env.fz 1 rfl
   go_wp2
   obtain ⟨hb4, hnd⟩ := HA5.out.done (R := R) (HE2.out)
   exact bodyPost_ret (ret26 rfl _ _ rfl hb4) rfl hnd
  | false =>
   rw [hkb] at HBA
   cases hi : Rs.is_ (Rs.toks T fin) 7 [41] s' with
   | true =>
    have HE2 : Hid (R = (Ps.nd 12 [] l t.2.2, Rs.shut (Rs.toks T fin) [41] s')) := Hd (by
     have : RK = (l, s') := by rw [← HR2.out]; exact Rs.arrL_stop (by rw [hkb, hi]; rfl)
     rw [HE.out, this])
    rw [hi] at HIS
    clear hkb hi
    go_upto_region 6 with (first
     | (go_at_call 26; with_reducible refine (HBA.out _ HA.out.env.pa).mono ?_; rintro e w4 ⟨rfl, rfl⟩)
     | (go_at_call 38; with_reducible refine (HIS.out _ HA.out.env.pa).mono ?_; rintro e w4 ⟨rfl, hb⟩; have HA4 := Hd (HA.out.below hb); clear hb)
     | (go_at_call 102; refine (HSH.out _ HA4.out.env.pa).mono ?_; rintro e w5 ⟨rfl, hp⟩; have HA5 := Hd (HA4.out.call hp HBS.out hgb); clear hp))
    obtain ⟨a, a0, a1, a2, a3, a4, a5, a6⟩ := HA5.out.env.c7 0 rfl
    obtain ⟨b, b0, b1, b2, b3, b4, b5, b6⟩ := HA5.out.env.c7 1 rfl
    have fz := HA5.out.env.fz 1 rfl
    go_wp2
    obtain ⟨hb4, hnd⟩ := HA5.out.done (R := R) (HE2.out)
    exact bodyPost_ret (ret26 rfl _ _ rfl hb4) rfl hnd
   | false =>
    rw [hi] at HIS
    have hrm := HRM.out hkb
    have hl3 := HL1.out hkb
    have hat := HA.out.bd.at_
    obtain ⟨f, rfl⟩ : ∃ f, gk = f + 1 := ⟨gk - 1, by omega⟩
    obtain ⟨pb, hpb⟩ : ∃ a, Rs.lit (Rs.toks T fin) f s' = a := ⟨_, rfl⟩
    have HR3 : Hid (Rs.arrL (Rs.toks T fin) f (l ++ [pb.1]) pb.2 = RK) := Hd (by rw [← HR2.out, ← hpb]; conv => rhs; unfold Rs.arrL; rw [if_pos (by rw [hkb, hi]; rfl)])
    have HLI := Hd fun w5 (hp : RA w5 g A c (Rs.toks T fin) s') (hb : Rs.Bd T s') => (IH.out f (by omega)).lit s' w5 hp hb hkb (by omega)
    have HAD := Hd (fun (h : Rs.bad pb.2 = false) => (by rw [← hpb] at h ⊢; exact Rs.lit_adv (T := T) (fin := fin) (f := f) (s := s') (by omega) h : s'.at_ < pb.2.at_))
    have HMV3 : Hid (Rs.Mv T s' pb.2) := Hd (by rw [← hpb]; exact (Rs.mvAll (T := T) (fin := fin) f).lit s' hat)
    have hle : s'.at_ ≤ pb.2.at_ ∧ pb.2.at_ ≤ T.length := HMV3.out.at_ hat
    rw [hpb] at HLI
    clear hpb hkb hi
    go_upto_region 4 with (first
     | (go_at_call 26; with_reducible refine (HBA.out _ HA.out.env.pa).mono ?_; rintro e w4 ⟨rfl, rfl⟩)
     | (go_at_call 38; with_reducible refine (HIS.out _ HA.out.env.pa).mono ?_; rintro e w7 ⟨rfl, hb⟩; have HA7 := Hd (HA.out.below hb); clear hb))
    clear HA HIS HBA HSH HBS
    obtain ⟨i0, hi, hz0, hz1, hz2⟩ := info_parts info26
    have hS4 : w7.cell? ⟨ts, 4, none⟩ = some (.slice Av l.length cv) := (HA7.out.env.c7 0 rfl).2.2.2.2.2.1
    have HL7 := Hd HA7.out.lts
    have hbw7 : w.heap.size ≤ w7.heap.size := HA7.out.env.size
    have hx7 := (HA7.out.env.c7 0 rfl).1
    go_upto_region 4 with fail
    refine wp_region_x (s := 7) (S := fun W => W.cell? ⟨ts, 4, none⟩ = some (.slice Av l.length cv)) (by kernel_rfl) hS4 (fun hHeld => ?_)
    refine xt (i := 0) ?_
    refine xt (i := 1) ?_
    refine xt (i := 2) ?_
    refine x1 (i := 3) (fun K2 hK2 => ?_)
    go_simp
    go_at_call 105
    refine (HLI.out _ (HA7.out.env.pa.drew) HA7.out.bd).mono ?_
    rintro e wa ⟨csa, rfl, hpa, hba, hta⟩
    have hza := hpa.1.size
    have HAa := Hd ((HA7.out.below (Below.refl _ _).drew).call hpa hba hgb)
    have HTa := Hd hta
    have qa : wa.cell? ⟨ts, 4, none⟩ = some (.slice Av l.length cv) := (HAa.out.env.c7 0 rfl).2.2.2.2.2.1
    obtain ⟨css, hcl, hown, hpush⟩ := HAa.out.push HTa.out (by show _ ≤ w7.heap.size; omega) ⟨HL7.out.1, HL7.out.2.1, HL7.out.2.2.2.2⟩ hgb
    have HOWN := Hd hown
    have HPUSH := Hd hpush
    obtain ⟨p0, p1, C1, o1, e1', C2, o2, e2', C3, o3, e3', p5, p6, rfl⟩ := HTa.out.form
    have hsa : w.heap.size ≤ wa.heap.size := HAa.out.env.size
    clear hown hpush hcl
    clear hpa hba hta
    refine hK2.out _ _ (qa) (fun hHeld => ?_)
    clear hK2 K2
    refine x1 (i := 4) (fun K2 hK2 => ?_)
    go_simp
    refine hK2.out _ _ (by go_keep) (fun hHeld => ?_)
    clear hK2 K2
    refine x1 (i := 5) (fun K2 hK2 => ?_)
    refine step_append_any _ rfl (.tmp 19) (.tmp 22) 24 rfl w.heap.size 26 i0 _ 7 112 Tryz.underlying24 hi hz0 hz1 hz2 rfl (by decide) (.slice Av l.length cv) l.length css.flatten (by rfl) (World.ownsRow.alloc HOWN.out _) (wa.heap.size + 1) (some ⟨wa.heap.size, 0, none⟩) 1 1 _ (by rfl) (Reads.builtN wa 26 [_, _, _, _, _, _, _] 1 7 rfl) (by intro u hu; simp only [List.mem_cons, List.not_mem_nil, or_false] at hu; rcases hu with rfl | rfl | rfl | rfl | rfl | rfl | rfl <;> rfl) (by simp only [maxLen]; omega) (by omega) (by simp; omega) ?_
    intro v6 wb hown6 hgrow6 hv6
    obtain ⟨A6, c6, rfl, _, _⟩ := own_form hown6
    obtain ⟨hcl, hfz, hlt6, hac⟩ := HPUSH.out _ _ _ hown6 hgrow6 (by simpa using hv6)
    have HAC := Hd hac
    have kb : wb.cell? ⟨ts, 4, none⟩ = some (.slice Av l.length cv) := by rw [hcl 4]; exact qa
    have kbf := hfz 4
    clear hown6 hgrow6 hv6 hcl hfz hac
    try go_simp
    refine hK2.out _ _ (kb) (fun hHeld => ?_)
    clear hK2 K2
    refine x1 (i := 6) (fun K2 hK2 => ?_)
    go_simp
    refine hK2.out _ _ (hHeld) (fun hHeld => ?_)
    clear hK2 K2
    try simp only [Act.put, List.setIfInBounds_toArray, List.set_cons_zero, List.set_cons_succ]
    refine xl (fun K2 hK2 => ?_)
    go_simp
    refine hK2.out _ _ ?_
    clear hK2 K2
    try simp only [Act.put, List.setIfInBounds_toArray, List.set_cons_zero, List.set_cons_succ]
    refine wpAnyX_done (by kernel_rfl) ?_ _
    go_wp2_with fail
    go_roundg f
    case measure => omega
    case rel => exact ⟨pb.2, l ++ [pb.1], _, by omega, HAC.out, HMV.out.trans HMV3.out, fun hk => by have := HAD.out hk; have := Rs.rem_adv (T := T) this (by omega); omega, fun hk => by have := HAD.out hk; simp only [List.length_append, List.length_singleton]; omega, by simp only [List.length_append, List.length_singleton]; omega, HR3.out⟩
set_option maxRecDepth 20000 in
theorem rbra_any {g c fin F : Nat} {A : Option Addr} {T : List Lx.Tk} (hT : Ps.Fits 65536 T) (ih : ∀ f, f < F → RWAll g A c T fin f) (s : Rs.RS) (w : World) (h : RA w g A c (Rs.toks T fin) s) (hb : Rs.Bd T s) (hk : Rs.bad s = false) (hlt : s.at_ < T.length) (hf : Rs.rem T s + 2 ≤ F) :
  Calls Tryz.prog 103 #[.pointer (some ⟨g, 0, none⟩)] w (RNd w g A c T fin w.heap.size (Ps.nd 14 [] (Rs.braL (Rs.toks T fin) F [] (Rs.opn (Rs.toks T fin) s)).1 (Rs.tok (Rs.toks T fin) s).2.2, Rs.shut (Rs.toks T fin) [125] (Rs.braL (Rs.toks T fin) F [] (Rs.opn (Rs.toks T fin) s)).2)) := by
 have hTl := hT.len
 have hgb := h.lt
 have E0 := (Ev.start h).box 26 [.int .i64 0, .string ⟨#[]⟩, .slice none 0 0, .slice none 0 0, .slice none 0 0, .int .i64 0, .int .i64 0]
 obtain ⟨t, ht⟩ : ∃ t, Rs.tok (Rs.toks T fin) s = t := ⟨_, rfl⟩
 obtain ⟨s1, hs1⟩ : ∃ s1, Rs.opn (Rs.toks T fin) s = s1 := ⟨_, rfl⟩
 obtain ⟨RK, hRK⟩ : ∃ RK, Rs.braL (Rs.toks T fin) F [] s1 = RK := ⟨_, rfl⟩
 obtain ⟨R, hR⟩ : ∃ R, (Ps.nd 14 [] RK.1 t.2.2, Rs.shut (Rs.toks T fin) [125] RK.2) = R := ⟨_, rfl⟩
 have HE := Hd hR.symm
 have HTK := Hd fun (W : World) (h : RA W g A c (Rs.toks T fin) s) => rtok_any h (hb).lt
 have HOP := Hd fun (W : World) (h : RA W g A c (Rs.toks T fin) s) => ropen_any h hb.lt (hb.le hTl) ⟨hb.lo, hb.hi⟩
 have hb1 := Rs.Bd.opn (fin := fin) hb hk hlt
 have hra : Rs.bad s1 = false → Rs.rem T s1 + 10 ≤ Rs.rem T s := fun h1 => Rs.rem_adv (by rw [← hs1] at h1 ⊢; rw [Rs.opn_at h1]; omega) hlt
 rw [ht] at HTK
 rw [hs1] at HOP hb1
 have HTE := Hd ht
 have IH := Hd ih
 have HRK := Hd hRK
 have HB1 := Hd hb1
 have HB0 := Hd hb
 have HHR := Hd hra
 have hf2 := fld2 (.int .i64 (t.1 : Int)) (.string ⟨t.2.1.toArray⟩) (.int .i64 (t.2.2 : Int))
 have HS1 := Hd hs1
 have HE0 := Hd E0
 rw [hs1, hRK, ht, hR]
 clear h ht hs1 hRK hR ih hb1 E0 hra hb
 go_enter Tryz.func103, Tryz.ntmps103
 go_upto_region 2 with (go_at_call 37; refine (HTK.out _ HE0.out.pa).mono ?_; rintro e w1 ⟨rfl, hp⟩; have HE1 := Hd (HE0.out.below hp); clear hp)
 refine wp_world (fun W => RAc w g A c T fin w.heap.size w1.heap.size w.heap.size 14 t.2.2 s [] [] (.slice none 0 0) W) (RAc.start HE1.out 0 rfl rfl (TsM.nil _ _ (fun k => k = w.heap.size)) rfl HB0.out (fun k hk => by simp [Value.ownBlock] at hk) 14 t.2.2 []) fun w2 ha2 => ?_
 have HA2 := Hd ha2
 obtain ⟨ts, hts⟩ : ∃ ts, w1.heap.size = ts := ⟨_, rfl⟩
 rw [hts] at HA2 ⊢
 clear ha2 HE0 HE1 HTK hf2 hts
 go_upto_block 0 with (go_at_call 101; refine (HOP.out _ HA2.out.env.pa).mono ?_; rintro e w3 ⟨rfl, hp⟩; have HA3 := Hd (HA2.out.call hp HB1.out hgb); clear hp)
 clear HA2 HOP
 go_wp2
 go_loopg [] F (fun f wr => ∃ (s' : Rs.RS) (l : List Ps.Tr) (v : Value), f ≤ F ∧ RAc w g A c T fin w.heap.size ts w.heap.size 14 t.2.2 s' [] l v wr ∧ Rs.Mv T s1 s' ∧ (Rs.bad s' = false → Rs.rem T s' + 8 ≤ f) ∧ (Rs.bad s' = false → l.length ≤ s'.at_) ∧ l.length ≤ s'.at_ + 1 ∧ Rs.braL (Rs.toks T fin) f l s' = RK)
 case atStart => exact ⟨s1, [], _, Nat.le_refl _, HA3.out, Rs.Mv.refl _ _, fun h => by have := HHR.out h; omega, fun _ => by simp, by simp, HRK.out⟩
 case round =>
  obtain ⟨s', l, v', hfF, hA, hmv, hrm, hl1, hl2, hR⟩ := hrel
  have HA := Hd hA
  have HR2 := Hd hR
  have HRM := Hd hrm
  have HL1 := Hd hl1
  have HMV := Hd hmv
  obtain ⟨Av, cv, rfl, -, -⟩ := hA.row.form
  have HIS := Hd fun (W : World) (h : RA W g A c (Rs.toks T fin) s') => ris_z h (HA.out.bd).lt 7 [125] (z := 7) rfl (xs := #[125]) rfl
  have HBA := Hd fun (W : World) (h : RA W g A c (Rs.toks T fin) s') => rbad_any h
  clear hA hR hrm hl1 hmv HA3 HRK
  have HSH := Hd fun (W : World) (h : RA W g A c (Rs.toks T fin) s') => rshut_any h HA.out.bd.lt (HA.out.bd.le hTl) ⟨HA.out.bd.lo, HA.out.bd.hi⟩ [125]
  have HBS : Hid (Rs.Bd T (Rs.shut (Rs.toks T fin) [125] s')) := Hd (HB0.out.shutm hk hlt (by rw [HS1.out]; exact HMV.out) [125])
  cases hkb : Rs.bad s' with
  | true =>
   have HE2 : Hid (R = (Ps.nd 14 [] l t.2.2, Rs.shut (Rs.toks T fin) [125] s')) := Hd (by
    have : RK = (l, s') := by rw [← HR2.out]; exact Rs.braL_stop (by rw [hkb]; rfl)
    rw [HE.out, this])
   rw [hkb] at HBA
   clear hkb
   go_upto_region 8 with (first
    | (go_at_call 26; with_reducible refine (HBA.out _ HA.out.env.pa).mono ?_; rintro e w4 ⟨rfl, rfl⟩)
    | (go_at_call 102; refine (HSH.out _ HA.out.env.pa).mono ?_; rintro e w5 ⟨rfl, hp⟩; have HA5 := Hd (HA.out.call hp HBS.out hgb); clear hp))
   obtain ⟨a, a0, a1, a2, a3, a4, a5, a6⟩ := HA5.out.env.c7 0 rfl
   obtain ⟨b, b0, b1, b2, b3, b4, b5, b6⟩ := HA5.out.env.c7 1 rfl
   have fz := HA5.out.env.fz 1 rfl
   go_wp2
   obtain ⟨hb4, hnd⟩ := HA5.out.done (R := R) (HE2.out)
   exact bodyPost_ret (ret26 rfl _ _ rfl hb4) rfl hnd
  | false =>
   rw [hkb] at HBA
   cases hi : Rs.is_ (Rs.toks T fin) 7 [125] s' with
   | true =>
    have HE2 : Hid (R = (Ps.nd 14 [] l t.2.2, Rs.shut (Rs.toks T fin) [125] s')) := Hd (by
     have : RK = (l, s') := by rw [← HR2.out]; exact Rs.braL_stop (by rw [hkb, hi]; rfl)
     rw [HE.out, this])
    rw [hi] at HIS
    clear hkb hi
    go_upto_region 8 with (first
     | (go_at_call 26; with_reducible refine (HBA.out _ HA.out.env.pa).mono ?_; rintro e w4 ⟨rfl, rfl⟩)
     | (go_at_call 38; with_reducible refine (HIS.out _ HA.out.env.pa).mono ?_; rintro e w4 ⟨rfl, hb⟩; have HA4 := Hd (HA.out.below hb); clear hb)
     | (go_at_call 102; refine (HSH.out _ HA4.out.env.pa).mono ?_; rintro e w5 ⟨rfl, hp⟩; have HA5 := Hd (HA4.out.call hp HBS.out hgb); clear hp))
    obtain ⟨a, a0, a1, a2, a3, a4, a5, a6⟩ := HA5.out.env.c7 0 rfl
    obtain ⟨b, b0, b1, b2, b3, b4, b5, b6⟩ := HA5.out.env.c7 1 rfl
    have fz := HA5.out.env.fz 1 rfl
    go_wp2
    obtain ⟨hb4, hnd⟩ := HA5.out.done (R := R) (HE2.out)
    exact bodyPost_ret (ret26 rfl _ _ rfl hb4) rfl hnd
   | false =>
    rw [hi] at HIS
    have hrm := HRM.out hkb
    have hl3 := HL1.out hkb
    have hat := HA.out.bd.at_
    obtain ⟨f, rfl⟩ : ∃ f, gk = f + 1 := ⟨gk - 1, by omega⟩
    obtain ⟨pb, hpb⟩ : ∃ a, Rs.expr (Rs.toks T fin) f s' = a := ⟨_, rfl⟩
    have HR2b : Hid (Rs.braL (Rs.toks T fin) f (l ++ [pb.1]) (if !Rs.is_ (Rs.toks T fin) 7 [125] pb.2 then (Rs.take (Rs.toks T fin) 7 [46] pb.2).2 else pb.2) = RK) := Hd (by rw [← HR2.out, ← hpb]; conv => rhs; unfold Rs.braL; dsimp only; rw [if_pos (by rw [hkb, hi]; rfl)])
    have HLI := Hd fun w5 (hp : RA w5 g A c (Rs.toks T fin) s') (hb : Rs.Bd T s') => (IH.out f (by omega)).expr s' w5 hp hb (fun _ => by omega)
    have HAD := Hd (fun (h : Rs.bad pb.2 = false) => (by rw [← hpb] at h ⊢; exact Rs.expr_adv (T := T) (fin := fin) (f := f) (s := s') (by omega) hat h : s'.at_ < pb.2.at_))
    have HMV3 : Hid (Rs.Mv T s' pb.2) := Hd (by rw [← hpb]; exact (Rs.mvAll (T := T) (fin := fin) f).expr s' hat)
    have hle : s'.at_ ≤ pb.2.at_ ∧ pb.2.at_ ≤ T.length := HMV3.out.at_ hat
    rw [hpb] at HLI
    clear hpb hkb hi
    go_upto_region 4 with (first
     | (go_at_call 26; with_reducible refine (HBA.out _ HA.out.env.pa).mono ?_; rintro e w4 ⟨rfl, rfl⟩)
     | (go_at_call 38; with_reducible refine (HIS.out _ HA.out.env.pa).mono ?_; rintro e w7 ⟨rfl, hb⟩; have HA7 := Hd (HA.out.below hb); clear hb))
    clear HA HIS HBA HSH HBS
    obtain ⟨i0, hi, hz0, hz1, hz2⟩ := info_parts info26
    have hS4 : w7.cell? ⟨ts, 4, none⟩ = some (.slice Av l.length cv) := (HA7.out.env.c7 0 rfl).2.2.2.2.2.1
    have HL7 := Hd HA7.out.lts
    have hbw7 : w.heap.size ≤ w7.heap.size := HA7.out.env.size
    have hx7 := (HA7.out.env.c7 0 rfl).1
    go_upto_region 4 with fail
    refine wp_region_x (s := 7) (S := fun W => W.cell? ⟨ts, 4, none⟩ = some (.slice Av l.length cv)) (by kernel_rfl) hS4 (fun hHeld => ?_)
    refine xt (i := 0) ?_
    refine xt (i := 1) ?_
    refine xt (i := 2) ?_
    refine x1 (i := 3) (fun K2 hK2 => ?_)
    go_simp
    go_at_call 44
    refine (HLI.out _ (HA7.out.env.pa.drew) HA7.out.bd).mono ?_
    rintro e wa ⟨csa, rfl, hpa, hba, hta⟩
    have hza := hpa.1.size
    have HAa := Hd ((HA7.out.below (Below.refl _ _).drew).call hpa hba hgb)
    have HTa := Hd hta
    have qa : wa.cell? ⟨ts, 4, none⟩ = some (.slice Av l.length cv) := (HAa.out.env.c7 0 rfl).2.2.2.2.2.1
    obtain ⟨css, hcl, hown, hpush⟩ := HAa.out.push HTa.out (by show _ ≤ w7.heap.size; omega) ⟨HL7.out.1, HL7.out.2.1, HL7.out.2.2.2.2⟩ hgb
    have HOWN := Hd hown
    have HPUSH := Hd hpush
    obtain ⟨p0, p1, C1, o1, e1', C2, o2, e2', C3, o3, e3', p5, p6, rfl⟩ := HTa.out.form
    have hsa : w.heap.size ≤ wa.heap.size := HAa.out.env.size
    clear hown hpush hcl
    clear hpa hba hta
    refine hK2.out _ _ (qa) (fun hHeld => ?_)
    clear hK2 K2
    refine x1 (i := 4) (fun K2 hK2 => ?_)
    go_simp
    refine hK2.out _ _ (by go_keep) (fun hHeld => ?_)
    clear hK2 K2
    refine x1 (i := 5) (fun K2 hK2 => ?_)
    refine step_append_any _ rfl (.tmp 19) (.tmp 22) 24 rfl w.heap.size 26 i0 _ 7 112 Tryz.underlying24 hi hz0 hz1 hz2 rfl (by decide) (.slice Av l.length cv) l.length css.flatten (by rfl) (World.ownsRow.alloc HOWN.out _) (wa.heap.size + 1) (some ⟨wa.heap.size, 0, none⟩) 1 1 _ (by rfl) (Reads.builtN wa 26 [_, _, _, _, _, _, _] 1 7 rfl) (by intro u hu; simp only [List.mem_cons, List.not_mem_nil, or_false] at hu; rcases hu with rfl | rfl | rfl | rfl | rfl | rfl | rfl <;> rfl) (by simp only [maxLen]; omega) (by omega) (by simp; omega) ?_
    intro v6 wb hown6 hgrow6 hv6
    obtain ⟨A6, c6, rfl, _, _⟩ := own_form hown6
    obtain ⟨hcl, hfz, hlt6, hac⟩ := HPUSH.out _ _ _ hown6 hgrow6 (by simpa using hv6)
    have HAC := Hd hac
    have kb : wb.cell? ⟨ts, 4, none⟩ = some (.slice Av l.length cv) := by rw [hcl 4]; exact qa
    have kbf := hfz 4
    clear hown6 hgrow6 hv6 hcl hfz hac
    try go_simp
    refine hK2.out _ _ (kb) (fun hHeld => ?_)
    clear hK2 K2
    refine x1 (i := 6) (fun K2 hK2 => ?_)
    go_simp
    refine hK2.out _ _ (hHeld) (fun hHeld => ?_)
    clear hK2 K2
    try simp only [Act.put, List.setIfInBounds_toArray, List.set_cons_zero, List.set_cons_succ]
    refine xl (fun K2 hK2 => ?_)
    go_simp
    refine hK2.out _ _ ?_
    clear hK2 K2
    try simp only [Act.put, List.setIfInBounds_toArray, List.set_cons_zero, List.set_cons_succ]
    refine wpAnyX_done (by kernel_rfl) ?_ _
    go_upto_region 5 with fail
    refine wp_world (fun W => RAc w g A c T fin w.heap.size ts w.heap.size 14 t.2.2 pb.2 [] (l ++ [pb.1]) _ W) HAC.out fun w8 ha8 => ?_
    have HA8 := Hd ha8
    have HIS8 := Hd fun (W : World) (h : RA W g A c (Rs.toks T fin) pb.2) => ris_z h (ha8.bd).lt 7 [125] (z := 7) rfl (xs := #[125]) rfl
    clear ha8 HAC hHeld kb kbf HPUSH HOWN qa HAa HTa
    cases hi : Rs.is_ (Rs.toks T fin) 7 [125] pb.2 with
    | true =>
     have HR3 : Hid (Rs.braL (Rs.toks T fin) f (l ++ [pb.1]) pb.2 = RK) := Hd (by rw [← HR2b.out, hi]; rfl)
     have HLE : Hid (pb.2.at_ ≤ pb.2.at_) := Hd (Nat.le_refl _)
     have HOK : Hid (Rs.bad pb.2 = false → Rs.bad pb.2 = false) := Hd (fun h => h)
     rw [hi] at HIS8
     clear hi
     go_wp2_with (go_at_call 38; with_reducible refine (HIS8.out _ HA8.out.env.pa).mono ?_; rintro e w9 ⟨rfl, hb⟩; have HA9 := Hd (HA8.out.below hb); clear hb)
     go_roundg f
     case measure => omega
     case rel => exact ⟨pb.2, l ++ [pb.1], _, by omega, HA9.out, HMV.out.trans HMV3.out, fun hk => by have := HAD.out (HOK.out hk); have := Rs.rem_adv (T := T) this (by omega); have := Rs.rem_le (T := T) (s := pb.2) HLE.out; omega, fun hk => by have := HAD.out (HOK.out hk); have := HLE.out; simp only [List.length_append, List.length_singleton]; omega, by have := HLE.out; simp only [List.length_append, List.length_singleton]; omega, HR3.out⟩
    | false =>
     obtain ⟨q, hq⟩ : ∃ q, Rs.take (Rs.toks T fin) 7 [46] pb.2 = q := ⟨_, rfl⟩
     have HR3 : Hid (Rs.braL (Rs.toks T fin) f (l ++ [pb.1]) q.2 = RK) := Hd (by rw [← HR2b.out, hi, hq]; rfl)
     have mq : Rs.Mv T pb.2 q.2 := by rw [← hq]; exact Rs.mv_take (by decide) _ _
     have HLE : Hid (pb.2.at_ ≤ q.2.at_) := Hd (mq.at_ hle.2).1
     have HMV4 : Hid (Rs.Mv T s' q.2) := Hd (HMV3.out.trans mq)
     have HOK : Hid (Rs.bad q.2 = false → Rs.bad pb.2 = false) := Hd (fun h => Rs.ok_back mq h)
     have HTK := Hd fun (W : World) (h : RA W g A c (Rs.toks T fin) pb.2) => rtake_z h (HA8.out.bd).lt ((HA8.out.bd).le hTl) 7 [46] (z := 7) rfl (xs := #[46]) rfl
     have HB9 := Hd (HA8.out.bd.mv mq)
     rw [hq] at HTK
     rw [hi] at HIS8
     clear hi hq mq
     go_wp2_with (first
      | (go_at_call 38; with_reducible refine (HIS8.out _ HA8.out.env.pa).mono ?_; rintro e w9 ⟨rfl, hb⟩; have HA9 := Hd (HA8.out.below hb); clear hb)
      | (go_at_call 41; refine (HTK.out _ HA9.out.env.pa).mono ?_; rintro e w10 ⟨rfl, hp⟩; have HA10 := Hd (HA9.out.call hp HB9.out hgb); clear hp))
     go_roundg f
     case measure => omega
     case rel => exact ⟨q.2, l ++ [pb.1], _, by omega, HA10.out, HMV.out.trans HMV4.out, fun hk => by have := HAD.out (HOK.out hk); have := Rs.rem_adv (T := T) this (by omega); have := Rs.rem_le (T := T) (s := pb.2) HLE.out; omega, fun hk => by have := HAD.out (HOK.out hk); have := HLE.out; simp only [List.length_append, List.length_singleton]; omega, by have := HLE.out; simp only [List.length_append, List.length_singleton]; omega, HR3.out⟩
theorem Rs.bytL_stop {L : List Lx.Tk} {f : Nat} {l : List Ps.Tr} {s : Rs.RS} (h : (!Rs.bad s && !Rs.is_ L 7 [93] s) = false) : Rs.bytL L f l s = (l, s) := by
 cases f with
 | zero => unfold Rs.bytL; rfl
 | succ f => unfold Rs.bytL; rw [if_neg (by rw [h]; decide)]
theorem gt_bytes (x y : Lx.Txt) : (!(Op.bytesLess x y || x == y)) = decide (y < x) := by
 rw [bytesLess_eq, Bool.eq_iff_iff]
 simp only [Bool.not_eq_true', Bool.or_eq_false_iff, decide_eq_false_iff_not, beq_eq_false_iff_ne, decide_eq_true_iff]
 constructor
 ·rintro ⟨h1, h2⟩
  rcases List.le_iff_lt_or_eq.1 (List.not_lt.1 h1) with h | h
  ·exact h
  ·exact absurd h.symm h2
 ·intro h
  exact ⟨fun h1 => absurd h (List.lt_asymm h1), fun e => by subst e; exact absurd h (List.lt_irrefl _)⟩
set_option maxRecDepth 20000 in
theorem rbyt_any {g c fin : Nat} {A : Option Addr} {T : List Lx.Tk} (hT : Ps.Fits 65536 T) (s : Rs.RS) (w : World) (h : RA w g A c (Rs.toks T fin) s) (hb : Rs.Bd T s) (hk : Rs.bad s = false) (hlt : s.at_ < T.length) :
  Calls Tryz.prog 100 #[.pointer (some ⟨g, 0, none⟩)] w (RNd w g A c T fin w.heap.size (Rs.bytes (Rs.toks T fin) s)) := by
 have hTl := hT.len
 have hgb := h.lt
 have E0 := (Ev.start h).box 26 [.int .i64 0, .string ⟨#[]⟩, .slice none 0 0, .slice none 0 0, .slice none 0 0, .int .i64 0, .int .i64 0]
 obtain ⟨t, ht⟩ : ∃ t, Rs.tok (Rs.toks T fin) s = t := ⟨_, rfl⟩
 obtain ⟨s1, hs1⟩ : ∃ s1, Rs.opn (Rs.toks T fin) s = s1 := ⟨_, rfl⟩
 obtain ⟨RK, hRK⟩ : ∃ RK, Rs.bytL (Rs.toks T fin) (T.length + 4) [] s1 = RK := ⟨_, rfl⟩
 obtain ⟨R, hR⟩ : ∃ R, (Ps.nd 13 [] RK.1 t.2.2, Rs.shut (Rs.toks T fin) [93] RK.2) = R := ⟨_, rfl⟩
 have HE := Hd hR.symm
 have HTK := Hd fun (W : World) (h : RA W g A c (Rs.toks T fin) s) => rtok_any h (hb).lt
 have HOP := Hd fun (W : World) (h : RA W g A c (Rs.toks T fin) s) => ropen_any h hb.lt (hb.le hTl) ⟨hb.lo, hb.hi⟩
 have hb1 := Rs.Bd.opn (fin := fin) hb hk hlt
 rw [ht] at HTK
 rw [hs1] at HOP hb1
 have HTE := Hd ht
 have HRK := Hd hRK
 have HB1 := Hd hb1
 have HB0 := Hd hb
 have hf2 := fld2 (.int .i64 (t.1 : Int)) (.string ⟨t.2.1.toArray⟩) (.int .i64 (t.2.2 : Int))
 have HS1 := Hd hs1
 have HE0 := Hd E0
 rw [Rs.bytes, Ps.toks_len, hs1, hRK, ht, hR]
 clear h ht hs1 hRK hR hb1 E0 hb
 go_enter Tryz.func100, Tryz.ntmps100
 go_upto_region 2 with (go_at_call 37; refine (HTK.out _ HE0.out.pa).mono ?_; rintro e w1 ⟨rfl, hp⟩; have HE1 := Hd (HE0.out.below hp); clear hp)
 refine wp_world (fun W => RAc w g A c T fin w.heap.size w1.heap.size w.heap.size 13 t.2.2 s [] [] (.slice none 0 0) W) (RAc.start HE1.out 0 rfl rfl (TsM.nil _ _ (fun k => k = w.heap.size)) rfl HB0.out (fun k hk => by simp [Value.ownBlock] at hk) 13 t.2.2 []) fun w2 ha2 => ?_
 have HA2 := Hd ha2
 obtain ⟨ts, hts⟩ : ∃ ts, w1.heap.size = ts := ⟨_, rfl⟩
 rw [hts] at HA2 ⊢
 clear ha2 HE0 HE1 HTK hf2 hts
 go_upto_block 0 with (go_at_call 101; refine (HOP.out _ HA2.out.env.pa).mono ?_; rintro e w3 ⟨rfl, hp⟩; have HA3 := Hd (HA2.out.call hp HB1.out hgb); clear hp)
 clear HA2 HOP
 go_wp2
 go_loopg [] (T.length + 4) (fun f wr => ∃ (s' : Rs.RS) (l : List Ps.Tr) (v : Value), f ≤ (T.length + 4) ∧ RAc w g A c T fin w.heap.size ts w.heap.size 13 t.2.2 s' [] l v wr ∧ Rs.Mv T s1 s' ∧ (Rs.bad s' = false → T.length < s'.at_ + f) ∧ (Rs.bad s' = false → l.length ≤ s'.at_) ∧ l.length ≤ s'.at_ + 1 ∧ Rs.bytL (Rs.toks T fin) f l s' = RK)
 case atStart => exact ⟨s1, [], _, Nat.le_refl _, HA3.out, Rs.Mv.refl _ _, fun _ => by omega, fun _ => by simp, by simp, HRK.out⟩
 case round =>
  obtain ⟨s', l, v', hfF, hA, hmv, hrm, hl1, hl2, hR⟩ := hrel
  have HA := Hd hA
  have HR2 := Hd hR
  have HRM := Hd hrm
  have HL1 := Hd hl1
  have HMV := Hd hmv
  obtain ⟨Av, cv, rfl, -, -⟩ := hA.row.form
  have HIS := Hd fun (W : World) (h : RA W g A c (Rs.toks T fin) s') => ris_z h (HA.out.bd).lt 7 [93] (z := 7) rfl (xs := #[93]) rfl
  have HBA := Hd fun (W : World) (h : RA W g A c (Rs.toks T fin) s') => rbad_any h
  clear hA hR hrm hl1 hmv HA3 HRK
  have HSH := Hd fun (W : World) (h : RA W g A c (Rs.toks T fin) s') => rshut_any h HA.out.bd.lt (HA.out.bd.le hTl) ⟨HA.out.bd.lo, HA.out.bd.hi⟩ [93]
  have HBS : Hid (Rs.Bd T (Rs.shut (Rs.toks T fin) [93] s')) := Hd (HB0.out.shutm hk hlt (by rw [HS1.out]; exact HMV.out) [93])
  cases hkb : Rs.bad s' with
  | true =>
   have HE2 : Hid (R = (Ps.nd 13 [] l t.2.2, Rs.shut (Rs.toks T fin) [93] s')) := Hd (by
    have : RK = (l, s') := by rw [← HR2.out]; exact Rs.bytL_stop (by rw [hkb]; rfl)
    rw [HE.out, this])
   rw [hkb] at HBA
   clear hkb
   go_upto_region 10 with (first
    | (go_at_call 26; with_reducible refine (HBA.out _ HA.out.env.pa).mono ?_; rintro e w4 ⟨rfl, rfl⟩)
    | (go_at_call 102; refine (HSH.out _ HA.out.env.pa).mono ?_; rintro e w5 ⟨rfl, hp⟩; have HA5 := Hd (HA.out.call hp HBS.out hgb); clear hp))
   obtain ⟨a, a0, a1, a2, a3, a4, a5, a6⟩ := HA5.out.env.c7 0 rfl
   obtain ⟨b, b0, b1, b2, b3, b4, b5, b6⟩ := HA5.out.env.c7 1 rfl
   have fz := HA5.out.env.fz 1 rfl
   go_wp2
   obtain ⟨hb4, hnd⟩ := HA5.out.done (R := R) (HE2.out)
   exact bodyPost_ret (ret26 rfl _ _ rfl hb4) rfl hnd
  | false =>
   rw [hkb] at HBA
   cases hi : Rs.is_ (Rs.toks T fin) 7 [93] s' with
   | true =>
    have HE2 : Hid (R = (Ps.nd 13 [] l t.2.2, Rs.shut (Rs.toks T fin) [93] s')) := Hd (by
     have : RK = (l, s') := by rw [← HR2.out]; exact Rs.bytL_stop (by rw [hkb, hi]; rfl)
     rw [HE.out, this])
    rw [hi] at HIS
    clear hkb hi
    go_upto_region 10 with (first
     | (go_at_call 26; with_reducible refine (HBA.out _ HA.out.env.pa).mono ?_; rintro e w4 ⟨rfl, rfl⟩)
     | (go_at_call 38; with_reducible refine (HIS.out _ HA.out.env.pa).mono ?_; rintro e w4 ⟨rfl, hb⟩; have HA4 := Hd (HA.out.below hb); clear hb)
     | (go_at_call 102; refine (HSH.out _ HA4.out.env.pa).mono ?_; rintro e w5 ⟨rfl, hp⟩; have HA5 := Hd (HA4.out.call hp HBS.out hgb); clear hp))
    obtain ⟨a, a0, a1, a2, a3, a4, a5, a6⟩ := HA5.out.env.c7 0 rfl
    obtain ⟨b, b0, b1, b2, b3, b4, b5, b6⟩ := HA5.out.env.c7 1 rfl
    have fz := HA5.out.env.fz 1 rfl
    go_wp2
    obtain ⟨hb4, hnd⟩ := HA5.out.done (R := R) (HE2.out)
    exact bodyPost_ret (ret26 rfl _ _ rfl hb4) rfl hnd
   | false =>
    rw [hi] at HIS
    have hrm := HRM.out hkb
    have hl3 := HL1.out hkb
    have hat := HA.out.bd.at_
    obtain ⟨f, rfl⟩ : ∃ f, gk = f + 1 := ⟨gk - 1, by omega⟩
    have hx3 : 3 < 9223372036854775807 := by omega
    obtain ⟨i0, hii, hz0, hz1, hz2⟩ := info_parts info26
    obtain ⟨r, hr⟩ : ∃ r, Rs.take (Rs.toks T fin) 4 [] s' = r := ⟨_, rfl⟩
    have HR2b : Hid ((if Rs.bad r.2 then (l, r.2) else Rs.bytL (Rs.toks T fin) f (l ++ [Ps.nd 9 r.1.2.1 [] r.1.2.2]) (if Rs.big r.1.2.1 then Rs.fail r.2 123 r.1.2.2 else r.2)) = RK) := Hd (by rw [← HR2.out, ← hr]; conv => rhs; unfold Rs.bytL; dsimp only; rw [if_pos (by rw [hkb, hi]; rfl)])
    have HTK := Hd fun (W : World) (h : RA W g A c (Rs.toks T fin) s') => rtake_z h (HA.out.bd).lt ((HA.out.bd).le hTl) 4 [] (z := 4) rfl (xs := #[]) rfl
    have mq : Rs.Mv T s' r.2 := by rw [← hr]; exact Rs.mv_take (by decide) _ _
    have HMQ := Hd mq
    have HAT : Hid (Rs.bad r.2 = false → r.2.at_ = s'.at_ + 1 ∧ s'.at_ < T.length ∧ r.1.2.1.length ≤ 65536) := Hd (fun h => by
     rw [← hr] at h ⊢
     obtain ⟨e1, e2⟩ := Rs.take_adv h
     have hlt2 := Rs.is_lt (by decide) e2
     refine ⟨by rw [e1]; rfl, hlt2, ?_⟩
     rw [Rs.take_yes e2]
     exact tok_txt hT _)
    have HB9 := Hd (HA.out.bd.mv mq)
    have HSH2 := Hd fun (W : World) (h : RA W g A c (Rs.toks T fin) r.2) => rshut_any h HB9.out.lt (HB9.out.le hTl) ⟨HB9.out.lo, HB9.out.hi⟩ [93]
    have HBS2 : Hid (Rs.Bd T (Rs.shut (Rs.toks T fin) [93] r.2)) := Hd (HB0.out.shutm hk hlt (by rw [HS1.out]; exact HMV.out.trans mq) [93])
    rw [hr] at HTK
    clear hr hkb hi mq
    obtain ⟨tk, sk⟩ := r
    dsimp only at HTK HMQ HAT HB9 HR2b HSH2 HBS2
    go_upto_region 5 with (first
     | (go_at_call 26; with_reducible refine (HBA.out _ HA.out.env.pa).mono ?_; rintro e w4 ⟨rfl, rfl⟩)
     | (go_at_call 38; with_reducible refine (HIS.out _ HA.out.env.pa).mono ?_; rintro e w7 ⟨rfl, hb⟩; have HA4 := Hd (HA.out.below hb); clear hb)
     | (go_at_call 41; refine (HTK.out _ HA4.out.env.pa).mono ?_; rintro e w5 ⟨rfl, hp⟩; have HA5 := Hd (HA4.out.call hp HB9.out hgb); clear hp))
    refine wp_world (fun W => RAc w g A c T fin w.heap.size ts w.heap.size 13 t.2.2 sk [] l _ W ∧ Blk W w5.heap.size 40 _) ⟨HA5.out.below (new_below _ _), Blk.new _ _ _⟩ fun w6 h6 => ?_
    have HA6 := Hd h6.1
    have HB6 := Hd h6.2
    have HBA6 := Hd fun (W : World) (h : RA W g A c (Rs.toks T fin) sk) => rbad_any h
    clear h6 HA5 HA4 HA HIS HBA HSH HBS HTK
    cases hkb : Rs.bad sk with
    | true =>
     have HE2 : Hid (R = (Ps.nd 13 [] l t.2.2, Rs.shut (Rs.toks T fin) [93] sk)) := Hd (by
      have : RK = (l, sk) := by rw [← HR2b.out, if_pos hkb]
      rw [HE.out, this])
     rw [hkb] at HBA6
     clear hkb
     go_upto_region 10 with (first
      | (go_at_call 26; with_reducible refine (HBA6.out _ HA6.out.env.pa).mono ?_; rintro e w7 ⟨rfl, rfl⟩)
      | (go_at_call 102; refine (HSH2.out _ HA6.out.env.pa).mono ?_; rintro e w8 ⟨rfl, hp⟩; have HA8 := Hd (HA6.out.call hp HBS2.out hgb); clear hp))
     obtain ⟨a, a0, a1, a2, a3, a4, a5, a6⟩ := HA8.out.env.c7 0 rfl
     obtain ⟨b, b0, b1, b2, b3, b4, b5, b6⟩ := HA8.out.env.c7 1 rfl
     have fz := HA8.out.env.fz 1 rfl
     go_wp2
     obtain ⟨hb4, hnd⟩ := HA8.out.done (R := R) (HE2.out)
     exact bodyPost_ret (ret26 rfl _ _ rfl hb4) rfl hnd
    | false =>
     obtain ⟨hat1, hat2, htx⟩ := HAT.out hkb
     have hl3' := hl3
     have HR3 : Hid (Rs.bytL (Rs.toks T fin) f (l ++ [Ps.nd 9 tk.2.1 [] tk.2.2]) (if Rs.big tk.2.1 then Rs.fail sk 123 tk.2.2 else sk) = RK) := Hd (by have h9 := HR2b.out; rwa [if_neg (show ¬ (Rs.bad sk = true) by rw [hkb]; decide)] at h9)
     rw [hkb] at HBA6
     clear hkb
     go_upto_region 6 with (go_at_call 26; with_reducible refine (HBA6.out _ HA6.out.env.pa).mono ?_; rintro e w7 ⟨rfl, rfl⟩)
     have hbl := HB6.out.lt
     have hb1 := HB6.out.cell 1
     have hb2 := HB6.out.cell 2
     have HNE : Hid (w5.heap.size ≠ g) := Hd (Blk.ne_ HB6.out HA6.out.env.pa.ex (by decide))
     by_cases h3 : 3 < tk.2.1.length
     ·have d3 : ((3 : Int) < (tk.2.1.length : Int)) := by omega
      have HR4 : Hid (Rs.bytL (Rs.toks T fin) f (l ++ [Ps.nd 9 tk.2.1 [] tk.2.2]) (Rs.fail sk 123 tk.2.2) = RK) := Hd (by have h9 := HR3.out; rwa [if_pos (show (Rs.big tk.2.1 = true) by unfold Rs.big; simp [h3])] at h9)
      go_upto_region 8 with (go_at_call 42; refine (rfail_any HA6.out.env.pa 123 tk.2.2 (by decide)).mono ?_; rintro e w8 ⟨rfl, hp⟩; have HA7 := Hd (HA6.out.call hp (HA6.out.bd.mv (Rs.mv_fail _ _ _ _)) hgb); have HB7 := Hd (hp.1.blk HB6.out HNE.out); clear hp)
      clear hbl hb1 hb2 HA6 HB6
      have hbw7 : w.heap.size ≤ w8.heap.size := HA7.out.env.size
      obtain ⟨e0', e0, e1, e2, e3, e4, e5, e6⟩ := HA7.out.env.c7 0 rfl
      have ef := HA7.out.env.fz 0 rfl
      have b0' := HB7.out.lt
      have b0 := HB7.out.cell 0
      have b1 := HB7.out.cell 1
      have b2 := HB7.out.cell 2
      have HL7 := Hd HA7.out.lts
      have HLF := TrM.leaf w8 w8.heap.size (fun _ => False) 9 tk.2.1 tk.2.2
      obtain ⟨css, hcl, hown, hpush⟩ := HA7.out.push HLF (by omega) ⟨HL7.out.1, HL7.out.2.1, HL7.out.2.2.2.2⟩ hgb
      have HOWN := Hd hown
      have HPUSH := Hd hpush
      clear hown hpush hcl HLF
      go_wp2_with (at_builtin; refine wpList_append_any _ rfl (.tmp 43) (.tmp 49) 24 rfl w.heap.size 26 i0 _ 7 112 Tryz.underlying24 hii hz0 hz1 hz2 rfl (by decide) (.slice Av l.length cv) l.length css.flatten (by rfl) (World.ownsRow.alloc HOWN.out _) (w8.heap.size + 1) (some ⟨w8.heap.size, 0, none⟩) 1 1 _ (by rfl) (Reads.builtN w8 26 [_, _, _, _, _, _, _] 1 7 rfl) (by intro u hu; simp only [List.mem_cons, List.not_mem_nil, or_false] at hu; rcases hu with rfl | rfl | rfl | rfl | rfl | rfl | rfl <;> rfl) (by simp only [maxLen]; omega) (by omega) (by simp; omega) ?_; intro v6 wb hown6 hgrow6 hv6; obtain ⟨A6, c6, rfl, _, _⟩ := own_form hown6; obtain ⟨hcl, hfz, hlt6, hac⟩ := HPUSH.out _ _ _ hown6 hgrow6 (by simpa using hv6); have HAC := Hd hac; have kb := hcl 4; rw [e4] at kb; have kbf := hfz 4; clear hown6 hgrow6 hv6 hcl hfz hac)
      go_roundg f
      case measure => omega
      case rel => exact ⟨Rs.fail sk 123 tk.2.2, l ++ [Ps.nd 9 tk.2.1 [] tk.2.2], _, by omega, HAC.out, HMV.out.trans (HMQ.out.trans (Rs.mv_fail _ _ _ _)), fun hk => (by rw [Rs.bad_fail] at hk; cases hk), fun hk => (by rw [Rs.bad_fail] at hk; cases hk), by have : (Rs.fail sk 123 tk.2.2).at_ = sk.at_ := rfl; simp only [List.length_append, List.length_singleton]; omega, HR4.out⟩
     ·have d3 : decide ((3 : Int) < (tk.2.1.length : Int)) = false := by simp; omega
      by_cases h33 : tk.2.1.length = 3
      ·have d33 : ((tk.2.1.length : Int) == 3) = true := by simp; omega
       have dgt := gt_bytes tk.2.1 [50, 53, 53]
       cases hq1 : Op.bytesLess tk.2.1 [50, 53, 53] with
       | true =>
        have hd : ¬ ([50, 53, 53] < tk.2.1) := by rw [hq1] at dgt; simpa using dgt
        clear dgt
        have HR4 : Hid (Rs.bytL (Rs.toks T fin) f (l ++ [Ps.nd 9 tk.2.1 [] tk.2.2]) (sk) = RK) := Hd (by have h9 := HR3.out; rwa [if_neg (show ¬ (Rs.big tk.2.1 = true) by unfold Rs.big; simp [h33, hd])] at h9)
        go_upto_region 8 with fail
        have HA7 := HA6
        have HB7 := HB6
        obtain ⟨w8, hw8⟩ : ∃ w8, w7 = w8 := ⟨_, rfl⟩
        rw [hw8] at HA7 HB7 ⊢
        clear hw8
        clear hbl hb1 hb2 HA6 HB6
        have hbw7 : w.heap.size ≤ w8.heap.size := HA7.out.env.size
        obtain ⟨e0', e0, e1, e2, e3, e4, e5, e6⟩ := HA7.out.env.c7 0 rfl
        have ef := HA7.out.env.fz 0 rfl
        have b0' := HB7.out.lt
        have b0 := HB7.out.cell 0
        have b1 := HB7.out.cell 1
        have b2 := HB7.out.cell 2
        have HL7 := Hd HA7.out.lts
        have HLF := TrM.leaf w8 w8.heap.size (fun _ => False) 9 tk.2.1 tk.2.2
        obtain ⟨css, hcl, hown, hpush⟩ := HA7.out.push HLF (by omega) ⟨HL7.out.1, HL7.out.2.1, HL7.out.2.2.2.2⟩ hgb
        have HOWN := Hd hown
        have HPUSH := Hd hpush
        clear hown hpush hcl HLF
        go_wp2_with (at_builtin; refine wpList_append_any _ rfl (.tmp 43) (.tmp 49) 24 rfl w.heap.size 26 i0 _ 7 112 Tryz.underlying24 hii hz0 hz1 hz2 rfl (by decide) (.slice Av l.length cv) l.length css.flatten (by rfl) (World.ownsRow.alloc HOWN.out _) (w8.heap.size + 1) (some ⟨w8.heap.size, 0, none⟩) 1 1 _ (by rfl) (Reads.builtN w8 26 [_, _, _, _, _, _, _] 1 7 rfl) (by intro u hu; simp only [List.mem_cons, List.not_mem_nil, or_false] at hu; rcases hu with rfl | rfl | rfl | rfl | rfl | rfl | rfl <;> rfl) (by simp only [maxLen]; omega) (by omega) (by simp; omega) ?_; intro v6 wb hown6 hgrow6 hv6; obtain ⟨A6, c6, rfl, _, _⟩ := own_form hown6; obtain ⟨hcl, hfz, hlt6, hac⟩ := HPUSH.out _ _ _ hown6 hgrow6 (by simpa using hv6); have HAC := Hd hac; have kb := hcl 4; rw [e4] at kb; have kbf := hfz 4; clear hown6 hgrow6 hv6 hcl hfz hac)
        go_roundg f
        case measure => omega
        case rel => exact ⟨sk, l ++ [Ps.nd 9 tk.2.1 [] tk.2.2], _, by omega, HAC.out, HMV.out.trans HMQ.out, fun _ => by omega, fun _ => by simp only [List.length_append, List.length_singleton]; omega, by simp only [List.length_append, List.length_singleton]; omega, HR4.out⟩
       | false =>
        cases hq2 : tk.2.1 == [50, 53, 53] with
        | true =>
         have hd : ¬ ([50, 53, 53] < tk.2.1) := by rw [hq1, hq2] at dgt; simpa using dgt
         clear dgt
         have HR4 : Hid (Rs.bytL (Rs.toks T fin) f (l ++ [Ps.nd 9 tk.2.1 [] tk.2.2]) (sk) = RK) := Hd (by have h9 := HR3.out; rwa [if_neg (show ¬ (Rs.big tk.2.1 = true) by unfold Rs.big; simp [h33, hd])] at h9)
         go_upto_region 8 with fail
         have HA7 := HA6
         have HB7 := HB6
         obtain ⟨w8, hw8⟩ : ∃ w8, w7 = w8 := ⟨_, rfl⟩
         rw [hw8] at HA7 HB7 ⊢
         clear hw8
         clear hbl hb1 hb2 HA6 HB6
         have hbw7 : w.heap.size ≤ w8.heap.size := HA7.out.env.size
         obtain ⟨e0', e0, e1, e2, e3, e4, e5, e6⟩ := HA7.out.env.c7 0 rfl
         have ef := HA7.out.env.fz 0 rfl
         have b0' := HB7.out.lt
         have b0 := HB7.out.cell 0
         have b1 := HB7.out.cell 1
         have b2 := HB7.out.cell 2
         have HL7 := Hd HA7.out.lts
         have HLF := TrM.leaf w8 w8.heap.size (fun _ => False) 9 tk.2.1 tk.2.2
         obtain ⟨css, hcl, hown, hpush⟩ := HA7.out.push HLF (by omega) ⟨HL7.out.1, HL7.out.2.1, HL7.out.2.2.2.2⟩ hgb
         have HOWN := Hd hown
         have HPUSH := Hd hpush
         clear hown hpush hcl HLF
         go_wp2_with (at_builtin; refine wpList_append_any _ rfl (.tmp 43) (.tmp 49) 24 rfl w.heap.size 26 i0 _ 7 112 Tryz.underlying24 hii hz0 hz1 hz2 rfl (by decide) (.slice Av l.length cv) l.length css.flatten (by rfl) (World.ownsRow.alloc HOWN.out _) (w8.heap.size + 1) (some ⟨w8.heap.size, 0, none⟩) 1 1 _ (by rfl) (Reads.builtN w8 26 [_, _, _, _, _, _, _] 1 7 rfl) (by intro u hu; simp only [List.mem_cons, List.not_mem_nil, or_false] at hu; rcases hu with rfl | rfl | rfl | rfl | rfl | rfl | rfl <;> rfl) (by simp only [maxLen]; omega) (by omega) (by simp; omega) ?_; intro v6 wb hown6 hgrow6 hv6; obtain ⟨A6, c6, rfl, _, _⟩ := own_form hown6; obtain ⟨hcl, hfz, hlt6, hac⟩ := HPUSH.out _ _ _ hown6 hgrow6 (by simpa using hv6); have HAC := Hd hac; have kb := hcl 4; rw [e4] at kb; have kbf := hfz 4; clear hown6 hgrow6 hv6 hcl hfz hac)
         go_roundg f
         case measure => omega
         case rel => exact ⟨sk, l ++ [Ps.nd 9 tk.2.1 [] tk.2.2], _, by omega, HAC.out, HMV.out.trans HMQ.out, fun _ => by omega, fun _ => by simp only [List.length_append, List.length_singleton]; omega, by simp only [List.length_append, List.length_singleton]; omega, HR4.out⟩
        | false =>
         have hd : [50, 53, 53] < tk.2.1 := by rw [hq1, hq2] at dgt; simpa using dgt
         clear dgt
         have HR4 : Hid (Rs.bytL (Rs.toks T fin) f (l ++ [Ps.nd 9 tk.2.1 [] tk.2.2]) (Rs.fail sk 123 tk.2.2) = RK) := Hd (by have h9 := HR3.out; rwa [if_pos (show (Rs.big tk.2.1 = true) by unfold Rs.big; simp [h33, hd])] at h9)
         go_upto_region 8 with (go_at_call 42; refine (rfail_any HA6.out.env.pa 123 tk.2.2 (by decide)).mono ?_; rintro e w8 ⟨rfl, hp⟩; have HA7 := Hd (HA6.out.call hp (HA6.out.bd.mv (Rs.mv_fail _ _ _ _)) hgb); have HB7 := Hd (hp.1.blk HB6.out HNE.out); clear hp)
         clear hbl hb1 hb2 HA6 HB6
         have hbw7 : w.heap.size ≤ w8.heap.size := HA7.out.env.size
         obtain ⟨e0', e0, e1, e2, e3, e4, e5, e6⟩ := HA7.out.env.c7 0 rfl
         have ef := HA7.out.env.fz 0 rfl
         have b0' := HB7.out.lt
         have b0 := HB7.out.cell 0
         have b1 := HB7.out.cell 1
         have b2 := HB7.out.cell 2
         have HL7 := Hd HA7.out.lts
         have HLF := TrM.leaf w8 w8.heap.size (fun _ => False) 9 tk.2.1 tk.2.2
         obtain ⟨css, hcl, hown, hpush⟩ := HA7.out.push HLF (by omega) ⟨HL7.out.1, HL7.out.2.1, HL7.out.2.2.2.2⟩ hgb
         have HOWN := Hd hown
         have HPUSH := Hd hpush
         clear hown hpush hcl HLF
         go_wp2_with (at_builtin; refine wpList_append_any _ rfl (.tmp 43) (.tmp 49) 24 rfl w.heap.size 26 i0 _ 7 112 Tryz.underlying24 hii hz0 hz1 hz2 rfl (by decide) (.slice Av l.length cv) l.length css.flatten (by rfl) (World.ownsRow.alloc HOWN.out _) (w8.heap.size + 1) (some ⟨w8.heap.size, 0, none⟩) 1 1 _ (by rfl) (Reads.builtN w8 26 [_, _, _, _, _, _, _] 1 7 rfl) (by intro u hu; simp only [List.mem_cons, List.not_mem_nil, or_false] at hu; rcases hu with rfl | rfl | rfl | rfl | rfl | rfl | rfl <;> rfl) (by simp only [maxLen]; omega) (by omega) (by simp; omega) ?_; intro v6 wb hown6 hgrow6 hv6; obtain ⟨A6, c6, rfl, _, _⟩ := own_form hown6; obtain ⟨hcl, hfz, hlt6, hac⟩ := HPUSH.out _ _ _ hown6 hgrow6 (by simpa using hv6); have HAC := Hd hac; have kb := hcl 4; rw [e4] at kb; have kbf := hfz 4; clear hown6 hgrow6 hv6 hcl hfz hac)
         go_roundg f
         case measure => omega
         case rel => exact ⟨Rs.fail sk 123 tk.2.2, l ++ [Ps.nd 9 tk.2.1 [] tk.2.2], _, by omega, HAC.out, HMV.out.trans (HMQ.out.trans (Rs.mv_fail _ _ _ _)), fun hk => (by rw [Rs.bad_fail] at hk; cases hk), fun hk => (by rw [Rs.bad_fail] at hk; cases hk), by have : (Rs.fail sk 123 tk.2.2).at_ = sk.at_ := rfl; simp only [List.length_append, List.length_singleton]; omega, HR4.out⟩
      ·have d33 : ((tk.2.1.length : Int) == 3) = false := by simp; omega
       have HR4 : Hid (Rs.bytL (Rs.toks T fin) f (l ++ [Ps.nd 9 tk.2.1 [] tk.2.2]) (sk) = RK) := Hd (by have h9 := HR3.out; rwa [if_neg (show ¬ (Rs.big tk.2.1 = true) by unfold Rs.big; simp [h33, h3])] at h9)
       go_upto_region 8 with fail
       have HA7 := HA6
       have HB7 := HB6
       obtain ⟨w8, hw8⟩ : ∃ w8, w7 = w8 := ⟨_, rfl⟩
       rw [hw8] at HA7 HB7 ⊢
       clear hw8
       clear hbl hb1 hb2 HA6 HB6
       have hbw7 : w.heap.size ≤ w8.heap.size := HA7.out.env.size
       obtain ⟨e0', e0, e1, e2, e3, e4, e5, e6⟩ := HA7.out.env.c7 0 rfl
       have ef := HA7.out.env.fz 0 rfl
       have b0' := HB7.out.lt
       have b0 := HB7.out.cell 0
       have b1 := HB7.out.cell 1
       have b2 := HB7.out.cell 2
       have HL7 := Hd HA7.out.lts
       have HLF := TrM.leaf w8 w8.heap.size (fun _ => False) 9 tk.2.1 tk.2.2
       obtain ⟨css, hcl, hown, hpush⟩ := HA7.out.push HLF (by omega) ⟨HL7.out.1, HL7.out.2.1, HL7.out.2.2.2.2⟩ hgb
       have HOWN := Hd hown
       have HPUSH := Hd hpush
       clear hown hpush hcl HLF
       go_wp2_with (at_builtin; refine wpList_append_any _ rfl (.tmp 43) (.tmp 49) 24 rfl w.heap.size 26 i0 _ 7 112 Tryz.underlying24 hii hz0 hz1 hz2 rfl (by decide) (.slice Av l.length cv) l.length css.flatten (by rfl) (World.ownsRow.alloc HOWN.out _) (w8.heap.size + 1) (some ⟨w8.heap.size, 0, none⟩) 1 1 _ (by rfl) (Reads.builtN w8 26 [_, _, _, _, _, _, _] 1 7 rfl) (by intro u hu; simp only [List.mem_cons, List.not_mem_nil, or_false] at hu; rcases hu with rfl | rfl | rfl | rfl | rfl | rfl | rfl <;> rfl) (by simp only [maxLen]; omega) (by omega) (by simp; omega) ?_; intro v6 wb hown6 hgrow6 hv6; obtain ⟨A6, c6, rfl, _, _⟩ := own_form hown6; obtain ⟨hcl, hfz, hlt6, hac⟩ := HPUSH.out _ _ _ hown6 hgrow6 (by simpa using hv6); have HAC := Hd hac; have kb := hcl 4; rw [e4] at kb; have kbf := hfz 4; clear hown6 hgrow6 hv6 hcl hfz hac)
       go_roundg f
       case measure => omega
       case rel => exact ⟨sk, l ++ [Ps.nd 9 tk.2.1 [] tk.2.2], _, by omega, HAC.out, HMV.out.trans HMQ.out, fun _ => by omega, fun _ => by simp only [List.length_append, List.length_singleton]; omega, by simp only [List.length_append, List.length_singleton]; omega, HR4.out⟩
end Go.Proofs.YtbnlnndeajjenaaGreat
