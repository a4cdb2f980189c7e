/-
  Parts RxK of the proof. No statement of the seat is proved here.
-/
import Derived.Test.YtbnlnndeajjenaaGreatP20
set_option maxHeartbeats 4000000
namespace Go.Proofs.YtbnlnndeajjenaaGreat
open Go.RowKit
set_option maxRecDepth 100000 in
set_option maxHeartbeats 8000000 in
theorem rstat_any {g c fin F : Nat} {A : Option Addr} {T : List Lx.Tk} (hT : Ps.Fits 65536 T) (ih : ∀ f, f < F → RWAll g A c T fin f) (m : Lx.Txt) (s : Rs.RS) (w : World) (h : RA w g A c (Rs.toks T fin) s) (hb : Rs.Bd T s) (hf : Rs.bad s = false → Rs.rem T s + 8 ≤ F) :
  Calls Tryz.prog 25 #[.pointer (some ⟨g, 0, none⟩), .string ⟨m.toArray⟩] w (RTs w g A c T fin (Rs.stL (Rs.toks T fin) F m [] s)) := by
 have hTl := hT.len
 have hgb := h.lt
 have HS0 : Hid (RSt w g A c T fin s [] (.slice none 0 0) w) := Hd ⟨Ev.start h, TsM.nil _ _ _, hb⟩
 obtain ⟨R, hR⟩ : ∃ R, Rs.stL (Rs.toks T fin) F m [] s = R := ⟨_, rfl⟩
 rw [hR]
 have HR := Hd hR
 have IH := Hd ih
 have HF := Hd hf
 obtain ⟨i0, hii, hz0, hz1, hz2⟩ := info_parts info26
 clear h hb ih hR hf
 go_enter Tryz.func25, Tryz.ntmps25
 go_upto_block 0 with fail
 go_wp2
 go_loopg [5] F (fun f v wr => ∃ (s' : Rs.RS) (l : List Ps.Tr) (vv : Value), v = vv ∧ f ≤ F ∧ RSt w g A c T fin s' l vv wr ∧ Rs.Mv T s s' ∧ (Rs.bad s' = false → Rs.rem T s' + 8 ≤ f) ∧ (Rs.bad s' = false → l.length ≤ s'.at_) ∧ Rs.stL (Rs.toks T fin) f m l s' = R)
 case atStart => exact ⟨s, [], _, rfl, Nat.le_refl _, HS0.out, Rs.Mv.refl _ _, HF.out, fun _ => by simp, HR.out⟩
 case round =>
  obtain ⟨s', l, vv, rfl, hfF, hS, hmv, hrm, hll, hR⟩ := hrel
  have HS := Hd hS
  have HR2 := Hd hR
  have HRM := Hd hrm
  have HLL := Hd hll
  have HMV := Hd hmv
  have hat := hS.bd.at_
  obtain ⟨Av, cv, rfl, -, -⟩ := HS.out.row.form
  have HBA := Hd fun (W : World) (h : RA W g A c (Rs.toks T fin) s') => rbad_any h
  have HSH := Hd fun (W : World) (h : RA W g A c (Rs.toks T fin) s') => rshuts_any h HS.out.bd.lt m
  have HI := Hd fun (W : World) (h : RA W g A c (Rs.toks T fin) s') => ris_z h (HS.out.bd).lt 7 [94] (z := 7) rfl (xs := #[94]) rfl
  clear hS hR hrm hll hmv HS0 HR
  cases hkb : Rs.bad s' with
  | true =>
   have HR9 : Hid (R = (l, s')) := Hd (by rw [← HR2.out]; exact Rs.stL_bad hkb)
   rw [hkb] at HBA
   clear hkb
   go_wp2_with (go_at_call 26; with_reducible refine (HBA.out _ HS.out.env.pa).mono ?_; rintro e wq ⟨rfl, rfl⟩)
   (try simp only [Exit.inBlock, Exit.then]); go_ret
   rw [HR9.out]
   exact ⟨_, rfl, HS.out.env.pp, HS.out.bd, HS.out.row⟩
  | false =>
  rw [hkb] at HBA
  have hrm := HRM.out hkb
  have hll := HLL.out hkb
  obtain ⟨f, rfl⟩ : ∃ f, gk = f + 1 := ⟨gk - 1, by omega⟩
  cases hsh : Rs.shuts (Rs.toks T fin) m s' with
  | true =>
   have HR9 : Hid (R = (l, s')) := Hd (by rw [← HR2.out, Rs.stL, if_pos (by rw [hsh]; simp)])
   rw [hsh] at HSH
   clear hkb hsh
   go_wp2_with (first
    | (go_at_call 26; with_reducible refine (HBA.out _ HS.out.env.pa).mono ?_; rintro e wq ⟨rfl, rfl⟩)
    | (go_at_call 43; with_reducible refine (HSH.out _ HS.out.env.pa).mono ?_; rintro e hs4 ⟨rfl, hb⟩; have HS4 := Hd (HS.out.below hb); clear hb))
   (try simp only [Exit.inBlock, Exit.then]); go_ret
   rw [HR9.out]
   exact ⟨_, rfl, HS4.out.env.pp, HS4.out.bd, HS4.out.row⟩
  | false =>
   rw [hsh] at HSH
   cases hi : Rs.is_ (Rs.toks T fin) 7 [94] s' with
   | true =>
    rw [hi] at HI
    have hlt := Rs.is_lt (by decide) hi
    obtain ⟨t, ht⟩ : ∃ t, Rs.tok (Rs.toks T fin) s' = t := ⟨_, rfl⟩
    obtain ⟨pe, hpe⟩ : ∃ x, Rs.expr (Rs.toks T fin) f (Rs.adv s') = x := ⟨_, rfl⟩
    have hra := Rs.rem_adv (T := T) (s := s') (s' := Rs.adv s') (Nat.lt_succ_self _) hlt
    have HRE : Hid (R = if Rs.bad pe.2 || Rs.shuts (Rs.toks T fin) m pe.2 then (l ++ [Ps.nd 3 [] [pe.1] t.2.2], pe.2) else Rs.stL (Rs.toks T fin) f m (l ++ [Ps.nd 3 [] [pe.1] t.2.2]) (if !Rs.shuts (Rs.toks T fin) m (Rs.take (Rs.toks T fin) 7 [46] pe.2).2 then Rs.fail (Rs.take (Rs.toks T fin) 7 [46] pe.2).2 124 (Rs.tok (Rs.toks T fin) (Rs.take (Rs.toks T fin) 7 [46] pe.2).2).2.2 else (Rs.take (Rs.toks T fin) 7 [46] pe.2).2)) := Hd (by rw [← HR2.out, Rs.stL, if_neg (by rw [hkb, hsh]; decide), hi]; simp only [↓reduceIte, Bool.true_and, hpe, ht])
    have HTK := Hd fun (W : World) (h : RA W g A c (Rs.toks T fin) s') => rtake_z h (HS.out.bd).lt ((HS.out.bd).le hTl) 7 [94] (z := 7) rfl (xs := #[94]) rfl
    rw [Rs.take_yes hi, ht] at HTK
    have HBA2 := Hd (HS.out.bd.adv hlt)
    have HEX := Hd fun (W : World) (h : RA W g A c (Rs.toks T fin) (Rs.adv s')) => (IH.out f (by omega)).expr (Rs.adv s') W h HBA2.out (fun _ => by omega)
    have HMP0 : Hid (Rs.Mv T (Rs.adv s') pe.2) := Hd (by rw [← hpe]; exact (Rs.mvAll (T := T) (fin := fin) f).expr _ hlt)
    have HMP : Hid (Rs.Mv T s' pe.2) := Hd ((Rs.mv_adv hlt).trans HMP0.out)
    have hple : s'.at_ ≤ pe.2.at_ := (HMP.out.at_ hat).1
    rw [hpe] at HEX
    clear hkb hsh hi ht hpe
    go_upto_region 6 with (first
     | (go_at_call 26; with_reducible refine (HBA.out _ HS.out.env.pa).mono ?_; rintro e wq ⟨rfl, rfl⟩)
     | (go_at_call 43; with_reducible refine (HSH.out _ HS.out.env.pa).mono ?_; rintro e hs4 ⟨rfl, hb⟩; have HS4 := Hd (HS.out.below hb); clear hb)
     | (go_at_call 38; with_reducible refine (HI.out _ HS4.out.env.pa).mono ?_; rintro e hs5 ⟨rfl, hb⟩; have HS5 := Hd (HS4.out.below hb); clear hb)
     | (go_at_call 41; refine (HTK.out _ HS5.out.env.pa).mono ?_; rintro e w6 ⟨rfl, hp⟩; have HS6 := Hd (HS5.out.call hp HBA2.out); clear hp))
    obtain ⟨tb, htb⟩ : ∃ tb, w6.heap.size = tb := ⟨_, rfl⟩
    refine wp_world (fun W => RSt w g A c T fin (Rs.adv s') l _ W ∧ Blk W w6.heap.size 40 #[.int .i64 (t.1 : Int), .string ⟨t.2.1.toArray⟩, .int .i64 (t.2.2 : Int)]) ⟨HS6.out.below (new_below _ _), Blk.new _ _ _⟩ fun w7 h7 => ?_
    rw [htb] at h7 ⊢
    have HS7 := Hd h7.1
    have HK7 := Hd h7.2
    have hr7 := h7.1.rows
    have HNE : Hid (tb ≠ g) := Hd (Blk.ne_ h7.2 h7.1.env.pa.ex (by decide))
    have hS6 : w7.drew.cell? ⟨tb, 2, none⟩ = some (.int .i64 (t.2.2 : Int)) := h7.2.cell 2
    have hlk := h7.2.lt
    clear h7 HS HS4 HS5 HS6 HSH HI HBA HTK htb
    refine wp_region_x (s := 9) (S := fun W => W.cell? ⟨tb, 2, none⟩ = some (.int .i64 (t.2.2 : Int))) (by kernel_rfl) hS6 (fun hHeld => ?_)
    refine xt (i := 0) ?_
    refine xt (i := 1) ?_
    refine xt (i := 4) ?_
    refine xt (i := 5) ?_
    refine x1 (i := 2) (fun K2 hK2 => ?_)
    go_simp
    go_at_call 44
    refine (HEX.out _ HS7.out.env.pa.drew).mono ?_
    rintro e wa ⟨cs, rfl, hp, hbq, ht⟩
    have hza : w7.heap.size ≤ wa.heap.size := hp.1.size
    have HSa := Hd ((HS7.out.below (Below.refl _ _).drew).call hp hbq)
    have HKa := Hd (hp.1.blk (Blk.drew HK7.out) HNE.out)
    have qa := HKa.out.cell 2
    obtain ⟨p0, p1, C1, o1, e1, C2, o2, e2, C3, o3, e3, p5, p6, rfl⟩ := ht.form
    have hx6 : w7.heap.size ≤ wa.heap.size := hza
    have hT1 := TsM.one ht hx6 (fun e => e)
    have hT2 := TrM.nd (l := [pe.1]) 3 [] t.2.2 hT1
    obtain ⟨css, hcl, hown, hpush⟩ := (HSa.out.below (new_below wa (.cells #[.int .i64 (p0 : Int), .string ⟨p1.toArray⟩, .slice C1 o1 e1, .slice C2 o2 e2, .slice C3 o3 e3, .int .i64 (p5 : Int), .int .i64 (p6 : Int)] 26))).push hT2 HS7.out.env.size hr7
    have HOWN := Hd hown
    have HPUSH := Hd hpush
    have hsz : (wa.alloc (.cells #[.int .i64 (p0 : Int), .string ⟨p1.toArray⟩, .slice C1 o1 e1, .slice C2 o2 e2, .slice C3 o3 e3, .int .i64 (p5 : Int), .int .i64 (p6 : Int)] 26)).heap.size = wa.heap.size + 1 := by simp
    have hrd := Reads.builtN (wa.alloc (.cells #[.int .i64 (p0 : Int), .string ⟨p1.toArray⟩, .slice C1 o1 e1, .slice C2 o2 e2, .slice C3 o3 e3, .int .i64 (p5 : Int), .int .i64 (p6 : Int)] 26)) 26 [.int .i64 3, .string ⟨#[]⟩, .slice none 0 0, .slice none 0 0, .slice (some ⟨wa.heap.size, 0, none⟩) 1 1, .int .i64 0, .int .i64 (t.2.2 : Int)] 1 7 rfl
    rw [hsz] at hrd
    have HRD := Hd hrd
    have hsa := HSa.out.env.size
    clear hown hpush hcl hT1 hT2 hrd hsz hp hbq ht
    try go_simp
    refine hK2.out _ _ (qa) (fun hHeld => ?_)
    clear hK2 K2
    refine x1 (i := 3) (fun K2 hK2 => ?_)
    go_simp
    refine hK2.out _ _ (by go_keep) (fun hHeld => ?_)
    clear hK2 K2
    refine xt (i := 6) ?_
    refine x1 (i := 7) (fun K2 hK2 => ?_)
    go_simp
    refine hK2.out _ _ (by go_keep) (fun hHeld => ?_)
    clear hK2 K2
    refine x1 (i := 8) (fun K2 hK2 => ?_)
    refine step_append_any _ rfl (.tmp 22) (.tmp 29) 24 rfl w.heap.size 26 i0 _ 7 112 Tryz.underlying24 hii hz0 hz1 hz2 rfl (by decide) (.slice Av l.length cv) l.length css.flatten (by rfl) (World.ownsRow.alloc HOWN.out _) ((wa.heap.size + 1) + 1) (some ⟨wa.heap.size + 1, 0, none⟩) 1 1 _ (by rfl) (HRD.out) (by intro u hu; simp only [List.mem_cons, List.not_mem_nil, or_false] at hu; rcases hu with rfl | rfl | rfl | rfl | rfl | rfl | rfl <;> rfl) (by simp only [maxLen]; omega) (by omega) (by simp; omega) ?_
    intro v6 wb hown6 hgrow6 hv6
    have HST := Hd (HPUSH.out _ _ _ hown6 hgrow6 (by simpa using hv6))
    have kb := ((Blk.alloc (Blk.alloc HKa.out _) _).grown hgrow6 (fun e => own_blk_ne HOWN.out (Blk.alloc HKa.out _) (by decide) e.symm)).cell 2
    obtain ⟨A6, c6, rfl, _, _⟩ := own_form hown6
    clear hown6 hgrow6 hv6
    try go_simp
    refine hK2.out _ _ (kb) (fun hHeld => ?_)
    clear hK2 K2
    try simp only [Act.put, List.setIfInBounds_toArray, List.set_cons_zero, List.set_cons_succ]
    refine xl (fun K2 hK2 => ?_)
    go_simp
    refine hK2.out _ _ ?_
    clear hK2 K2
    try simp only [Act.put, List.setIfInBounds_toArray, List.set_cons_zero, List.set_cons_succ]
    refine wpAnyX_done (by kernel_rfl) ?_ _
    clear hHeld kb qa hlk hS6
    go_upto_region 8 with fail
    refine wp_world (fun W => RSt w g A c T fin pe.2 (l ++ [Ps.nd 3 [] [pe.1] t.2.2]) _ W) HST.out fun w8 h8 => ?_
    clear HST HPUSH HOWN HRD HSa HKa HS7 HK7
    have HST := Hd h8
    clear h8
    have HBP := Hd fun (W : World) (h : RA W g A c (Rs.toks T fin) pe.2) => rbad_any h
    have HSP := Hd fun (W : World) (h : RA W g A c (Rs.toks T fin) pe.2) => rshuts_any h HST.out.bd.lt m
    cases hkp : Rs.bad pe.2 with
    | true =>
     have HR9 : Hid (R = (l ++ [Ps.nd 3 [] [pe.1] t.2.2], pe.2)) := Hd (by rw [HRE.out, if_pos (by rw [hkp]; rfl)])
     rw [hkp] at HBP
     clear hkp
     go_wp2_with (go_at_call 26; with_reducible refine (HBP.out _ HST.out.env.pa).mono ?_; rintro e wq ⟨rfl, rfl⟩)
     (try simp only [Exit.inBlock, Exit.then]); go_ret
     rw [HR9.out]
     exact ⟨_, rfl, HST.out.env.pp, HST.out.bd, HST.out.row⟩
    | false =>
     rw [hkp] at HBP
     cases hsp : Rs.shuts (Rs.toks T fin) m pe.2 with
     | true =>
      have HR9 : Hid (R = (l ++ [Ps.nd 3 [] [pe.1] t.2.2], pe.2)) := Hd (by rw [HRE.out, if_pos (by rw [hsp]; simp)])
      rw [hsp] at HSP
      clear hkp hsp
      go_wp2_with (first
       | (go_at_call 26; with_reducible refine (HBP.out _ HST.out.env.pa).mono ?_; rintro e wq ⟨rfl, rfl⟩)
       | (go_at_call 43; with_reducible refine (HSP.out _ HST.out.env.pa).mono ?_; rintro e hs9 ⟨rfl, hb⟩; have HS9 := Hd (HST.out.below hb); clear hb))
      (try simp only [Exit.inBlock, Exit.then]); go_ret
      rw [HR9.out]
      exact ⟨_, rfl, HS9.out.env.pp, HS9.out.bd, HS9.out.row⟩
     | false =>
      obtain ⟨q, hq⟩ : ∃ q, Rs.take (Rs.toks T fin) 7 [46] pe.2 = q := ⟨_, rfl⟩
      have mq : Rs.Mv T pe.2 q.2 := by rw [← hq]; exact Rs.mv_take (by decide) _ _
      have HMQ := Hd mq
      have HAD : Hid (Rs.bad q.2 = false → q.2.at_ = pe.2.at_ + 1 ∧ pe.2.at_ < T.length) := Hd (fun h => by
       rw [← hq] at h ⊢
       obtain ⟨e1, e2⟩ := Rs.take_adv h
       exact ⟨by rw [e1]; rfl, Rs.is_lt (by decide) e2⟩)
      have HTK := Hd fun (W : World) (h : RA W g A c (Rs.toks T fin) pe.2) => rtake_z h (HST.out.bd).lt ((HST.out.bd).le hTl) 7 [46] (z := 7) rfl (xs := #[46]) rfl
      have HBQ := Hd (HST.out.bd.mv mq)
      rw [hq] at HTK
      have HSQ := Hd fun (W : World) (h : RA W g A c (Rs.toks T fin) q.2) => rshuts_any h HBQ.out.lt m
      obtain ⟨tq, htq⟩ : ∃ tq, Rs.tok (Rs.toks T fin) q.2 = tq := ⟨_, rfl⟩
      have HTQ := Hd fun (W : World) (h : RA W g A c (Rs.toks T fin) q.2) => rtok_any h (HBQ.out).lt
      rw [htq] at HTQ
      have hq2 := fld2 (.int .i64 (tq.1 : Int)) (.string ⟨tq.2.1.toArray⟩) (.int .i64 (tq.2.2 : Int))
      have HR8 : Hid (R = Rs.stL (Rs.toks T fin) f m (l ++ [Ps.nd 3 [] [pe.1] t.2.2]) (if !Rs.shuts (Rs.toks T fin) m q.2 then Rs.fail q.2 124 tq.2.2 else q.2)) := Hd (by rw [HRE.out, if_neg (by rw [hkp, hsp]; decide), hq, htq])
      rw [hsp] at HSP
      clear hkp hsp hq mq htq
      cases hsq : Rs.shuts (Rs.toks T fin) m q.2 with
      | true =>
       have HR9 : Hid (Rs.stL (Rs.toks T fin) f m (l ++ [Ps.nd 3 [] [pe.1] t.2.2]) q.2 = R) := Hd (by rw [HR8.out, hsq]; rfl)
       rw [hsq] at HSQ
       clear hsq
       go_wp2_with (first
        | (go_at_call 26; with_reducible refine (HBP.out _ HST.out.env.pa).mono ?_; rintro e wq ⟨rfl, rfl⟩)
        | (go_at_call 43; with_reducible refine (HSP.out _ HST.out.env.pa).mono ?_; rintro e hs9 ⟨rfl, hb⟩; have HS9 := Hd (HST.out.below hb); clear hb)
        | (go_at_call 41; refine (HTK.out _ HS9.out.env.pa).mono ?_; rintro e w10 ⟨rfl, hp⟩; have HS10 := Hd (HS9.out.call hp HBQ.out); clear hp)
        | (go_at_call 43; with_reducible refine (HSQ.out _ HS10.out.env.pa).mono ?_; rintro e hs11 ⟨rfl, hb⟩; have HS11 := Hd (HS10.out.below hb); clear hb))
       go_roundg f
       case measure => omega
       case rel => exact ⟨q.2, l ++ [Ps.nd 3 [] [pe.1] t.2.2], _, rfl, by omega, HS11.out, HMV.out.trans (HMP.out.trans HMQ.out), fun hk => by have := HAD.out hk; have := Rs.rem_adv (T := T) (s := s') (s' := q.2) (by omega) (by omega); omega, fun hk => by have := HAD.out hk; simp only [List.length_append, List.length_singleton]; omega, HR9.out⟩
      | false =>
       have HR9 : Hid (Rs.stL (Rs.toks T fin) f m (l ++ [Ps.nd 3 [] [pe.1] t.2.2]) (Rs.fail q.2 124 tq.2.2) = R) := Hd (by rw [HR8.out, hsq]; rfl)
       rw [hsq] at HSQ
       clear hsq
       go_wp2_with (first
        | (go_at_call 26; with_reducible refine (HBP.out _ HST.out.env.pa).mono ?_; rintro e wq ⟨rfl, rfl⟩)
        | (go_at_call 43; with_reducible refine (HSP.out _ HST.out.env.pa).mono ?_; rintro e hs9 ⟨rfl, hb⟩; have HS9 := Hd (HST.out.below hb); clear hb)
        | (go_at_call 41; refine (HTK.out _ HS9.out.env.pa).mono ?_; rintro e w10 ⟨rfl, hp⟩; have HS10 := Hd (HS9.out.call hp HBQ.out); clear hp)
        | (go_at_call 43; with_reducible refine (HSQ.out _ HS10.out.env.pa).mono ?_; rintro e hs11 ⟨rfl, hb⟩; have HS11 := Hd (HS10.out.below hb); clear hb)
        | (go_at_call 37; refine (HTQ.out _ HS11.out.env.pa).mono ?_; rintro e w12 ⟨rfl, hb⟩; have HS12 := Hd (HS11.out.below hb); clear hb)
        | (go_at_call 42; refine (rfail_any HS12.out.env.pa 124 tq.2.2 (by decide)).mono ?_; rintro e w13 ⟨rfl, hp⟩; have HS13 := Hd (HS12.out.call hp (HS12.out.bd.mv (Rs.mv_fail _ _ _ _))); clear hp))
       go_roundg f
       case measure => omega
       case rel => exact ⟨Rs.fail q.2 124 tq.2.2, l ++ [Ps.nd 3 [] [pe.1] t.2.2], _, rfl, by omega, HS13.out, HMV.out.trans (HMP.out.trans (HMQ.out.trans (Rs.mv_fail _ _ _ _))), fun hk => (by rw [Rs.bad_fail] at hk; cases hk), fun hk => (by rw [Rs.bad_fail] at hk; cases hk), HR9.out⟩
   | false =>
    rw [hi] at HI
    obtain ⟨pe, hpe⟩ : ∃ x, Rs.expr (Rs.toks T fin) f s' = x := ⟨_, rfl⟩
    have HRE : Hid (R = if Rs.bad pe.2 || Rs.shuts (Rs.toks T fin) m pe.2 then (l ++ [pe.1], pe.2) else Rs.stL (Rs.toks T fin) f m (l ++ [pe.1]) (Rs.take (Rs.toks T fin) 7 [46] pe.2).2) := Hd (by rw [← HR2.out, Rs.stL, if_neg (by rw [hkb, hsh]; decide), hi]; simp only [↓reduceIte, Bool.false_eq_true, Bool.false_and, hpe])
    have HEX := Hd fun (W : World) (h : RA W g A c (Rs.toks T fin) s') => (IH.out f (by omega)).expr s' W h HS.out.bd (fun _ => by omega)
    have HMP : Hid (Rs.Mv T s' pe.2) := Hd (by rw [← hpe]; exact (Rs.mvAll (T := T) (fin := fin) f).expr _ hat)
    have hple : s'.at_ ≤ pe.2.at_ := (HMP.out.at_ hat).1
    rw [hpe] at HEX
    clear hkb hsh hi hpe
    go_upto_region 7 with (first
     | (go_at_call 26; with_reducible refine (HBA.out _ HS.out.env.pa).mono ?_; rintro e wq ⟨rfl, rfl⟩)
     | (go_at_call 43; with_reducible refine (HSH.out _ HS.out.env.pa).mono ?_; rintro e hs4 ⟨rfl, hb⟩; have HS4 := Hd (HS.out.below hb); clear hb)
     | (go_at_call 38; with_reducible refine (HI.out _ HS4.out.env.pa).mono ?_; rintro e hs5 ⟨rfl, hb⟩; have HS5 := Hd (HS4.out.below hb); clear hb))
    have hr5 := HS5.out.rows
    have hz5 := HS5.out.env.size
    clear HS HS4 HSH HI HBA
    go_upto_region 8 with (first
     | (go_at_call 44; refine (HEX.out _ HS5.out.env.pa).mono ?_; rintro e wa ⟨cs5, rfl, hp5, hb5, ht5⟩; have hza := hp5.1.size; have HSa := Hd (HS5.out.call hp5 hb5); obtain ⟨p0, p1, C1, o1, e1, C2, o2, e2, C3, o3, e3, p5, p6, rfl⟩ := ht5.form; obtain ⟨css, hcl, hown, hpush⟩ := HSa.out.push ht5 hz5 hr5; have HOWN := Hd hown; have HPUSH := Hd hpush; clear hp5 hb5 ht5 hown hpush hcl)
     | (at_builtin; refine wpList_append_any _ rfl (.tmp 31) (.tmp 34) 24 rfl w.heap.size 26 i0 _ 7 112 Tryz.underlying24 hii hz0 hz1 hz2 rfl (by decide) (.slice Av l.length cv) l.length css.flatten (by rfl) (World.ownsRow.alloc HOWN.out _) (wa.heap.size + 1) (some ⟨wa.heap.size, 0, none⟩) 1 1 _ (by rfl) (Reads.builtN wa 26 [_, _, _, _, _, _, _] 1 7 rfl) (by intro u hu; simp only [List.mem_cons, List.not_mem_nil, or_false] at hu; rcases hu with rfl | rfl | rfl | rfl | rfl | rfl | rfl <;> rfl) (by simp only [maxLen]; omega) (by omega) (by simp; omega) ?_; intro v6 wb hown6 hgrow6 hv6; have HST := Hd (HPUSH.out _ _ _ hown6 hgrow6 (by simpa using hv6)); obtain ⟨A6, c6, rfl, _, _⟩ := own_form hown6; clear hown6 hgrow6 hv6))
    clear HPUSH HOWN HSa HS5
    have HBP := Hd fun (W : World) (h : RA W g A c (Rs.toks T fin) pe.2) => rbad_any h
    have HSP := Hd fun (W : World) (h : RA W g A c (Rs.toks T fin) pe.2) => rshuts_any h HST.out.bd.lt m
    cases hkp : Rs.bad pe.2 with
    | true =>
     have HR9 : Hid (R = (l ++ [pe.1], pe.2)) := Hd (by rw [HRE.out, if_pos (by rw [hkp]; rfl)])
     rw [hkp] at HBP
     clear hkp
     go_wp2_with (go_at_call 26; with_reducible refine (HBP.out _ HST.out.env.pa).mono ?_; rintro e wq ⟨rfl, rfl⟩)
     (try simp only [Exit.inBlock, Exit.then]); go_ret
     rw [HR9.out]
     exact ⟨_, rfl, HST.out.env.pp, HST.out.bd, HST.out.row⟩
    | false =>
     rw [hkp] at HBP
     cases hsp : Rs.shuts (Rs.toks T fin) m pe.2 with
     | true =>
      have HR9 : Hid (R = (l ++ [pe.1], pe.2)) := Hd (by rw [HRE.out, if_pos (by rw [hsp]; simp)])
      rw [hsp] at HSP
      clear hkp hsp
      go_wp2_with (first
       | (go_at_call 26; with_reducible refine (HBP.out _ HST.out.env.pa).mono ?_; rintro e wq ⟨rfl, rfl⟩)
       | (go_at_call 43; with_reducible refine (HSP.out _ HST.out.env.pa).mono ?_; rintro e hs9 ⟨rfl, hb⟩; have HS9 := Hd (HST.out.below hb); clear hb))
      (try simp only [Exit.inBlock, Exit.then]); go_ret
      rw [HR9.out]
      exact ⟨_, rfl, HS9.out.env.pp, HS9.out.bd, HS9.out.row⟩
     | false =>
      obtain ⟨q, hq⟩ : ∃ q, Rs.take (Rs.toks T fin) 7 [46] pe.2 = q := ⟨_, rfl⟩
      have mq : Rs.Mv T pe.2 q.2 := by rw [← hq]; exact Rs.mv_take (by decide) _ _
      have HMQ := Hd mq
      have HAD : Hid (Rs.bad q.2 = false → q.2.at_ = pe.2.at_ + 1 ∧ pe.2.at_ < T.length) := Hd (fun h => by
       rw [← hq] at h ⊢
       obtain ⟨e1, e2⟩ := Rs.take_adv h
       exact ⟨by rw [e1]; rfl, Rs.is_lt (by decide) e2⟩)
      have HTK := Hd fun (W : World) (h : RA W g A c (Rs.toks T fin) pe.2) => rtake_z h (HST.out.bd).lt ((HST.out.bd).le hTl) 7 [46] (z := 7) rfl (xs := #[46]) rfl
      have HBQ := Hd (HST.out.bd.mv mq)
      rw [hq] at HTK
      have HR9 : Hid (Rs.stL (Rs.toks T fin) f m (l ++ [pe.1]) q.2 = R) := Hd (by rw [HRE.out, if_neg (by rw [hkp, hsp]; decide), hq])
      rw [hsp] at HSP
      clear hkp hsp hq mq
      go_wp2_with (first
       | (go_at_call 26; with_reducible refine (HBP.out _ HST.out.env.pa).mono ?_; rintro e wq ⟨rfl, rfl⟩)
       | (go_at_call 43; with_reducible refine (HSP.out _ HST.out.env.pa).mono ?_; rintro e hs9 ⟨rfl, hb⟩; have HS9 := Hd (HST.out.below hb); clear hb)
       | (go_at_call 41; refine (HTK.out _ HS9.out.env.pa).mono ?_; rintro e w10 ⟨rfl, hp⟩; have HS10 := Hd (HS9.out.call hp HBQ.out); clear hp))
      go_roundg f
      case measure => omega
      case rel => exact ⟨q.2, l ++ [pe.1], _, rfl, by omega, HS10.out, HMV.out.trans (HMP.out.trans HMQ.out), fun hk => by have := HAD.out hk; have := Rs.rem_adv (T := T) (s := s') (s' := q.2) (by omega) (by omega); omega, fun hk => by have := HAD.out hk; simp only [List.length_append, List.length_singleton]; omega, HR9.out⟩
end Go.Proofs.YtbnlnndeajjenaaGreat
