/-
  Parts PxE, PxF, PxG, PxH of the proof. No statement of the seat is proved here.
-/
import Derived.Test.YtjhonaglmgmpiaaGreatDoorP15
set_option maxHeartbeats 4000000
namespace Go.Proofs.YtjhonaglmgmpiaaGreatDoor
open Go.RowKit
theorem info26 : (Tryz.prog.info? 27).map (fun i => (i.zero, i.size, i.bytes)) = some (some (.agg #[.int .i64 0, .string ⟨#[]⟩, .slice none 0 0, .slice none 0 0, .slice none 0 0, .int .i64 0, .int .i64 0]), 7, 112) := by kernel_rfl
theorem str_app (a b : Lx.Txt) : (⟨a.toArray⟩ : ByteArray) ++ ⟨b.toArray⟩ = ⟨(a ++ b).toArray⟩ := by
 apply ByteArray.ext
 simp [ByteArray.data_append]
theorem keyL_go {T : List Lx.Tk} {fin f : Nat} {n : Lx.Txt} {l : List Ps.Tr} {s : Ps.PS} {q : Lx.Tk} {pa pu pb : Ps.Tr × Ps.PS} (hq : Ps.nx T fin s = q) (hk : Ps.ok s = true) (h2 : q.1 = 2) (h3 : Ps.prim T fin f (Ps.adv s) = pa) (h4 : Ps.unaL T fin (T.length + 2) pa.1 pa.2 = pu) (h5 : Ps.binL_ T fin f pu.1 pu.2 = pb) : Ps.keyL T fin (f + 2) n l s = Ps.keyL T fin (f + 1) (n ++ q.2.1) (l ++ [pb.1]) pb.2 := by
 subst h3 h4 h5 hq
 conv => lhs; unfold Ps.keyL
 rw [if_pos (by rw [hk, h2]; rfl), Ps.operand]
theorem keyL_stop {T : List Lx.Tk} {fin f : Nat} {n : Lx.Txt} {l : List Ps.Tr} {s : Ps.PS} (h : (Ps.ok s && (Ps.nx T fin s).1 == 2) = false) : Ps.keyL T fin f n l s = (n, l, s) := by
 cases f with
 | zero => unfold Ps.keyL; rfl
 | succ f => unfold Ps.keyL; rw [if_neg (by rw [h]; decide)]
set_option maxRecDepth 20000 in
theorem pkeyw_any {g c fin F : Nat} {A : Option Addr} {T : List Lx.Tk} (hT : Ps.Fits 65536 T) (ih : ∀ f, f < F → WAll g A c T fin f) (base : Nat) (cs : List Value) (n : Ps.Tr) (s : Ps.PS) (w : World) (h : PA w g A c T fin s) (hb : Bd T s) (hn : TrM w base (fun _ => False) cs n) (hgb : g < base) (hbw : base ≤ w.heap.size) (hf : Ps.rem T s + 2 ≤ F) :
  Calls Tryz.prog 123 #[.pointer (some ⟨g, 0, none⟩), .agg cs.toArray] w (NdP w g A c T fin base (Ps.keyw T fin F n s)) := by
 have E0 := ((Env.start h).box 27 cs (by decide)).boxk (w.heap.size + 1) (by simp) 27 [.int .i64 0, .string ⟨#[]⟩, .slice none 0 0, .slice none 0 0, .slice none 0 0, .int .i64 0, .int .i64 0] (by decide)
 have ht0 : TrM ((w.alloc (.cells cs.toArray 27)).alloc (.cells #[.int .i64 0, .string ⟨#[]⟩, .slice none 0 0, .slice none 0 0, .slice none 0 0, .int .i64 0, .int .i64 0] 27)) base (fun k => k = w.heap.size ∨ k = w.heap.size + 1) cs n := ((TrM.swap hn (X' := fun k => k = w.heap.size ∨ k = w.heap.size + 1) (fun k _ hk e => by omega)).below (new_below _ _)).below (new_below _ _)
 have HU := Hd (UnS.mk E0 ht0 hb)
 obtain ⟨F', rfl⟩ : ∃ F', F = F' + 1 := ⟨F - 1, by omega⟩
 obtain ⟨R, hR⟩ : ∃ R, Ps.keyw T fin (F' + 1) n s = R := ⟨_, rfl⟩
 have HR := Hd hR
 have IH := Hd ih
 have hTl := hT.len
 rw [hR]
 obtain ⟨q0, q1, A1, n1, c1, A2, n2, c2, A3, n3, c3, q5, q6, rfl⟩ := hn.form
 clear h hb hn E0 ht0 hR ih
 go_enter Tryz.func123, Tryz.ntmps123
 go_upto_region 1 with fail
 refine wp_world (fun W => UnS w g A c T fin base w.heap.size (w.heap.size + 1) s n _ W) HU.out fun wr hu => ?_
 have HU1 := Hd hu
 have hg := hu.env.pa.lt
 clear HU hu
 obtain ⟨t, ht⟩ : ∃ t, Ps.nx T fin s = t := ⟨_, rfl⟩
 obtain ⟨a, a0, a1, a2, a3, a4, a5, a6⟩ := HU1.out.env.c7 1 rfl
 obtain ⟨b, b0, b1, b2, b3, b4, b5, b6⟩ := HU1.out.env.c7 0 rfl
 have fz := HU1.out.env.fz 0 rfl
 cases hk : Ps.ok s with
 | false =>
  have HE : Hid (R = (n, s)) := Hd (by rw [← HR.out, Ps.keyw, if_pos (by rw [hk]; rfl)])
  obtain ⟨kq, k4⟩ := HU1.out.env.pa.noc hk
  clear hk
  go_wp2
  obtain ⟨hb4, hnd⟩ := HU1.out.done HE.out
  exact bodyPost_ret (ret26 rfl _ _ rfl hb4) rfl hnd
 | true =>
  have k4 := HU1.out.env.pa.okc hk
  have HN := Hd (pnext_any HU1.out.env.pa)
  rw [ht] at HN
  have hf0 := fld0 (.int .i64 (t.1 : Int)) (.string ⟨t.2.1.toArray⟩) (.int .i64 (t.2.2 : Int))
  by_cases h1 : t.1 = 2
  ·have d1 : ((t.1 : Int) != 2) = false := by rw [h1]; rfl
   have HE : Hid (R = (Ps.nd 5 (Ps.keyL T fin F' [] [n] s).1 (Ps.keyL T fin F' [] [n] s).2.1 t.2.2, (Ps.keyL T fin F' [] [n] s).2.2)) := Hd (by rw [← HR.out, Ps.keyw, ht, if_neg (by rw [hk, h1]; decide)])
   have HT := Hd ht
   clear hk h1 ht a a0 a1 a2 a3 a4 a5 a6 b b0 b1 b2 b3 b4 b5 b6 fz
   go_upto_region 3 with (go_at_call 28; refine HN.out.mono ?_; rintro e w4 ⟨rfl, hb⟩; have HU4 := Hd (HU1.out.below hb); clear hb)
   clear HU1 HN
   obtain ⟨a, a0, a1, a2, a3, a4, a5, a6⟩ := HU4.out.env.c7 1 rfl
   have HN := Hd fun (W : World) (h : PA W g A c T fin s) => pnext_any h
   rw [HT.out] at HN
   have hf2 := fld2 (.int .i64 (t.1 : Int)) (.string ⟨t.2.1.toArray⟩) (.int .i64 (t.2.2 : Int))
   go_cut [5] (fun v5 wx => ∃ ts v, v5 = .pointer (some ⟨ts, 0, none⟩) ∧ AcS w g A c T fin base ts (w.heap.size + 1) 5 t.2.2 s [] [n] v wx)
   case first =>
    go_region_law (first
     | (go_simp; go_at_call 28; refine (HN.out _ (by first | exact HU4.out.env.pa.drew | exact (HU4.out.env.pa.alloc _).drew | exact ((HU4.out.env.pa.alloc _).alloc _).drew)).mono ?_; rintro e w5 ⟨rfl, hb⟩; have HU5 := Hd (HU4.out.below (by first | exact (Below.refl _ _).drew.trans hb | exact (new_below _ _).drew.trans (hb.mono (by simp)) | exact ((new_below _ _).trans ((new_below _ _).mono (by simp))).drew.trans (hb.mono (by simp; omega)))); have HB5 := Hd hb; obtain ⟨c, c0, c1, c2, c3, c4, c5, c6⟩ := HU5.out.env.c7 1 rfl; (first | have HZ := Hd ((Blk.new' _ 27 w4.heap.size #[.int .i64 0, .string ⟨#[]⟩, .slice none 0 0, .slice none 0 0, .slice none 0 0, .int .i64 0, .int .i64 0] rfl).drew.below hb (by simp)) | have HZ := Hd ((Blk.new' _ 27 (w4.heap.size + 1) #[.int .i64 0, .string ⟨#[]⟩, .slice none 0 0, .slice none 0 0, .slice none 0 0, .int .i64 0, .int .i64 0] (by simp)).drew.below hb (by simp)) | have HZ := Hd (((Blk.new' _ 27 w4.heap.size #[.int .i64 0, .string ⟨#[]⟩, .slice none 0 0, .slice none 0 0, .slice none 0 0, .int .i64 0, .int .i64 0] rfl).alloc _).drew.below hb (by simp; omega)) | skip); (try (have zl := HZ.out.lt; have z0 := HZ.out.cell 0; have z1 := HZ.out.cell 1; have z2 := HZ.out.cell 2; have z3 := HZ.out.cell 3; have z4 := HZ.out.cell 4; have z5 := HZ.out.cell 5; have z6 := HZ.out.cell 6; have zf := HZ.out.frozen)); clear hb))
    all_goals
     go_wp2_with fail
     go_meet
     first
      | exact ⟨_, _, rfl, kw1 HU4.out hbw HB5.out 5 t.2.2 []⟩
      | exact ⟨_, _, rfl, kw2 HU4.out hbw HB5.out 5 t.2.2 []⟩
      | exact ⟨_, _, rfl, kw3 HU5.out hbw 5 t.2.2 []⟩
      | exact ⟨_, _, rfl, kw4 HU5.out hbw 5 t.2.2 []⟩
      | exact ⟨_, _, rfl, kw5 HU4.out hbw HB5.out 5 t.2.2 []⟩
      | exact ⟨_, _, rfl, kw6 HU4.out hbw HB5.out 5 t.2.2 []⟩
   case rest =>
    obtain ⟨ts, v, rfl, hA⟩ := hcut
    obtain ⟨RK, hRK⟩ : ∃ RK, Ps.keyL T fin F' [] [n] s = RK := ⟨_, rfl⟩
    have HRK := Hd hRK
    have HA0 := Hd hA
    have hg2 := (HA0.out.lts).2.2.1
    rw [hRK] at HE
    clear hA hRK HU4 HN hf2 hf0 d1 a a0 a1 a2 a3 a4 a5 a6 k4 HR
    go_upto_block 0 with fail
    go_wp2
    go_loopg [] F' (fun f wr => ∃ (s' : Ps.PS) (nm : Lx.Txt) (l : List Ps.Tr) (v : Value), f ≤ F' ∧ AcS w g A c T fin base ts (w.heap.size + 1) 5 t.2.2 s' nm l v wr ∧ Ps.rem T s' + 1 ≤ f ∧ nm.length ≤ 65536 * s'.at_ ∧ l.length ≤ s'.at_ + 1 ∧ Ps.keyL T fin f nm l s' = RK)
    case atStart => exact ⟨s, [], [n], v, Nat.le_refl _, HA0.out, by omega, by simp, by simp, HRK.out⟩
    case round =>
     obtain ⟨s', nm, l, v', hfF, hA, hrm, hnm, hll, hR⟩ := hrel
     have HA := Hd hA
     have HR2 := Hd hR
     have hg := hA.env.pa.lt
     obtain ⟨Av, cv, rfl, -, -⟩ := hA.row.form
     clear hA hR HA0 HRK
     obtain ⟨q, hq⟩ : ∃ q, Ps.nx T fin s' = q := ⟨_, rfl⟩
     have HNX := Hd (pnext_any HA.out.env.pa)
     rw [hq] at HNX
     have hq0 := fld0 (.int .i64 (q.1 : Int)) (.string ⟨q.2.1.toArray⟩) (.int .i64 (q.2.2 : Int))
     have hq1 := fld1 (.int .i64 (q.1 : Int)) (.string ⟨q.2.1.toArray⟩) (.int .i64 (q.2.2 : Int))
     cases hk : Ps.ok s' with
     | false =>
      have HE2 : Hid (RK = (nm, l, s')) := Hd (by rw [← HR2.out]; exact keyL_stop (by rw [hk]; rfl))
      obtain ⟨kq, k4⟩ := HA.out.env.pa.noc hk
      obtain ⟨a, a0, a1, a2, a3, a4, a5, a6⟩ := HA.out.env.c7 0 rfl
      obtain ⟨b, b0, b1, b2, b3, b4, b5, b6⟩ := HA.out.env.c7 1 rfl
      have fz := HA.out.env.fz 1 rfl
      clear hk
      go_wp2
      obtain ⟨hb4, hnd⟩ := HA.out.done (R := R) (by rw [HE.out, HE2.out])
      exact bodyPost_ret (ret26 rfl _ _ rfl hb4) rfl hnd
     | true =>
      have k4 := HA.out.env.pa.okc hk
      by_cases h1 : q.1 = 2
      ·have d1 : ((q.1 : Int) == 2) = true := by rw [h1]; rfl
       have hlt : s'.at_ < T.length := Ps.nx_lt (fin := fin) (by rw [hq, h1]; decide)
       have HTK := Hd fun (W : World) (h : PA W g A c T fin s') => ptake_any h (by omega)
       rw [hq] at HTK
       have hql := hT.txt _ (Ps.nx_mem (fin := fin) hlt)
       rw [hq] at hql
       have hat := HA.out.bd.at_
       have hcat : ¬ (9223372036854775807 < nm.length + q.2.1.length) := by omega
       have hstr := str_app nm q.2.1
       have HQ1 := Hd h1
       have HQT := Hd hq
       have HK := Hd hk
       clear h1 hq hk
       go_upto_region 5 with (go_at_call 28; refine HNX.out.mono ?_; rintro e w4 ⟨rfl, hb⟩; have HA5 := Hd (HA.out.below hb); clear hb)
       have HAK5 := HA5
       obtain ⟨c7, e0, e1, e2, e3, e4, e5, e6⟩ := HA5.out.env.c7 0 rfl
       have hS : w4.cell? ⟨ts, 1, none⟩ = some (.string ⟨nm.toArray⟩) := e1
       refine wp_region_x (s := 7) (S := fun W => W.cell? ⟨ts, 1, none⟩ = some (.string ⟨nm.toArray⟩)) (by kernel_rfl) hS (fun hHeld => ?_)
       refine xt (i := 0) ?_
       refine xt (i := 1) ?_
       refine xt (i := 2) ?_
       refine x1 (i := 3) (fun K2 hK2 => ?_)
       go_simp
       go_at_call 29
       refine (HTK.out _ HAK5.out.env.pa.drew).mono ?_
       rintro e w6 ⟨rfl, hp⟩
       have HA6 := Hd ((HA5.out.below (Below.refl _ _).drew).call hp (HA5.out.bd.adv hlt) hgb)
       obtain ⟨a, b0, b1, b2, b3, b4, b5, b6⟩ := HA6.out.env.c7 0 rfl
       have fz6 := HA6.out.env.fz 0 rfl
       clear hp
       refine hK2.out _ _ (b1) (fun hHeld => ?_)
       clear hK2 K2
       refine xt (i := 4) ?_
       refine x1 (i := 5) (fun K2 hK2 => ?_)
       go_simp
       refine hK2.out _ _ (hHeld) (fun hHeld => ?_)
       clear hK2 K2
       refine x1 (i := 6) (fun K2 hK2 => ?_)
       go_simp
       refine hK2.out _ _ (hHeld) (fun hHeld => ?_)
       clear hK2 K2
       try simp only [Act.put, List.setIfInBounds_toArray, List.set_cons_zero, List.set_cons_succ]
       refine xl (fun K2 hK2 => ?_)
       go_simp
       refine hK2.out _ _ ?_
       clear hK2 K2
       try simp only [Act.put, List.setIfInBounds_toArray, List.set_cons_zero, List.set_cons_succ]
       refine wpAnyX_done (by kernel_rfl) ?_ _
       go_upto_region 6 with fail
       refine wp_world (fun W => AcS w g A c T fin base ts (w.heap.size + 1) 5 t.2.2 (Ps.adv s') (nm ++ q.2.1) l _ W) (HA6.out.named (nm ++ q.2.1)) fun w7 ha7 => ?_
       have HA7 := Hd ha7
       have HL7 := Hd ha7.lts
       obtain ⟨f, rfl⟩ : ∃ f, gk = f + 2 := ⟨gk - 2, by have := Ps.rem_adv (T := T) (s := s') (s' := Ps.adv s') (Nat.lt_succ_self _) hlt; omega⟩
       have hra := Ps.rem_adv (T := T) (s := s') (s' := Ps.adv s') (Nat.lt_succ_self _) hlt
       obtain ⟨pa, hpa⟩ : ∃ a, Ps.prim T fin f (Ps.adv s') = a := ⟨_, rfl⟩
       obtain ⟨pu, hpu⟩ : ∃ u, Ps.unaL T fin (T.length + 2) pa.1 pa.2 = u := ⟨_, rfl⟩
       obtain ⟨pb, hpb⟩ : ∃ u, Ps.binL_ T fin f pu.1 pu.2 = u := ⟨_, rfl⟩
       have hle1 : Ps.rem T pu.2 ≤ Ps.rem T (Ps.adv s') := Ps.rem_le (by rw [← hpu, ← hpa]; exact (((Ps.leAll T fin f).prim _).trans (Ps.le_unaL T fin _ _ _)).at_)
       have hat2 : (Ps.adv s').at_ ≤ pb.2.at_ := by rw [← hpb, ← hpu, ← hpa]; exact ((((Ps.leAll T fin f).prim _).trans (Ps.le_unaL T fin _ _ _)).trans ((Ps.leAll T fin f).binL_ _ _)).at_
       have hle2 : Ps.rem T pb.2 ≤ Ps.rem T (Ps.adv s') := Ps.rem_le hat2
       have hat3 : s'.at_ + 1 ≤ pb.2.at_ := hat2
       have HR3 : Hid (Ps.keyL T fin (f + 1) (nm ++ q.2.1) (l ++ [pb.1]) pb.2 = RK) := Hd (by rw [← HR2.out]; exact (keyL_go HQT.out HK.out HQ1.out hpa hpu hpb).symm)
       have HPR := Hd fun w5 (hp : PA w5 g A c T fin (Ps.adv s')) (hb : Bd T (Ps.adv s')) => (IH.out f (by omega)).prim (Ps.adv s') w5 hp hb (by omega)
       rw [hpa] at HPR
       have HUN := Hd fun w6 (base' : Nat) (cs6 : List Value) (hp : PA w6 g A c T fin pa.2) (hb : Bd T pa.2) (ht6 : TrM w6 base' (fun _ => False) cs6 pa.1) (h7 : g < base') (h8 : base' ≤ w6.heap.size) => punar_any hp hb hTl ht6 h7 h8
       rw [hpu] at HUN
       have HBN := Hd fun w6 (base' : Nat) (cs6 : List Value) (hp : PA w6 g A c T fin pu.2) (hb : Bd T pu.2) (ht6 : TrM w6 base' (fun _ => False) cs6 pu.1) (h7 : g < base') (h8 : base' ≤ w6.heap.size) => (IH.out f (by omega)).binL base' cs6 pu.1 pu.2 w6 hp hb ht6 h7 h8 (by omega)
       rw [hpb] at HBN
       obtain ⟨i0, hi, hz0, hz1, hz2⟩ := info_parts info26
       have h77 : g < w7.heap.size := ha7.env.pa.lt
       have hbw7 : w.heap.size ≤ w7.heap.size := ha7.env.size
       obtain ⟨c7', e0', e1', e2', e3', e4', e5', e6'⟩ := ha7.env.c7 0 rfl
       have hS4 : w7.cell? ⟨ts, 4, none⟩ = some (.slice Av l.length cv) := e4'
       clear hpa hpu hpb ha7 HA6 HA5 HAK5 HA HTK HNX HR2 b0 b1 b2 b3 b4 b5 b6 fz6 e0 e1 e2 e3 e4 e5 e6 hS
       refine wp_region_x (s := 11) (S := fun W => W.cell? ⟨ts, 4, none⟩ = some (.slice Av l.length cv)) (by kernel_rfl) hS4 (fun hHeld => ?_)
       refine xt (i := 0) ?_
       refine xt (i := 1) ?_
       refine xt (i := 2) ?_
       refine xt (i := 3) ?_
       refine xt (i := 4) ?_
       refine x1 (i := 5) (fun K2 hK2 => ?_)
       go_simp
       go_at_call 122
       refine (HPR.out _ HA7.out.env.pa.drew HA7.out.bd).mono ?_
       rintro e w8 ⟨cs8, rfl, hp8, hb8, ht8⟩
       have hz8 := hp8.1.size
       have HA8 := Hd ((HA7.out.below (Below.refl _ _).drew).call hp8 hb8 hgb)
       have HT8 := Hd ht8
       have k8 : w8.cell? ⟨ts, 4, none⟩ = some (.slice Av l.length cv) := (HA8.out.env.c7 0 rfl).2.2.2.2.2.1
       clear hp8 hb8 ht8
       refine hK2.out _ _ (k8) (fun hHeld => ?_)
       clear hK2 K2
       refine x1 (i := 6) (fun K2 hK2 => ?_)
       go_simp
       go_at_call 125
       refine (HUN.out _ _ _ HA8.out.env.pa HA8.out.bd HT8.out (by show g < w7.heap.size; omega) hz8).mono ?_
       rintro e w9 ⟨cs9, rfl, hp9, hb9, ht9⟩
       have hz9 := hp9.1.size
       have HA9 := Hd (HA8.out.call hp9 hb9 hgb)
       have HT9 := Hd ht9
       have k9 : w9.cell? ⟨ts, 4, none⟩ = some (.slice Av l.length cv) := (HA9.out.env.c7 0 rfl).2.2.2.2.2.1
       clear hp9 hb9 ht9
       refine hK2.out _ _ (k9) (fun hHeld => ?_)
       clear hK2 K2
       refine x1 (i := 7) (fun K2 hK2 => ?_)
       go_simp
       go_at_call 124
       refine (HBN.out _ _ _ HA9.out.env.pa HA9.out.bd HT9.out (by show g < w7.heap.size; omega) (Nat.le_trans hz8 hz9)).mono ?_
       rintro e wa ⟨csa, rfl, hpa, hba, hta⟩
       have hza := hpa.1.size
       have HAa := Hd (HA9.out.call hpa hba hgb)
       have HTa := Hd hta
       have ka : wa.cell? ⟨ts, 4, none⟩ = some (.slice Av l.length cv) := (HAa.out.env.c7 0 rfl).2.2.2.2.2.1
       obtain ⟨css, hcl, hown, hpush⟩ := HAa.out.push HTa.out (by show base ≤ w7.heap.size; omega) ⟨HL7.out.1, HL7.out.2.1, HL7.out.2.2.2.2⟩ hgb
       have HOWN := Hd hown
       have HPUSH := Hd hpush
       obtain ⟨p0, p1, C1, o1, e1', C2, o2, e2', C3, o3, e3', p5, p6, rfl⟩ := HTa.out.form
       have hsa : w.heap.size ≤ wa.heap.size := HAa.out.env.size
       clear hpa hba hta hown hpush hcl
       refine hK2.out _ _ (ka) (fun hHeld => ?_)
       clear hK2 K2
       refine x1 (i := 8) (fun K2 hK2 => ?_)
       go_simp
       refine hK2.out _ _ (by go_keep) (fun hHeld => ?_)
       clear hK2 K2
       refine x1 (i := 9) (fun K2 hK2 => ?_)
       refine step_append_any _ rfl (.tmp 43) (.tmp 50) 25 rfl base 27 i0 _ 7 112 Tryz.underlying25 hi hz0 hz1 hz2 rfl (by decide) (.slice Av l.length cv) l.length css.flatten (by rfl) (World.ownsRow.alloc HOWN.out _) (wa.heap.size + 1) (some ⟨wa.heap.size, 0, none⟩) 1 1 _ (by rfl) (Reads.builtN wa 27 [_, _, _, _, _, _, _] 1 7 rfl) (by intro u hu; simp only [List.mem_cons, List.not_mem_nil, or_false] at hu; rcases hu with rfl | rfl | rfl | rfl | rfl | rfl | rfl <;> rfl) (by simp only [maxLen]; omega) (by omega) (by simp; omega) ?_
       intro v6 wb hown6 hgrow6 hv6
       obtain ⟨A6, c6, rfl, _, _⟩ := own_form hown6
       obtain ⟨hcl, hfz, hlt6, hac⟩ := HPUSH.out _ _ _ hown6 hgrow6 (by simpa using hv6)
       have HAC := Hd hac
       have kb : wb.cell? ⟨ts, 4, none⟩ = some (.slice Av l.length cv) := by rw [hcl 4]; exact ka
       have kbf := hfz 4
       clear hown6 hgrow6 hv6 hcl hfz hac
       try go_simp
       refine hK2.out _ _ (kb) (fun hHeld => ?_)
       clear hK2 K2
       refine x1 (i := 10) (fun K2 hK2 => ?_)
       go_simp
       refine hK2.out _ _ (hHeld) (fun hHeld => ?_)
       clear hK2 K2
       try simp only [Act.put, List.setIfInBounds_toArray, List.set_cons_zero, List.set_cons_succ]
       refine xl (fun K2 hK2 => ?_)
       go_simp
       refine hK2.out _ _ ?_
       clear hK2 K2
       try simp only [Act.put, List.setIfInBounds_toArray, List.set_cons_zero, List.set_cons_succ]
       refine wpAnyX_done (by kernel_rfl) ?_ _
       go_wp2_with fail
       go_roundg (f + 1)
       case measure => omega
       case rel => exact ⟨pb.2, nm ++ q.2.1, l ++ [pb.1], _, by omega, HAC.out, by omega, by simp only [List.length_append]; omega, by simp only [List.length_append, List.length_singleton]; omega, HR3.out⟩
      ·have d1 : ((q.1 : Int) == 2) = false := natInt (by omega)
       have HE2 : Hid (RK = (nm, l, s')) := Hd (by rw [← HR2.out]; exact keyL_stop (by rw [hq, hk]; simpa using h1))
       clear hk h1 hq
       go_upto_region 7 with (go_at_call 28; refine HNX.out.mono ?_; rintro e w4 ⟨rfl, hb⟩; have HA5 := Hd (HA.out.below hb); clear hb)
       obtain ⟨a, a0, a1, a2, a3, a4, a5, a6⟩ := HA5.out.env.c7 0 rfl
       obtain ⟨b, b0, b1, b2, b3, b4, b5, b6⟩ := HA5.out.env.c7 1 rfl
       have fz := HA5.out.env.fz 1 rfl
       go_wp2
       obtain ⟨hb4, hnd⟩ := HA5.out.done (R := R) (by rw [HE.out, HE2.out])
       exact bodyPost_ret (ret26 rfl _ _ rfl hb4) rfl hnd
  ·have d1 : ((t.1 : Int) != 2) = true := by rw [bne_iff_ne]; omega
   have HE : Hid (R = (n, s)) := Hd (by rw [← HR.out, Ps.keyw, ht, if_pos (by rw [hk]; simpa using h1)])
   clear hk h1 ht a a0 a1 a2 a3 a4 a5 a6 b b0 b1 b2 b3 b4 b5 b6 fz
   go_upto_region 2 with (go_at_call 28; refine HN.out.mono ?_; rintro e w4 ⟨rfl, hb⟩; have HU4 := Hd (HU1.out.below hb); clear hb)
   obtain ⟨a, a0, a1, a2, a3, a4, a5, a6⟩ := HU4.out.env.c7 1 rfl
   obtain ⟨b, b0, b1, b2, b3, b4, b5, b6⟩ := HU4.out.env.c7 0 rfl
   have fz := HU4.out.env.fz 0 rfl
   go_wp2
   obtain ⟨hb4, hnd⟩ := HU4.out.done HE.out
   exact bodyPost_ret (ret26 rfl _ _ rfl hb4) rfl hnd
theorem arrL_stop {T : List Lx.Tk} {fin f : Nat} {l : List Ps.Tr} {s : Ps.PS} (h : (Ps.ok s && !Ps.is_ T fin s [41]) = false) : Ps.arrL T fin f l s = (l, s) := by
 cases f with
 | zero => unfold Ps.arrL; rfl
 | succ f => unfold Ps.arrL; rw [if_neg (by rw [h]; decide)]
theorem shut_no {T : List Lx.Tk} {fin : Nat} {x : Lx.Txt} {s : Ps.PS} (h : Ps.ok s = false) : Ps.shut T fin x s = s := by unfold Ps.shut; rw [h]; rfl
theorem shut_ok {T : List Lx.Tk} {fin : Nat} {x : Lx.Txt} {s : Ps.PS} (h : Ps.ok s = true) : Ps.shut T fin x s = Ps.cls_ T fin x s := by unfold Ps.shut; rw [h]; rfl
theorem Bd.deep {T : List Lx.Tk} {s : Ps.PS} (h : Bd T s) (hT : T.length ≤ 65536) (hk : Ps.ok s = true) : -100000 ≤ s.deep ∧ s.deep ≤ 100000 := by
 have := h.ok hk
 omega
set_option maxRecDepth 20000 in
theorem parr_any {g c fin F : Nat} {A : Option Addr} {T : List Lx.Tk} (hT : Ps.Fits 65536 T) (ih : ∀ f, f < F → WAll g A c T fin f) (s : Ps.PS) (w : World) (h : PA w g A c T fin s) (hb : Bd T s) (hk : Ps.ok s = true) (hlt : s.at_ < T.length) (hf : Ps.rem T s + 2 ≤ F) :
  Calls Tryz.prog 158 #[.pointer (some ⟨g, 0, none⟩)] w (NdP w g A c T fin w.heap.size (Ps.arr T fin F s)) := by
 have hTl := hT.len
 have E0 := (Env.start h).box 27 [.int .i64 0, .string ⟨#[]⟩, .slice none 0 0, .slice none 0 0, .slice none 0 0, .int .i64 0, .int .i64 0] (by decide)
 obtain ⟨F', rfl⟩ : ∃ F', F = F' + 1 := ⟨F - 1, by omega⟩
 obtain ⟨t, ht⟩ : ∃ t, Ps.nx T fin s = t := ⟨_, rfl⟩
 obtain ⟨s1, hs1⟩ : ∃ s1, Ps.opn T fin s = s1 := ⟨_, rfl⟩
 obtain ⟨RK, hRK⟩ : ∃ RK, Ps.arrL T fin F' [] s1 = RK := ⟨_, rfl⟩
 have HE : Hid (Ps.arr T fin (F' + 1) s = (Ps.nd 12 [] RK.1 t.2.2, Ps.shut T fin [41] RK.2)) := Hd (by rw [Ps.arr, hs1, hRK, ht])
 obtain ⟨R, hR⟩ : ∃ R, Ps.arr T fin (F' + 1) s = R := ⟨_, rfl⟩
 rw [hR] at HE ⊢
 have HO := Hd (popen_any E0.pa (by omega) (hb.deep hTl hk))
 have hb1 := Bd.opn (fin := fin) hb hk hlt
 have hra := Ps.rem_adv (T := T) (s := s) (s' := s1) (by rw [← hs1, Ps.opn_at]; omega) hlt
 rw [ht, hs1] at HO
 rw [hs1] at hb1
 have IH := Hd ih
 have HRK := Hd hRK
 have HB1 := Hd hb1
 have hgb : g < w.heap.size := h.lt
 have HE0 := Hd E0
 clear h hb hk hlt ht hs1 hRK hR ih hb1 E0
 go_enter Tryz.func158, Tryz.ntmps158
 have hf2 := fld2 (.int .i64 (t.1 : Int)) (.string ⟨t.2.1.toArray⟩) (.int .i64 (t.2.2 : Int))
 go_upto_block 0 with (go_at_call 160; refine HO.out.mono ?_; rintro e w1 ⟨rfl, hp⟩; have HE1 := Hd (HE0.out.call hp); clear hp)
 refine wp_world (fun W => AcS w g A c T fin w.heap.size w1.heap.size w.heap.size 12 t.2.2 s1 [] [] (.slice none 0 0) W) (AcS.start HE1.out 0 rfl rfl (TsM.nil _ _ (fun k => k = w.heap.size)) rfl HB1.out (fun k hk => by simp [Value.ownBlock] at hk) 12 t.2.2 []) fun w2 ha2 => ?_
 have HA2 := Hd ha2
 obtain ⟨ts, hts⟩ : ∃ ts, w1.heap.size = ts := ⟨_, rfl⟩
 rw [hts] at HA2 ⊢
 clear ha2 HE0 HE1 HO hf2 HB1 hts
 go_wp2
 go_loopg [] F' (fun f wr => ∃ (s' : Ps.PS) (l : List Ps.Tr) (v : Value), f ≤ F' ∧ AcS w g A c T fin w.heap.size ts w.heap.size 12 t.2.2 s' [] l v wr ∧ (Ps.ok s' = true → Ps.rem T s' + 6 ≤ f) ∧ l.length + f ≤ F' ∧ (Ps.ok s' = true → l.length ≤ s'.at_) ∧ l.length ≤ s'.at_ + 1 ∧ Ps.arrL T fin f l s' = RK)
 case atStart => exact ⟨s1, [], _, Nat.le_refl _, HA2.out, fun _ => by omega, by simp, fun _ => by simp, by simp, HRK.out⟩
 case round =>
  obtain ⟨s', l, v', hfF, hA, hrm, hlf, hl1, hl2, hR⟩ := hrel
  have HA := Hd hA
  have HR2 := Hd hR
  have HRM := Hd hrm
  have HL1 := Hd hl1
  have hg := hA.env.pa.lt
  obtain ⟨Av, cv, rfl, -, -⟩ := hA.row.form
  clear hA hR hrm hl1 HA2 HRK
  have HIS := Hd (pis_any HA.out.env.pa [41])
  cases hk : Ps.ok s' with
  | false =>
   have HE2 : Hid (R = (Ps.nd 12 [] l t.2.2, s')) := Hd (by
    have : RK = (l, s') := by rw [← HR2.out]; exact arrL_stop (by rw [hk]; rfl)
    rw [HE.out, this, shut_no hk])
   obtain ⟨kq, k4⟩ := HA.out.env.pa.noc hk
   clear hk
   obtain ⟨a, a0, a1, a2, a3, a4, a5, a6⟩ := HA.out.env.c7 0 rfl
   obtain ⟨b, b0, b1, b2, b3, b4, b5, b6⟩ := HA.out.env.c7 1 rfl
   have fz := HA.out.env.fz 1 rfl
   go_wp2
   obtain ⟨hb4, hnd⟩ := HA.out.done (R := R) (HE2.out)
   exact bodyPost_ret (ret26 rfl _ _ rfl hb4) rfl hnd
  | true =>
   have k4 := HA.out.env.pa.okc hk
   cases hi : Ps.is_ T fin s' [41] with
   | true =>
    have HE2 : Hid (R = (Ps.nd 12 [] l t.2.2, Ps.cls_ T fin [41] s')) := Hd (by
     have : RK = (l, s') := by rw [← HR2.out]; exact arrL_stop (by rw [hk, hi]; rfl)
     rw [HE.out, this, shut_ok hk])
    rw [hi] at HIS
    have HCL := Hd fun (W : World) (h : PA W g A c T fin s') => pclose_any h (HA.out.bd.lt hTl) (HA.out.bd.deep hTl hk) [41]
    have HBC := Hd (HA.out.bd.cls (fin := fin) hk [41])
    have HKO := Hd hk
    clear hk hi
    go_upto_region 4 with (go_at_call 75; refine HIS.out.mono ?_; rintro e w4 ⟨rfl, hb⟩; have HA4 := Hd (HA.out.below hb); clear hb)
    have k4' := HA4.out.env.pa.okc HKO.out
    have hg4 := HA4.out.env.pa.lt
    go_upto_region 6 with (go_at_call 161; refine (HCL.out _ HA4.out.env.pa).mono ?_; rintro e w5 ⟨rfl, hp⟩; have HA5 := Hd (HA4.out.call hp HBC.out hgb); clear hp)
    obtain ⟨a, a0, a1, a2, a3, a4, a5, a6⟩ := HA5.out.env.c7 0 rfl
    obtain ⟨b, b0, b1, b2, b3, b4, b5, b6⟩ := HA5.out.env.c7 1 rfl
    have fz := HA5.out.env.fz 1 rfl
    go_wp2
    obtain ⟨hb4, hnd⟩ := HA5.out.done (R := R) (HE2.out)
    exact bodyPost_ret (ret26 rfl _ _ rfl hb4) rfl hnd
   | false =>
    have hrm := HRM.out hk
    obtain ⟨f, rfl⟩ : ∃ f, gk = f + 1 := ⟨gk - 1, by omega⟩
    obtain ⟨pb, hpb⟩ : ∃ a, Ps.lit T fin f s' = a := ⟨_, rfl⟩
    have HR3 : Hid (Ps.arrL T fin f (l ++ [pb.1]) pb.2 = RK) := Hd (by rw [← HR2.out, ← hpb]; conv => rhs; unfold Ps.arrL; rw [if_pos (by rw [hk, hi]; rfl)])
    have HLI := Hd fun w5 (hp : PA w5 g A c T fin s') (hb : Bd T s') => (IH.out f (by omega)).lit s' w5 hp hb hk (by omega)
    have HAD := Hd (Ps.lit_adv (T := T) (fin := fin) (f := f) s')
    have hle : s'.at_ ≤ pb.2.at_ := by rw [← hpb]; exact ((Ps.leAll T fin f).lit s').at_
    have hl3 := HL1.out hk
    rw [hpb] at HLI HAD
    rw [hi] at HIS
    clear hpb hk hi
    go_upto_region 3 with (go_at_call 75; refine HIS.out.mono ?_; rintro e w7 ⟨rfl, hb⟩; have HA7 := Hd (HA.out.below hb); clear hb)
    clear HA HIS
    have hat := HA7.out.bd.at_
    obtain ⟨i0, hi, hz0, hz1, hz2⟩ := info_parts info26
    have hS4 : w7.cell? ⟨ts, 4, none⟩ = some (.slice Av l.length cv) := (HA7.out.env.c7 0 rfl).2.2.2.2.2.1
    have HL7 := Hd HA7.out.lts
    have hbw7 : w.heap.size ≤ w7.heap.size := HA7.out.env.size
    have hx7 := (HA7.out.env.c7 0 rfl).1
    go_upto_region 3 with fail
    refine wp_region_x (s := 7) (S := fun W => W.cell? ⟨ts, 4, none⟩ = some (.slice Av l.length cv)) (by kernel_rfl) hS4 (fun hHeld => ?_)
    refine xt (i := 0) ?_
    refine xt (i := 1) ?_
    refine xt (i := 2) ?_
    refine x1 (i := 3) (fun K2 hK2 => ?_)
    go_simp
    go_at_call 201
    refine (HLI.out _ (HA7.out.env.pa.drew) HA7.out.bd).mono ?_
    rintro e wa ⟨csa, rfl, hpa, hba, hta⟩
    have hza := hpa.1.size
    have HAa := Hd ((HA7.out.below (Below.refl _ _).drew).call hpa hba hgb)
    have HTa := Hd hta
    have qa : wa.cell? ⟨ts, 4, none⟩ = some (.slice Av l.length cv) := (HAa.out.env.c7 0 rfl).2.2.2.2.2.1
    obtain ⟨css, hcl, hown, hpush⟩ := HAa.out.push HTa.out (by show _ ≤ w7.heap.size; omega) ⟨HL7.out.1, HL7.out.2.1, HL7.out.2.2.2.2⟩ hgb
    have HOWN := Hd hown
    have HPUSH := Hd hpush
    obtain ⟨p0, p1, C1, o1, e1', C2, o2, e2', C3, o3, e3', p5, p6, rfl⟩ := HTa.out.form
    have hsa : w.heap.size ≤ wa.heap.size := HAa.out.env.size
    clear hown hpush hcl
    clear hpa hba hta
    refine hK2.out _ _ (qa) (fun hHeld => ?_)
    clear hK2 K2
    refine x1 (i := 4) (fun K2 hK2 => ?_)
    go_simp
    refine hK2.out _ _ (by go_keep) (fun hHeld => ?_)
    clear hK2 K2
    refine x1 (i := 5) (fun K2 hK2 => ?_)
    refine step_append_any _ rfl (.tmp 19) (.tmp 22) 25 rfl w.heap.size 27 i0 _ 7 112 Tryz.underlying25 hi hz0 hz1 hz2 rfl (by decide) (.slice Av l.length cv) l.length css.flatten (by rfl) (World.ownsRow.alloc HOWN.out _) (wa.heap.size + 1) (some ⟨wa.heap.size, 0, none⟩) 1 1 _ (by rfl) (Reads.builtN wa 27 [_, _, _, _, _, _, _] 1 7 rfl) (by intro u hu; simp only [List.mem_cons, List.not_mem_nil, or_false] at hu; rcases hu with rfl | rfl | rfl | rfl | rfl | rfl | rfl <;> rfl) (by simp only [maxLen]; omega) (by omega) (by simp; omega) ?_
    intro v6 wb hown6 hgrow6 hv6
    obtain ⟨A6, c6, rfl, _, _⟩ := own_form hown6
    obtain ⟨hcl, hfz, hlt6, hac⟩ := HPUSH.out _ _ _ hown6 hgrow6 (by simpa using hv6)
    have HAC := Hd hac
    have kb : wb.cell? ⟨ts, 4, none⟩ = some (.slice Av l.length cv) := by rw [hcl 4]; exact qa
    have kbf := hfz 4
    clear hown6 hgrow6 hv6 hcl hfz hac
    try go_simp
    refine hK2.out _ _ (kb) (fun hHeld => ?_)
    clear hK2 K2
    refine x1 (i := 6) (fun K2 hK2 => ?_)
    go_simp
    refine hK2.out _ _ (hHeld) (fun hHeld => ?_)
    clear hK2 K2
    try simp only [Act.put, List.setIfInBounds_toArray, List.set_cons_zero, List.set_cons_succ]
    refine xl (fun K2 hK2 => ?_)
    go_simp
    refine hK2.out _ _ ?_
    clear hK2 K2
    try simp only [Act.put, List.setIfInBounds_toArray, List.set_cons_zero, List.set_cons_succ]
    refine wpAnyX_done (by kernel_rfl) ?_ _
    go_wp2_with fail
    go_roundg f
    case measure => omega
    case rel => exact ⟨pb.2, l ++ [pb.1], _, by omega, HAC.out, fun hk => by have := HAD.out hk (by omega); have := Ps.rem_adv (T := T) (s := s') (s' := pb.2) this.1 this.2; omega, by simp only [List.length_append, List.length_singleton]; omega, fun hk => by have := (HAD.out hk (by omega)).1; simp only [List.length_append, List.length_singleton]; omega, by simp only [List.length_append, List.length_singleton]; omega, HR3.out⟩
theorem braL_stop {T : List Lx.Tk} {fin f : Nat} {l : List Ps.Tr} {s : Ps.PS} (h : (Ps.ok s && !Ps.is_ T fin s [125]) = false) : Ps.braL T fin f l s = (l, s) := by
 cases f with
 | zero => unfold Ps.braL; rfl
 | succ f => unfold Ps.braL; rw [if_neg (by rw [h]; decide)]
set_option maxRecDepth 20000 in
theorem pbra_any {g c fin F : Nat} {A : Option Addr} {T : List Lx.Tk} (hT : Ps.Fits 65536 T) (ih : ∀ f, f < F → WAll g A c T fin f) (s : Ps.PS) (w : World) (h : PA w g A c T fin s) (hb : Bd T s) (hk : Ps.ok s = true) (hlt : s.at_ < T.length) (hf : Ps.rem T s + 2 ≤ F) :
  Calls Tryz.prog 162 #[.pointer (some ⟨g, 0, none⟩)] w (NdP w g A c T fin w.heap.size (Ps.nd 14 [] (Ps.braL T fin F [] (Ps.opn T fin s)).1 (Ps.nx T fin s).2.2, Ps.shut T fin [125] (Ps.braL T fin F [] (Ps.opn T fin s)).2)) := by
 have hTl := hT.len
 have E0 := (Env.start h).box 27 [.int .i64 0, .string ⟨#[]⟩, .slice none 0 0, .slice none 0 0, .slice none 0 0, .int .i64 0, .int .i64 0] (by decide)
 obtain ⟨t, ht⟩ : ∃ t, Ps.nx T fin s = t := ⟨_, rfl⟩
 obtain ⟨s1, hs1⟩ : ∃ s1, Ps.opn T fin s = s1 := ⟨_, rfl⟩
 obtain ⟨RK, hRK⟩ : ∃ RK, Ps.braL T fin F [] s1 = RK := ⟨_, rfl⟩
 obtain ⟨R, hR⟩ : ∃ R, (Ps.nd 14 [] RK.1 t.2.2, Ps.shut T fin [125] RK.2) = R := ⟨_, rfl⟩
 have HE := Hd hR.symm
 rw [ht, hs1, hRK, hR]
 have HO := Hd (popen_any E0.pa (by omega) (hb.deep hTl hk))
 have hb1 := Bd.opn (fin := fin) hb hk hlt
 have hra := Ps.rem_adv (T := T) (s := s) (s' := s1) (by rw [← hs1, Ps.opn_at]; omega) hlt
 rw [ht, hs1] at HO
 rw [hs1] at hb1
 have IH := Hd ih
 have HRK := Hd hRK
 have HB1 := Hd hb1
 have hgb : g < w.heap.size := h.lt
 have HE0 := Hd E0
 clear h hb hk hlt ht hs1 hRK hR ih hb1 E0
 go_enter Tryz.func162, Tryz.ntmps162
 have hf2 := fld2 (.int .i64 (t.1 : Int)) (.string ⟨t.2.1.toArray⟩) (.int .i64 (t.2.2 : Int))
 go_upto_block 0 with (go_at_call 160; refine HO.out.mono ?_; rintro e w1 ⟨rfl, hp⟩; have HE1 := Hd (HE0.out.call hp); clear hp)
 refine wp_world (fun W => AcS w g A c T fin w.heap.size w1.heap.size w.heap.size 14 t.2.2 s1 [] [] (.slice none 0 0) W) (AcS.start HE1.out 0 rfl rfl (TsM.nil _ _ (fun k => k = w.heap.size)) rfl HB1.out (fun k hk => by simp [Value.ownBlock] at hk) 14 t.2.2 []) fun w2 ha2 => ?_
 have HA2 := Hd ha2
 obtain ⟨ts, hts⟩ : ∃ ts, w1.heap.size = ts := ⟨_, rfl⟩
 rw [hts] at HA2 ⊢
 clear ha2 HE0 HE1 HO hf2 HB1 hts
 go_wp2
 go_loopg [] F (fun f wr => ∃ (s' : Ps.PS) (l : List Ps.Tr) (v : Value), f ≤ F ∧ AcS w g A c T fin w.heap.size ts w.heap.size 14 t.2.2 s' [] l v wr ∧ (Ps.ok s' = true → Ps.rem T s' + 9 ≤ f) ∧ l.length + f ≤ F ∧ (Ps.ok s' = true → l.length ≤ s'.at_) ∧ l.length ≤ s'.at_ + 1 ∧ Ps.braL T fin f l s' = RK)
 case atStart => exact ⟨s1, [], _, Nat.le_refl _, HA2.out, fun _ => by omega, by simp, fun _ => by simp, by simp, HRK.out⟩
 case round =>
  obtain ⟨s', l, v', hfF, hA, hrm, hlf, hl1, hl2, hR⟩ := hrel
  have HA := Hd hA
  have HR2 := Hd hR
  have HRM := Hd hrm
  have HL1 := Hd hl1
  have hg := hA.env.pa.lt
  obtain ⟨Av, cv, rfl, -, -⟩ := hA.row.form
  clear hA hR hrm hl1 HA2 HRK
  have HIS := Hd (pis_any HA.out.env.pa [125])
  cases hk : Ps.ok s' with
  | false =>
   have HE2 : Hid (R = (Ps.nd 14 [] l t.2.2, s')) := Hd (by
    have : RK = (l, s') := by rw [← HR2.out]; exact braL_stop (by rw [hk]; rfl)
    rw [HE.out, this, shut_no hk])
   obtain ⟨kq, k4⟩ := HA.out.env.pa.noc hk
   clear hk
   obtain ⟨a, a0, a1, a2, a3, a4, a5, a6⟩ := HA.out.env.c7 0 rfl
   obtain ⟨b, b0, b1, b2, b3, b4, b5, b6⟩ := HA.out.env.c7 1 rfl
   have fz := HA.out.env.fz 1 rfl
   go_wp2
   obtain ⟨hb4, hnd⟩ := HA.out.done (R := R) (HE2.out)
   exact bodyPost_ret (ret26 rfl _ _ rfl hb4) rfl hnd
  | true =>
   have k4 := HA.out.env.pa.okc hk
   cases hi : Ps.is_ T fin s' [125] with
   | true =>
    have HE2 : Hid (R = (Ps.nd 14 [] l t.2.2, Ps.cls_ T fin [125] s')) := Hd (by
     have : RK = (l, s') := by rw [← HR2.out]; exact braL_stop (by rw [hk, hi]; rfl)
     rw [HE.out, this, shut_ok hk])
    rw [hi] at HIS
    have HCL := Hd fun (W : World) (h : PA W g A c T fin s') => pclose_any h (HA.out.bd.lt hTl) (HA.out.bd.deep hTl hk) [125]
    have HBC := Hd (HA.out.bd.cls (fin := fin) hk [125])
    have HKO := Hd hk
    clear hk hi
    go_upto_region 6 with (go_at_call 75; refine HIS.out.mono ?_; rintro e w4 ⟨rfl, hb⟩; have HA4 := Hd (HA.out.below hb); clear hb)
    have k4' := HA4.out.env.pa.okc HKO.out
    have hg4 := HA4.out.env.pa.lt
    go_upto_region 8 with (go_at_call 161; refine (HCL.out _ HA4.out.env.pa).mono ?_; rintro e w5 ⟨rfl, hp⟩; have HA5 := Hd (HA4.out.call hp HBC.out hgb); clear hp)
    obtain ⟨a, a0, a1, a2, a3, a4, a5, a6⟩ := HA5.out.env.c7 0 rfl
    obtain ⟨b, b0, b1, b2, b3, b4, b5, b6⟩ := HA5.out.env.c7 1 rfl
    have fz := HA5.out.env.fz 1 rfl
    go_wp2
    obtain ⟨hb4, hnd⟩ := HA5.out.done (R := R) (HE2.out)
    exact bodyPost_ret (ret26 rfl _ _ rfl hb4) rfl hnd
   | false =>
    have hrm := HRM.out hk
    obtain ⟨f, rfl⟩ : ∃ f, gk = f + 1 := ⟨gk - 1, by omega⟩
    obtain ⟨pb, hpb⟩ : ∃ a, Ps.expr T fin f s' = a := ⟨_, rfl⟩
    have HR3 : Hid (Ps.braL T fin (f + 1) l s' = if !Ps.ok pb.2 || !Ps.is_ T fin pb.2 [46] then (l ++ [pb.1], pb.2) else Ps.braL T fin f (l ++ [pb.1]) (Ps.adv pb.2)) := Hd (by rw [← hpb]; conv => lhs; unfold Ps.braL; rw [if_pos (by rw [hk, hi]; rfl)])
    have HLI := Hd fun w5 (hp : PA w5 g A c T fin s') (hb : Bd T s') => (IH.out f (by omega)).expr s' w5 hp hb (by omega)
    have hle : s'.at_ ≤ pb.2.at_ := by rw [← hpb]; exact ((Ps.leAll T fin f).expr s').at_
    have hl3 := HL1.out hk
    rw [hpb] at HLI
    rw [hi] at HIS
    clear hpb hk hi
    go_upto_region 3 with (go_at_call 75; refine HIS.out.mono ?_; rintro e w7 ⟨rfl, hb⟩; have HA7 := Hd (HA.out.below hb); clear hb)
    clear HA HIS
    have hat := HA7.out.bd.at_
    obtain ⟨i0, hi, hz0, hz1, hz2⟩ := info_parts info26
    have hS4 : w7.cell? ⟨ts, 4, none⟩ = some (.slice Av l.length cv) := (HA7.out.env.c7 0 rfl).2.2.2.2.2.1
    have HL7 := Hd HA7.out.lts
    have hbw7 : w.heap.size ≤ w7.heap.size := HA7.out.env.size
    have hx7 := (HA7.out.env.c7 0 rfl).1
    go_upto_region 3 with fail
    refine wp_region_x (s := 7) (S := fun W => W.cell? ⟨ts, 4, none⟩ = some (.slice Av l.length cv)) (by kernel_rfl) hS4 (fun hHeld => ?_)
    refine xt (i := 0) ?_
    refine xt (i := 1) ?_
    refine xt (i := 2) ?_
    refine x1 (i := 3) (fun K2 hK2 => ?_)
    go_simp
    go_at_call 77
    refine (HLI.out _ (HA7.out.env.pa.drew) HA7.out.bd).mono ?_
    rintro e wa ⟨csa, rfl, hpa, hba, hta⟩
    have hza := hpa.1.size
    have HAa := Hd ((HA7.out.below (Below.refl _ _).drew).call hpa hba hgb)
    have HTa := Hd hta
    have qa : wa.cell? ⟨ts, 4, none⟩ = some (.slice Av l.length cv) := (HAa.out.env.c7 0 rfl).2.2.2.2.2.1
    obtain ⟨css, hcl, hown, hpush⟩ := HAa.out.push HTa.out (by show _ ≤ w7.heap.size; omega) ⟨HL7.out.1, HL7.out.2.1, HL7.out.2.2.2.2⟩ hgb
    have HOWN := Hd hown
    have HPUSH := Hd hpush
    obtain ⟨p0, p1, C1, o1, e1', C2, o2, e2', C3, o3, e3', p5, p6, rfl⟩ := HTa.out.form
    have hsa : w.heap.size ≤ wa.heap.size := HAa.out.env.size
    clear hown hpush hcl
    clear hpa hba hta
    refine hK2.out _ _ (qa) (fun hHeld => ?_)
    clear hK2 K2
    refine x1 (i := 4) (fun K2 hK2 => ?_)
    go_simp
    refine hK2.out _ _ (by go_keep) (fun hHeld => ?_)
    clear hK2 K2
    refine x1 (i := 5) (fun K2 hK2 => ?_)
    refine step_append_any _ rfl (.tmp 19) (.tmp 22) 25 rfl w.heap.size 27 i0 _ 7 112 Tryz.underlying25 hi hz0 hz1 hz2 rfl (by decide) (.slice Av l.length cv) l.length css.flatten (by rfl) (World.ownsRow.alloc HOWN.out _) (wa.heap.size + 1) (some ⟨wa.heap.size, 0, none⟩) 1 1 _ (by rfl) (Reads.builtN wa 27 [_, _, _, _, _, _, _] 1 7 rfl) (by intro u hu; simp only [List.mem_cons, List.not_mem_nil, or_false] at hu; rcases hu with rfl | rfl | rfl | rfl | rfl | rfl | rfl <;> rfl) (by simp only [maxLen]; omega) (by omega) (by simp; omega) ?_
    intro v6 wb hown6 hgrow6 hv6
    obtain ⟨A6, c6, rfl, _, _⟩ := own_form hown6
    obtain ⟨hcl, hfz, hlt6, hac⟩ := HPUSH.out _ _ _ hown6 hgrow6 (by simpa using hv6)
    have HAC := Hd hac
    have kb : wb.cell? ⟨ts, 4, none⟩ = some (.slice Av l.length cv) := by rw [hcl 4]; exact qa
    have kbf := hfz 4
    clear hown6 hgrow6 hv6 hcl hfz hac
    try go_simp
    refine hK2.out _ _ (kb) (fun hHeld => ?_)
    clear hK2 K2
    refine x1 (i := 6) (fun K2 hK2 => ?_)
    go_simp
    refine hK2.out _ _ (hHeld) (fun hHeld => ?_)
    clear hK2 K2
    try simp only [Act.put, List.setIfInBounds_toArray, List.set_cons_zero, List.set_cons_succ]
    refine xl (fun K2 hK2 => ?_)
    go_simp
    refine hK2.out _ _ ?_
    clear hK2 K2
    try simp only [Act.put, List.setIfInBounds_toArray, List.set_cons_zero, List.set_cons_succ]
    refine wpAnyX_done (by kernel_rfl) ?_ _
    go_upto_region 4 with fail
    refine wp_world (fun W => AcS w g A c T fin w.heap.size ts w.heap.size 14 t.2.2 pb.2 [] (l ++ [pb.1]) _ W) HAC.out fun w8 ha8 => ?_
    have HA8 := Hd ha8
    have hg8 := ha8.env.pa.lt
    have HI8 := Hd (pis_any ha8.env.pa [46])
    clear ha8 HAC HA7
    obtain ⟨n1, hn1⟩ : ∃ n, l.length + 1 = n := ⟨_, rfl⟩
    cases hk : Ps.ok pb.2 with
    | false =>
     have HE2 : Hid (R = (Ps.nd 14 [] (l ++ [pb.1]) t.2.2, pb.2)) := Hd (by
      have : RK = (l ++ [pb.1], pb.2) := by rw [← HR2.out, HR3.out, hk]; rfl
      rw [HE.out, this, shut_no hk])
     obtain ⟨kq, k4⟩ := HA8.out.env.pa.noc hk
     clear hk hn1
     obtain ⟨a, a0, a1, a2, a3, a4, a5, a6⟩ := HA8.out.env.c7 0 rfl
     obtain ⟨b, b0, b1, b2, b3, b4, b5, b6⟩ := HA8.out.env.c7 1 rfl
     have fz := HA8.out.env.fz 1 rfl
     go_wp2
     obtain ⟨hb4, hnd⟩ := HA8.out.done (R := R) (HE2.out)
     exact bodyPost_ret (ret26 rfl _ _ rfl hb4) rfl hnd
    | true =>
     have k4 := HA8.out.env.pa.okc hk
     cases hi : Ps.is_ T fin pb.2 [46] with
     | false =>
      have HE2 : Hid (R = (Ps.nd 14 [] (l ++ [pb.1]) t.2.2, Ps.cls_ T fin [125] pb.2)) := Hd (by
       have : RK = (l ++ [pb.1], pb.2) := by rw [← HR2.out, HR3.out, hk, hi]; rfl
       rw [HE.out, this, shut_ok hk])
      rw [hi] at HI8
      have HCL := Hd fun (W : World) (h : PA W g A c T fin pb.2) => pclose_any h (HA8.out.bd.lt hTl) (HA8.out.bd.deep hTl hk) [125]
      have HBC := Hd (HA8.out.bd.cls (fin := fin) hk [125])
      have HKO := Hd hk
      clear hk hi hn1
      go_upto_region 6 with (go_at_call 75; refine HI8.out.mono ?_; rintro e w9 ⟨rfl, hb⟩; have HA9 := Hd (HA8.out.below hb); clear hb)
      have k4' := HA9.out.env.pa.okc HKO.out
      have hg9 := HA9.out.env.pa.lt
      go_upto_region 8 with (go_at_call 161; refine (HCL.out _ HA9.out.env.pa).mono ?_; rintro e w10 ⟨rfl, hp⟩; have HA10 := Hd (HA9.out.call hp HBC.out hgb); clear hp)
      obtain ⟨a, a0, a1, a2, a3, a4, a5, a6⟩ := HA10.out.env.c7 0 rfl
      obtain ⟨b, b0, b1, b2, b3, b4, b5, b6⟩ := HA10.out.env.c7 1 rfl
      have fz := HA10.out.env.fz 1 rfl
      go_wp2
      obtain ⟨hb4, hnd⟩ := HA10.out.done (R := R) (HE2.out)
      exact bodyPost_ret (ret26 rfl _ _ rfl hb4) rfl hnd
     | true =>
      have hlt2 : pb.2.at_ < T.length := Ps.mark_lt (fin := fin) hi
      have HR4 : Hid (Ps.braL T fin f (l ++ [pb.1]) (Ps.adv pb.2) = RK) := Hd (by rw [← HR2.out, HR3.out, hk, hi]; rfl)
      have hrb := Ps.rem_adv (T := T) (s := pb.2) (s' := Ps.adv pb.2) (Nat.lt_succ_self _) hlt2
      have hrc := Ps.rem_le (T := T) hle
      rw [hi] at HI8
      clear hk hi hn1
      go_wp2_with (first
       | (go_at_call 75; refine HI8.out.mono ?_; rintro e w9 ⟨rfl, hb⟩; have HA9 := Hd (HA8.out.below hb); clear hb)
       | (go_at_call 29; refine (ptake_any HA9.out.env.pa (by omega)).mono ?_; rintro e w10 ⟨rfl, hp⟩; have HA10 := Hd (HA9.out.call hp (HA9.out.bd.adv hlt2) hgb); clear hp))
      go_roundg f
      case measure => omega
      case rel => exact ⟨Ps.adv pb.2, l ++ [pb.1], _, by omega, HA10.out, fun _ => by omega, by simp only [List.length_append, List.length_singleton]; omega, fun _ => by show _ ≤ pb.2.at_ + 1; simp only [List.length_append, List.length_singleton]; omega, by show _ ≤ pb.2.at_ + 1 + 1; simp only [List.length_append, List.length_singleton]; omega, HR4.out⟩
theorem bytL_stop {T : List Lx.Tk} {fin f : Nat} {l : List Ps.Tr} {s : Ps.PS} (h : (Ps.ok s && !Ps.is_ T fin s [93]) = false) : Ps.bytL T fin f l s = (l, s) := by
 cases f with
 | zero => unfold Ps.bytL; rfl
 | succ f => unfold Ps.bytL; rw [if_neg (by rw [h]; decide)]
theorem want_step {T : List Lx.Tk} {fin k : Nat} (hk0 : k ≠ 0) {x : Lx.Txt} {s : Ps.PS} (hs : s.at_ ≤ T.length) : (Ps.want T fin k x s).2.at_ ≤ T.length ∧ s.at_ ≤ (Ps.want T fin k x s).2.at_ ∧ (Ps.ok (Ps.want T fin k x s).2 = true → (Ps.want T fin k x s).2.at_ = s.at_ + 1 ∧ s.at_ < T.length) := by
 unfold Ps.want
 split
 ·refine ⟨hs, Nat.le_refl _, fun hk => ?_⟩
  have : Ps.ok (Ps.odd T fin s) = false := Ps.rf_no _ _ _
  rw [this] at hk
  cases hk
 ·rename_i hc
  have e : (Ps.nx T fin s).1 = k := by
   by_cases h1 : (Ps.nx T fin s).1 = k
   ·exact h1
   ·exact absurd (by simp [h1]) hc
  have hlt : s.at_ < T.length := Ps.nx_lt (fin := fin) (by rw [e]; exact hk0)
  exact ⟨hlt, Nat.le_succ _, fun _ => ⟨rfl, hlt⟩⟩
theorem smallS_at {t : Lx.Tk} {n : Nat} {s : Ps.PS} : (Ps.smallS t n s).at_ = s.at_ := by
 unfold Ps.smallS
 split <;> rfl
set_option maxRecDepth 20000 in
theorem pbyt_any {g c fin : Nat} {A : Option Addr} {T : List Lx.Tk} (hT : Ps.Fits 65536 T) (s : Ps.PS) (w : World) (h : PA w g A c T fin s) (hb : Bd T s) (hk : Ps.ok s = true) (hlt : s.at_ < T.length) :
  Calls Tryz.prog 159 #[.pointer (some ⟨g, 0, none⟩)] w (NdP w g A c T fin w.heap.size (Ps.bytes T fin s)) := by
 have hTl := hT.len
 have E0 := (Env.start h).box 27 [.int .i64 0, .string ⟨#[]⟩, .slice none 0 0, .slice none 0 0, .slice none 0 0, .int .i64 0, .int .i64 0] (by decide)
 obtain ⟨t, ht⟩ : ∃ t, Ps.nx T fin s = t := ⟨_, rfl⟩
 obtain ⟨s1, hs1⟩ : ∃ s1, Ps.opn T fin s = s1 := ⟨_, rfl⟩
 obtain ⟨RK, hRK⟩ : ∃ RK, Ps.bytL T fin (T.length + 2) [] s1 = RK := ⟨_, rfl⟩
 have HE : Hid (Ps.bytes T fin s = (Ps.nd 13 [] RK.1 t.2.2, Ps.shut T fin [93] RK.2)) := Hd (by rw [Ps.bytes, hs1, hRK, ht])
 obtain ⟨R, hR⟩ : ∃ R, Ps.bytes T fin s = R := ⟨_, rfl⟩
 rw [hR] at HE ⊢
 have HO := Hd (popen_any E0.pa (by omega) (hb.deep hTl hk))
 have hb1 := Bd.opn (fin := fin) hb hk hlt
 have hs1a : s1.at_ = s.at_ + 1 := by rw [← hs1, Ps.opn_at]
 rw [ht, hs1] at HO
 rw [hs1] at hb1
 have HRK := Hd hRK
 have HB1 := Hd hb1
 have hgb : g < w.heap.size := h.lt
 have HE0 := Hd E0
 clear h hb hk hlt ht hs1 hRK hR hb1 E0
 go_enter Tryz.func159, Tryz.ntmps159
 have hf2 := fld2 (.int .i64 (t.1 : Int)) (.string ⟨t.2.1.toArray⟩) (.int .i64 (t.2.2 : Int))
 go_upto_block 0 with (go_at_call 160; refine HO.out.mono ?_; rintro e w1 ⟨rfl, hp⟩; have HE1 := Hd (HE0.out.call hp); clear hp)
 refine wp_world (fun W => AcS w g A c T fin w.heap.size w1.heap.size w.heap.size 13 t.2.2 s1 [] [] (.slice none 0 0) W) (AcS.start HE1.out 0 rfl rfl (TsM.nil _ _ (fun k => k = w.heap.size)) rfl HB1.out (fun k hk => by simp [Value.ownBlock] at hk) 13 t.2.2 []) fun w2 ha2 => ?_
 have HA2 := Hd ha2
 obtain ⟨ts, hts⟩ : ∃ ts, w1.heap.size = ts := ⟨_, rfl⟩
 rw [hts] at HA2 ⊢
 clear ha2 HE0 HE1 HO hf2 HB1 hts
 go_wp2
 go_loopg [] (T.length + 2) (fun f wr => ∃ (s' : Ps.PS) (l : List Ps.Tr) (v : Value), f ≤ T.length + 2 ∧ AcS w g A c T fin w.heap.size ts w.heap.size 13 t.2.2 s' [] l v wr ∧ (Ps.ok s' = true → T.length < s'.at_ + f) ∧ l.length + f ≤ T.length + 2 ∧ (Ps.ok s' = true → l.length ≤ s'.at_) ∧ l.length ≤ s'.at_ + 1 ∧ Ps.bytL T fin f l s' = RK)
 case atStart => exact ⟨s1, [], _, Nat.le_refl _, HA2.out, fun _ => by omega, by simp, fun _ => by simp, by simp, HRK.out⟩
 case round =>
  obtain ⟨s', l, v', hfF, hA, hrm, hlf, hl1, hl2, hR⟩ := hrel
  have HA := Hd hA
  have HR2 := Hd hR
  have HRM := Hd hrm
  have HL1 := Hd hl1
  have hg := hA.env.pa.lt
  obtain ⟨Av, cv, rfl, -, -⟩ := hA.row.form
  clear hA hR hrm hl1 HA2 HRK
  have HIS := Hd (pis_any HA.out.env.pa [93])
  cases hk : Ps.ok s' with
  | false =>
   have HE2 : Hid (R = (Ps.nd 13 [] l t.2.2, s')) := Hd (by
    have : RK = (l, s') := by rw [← HR2.out]; exact bytL_stop (by rw [hk]; rfl)
    rw [HE.out, this, shut_no hk])
   obtain ⟨kq, k4⟩ := HA.out.env.pa.noc hk
   clear hk
   obtain ⟨a, a0, a1, a2, a3, a4, a5, a6⟩ := HA.out.env.c7 0 rfl
   obtain ⟨b, b0, b1, b2, b3, b4, b5, b6⟩ := HA.out.env.c7 1 rfl
   have fz := HA.out.env.fz 1 rfl
   go_wp2
   obtain ⟨hb4, hnd⟩ := HA.out.done (R := R) (HE2.out)
   exact bodyPost_ret (ret26 rfl _ _ rfl hb4) rfl hnd
  | true =>
   have k4 := HA.out.env.pa.okc hk
   cases hi : Ps.is_ T fin s' [93] with
   | true =>
    have HE2 : Hid (R = (Ps.nd 13 [] l t.2.2, Ps.cls_ T fin [93] s')) := Hd (by
     have : RK = (l, s') := by rw [← HR2.out]; exact bytL_stop (by rw [hk, hi]; rfl)
     rw [HE.out, this, shut_ok hk])
    rw [hi] at HIS
    have HCL := Hd fun (W : World) (h : PA W g A c T fin s') => pclose_any h (HA.out.bd.lt hTl) (HA.out.bd.deep hTl hk) [93]
    have HBC := Hd (HA.out.bd.cls (fin := fin) hk [93])
    have HKO := Hd hk
    clear hk hi
    go_upto_region 7 with (go_at_call 75; refine HIS.out.mono ?_; rintro e w4 ⟨rfl, hb⟩; have HA4 := Hd (HA.out.below hb); clear hb)
    have k4' := HA4.out.env.pa.okc HKO.out
    have hg4 := HA4.out.env.pa.lt
    go_upto_region 9 with (go_at_call 161; refine (HCL.out _ HA4.out.env.pa).mono ?_; rintro e w5 ⟨rfl, hp⟩; have HA5 := Hd (HA4.out.call hp HBC.out hgb); clear hp)
    obtain ⟨a, a0, a1, a2, a3, a4, a5, a6⟩ := HA5.out.env.c7 0 rfl
    obtain ⟨b, b0, b1, b2, b3, b4, b5, b6⟩ := HA5.out.env.c7 1 rfl
    have fz := HA5.out.env.fz 1 rfl
    go_wp2
    obtain ⟨hb4, hnd⟩ := HA5.out.done (R := R) (HE2.out)
    exact bodyPost_ret (ret26 rfl _ _ rfl hb4) rfl hnd
   | false =>
    have hrm := HRM.out hk
    have hat := HA.out.bd.ok hk
    obtain ⟨f, rfl⟩ : ∃ f, gk = f + 1 := ⟨gk - 1, by omega⟩
    obtain ⟨r, hr⟩ : ∃ r, Ps.want T fin 4 [] s' = r := ⟨_, rfl⟩
    have HR3 : Hid (Ps.bytL T fin f (l ++ [Ps.nd 9 r.1.2.1 [] r.1.2.2]) (if Ps.ok r.2 then Ps.smallS r.1 255 r.2 else r.2) = RK) := Hd (by rw [← HR2.out, ← hr]; conv => rhs; unfold Ps.bytL; rw [if_pos (by rw [hk, hi]; rfl)])
    have HWA := Hd fun (W : World) (h : PA W g A c T fin s') => pwant_any h (by omega) 4 []
    have HWS := Hd (want_step (T := T) (fin := fin) (k := 4) (by decide) (x := []) hat.1)
    have HWB := Hd (Bd.want (fin := fin) HA.out.bd (k := 4) (by decide) [])
    have htx : Ps.ok r.2 = true → r.1.2.1.length ≤ 65536 := fun hok => by
     have h1 : r.1 = Ps.nx T fin s' := by rw [← hr] at hok ⊢; exact Ps.want_tok hok
     have h2 : s'.at_ < T.length := by rw [← hr] at hok; exact (HWS.out.2.2 hok).2
     rw [h1]
     exact hT.txt _ (Ps.nx_mem h2)
    have HTX := Hd htx
    have hl3 := HL1.out hk
    rw [hr] at HWA HWS HWB
    rw [hi] at HIS
    clear hr hk hi htx
    obtain ⟨tk, sk⟩ := r
    dsimp only at HWA HWS HWB HTX HR3
    go_upto_region 4 with (first
     | (go_at_call 75; refine HIS.out.mono ?_; rintro e w4 ⟨rfl, hb⟩; have HA4 := Hd (HA.out.below hb); clear hb)
     | (go_at_call 33; refine (HWA.out _ HA4.out.env.pa).mono ?_; rintro e w5 ⟨rfl, hp⟩; have HA5 := Hd (HA4.out.call hp HWB.out hgb); clear hp))
    refine wp_world (fun W => AcS w g A c T fin w.heap.size ts w.heap.size 13 t.2.2 sk [] l _ W ∧ Blk W w5.heap.size 37 _) ⟨HA5.out.below (new_below _ _), Blk.new _ _ _⟩ fun w6 h6 => ?_
    have HA6 := Hd h6.1
    have HB6 := Hd h6.2
    have hg6 := h6.1.env.pa.lt
    clear h6 HA5 HA4 HA
    obtain ⟨i0, hi, hz0, hz1, hz2⟩ := info_parts info26
    cases hk : Ps.ok sk with
    | false =>
     obtain ⟨kq, k4⟩ := HA6.out.env.pa.noc hk
     have HR4 : Hid (Ps.bytL T fin f (l ++ [Ps.nd 9 tk.2.1 [] tk.2.2]) sk = RK) := Hd (by rw [← HR3.out, hk]; rfl)
     have HOK := Hd hk
     have HA7 := HA6
     have HB7 := HB6
     clear hk
     go_upto_region 6 with fail
     clear HA6 HB6 k4
     have hbw7 : w.heap.size ≤ w6.heap.size := HA7.out.env.size
     obtain ⟨e0', e0, e1, e2, e3, e4, e5, e6⟩ := HA7.out.env.c7 0 rfl
     have ef := HA7.out.env.fz 0 rfl
     have b0' := HB7.out.lt
     have b0 := HB7.out.cell 0
     have b1 := HB7.out.cell 1
     have b2 := HB7.out.cell 2
     have HL7 := Hd HA7.out.lts
     have HLF := TrM.leaf w6 w6.heap.size (fun _ => False) 9 tk.2.1 tk.2.2
     obtain ⟨css, hcl, hown, hpush⟩ := HA7.out.push HLF (by omega) ⟨HL7.out.1, HL7.out.2.1, HL7.out.2.2.2.2⟩ hgb
     have HOWN := Hd hown
     have HPUSH := Hd hpush
     clear hown hpush hcl HLF
     go_wp2_with (at_builtin; refine wpList_append_any _ rfl (.tmp 30) (.tmp 36) 25 rfl w.heap.size 27 i0 _ 7 112 Tryz.underlying25 hi hz0 hz1 hz2 rfl (by decide) (.slice Av l.length cv) l.length css.flatten (by rfl) (World.ownsRow.alloc HOWN.out _) (w6.heap.size + 1) (some ⟨w6.heap.size, 0, none⟩) 1 1 _ (by rfl) (Reads.builtN w6 27 [_, _, _, _, _, _, _] 1 7 rfl) (by intro u hu; simp only [List.mem_cons, List.not_mem_nil, or_false] at hu; rcases hu with rfl | rfl | rfl | rfl | rfl | rfl | rfl <;> rfl) (by simp only [maxLen]; omega) (by omega) (by simp; omega) ?_; intro v6 wb hown6 hgrow6 hv6; obtain ⟨A6, c6, rfl, _, _⟩ := own_form hown6; obtain ⟨hcl, hfz, hlt6, hac⟩ := HPUSH.out _ _ _ hown6 hgrow6 (by simpa using hv6); have HAC := Hd hac; have kb := hcl 4; rw [e4] at kb; have kbf := hfz 4; clear hown6 hgrow6 hv6 hcl hfz hac)
     go_roundg f
     case measure => omega
     case rel => exact ⟨sk, l ++ [Ps.nd 9 tk.2.1 [] tk.2.2], _, by omega, HAC.out, fun hk => (by rw [HOK.out] at hk; cases hk), by simp only [List.length_append, List.length_singleton]; omega, fun hk => (by rw [HOK.out] at hk; cases hk), by have := HWS.out.2.1; simp only [List.length_append, List.length_singleton]; omega, HR4.out⟩
    | true =>
     have k4 := HA6.out.env.pa.okc hk
     have HR4 : Hid (Ps.bytL T fin f (l ++ [Ps.nd 9 tk.2.1 [] tk.2.2]) (Ps.smallS tk 255 sk) = RK) := Hd (by rw [← HR3.out, hk]; rfl)
     have HSM := Hd (psmall_any HA6.out.env.pa tk 255 (by decide) (HTX.out hk))
     have HBS := Hd (Bd.smallS HA6.out.bd tk 255)
     have HWK := Hd (HWS.out.2.2 hk)
     have c1' := HB6.out.lt
     have c2' := HB6.out.cell 0
     have c3' := HB6.out.cell 1
     have c4' := HB6.out.cell 2
     have hw5 : w5.heap.size ≠ g := by have := HA6.out.lts; have := HB6.out; intro e; exact absurd (Blk.ne_ HB6.out (HA6.out.env.pa.ex.choose_spec.1) (by decide)) (by rw [e]; exact fun h => h rfl)
     clear hk
     go_upto_region 6 with (go_at_call 34; refine HSM.out.mono ?_; rintro e w7 ⟨rfl, hp⟩; have HA7 := Hd (HA6.out.call hp HBS.out hgb); have HB7 := Hd (hp.1.blk HB6.out hw5); clear hp)
     clear HA6 HB6 k4
     have hbw7 : w.heap.size ≤ w7.heap.size := HA7.out.env.size
     obtain ⟨e0', e0, e1, e2, e3, e4, e5, e6⟩ := HA7.out.env.c7 0 rfl
     have ef := HA7.out.env.fz 0 rfl
     have b0' := HB7.out.lt
     have b0 := HB7.out.cell 0
     have b1 := HB7.out.cell 1
     have b2 := HB7.out.cell 2
     have HL7 := Hd HA7.out.lts
     have HLF := TrM.leaf w7 w7.heap.size (fun _ => False) 9 tk.2.1 tk.2.2
     obtain ⟨css, hcl, hown, hpush⟩ := HA7.out.push HLF (by omega) ⟨HL7.out.1, HL7.out.2.1, HL7.out.2.2.2.2⟩ hgb
     have HOWN := Hd hown
     have HPUSH := Hd hpush
     clear hown hpush hcl HLF
     go_wp2_with (at_builtin; refine wpList_append_any _ rfl (.tmp 30) (.tmp 36) 25 rfl w.heap.size 27 i0 _ 7 112 Tryz.underlying25 hi hz0 hz1 hz2 rfl (by decide) (.slice Av l.length cv) l.length css.flatten (by rfl) (World.ownsRow.alloc HOWN.out _) (w7.heap.size + 1) (some ⟨w7.heap.size, 0, none⟩) 1 1 _ (by rfl) (Reads.builtN w7 27 [_, _, _, _, _, _, _] 1 7 rfl) (by intro u hu; simp only [List.mem_cons, List.not_mem_nil, or_false] at hu; rcases hu with rfl | rfl | rfl | rfl | rfl | rfl | rfl <;> rfl) (by simp only [maxLen]; omega) (by omega) (by simp; omega) ?_; intro v6 wb hown6 hgrow6 hv6; obtain ⟨A6, c6, rfl, _, _⟩ := own_form hown6; obtain ⟨hcl, hfz, hlt6, hac⟩ := HPUSH.out _ _ _ hown6 hgrow6 (by simpa using hv6); have HAC := Hd hac; have kb := hcl 4; rw [e4] at kb; have kbf := hfz 4; clear hown6 hgrow6 hv6 hcl hfz hac)
     go_roundg f
     case measure => omega
     case rel => exact ⟨Ps.smallS tk 255 sk, l ++ [Ps.nd 9 tk.2.1 [] tk.2.2], _, by omega, HAC.out, fun _ => by rw [smallS_at, HWK.out.1]; omega, by simp only [List.length_append, List.length_singleton]; omega, fun _ => by rw [smallS_at, HWK.out.1]; simp only [List.length_append, List.length_singleton]; omega, by rw [smallS_at, HWK.out.1]; simp only [List.length_append, List.length_singleton]; omega, HR4.out⟩
end Go.Proofs.YtjhonaglmgmpiaaGreatDoor
