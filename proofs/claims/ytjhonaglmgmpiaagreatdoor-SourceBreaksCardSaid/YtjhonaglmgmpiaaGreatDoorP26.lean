/-
 THE STATEMENT 'SourceBreaks' (effigylaw12.SourceBreaks), its card: whatever the texts, the law returns true, and the texts read behind the call as they read before; where the listed package variables read as the program's text lays them, and the card ties them to that text.
-/
import Derived.Test.YtjhonaglmgmpiaaGreatDoorP21
import Derived.Test.YtjhonaglmgmpiaaGreatDoorP23
import Derived.Test.YtjhonaglmgmpiaaGreatDoorP25
import Derived.Test.YtjhonaglmgmpiaaGreatDoorRows
import Derived.Test.YtjhonaglmgmpiaaGreatDoorCards
import Derived.Test.YtjhonaglmgmpiaaGreatDoorTie
import Derived.SevenTiedAt
import Derived.ProofKit
import Derived.OpenShut
import Derived.ChangeOld
import Derived.Below
import Derived.LaidMore
import Derived.Stop.Joined
import Derived.Lib.LaidTab
import Derived.Stop.LaidErr
import Derived.Handed
import Derived.SizedLaws
set_option maxHeartbeats 4000000
namespace Go.Proofs.YtjhonaglmgmpiaaGreatDoor
open Go.RowKit
theorem run_neq37 (w : World) (a b : Lx.Tk) : (binOp .neq 37 (.agg #[.int .i64 (a.1 : Int), .string ⟨a.2.1.toArray⟩, .int .i64 (a.2.2 : Int)]) (.agg #[.int .i64 (b.1 : Int), .string ⟨b.2.1.toArray⟩, .int .i64 (b.2.2 : Int)])).run Tryz.prog w = .ok (.bool (!decide (a = b))) w := by
 rw [run_neq_struct, show (10000 : Nat) = 9999 + 1 from rfl, run_equalIn_agg w 9999 37 _ _ (by kernel_rfl) Tryz.stoodInHeld37]
 go_simp
 obtain ⟨a0, a1, a2⟩ := a
 obtain ⟨b0, b1, b2⟩ := b
 dsimp only
 by_cases h0 : a0 = b0 <;> by_cases h1 : a1 = b1 <;> by_cases h2 : a2 = b2 <;> simp [h0, h1, h2] <;> omega
theorem pTop_ok {x : Lx.Txt} (h : (Lx.lexT x).2.2 = 0) : pTop x (fun T fin f => Ps.meth T fin f) = Ps.rd x := by
 unfold pTop
 rw [if_pos h]
 rfl
theorem tok3 {w : World} {base c : Nat} {A : Option Addr} {T : List Lx.Tk} (h : OwnT w base (.slice A T.length c) T) {i : Nat} {t : Lx.Tk} (hi : T[i]? = some t) : ∃ b off, A = some ⟨b, off, none⟩ ∧ b < w.heap.size ∧
  w.cell? ⟨b, off + i * 3, none⟩ = some (.int .i64 (t.1 : Int)) ∧ w.cell? ⟨b, off + i * 3 + 1, none⟩ = some (.string ⟨t.2.1.toArray⟩) ∧ w.cell? ⟨b, off + i * 3 + 2, none⟩ = some (.int .i64 (t.2.2 : Int)) := by
 obtain ⟨b, off, e, _, hb, hc⟩ := (ReadsI.of_own (S := fun _ => True) h fun _ _ => trivial).2 (by have := (List.getElem?_eq_some_iff.1 hi).1; omega)
 exact ⟨b, off, e, hb, hc (i * 3) _ (tks_at hi 0 (by omega)), hc (i * 3 + 1) _ (tks_at hi 1 (by omega)), hc (i * 3 + 2) _ (tks_at hi 2 (by omega))⟩
def Fnd (T : List Lx.Tk) (p k : Nat) (z : Int) : Prop := (z = -1 ∧ ∀ t ∈ T.take k, t.2.2 ≠ p) ∨ ∃ (j : Nat) (t : Lx.Tk), z = (j : Int) ∧ j < T.length ∧ T[j]? = some t ∧ t.2.2 = p
theorem Fnd.hit {T : List Lx.Tk} {p k : Nat} {t : Lx.Tk} (ht : T[k]? = some t) (hp : t.2.2 = p) : Fnd T p (k + 1) (k : Int) := .inr ⟨k, t, rfl, (List.getElem?_eq_some_iff.1 ht).1, ht, hp⟩
theorem Fnd.miss {T : List Lx.Tk} {p k : Nat} {z : Int} {t : Lx.Tk} (h : Fnd T p k z) (ht : T[k]? = some t) (hp : t.2.2 ≠ p) : Fnd T p (k + 1) z := by
 rcases h with ⟨rfl, h⟩ | h
 ·refine .inl ⟨rfl, fun u hu => ?_⟩
  rw [List.take_add_one, ht] at hu
  simp only [Option.toList_some, List.mem_append, List.mem_singleton] at hu
  rcases hu with hu | rfl
  ·exact h u hu
  ·exact hp
 ·exact .inr h
theorem cat_eq (x y : Lx.Txt) (n : Nat) : (⟨x.toArray⟩ : ByteArray).extract 0 n ++ ⟨#[32]⟩ ++ ⟨y.toArray⟩ = ⟨(x.take n ++ 32 :: y).toArray⟩ := by
 apply ByteArray.ext
 simp
set_option maxRecDepth 20000 in
set_option maxHeartbeats 8000000 in
theorem breaks_any (x y : Lx.Txt) (w : World) (hx : x.length ≤ 140737488355328) (hy : y.length ≤ 140737488355328) : Calls Tryz.prog 3 #[.string ⟨x.toArray⟩, .string ⟨y.toArray⟩] w (YesB w) := by
 have HAW := Hd fun W => awake_any W
 obtain ⟨r, hr⟩ : ∃ r, pTop x (fun T fin f => Ps.meth T fin f) = r := ⟨_, rfl⟩
 have HPA := Hd fun W => pparse_any x W (by omega)
 rw [hr] at HPA
 obtain ⟨lx, hlx⟩ : ∃ lx, Lx.lexT x = lx := ⟨_, rfl⟩
 have HLX := Hd fun W => rlex_any ⟨x.toArray⟩ W (by rw [txt_size]; omega)
 rw [txt_list, hlx] at HLX
 have HNU := Hd fun (e : Int) (W : World) => num_any e W
 have HR := Hd hr
 have HL := Hd hlx
 obtain ⟨T, lp, le⟩ := lx
 obtain ⟨rt, p, e⟩ := r
 clear hr hlx
 go_enter Tryz.func3, Tryz.ntmps3
 go_upto_region 3 with (go_at_call 8; refine (HAW.out _).mono ?_; rintro e w1 ⟨rfl, hb⟩; have HB1 := Hd hb; clear hb)
 go_upto_region 4 with (go_at_call 9; refine (HPA.out _).mono ?_; intro e w2 h; obtain ⟨xk, xn, xA, xx, xa, xB, xy, xb, xC, xz, xc, xp, xl, rfl, hb, -⟩ := h.named; have HB := Hd (HB1.out.trans (hb.mono HB1.out.size)); clear h hb)
 refine wp_world (fun W => Below w.heap.size w W) (HB.out.trans ((new_below _ _).mono HB.out.size)) fun w3 h3 => ?_
 have HB3 := Hd h3
 clear h3 HB HB1
 go_upto_region 5 with (go_at_call 10; refine (HLX.out _).mono ?_; rintro e w4 ⟨hb, v, rfl, ho⟩; obtain ⟨A, c, rfl, hc1, hc2⟩ := OwnT.form ho; have HB4 := Hd (HB3.out.trans (hb.mono HB3.out.size)); have HO := Hd ho; clear hb ho)
 have HTK : Hid (∀ W', Below w4.heap.size w4 W' → ∀ (i : Nat) (t : Lx.Tk), T[i]? = some t → ∃ b off, A = some ⟨b, off, none⟩ ∧ b < W'.heap.size ∧ W'.cell? ⟨b, off + i * 3, none⟩ = some (.int .i64 (t.1 : Int)) ∧ W'.cell? ⟨b, off + i * 3 + 1, none⟩ = some (.string ⟨t.2.1.toArray⟩) ∧ W'.cell? ⟨b, off + i * 3 + 2, none⟩ = some (.int .i64 (t.2.2 : Int))) := Hd fun W' hb i t ht => by
  obtain ⟨b, off, e, h0, h1, h2, h3⟩ := tok3 HO.out ht
  exact ⟨b, off, e, Nat.lt_of_lt_of_le h0 hb.size, (hb.cell (p := ⟨b, _, none⟩) h0).trans h1, (hb.cell (p := ⟨b, _, none⟩) h0).trans h2, (hb.cell (p := ⟨b, _, none⟩) h0).trans h3⟩
 clear HO HB3
 obtain ⟨tl, htl⟩ : ∃ tl, T.length = tl := ⟨_, rfl⟩
 simp only [htl] at hc1 ⊢
 have HTL := Hd htl
 clear htl
 have hl9 : tl ≤ 9223372036854775807 := by simp only [maxLen] at hc2; omega
 by_cases hle : le = 0
 rotate_left
 ·have d : ((le : Int) != 0) = true := by rw [bne_iff_ne]; omega
  go_wp2
  go_ret
  exact ⟨rfl, HB4.out⟩
 subst hle
 by_cases he : e = 124
 rotate_left
 ·have d : ((e : Int) != 124) = true := by rw [bne_iff_ne]; omega
  go_wp2_with (go_at_call 11; refine (HNU.out _ _).mono ?_; rintro e w5 ⟨rfl, hb⟩; have HB5 := Hd (HB4.out.trans (hb.mono HB4.out.size)); clear hb)
  go_ret
  exact ⟨rfl, HB5.out⟩
 subst he
 have hL : (Lx.lexT x).2.2 = 0 := by rw [HL.out]
 have hR2 : (Ps.rd x).2 = (p, 124) := by rw [← pTop_ok hL, HR.out]
 have HRD := Hd hR2
 have HL0 := Hd hL
 have HX6 := Hd (lexT_len x hL)
 have hTT : (Lx.lexT x).1 = T := by rw [HL.out]
 have HTT := Hd hTT
 have HAT := Hd (Ps.breaks_at hR2 (by decide))
 rw [hTT] at HAT
 clear hL hR2 hTT
 go_wp2_with (go_at_call 11; refine (HNU.out _ _).mono ?_; rintro e w5 ⟨rfl, hb⟩; have HB5 := Hd (HB4.out.trans (hb.mono HB4.out.size)); have HB45 := Hd hb; clear hb)
 go_loopw [11, 12] (fun z i wr => ∃ (k : Nat) (zz : Int), k ≤ tl ∧ i = .int .i64 k ∧ z = .int .i64 zz ∧ Fnd T p k zz ∧ wr = w5) (fun _ i _ => tl - (intOf i).toNat)
 case atStart => exact ⟨0, -1, Nat.zero_le _, rfl, rfl, .inl ⟨rfl, fun t ht => by simp at ht⟩, rfl⟩
 case round =>
  obtain ⟨k, zz, hk, rfl, rfl, hf, rfl⟩ := hrel
  have HF := Hd hf
  clear hf
  have l1 : (0 : Int) ≤ (k : Int) := by omega
  by_cases hlt : k < tl
  ·obtain ⟨t, ht⟩ : ∃ t, T[k]? = some t := ⟨_, List.getElem?_eq_getElem (by rw [HTL.out]; exact hlt)⟩
   obtain ⟨b, off, rfl, hb, c0, c1, c2⟩ := HTK.out wr HB45.out k t ht
   have HH := Hd ht
   clear ht
   have l2 : (k : Int) < (tl : Int) := by omega
   by_cases hp : t.2.2 = p
   ·have d : ((t.2.2 : Int) == (p : Int)) = true := by rw [hp]; simp
    have HF2 := Hd (Fnd.hit HH.out hp)
    clear hp
    go_wp2
    go_roundw
    case rel => exact ⟨k + 1, _, by omega, by go_num, rfl, HF2.out, by first | rfl | trivial⟩
    case measure => simp [intOf]; omega
   ·have d : ((t.2.2 : Int) == (p : Int)) = false := by rw [beq_eq_false_iff_ne]; omega
    have HF2 := Hd (Fnd.miss HF.out HH.out hp)
    clear hp
    go_wp2
    go_roundw
    case rel => exact ⟨k + 1, _, by omega, by go_num, rfl, HF2.out, by first | rfl | trivial⟩
    case measure => simp [intOf]; omega
  ·have hxs : (⟨x.toArray⟩ : ByteArray).size = x.length := txt_size x
   rcases HF.out with ⟨rfl, hno⟩ | ⟨j, t, rfl, hjl, ht, hp⟩
   ·rw [List.take_of_length_le (by rw [HTL.out]; omega)] at hno
    have hpx : p = x.length := by
     rcases HAT.out with ⟨t, h1, h2⟩ | h
     ·exact absurd h2 (hno t h1)
     ·exact h
    have d : ((p : Int) == (x.length : Int)) = true := by rw [hpx]; simp
    clear hno hpx
    go_wp2
    go_ret
    exact ⟨rfl, HB5.out⟩
   ·rw [HTL.out] at hjl
    obtain ⟨b, off, rfl, hb, c0, c1, c2⟩ := HTK.out wr HB45.out j t ht
    have HT := Hd ht
    have HP := Hd hp
    clear ht hp HF HAT
    have l2 : (j : Int) < (tl : Int) := by omega
    have l3 : (0 : Int) ≤ (j : Int) := by omega
    have l4 : ¬ (j : Int) < 0 := by omega
    by_cases hm : t.2.1 = [45]
    ·have d : (t.2.1 == [45]) = true := by rw [hm]; rfl
     clear hm
     go_wp2
     go_ret
     exact ⟨rfl, HB5.out⟩
    ·have d : (t.2.1 == [45]) = false := by rw [beq_eq_false_iff_ne]; exact hm
     have HM := Hd hm
     clear hm
     by_cases hj : j + 1 < tl
     ·obtain ⟨u, hu⟩ : ∃ u, T[j + 1]? = some u := ⟨_, List.getElem?_eq_getElem (by rw [HTL.out]; exact hj)⟩
      obtain ⟨b', off', e, hb', u0, u1, u2⟩ := HTK.out wr HB45.out (j + 1) u hu
      injection e with e
      injection e with e1 e2 _
      subst e1 e2
      have hux : u.2.2 ≤ x.length := by
       have := (Ps.lexT_fin HL0.out).place u (by rw [HTT.out]; exact List.mem_of_getElem? hu)
       omega
      have HEN : Hid (Lx.placeOr ((Lx.lexT x).1.drop (j + 1)) x.length = u.2.2) := Hd (by
       obtain ⟨i1, e1⟩ := List.getElem?_eq_some_iff.1 hu
       rw [HTT.out, List.drop_eq_getElem_cons i1, e1]; rfl)
      clear hu
      have l5 : (j : Int) + 1 < (tl : Int) := by omega
      generalize u.2.2 = en at *
      clear u0 u1
      go_upto_region 21 with fail
      rw [cat_eq]
      have HSM : Hid (∀ z, x.take en ++ 32 :: y = z → (Lx.lexT z).2.2 = 0 → (Lx.lexT z).1[j]? = some t → (Ps.rd z).2 = (p, 124)) := Hd fun z hz h1 h2 => by
       subst hz
       rw [← HEN.out] at h1 h2 ⊢
       exact Ps.breaks_same HL0.out HRD.out (by rw [HTT.out]; exact HT.out) HP.out HM.out h1 h2
      have hzl : (x.take en ++ 32 :: y).length ≤ 9223372036854775807 := by
       rw [List.length_append, List.length_take, List.length_cons]
       have := HX6.out
       omega
      generalize x.take en ++ 32 :: y = z at *
      have HSM := Hd (HSM.out z rfl)
      have HLZ := Hd fun W => rlex_any ⟨z.toArray⟩ W (by rw [txt_size]; omega)
      have HPZ := Hd fun W => pparse_any z W hzl
      rw [txt_list] at HLZ
      have HPO := Hd fun h => pTop_ok (x := z) h
      obtain ⟨lz, hlz⟩ : ∃ lz, Lx.lexT z = lz := ⟨_, rfl⟩
      obtain ⟨rz, hrz⟩ : ∃ rz, pTop z (fun T fin f => Ps.meth T fin f) = rz := ⟨_, rfl⟩
      rw [hlz] at HLZ HPO HSM
      rw [hrz] at HPZ HPO
      obtain ⟨M, mp, me⟩ := lz
      obtain ⟨rzt, pz, ez⟩ := rz
      clear hlz hrz hzl c0 c1 c2
      go_upto_region 22 with (go_at_call 10; refine (HLZ.out _).mono ?_; rintro e w6 ⟨hb, v, rfl, ho⟩; obtain ⟨A2, c6, rfl, hc61, hc62⟩ := OwnT.form ho; have HB6 := Hd (HB5.out.trans (hb.mono HB5.out.size)); have HB46 := Hd (HB45.out.trans (hb.mono HB45.out.size)); have HO2 := Hd ho; clear hb ho)
      obtain ⟨ml, hml⟩ : ∃ ml, M.length = ml := ⟨_, rfl⟩
      simp only [hml] at hc61 ⊢
      have HML := Hd hml
      clear hml
      have ml9 : ml ≤ 9223372036854775807 := by simp only [maxLen] at hc62; omega
      by_cases hme : me = 0
      rotate_left
      ·have d9 : ((me : Int) != 0) = true := by rw [bne_iff_ne]; omega
       go_quiet (fail)
       go_wp2
       go_ret
       exact ⟨rfl, below_drewN HB6.out _⟩
      subst hme
      by_cases hmj : ml ≤ j
      ·have d9 : (ml : Int) ≤ (j : Int) := by omega
       go_quiet (fail)
       go_wp2
       go_ret
       exact ⟨rfl, below_drewN HB6.out _⟩
      have l9 : ¬ (ml : Int) ≤ (j : Int) := by omega
      have l10 : (j : Int) < (ml : Int) := by omega
      obtain ⟨q, hq⟩ : ∃ q, M[j]? = some q := ⟨_, List.getElem?_eq_getElem (by rw [HML.out]; omega)⟩
      obtain ⟨b2, off2, rfl, hb2, m0, m1, m2⟩ := tok3 (c := c6) (A := A2) HO2.out hq
      obtain ⟨b', off', e, hb', c0, c1, c2⟩ := HTK.out w6 HB46.out j t HT.out
      injection e with e
      injection e with e1 e2 _
      subst e1 e2
      have hcmp := fun w => run_neq37 w q t
      by_cases hqt : q = t
      rotate_left
      ·rw [decide_eq_false hqt] at hcmp
       simp only [Bool.not_false] at hcmp
       clear hq hqt
       go_quiet (fail)
       go_wp2
       go_ret
       exact ⟨rfl, below_drewN HB6.out _⟩
      subst hqt
      have hzz := (HPO.out rfl).trans rfl
      have hpz : (Ps.rd z).2 = (p, 124) := HSM.out rfl hq
      rw [← hzz] at hpz
      injection hpz with e1 e2
      replace e1 : pz = p := e1
      replace e2 : ez = 124 := e2
      subst e1 e2
      clear hzz hq
      simp only [decide_true, Bool.not_true] at hcmp
      go_quiet (fail)
      go_upto_region 25 with (go_at_call 9; refine (HPZ.out _).mono ?_; intro e w8 h; obtain ⟨yk, yn, yA, yx, ya, yB, yy, yb, yC, yz, yc, yp, yl, rfl, hb, -⟩ := h.named; have HB := Hd ((below_drewN HB6.out _).trans (hb.mono (below_drewN HB6.out _).size)); clear h hb)
      refine wp_world (fun W => Below w.heap.size w W) (HB.out.trans ((new_below _ _).mono HB.out.size)) fun w9 h9 => ?_
      have HB9 := Hd h9
      clear h9 HB
      go_wp2_with (go_at_call 11; refine (HNU.out _ _).mono ?_; rintro e w10 ⟨rfl, hb⟩; have HB10 := Hd (HB9.out.trans (hb.mono HB9.out.size)); clear hb)
      go_ret
      exact ⟨rfl, HB10.out⟩
     ·have HEN : Hid (Lx.placeOr ((Lx.lexT x).1.drop (j + 1)) x.length = x.length) := Hd (by rw [HTT.out, List.drop_eq_nil_of_le (by rw [HTL.out]; omega)]; rfl)
      have l5 : ¬ (j : Int) + 1 < (tl : Int) := by omega
      go_upto_region 21 with fail
      rw [cat_eq]
      have HSM : Hid (∀ z, x.take x.length ++ 32 :: y = z → (Lx.lexT z).2.2 = 0 → (Lx.lexT z).1[j]? = some t → (Ps.rd z).2 = (p, 124)) := Hd fun z hz h1 h2 => by
       subst hz
       rw [← HEN.out] at h1 h2 ⊢
       exact Ps.breaks_same HL0.out HRD.out (by rw [HTT.out]; exact HT.out) HP.out HM.out h1 h2
      have hzl : (x.take x.length ++ 32 :: y).length ≤ 9223372036854775807 := by
       rw [List.length_append, List.length_take, List.length_cons]
       have := HX6.out
       omega
      generalize x.take x.length ++ 32 :: y = z at *
      have HSM := Hd (HSM.out z rfl)
      have HLZ := Hd fun W => rlex_any ⟨z.toArray⟩ W (by rw [txt_size]; omega)
      have HPZ := Hd fun W => pparse_any z W hzl
      rw [txt_list] at HLZ
      have HPO := Hd fun h => pTop_ok (x := z) h
      obtain ⟨lz, hlz⟩ : ∃ lz, Lx.lexT z = lz := ⟨_, rfl⟩
      obtain ⟨rz, hrz⟩ : ∃ rz, pTop z (fun T fin f => Ps.meth T fin f) = rz := ⟨_, rfl⟩
      rw [hlz] at HLZ HPO HSM
      rw [hrz] at HPZ HPO
      obtain ⟨M, mp, me⟩ := lz
      obtain ⟨rzt, pz, ez⟩ := rz
      clear hlz hrz hzl c0 c1 c2
      go_upto_region 22 with (go_at_call 10; refine (HLZ.out _).mono ?_; rintro e w6 ⟨hb, v, rfl, ho⟩; obtain ⟨A2, c6, rfl, hc61, hc62⟩ := OwnT.form ho; have HB6 := Hd (HB5.out.trans (hb.mono HB5.out.size)); have HB46 := Hd (HB45.out.trans (hb.mono HB45.out.size)); have HO2 := Hd ho; clear hb ho)
      obtain ⟨ml, hml⟩ : ∃ ml, M.length = ml := ⟨_, rfl⟩
      simp only [hml] at hc61 ⊢
      have HML := Hd hml
      clear hml
      have ml9 : ml ≤ 9223372036854775807 := by simp only [maxLen] at hc62; omega
      by_cases hme : me = 0
      rotate_left
      ·have d9 : ((me : Int) != 0) = true := by rw [bne_iff_ne]; omega
       go_quiet (fail)
       go_wp2
       go_ret
       exact ⟨rfl, below_drewN HB6.out _⟩
      subst hme
      by_cases hmj : ml ≤ j
      ·have d9 : (ml : Int) ≤ (j : Int) := by omega
       go_quiet (fail)
       go_wp2
       go_ret
       exact ⟨rfl, below_drewN HB6.out _⟩
      have l9 : ¬ (ml : Int) ≤ (j : Int) := by omega
      have l10 : (j : Int) < (ml : Int) := by omega
      obtain ⟨q, hq⟩ : ∃ q, M[j]? = some q := ⟨_, List.getElem?_eq_getElem (by rw [HML.out]; omega)⟩
      obtain ⟨b2, off2, rfl, hb2, m0, m1, m2⟩ := tok3 (c := c6) (A := A2) HO2.out hq
      obtain ⟨b', off', e, hb', c0, c1, c2⟩ := HTK.out w6 HB46.out j t HT.out
      injection e with e
      injection e with e1 e2 _
      subst e1 e2
      have hcmp := fun w => run_neq37 w q t
      by_cases hqt : q = t
      rotate_left
      ·rw [decide_eq_false hqt] at hcmp
       simp only [Bool.not_false] at hcmp
       clear hq hqt
       go_quiet (fail)
       go_wp2
       go_ret
       exact ⟨rfl, below_drewN HB6.out _⟩
      subst hqt
      have hzz := (HPO.out rfl).trans rfl
      have hpz : (Ps.rd z).2 = (p, 124) := HSM.out rfl hq
      rw [← hzz] at hpz
      injection hpz with e1 e2
      replace e1 : pz = p := e1
      replace e2 : ez = 124 := e2
      subst e1 e2
      clear hzz hq
      simp only [decide_true, Bool.not_true] at hcmp
      go_quiet (fail)
      go_upto_region 25 with (go_at_call 9; refine (HPZ.out _).mono ?_; intro e w8 h; obtain ⟨yk, yn, yA, yx, ya, yB, yy, yb, yC, yz, yc, yp, yl, rfl, hb, -⟩ := h.named; have HB := Hd ((below_drewN HB6.out _).trans (hb.mono (below_drewN HB6.out _).size)); clear h hb)
      refine wp_world (fun W => Below w.heap.size w W) (HB.out.trans ((new_below _ _).mono HB.out.size)) fun w9 h9 => ?_
      have HB9 := Hd h9
      clear h9 HB
      go_wp2_with (go_at_call 11; refine (HNU.out _ _).mono ?_; rintro e w10 ⟨rfl, hb⟩; have HB10 := Hd (HB9.out.trans (hb.mono HB9.out.size)); clear hb)
      go_ret
      exact ⟨rfl, HB10.out⟩
end Go.Proofs.YtjhonaglmgmpiaaGreatDoor
namespace Go.Proofs.YtjhonaglmgmpiaaGreatDoor
open Go.ChangeShapes Go.WideShapes Go.ChangeAt Go.RowKit
theorem own : ownKnob Tryz.prog.godebug = none := by kernel_rfl
theorem laidOut : laidOutB Tryz.prog = true := by kernel_rfl
def laid7 : List (String × DataW Unit) := [("math/bits.deBruijn32tab", Rows.laid_math_bits_deBruijn32tab), ("math/bits.deBruijn64tab", Rows.laid_math_bits_deBruijn64tab), ("internal/strconv.uint64pow10", Rows.laid_internal_strconv_uint64pow10), ("unicode/utf8.acceptRanges", Rows.laid_unicode_utf8_acceptRanges), ("strconv.ErrRange", Rows.laid_strconv_ErrRange), ("strconv.ErrSyntax", Rows.laid_strconv_ErrSyntax), ("unicode/utf8.first", Rows.laid_unicode_utf8_first)]
noncomputable def startW (os : Os) : World :=
 let w0 := World.doorLaid Tryz.prog 400 os
 { w0 with heap := w0.heap.modify 6 fun
  | .cells _ t frozen => .cells (Go.Pinned.utf8FirstZ.map fun n : Nat => Value.int .u8 (Int.ofNat n)).toArray t frozen
  | o => o }
theorem door_met7 (os : Os) (args : Array Value) : laidMetH Tryz.prog laid7 ((startW os).forCall (fun _ _ => 0) ⟨#[], args, []⟩).memory :=
 laidMetH_of_parts3 (fuel := 8) (laidMet_of_run' 8 (by kernel_rfl) (by kernel_rfl)) (by kernel_rfl) (by kernel_rfl)
theorem returns_shaped {H : Type} {enc : TypeId × Value → H} {a : Assume} {C : Checked} {os : Os} {f : FuncId} {fn : Func} {s : ChangeSpec} {conds : List PathCond} {apart fresh handsOn again : Bool} {X : World → Array Value → Prop}
  (hX : ∀ (w w' : World) (args : Array Value), w.heap = w'.heap → X w args → X w' args)
  (own : ownKnob C.prog.godebug = none) (started : os.Started) (noInit : C.prog.inits.idxOf? f = none) (hfn : C.prog.funcs[f]? = some fn)
  (witness : ∃ (w : World) (tape : Tape) (i : Input), w.os = os ∧ (w.forCall tape i).Shaped C.prog ∧ i.vars = [] ∧ Input.okWide C.prog (w.forCall tape i) .any w.heap.size f i ∧
   ((s.pre enc C.prog fn conds apart (w.forCall tape i).memory i.args ∧ X (w.forCall tape i).memory i.args) ∧ sizedMet enc C.prog fn (OpenSpec.ofChange s) apart (w.forCall tape i).memory i.args) ∧ a.holds C.prog (lone (Frame.enter C.prog f i.args .normal) [] (w.forCall tape i)))
  (contract : ∀ (W : World) (base : Nat) (args : Array Value) (ds gs : List (DataW H)) (before : List MemPlace),
   (∀ (j : Nat) t v, fn.params[j]? = some t → args[j]? = some v → Value.okWide C.prog W .any base t v) →
   DataW.Whole enc C.prog fn.params.toList s.vars apart W args.toList ds gs before →
   conds.all (PathCond.test C.prog ⟨fn.params.toList, ds, s.plain.varTypes C.prog, gs⟩) = true →
   (DataW.weightsEach C.prog (fn.params.toList ++ s.plain.varTypes C.prog) (ds ++ gs)).all (· ≤ reachBytes) = true → X W args → W.ShapedOpen C.prog →
   Calls C.prog f args W fun e W' => ∃ v, e = .returned v ∧ s.post enc C.prog fn apart fresh handsOn again W args v W') :
  ReturnsInHanded a C os f .any (fun w args => (s.pre enc C.prog fn conds apart w args ∧ X w args) ∧ sizedMet enc C.prog fn (OpenSpec.ofChange s) apart w args) (s.post enc C.prog fn apart fresh handsOn again) := by
 refine returnsInHanded_of_calls own started noInit witness ?_
 intro w tape i _ hsh _ hok hpre _
 obtain ⟨_, _, _, fn', hfn', _, _, _, _, hval⟩ := hok
 have e : fn' = fn := Option.some.inj (hfn'.symm.trans hfn)
 subst e
 obtain ⟨⟨⟨ds, gs, before, hw, hc⟩, hx⟩, hz⟩ := hpre
 have hw' := DataW.Whole.of_heap (w' := w.forCall tape i) (by rfl) hw
 refine (contract (w.forCall tape i) w.heap.size i.args ds gs before hval hw' hc (hz.weights hw) (hX _ _ _ (by rfl) hx) hsh).mono fun e W' ⟨v, he, hp⟩ => ?_
 subst he
 exact ChangeSpec.post_blind hp
namespace LawBk
set_option maxRecDepth 100000 in
theorem lifted (os : Os) (started : os.Started) (H : Type) (enc : TypeId × Value → H) :
  ReturnsInHanded {} Tryz.checked os 3 .any (fun w args => (Rows.sourceBreaksSpec.pre enc Tryz.prog Tryz.f3 [] false w args ∧ laidMetH Tryz.prog laid7 w) ∧ sizedMet enc Tryz.prog Tryz.f3 (OpenSpec.ofChange Rows.sourceBreaksSpec) false w args)
   (Rows.sourceBreaksSpec.post enc Tryz.prog Tryz.f3 false true false false) := by
 refine returns_shaped (C := Tryz.checked) (X := fun w _ => laidMetH Tryz.prog laid7 w) (fun _ _ _ hh h => h.of_heap hh) own started (by kernel_rfl) Tryz.func3
  (ChangeSpec.witness_shaped (enc := enc) (C := Tryz.checked) (os := os) (X := fun w _ => laidMetH Tryz.prog laid7 w) false (startW os) #[.string ⟨#[]⟩, .string ⟨#[]⟩] 8 rfl (World.shaped_of_RefB (by kernel_rfl) (by kernel_rfl)) (by kernel_rfl) (by kernel_rfl) (by kernel_rfl) (door_met7 os _)) ?_
 intro W base args ds gs before hval0 hW _ hsz _ _
 have hval : ∀ (j : Nat) t v, Tryz.f3.params[j]? = some t → args[j]? = some v → Value.okWide Tryz.prog W .any base t v := hval0
 have hW' := hW
 obtain ⟨p, q, hA0, hV, rfl, hfz, hnd⟩ := hW
 have hA : DataW.TrodAll enc Tryz.prog W 0 (fun _ => true) true Tryz.f3.params.toList args.toList ds p := hA0
 rw [Tryz.params3] at hA hval
 obtain ⟨v0, vs0, d0, ds0, p0, q0, hargs, rfl, rfl, h0, r0⟩ := trodAll_cons hA
 obtain ⟨v1, vs1, d1, ds1, p1, q1, rfl, rfl, rfl, h1, r1⟩ := trodAll_cons r0
 obtain ⟨rfl, rfl, rfl⟩ := trodAll_nil r1
 obtain rfl : args = #[v0, v1] := by cases args; simp_all
 obtain ⟨rfl, rfl⟩ := trodVars_none hV
 have k0 := h0
 have k1 := h1
 have lt0 : ∀ x ∈ p0, x.block < W.heap.size := by obtain ⟨m, hm⟩ := k0; exact DataW.trod_lt m _ _ _ hm
 have lt1 : ∀ x ∈ p1, x.block < W.heap.size := by obtain ⟨m, hm⟩ := k1; exact DataW.trod_lt m _ _ _ hm
 obtain ⟨s, rfl⟩ := okWide_string Tryz.underlying9 (hval 0 9 v0 rfl rfl)
 obtain ⟨t, rfl⟩ := okWide_string Tryz.underlying9 (hval 1 9 v1 rfl rfl)
 obtain ⟨m0, hm0⟩ := h0
 obtain ⟨m1, hm1⟩ := h1
 obtain ⟨s', hs', hd0, _⟩ := DataW.trod_string Tryz.underlying9 hm0
 simp only [Value.cells, List.cons.injEq, and_true, Value.string.injEq] at hs'
 subst hs'
 obtain ⟨t', ht', hd1, _⟩ := DataW.trod_string Tryz.underlying9 hm1
 simp only [Value.cells, List.cons.injEq, and_true, Value.string.injEq] at ht'
 subst ht'
 clear hA0 hval0
 have hs8 : s.size ≤ reachBytes := by
  have h := sized_string hsz (j := 0) (t := 9) (bytes := s.data.toList) (by rw [Tryz.params3]; rfl) (by rw [show d0 = _ from congrArg Prod.fst hd0]; rfl)
  rwa [Array.length_toList] at h
 have ht8 : t.size ≤ reachBytes := by
  have h := sized_string hsz (j := 1) (t := 9) (bytes := t.data.toList) (by rw [Tryz.params3]; rfl) (by rw [show d1 = _ from congrArg Prod.fst hd1]; rfl)
  rwa [Array.length_toList] at h
 have hrb : reachBytes = 140737488351232 := rfl
 obtain ⟨x, hx, hxl⟩ : ∃ x : Lx.Txt, s = ⟨x.toArray⟩ ∧ x.length = s.size := ⟨s.data.toList, by rw [Array.toArray_toList], by rw [Array.length_toList]; rfl⟩
 obtain ⟨y, hy, hyl⟩ : ∃ y : Lx.Txt, t = ⟨y.toArray⟩ ∧ y.length = t.size := ⟨t.data.toList, by rw [Array.toArray_toList], by rw [Array.length_toList]; rfl⟩
 subst hx hy
 refine (breaks_any x y W (by omega) (by omega)).mono fun e W' ⟨he, bel⟩ => ?_
 subst he
 exact ⟨_, rfl, _, _, _, [], _, [], hW', trodAll_mk1 (shut_bool Tryz.underlying4 _), (trodAll_cons_mk (Below.trod laidOut (by kernel_rfl) (of_decide_eq_true (by kernel_rfl)) k0 bel lt0) (trodAll_cons_mk (Below.trod laidOut (by kernel_rfl) (of_decide_eq_true (by kernel_rfl)) k1 bel lt1) trodAll_mk0)), rfl, bel.frame _, fun h => by cases h⟩
theorem over : Rows.SourceBreaksSaid :=
 OpenClaim.holds_of_wide 3 Tryz.f3 rfl rfl rfl rfl rfl rfl rfl ⟨rfl, rfl, rfl, rfl, rfl⟩ rfl rfl rfl rfl rfl (by kernel_rfl) Tryz.func3 (by kernel_rfl)
  (of_decide_eq_true (by kernel_rfl)) (by unfold Func.isWrapper; first | (rw [if_pos (by decide +kernel)]; kernel_rfl) | (rw [if_neg (by decide +kernel)]; exact ⟨rfl, rfl⟩))
  (fun os started H enc _ => lifted os started H enc)
end LawBk
theorem sourceBreaks_card : Rows.SourceBreaksCardSaid :=
 Claim7.holds_tied_plain_at .later [] [.data, .data, .data, .data, .sentinel, .sentinel, .pinned] true (true, "0d29754c2944c796ba24fc618f9675f7ac575aebf3c9e684c21be6bd2d013685") true
  LawBk.over (fun _ h => by cases h) (by kernel_rfl) (fun _ h => by cases h) sourceBreaks_row_tie rfl ⟨rfl, rfl⟩ (by kernel_rfl) rfl
  (fun f fn hf hfn => by
   obtain rfl : f = 3 := Option.some.inj ((show Tryz.prog.funcNamed "effigy/effigylaw12.SourceBreaks" = some 3 by kernel_rfl).symm.trans hf) |>.symm
   obtain rfl : fn = Tryz.f3 := (Option.some.inj (Tryz.func3.symm.trans hfn)).symm
   exact ⟨by kernel_rfl, fun j t ht => by
    rw [Tryz.params3] at ht
    have hm : t ∈ [9] := by simpa using Array.mem_of_getElem? ht
    have hall : ([9].all fun u => !Tryz.prog.wantsStandIn u) = true := by kernel_rfl
    exact (show Tryz.prog.wantsStandIn t = false by simpa using List.all_eq_true.1 hall t hm)⟩)
  (by kernel_rfl)
end Go.Proofs.YtjhonaglmgmpiaaGreatDoor
