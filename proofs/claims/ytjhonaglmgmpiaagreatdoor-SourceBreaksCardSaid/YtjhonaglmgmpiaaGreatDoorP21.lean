/-
  Parts PxT, Wv of the proof. No statement of the seat is proved here.
-/
import Derived.Test.YtjhonaglmgmpiaaGreatDoorP20
import Derived.Test.YtjhonaglmgmpiaaGreatDoorP14
set_option maxHeartbeats 4000000
namespace Go.Proofs.YtjhonaglmgmpiaaGreatDoor
open Go.RowKit
structure PMe (w : World) (g : Nat) (A : Option Addr) (c : Nat) (T : List Lx.Tk) (fin : Nat) (k : Nat) (Ls : List Lc) (nm : Lx.Txt) (a : List Lx.Txt) (vA : Value) (b : List Lx.Txt) (vB : Value) (r : List Ps.Tr) (vR : Value) (pr : Nat) (s' : Ps.PS) (wr : World) : Prop where
 env : Env w g A c T fin s' (⟨k, 27, [.int .i64 1, .string ⟨nm.toArray⟩, vA, vB, vR, .int .i64 (pr : Int), .int .i64 0]⟩ :: Ls) wr
 ra : SsN wr w.heap.size vA a
 rb : SsN wr w.heap.size vB b
 rr : TsM wr w.heap.size (· = k) vR r
section
variable {w wr w1 : World} {g c k pr pr' fin : Nat} {A : Option Addr} {T : List Lx.Tk} {Ls : List Lc} {nm : Lx.Txt} {s' s1 : Ps.PS} {a a' b b' : List Lx.Txt} {vA vB vR v' : Value} {r r' : List Ps.Tr}
theorem PMe.below (h : PMe w g A c T fin k Ls nm a vA b vB r vR pr s' wr) (hb : Below wr.heap.size wr w1) : PMe w g A c T fin k Ls nm a vA b vB r vR pr s' w1 := ⟨h.env.below hb, h.ra.below hb, h.rb.below hb, h.rr.below hb⟩
theorem PMe.call (h : PMe w g A c T fin k Ls nm a vA b vB r vR pr s' wr) (hp : PP wr g A c T fin s1 w1) : PMe w g A c T fin k Ls nm a vA b vB r vR pr s1 w1 := ⟨h.env.call hp, h.ra.call hp.1 h.env.gl, h.rb.call hp.1 h.env.gl, h.rr.call hp.1 h.env.gl⟩
theorem PMe.prim (h : PMe w g A c T fin k Ls nm a vA b vB r vR pr s' wr) (pr' : Nat) : PMe w g A c T fin k Ls nm a vA b vB r vR pr' s' (wr.setCell ⟨k, 5, none⟩ (.int .i64 (pr' : Int))) :=
 ⟨h.env.put 0 rfl 5 _, h.ra.put (h.env.blk 0 rfl) (by decide) (chg_set _ _ _ _), h.rb.put (h.env.blk 0 rfl) (by decide) (chg_set _ _ _ _), h.rr.store (chg_set _ _ _ _) fun _ e => e⟩
theorem PMe.temps (h : PMe w g A c T fin k Ls nm a vA b vB r vR pr s' wr) (ho : SsN wr w.heap.size v' b') : PMe w g A c T fin k Ls nm a vA b' v' r vR pr s' (wr.setCell ⟨k, 3, none⟩ v') :=
 ⟨h.env.put 0 rfl 3 _, h.ra.put (h.env.blk 0 rfl) (by decide) (chg_set _ _ _ _), ho.put (h.env.blk 0 rfl) (by decide) (chg_set _ _ _ _), h.rr.store (chg_set _ _ _ _) fun _ e => e⟩
theorem PMe.nodes (h : PMe w g A c T fin k Ls nm a vA b vB r vR pr s' wr) (ho : TsM wr w.heap.size (· = k) v' r') : PMe w g A c T fin k Ls nm a vA b vB r' v' pr s' (wr.setCell ⟨k, 4, none⟩ v') :=
 ⟨h.env.put 0 rfl 4 _, h.ra.put (h.env.blk 0 rfl) (by decide) (chg_set _ _ _ _), h.rb.put (h.env.blk 0 rfl) (by decide) (chg_set _ _ _ _), ho.store (chg_set _ _ _ _) fun _ e => e⟩
theorem PMe.tree {A1 A2 A3 : Option Addr} {n1 n2 n3 c1 c2 c3 : Nat} (h : PMe w g A c T fin k Ls nm a (.slice A1 n1 c1) b (.slice A2 n2 c2) r (.slice A3 n3 c3) pr s' wr) : TrM wr w.heap.size (fun _ => False) [.int .i64 1, .string ⟨nm.toArray⟩, .slice A1 n1 c1, .slice A2 n2 c2, .slice A3 n3 c3, .int .i64 (pr : Int), .int .i64 0] (.mk 1 nm a b r pr 0) := by
 obtain ⟨_, _, e1, _, _⟩ := SsN.form h.ra
 obtain ⟨_, _, e2, _, _⟩ := SsN.form h.rb
 obtain ⟨_, _, e3, _, _⟩ := h.rr.form
 injection e1 with _ e1 _
 injection e2 with _ e2 _
 injection e3 with _ e3 _
 subst e1 e2 e3
 have ne : ∀ (vX : Value) (x : List Lx.Txt), SsN wr w.heap.size vX x → ∀ q, vX.ownBlock = some q → ¬ (q = k) := fun vX x hx q hq e => by
  subst e
  exact own_blk_ne hx (h.env.blk 0 rfl) (by decide) hq
 exact TrM.swap (TrM.node 1 nm pr 0 h.ra (ne _ _ h.ra) h.rb (ne _ _ h.rb) h.rr) (fun q _ _ e => e.elim)
end
section
variable {w wr w1 : World} {g c k pr fin : Nat} {A : Option Addr} {T : List Lx.Tk} {Ls : List Lc} {nm : Lx.Txt} {s' s1 : Ps.PS} {a a' b : List Lx.Txt} {vA vB vR v' : Value} {r : List Ps.Tr}
theorem PMe.named (h : PMe w g A c T fin k Ls nm a vA b vB r vR pr s' wr) (nm' : Lx.Txt) : PMe w g A c T fin k Ls nm' a vA b vB r vR pr s' (wr.setCell ⟨k, 1, none⟩ (.string ⟨nm'.toArray⟩)) :=
 ⟨h.env.put 0 rfl 1 _, h.ra.put (h.env.blk 0 rfl) (by decide) (chg_set _ _ _ _), h.rb.put (h.env.blk 0 rfl) (by decide) (chg_set _ _ _ _), h.rr.store (chg_set _ _ _ _) fun _ e => e⟩
theorem PMe.names (hLs : ∀ (i : Nat) (x : Lc), Ls[i]? = some x → x.t ≠ 9) (h : PMe w g A c T fin k Ls nm a vA [] (.slice none 0 0) [] (.slice none 0 0) pr s' wr) (hc : Chg (fun q => q = g ∨ vA.ownBlock = some q) wr w1) (hp : PA w1 g A c T fin s1) (ho : SsN w1 w.heap.size v' a') :
  Env w g A c T fin s1 (⟨k, 27, [.int .i64 1, .string ⟨nm.toArray⟩, vA, .slice none 0 0, .slice none 0 0, .int .i64 (pr : Int), .int .i64 0]⟩ :: Ls) w1 ∧ PMe w g A c T fin k Ls nm a' v' [] (.slice none 0 0) [] (.slice none 0 0) pr s1 (w1.setCell ⟨k, 2, none⟩ v') := by
 have E := h.env.row (v := vA) hc hp fun q hq => ⟨(World.ownsRow.lt h.ra q hq).1, fun i x hx e => by
  have hb := (h.env.loc i x hx).2.2
  rw [e] at hb
  refine own_blk_ne h.ra hb (fun e2 => ?_) hq
  match i with
  | 0 => simp only [List.getElem?_cons_zero, Option.some.injEq] at hx; subst hx; exact absurd e2 (by show (9 : TypeId) ≠ 27; decide)
  | i + 1 => exact hLs i x (by simpa using hx) e2.symm⟩
 exact ⟨E, E.put 0 rfl 2 v', ho.put (E.blk 0 rfl) (by decide) (chg_set _ _ _ _), SsN.nil _ _, TsM.nil _ _ _⟩
end
theorem Bd.patL {T : List Lx.Tk} {fin : Nat} : ∀ (f : Nat) (n : Lx.Txt) (l : List Lx.Txt) (s : Ps.PS), Bd T s → Bd T (Ps.patL T fin f n l s).2.2
 | 0, _, _, _, h => h
 | f + 1, n, l, s, h => by
  unfold Ps.patL
  split
  ·rename_i hc
   rw [Bool.and_eq_true] at hc
   exact Bd.patL f _ _ _ ((h.adv (Ps.kind_lt (fin := fin) (k := 2) hc.2 (by decide))).decl _)
  ·exact h
theorem Bd.pat {T : List Lx.Tk} {fin : Nat} {s : Ps.PS} (h : Bd T s) : Bd T (Ps.pat T fin s).2.2 := by
 unfold Ps.pat
 dsimp only
 split
 ·rename_i hc; exact h.adv (Ps.kind_lt (fin := fin) (k := 1) hc (by decide))
 ·split
  ·rename_i hc; exact (h.adv (Ps.bin_lt (fin := fin) hc)).decl _
  ·split
   ·exact Bd.patL _ _ _ _ h
   ·exact h.rf _ _
theorem patL_stop {T : List Lx.Tk} {fin f : Nat} {n : Lx.Txt} {l : List Lx.Txt} {s : Ps.PS} (h : (Ps.ok s && (Ps.nx T fin s).1 == 2) = false) : Ps.patL T fin f n l s = (n, l, s) := by
 cases f with
 | zero => rfl
 | succ f => unfold Ps.patL; rw [if_neg (by rw [h]; decide)]
def pTop (x : Lx.Txt) (m : List Lx.Tk → Nat → Nat → Ps.Tr × Ps.PS) : Ps.Tr × Nat × Nat := if (Lx.lexT x).2.2 = 0 then Ps.finish (m (Lx.lexT x).1 x.length (10 * (Lx.lexT x).1.length + 9)) else (Ps.Tr.zero, (Lx.lexT x).2.1, (Lx.lexT x).2.2)
set_option maxRecDepth 20000 in
theorem pparse_any (x : Lx.Txt) (w : World) (hm : x.length ≤ 9223372036854775807) : Calls Tryz.prog 9 #[.string ⟨x.toArray⟩] w (TopP w (pTop x fun T fin f => Ps.meth T fin f)) := by
 have HRD := Hd fun (W : World) => pbegin_any x W hm
 have hfit := Ps.lexT_fits x
 have HLL := Hd (lexT_len x)
 unfold pTop
 unfold BegP at HRD
 generalize Lx.lexT x = r at *
 obtain ⟨T, pl, er⟩ := r
 dsimp only at HRD hfit HLL ⊢
 have hT := hfit.len
 have HF := Hd hfit
 clear hfit
 by_cases he : er = 0
 ·rw [if_pos he]
  have HFT := Hd (HLL.out he)
  have d0 : ((er : Int) != 0) = false := by rw [he]; rfl
  have HER := Hd he
  clear he
  go_enter Tryz.func9, Tryz.ntmps9
  go_upto_region 1 with fail
  have hk0 : Blk (w.alloc (.cells #[.int .i64 0, .string ⟨#[]⟩, .slice none 0 0, .slice none 0 0, .slice none 0 0, .int .i64 0, .int .i64 0] 27)) w.heap.size 27 #[.int .i64 0, .string ⟨#[]⟩, .slice none 0 0, .slice none 0 0, .slice none 0 0, .int .i64 0, .int .i64 0] := Blk.new _ _ _
  have hb0 : Below w.heap.size w (w.alloc (.cells #[.int .i64 0, .string ⟨#[]⟩, .slice none 0 0, .slice none 0 0, .slice none 0 0, .int .i64 0, .int .i64 0] 27)) := new_below _ _
  have hz0 : (w.alloc (.cells #[.int .i64 0, .string ⟨#[]⟩, .slice none 0 0, .slice none 0 0, .slice none 0 0, .int .i64 0, .int .i64 0] 27)).heap.size = w.heap.size + 1 := by simp
  refine wp_world (fun W => Blk W w.heap.size 27 #[.int .i64 0, .string ⟨#[]⟩, .slice none 0 0, .slice none 0 0, .slice none 0 0, .int .i64 0, .int .i64 0] ∧ Below w.heap.size w W ∧ W.heap.size = w.heap.size + 1) ⟨hk0, hb0, hz0⟩ fun w0 h0 => ?_
  obtain ⟨hk0, hb0, hz0⟩ := h0
  have HK0 := Hd hk0
  have HB0 := Hd hb0
  clear hk0 hb0
  go_upto_region 2 with (go_at_call 27; refine (HRD.out _).mono ?_; rintro e w1 ⟨g, A, c, rfl, hb, hg, hra⟩; have HB1 := Hd hb; have HRA := Hd hra; have HGG := Hd hg; clear hb hg hra)
  have HK1 := Hd (HK0.out.below HB1.out HK0.out.lt)
  have HBW := Hd (HB0.out.trans (HB1.out.mono (by omega)))
  have hgw : w.heap.size < g := by have := HGG.out; omega
  have hk2l := HK1.out.lt
  clear HRD
  have E0 := Env.start HRA.out
  go_upto_region 5 with fail
  refine wp_world (Env w1 g A c T x.length ⟨0, 0, none⟩ _) (E0.box 27 [.int .i64 1, .string ⟨#[]⟩, .slice none 0 0, .slice none 0 0, .slice none 0 0, .int .i64 0, .int .i64 0] (by decide)) fun w2 E1 => ?_
  clear E0
  obtain ⟨t, ht⟩ : ∃ t, Ps.nx T x.length ⟨0, 0, none⟩ = t := ⟨_, rfl⟩
  have HNX := Hd (pnext_any E1.pa)
  rw [ht] at HNX
  obtain ⟨t7, ht7⟩ : ∃ t7, w1.heap.size = t7 := ⟨_, rfl⟩
  rw [ht7] at E1 ⊢
  have H77 := Hd ht7
  have HE1 := Hd E1
  clear ht7 E1
  go_upto_block 0 with (go_at_call 28; refine HNX.out.mono ?_; rintro e w3 ⟨rfl, hb⟩; have HE2 := Hd (HE1.out.below hb); clear hb)
  clear HE1 HNX
  refine wp_world (fun W => Env w1 g A c T x.length ⟨0, 0, none⟩ (⟨w3.heap.size, 37, [.int .i64 (t.1 : Int), .string ⟨t.2.1.toArray⟩, .int .i64 (t.2.2 : Int)]⟩ :: _) W) (HE2.out.box 37 [_, _, _] (by decide)) fun w4 E4 => ?_
  obtain ⟨tb, htb⟩ : ∃ tb, w3.heap.size = tb := ⟨_, rfl⟩
  rw [htb] at E4 ⊢
  have HM0 : Hid (PMe w1 g A c T x.length t7 [⟨tb, 37, [.int .i64 (t.1 : Int), .string ⟨t.2.1.toArray⟩, .int .i64 (t.2.2 : Int)]⟩] [] [] (.slice none 0 0) [] (.slice none 0 0) [] (.slice none 0 0) 0 ⟨0, 0, none⟩ w4) := Hd ⟨E4.pick2 1 0 rfl rfl (by decide), SsN.nil _ _, SsN.nil _ _, TsM.nil _ _ _⟩
  clear E4 HE2 htb
  have HBd0 : Hid (Bd T ⟨0, 0, none⟩) := Hd ⟨by show 0 ≤ _; omega, fun _ => ⟨Nat.zero_le _, by decide, by decide⟩⟩
  obtain ⟨pp, hpp⟩ : ∃ p, Ps.pat T x.length ⟨0, 0, none⟩ = p := ⟨_, rfl⟩
  have HBP : Hid (Bd T pp.2.2) := Hd (by rw [← hpp]; exact HBd0.out.pat)
  have HP : Hid (pp = if t.1 == 1 then (t.2.1, [], Ps.adv ⟨0, 0, none⟩) else if Ps.binS t then (t.2.1, (Ps.decl T x.length [] (Ps.adv ⟨0, 0, none⟩)).1, (Ps.decl T x.length [] (Ps.adv ⟨0, 0, none⟩)).2) else if t.1 == 2 then Ps.patL T x.length (T.length + 2) [] [] ⟨0, 0, none⟩ else ([], [], Ps.odd T x.length ⟨0, 0, none⟩)) := Hd (by rw [← hpp, Ps.pat, ht])
  have HPP := Hd hpp
  have HT := Hd ht
  clear hpp
  go_cut [] (fun wx => ∃ vN, PMe w1 g A c T x.length t7 [⟨tb, 37, [.int .i64 (t.1 : Int), .string ⟨t.2.1.toArray⟩, .int .i64 (t.2.2 : Int)]⟩] pp.1 pp.2.1 vN [] (.slice none 0 0) [] (.slice none 0 0) 0 pp.2.2 wx)
  case first =>
   have hLs : ∀ (i : Nat) (y : Lc), [(⟨tb, 37, [.int .i64 (t.1 : Int), .string ⟨t.2.1.toArray⟩, .int .i64 (t.2.2 : Int)]⟩ : Lc)][i]? = some y → y.t ≠ 9 := fun i y hy => by
    match i with
    | 0 => simp only [List.getElem?_cons_zero, Option.some.injEq] at hy; subst hy; show (37 : TypeId) ≠ 9; decide
    | i + 1 => simp at hy
   have HLS := Hd hLs
   have HTK := Hd fun (W : World) (h : PA W g A c T x.length ⟨0, 0, none⟩) => ptake_any h (by decide)
   rw [HT.out] at HTK
   have hf0 := fld0 (.int .i64 (t.1 : Int)) (.string ⟨t.2.1.toArray⟩) (.int .i64 (t.2.2 : Int))
   have hf1 := fld1 (.int .i64 (t.1 : Int)) (.string ⟨t.2.1.toArray⟩) (.int .i64 (t.2.2 : Int))
   obtain ⟨b, b0, b1, b2⟩ := HM0.out.env.c3 1 rfl
   clear hLs
   by_cases h1 : t.1 = 1
   ·have d1 : ((t.1 : Int) == 1) = true := by rw [h1]; rfl
    have HPE : Hid (pp = (t.2.1, [], Ps.adv ⟨0, 0, none⟩)) := Hd (by rw [HP.out, if_pos (by rw [h1]; rfl)])
    clear h1
    go_wp2_with (go_at_call 29; refine (HTK.out _ HM0.out.env.pa).mono ?_; rintro e w5 ⟨rfl, hp⟩; have HM5 := Hd (HM0.out.call hp); obtain ⟨a, a0, a1, a2, a3, a4, a5, a6⟩ := HM5.out.env.c7 0 rfl; have fz := HM5.out.env.fz 0 rfl; clear hp)
    go_meet
    rw [HPE.out]
    exact ⟨_, HM5.out.named t.2.1⟩
   ·have d1 : ((t.1 : Int) == 1) = false := natInt (by omega)
    have HBI := Hd fun w => pbin_any t w
    cases h3 : Ps.binS t with
    | true =>
     have hlt : (0 : Nat) < T.length := Ps.bin_lt (T := T) (fin := x.length) (s := ⟨0, 0, none⟩) (by rw [HT.out]; exact h3)
     obtain ⟨q, hq⟩ : ∃ q, Ps.decl T x.length [] (Ps.adv ⟨0, 0, none⟩) = q := ⟨_, rfl⟩
     have HPE : Hid (pp = (t.2.1, q.1, q.2)) := Hd (by rw [HP.out, if_neg (by simpa using h1), if_pos h3, hq])
     have HDC := Hd fun (W : World) (h : PA W g A c T x.length (Ps.adv ⟨0, 0, none⟩)) (h3 : w1.heap.size ≤ W.heap.size) (h4 : g < w1.heap.size) => pdecl_any (base := w1.heap.size) (l := []) h (by show 0 + 1 ≤ _; omega) (SsN.nil W w1.heap.size) h4 h3 (by simp)
     rw [hq] at HDC
     rw [h3] at HBI
     clear h1 h3 hq
     go_upto_region 11 with (first
      | (go_at_call 30; refine (HBI.out _).mono ?_; rintro e w5 ⟨rfl, hb⟩; have HM5 := Hd (HM0.out.below hb); clear hb)
      | (go_at_call 29; refine (HTK.out _ HM5.out.env.pa).mono ?_; rintro e w6 ⟨rfl, hp⟩; have HM6 := Hd (HM5.out.call hp); obtain ⟨a, a0, a1, a2, a3, a4, a5, a6⟩ := HM6.out.env.c7 0 rfl; have fz := HM6.out.env.fz 0 rfl; clear hp))
     refine wp_world (PMe w1 g A c T x.length t7 _ t.2.1 [] (.slice none 0 0) [] (.slice none 0 0) [] (.slice none 0 0) 0 (Ps.adv ⟨0, 0, none⟩)) (HM6.out.named t.2.1) fun w7 hm7 => ?_
     have HM7 := Hd hm7
     clear hm7 HM6 HM5 a a0 a1 a2 a3 a4 a5 a6 fz b b0 b1 b2
     go_wp2_with (go_at_call 31; refine (HDC.out _ HM7.out.env.pa HM7.out.env.size HM7.out.env.gl).mono ?_; rintro e w8 ⟨v8, rfl, hc8, hp8, ho8, -⟩; obtain ⟨A8, c8, rfl, -, -⟩ := SsN.form ho8; obtain ⟨hE8, hM8⟩ := HM7.out.names HLS.out hc8 hp8 ho8; have HM8 := Hd hM8; obtain ⟨a, a0, a1, a2, a3, a4, a5, a6⟩ := hE8.c7 0 rfl; have fz := hE8.fz 0 rfl; clear hc8 hp8 ho8 hE8 hM8)
     go_meet
     rw [HPE.out]
     exact ⟨_, HM8.out⟩
    | false =>
     rw [h3] at HBI
     by_cases h2 : t.1 = 2
     ·have d2 : ((t.1 : Int) == 2) = true := by rw [h2]; rfl
      have HPL : Hid (Ps.patL T x.length (T.length + 2) [] [] ⟨0, 0, none⟩ = pp) := Hd (by rw [HP.out, if_neg (by simpa using h1), if_neg (by rw [h3]; decide), if_pos (by rw [h2]; rfl)])
      clear h1 h2 h3
      go_upto_block 1 with (go_at_call 30; refine (HBI.out _).mono ?_; rintro e w5 ⟨rfl, hb⟩; have HM5 := Hd (HM0.out.below hb); obtain ⟨b, b0, b1, b2⟩ := HM5.out.env.c3 1 rfl; clear hb)
      clear b b0 b1 b2 hf0 hf1 HTK HM0
      go_wp2
      go_loopg [] (T.length + 2) (fun f wr => ∃ (s' : Ps.PS) (nm : Lx.Txt) (l : List Lx.Txt) (v : Value), PMe w1 g A c T x.length t7 [⟨tb, 37, [.int .i64 (t.1 : Int), .string ⟨t.2.1.toArray⟩, .int .i64 (t.2.2 : Int)]⟩] nm l v [] (.slice none 0 0) [] (.slice none 0 0) 0 s' wr ∧ Bd T s' ∧ s'.at_ ≤ T.length ∧ (Ps.ok s' = true → T.length < s'.at_ + f) ∧ nm.length ≤ 65536 * s'.at_ ∧ l.length + f ≤ T.length + 2 ∧ Ps.patL T x.length f nm l s' = pp)
      case atStart => exact ⟨⟨0, 0, none⟩, [], [], _, HM5.out, HBd0.out, Nat.zero_le _, fun _ => by show T.length < 0 + _; omega, by simp, by simp, HPL.out⟩
      case round =>
       obtain ⟨s', nm, l, v', hA, hbd, hat, hok, hnm, hll, hR⟩ := hrel
       have HA := Hd hA
       have HR2 := Hd hR
       have HOK := Hd hok
       have HBD := Hd hbd
       have hg := hA.env.pa.lt
       obtain ⟨Av, cv, rfl, -, -⟩ := SsN.form hA.ra
       clear hA hR hok hbd HM5 HPL
       obtain ⟨q, hq⟩ : ∃ q, Ps.nx T x.length s' = q := ⟨_, rfl⟩
       have HNX := Hd (pnext_any HA.out.env.pa)
       rw [hq] at HNX
       have hq0 := fld0 (.int .i64 (q.1 : Int)) (.string ⟨q.2.1.toArray⟩) (.int .i64 (q.2.2 : Int))
       have hq1 := fld1 (.int .i64 (q.1 : Int)) (.string ⟨q.2.1.toArray⟩) (.int .i64 (q.2.2 : Int))
       cases hk : Ps.ok s' with
       | false =>
        have HE2 : Hid (pp = (nm, l, s')) := Hd (by rw [← HR2.out]; exact patL_stop (by rw [hk]; rfl))
        obtain ⟨kq, k4⟩ := HA.out.env.pa.noc hk
        clear hk hq
        go_wp2
        go_meet
        rw [HE2.out]
        exact ⟨_, HA.out⟩
       | true =>
        have k4 := HA.out.env.pa.okc hk
        by_cases h2 : q.1 = 2
        ·have d2 : ((q.1 : Int) == 2) = true := by rw [h2]; rfl
         have hlt : s'.at_ < T.length := Ps.nx_lt (fin := x.length) (by rw [hq, h2]; decide)
         have hfu := HOK.out hk
         obtain ⟨f, rfl⟩ : ∃ f, gk = f + 1 := ⟨gk - 1, by omega⟩
         have HTK := Hd fun (W : World) (h : PA W g A c T x.length s') => ptake_any h (by omega)
         rw [hq] at HTK
         have hql := HF.out.txt _ (Ps.nx_mem (fin := x.length) hlt)
         rw [hq] at hql
         have hcat : ¬ (9223372036854775807 < nm.length + q.2.1.length) := by omega
         have hstr := str_app nm q.2.1
         obtain ⟨pd, hpd⟩ : ∃ y, Ps.decl T x.length l (Ps.adv s') = y := ⟨_, rfl⟩
         have HR3 : Hid (Ps.patL T x.length f (nm ++ q.2.1) pd.1 pd.2 = pp) := Hd (by rw [← HR2.out]; conv => rhs; unfold Ps.patL; rw [if_pos (by rw [hk, hq, h2]; rfl), hq, hpd])
         have HBA := Hd (HBD.out.adv hlt)
         have HD := Hd (decl_at' (T := T) (fin := x.length) (l := l) (s := Ps.adv s') hlt)
         have HDB := Hd (HBA.out.decl (fin := x.length) l)
         have HL : Hid (pd.1.length = l.length + 1) := Hd (by rw [← hpd]; simp [Ps.decl])
         have hadv : (Ps.adv s').at_ = s'.at_ + 1 := rfl
         have HDC := Hd fun (W : World) (h : PA W g A c T x.length (Ps.adv s')) (ho : SsN W w1.heap.size (.slice Av l.length cv) l) (h3 : w1.heap.size ≤ W.heap.size) (h4 : g < w1.heap.size) => pdecl_any (base := w1.heap.size) (l := l) h (by omega) ho h4 h3 (by omega)
         rw [hpd] at HDC HD HDB
         clear hk h2 hq hpd
         go_upto_region 14 with (go_at_call 28; refine HNX.out.mono ?_; rintro e w6 ⟨rfl, hb⟩; have HA5 := Hd (HA.out.below hb); clear hb)
         obtain ⟨c7, e0, e1, e2, e3, e4, e5, e6⟩ := HA5.out.env.c7 0 rfl
         have hS : w6.cell? ⟨t7, 1, none⟩ = some (.string ⟨nm.toArray⟩) := e1
         refine wp_region_x (s := 7) (S := fun W => W.cell? ⟨t7, 1, none⟩ = some (.string ⟨nm.toArray⟩)) (by kernel_rfl) hS (fun hHeld => ?_)
         refine xt (i := 0) ?_
         refine xt (i := 1) ?_
         refine xt (i := 2) ?_
         refine x1 (i := 3) (fun K2 hK2 => ?_)
         go_simp
         go_at_call 29
         refine (HTK.out _ HA5.out.env.pa.drew).mono ?_
         rintro e w8 ⟨rfl, hp⟩
         have HA6 := Hd ((HA5.out.below (Below.refl _ _).drew).call hp)
         obtain ⟨a, b0, b1, b2, b3, b4, b5, b6⟩ := HA6.out.env.c7 0 rfl
         have fz6 := HA6.out.env.fz 0 rfl
         clear hp
         refine hK2.out _ _ (b1) (fun hHeld => ?_)
         clear hK2 K2
         refine xt (i := 4) ?_
         refine x1 (i := 5) (fun K2 hK2 => ?_)
         go_simp
         refine hK2.out _ _ (hHeld) (fun hHeld => ?_)
         clear hK2 K2
         refine x1 (i := 6) (fun K2 hK2 => ?_)
         go_simp
         refine hK2.out _ _ (hHeld) (fun hHeld => ?_)
         clear hK2 K2
         try simp only [Act.put, List.setIfInBounds_toArray, List.set_cons_zero, List.set_cons_succ]
         refine xl (fun K2 hK2 => ?_)
         go_simp
         refine hK2.out _ _ ?_
         clear hK2 K2
         try simp only [Act.put, List.setIfInBounds_toArray, List.set_cons_zero, List.set_cons_succ]
         refine wpAnyX_done (by kernel_rfl) ?_ _
         go_upto_region 15 with fail
         refine wp_world (PMe w1 g A c T x.length t7 _ (nm ++ q.2.1) l _ [] (.slice none 0 0) [] (.slice none 0 0) 0 (Ps.adv s')) (HA6.out.named (nm ++ q.2.1)) fun w9 hm9 => ?_
         have HA9 := Hd hm9
         clear hm9 HA6 HA5 HA HTK HNX HR2 b0 b1 b2 b3 b4 b5 b6 fz6 e0 e1 e2 e3 e4 e5 e6 hS hHeld k4
         obtain ⟨a, a0, a1, a2, a3, a4, a5, a6⟩ := HA9.out.env.c7 0 rfl
         go_wp2_with (go_at_call 31; refine (HDC.out _ HA9.out.env.pa HA9.out.ra HA9.out.env.size HA9.out.env.gl).mono ?_; rintro e w10 ⟨v8, rfl, hc8, hp8, ho8, -⟩; obtain ⟨A8, c8, rfl, -, -⟩ := SsN.form ho8; obtain ⟨hE8, hM8⟩ := HA9.out.names HLS.out hc8 hp8 ho8; have HM8 := Hd hM8; obtain ⟨a, a0, a1, a2, a3, a4, a5, a6⟩ := hE8.c7 0 rfl; have fz := hE8.fz 0 rfl; clear hc8 hp8 ho8 hE8 hM8)
         go_roundg f
         case measure => omega
         case rel => exact ⟨pd.2, nm ++ q.2.1, pd.1, _, HM8.out, HDB.out, HD.out.1, fun hk => by have := HD.out.2.2 hk; omega, by have := HD.out.2.1; simp only [List.length_append]; omega, by rw [HL.out]; omega, HR3.out⟩
        ·have d2 : ((q.1 : Int) == 2) = false := natInt (by omega)
         have HE2 : Hid (pp = (nm, l, s')) := Hd (by rw [← HR2.out]; exact patL_stop (by rw [hk, hq]; simpa using h2))
         clear hk h2 hq
         go_wp2_with (go_at_call 28; refine HNX.out.mono ?_; rintro e w6 ⟨rfl, hb⟩; have HA5 := Hd (HA.out.below hb); clear hb)
         go_meet
         rw [HE2.out]
         exact ⟨_, HA5.out⟩
     ·have d2 : ((t.1 : Int) == 2) = false := natInt (by omega)
      have HPE : Hid (pp = ([], [], Ps.odd T x.length ⟨0, 0, none⟩)) := Hd (by rw [HP.out, if_neg (by simpa using h1), if_neg (by rw [h3]; decide), if_neg (by simpa using h2)])
      clear h1 h2 h3
      go_wp2_with (first
       | (go_at_call 30; refine (HBI.out _).mono ?_; rintro e w5 ⟨rfl, hb⟩; have HM5 := Hd (HM0.out.below hb); obtain ⟨b, b0, b1, b2⟩ := HM5.out.env.c3 1 rfl; clear hb)
       | (go_at_call 32; refine (podd_any HM5.out.env.pa).mono ?_; rintro e w6 ⟨rfl, hp⟩; have HM6 := Hd (HM5.out.call hp); clear hp))
      go_meet
      rw [HPE.out]
      exact ⟨_, HM6.out⟩
  case rest =>
   obtain ⟨vN, hM⟩ := hcut
   obtain ⟨Nv, nv, rfl, -, -⟩ := SsN.form hM.ra
   have HM := Hd hM
   clear hM HM0
   have HBS := HBP
   obtain ⟨u, hu⟩ : ∃ u, Ps.nx T x.length pp.2.2 = u := ⟨_, rfl⟩
   have HNX := Hd (pnext_any HM.out.env.pa)
   rw [hu] at HNX
   go_upto_region 17 with (go_at_call 28; refine HNX.out.mono ?_; rintro e w5 ⟨rfl, hb⟩; have HM5 := Hd (HM.out.below hb); clear hb)
   refine wp_world (fun W => PMe w1 g A c T x.length t7 _ pp.1 pp.2.1 _ [] _ [] _ 0 pp.2.2 W ∧ Blk W w5.heap.size 37 _) ⟨HM5.out.below (new_below _ _), Blk.new _ _ _⟩ fun w6 h6 => ?_
   have HM6 := Hd h6.1
   have HK6 := Hd h6.2
   clear h6 HM HM5 HNX
   have hg := HM6.out.env.pa.lt
   have b := HK6.out.lt
   have b0 := HK6.out.cell 0
   have b1 := HK6.out.cell 1
   cases hk : Ps.ok pp.2.2 with
   | false =>
    have HQ : Hid (Ps.primi T x.length pp.2.2 = (0, pp.2.2)) := Hd (by unfold Ps.primi; rw [if_neg (by rw [hk]; simp)])
    obtain ⟨kq, k4⟩ := HM6.out.env.pa.noc hk
    clear hk hu
    obtain ⟨pv, hpv⟩ : ∃ p, Ps.temps T x.length (pp.2.2) = p := ⟨_, rfl⟩
    have HB3 : Hid (Bd T pv.2) := Hd (by rw [← hpv]; exact HBS.out.temps)
    obtain ⟨pr, hpr⟩ : ∃ p, Ps.stL T x.length (10 * T.length + 9) [] [] pv.2 = p := ⟨_, rfl⟩
    have HE : Hid (Ps.meth T x.length (10 * T.length + 9) = (.mk 1 pp.1 pp.2.1 pv.1 pr.1 0 0, pr.2)) := Hd (by unfold Ps.meth; rw [HPP.out]; dsimp only; rw [HQ.out]; dsimp only; rw [hpv, hpr])
    have HTM := Hd fun (W : World) (h : PA W g A c T x.length (pp.2.2)) => ptemps_any h hT
    have HST := Hd fun (W : World) (h : PA W g A c T x.length pv.2) => (wall_any HF.out (10 * T.length + 9)).stL [] pv.2 W h HB3.out (by unfold Ps.rem; omega)
    rw [hpv] at HTM
    rw [hpr] at HST
    clear hpv hpr
    go_upto_region 23 with (go_at_call 35; refine (HTM.out _ HM6.out.env.pa).mono ?_; rintro e w7 ⟨vT, rfl, hp, ho⟩; obtain ⟨Tv, tv, rfl, -, -⟩ := SsN.form ho; have HM7 := Hd (HM6.out.call hp); have HO7 : Hid (SsN w7 w1.heap.size _ pv.1) := Hd (own_low ho HM6.out.env.size); obtain ⟨a, a0, a1, a2, a3, a4, a5, a6⟩ := HM7.out.env.c7 0 rfl; have fz := HM7.out.env.fz 0 rfl; clear hp ho)
    refine wp_world (PMe w1 g A c T x.length t7 _ _ _ _ pv.1 _ [] _ 0 pv.2) (HM7.out.temps HO7.out) fun w8 hm8 => ?_
    have HM8 := Hd hm8
    clear hm8 HM7 HO7 a a0 a1 a2 a3 a4 a5 a6 fz
    have hk7 := (HM8.out.env.blk 0 rfl).lt
    go_upto_region 24 with (go_at_call 36; refine (HST.out _ HM8.out.env.pa).mono ?_; rintro e w9 ⟨vS, rfl, hp, hbs, hts⟩; obtain ⟨Sv, tvs, rfl, -, -⟩ := hts.form; have HM9 := Hd (HM8.out.call hp); have HO9 : Hid (TsM w9 w1.heap.size (· = t7) _ pr.1) := Hd ((hts.swap (X' := (· = t7)) fun k h1 _ e => by omega).low HM8.out.env.size); obtain ⟨a, a0, a1, a2, a3, a4, a5, a6⟩ := HM9.out.env.c7 0 rfl; have fz := HM9.out.env.fz 0 rfl; clear hp hts)
    refine wp_world (PMe w1 g A c T x.length t7 _ _ _ _ pv.1 _ pr.1 _ 0 pr.2) (HM9.out.nodes HO9.out) fun w10 hm10 => ?_
    have HM10 := Hd hm10
    clear hm10 HM8 HM9 HO9 a a0 a1 a2 a3 a4 a5 a6 fz hk7 HTM HST
    have HK10 := Hd (HM10.out.env.chg.blk HK1.out (by omega))
    have HBT : Hid (Below w.heap.size w w10) := Hd (HBW.out.trans (HM10.out.env.chg.below (by omega) fun k hk e => by omega))
    obtain ⟨a, a0, a1, a2, a3, a4, a5, a6⟩ := HM10.out.env.c7 0 rfl
    have HFN := Hd (pfin_any HM10.out.env.pa HM10.out.tree)
    obtain ⟨fl, hfl⟩ : ∃ fl, pr.2.fault = fl := ⟨_, rfl⟩
    rw [hfl] at HFN
    have HFL := Hd hfl
    clear hfl
    cases fl with
    | none =>
     have HE2 : Hid (Ps.finish (Ps.Tr.mk 1 pp.1 pp.2.1 pv.1 pr.1 0 0, pr.2) = (Ps.Tr.mk 1 pp.1 pp.2.1 pv.1 pr.1 0 0, 0, 0)) := Hd (by unfold Ps.finish; rw [HFL.out])
     go_wp2_with (go_at_call 37; refine HFN.out.mono ?_; rintro e w11 ⟨hb, rfl⟩; have HB11 := Hd hb; have HK11 := Hd (HK10.out.below hb HK10.out.lt); have b := HK11.out.lt; have b0 := HK11.out.cell 0; have b1 := HK11.out.cell 1; have b2 := HK11.out.cell 2; have b3 := HK11.out.cell 3; have b4 := HK11.out.cell 4; have b5 := HK11.out.cell 5; have b6 := HK11.out.cell 6; have fz := HK11.out.frozen; clear hb)
     refine bodyPost_ret (ret26x rfl _ _ rfl (HK11.out.set7 _ _ _ _ _ _ _)) rfl ?_
     rw [HE.out, HE2.out]
     exact TopP.put (w0 := w1) (Nat.le_refl _) hk2l (HBT.out.trans (HB11.out.mono HBT.out.size)) (HM10.out.tree.below HB11.out) 0 0
    | some y =>
     have HE2 : Hid (Ps.finish (Ps.Tr.mk 1 pp.1 pp.2.1 pv.1 pr.1 0 0, pr.2) = (Ps.Tr.zero, y.1, y.2)) := Hd (by unfold Ps.finish; rw [HFL.out])
     go_wp2_with (go_at_call 37; refine HFN.out.mono ?_; rintro e w11 ⟨hb, rfl⟩; have HB11 := Hd hb; have HK11 := Hd (HK10.out.below hb HK10.out.lt); have b := HK11.out.lt; have b0 := HK11.out.cell 0; have b1 := HK11.out.cell 1; have b2 := HK11.out.cell 2; have b3 := HK11.out.cell 3; have b4 := HK11.out.cell 4; have b5 := HK11.out.cell 5; have b6 := HK11.out.cell 6; have fz := HK11.out.frozen; clear hb)
     refine bodyPost_ret (ret26x rfl _ _ rfl (HK11.out.set7 _ _ _ _ _ _ _)) rfl ?_
     rw [HE.out, HE2.out]
     exact TopP.put (w0 := w1) (Nat.le_refl _) hk2l (HBT.out.trans (HB11.out.mono HBT.out.size)) (TrM.zero _ _ _) y.1 y.2
   | true =>
    have k4 := HM6.out.env.pa.okc hk
    by_cases h3 : u.1 = 3
    ·have d3 : ((u.1 : Int) == 3) = true := by rw [h3]; rfl
     cases h60 : u.2.1 == [60] with
     | false =>
      have HQ : Hid (Ps.primi T x.length pp.2.2 = (0, pp.2.2)) := Hd (by unfold Ps.primi; dsimp only; rw [hu, if_neg (by rw [h60]; simp)])
      clear hk hu h3
      obtain ⟨pv, hpv⟩ : ∃ p, Ps.temps T x.length (pp.2.2) = p := ⟨_, rfl⟩
      have HB3 : Hid (Bd T pv.2) := Hd (by rw [← hpv]; exact HBS.out.temps)
      obtain ⟨pr, hpr⟩ : ∃ p, Ps.stL T x.length (10 * T.length + 9) [] [] pv.2 = p := ⟨_, rfl⟩
      have HE : Hid (Ps.meth T x.length (10 * T.length + 9) = (.mk 1 pp.1 pp.2.1 pv.1 pr.1 0 0, pr.2)) := Hd (by unfold Ps.meth; rw [HPP.out]; dsimp only; rw [HQ.out]; dsimp only; rw [hpv, hpr])
      have HTM := Hd fun (W : World) (h : PA W g A c T x.length (pp.2.2)) => ptemps_any h hT
      have HST := Hd fun (W : World) (h : PA W g A c T x.length pv.2) => (wall_any HF.out (10 * T.length + 9)).stL [] pv.2 W h HB3.out (by unfold Ps.rem; omega)
      rw [hpv] at HTM
      rw [hpr] at HST
      clear hpv hpr
      go_upto_region 23 with (go_at_call 35; refine (HTM.out _ HM6.out.env.pa).mono ?_; rintro e w7 ⟨vT, rfl, hp, ho⟩; obtain ⟨Tv, tv, rfl, -, -⟩ := SsN.form ho; have HM7 := Hd (HM6.out.call hp); have HO7 : Hid (SsN w7 w1.heap.size _ pv.1) := Hd (own_low ho HM6.out.env.size); obtain ⟨a, a0, a1, a2, a3, a4, a5, a6⟩ := HM7.out.env.c7 0 rfl; have fz := HM7.out.env.fz 0 rfl; clear hp ho)
      refine wp_world (PMe w1 g A c T x.length t7 _ _ _ _ pv.1 _ [] _ 0 pv.2) (HM7.out.temps HO7.out) fun w8 hm8 => ?_
      have HM8 := Hd hm8
      clear hm8 HM7 HO7 a a0 a1 a2 a3 a4 a5 a6 fz
      have hk7 := (HM8.out.env.blk 0 rfl).lt
      go_upto_region 24 with (go_at_call 36; refine (HST.out _ HM8.out.env.pa).mono ?_; rintro e w9 ⟨vS, rfl, hp, hbs, hts⟩; obtain ⟨Sv, tvs, rfl, -, -⟩ := hts.form; have HM9 := Hd (HM8.out.call hp); have HO9 : Hid (TsM w9 w1.heap.size (· = t7) _ pr.1) := Hd ((hts.swap (X' := (· = t7)) fun k h1 _ e => by omega).low HM8.out.env.size); obtain ⟨a, a0, a1, a2, a3, a4, a5, a6⟩ := HM9.out.env.c7 0 rfl; have fz := HM9.out.env.fz 0 rfl; clear hp hts)
      refine wp_world (PMe w1 g A c T x.length t7 _ _ _ _ pv.1 _ pr.1 _ 0 pr.2) (HM9.out.nodes HO9.out) fun w10 hm10 => ?_
      have HM10 := Hd hm10
      clear hm10 HM8 HM9 HO9 a a0 a1 a2 a3 a4 a5 a6 fz hk7 HTM HST
      have HK10 := Hd (HM10.out.env.chg.blk HK1.out (by omega))
      have HBT : Hid (Below w.heap.size w w10) := Hd (HBW.out.trans (HM10.out.env.chg.below (by omega) fun k hk e => by omega))
      obtain ⟨a, a0, a1, a2, a3, a4, a5, a6⟩ := HM10.out.env.c7 0 rfl
      have HFN := Hd (pfin_any HM10.out.env.pa HM10.out.tree)
      obtain ⟨fl, hfl⟩ : ∃ fl, pr.2.fault = fl := ⟨_, rfl⟩
      rw [hfl] at HFN
      have HFL := Hd hfl
      clear hfl
      cases fl with
      | none =>
       have HE2 : Hid (Ps.finish (Ps.Tr.mk 1 pp.1 pp.2.1 pv.1 pr.1 0 0, pr.2) = (Ps.Tr.mk 1 pp.1 pp.2.1 pv.1 pr.1 0 0, 0, 0)) := Hd (by unfold Ps.finish; rw [HFL.out])
       go_wp2_with (go_at_call 37; refine HFN.out.mono ?_; rintro e w11 ⟨hb, rfl⟩; have HB11 := Hd hb; have HK11 := Hd (HK10.out.below hb HK10.out.lt); have b := HK11.out.lt; have b0 := HK11.out.cell 0; have b1 := HK11.out.cell 1; have b2 := HK11.out.cell 2; have b3 := HK11.out.cell 3; have b4 := HK11.out.cell 4; have b5 := HK11.out.cell 5; have b6 := HK11.out.cell 6; have fz := HK11.out.frozen; clear hb)
       refine bodyPost_ret (ret26x rfl _ _ rfl (HK11.out.set7 _ _ _ _ _ _ _)) rfl ?_
       rw [HE.out, HE2.out]
       exact TopP.put (w0 := w1) (Nat.le_refl _) hk2l (HBT.out.trans (HB11.out.mono HBT.out.size)) (HM10.out.tree.below HB11.out) 0 0
      | some y =>
       have HE2 : Hid (Ps.finish (Ps.Tr.mk 1 pp.1 pp.2.1 pv.1 pr.1 0 0, pr.2) = (Ps.Tr.zero, y.1, y.2)) := Hd (by unfold Ps.finish; rw [HFL.out])
       go_wp2_with (go_at_call 37; refine HFN.out.mono ?_; rintro e w11 ⟨hb, rfl⟩; have HB11 := Hd hb; have HK11 := Hd (HK10.out.below hb HK10.out.lt); have b := HK11.out.lt; have b0 := HK11.out.cell 0; have b1 := HK11.out.cell 1; have b2 := HK11.out.cell 2; have b3 := HK11.out.cell 3; have b4 := HK11.out.cell 4; have b5 := HK11.out.cell 5; have b6 := HK11.out.cell 6; have fz := HK11.out.frozen; clear hb)
       refine bodyPost_ret (ret26x rfl _ _ rfl (HK11.out.set7 _ _ _ _ _ _ _)) rfl ?_
       rw [HE.out, HE2.out]
       exact TopP.put (w0 := w1) (Nat.le_refl _) hk2l (HBT.out.trans (HB11.out.mono HBT.out.size)) (TrM.zero _ _ _) y.1 y.2
     | true =>
      have hlt : pp.2.2.at_ < T.length := Ps.nx_lt (fin := x.length) (by rw [hu, h3]; decide)
      have hpat := HBS.out.at_
      obtain ⟨q1, hq1⟩ : ∃ q, Ps.want T x.length 2 [112, 114, 105, 109, 105, 116, 105, 118, 101, 58] (Ps.adv pp.2.2) = q := ⟨_, rfl⟩
      obtain ⟨q2, hq2⟩ : ∃ q, Ps.want T x.length 4 [] q1.2 = q := ⟨_, rfl⟩
      have HB0' := Hd (HBS.out.adv hlt)
      have HB1' : Hid (Bd T q1.2) := Hd (by rw [← hq1]; exact HB0'.out.want (by decide) _)
      have HB2' : Hid (Bd T q2.2) := Hd (by rw [← hq2]; exact HB1'.out.want (by decide) _)
      have HB3' := Hd (HB2'.out.smallS q2.1 255)
      have htx : q2.1.2.1.length ≤ 65536 := by
       rw [← hq2]
       unfold Ps.want
       split
       ·simp
       ·rename_i hc
        have h1 : (Ps.nx T x.length q1.2).1 = 4 := by
         by_cases h9 : (Ps.nx T x.length q1.2).1 = 4
         ·exact h9
         ·exact absurd (by simp [h9]) hc
        exact HF.out.txt _ (Ps.nx_mem (Ps.nx_lt (fin := x.length) (by rw [h1]; decide)))
      obtain ⟨N, hN⟩ : ∃ N, Ps.small q2.1.2.1 255 = N := ⟨_, rfl⟩
      obtain ⟨S, hS⟩ : ∃ S, (Ps.want T x.length 3 [62] (Ps.smallS q2.1 255 q2.2)).2 = S := ⟨_, rfl⟩
      have HQ : Hid (Ps.primi T x.length pp.2.2 = (N, S)) := Hd (by unfold Ps.primi; dsimp only; rw [hu, if_pos (by rw [hk, h3, h60]; rfl), hq1, hq2, hN, hS])
      have HBS : Hid (Bd T S) := Hd (by rw [← hS]; exact HB3'.out.want (by decide) _)
      have HTK := Hd fun (W : World) (h : PA W g A c T x.length pp.2.2) => ptake_any h (by omega)
      have HW1 := Hd fun (W : World) (h : PA W g A c T x.length (Ps.adv pp.2.2)) => pwant_any h (by have := HB0'.out.at_; omega) 2 [112, 114, 105, 109, 105, 116, 105, 118, 101, 58]
      have HW2 := Hd fun (W : World) (h : PA W g A c T x.length q1.2) => pwant_any h (by have := HB1'.out.at_; omega) 4 []
      have HW3 := Hd fun (W : World) (h : PA W g A c T x.length (Ps.smallS q2.1 255 q2.2)) => pwant_any h (by have := HB3'.out.at_; omega) 3 [62]
      have HSM := Hd fun (W : World) (h : PA W g A c T x.length q2.2) => psmall_any h q2.1 255 (by decide) htx
      rw [hq1] at HW1
      rw [hq2] at HW2
      rw [hN] at HSM
      have HS3 : Hid (∀ (W : World), PA W g A c T x.length (Ps.smallS q2.1 255 q2.2) → Calls Tryz.prog 33 #[.pointer (some ⟨g, 0, none⟩), .int .i64 3, .string ⟨#[62]⟩] W fun e' w' => (∃ v, e' = .returned v) ∧ PP W g A c T x.length S w') := Hd fun W h => (HW3.out W h).mono fun e w' hh => ⟨⟨_, hh.1⟩, by rw [← hS]; exact hh.2⟩
      have HS1 : Hid (∀ (W : World), PA W g A c T x.length (Ps.adv pp.2.2) → Calls Tryz.prog 33 #[.pointer (some ⟨g, 0, none⟩), .int .i64 2, .string ⟨#[112, 114, 105, 109, 105, 116, 105, 118, 101, 58]⟩] W fun e' w' => (∃ v, e' = .returned v) ∧ PP W g A c T x.length q1.2 w') := Hd fun W h => (HW1.out W h).mono fun e w' hh => ⟨⟨_, hh.1⟩, hh.2⟩
      have HS2 : Hid (∀ (W : World), PA W g A c T x.length q1.2 → Calls Tryz.prog 33 #[.pointer (some ⟨g, 0, none⟩), .int .i64 4, .string ⟨#[]⟩] W fun e' w' => e' = .returned (.agg #[.int .i64 ((q2.1).1 : Int), .string ⟨(q2.1).2.1.toArray⟩, .int .i64 ((q2.1).2.2 : Int)]) ∧ PP W g A c T x.length q2.2 w') := Hd fun W h => HW2.out W h
      clear hk hu h3 hq1 hq2 hN hS HW1 HW2 HW3
      go_upto_region 20 with (first
       | (go_at_call 29; refine (HTK.out _ HM6.out.env.pa).mono ?_; rintro e w7 ⟨rfl, hp⟩; have HM7 := Hd (HM6.out.call hp); clear hp)
       | (go_at_call 33; with_reducible refine (HS1.out _ HM7.out.env.pa).mono ?_; rintro e w8 ⟨⟨vv, rfl⟩, hp⟩; have HM8 := Hd (HM7.out.call hp); clear hp))
      clear HM6 HM7 HK6 b b0 b1 k4 hg
      go_upto_region 21 with (first
       | (go_at_call 33; with_reducible refine (HS2.out _ HM8.out.env.pa).mono ?_; rintro e w9 ⟨rfl, hp⟩; have HM9 := Hd (HM8.out.call hp); clear hp)
       | (go_at_call 34; refine (HSM.out _ HM9.out.env.pa).mono ?_; rintro e w10 ⟨rfl, hp⟩; have HM10 := Hd (HM9.out.call hp); obtain ⟨a, a0, a1, a2, a3, a4, a5, a6⟩ := HM10.out.env.c7 0 rfl; have fz := HM10.out.env.fz 0 rfl; clear hp))
      refine wp_world (PMe w1 g A c T x.length t7 _ pp.1 pp.2.1 _ [] _ [] _ N (Ps.smallS q2.1 255 q2.2)) (HM10.out.prim N) fun w11 hm11 => ?_
      have HM11 := Hd hm11
      clear hm11 HM8 HM9 HM10 a a0 a1 a2 a3 a4 a5 a6 fz
      go_upto_region 22 with (go_at_call 33; with_reducible refine (HS3.out _ HM11.out.env.pa).mono ?_; rintro e w12 ⟨⟨vv, rfl⟩, hp⟩; have HM12 := Hd (HM11.out.call hp); clear hp)
      clear HM11
      obtain ⟨pv, hpv⟩ : ∃ p, Ps.temps T x.length (S) = p := ⟨_, rfl⟩
      have HB3 : Hid (Bd T pv.2) := Hd (by rw [← hpv]; exact HBS.out.temps)
      obtain ⟨pr, hpr⟩ : ∃ p, Ps.stL T x.length (10 * T.length + 9) [] [] pv.2 = p := ⟨_, rfl⟩
      have HE : Hid (Ps.meth T x.length (10 * T.length + 9) = (.mk 1 pp.1 pp.2.1 pv.1 pr.1 N 0, pr.2)) := Hd (by unfold Ps.meth; rw [HPP.out]; dsimp only; rw [HQ.out]; dsimp only; rw [hpv, hpr])
      have HTM := Hd fun (W : World) (h : PA W g A c T x.length (S)) => ptemps_any h hT
      have HST := Hd fun (W : World) (h : PA W g A c T x.length pv.2) => (wall_any HF.out (10 * T.length + 9)).stL [] pv.2 W h HB3.out (by unfold Ps.rem; omega)
      rw [hpv] at HTM
      rw [hpr] at HST
      clear hpv hpr
      go_upto_region 23 with (go_at_call 35; refine (HTM.out _ HM12.out.env.pa).mono ?_; rintro e w7 ⟨vT, rfl, hp, ho⟩; obtain ⟨Tv, tv, rfl, -, -⟩ := SsN.form ho; have HM7 := Hd (HM12.out.call hp); have HO7 : Hid (SsN w7 w1.heap.size _ pv.1) := Hd (own_low ho HM12.out.env.size); obtain ⟨a, a0, a1, a2, a3, a4, a5, a6⟩ := HM7.out.env.c7 0 rfl; have fz := HM7.out.env.fz 0 rfl; clear hp ho)
      refine wp_world (PMe w1 g A c T x.length t7 _ _ _ _ pv.1 _ [] _ N pv.2) (HM7.out.temps HO7.out) fun w8 hm8 => ?_
      have HM8 := Hd hm8
      clear hm8 HM7 HO7 a a0 a1 a2 a3 a4 a5 a6 fz
      have hk7 := (HM8.out.env.blk 0 rfl).lt
      go_upto_region 24 with (go_at_call 36; refine (HST.out _ HM8.out.env.pa).mono ?_; rintro e w9 ⟨vS, rfl, hp, hbs, hts⟩; obtain ⟨Sv, tvs, rfl, -, -⟩ := hts.form; have HM9 := Hd (HM8.out.call hp); have HO9 : Hid (TsM w9 w1.heap.size (· = t7) _ pr.1) := Hd ((hts.swap (X' := (· = t7)) fun k h1 _ e => by omega).low HM8.out.env.size); obtain ⟨a, a0, a1, a2, a3, a4, a5, a6⟩ := HM9.out.env.c7 0 rfl; have fz := HM9.out.env.fz 0 rfl; clear hp hts)
      refine wp_world (PMe w1 g A c T x.length t7 _ _ _ _ pv.1 _ pr.1 _ N pr.2) (HM9.out.nodes HO9.out) fun w10 hm10 => ?_
      have HM10 := Hd hm10
      clear hm10 HM8 HM9 HO9 a a0 a1 a2 a3 a4 a5 a6 fz hk7 HTM HST
      have HK10 := Hd (HM10.out.env.chg.blk HK1.out (by omega))
      have HBT : Hid (Below w.heap.size w w10) := Hd (HBW.out.trans (HM10.out.env.chg.below (by omega) fun k hk e => by omega))
      obtain ⟨a, a0, a1, a2, a3, a4, a5, a6⟩ := HM10.out.env.c7 0 rfl
      have HFN := Hd (pfin_any HM10.out.env.pa HM10.out.tree)
      obtain ⟨fl, hfl⟩ : ∃ fl, pr.2.fault = fl := ⟨_, rfl⟩
      rw [hfl] at HFN
      have HFL := Hd hfl
      clear hfl
      cases fl with
      | none =>
       have HE2 : Hid (Ps.finish (Ps.Tr.mk 1 pp.1 pp.2.1 pv.1 pr.1 N 0, pr.2) = (Ps.Tr.mk 1 pp.1 pp.2.1 pv.1 pr.1 N 0, 0, 0)) := Hd (by unfold Ps.finish; rw [HFL.out])
       go_wp2_with (go_at_call 37; refine HFN.out.mono ?_; rintro e w11 ⟨hb, rfl⟩; have HB11 := Hd hb; have HK11 := Hd (HK10.out.below hb HK10.out.lt); have b := HK11.out.lt; have b0 := HK11.out.cell 0; have b1 := HK11.out.cell 1; have b2 := HK11.out.cell 2; have b3 := HK11.out.cell 3; have b4 := HK11.out.cell 4; have b5 := HK11.out.cell 5; have b6 := HK11.out.cell 6; have fz := HK11.out.frozen; clear hb)
       refine bodyPost_ret (ret26x rfl _ _ rfl (HK11.out.set7 _ _ _ _ _ _ _)) rfl ?_
       rw [HE.out, HE2.out]
       exact TopP.put (w0 := w1) (Nat.le_refl _) hk2l (HBT.out.trans (HB11.out.mono HBT.out.size)) (HM10.out.tree.below HB11.out) 0 0
      | some y =>
       have HE2 : Hid (Ps.finish (Ps.Tr.mk 1 pp.1 pp.2.1 pv.1 pr.1 N 0, pr.2) = (Ps.Tr.zero, y.1, y.2)) := Hd (by unfold Ps.finish; rw [HFL.out])
       go_wp2_with (go_at_call 37; refine HFN.out.mono ?_; rintro e w11 ⟨hb, rfl⟩; have HB11 := Hd hb; have HK11 := Hd (HK10.out.below hb HK10.out.lt); have b := HK11.out.lt; have b0 := HK11.out.cell 0; have b1 := HK11.out.cell 1; have b2 := HK11.out.cell 2; have b3 := HK11.out.cell 3; have b4 := HK11.out.cell 4; have b5 := HK11.out.cell 5; have b6 := HK11.out.cell 6; have fz := HK11.out.frozen; clear hb)
       refine bodyPost_ret (ret26x rfl _ _ rfl (HK11.out.set7 _ _ _ _ _ _ _)) rfl ?_
       rw [HE.out, HE2.out]
       exact TopP.put (w0 := w1) (Nat.le_refl _) hk2l (HBT.out.trans (HB11.out.mono HBT.out.size)) (TrM.zero _ _ _) y.1 y.2
    ·have d3 : ((u.1 : Int) == 3) = false := natInt (by omega)
     have h3b : (u.1 == 3) = false := by simpa using h3
     have HQ : Hid (Ps.primi T x.length pp.2.2 = (0, pp.2.2)) := Hd (by unfold Ps.primi; dsimp only; rw [hu, if_neg (by rw [h3b]; simp)])
     clear h3b
     clear hk hu h3
     obtain ⟨pv, hpv⟩ : ∃ p, Ps.temps T x.length (pp.2.2) = p := ⟨_, rfl⟩
     have HB3 : Hid (Bd T pv.2) := Hd (by rw [← hpv]; exact HBS.out.temps)
     obtain ⟨pr, hpr⟩ : ∃ p, Ps.stL T x.length (10 * T.length + 9) [] [] pv.2 = p := ⟨_, rfl⟩
     have HE : Hid (Ps.meth T x.length (10 * T.length + 9) = (.mk 1 pp.1 pp.2.1 pv.1 pr.1 0 0, pr.2)) := Hd (by unfold Ps.meth; rw [HPP.out]; dsimp only; rw [HQ.out]; dsimp only; rw [hpv, hpr])
     have HTM := Hd fun (W : World) (h : PA W g A c T x.length (pp.2.2)) => ptemps_any h hT
     have HST := Hd fun (W : World) (h : PA W g A c T x.length pv.2) => (wall_any HF.out (10 * T.length + 9)).stL [] pv.2 W h HB3.out (by unfold Ps.rem; omega)
     rw [hpv] at HTM
     rw [hpr] at HST
     clear hpv hpr
     go_upto_region 23 with (go_at_call 35; refine (HTM.out _ HM6.out.env.pa).mono ?_; rintro e w7 ⟨vT, rfl, hp, ho⟩; obtain ⟨Tv, tv, rfl, -, -⟩ := SsN.form ho; have HM7 := Hd (HM6.out.call hp); have HO7 : Hid (SsN w7 w1.heap.size _ pv.1) := Hd (own_low ho HM6.out.env.size); obtain ⟨a, a0, a1, a2, a3, a4, a5, a6⟩ := HM7.out.env.c7 0 rfl; have fz := HM7.out.env.fz 0 rfl; clear hp ho)
     refine wp_world (PMe w1 g A c T x.length t7 _ _ _ _ pv.1 _ [] _ 0 pv.2) (HM7.out.temps HO7.out) fun w8 hm8 => ?_
     have HM8 := Hd hm8
     clear hm8 HM7 HO7 a a0 a1 a2 a3 a4 a5 a6 fz
     have hk7 := (HM8.out.env.blk 0 rfl).lt
     go_upto_region 24 with (go_at_call 36; refine (HST.out _ HM8.out.env.pa).mono ?_; rintro e w9 ⟨vS, rfl, hp, hbs, hts⟩; obtain ⟨Sv, tvs, rfl, -, -⟩ := hts.form; have HM9 := Hd (HM8.out.call hp); have HO9 : Hid (TsM w9 w1.heap.size (· = t7) _ pr.1) := Hd ((hts.swap (X' := (· = t7)) fun k h1 _ e => by omega).low HM8.out.env.size); obtain ⟨a, a0, a1, a2, a3, a4, a5, a6⟩ := HM9.out.env.c7 0 rfl; have fz := HM9.out.env.fz 0 rfl; clear hp hts)
     refine wp_world (PMe w1 g A c T x.length t7 _ _ _ _ pv.1 _ pr.1 _ 0 pr.2) (HM9.out.nodes HO9.out) fun w10 hm10 => ?_
     have HM10 := Hd hm10
     clear hm10 HM8 HM9 HO9 a a0 a1 a2 a3 a4 a5 a6 fz hk7 HTM HST
     have HK10 := Hd (HM10.out.env.chg.blk HK1.out (by omega))
     have HBT : Hid (Below w.heap.size w w10) := Hd (HBW.out.trans (HM10.out.env.chg.below (by omega) fun k hk e => by omega))
     obtain ⟨a, a0, a1, a2, a3, a4, a5, a6⟩ := HM10.out.env.c7 0 rfl
     have HFN := Hd (pfin_any HM10.out.env.pa HM10.out.tree)
     obtain ⟨fl, hfl⟩ : ∃ fl, pr.2.fault = fl := ⟨_, rfl⟩
     rw [hfl] at HFN
     have HFL := Hd hfl
     clear hfl
     cases fl with
     | none =>
      have HE2 : Hid (Ps.finish (Ps.Tr.mk 1 pp.1 pp.2.1 pv.1 pr.1 0 0, pr.2) = (Ps.Tr.mk 1 pp.1 pp.2.1 pv.1 pr.1 0 0, 0, 0)) := Hd (by unfold Ps.finish; rw [HFL.out])
      go_wp2_with (go_at_call 37; refine HFN.out.mono ?_; rintro e w11 ⟨hb, rfl⟩; have HB11 := Hd hb; have HK11 := Hd (HK10.out.below hb HK10.out.lt); have b := HK11.out.lt; have b0 := HK11.out.cell 0; have b1 := HK11.out.cell 1; have b2 := HK11.out.cell 2; have b3 := HK11.out.cell 3; have b4 := HK11.out.cell 4; have b5 := HK11.out.cell 5; have b6 := HK11.out.cell 6; have fz := HK11.out.frozen; clear hb)
      refine bodyPost_ret (ret26x rfl _ _ rfl (HK11.out.set7 _ _ _ _ _ _ _)) rfl ?_
      rw [HE.out, HE2.out]
      exact TopP.put (w0 := w1) (Nat.le_refl _) hk2l (HBT.out.trans (HB11.out.mono HBT.out.size)) (HM10.out.tree.below HB11.out) 0 0
     | some y =>
      have HE2 : Hid (Ps.finish (Ps.Tr.mk 1 pp.1 pp.2.1 pv.1 pr.1 0 0, pr.2) = (Ps.Tr.zero, y.1, y.2)) := Hd (by unfold Ps.finish; rw [HFL.out])
      go_wp2_with (go_at_call 37; refine HFN.out.mono ?_; rintro e w11 ⟨hb, rfl⟩; have HB11 := Hd hb; have HK11 := Hd (HK10.out.below hb HK10.out.lt); have b := HK11.out.lt; have b0 := HK11.out.cell 0; have b1 := HK11.out.cell 1; have b2 := HK11.out.cell 2; have b3 := HK11.out.cell 3; have b4 := HK11.out.cell 4; have b5 := HK11.out.cell 5; have b6 := HK11.out.cell 6; have fz := HK11.out.frozen; clear hb)
      refine bodyPost_ret (ret26x rfl _ _ rfl (HK11.out.set7 _ _ _ _ _ _ _)) rfl ?_
      rw [HE.out, HE2.out]
      exact TopP.put (w0 := w1) (Nat.le_refl _) hk2l (HBT.out.trans (HB11.out.mono HBT.out.size)) (TrM.zero _ _ _) y.1 y.2
 ·rw [if_neg he]
  have d0 : ((er : Int) != 0) = true := by rw [bne_iff_ne]; omega
  clear he
  go_enter Tryz.func9, Tryz.ntmps9
  go_upto_region 1 with fail
  have hk0 : Blk (w.alloc (.cells #[.int .i64 0, .string ⟨#[]⟩, .slice none 0 0, .slice none 0 0, .slice none 0 0, .int .i64 0, .int .i64 0] 27)) w.heap.size 27 #[.int .i64 0, .string ⟨#[]⟩, .slice none 0 0, .slice none 0 0, .slice none 0 0, .int .i64 0, .int .i64 0] := Blk.new _ _ _
  have hb0 : Below w.heap.size w (w.alloc (.cells #[.int .i64 0, .string ⟨#[]⟩, .slice none 0 0, .slice none 0 0, .slice none 0 0, .int .i64 0, .int .i64 0] 27)) := new_below _ _
  have hz0 : (w.alloc (.cells #[.int .i64 0, .string ⟨#[]⟩, .slice none 0 0, .slice none 0 0, .slice none 0 0, .int .i64 0, .int .i64 0] 27)).heap.size = w.heap.size + 1 := by simp
  refine wp_world (fun W => Blk W w.heap.size 27 #[.int .i64 0, .string ⟨#[]⟩, .slice none 0 0, .slice none 0 0, .slice none 0 0, .int .i64 0, .int .i64 0] ∧ Below w.heap.size w W ∧ W.heap.size = w.heap.size + 1) ⟨hk0, hb0, hz0⟩ fun w0 h0 => ?_
  obtain ⟨hk0, hb0, hz0⟩ := h0
  have HK0 := Hd hk0
  have HB0 := Hd hb0
  clear hk0 hb0
  go_upto_region 2 with (go_at_call 27; refine (HRD.out _).mono ?_; rintro e w1 ⟨g, A, c, rfl, hb, hg, hra⟩; have HB1 := Hd hb; have HRA := Hd hra; have HGG := Hd hg; clear hb hg hra)
  have HK1 := Hd (HK0.out.below HB1.out HK0.out.lt)
  have HBW := Hd (HB0.out.trans (HB1.out.mono (by omega)))
  have hgw : w.heap.size < g := by have := HGG.out; omega
  have hk2l := HK1.out.lt
  clear HRD
  have b := HK1.out.lt
  have b0 := HK1.out.cell 0
  have b1 := HK1.out.cell 1
  have b2 := HK1.out.cell 2
  have b3 := HK1.out.cell 3
  have b4 := HK1.out.cell 4
  have b5 := HK1.out.cell 5
  have b6 := HK1.out.cell 6
  have fz := HK1.out.frozen
  go_wp2
  refine bodyPost_ret (ret26x rfl _ _ rfl (HK1.out.set7 (.int .i64 0) (.string ⟨#[]⟩) (.slice none 0 0) (.slice none 0 0) (.slice none 0 0) (.int .i64 0) (.int .i64 0))) rfl ?_
  exact TopP.put (w0 := w1) (Nat.le_refl _) hk2l HBW.out (TrM.zero _ _ _) pl er
theorem num_any (e : Int) (w : World) : Calls Tryz.prog 11 #[.int .i64 e] w fun r w' => r = .returned (.int .i64 e) ∧ Below w.heap.size w w' := by
 go_enter Tryz.func11, Tryz.ntmps11
 go_wp2
 go_ret
 exact ⟨rfl, Below.refl _ _⟩
theorem TopP.named {w W : World} {r : Ps.Tr × Nat × Nat} {e : Ending} (h : TopP w r e W) : ∃ (k : Nat) (n : Lx.Txt) (A : Option Addr) (x a : Nat) (B : Option Addr) (y b : Nat) (C : Option Addr) (z c p l : Nat), e = .returned (.tuple #[.agg #[.int .i64 (k : Int), .string ⟨n.toArray⟩, .slice A x a, .slice B y b, .slice C z c, .int .i64 (p : Int), .int .i64 (l : Int)], .int .i64 (r.2.1 : Int), .int .i64 (r.2.2 : Int)]) ∧ Below w.heap.size w W ∧ TrM W w.heap.size (fun _ => False) [.int .i64 (k : Int), .string ⟨n.toArray⟩, .slice A x a, .slice B y b, .slice C z c, .int .i64 (p : Int), .int .i64 (l : Int)] r.1 := by
 obtain ⟨cs, h1, h2, h3⟩ := h
 obtain ⟨k, n, A, x, a, B, y, b, C, z, c, p, l, rfl, -⟩ := TrIn.seven h3
 exact ⟨k, n, A, x, a, B, y, b, C, z, c, p, l, h1, h2, h3⟩
theorem TopP.named0 {w W : World} {t : Ps.Tr} {e : Ending} (h : TopP w (t, 0, 0) e W) : ∃ (k : Nat) (n : Lx.Txt) (A : Option Addr) (x a : Nat) (B : Option Addr) (y b : Nat) (C : Option Addr) (z c p l : Nat), e = .returned (.tuple #[.agg #[.int .i64 (k : Int), .string ⟨n.toArray⟩, .slice A x a, .slice B y b, .slice C z c, .int .i64 (p : Int), .int .i64 (l : Int)], .int .i64 0, .int .i64 0]) ∧ Below w.heap.size w W ∧ TrM W w.heap.size (fun _ => False) [.int .i64 (k : Int), .string ⟨n.toArray⟩, .slice A x a, .slice B y b, .slice C z c, .int .i64 (p : Int), .int .i64 (l : Int)] t := h.named
theorem aw_top : pTop Ps.awT (fun T fin f => Ps.meth T fin f) = Ps.awF := by
 unfold pTop
 rw [if_pos Ps.aw_lex]
 rfl
theorem aw_few : Ps.tempsOf Ps.awF.1 = [] ∧ Ps.primOf Ps.awF.1 = 0 ∧ Ps.rankS Ps.awF.1.name = 2 ∧ Ps.szB Ps.awF.1 = true ∧ Ps.fwL Ps.awF.1.nodes = true ∧ Ps.nnL Ps.awF.1.nodes = true := by decide +kernel
theorem aw_cells {w : World} {S : Nat → Prop} {x0 x1 x2 x3 x5 x6 : Value} {C : Option Addr} {z c : Nat} {t : Ps.Tr} (h : TpIn w S [x0, x1, x2, x3, .slice C z c, x5, x6] t) (h1 : t.nodes.length = 1) (hk : (t.nodes.headD Ps.Tr.zero).kind = 6) (h4 : (t.nodes.headD Ps.Tr.zero).nodes.length = 4) :
 ∃ b off D m, C = some ⟨b, off, none⟩ ∧ z = 1 ∧ S b ∧ b < w.heap.size ∧ w.cell? ⟨b, off, none⟩ = some (.int .i64 6) ∧ w.cell? ⟨b, off + 4, none⟩ = some (.slice D 4 m) := by
 cases h with
 | mk kind name names temps nodes prim place z' A1 c1 A2 c2 A3 c3 css r1 r2 hl r3 r4 r5 =>
  replace h1 : nodes.length = 1 := h1
  match nodes, h1, css, hl with
  | [q], _, [cq], _ =>
   have hq := r5 0 cq q rfl rfl
   obtain ⟨b, off, e, hSb, hbl, hcl⟩ := r3.2 (by simp)
   replace hk : q.kind = 6 := hk
   replace h4 : q.nodes.length = 4 := h4
   cases hq with
   | mk kk nm na te no pr pl zz B1 d1 B2 d2 B3 d3 cssx _ _ _ _ _ _ =>
    obtain rfl : kk = 6 := hk
    replace h4 : no.length = 4 := h4
    refine ⟨b, off, B3, d3, e, rfl, hSb, hbl, ?_, ?_⟩
    ·simpa using hcl 0 (.int .i64 ((6 : Nat) : Int)) rfl
    ·have := hcl 4 (.slice B3 no.length d3) rfl
     rw [h4] at this
     exact this
set_option maxRecDepth 20000 in
theorem awake_any (w : World) : Calls Tryz.prog 8 #[] w (YesB w) := by
 obtain ⟨f, hf⟩ : ∃ f, Ps.awF = f := ⟨_, rfl⟩
 have HPA : Hid (∀ W, Calls Tryz.prog 9 #[.string ⟨#[97, 116, 58, 32, 105, 32, 112, 117, 116, 58, 32, 118, 32, 97, 32, 102, 111, 111, 58, 32, 49, 32, 43, 32, 50, 32, 98, 97, 114, 59, 32, 98, 97, 122, 59, 32, 97, 116, 58, 32, 51]⟩] W (TopP W f)) := Hd fun W => by
  rw [← hf, ← aw_top]
  exact pparse_any Ps.awT W (by decide)
 have HPR : Hid (∀ (W : World) (S : Nat → Prop) (cs : List Value), TpIn W S cs f.1 → (∀ k, S k → k < W.heap.size) → Calls Tryz.prog 24 #[.agg cs.toArray] W (PrP W (Ps.awO, 0))) := Hd fun W S cs h hS => by
  rw [← hf] at h
  rw [← Ps.aw_print]
  exact wprint_any h hS Ps.aw_valid aw_few.1 aw_few.2.1 aw_few.2.2.1 aw_few.2.2.2.1 aw_few.2.2.2.2.1 aw_few.2.2.2.2.2
 have HN1 : Hid (f.1.nodes.length = 1 ∧ (f.1.nodes.headD Ps.Tr.zero).kind = 6 ∧ (f.1.nodes.headD Ps.Tr.zero).nodes.length = 4) := Hd (by rw [← hf]; exact Ps.aw_nodes)
 have e12 : f.2 = (0, 0) := by rw [← hf]; exact Ps.aw_ok
 have HNU := Hd fun (e : Int) (W : World) => num_any e W
 obtain ⟨ft, f1, f2⟩ := f
 injection e12 with e1 e2
 replace e1 : f1 = 0 := e1
 replace e2 : f2 = 0 := e2
 subst e1 e2
 clear hf
 go_enter Tryz.func8, Tryz.ntmps8
 go_upto_region 2 with (go_at_call 9; refine (HPA.out _).mono ?_; intro e w1 h; obtain ⟨xk, xn, xA, xx, xa, xB, xy, xb, xC, xz, xc, xp, xl, rfl, hb, ht⟩ := h.named0; have HB := Hd hb; have HT := Hd ht; clear h hb ht)
 refine wp_world (fun W => Blk W w1.heap.size 27 #[.int .i64 (xk : Int), .string ⟨xn.toArray⟩, .slice xA xx xa, .slice xB xy xb, .slice xC xz xc, .int .i64 (xp : Int), .int .i64 (xl : Int)] ∧ TrM W w.heap.size (fun _ => False) [.int .i64 (xk : Int), .string ⟨xn.toArray⟩, .slice xA xx xa, .slice xB xy xb, .slice xC xz xc, .int .i64 (xp : Int), .int .i64 (xl : Int)] ft ∧ Below w.heap.size w W) ⟨Blk.new _ _ _, TrM.below HT.out (new_below _ _), HB.out.trans ((new_below _ _).mono HB.out.size)⟩ fun w2 h2 => ?_
 have HK := Hd h2.1
 have HT2 := Hd h2.2.1
 have HW2 := Hd h2.2.2
 have hkl := h2.1.lt
 generalize w1.heap.size = kb at *
 obtain ⟨b, off, D, m, rfl, rfl, hSb, hbl, c0, c4⟩ := aw_cells (TrIn.tp HT2.out) HN1.out.1 HN1.out.2.1 HN1.out.2.2
 have HPR2 : Hid (Calls Tryz.prog 24 #[.agg #[.int .i64 (xk : Int), .string ⟨xn.toArray⟩, .slice xA xx xa, .slice xB xy xb, .slice (some ⟨b, off, none⟩) 1 xc, .int .i64 (xp : Int), .int .i64 (xl : Int)]] w2 fun e w' => e = .returned (.tuple #[.string ⟨#[97, 116, 58, 32, 105, 32, 112, 117, 116, 58, 32, 118, 10, 9, 97, 32, 102, 111, 111, 58, 32, 49, 32, 43, 32, 50, 32, 98, 97, 114, 59, 32, 98, 97, 122, 59, 32, 97, 116, 58, 32, 51, 10]⟩, .int .i64 0]) ∧ Below w2.heap.size w2 w') := Hd (HPR.out w2 _ _ (TrIn.tp HT2.out) (fun k hk => hk.2.1))
 have HCC : Hid (∀ w', Below w2.heap.size w2 w' → (kb < w'.heap.size ∧ w'.cell? ⟨kb, 4, none⟩ = some (.slice (some ⟨b, off, none⟩) 1 xc)) ∧ b < w'.heap.size ∧ w'.cell? ⟨b, off, none⟩ = some (.int .i64 6) ∧ w'.cell? ⟨b, off + 4, none⟩ = some (.slice D 4 m) ∧ Below w.heap.size w w') := Hd fun w' hb => ⟨⟨(HK.out.below hb hkl).lt, (HK.out.below hb hkl).cell 4⟩, Nat.lt_of_lt_of_le hbl hb.size, by rw [hb.cell (p := ⟨b, off, none⟩) hbl]; exact c0, by rw [hb.cell (p := ⟨b, off + 4, none⟩) hbl]; exact c4, HW2.out.trans (hb.mono HW2.out.size)⟩
 obtain ⟨a, b0, b1, b2, b3, b4, b5, b6⟩ := HK.out.c7
 clear h2 HB HT HT2 HPA HPR HN1 hSb c0 c4
 go_upto_region 3 with (go_at_call 24; refine HPR2.out.mono ?_; rintro e w3 ⟨rfl, hb⟩; have HB3 := Hd hb; clear hb)
 clear a b0 b1 b2 b3 b4 b5 b6 hkl hbl
 go_wp2_with (first
  | (go_at_call 11; refine (HNU.out _ w3).mono ?_; rintro e w4 ⟨rfl, hb⟩; have HB4 := Hd (HB3.out.trans (hb.mono HB3.out.size)); clear hb)
  | (go_at_call 11; refine (HNU.out _ w4).mono ?_; rintro e w5 ⟨rfl, hb⟩; have HB5 := Hd (HB4.out.trans (hb.mono HB4.out.size)); obtain ⟨⟨a0, a4⟩, bl, c0, c4, -⟩ := HCC.out _ HB5.out; clear hb))
 go_ret
 exact ⟨rfl, (HCC.out _ HB5.out).2.2.2.2⟩
end Go.Proofs.YtjhonaglmgmpiaaGreatDoor
