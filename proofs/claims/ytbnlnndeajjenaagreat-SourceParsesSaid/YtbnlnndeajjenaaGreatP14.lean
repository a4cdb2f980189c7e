/-
  Parts PxI, PxJ, PxL of the proof. No statement of the seat is proved here.
-/
import Derived.Test.YtbnlnndeajjenaaGreatP13
set_option maxHeartbeats 4000000
namespace Go.Proofs.YtbnlnndeajjenaaGreat
open Go.RowKit
theorem ret26b {fn : Func} {p u1 : Tmp} (h : fn.results = #[.cell p 26, .tmp u1]) (tmps : Array Value) (w : World) {k : Nat} {x0 x1 x2 x3 x4 x5 x6 : Value} (hp : tmps.getD p undef = .pointer (some ⟨k, 0, none⟩)) (hb : Blk w k 26 #[x0, x1, x2, x3, x4, x5, x6]) :
  (results fn tmps).run Tryz.prog w = .ok (.tuple #[.agg #[x0, x1, x2, x3, x4, x5, x6], tmps.getD u1 undef]) w := by
 have hp' : tmps[p]?.getD undef = .pointer (some ⟨k, 0, none⟩) := by simpa using hp
 simp [results, h, hp', asAddr, run_loadVar_row w k 26 26 _ (0, 0) _ hb Tryz.underlying26 rfl (by kernel_rfl)]
def SimP (w : World) (g : Nat) (A : Option Addr) (c : Nat) (T : List Lx.Tk) (fin : Nat) (r : Option Ps.Tr × Ps.PS) (e : Ending) (w' : World) : Prop := ∃ cs, e = .returned (.tuple #[.agg cs.toArray, .bool r.1.isSome]) ∧ PP w g A c T fin r.2 w' ∧ Bd T r.2 ∧ TrM w' w.heap.size (fun _ => False) cs (r.1.getD Ps.Tr.zero)
set_option maxRecDepth 20000 in
theorem psimp_any {w : World} {g c fin : Nat} {A : Option Addr} {T : List Lx.Tk} {s : Ps.PS} (hT : Ps.Fits 65536 T) (h : PA w g A c T fin s) (hb : Bd T s) : Calls Tryz.prog 76 #[.pointer (some ⟨g, 0, none⟩)] w (SimP w g A c T fin (Ps.simple T fin s)) := by
 have hTl := hT.len
 have hs := hb.at_
 have E0 := (Env.start h).box 26 [.int .i64 0, .string ⟨#[]⟩, .slice none 0 0, .slice none 0 0, .slice none 0 0, .int .i64 0, .int .i64 0] (by decide)
 have HN := Hd (pnext_any E0.pa)
 obtain ⟨t, ht⟩ : ∃ t, Ps.nx T fin s = t := ⟨_, rfl⟩
 rw [ht] at HN
 have HB := Hd hb
 clear h hb
 go_enter Tryz.func76, Tryz.ntmps76
 go_upto_region 2 with (go_at_call 11; refine HN.out.mono ?_; rintro e w1 ⟨rfl, hb1⟩; have E1 := E0.below hb1; clear hb1)
 refine wp_env (E1.box 40 [_, _, _] (by decide)) fun w2 E2 => ?_
 clear E0 E1 HN
 obtain ⟨a, a0, a1, a2⟩ := E2.c3 0 rfl
 have hg := E2.pa.lt
 by_cases h4 : t.1 = 4
 ·have d4 : ((t.1 : Int) == 4) = true := by rw [h4]; rfl
  have HE : Hid (Ps.simple T fin s = (some (Ps.nd 9 t.2.1 [] t.2.2), Ps.adv s)) := Hd (by unfold Ps.simple; rw [ht]; simp [h4])
  have hlt : s.at_ < T.length := Ps.nx_lt (fin := fin) (by rw [ht, h4]; decide)
  have HBD := Hd (HB.out.adv hlt)
  have HT := Hd ht
  clear h4 ht
  go_wp2_with (go_at_call 12; refine (ptake_any E2.pa (by omega)).mono ?_; rw [HT.out]; rintro e w3 ⟨rfl, hp⟩; have E3 := E2.call hp; clear hp; obtain ⟨b, b0, b1, b2, b3, b4, b5, b6⟩ := E3.c7 1 rfl; have f1 := E3.fz 1 rfl; obtain ⟨a, a0, a1, a2⟩ := E3.c3 0 rfl)
  have E4 := E3.put7 1 rfl (.int .i64 9) (.string ⟨t.2.1.toArray⟩) (.slice none 0 0) (.slice none 0 0) (.slice none 0 0) (.int .i64 0) (.int .i64 (t.2.2 : Int))
  refine bodyPost_ret (ret26b rfl _ _ rfl (E4.blk 1 rfl)) rfl ?_
  rw [HE.out]
  exact ⟨_, rfl, E4.pp, HBD.out, TrM.leaf _ _ _ 9 t.2.1 t.2.2⟩
 have d4 : ((t.1 : Int) == 4) = false := natInt (by omega)
 by_cases h5 : t.1 = 5
 ·have d5 : ((t.1 : Int) == 5) = true := by rw [h5]; rfl
  have HE : Hid (Ps.simple T fin s = (some (Ps.nd 10 t.2.1 [] t.2.2), Ps.adv s)) := Hd (by unfold Ps.simple; rw [ht]; simp [h5])
  have hlt : s.at_ < T.length := Ps.nx_lt (fin := fin) (by rw [ht, h5]; decide)
  have HBD := Hd (HB.out.adv hlt)
  have HT := Hd ht
  clear h5 ht
  go_wp2_with (go_at_call 12; refine (ptake_any E2.pa (by omega)).mono ?_; rw [HT.out]; rintro e w3 ⟨rfl, hp⟩; have E3 := E2.call hp; clear hp; obtain ⟨b, b0, b1, b2, b3, b4, b5, b6⟩ := E3.c7 1 rfl; have f1 := E3.fz 1 rfl; obtain ⟨a, a0, a1, a2⟩ := E3.c3 0 rfl)
  have E4 := E3.put7 1 rfl (.int .i64 10) (.string ⟨t.2.1.toArray⟩) (.slice none 0 0) (.slice none 0 0) (.slice none 0 0) (.int .i64 0) (.int .i64 (t.2.2 : Int))
  refine bodyPost_ret (ret26b rfl _ _ rfl (E4.blk 1 rfl)) rfl ?_
  rw [HE.out]
  exact ⟨_, rfl, E4.pp, HBD.out, TrM.leaf _ _ _ 10 t.2.1 t.2.2⟩
 have d5 : ((t.1 : Int) == 5) = false := natInt (by omega)
 by_cases h6 : t.1 = 6
 ·have d6 : ((t.1 : Int) == 6) = true := by rw [h6]; rfl
  have HE : Hid (Ps.simple T fin s = (some (Ps.nd 11 t.2.1 [] t.2.2), Ps.adv s)) := Hd (by unfold Ps.simple; rw [ht]; simp [h6])
  have hlt : s.at_ < T.length := Ps.nx_lt (fin := fin) (by rw [ht, h6]; decide)
  have HBD := Hd (HB.out.adv hlt)
  have HT := Hd ht
  clear h6 ht
  go_wp2_with (go_at_call 12; refine (ptake_any E2.pa (by omega)).mono ?_; rw [HT.out]; rintro e w3 ⟨rfl, hp⟩; have E3 := E2.call hp; clear hp; obtain ⟨b, b0, b1, b2, b3, b4, b5, b6⟩ := E3.c7 1 rfl; have f1 := E3.fz 1 rfl; obtain ⟨a, a0, a1, a2⟩ := E3.c3 0 rfl)
  have E4 := E3.put7 1 rfl (.int .i64 11) (.string ⟨t.2.1.toArray⟩) (.slice none 0 0) (.slice none 0 0) (.slice none 0 0) (.int .i64 0) (.int .i64 (t.2.2 : Int))
  refine bodyPost_ret (ret26b rfl _ _ rfl (E4.blk 1 rfl)) rfl ?_
  rw [HE.out]
  exact ⟨_, rfl, E4.pp, HBD.out, TrM.leaf _ _ _ 11 t.2.1 t.2.2⟩
 have d6 : ((t.1 : Int) == 6) = false := natInt (by omega)
 have HU : Hid (Ps.simple T fin s = if t.1 == 3 && t.2.1 == [45] && decide (s.at_ + 1 < T.length) then (if (T.getD (s.at_ + 1) (0, [], fin)).1 == 4 && (T.getD (s.at_ + 1) (0, [], fin)).2.2 == t.2.2 + 1 then (some (Ps.nd 9 (if (T.getD (s.at_ + 1) (0, [], fin)).2.1 == [48] then [48] else 45 :: (T.getD (s.at_ + 1) (0, [], fin)).2.1) [] t.2.2), Ps.adv (Ps.adv s)) else (none, s)) else (none, s)) := Hd (by unfold Ps.simple; rw [ht]; simp [h4, h5, h6])
 clear h4 h5 h6
 by_cases h3 : t.1 = 3
 ·have d3 : ((t.1 : Int) == 3) = true := by rw [h3]; rfl
  by_cases h45 : t.2.1 = [45]
  ·have dt : (t.2.1 == [45]) = true := by rw [h45]; rfl
   obtain ⟨k0, k1, k2, k3⟩ := E2.pa.cells
   by_cases hl : s.at_ + 1 < T.length
   ·have HQ : Hid (Ps.simple T fin s = if (T.getD (s.at_ + 1) (0, [], fin)).1 == 4 && (T.getD (s.at_ + 1) (0, [], fin)).2.2 == t.2.2 + 1 then (some (Ps.nd 9 (if (T.getD (s.at_ + 1) (0, [], fin)).2.1 == [48] then [48] else 45 :: (T.getD (s.at_ + 1) (0, [], fin)).2.1) [] t.2.2), Ps.adv (Ps.adv s)) else (none, s)) := Hd (by rw [HU.out, if_pos (by rw [h3, h45]; simp [hl])])
    have hnt := hT.txt (T.getD (s.at_ + 1) (0, [], fin)) (by rw [List.getD_eq_getElem?_getD, List.getElem?_eq_getElem hl]; exact List.getElem_mem hl)
    obtain ⟨bb, off, rfl, hbg, hbw, t0, t1, t2⟩ := E2.pa.tok hl
    generalize T.getD (s.at_ + 1) (0, [], fin) = n at *
    obtain ⟨j, hj⟩ : ∃ j, s.at_ + 1 = j := ⟨_, rfl⟩
    have hji : (s.at_ : Int) + 1 = (j : Int) := by omega
    have hwr : IntKind.i64.wrap (j : Int) = (j : Int) := by rw [IntKind.wrap_i64]; omega
    rw [hj] at t0 t1 t2 hl
    clear hj
    have hpl := (hT.place t (by rw [← ht]; exact Ps.nx_mem (by omega)))
    have HBD := Hd ((HB.out.adv (by omega)).adv (s := Ps.adv s) (by show s.at_ + 1 < T.length; omega))
    clear h3 h45 ht
    go_upto_region 13 with fail
    go_quiet (fail)
    go_upto_region 14 with fail
    refine wp_env2 (E2.drewN nq) (fun W => W.cell? ⟨bb, off + j * 3, none⟩ = some (.int .i64 (n.1 : Int)) ∧ W.cell? ⟨bb, off + j * 3 + 1, none⟩ = some (.string ⟨n.2.1.toArray⟩) ∧ W.cell? ⟨bb, off + j * 3 + 2, none⟩ = some (.int .i64 (n.2.2 : Int)) ∧ bb < W.heap.size) ⟨t0, t1, t2, hbw⟩ fun w3 E3 hx3 => ?_
    clear k0 k1 k2 k3 t0 t1 t2 hbw E2 a a0 a1 a2 hg
    obtain ⟨t0, t1, t2, hbw⟩ := hx3
    obtain ⟨k0, k1, k2, k3⟩ := E3.pa.cells
    have hg := E3.pa.lt
    have l1 : (0 : Int) ≤ (j : Int) := by omega
    have l2 : (j : Int) < (T.length : Int) := by omega
    have n1 : w3.heap.size ≠ g := by omega
    have n2 : w3.heap.size ≠ bb := by omega
    go_region_held3 (fun W => W.cell? ⟨g, 0, none⟩ = some (.slice (some ⟨bb, off, none⟩) T.length c) ∧ W.cell? ⟨g, 1, none⟩ = some (.int .i64 (s.at_ : Int)) ∧ W.cell? ⟨bb, off + j * 3, none⟩ = some (.int .i64 (n.1 : Int)) ∧ W.cell? ⟨bb, off + j * 3 + 1, none⟩ = some (.string ⟨n.2.1.toArray⟩) ∧ W.cell? ⟨bb, off + j * 3 + 2, none⟩ = some (.int .i64 (n.2.2 : Int))) (first | go_keep) ((first | fail))
    go_upto_region 15 with fail
    refine wp_env ((E3.box 40 [.int .i64 (n.1 : Int), .string ⟨n.2.1.toArray⟩, .int .i64 (n.2.2 : Int)] (by decide)).drew) fun w4 E4 => ?_
    clear t0 t1 t2 hbw k0 k1 k2 k3 hg n1 n2 E3 hji hwr
    obtain ⟨a, a0, a1, a2⟩ := E4.c3 1 rfl
    obtain ⟨c, c0, c1, c2⟩ := E4.c3 0 rfl
    obtain ⟨k0, k1, k2, k3⟩ := E4.pa.cells
    have kf := E4.pa.frz 1
    have hg := E4.pa.lt
    by_cases h4n : n.1 = 4
    ·have dn : ((n.1 : Int) == 4) = true := by rw [h4n]; rfl
     by_cases hpn : n.2.2 = t.2.2 + 1
     ·have dp : ((n.2.2 : Int) == (t.2.2 : Int) + 1) = true := by rw [hpn]; simp
      have HQ2 : Hid (Ps.simple T fin s = (some (Ps.nd 9 (if n.2.1 == [48] then [48] else 45 :: n.2.1) [] t.2.2), Ps.adv (Ps.adv s))) := Hd (by rw [HQ.out, if_pos (by rw [h4n, hpn]; simp)])
      clear h4n hpn
      go_upto_region 17 with fail
      refine wp_env (s := Ps.adv (Ps.adv s)) (E4.setAt (s.at_ + 2) _ (by first | rfl | omega)) fun w5 E5 => ?_
      clear a a0 a1 a2 c0 c1 c2 k0 k1 k2 k3 kf hg E4
      obtain ⟨a, a0, a1, a2⟩ := E5.c3 1 rfl
      obtain ⟨c', c0, c1, c2⟩ := E5.c3 0 rfl
      obtain ⟨b, b0, b1, b2, b3, b4, b5, b6⟩ := E5.c7 2 rfl
      have f1 := E5.fz 2 rfl
      have hcat : ¬ (9223372036854775807 < 1 + n.2.1.length) := by omega
      have hstr := str_app [45] n.2.1
      by_cases h48 : n.2.1 = [48]
      ·have d48 : (n.2.1 == [48]) = true := by rw [h48]; rfl
       have HE : Hid (Ps.simple T fin s = (some (Ps.nd 9 [48] [] t.2.2), Ps.adv (Ps.adv s))) := Hd (by rw [HQ2.out, d48]; rfl)
       clear h48
       go_wp2
       have E6 := E5.put7 2 rfl (.int .i64 9) (.string ⟨([48] : Lx.Txt).toArray⟩) (.slice none 0 0) (.slice none 0 0) (.slice none 0 0) (.int .i64 0) (.int .i64 (t.2.2 : Int))
       refine bodyPost_ret (ret26b rfl _ _ rfl (E6.blk 2 rfl)) rfl ?_
       rw [HE.out]
       exact ⟨_, rfl, E6.pp, HBD.out, TrM.leaf _ _ _ 9 [48] t.2.2⟩
      ·have d48 : (n.2.1 == [48]) = false := by simpa using h48
       have HE : Hid (Ps.simple T fin s = (some (Ps.nd 9 (45 :: n.2.1) [] t.2.2), Ps.adv (Ps.adv s))) := Hd (by rw [HQ2.out, d48]; rfl)
       clear h48
       go_wp2
       have E6 := E5.put7 2 rfl (.int .i64 9) (.string ⟨(45 :: n.2.1).toArray⟩) (.slice none 0 0) (.slice none 0 0) (.slice none 0 0) (.int .i64 0) (.int .i64 (t.2.2 : Int))
       refine bodyPost_ret (ret26b rfl _ _ rfl (E6.blk 2 rfl)) rfl ?_
       rw [HE.out]
       exact ⟨_, rfl, E6.pp, HBD.out, TrM.leaf _ _ _ 9 (45 :: n.2.1) t.2.2⟩
     ·have dp : ((n.2.2 : Int) == (t.2.2 : Int) + 1) = false := by simpa using (by omega : ¬ (n.2.2 : Int) = (t.2.2 : Int) + 1)
      have HE : Hid (Ps.simple T fin s = (none, s)) := Hd (by rw [HQ.out, if_neg (by simp [hpn])])
      clear h4n hpn
      obtain ⟨b, b0, b1, b2, b3, b4, b5, b6⟩ := E4.c7 2 rfl
      have f1 := E4.fz 2 rfl
      go_wp2
      have E6 := E4.put7 2 rfl (.int .i64 0) (.string ⟨#[]⟩) (.slice none 0 0) (.slice none 0 0) (.slice none 0 0) (.int .i64 0) (.int .i64 0)
      refine bodyPost_ret (ret26b rfl _ _ rfl (E6.blk 2 rfl)) rfl ?_
      rw [HE.out]
      exact ⟨_, rfl, E6.pp, HB.out, TrM.zero _ _ _⟩
    ·have dn : ((n.1 : Int) == 4) = false := natInt (by omega)
     have HE : Hid (Ps.simple T fin s = (none, s)) := Hd (by rw [HQ.out, if_neg (by simp [h4n])])
     clear h4n
     obtain ⟨b, b0, b1, b2, b3, b4, b5, b6⟩ := E4.c7 2 rfl
     have f1 := E4.fz 2 rfl
     go_wp2
     have E6 := E4.put7 2 rfl (.int .i64 0) (.string ⟨#[]⟩) (.slice none 0 0) (.slice none 0 0) (.slice none 0 0) (.int .i64 0) (.int .i64 0)
     refine bodyPost_ret (ret26b rfl _ _ rfl (E6.blk 2 rfl)) rfl ?_
     rw [HE.out]
     exact ⟨_, rfl, E6.pp, HB.out, TrM.zero _ _ _⟩
   ·have HE : Hid (Ps.simple T fin s = (none, s)) := Hd (by rw [HU.out, if_neg (by simp [hl])])
    clear h3 h45 ht
    go_upto_region 13 with fail
    go_quiet (fail)
    go_upto_region 21 with fail
    refine wp_env (E2.drewN nq) fun w3 E3 => ?_
    clear a a0 a1 a2 hg k0 k1 k2 k3 E2
    obtain ⟨b, b0, b1, b2, b3, b4, b5, b6⟩ := E3.c7 1 rfl
    have f1 := E3.fz 1 rfl
    go_wp2
    have E6 := E3.put7 1 rfl (.int .i64 0) (.string ⟨#[]⟩) (.slice none 0 0) (.slice none 0 0) (.slice none 0 0) (.int .i64 0) (.int .i64 0)
    refine bodyPost_ret (ret26b rfl _ _ rfl (E6.blk 1 rfl)) rfl ?_
    rw [HE.out]
    exact ⟨_, rfl, E6.pp, HB.out, TrM.zero _ _ _⟩
  ·have HE : Hid (Ps.simple T fin s = (none, s)) := Hd (by rw [HU.out, if_neg (by simp [h45])])
   have dt : (t.2.1 == [45]) = false := by simpa using h45
   clear h3 h45 ht
   go_upto_region 13 with fail
   go_quiet (fail)
   go_upto_region 21 with fail
   refine wp_env (E2.drewN nq) fun w3 E3 => ?_
   clear a a0 a1 a2 hg E2
   obtain ⟨b, b0, b1, b2, b3, b4, b5, b6⟩ := E3.c7 1 rfl
   have f1 := E3.fz 1 rfl
   go_wp2
   have E6 := E3.put7 1 rfl (.int .i64 0) (.string ⟨#[]⟩) (.slice none 0 0) (.slice none 0 0) (.slice none 0 0) (.int .i64 0) (.int .i64 0)
   refine bodyPost_ret (ret26b rfl _ _ rfl (E6.blk 1 rfl)) rfl ?_
   rw [HE.out]
   exact ⟨_, rfl, E6.pp, HB.out, TrM.zero _ _ _⟩
 ·have d3 : ((t.1 : Int) == 3) = false := natInt (by omega)
  have HE : Hid (Ps.simple T fin s = (none, s)) := Hd (by rw [HU.out, if_neg (by simp [h3])])
  clear h3 ht
  obtain ⟨b, b0, b1, b2, b3, b4, b5, b6⟩ := E2.c7 1 rfl
  have f1 := E2.fz 1 rfl
  go_wp2
  have E4 := E2.put7 1 rfl (.int .i64 0) (.string ⟨#[]⟩) (.slice none 0 0) (.slice none 0 0) (.slice none 0 0) (.int .i64 0) (.int .i64 0)
  refine bodyPost_ret (ret26b rfl _ _ rfl (E4.blk 1 rfl)) rfl ?_
  rw [HE.out]
  exact ⟨_, rfl, E4.pp, HB.out, TrM.zero _ _ _⟩
theorem simple_st {T : List Lx.Tk} {fin : Nat} {s : Ps.PS} (h : (Ps.simple T fin s).1 = none) : (Ps.simple T fin s).2 = s := by
 revert h
 unfold Ps.simple
 dsimp only
 repeat' split
 all_goals first | (intro h; rfl) | (intro h; cases h)
theorem bin_kind {t : Lx.Tk} (h : Ps.binS t = true) : t.1 ≠ 0 := by
 intro e
 unfold Ps.binS Ps.isM at h
 rw [e] at h
 simp at h
theorem tr_ret {wr : World} {k base b' : Nat} {cs : List Value} {tr : Ps.Tr} (h : TrM wr base (fun _ => False) cs tr) (hk : k < base) {w' : World} (hc : Chg (· = k) wr w') (hl : b' ≤ base) : TrM w' b' (fun _ => False) cs tr :=
 TrM.low (h.chg hc fun j hj _ _ e => by omega) hl
set_option maxRecDepth 20000 in
theorem plit_any {g c fin F : Nat} {A : Option Addr} {T : List Lx.Tk} (hT : Ps.Fits 65536 T) (ih : ∀ f, f < F → WAll g A c T fin f) (s : Ps.PS) (w : World) (h : PA w g A c T fin s) (hb : Bd T s) (hk : Ps.ok s = true) (hf : Ps.rem T s + 5 ≤ F) :
  Calls Tryz.prog 93 #[.pointer (some ⟨g, 0, none⟩)] w (NdP w g A c T fin w.heap.size (Ps.lit T fin F s)) := by
 have hTl := hT.len
 have hs := hb.at_
 have E0 := (Env.start h).box 26 [.int .i64 0, .string ⟨#[]⟩, .slice none 0 0, .slice none 0 0, .slice none 0 0, .int .i64 0, .int .i64 0] (by decide)
 obtain ⟨F', rfl⟩ : ∃ F', F = F' + 1 := ⟨F - 1, by omega⟩
 obtain ⟨t, ht⟩ : ∃ t, Ps.nx T fin s = t := ⟨_, rfl⟩
 obtain ⟨q, hq⟩ : ∃ q, Ps.simple T fin s = q := ⟨_, rfl⟩
 obtain ⟨R, hR⟩ : ∃ R, Ps.lit T fin (F' + 1) s = R := ⟨_, rfl⟩
 rw [hR]
 have HN := Hd (pnext_any E0.pa)
 rw [ht] at HN
 have HSI := Hd fun (W : World) (h : PA W g A c T fin s) => psimp_any hT h hb
 rw [hq] at HSI
 have HB := Hd hb
 have HK := Hd hk
 have IH := Hd ih
 have HT := Hd ht
 clear h hb hk ih
 go_enter Tryz.func93, Tryz.ntmps93
 go_upto_region 2 with (go_at_call 11; refine HN.out.mono ?_; rintro e w1 ⟨rfl, hb1⟩; have E1 := E0.below hb1; clear hb1)
 refine wp_env (E1.box 40 [_, _, _] (by decide)) fun w2 E2 => ?_
 clear E0 E1 HN
 go_upto_region 3 with (go_at_call 76; refine (HSI.out _ E2.pa).mono ?_; rintro e w3 ⟨cs3, rfl, hp3, hb3, ht3⟩; have E3 := E2.call hp3; have HB3 := Hd hb3; have HT3 := Hd ht3; obtain ⟨p0, p1, C1, o1, e1, C2, o2, e2, C3, o3, e3, p5, p6, rfl⟩ := ht3.form; clear hp3 hb3 ht3)
 have hlr := (E2.blk 1 rfl).lt
 have hlo := E2.size
 refine wp_env2 (E3.box 26 [_, _, _, _, _, _, _] (by decide)) (fun W => TrM W w2.heap.size (fun _ => False) _ (q.1.getD Ps.Tr.zero)) (HT3.out.below (new_below _ _)) fun w4 E4 ht4 => ?_
 have HT4 := Hd ht4
 clear ht4 HT3 E3 E2
 obtain ⟨b, b0, b1, b2, b3, b4, b5, b6⟩ := E4.c7 2 rfl
 have f1 := E4.fz 2 rfl
 obtain ⟨y, y0, y1, y2, y3, y4, y5, y6⟩ := E4.c7 0 rfl
 obtain ⟨q1, q2⟩ := q
 cases q1 with
 | some n =>
  have HE : Hid (R = (n, q2)) := Hd (by rw [← hR, Ps.lit, hq])
  clear hR hq
  dsimp only [Option.isSome] at *
  go_wp2
  have E9 := E4.put7 2 rfl (.int .i64 (p0 : Int)) (.string ⟨p1.toArray⟩) (.slice C1 o1 e1) (.slice C2 o2 e2) (.slice C3 o3 e3) (.int .i64 (p5 : Int)) (.int .i64 (p6 : Int))
  refine bodyPost_ret (ret26 rfl _ _ rfl (E9.blk 2 rfl)) rfl ?_
  rw [HE.out]
  exact ⟨_, rfl, E9.pp, HB3.out, tr_ret HT4.out hlr (chg_set7 _ _ _ _ _ _ _ _ _) hlo⟩
 | none =>
  have hq2 : s = q2 := by
   have := simple_st (T := T) (fin := fin) (s := s) (by rw [hq])
   rw [hq] at this
   exact this.symm
  subst hq2
  have HU : Hid (R = if (t.1 == 1 && (t.2.1 == [116, 114, 117, 101] || t.2.1 == [102, 97, 108, 115, 101] || t.2.1 == [110, 105, 108])) = true then (Ps.nd 8 t.2.1 [] t.2.2, Ps.adv s) else if (t.1 == 1 || t.1 == 2 || Ps.binS t) = true then (Ps.nd 11 t.2.1 [] t.2.2, Ps.adv s) else if (Ps.isM t [35, 40] || Ps.isM t [40]) = true then Ps.arr T fin F' s else if Ps.isM t [35, 91] = true then Ps.bytes T fin s else (Ps.Tr.zero, Ps.odd T fin s)) := Hd (by rw [← hR, Ps.lit, hq, ht])
  have HBI := Hd fun w => pbin_any t w
  have HM1 := Hd fun w => pmark_any t [35, 40] w
  have HM2 := Hd fun w => pmark_any t [40] w
  have HM3 := Hd fun w => pmark_any t [35, 91] w
  clear hR hq HSI HB3 HT4 y y0 y1 y2 y3 y4 y5 y6
  dsimp only [Option.isSome] at *
  have E3 := E4
  clear E4
  obtain ⟨a, a0, a1, a2⟩ := E3.c3 1 rfl
  go_upto_region 5 with fail
  by_cases k1 : t.1 = 1
  ·have d1 : ((t.1 : Int) == 1) = true := by rw [k1]; rfl
   by_cases e1 : t.2.1 = [116, 114, 117, 101]
   ·have x1 : (t.2.1 == [116, 114, 117, 101]) = true := by rw [e1]; rfl
    have HE : Hid (R = (Ps.nd 8 t.2.1 [] t.2.2, Ps.adv s)) := Hd (by rw [HU.out]; rw [if_pos (by rw [k1, x1]; rfl)])
    have hlt : s.at_ < T.length := Ps.nx_lt (fin := fin) (by rw [HT.out]; rw [k1]; decide)
    have HBD := Hd (HB.out.adv hlt)
    clear k1 ht b b0 b1 b2 b3 b4 b5 b6 f1 e1
    go_wp2_with (first | (go_at_call 12; refine (ptake_any E3.pa (by omega)).mono ?_; rw [HT.out]; rintro e w4 ⟨rfl, hp⟩; have E4 := E3.call hp; clear hp; obtain ⟨b, b0, b1, b2, b3, b4, b5, b6⟩ := E4.c7 2 rfl; have f1 := E4.fz 2 rfl; obtain ⟨a, a0, a1, a2⟩ := E4.c3 1 rfl))
    have E9 := E4.put7 2 rfl (.int .i64 8) (.string ⟨(t.2.1).toArray⟩) (.slice none 0 0) (.slice none 0 0) (.slice none 0 0) (.int .i64 0) (.int .i64 (t.2.2 : Int))
    refine bodyPost_ret (ret26 rfl _ _ rfl (E9.blk 2 rfl)) rfl ?_
    rw [HE.out]
    exact ⟨_, rfl, E9.pp, HBD.out, TrM.leaf _ _ _ 8 (t.2.1) t.2.2⟩
   ·have x1 : (t.2.1 == [116, 114, 117, 101]) = false := by simpa using e1
    by_cases e2 : t.2.1 = [102, 97, 108, 115, 101]
    ·have x2 : (t.2.1 == [102, 97, 108, 115, 101]) = true := by rw [e2]; rfl
     have HE : Hid (R = (Ps.nd 8 t.2.1 [] t.2.2, Ps.adv s)) := Hd (by rw [HU.out]; rw [if_pos (by rw [k1, x1, x2]; rfl)])
     have hlt : s.at_ < T.length := Ps.nx_lt (fin := fin) (by rw [HT.out]; rw [k1]; decide)
     have HBD := Hd (HB.out.adv hlt)
     clear k1 ht b b0 b1 b2 b3 b4 b5 b6 f1 e1 e2
     go_wp2_with (first | (go_at_call 12; refine (ptake_any E3.pa (by omega)).mono ?_; rw [HT.out]; rintro e w4 ⟨rfl, hp⟩; have E4 := E3.call hp; clear hp; obtain ⟨b, b0, b1, b2, b3, b4, b5, b6⟩ := E4.c7 2 rfl; have f1 := E4.fz 2 rfl; obtain ⟨a, a0, a1, a2⟩ := E4.c3 1 rfl))
     have E9 := E4.put7 2 rfl (.int .i64 8) (.string ⟨(t.2.1).toArray⟩) (.slice none 0 0) (.slice none 0 0) (.slice none 0 0) (.int .i64 0) (.int .i64 (t.2.2 : Int))
     refine bodyPost_ret (ret26 rfl _ _ rfl (E9.blk 2 rfl)) rfl ?_
     rw [HE.out]
     exact ⟨_, rfl, E9.pp, HBD.out, TrM.leaf _ _ _ 8 (t.2.1) t.2.2⟩
    ·have x2 : (t.2.1 == [102, 97, 108, 115, 101]) = false := by simpa using e2
     by_cases e3 : t.2.1 = [110, 105, 108]
     ·have x3 : (t.2.1 == [110, 105, 108]) = true := by rw [e3]; rfl
      have HE : Hid (R = (Ps.nd 8 t.2.1 [] t.2.2, Ps.adv s)) := Hd (by rw [HU.out]; rw [if_pos (by rw [k1, x1, x2, x3]; rfl)])
      have hlt : s.at_ < T.length := Ps.nx_lt (fin := fin) (by rw [HT.out]; rw [k1]; decide)
      have HBD := Hd (HB.out.adv hlt)
      clear k1 ht b b0 b1 b2 b3 b4 b5 b6 f1 e1 e2 e3
      go_wp2_with (first | (go_at_call 12; refine (ptake_any E3.pa (by omega)).mono ?_; rw [HT.out]; rintro e w4 ⟨rfl, hp⟩; have E4 := E3.call hp; clear hp; obtain ⟨b, b0, b1, b2, b3, b4, b5, b6⟩ := E4.c7 2 rfl; have f1 := E4.fz 2 rfl; obtain ⟨a, a0, a1, a2⟩ := E4.c3 1 rfl))
      have E9 := E4.put7 2 rfl (.int .i64 8) (.string ⟨(t.2.1).toArray⟩) (.slice none 0 0) (.slice none 0 0) (.slice none 0 0) (.int .i64 0) (.int .i64 (t.2.2 : Int))
      refine bodyPost_ret (ret26 rfl _ _ rfl (E9.blk 2 rfl)) rfl ?_
      rw [HE.out]
      exact ⟨_, rfl, E9.pp, HBD.out, TrM.leaf _ _ _ 8 (t.2.1) t.2.2⟩
     ·have x3 : (t.2.1 == [110, 105, 108]) = false := by simpa using e3
      have HE : Hid (R = (Ps.nd 11 t.2.1 [] t.2.2, Ps.adv s)) := Hd (by rw [HU.out]; rw [if_neg (by rw [k1, x1, x2, x3]; decide), if_pos (by rw [k1]; rfl)])
      have hlt : s.at_ < T.length := Ps.nx_lt (fin := fin) (by rw [HT.out]; rw [k1]; decide)
      have HBD := Hd (HB.out.adv hlt)
      clear k1 ht b b0 b1 b2 b3 b4 b5 b6 f1 e1 e2 e3
      go_wp2_with (first | (go_at_call 12; refine (ptake_any E3.pa (by omega)).mono ?_; rw [HT.out]; rintro e w4 ⟨rfl, hp⟩; have E4 := E3.call hp; clear hp; obtain ⟨b, b0, b1, b2, b3, b4, b5, b6⟩ := E4.c7 2 rfl; have f1 := E4.fz 2 rfl; obtain ⟨a, a0, a1, a2⟩ := E4.c3 1 rfl))
      have E9 := E4.put7 2 rfl (.int .i64 11) (.string ⟨(t.2.1).toArray⟩) (.slice none 0 0) (.slice none 0 0) (.slice none 0 0) (.int .i64 0) (.int .i64 (t.2.2 : Int))
      refine bodyPost_ret (ret26 rfl _ _ rfl (E9.blk 2 rfl)) rfl ?_
      rw [HE.out]
      exact ⟨_, rfl, E9.pp, HBD.out, TrM.leaf _ _ _ 11 (t.2.1) t.2.2⟩
  ·have d1 : ((t.1 : Int) == 1) = false := natInt (by omega)
   have f0 : (t.1 == 1) = false := by simpa using k1
   by_cases k2 : t.1 = 2
   ·have d2 : ((t.1 : Int) == 2) = true := by rw [k2]; rfl
    have HE : Hid (R = (Ps.nd 11 t.2.1 [] t.2.2, Ps.adv s)) := Hd (by rw [HU.out]; rw [if_neg (by rw [f0]; simp), if_pos (by rw [k2]; rfl)])
    have hlt : s.at_ < T.length := Ps.nx_lt (fin := fin) (by rw [HT.out]; rw [k2]; decide)
    have HBD := Hd (HB.out.adv hlt)
    clear k1 ht b b0 b1 b2 b3 b4 b5 b6 f1 k2
    go_wp2_with (first | (go_at_call 12; refine (ptake_any E3.pa (by omega)).mono ?_; rw [HT.out]; rintro e w4 ⟨rfl, hp⟩; have E4 := E3.call hp; clear hp; obtain ⟨b, b0, b1, b2, b3, b4, b5, b6⟩ := E4.c7 2 rfl; have f1 := E4.fz 2 rfl; obtain ⟨a, a0, a1, a2⟩ := E4.c3 1 rfl))
    have E9 := E4.put7 2 rfl (.int .i64 11) (.string ⟨(t.2.1).toArray⟩) (.slice none 0 0) (.slice none 0 0) (.slice none 0 0) (.int .i64 0) (.int .i64 (t.2.2 : Int))
    refine bodyPost_ret (ret26 rfl _ _ rfl (E9.blk 2 rfl)) rfl ?_
    rw [HE.out]
    exact ⟨_, rfl, E9.pp, HBD.out, TrM.leaf _ _ _ 11 (t.2.1) t.2.2⟩
   ·have d2 : ((t.1 : Int) == 2) = false := natInt (by omega)
    have g0 : (t.1 == 2) = false := by simpa using k2
    cases hbi : Ps.binS t with
    | true =>
     rw [hbi] at HBI
     have hnz : t.1 ≠ 0 := bin_kind hbi
     have HE : Hid (R = (Ps.nd 11 t.2.1 [] t.2.2, Ps.adv s)) := Hd (by rw [HU.out]; rw [if_neg (by rw [f0]; simp), if_pos (by rw [hbi]; simp)])
     have hlt : s.at_ < T.length := Ps.nx_lt (fin := fin) (by rw [HT.out]; exact hnz)
     have HBD := Hd (HB.out.adv hlt)
     clear k1 ht b b0 b1 b2 b3 b4 b5 b6 f1 k2 hbi hnz
     go_wp2_with (first | (go_at_call 13; refine (HBI.out _).mono ?_; rintro e w3b ⟨rfl, hb⟩; have E3b := E3.below hb; clear hb E3; have E3 := E3b; clear E3b; obtain ⟨a, a0, a1, a2⟩ := E3.c3 1 rfl) | (go_at_call 12; refine (ptake_any E3.pa (by omega)).mono ?_; rw [HT.out]; rintro e w4 ⟨rfl, hp⟩; have E4 := E3.call hp; clear hp; obtain ⟨b, b0, b1, b2, b3, b4, b5, b6⟩ := E4.c7 2 rfl; have f1 := E4.fz 2 rfl; obtain ⟨a, a0, a1, a2⟩ := E4.c3 1 rfl))
     have E9 := E4.put7 2 rfl (.int .i64 11) (.string ⟨(t.2.1).toArray⟩) (.slice none 0 0) (.slice none 0 0) (.slice none 0 0) (.int .i64 0) (.int .i64 (t.2.2 : Int))
     refine bodyPost_ret (ret26 rfl _ _ rfl (E9.blk 2 rfl)) rfl ?_
     rw [HE.out]
     exact ⟨_, rfl, E9.pp, HBD.out, TrM.leaf _ _ _ 11 (t.2.1) t.2.2⟩
    | false =>
     rw [hbi] at HBI
     cases m1 : Ps.isM t [35, 40] with
     | true =>
      rw [m1] at HM1
      have hlt : s.at_ < T.length := Ps.mark_lt (fin := fin) (x := [35, 40]) (by unfold Ps.is_; rw [ht]; exact m1)
      have HE : Hid (R = Ps.arr T fin F' s) := Hd (by rw [HU.out, if_neg (by rw [f0]; simp), if_neg (by rw [f0, g0, hbi]; decide), if_pos (by rw [m1]; rfl)])
      clear k1 k2 ht b b0 b1 b2 b3 b4 b5 b6 f1 hbi m1
      go_wp2_with (first
       | (go_at_call 13; refine (HBI.out _).mono ?_; rintro e w3b ⟨rfl, hb⟩; have E3b := E3.below hb; clear hb E3; have E3 := E3b; clear E3b; obtain ⟨a, a0, a1, a2⟩ := E3.c3 1 rfl)
       | (go_at_call 29; (with_reducible refine (HM1.out _).mono ?_); rintro e w3b ⟨rfl, hb⟩; have E3b := E3.below hb; clear hb E3; have E3 := E3b; clear E3b; obtain ⟨a, a0, a1, a2⟩ := E3.c3 1 rfl)
       | (go_at_call 77; refine ((IH.out F' (by omega)).arr s _ E3.pa HB.out HK.out hlt (by omega)).mono ?_; rintro e w5 ⟨cs5, rfl, hp5, hb5, ht5⟩; have hkl := (E3.blk 2 rfl).lt; have hko := E3.size; have E5 := E3.call hp5; have HT5 := Hd ht5; have HB5 := Hd hb5; obtain ⟨p0, p1, C1, o1, e1, C2, o2, e2, C3, o3, e3, p5, p6, rfl⟩ := ht5.form; obtain ⟨b, b0, b1, b2, b3, b4, b5, b6⟩ := E5.c7 2 rfl; have f1 := E5.fz 2 rfl; clear hp5 hb5 ht5))
      have E9 := E5.put7 2 rfl (.int .i64 (p0 : Int)) (.string ⟨p1.toArray⟩) (.slice C1 o1 e1) (.slice C2 o2 e2) (.slice C3 o3 e3) (.int .i64 (p5 : Int)) (.int .i64 (p6 : Int))
      refine bodyPost_ret (ret26 rfl _ _ rfl (E9.blk 2 rfl)) rfl ?_
      rw [HE.out]
      exact ⟨_, rfl, E9.pp, HB5.out, tr_ret HT5.out hkl (chg_set7 _ _ _ _ _ _ _ _ _) hko⟩
     | false =>
      rw [m1] at HM1
      cases m2 : Ps.isM t [40] with
      | true =>
       rw [m2] at HM2
       have hlt : s.at_ < T.length := Ps.mark_lt (fin := fin) (x := [40]) (by unfold Ps.is_; rw [ht]; exact m2)
       have HE : Hid (R = Ps.arr T fin F' s) := Hd (by rw [HU.out, if_neg (by rw [f0]; simp), if_neg (by rw [f0, g0, hbi]; decide), if_pos (by rw [m1, m2]; rfl)])
       clear k1 k2 ht b b0 b1 b2 b3 b4 b5 b6 f1 hbi m1 m2
       go_wp2_with (first
        | (go_at_call 13; refine (HBI.out _).mono ?_; rintro e w3b ⟨rfl, hb⟩; have E3b := E3.below hb; clear hb E3; have E3 := E3b; clear E3b; obtain ⟨a, a0, a1, a2⟩ := E3.c3 1 rfl)
        | (go_at_call 29; (with_reducible refine (HM1.out _).mono ?_); rintro e w3b ⟨rfl, hb⟩; have E3b := E3.below hb; clear hb E3; have E3 := E3b; clear E3b; obtain ⟨a, a0, a1, a2⟩ := E3.c3 1 rfl)
        | (go_at_call 29; (with_reducible refine (HM2.out _).mono ?_); rintro e w3b ⟨rfl, hb⟩; have E3b := E3.below hb; clear hb E3; have E3 := E3b; clear E3b; obtain ⟨a, a0, a1, a2⟩ := E3.c3 1 rfl)
        | (go_at_call 77; refine ((IH.out F' (by omega)).arr s _ E3.pa HB.out HK.out hlt (by omega)).mono ?_; rintro e w5 ⟨cs5, rfl, hp5, hb5, ht5⟩; have hkl := (E3.blk 2 rfl).lt; have hko := E3.size; have E5 := E3.call hp5; have HT5 := Hd ht5; have HB5 := Hd hb5; obtain ⟨p0, p1, C1, o1, e1, C2, o2, e2, C3, o3, e3, p5, p6, rfl⟩ := ht5.form; obtain ⟨b, b0, b1, b2, b3, b4, b5, b6⟩ := E5.c7 2 rfl; have f1 := E5.fz 2 rfl; clear hp5 hb5 ht5))
       have E9 := E5.put7 2 rfl (.int .i64 (p0 : Int)) (.string ⟨p1.toArray⟩) (.slice C1 o1 e1) (.slice C2 o2 e2) (.slice C3 o3 e3) (.int .i64 (p5 : Int)) (.int .i64 (p6 : Int))
       refine bodyPost_ret (ret26 rfl _ _ rfl (E9.blk 2 rfl)) rfl ?_
       rw [HE.out]
       exact ⟨_, rfl, E9.pp, HB5.out, tr_ret HT5.out hkl (chg_set7 _ _ _ _ _ _ _ _ _) hko⟩
      | false =>
       rw [m2] at HM2
       cases m3 : Ps.isM t [35, 91] with
       | true =>
        rw [m3] at HM3
        have hlt : s.at_ < T.length := Ps.mark_lt (fin := fin) (x := [35, 91]) (by unfold Ps.is_; rw [ht]; exact m3)
        have HE : Hid (R = Ps.bytes T fin s) := Hd (by rw [HU.out, if_neg (by rw [f0]; simp), if_neg (by rw [f0, g0, hbi]; decide), if_neg (by rw [m1, m2]; decide), if_pos m3])
        clear k1 k2 ht b b0 b1 b2 b3 b4 b5 b6 f1 hbi m1 m2 m3
        go_wp2_with (first
         | (go_at_call 13; refine (HBI.out _).mono ?_; rintro e w3b ⟨rfl, hb⟩; have E3b := E3.below hb; clear hb E3; have E3 := E3b; clear E3b; obtain ⟨a, a0, a1, a2⟩ := E3.c3 1 rfl)
         | (go_at_call 29; (with_reducible refine (HM1.out _).mono ?_); rintro e w3b ⟨rfl, hb⟩; have E3b := E3.below hb; clear hb E3; have E3 := E3b; clear E3b; obtain ⟨a, a0, a1, a2⟩ := E3.c3 1 rfl)
         | (go_at_call 29; (with_reducible refine (HM2.out _).mono ?_); rintro e w3b ⟨rfl, hb⟩; have E3b := E3.below hb; clear hb E3; have E3 := E3b; clear E3b; obtain ⟨a, a0, a1, a2⟩ := E3.c3 1 rfl)
         | (go_at_call 29; (with_reducible refine (HM3.out _).mono ?_); rintro e w3b ⟨rfl, hb⟩; have E3b := E3.below hb; clear hb E3; have E3 := E3b; clear E3b; obtain ⟨a, a0, a1, a2⟩ := E3.c3 1 rfl)
         | (go_at_call 78; refine (pbyt_any hT s _ E3.pa HB.out HK.out hlt).mono ?_; rintro e w5 ⟨cs5, rfl, hp5, hb5, ht5⟩; have hkl := (E3.blk 2 rfl).lt; have hko := E3.size; have E5 := E3.call hp5; have HT5 := Hd ht5; have HB5 := Hd hb5; obtain ⟨p0, p1, C1, o1, e1, C2, o2, e2, C3, o3, e3, p5, p6, rfl⟩ := ht5.form; obtain ⟨b, b0, b1, b2, b3, b4, b5, b6⟩ := E5.c7 2 rfl; have f1 := E5.fz 2 rfl; clear hp5 hb5 ht5))
        have E9 := E5.put7 2 rfl (.int .i64 (p0 : Int)) (.string ⟨p1.toArray⟩) (.slice C1 o1 e1) (.slice C2 o2 e2) (.slice C3 o3 e3) (.int .i64 (p5 : Int)) (.int .i64 (p6 : Int))
        refine bodyPost_ret (ret26 rfl _ _ rfl (E9.blk 2 rfl)) rfl ?_
        rw [HE.out]
        exact ⟨_, rfl, E9.pp, HB5.out, tr_ret HT5.out hkl (chg_set7 _ _ _ _ _ _ _ _ _) hko⟩
       | false =>
        rw [m3] at HM3
        have HE : Hid (R = (Ps.Tr.zero, Ps.odd T fin s)) := Hd (by rw [HU.out, if_neg (by rw [f0]; simp), if_neg (by rw [f0, g0, hbi]; decide), if_neg (by rw [m1, m2]; decide), if_neg (by rw [m3]; decide)])
        have HBO := Hd (HB.out.rf (t.2.2) 124)
        have HOD : Hid (Ps.odd T fin s = Ps.rf s t.2.2 124) := Hd (by unfold Ps.odd; rw [ht])
        clear k1 k2 ht b b0 b1 b2 b3 b4 b5 b6 f1 hbi m1 m2 m3
        go_wp2_with (first
         | (go_at_call 13; refine (HBI.out _).mono ?_; rintro e w3b ⟨rfl, hb⟩; have E3b := E3.below hb; clear hb E3; have E3 := E3b; clear E3b; obtain ⟨a, a0, a1, a2⟩ := E3.c3 1 rfl)
         | (go_at_call 29; (with_reducible refine (HM1.out _).mono ?_); rintro e w3b ⟨rfl, hb⟩; have E3b := E3.below hb; clear hb E3; have E3 := E3b; clear E3b; obtain ⟨a, a0, a1, a2⟩ := E3.c3 1 rfl)
         | (go_at_call 29; (with_reducible refine (HM2.out _).mono ?_); rintro e w3b ⟨rfl, hb⟩; have E3b := E3.below hb; clear hb E3; have E3 := E3b; clear E3b; obtain ⟨a, a0, a1, a2⟩ := E3.c3 1 rfl)
         | (go_at_call 29; (with_reducible refine (HM3.out _).mono ?_); rintro e w3b ⟨rfl, hb⟩; have E3b := E3.below hb; clear hb E3; have E3 := E3b; clear E3b; obtain ⟨a, a0, a1, a2⟩ := E3.c3 1 rfl)
         | (go_at_call 15; refine (podd_any E3.pa).mono ?_; rintro e w5 ⟨rfl, hp5⟩; have E5 := E3.call hp5; obtain ⟨b, b0, b1, b2, b3, b4, b5, b6⟩ := E5.c7 2 rfl; have f1 := E5.fz 2 rfl; clear hp5))
        have E9 := E5.put7 2 rfl (.int .i64 0) (.string ⟨#[]⟩) (.slice none 0 0) (.slice none 0 0) (.slice none 0 0) (.int .i64 0) (.int .i64 0)
        refine bodyPost_ret (ret26 rfl _ _ rfl (E9.blk 2 rfl)) rfl ?_
        rw [HE.out]
        exact ⟨_, rfl, E9.pp, by rw [HOD.out]; exact HBO.out, TrM.zero _ _ _⟩
set_option maxRecDepth 20000 in
theorem pprim_any {g c fin F : Nat} {A : Option Addr} {T : List Lx.Tk} (hT : Ps.Fits 65536 T) (ih : ∀ f, f < F → WAll g A c T fin f) (s : Ps.PS) (w : World) (h : PA w g A c T fin s) (hb : Bd T s) (hf : Ps.rem T s + 5 ≤ F) :
  Calls Tryz.prog 48 #[.pointer (some ⟨g, 0, none⟩)] w (NdP w g A c T fin w.heap.size (Ps.prim T fin F s)) := by
 have hTl := hT.len
 have hs := hb.at_
 have E0 := (Env.start h).box 26 [.int .i64 0, .string ⟨#[]⟩, .slice none 0 0, .slice none 0 0, .slice none 0 0, .int .i64 0, .int .i64 0] (by decide)
 obtain ⟨F', rfl⟩ : ∃ F', F = F' + 1 := ⟨F - 1, by omega⟩
 obtain ⟨t, ht⟩ : ∃ t, Ps.nx T fin s = t := ⟨_, rfl⟩
 obtain ⟨R, hR⟩ : ∃ R, Ps.prim T fin (F' + 1) s = R := ⟨_, rfl⟩
 rw [hR]
 have HN := Hd (pnext_any E0.pa)
 rw [ht] at HN
 have HB := Hd hb
 have IH := Hd ih
 have HT := Hd ht
 clear h hb ih
 go_enter Tryz.func48, Tryz.ntmps48
 go_upto_region 2 with (go_at_call 11; refine HN.out.mono ?_; rintro e w1 ⟨rfl, hb1⟩; have E1 := E0.below hb1; clear hb1)
 refine wp_env (E1.box 40 [_, _, _] (by decide)) fun w2 E2 => ?_
 clear E0 E1 HN
 have hg := E2.pa.lt
 cases hk : Ps.ok s with
 | false =>
  have HE : Hid (R = (Ps.Tr.zero, s)) := Hd (by rw [← hR, Ps.prim, if_pos (by rw [hk]; rfl)])
  obtain ⟨kq, k4⟩ := E2.pa.noc hk
  obtain ⟨b, b0, b1, b2, b3, b4, b5, b6⟩ := E2.c7 1 rfl
  have f1 := E2.fz 1 rfl
  clear hk hR ht
  go_wp2
  have E9 := E2.put7 1 rfl (.int .i64 0) (.string ⟨#[]⟩) (.slice none 0 0) (.slice none 0 0) (.slice none 0 0) (.int .i64 0) (.int .i64 0)
  refine bodyPost_ret (ret26 rfl _ _ rfl (E9.blk 1 rfl)) rfl ?_
  rw [HE.out]
  exact ⟨_, rfl, E9.pp, HB.out, TrM.zero _ _ _⟩
 | true =>
 have kq4 := E2.pa.okc hk
 have HK := Hd hk
 obtain ⟨q, hq⟩ : ∃ q, Ps.simple T fin s = q := ⟨_, rfl⟩
 have HSI := Hd fun (W : World) (h : PA W g A c T fin s) => psimp_any hT h HB.out
 rw [hq] at HSI
 clear hk
 go_upto_region 5 with (go_at_call 76; refine (HSI.out _ E2.pa).mono ?_; rintro e w3 ⟨cs3, rfl, hp3, hb3, ht3⟩; have E3 := E2.call hp3; have HB3 := Hd hb3; have HT3 := Hd ht3; obtain ⟨p0, p1, C1, o1, e1, C2, o2, e2, C3, o3, e3, p5, p6, rfl⟩ := ht3.form; clear hp3 hb3 ht3)
 have hlr := (E2.blk 1 rfl).lt
 have hlo := E2.size
 refine wp_env2 (E3.box 26 [_, _, _, _, _, _, _] (by decide)) (fun W => TrM W w2.heap.size (fun _ => False) _ (q.1.getD Ps.Tr.zero)) (HT3.out.below (new_below _ _)) fun w4 E4 ht4 => ?_
 have HT4 := Hd ht4
 clear ht4 HT3 E3 E2 hg kq4
 obtain ⟨b, b0, b1, b2, b3, b4, b5, b6⟩ := E4.c7 2 rfl
 have f1 := E4.fz 2 rfl
 obtain ⟨y, y0, y1, y2, y3, y4, y5, y6⟩ := E4.c7 0 rfl
 obtain ⟨q1, q2⟩ := q
 cases q1 with
 | some n =>
  have HE : Hid (R = (n, q2)) := Hd (by rw [← hR, Ps.prim, if_neg (by rw [HK.out]; decide), hq])
  clear hR hq
  dsimp only [Option.isSome] at *
  go_wp2
  have E9 := E4.put7 2 rfl (.int .i64 (p0 : Int)) (.string ⟨p1.toArray⟩) (.slice C1 o1 e1) (.slice C2 o2 e2) (.slice C3 o3 e3) (.int .i64 (p5 : Int)) (.int .i64 (p6 : Int))
  refine bodyPost_ret (ret26 rfl _ _ rfl (E9.blk 2 rfl)) rfl ?_
  rw [HE.out]
  exact ⟨_, rfl, E9.pp, HB3.out, tr_ret HT4.out hlr (chg_set7 _ _ _ _ _ _ _ _ _) hlo⟩
 | none =>
  have hq2 : s = q2 := by
   have := simple_st (T := T) (fin := fin) (s := s) (by rw [hq])
   rw [hq] at this
   exact this.symm
  subst hq2
  have HU : Hid (R = if (t.1 == 1) = true then (Ps.nd 8 t.2.1 [] t.2.2, Ps.adv s) else if Ps.isM t [35, 40] = true then Ps.arr T fin F' s else if Ps.isM t [35, 91] = true then Ps.bytes T fin s else if Ps.isM t [40] = true then ((Ps.expr T fin F' (Ps.opn T fin s)).1, Ps.shut T fin [41] (Ps.expr T fin F' (Ps.opn T fin s)).2) else if Ps.isM t [123] = true then (Ps.nd 14 [] (Ps.braL T fin F' [] (Ps.opn T fin s)).1 t.2.2, Ps.shut T fin [125] (Ps.braL T fin F' [] (Ps.opn T fin s)).2) else if Ps.isM t [91] = true then Ps.blk T fin F' s else (Ps.Tr.zero, Ps.odd T fin s)) := Hd (by rw [← hR, Ps.prim, if_neg (by rw [HK.out]; decide), hq, ht])
  have HM1 := Hd fun w => pmark_any t [35, 40] w
  have HM2 := Hd fun w => pmark_any t [35, 91] w
  have HM3 := Hd fun w => pmark_any t [40] w
  have HM4 := Hd fun w => pmark_any t [123] w
  have HM5 := Hd fun w => pmark_any t [91] w
  clear hR hq HSI HB3 HT4 y y0 y1 y2 y3 y4 y5 y6
  dsimp only [Option.isSome] at *
  have E3 := E4
  clear E4
  obtain ⟨a, a0, a1, a2⟩ := E3.c3 1 rfl
  go_upto_region 7 with fail
  by_cases k1 : t.1 = 1
  ·have d1 : ((t.1 : Int) == 1) = true := by rw [k1]; rfl
   have HE : Hid (R = (Ps.nd 8 t.2.1 [] t.2.2, Ps.adv s)) := Hd (by rw [HU.out, if_pos (by rw [k1]; rfl)])
   have hlt : s.at_ < T.length := Ps.nx_lt (fin := fin) (by rw [HT.out, k1]; decide)
   have HBD := Hd (HB.out.adv hlt)
   clear k1 ht b b0 b1 b2 b3 b4 b5 b6 f1
   go_wp2_with (go_at_call 12; refine (ptake_any E3.pa (by omega)).mono ?_; rw [HT.out]; rintro e w4 ⟨rfl, hp⟩; have E4 := E3.call hp; clear hp; obtain ⟨b, b0, b1, b2, b3, b4, b5, b6⟩ := E4.c7 2 rfl; have f1 := E4.fz 2 rfl; obtain ⟨a, a0, a1, a2⟩ := E4.c3 1 rfl)
   have E9 := E4.put7 2 rfl (.int .i64 8) (.string ⟨(t.2.1).toArray⟩) (.slice none 0 0) (.slice none 0 0) (.slice none 0 0) (.int .i64 0) (.int .i64 (t.2.2 : Int))
   refine bodyPost_ret (ret26 rfl _ _ rfl (E9.blk 2 rfl)) rfl ?_
   rw [HE.out]
   exact ⟨_, rfl, E9.pp, HBD.out, TrM.leaf _ _ _ 8 (t.2.1) t.2.2⟩
  have d1 : ((t.1 : Int) == 1) = false := natInt (by omega)
  have f0 : (t.1 == 1) = false := by simpa using k1
  cases m1 : Ps.isM t [35, 40] with
  | true =>
   rw [m1] at HM1
   have hlt : s.at_ < T.length := Ps.mark_lt (fin := fin) (x := [35, 40]) (by unfold Ps.is_; rw [ht]; exact m1)
   have HE : Hid (R = Ps.arr T fin F' s) := Hd (by rw [HU.out, if_neg (by rw [f0]; decide), if_pos m1])
   clear k1 ht b b0 b1 b2 b3 b4 b5 b6 f1 m1
   go_wp2_with (first
    | (go_at_call 29; (with_reducible refine (HM1.out _).mono ?_); rintro e w3b ⟨rfl, hb⟩; have E3b := E3.below hb; clear hb E3; have E3 := E3b; clear E3b; obtain ⟨a, a0, a1, a2⟩ := E3.c3 1 rfl)
    | (go_at_call 77; refine ((IH.out F' (by omega)).arr s _ E3.pa HB.out HK.out hlt (by omega)).mono ?_; rintro e w5 ⟨cs5, rfl, hp5, hb5, ht5⟩; have hkl := (E3.blk 2 rfl).lt; have hko := E3.size; have E5 := E3.call hp5; have HT5 := Hd ht5; have HB5 := Hd hb5; obtain ⟨p0, p1, C1, o1, e1, C2, o2, e2, C3, o3, e3, p5, p6, rfl⟩ := ht5.form; obtain ⟨b, b0, b1, b2, b3, b4, b5, b6⟩ := E5.c7 2 rfl; have f1 := E5.fz 2 rfl; clear hp5 hb5 ht5))
   have E9 := E5.put7 2 rfl (.int .i64 (p0 : Int)) (.string ⟨p1.toArray⟩) (.slice C1 o1 e1) (.slice C2 o2 e2) (.slice C3 o3 e3) (.int .i64 (p5 : Int)) (.int .i64 (p6 : Int))
   refine bodyPost_ret (ret26 rfl _ _ rfl (E9.blk 2 rfl)) rfl ?_
   rw [HE.out]
   exact ⟨_, rfl, E9.pp, HB5.out, tr_ret HT5.out hkl (chg_set7 _ _ _ _ _ _ _ _ _) hko⟩
  | false =>
  rw [m1] at HM1
  cases m2 : Ps.isM t [35, 91] with
  | true =>
   rw [m2] at HM2
   have hlt : s.at_ < T.length := Ps.mark_lt (fin := fin) (x := [35, 91]) (by unfold Ps.is_; rw [ht]; exact m2)
   have HE : Hid (R = Ps.bytes T fin s) := Hd (by rw [HU.out, if_neg (by rw [f0]; decide), if_neg (by rw [m1]; decide), if_pos m2])
   clear k1 ht b b0 b1 b2 b3 b4 b5 b6 f1 m1 m2
   go_wp2_with (first
    | (go_at_call 29; (with_reducible refine (HM1.out _).mono ?_); rintro e w3b ⟨rfl, hb⟩; have E3b := E3.below hb; clear hb E3; have E3 := E3b; clear E3b; obtain ⟨a, a0, a1, a2⟩ := E3.c3 1 rfl)
    | (go_at_call 29; (with_reducible refine (HM2.out _).mono ?_); rintro e w3b ⟨rfl, hb⟩; have E3b := E3.below hb; clear hb E3; have E3 := E3b; clear E3b; obtain ⟨a, a0, a1, a2⟩ := E3.c3 1 rfl)
    | (go_at_call 78; refine (pbyt_any hT s _ E3.pa HB.out HK.out hlt).mono ?_; rintro e w5 ⟨cs5, rfl, hp5, hb5, ht5⟩; have hkl := (E3.blk 2 rfl).lt; have hko := E3.size; have E5 := E3.call hp5; have HT5 := Hd ht5; have HB5 := Hd hb5; obtain ⟨p0, p1, C1, o1, e1, C2, o2, e2, C3, o3, e3, p5, p6, rfl⟩ := ht5.form; obtain ⟨b, b0, b1, b2, b3, b4, b5, b6⟩ := E5.c7 2 rfl; have f1 := E5.fz 2 rfl; clear hp5 hb5 ht5))
   have E9 := E5.put7 2 rfl (.int .i64 (p0 : Int)) (.string ⟨p1.toArray⟩) (.slice C1 o1 e1) (.slice C2 o2 e2) (.slice C3 o3 e3) (.int .i64 (p5 : Int)) (.int .i64 (p6 : Int))
   refine bodyPost_ret (ret26 rfl _ _ rfl (E9.blk 2 rfl)) rfl ?_
   rw [HE.out]
   exact ⟨_, rfl, E9.pp, HB5.out, tr_ret HT5.out hkl (chg_set7 _ _ _ _ _ _ _ _ _) hko⟩
  | false =>
  rw [m2] at HM2
  cases m3 : Ps.isM t [40] with
  | true =>
   rw [m3] at HM3
   have hlt : s.at_ < T.length := Ps.mark_lt (fin := fin) (x := [40]) (by unfold Ps.is_; rw [ht]; exact m3)
   obtain ⟨so, hso⟩ : ∃ x, Ps.opn T fin s = x := ⟨_, rfl⟩
   obtain ⟨pe, hpe⟩ : ∃ x, Ps.expr T fin F' so = x := ⟨_, rfl⟩
   have HE : Hid (R = (pe.1, Ps.shut T fin [41] pe.2)) := Hd (by rw [HU.out, if_neg (by rw [f0]; decide), if_neg (by rw [m1]; decide), if_neg (by rw [m2]; decide), if_pos m3, hso, hpe])
   have hra := Ps.rem_adv (T := T) (s := s) (s' := so) (by rw [← hso, Ps.opn_at]; omega) hlt
   have HBO := Hd (Bd.opn (fin := fin) HB.out HK.out hlt)
   have HOP := Hd fun (W : World) (h : PA W g A c T fin s) => popen_any h (by omega) (HB.out.deep hTl HK.out)
   have HEX := Hd fun (W : World) (h : PA W g A c T fin so) (hb : Bd T so) => (IH.out F' (by omega)).expr so W h hb (by omega)
   rw [hso] at HBO HOP
   rw [hpe] at HEX
   clear hso hpe
   clear k1 ht b b0 b1 b2 b3 b4 b5 b6 f1 m1 m2 m3
   go_upto_region 17 with (first
    | (go_at_call 29; (with_reducible refine (HM1.out _).mono ?_); rintro e w3b ⟨rfl, hb⟩; have E3b := E3.below hb; clear hb E3; have E3 := E3b; clear E3b; obtain ⟨a, a0, a1, a2⟩ := E3.c3 1 rfl)
    | (go_at_call 29; (with_reducible refine (HM2.out _).mono ?_); rintro e w3b ⟨rfl, hb⟩; have E3b := E3.below hb; clear hb E3; have E3 := E3b; clear E3b; obtain ⟨a, a0, a1, a2⟩ := E3.c3 1 rfl)
    | (go_at_call 29; (with_reducible refine (HM3.out _).mono ?_); rintro e w3b ⟨rfl, hb⟩; have E3b := E3.below hb; clear hb E3; have E3 := E3b; clear E3b; obtain ⟨a, a0, a1, a2⟩ := E3.c3 1 rfl)
    | (go_at_call 79; refine (HOP.out _ E3.pa).mono ?_; rintro e w4 ⟨rfl, hp⟩; have E4 := E3.call hp; clear hp)
    | (go_at_call 35; refine (HEX.out _ E4.pa HBO.out).mono ?_; rintro e w5 ⟨cs5, rfl, hp5, hb5, ht5⟩; have hkl := (E4.blk 2 rfl).lt; have hko := E4.size; have E5 := E4.call hp5; have HT5 := Hd ht5; have HB5 := Hd hb5; obtain ⟨p0, p1, C1, o1, e1, C2, o2, e2, C3, o3, e3, p5, p6, rfl⟩ := ht5.form; clear hp5 hb5 ht5))
   refine wp_env2 (E5.box 26 [_, _, _, _, _, _, _] (by decide)) (fun W => TrM W w4.heap.size (fun _ => False) _ pe.1) (HT5.out.below (new_below _ _)) fun w6 E6 ht6 => ?_
   have HT6 := Hd ht6
   clear ht6 HT5 E5 E4 E3 a a0 a1 a2
   have hg6 := E6.pa.lt
   cases hk6 : Ps.ok pe.2 with
   | false =>
    have HE2 : Hid (R = (pe.1, pe.2)) := Hd (by rw [HE.out, shut_no hk6])
    obtain ⟨kq, k4⟩ := E6.pa.noc hk6
    obtain ⟨b, b0, b1, b2, b3, b4, b5, b6⟩ := E6.c7 3 rfl
    have f1 := E6.fz 3 rfl
    obtain ⟨y, y0, y1, y2, y3, y4, y5, y6⟩ := E6.c7 0 rfl
    clear hk6
    go_wp2
    have E9 := E6.put7 3 rfl (.int .i64 (p0 : Int)) (.string ⟨p1.toArray⟩) (.slice C1 o1 e1) (.slice C2 o2 e2) (.slice C3 o3 e3) (.int .i64 (p5 : Int)) (.int .i64 (p6 : Int))
    refine bodyPost_ret (ret26 rfl _ _ rfl (E9.blk 3 rfl)) rfl ?_
    rw [HE2.out]
    exact ⟨_, rfl, E9.pp, HB5.out, tr_ret HT6.out hkl (chg_set7 _ _ _ _ _ _ _ _ _) hko⟩
   | true =>
    have HE2 : Hid (R = (pe.1, Ps.cls_ T fin [41] pe.2)) := Hd (by rw [HE.out, shut_ok hk6])
    have k4 := E6.pa.okc hk6
    have HCL := Hd fun (W : World) (h : PA W g A c T fin pe.2) => pclose_any h (HB5.out.lt hTl) (HB5.out.deep hTl hk6) [41]
    have HBC := Hd (HB5.out.cls (fin := fin) hk6 [41])
    clear hk6
    go_upto_region 19 with (go_at_call 80; refine (HCL.out _ E6.pa).mono ?_; rintro e w7 ⟨rfl, hp⟩; have E7 := E6.call hp; have HT7 := Hd (HT6.out.chg hp.1 (fun k hk _ _ e => by have := E6.gl; omega)); clear hp)
    obtain ⟨b, b0, b1, b2, b3, b4, b5, b6⟩ := E7.c7 3 rfl
    have f1 := E7.fz 3 rfl
    obtain ⟨y, y0, y1, y2, y3, y4, y5, y6⟩ := E7.c7 0 rfl
    go_wp2
    have E9 := E7.put7 3 rfl (.int .i64 (p0 : Int)) (.string ⟨p1.toArray⟩) (.slice C1 o1 e1) (.slice C2 o2 e2) (.slice C3 o3 e3) (.int .i64 (p5 : Int)) (.int .i64 (p6 : Int))
    refine bodyPost_ret (ret26 rfl _ _ rfl (E9.blk 3 rfl)) rfl ?_
    rw [HE2.out]
    exact ⟨_, rfl, E9.pp, HBC.out, tr_ret HT7.out hkl (chg_set7 _ _ _ _ _ _ _ _ _) hko⟩
  | false =>
  rw [m3] at HM3
  cases m4 : Ps.isM t [123] with
  | true =>
   rw [m4] at HM4
   have hlt : s.at_ < T.length := Ps.mark_lt (fin := fin) (x := [123]) (by unfold Ps.is_; rw [ht]; exact m4)
   have HE : Hid (R = (Ps.nd 14 [] (Ps.braL T fin F' [] (Ps.opn T fin s)).1 t.2.2, Ps.shut T fin [125] (Ps.braL T fin F' [] (Ps.opn T fin s)).2)) := Hd (by rw [HU.out, if_neg (by rw [f0]; decide), if_neg (by rw [m1]; decide), if_neg (by rw [m2]; decide), if_neg (by rw [m3]; decide), if_pos m4])
   have HBR := Hd fun (W : World) (h : PA W g A c T fin s) => (IH.out F' (by omega)).bra s W h HB.out HK.out hlt (by omega)
   rw [ht] at HBR
   clear k1 ht b b0 b1 b2 b3 b4 b5 b6 f1 m1 m2 m3 m4
   go_wp2_with (first
    | (go_at_call 29; (with_reducible refine (HM1.out _).mono ?_); rintro e w3b ⟨rfl, hb⟩; have E3b := E3.below hb; clear hb E3; have E3 := E3b; clear E3b; obtain ⟨a, a0, a1, a2⟩ := E3.c3 1 rfl)
    | (go_at_call 29; (with_reducible refine (HM2.out _).mono ?_); rintro e w3b ⟨rfl, hb⟩; have E3b := E3.below hb; clear hb E3; have E3 := E3b; clear E3b; obtain ⟨a, a0, a1, a2⟩ := E3.c3 1 rfl)
    | (go_at_call 29; (with_reducible refine (HM3.out _).mono ?_); rintro e w3b ⟨rfl, hb⟩; have E3b := E3.below hb; clear hb E3; have E3 := E3b; clear E3b; obtain ⟨a, a0, a1, a2⟩ := E3.c3 1 rfl)
    | (go_at_call 29; (with_reducible refine (HM4.out _).mono ?_); rintro e w3b ⟨rfl, hb⟩; have E3b := E3.below hb; clear hb E3; have E3 := E3b; clear E3b; obtain ⟨a, a0, a1, a2⟩ := E3.c3 1 rfl)
    | (go_at_call 81; refine (HBR.out _ E3.pa).mono ?_; rintro e w5 ⟨cs5, rfl, hp5, hb5, ht5⟩; have hkl := (E3.blk 2 rfl).lt; have hko := E3.size; have E5 := E3.call hp5; have HT5 := Hd ht5; have HB5 := Hd hb5; obtain ⟨p0, p1, C1, o1, e1, C2, o2, e2, C3, o3, e3, p5, p6, rfl⟩ := ht5.form; obtain ⟨b, b0, b1, b2, b3, b4, b5, b6⟩ := E5.c7 2 rfl; have f1 := E5.fz 2 rfl; clear hp5 hb5 ht5))
   have E9 := E5.put7 2 rfl (.int .i64 (p0 : Int)) (.string ⟨p1.toArray⟩) (.slice C1 o1 e1) (.slice C2 o2 e2) (.slice C3 o3 e3) (.int .i64 (p5 : Int)) (.int .i64 (p6 : Int))
   refine bodyPost_ret (ret26 rfl _ _ rfl (E9.blk 2 rfl)) rfl ?_
   rw [HE.out]
   exact ⟨_, rfl, E9.pp, HB5.out, tr_ret HT5.out hkl (chg_set7 _ _ _ _ _ _ _ _ _) hko⟩
  | false =>
  rw [m4] at HM4
  cases m5 : Ps.isM t [91] with
  | true =>
   rw [m5] at HM5
   have hlt : s.at_ < T.length := Ps.mark_lt (fin := fin) (x := [91]) (by unfold Ps.is_; rw [ht]; exact m5)
   have HE : Hid (R = Ps.blk T fin F' s) := Hd (by rw [HU.out, if_neg (by rw [f0]; decide), if_neg (by rw [m1]; decide), if_neg (by rw [m2]; decide), if_neg (by rw [m3]; decide), if_neg (by rw [m4]; decide), if_pos m5])
   clear k1 ht b b0 b1 b2 b3 b4 b5 b6 f1 m1 m2 m3 m4 m5
   go_wp2_with (first
    | (go_at_call 29; (with_reducible refine (HM1.out _).mono ?_); rintro e w3b ⟨rfl, hb⟩; have E3b := E3.below hb; clear hb E3; have E3 := E3b; clear E3b; obtain ⟨a, a0, a1, a2⟩ := E3.c3 1 rfl)
    | (go_at_call 29; (with_reducible refine (HM2.out _).mono ?_); rintro e w3b ⟨rfl, hb⟩; have E3b := E3.below hb; clear hb E3; have E3 := E3b; clear E3b; obtain ⟨a, a0, a1, a2⟩ := E3.c3 1 rfl)
    | (go_at_call 29; (with_reducible refine (HM3.out _).mono ?_); rintro e w3b ⟨rfl, hb⟩; have E3b := E3.below hb; clear hb E3; have E3 := E3b; clear E3b; obtain ⟨a, a0, a1, a2⟩ := E3.c3 1 rfl)
    | (go_at_call 29; (with_reducible refine (HM4.out _).mono ?_); rintro e w3b ⟨rfl, hb⟩; have E3b := E3.below hb; clear hb E3; have E3 := E3b; clear E3b; obtain ⟨a, a0, a1, a2⟩ := E3.c3 1 rfl)
    | (go_at_call 29; (with_reducible refine (HM5.out _).mono ?_); rintro e w3b ⟨rfl, hb⟩; have E3b := E3.below hb; clear hb E3; have E3 := E3b; clear E3b; obtain ⟨a, a0, a1, a2⟩ := E3.c3 1 rfl)
    | (go_at_call 82; refine ((IH.out F' (by omega)).blk s _ E3.pa HB.out HK.out hlt (by omega)).mono ?_; rintro e w5 ⟨cs5, rfl, hp5, hb5, ht5⟩; have hkl := (E3.blk 2 rfl).lt; have hko := E3.size; have E5 := E3.call hp5; have HT5 := Hd ht5; have HB5 := Hd hb5; obtain ⟨p0, p1, C1, o1, e1, C2, o2, e2, C3, o3, e3, p5, p6, rfl⟩ := ht5.form; obtain ⟨b, b0, b1, b2, b3, b4, b5, b6⟩ := E5.c7 2 rfl; have f1 := E5.fz 2 rfl; clear hp5 hb5 ht5))
   have E9 := E5.put7 2 rfl (.int .i64 (p0 : Int)) (.string ⟨p1.toArray⟩) (.slice C1 o1 e1) (.slice C2 o2 e2) (.slice C3 o3 e3) (.int .i64 (p5 : Int)) (.int .i64 (p6 : Int))
   refine bodyPost_ret (ret26 rfl _ _ rfl (E9.blk 2 rfl)) rfl ?_
   rw [HE.out]
   exact ⟨_, rfl, E9.pp, HB5.out, tr_ret HT5.out hkl (chg_set7 _ _ _ _ _ _ _ _ _) hko⟩
  | false =>
  rw [m5] at HM5
  have HE : Hid (R = (Ps.Tr.zero, Ps.odd T fin s)) := Hd (by rw [HU.out, if_neg (by rw [f0]; decide), if_neg (by rw [m1]; decide), if_neg (by rw [m2]; decide), if_neg (by rw [m3]; decide), if_neg (by rw [m4]; decide), if_neg (by rw [m5]; decide)])
  have HBO := Hd (HB.out.rf (t.2.2) 124)
  have HOD : Hid (Ps.odd T fin s = Ps.rf s t.2.2 124) := Hd (by unfold Ps.odd; rw [ht])
  clear k1 ht b b0 b1 b2 b3 b4 b5 b6 f1 m1 m2 m3 m4 m5
  go_wp2_with (first
   | (go_at_call 29; (with_reducible refine (HM1.out _).mono ?_); rintro e w3b ⟨rfl, hb⟩; have E3b := E3.below hb; clear hb E3; have E3 := E3b; clear E3b; obtain ⟨a, a0, a1, a2⟩ := E3.c3 1 rfl)
   | (go_at_call 29; (with_reducible refine (HM2.out _).mono ?_); rintro e w3b ⟨rfl, hb⟩; have E3b := E3.below hb; clear hb E3; have E3 := E3b; clear E3b; obtain ⟨a, a0, a1, a2⟩ := E3.c3 1 rfl)
   | (go_at_call 29; (with_reducible refine (HM3.out _).mono ?_); rintro e w3b ⟨rfl, hb⟩; have E3b := E3.below hb; clear hb E3; have E3 := E3b; clear E3b; obtain ⟨a, a0, a1, a2⟩ := E3.c3 1 rfl)
   | (go_at_call 29; (with_reducible refine (HM4.out _).mono ?_); rintro e w3b ⟨rfl, hb⟩; have E3b := E3.below hb; clear hb E3; have E3 := E3b; clear E3b; obtain ⟨a, a0, a1, a2⟩ := E3.c3 1 rfl)
   | (go_at_call 29; (with_reducible refine (HM5.out _).mono ?_); rintro e w3b ⟨rfl, hb⟩; have E3b := E3.below hb; clear hb E3; have E3 := E3b; clear E3b; obtain ⟨a, a0, a1, a2⟩ := E3.c3 1 rfl)
   | (go_at_call 15; refine (podd_any E3.pa).mono ?_; rintro e w5 ⟨rfl, hp5⟩; have E5 := E3.call hp5; obtain ⟨b, b0, b1, b2, b3, b4, b5, b6⟩ := E5.c7 2 rfl; have f1 := E5.fz 2 rfl; clear hp5))
  have E9 := E5.put7 2 rfl (.int .i64 0) (.string ⟨#[]⟩) (.slice none 0 0) (.slice none 0 0) (.slice none 0 0) (.int .i64 0) (.int .i64 0)
  refine bodyPost_ret (ret26 rfl _ _ rfl (E9.blk 2 rfl)) rfl ?_
  rw [HE.out]
  exact ⟨_, rfl, E9.pp, by rw [HOD.out]; exact HBO.out, TrM.zero _ _ _⟩
end Go.Proofs.YtbnlnndeajjenaaGreat
