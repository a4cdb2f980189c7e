/-
  Parts Wr, Ws, Wt, Va, Vb of the proof. No statement of the seat is proved here.
-/
import Derived.Test.YtjhonaglmgmpiaaGreatDoorP12
set_option maxHeartbeats 4000000
namespace Go.Proofs.YtjhonaglmgmpiaaGreatDoor
open Go.RowKit
namespace Ps
theorem caE_snoc : ∀ (k : Nat) (first : Bool) (ks : List Kid) (x : Kid), ks[k]? = some x → caE first (ks.take (k + 1)) = caE first (ks.take k) ++ ((if first && k == 0 then [] else [.t [59, 32]]) ++ x.msg)
 | 0, first, [], x, h => by simp at h
 | 0, first, a :: r, x, h => by
  obtain rfl : a = x := by simpa using h
  cases first <;> simp [caE]
 | k + 1, first, [], x, h => by simp at h
 | k + 1, first, a :: r, x, h => by
  have ih := caE_snoc k false r x (by simpa using h)
  rw [List.take_succ_cons, List.take_succ_cons, caE, caE, ih]
  cases first <;> simp
theorem kid_msg (t : Tr) : (kid t).1.msg = msE t.name (t.nodes.map fun t => (kid t).1) := by
 cases t with
 | mk k n a b l p x =>
  rw [kid]
  dsimp only [Tr.name, Tr.nodes]
  rw [kids_map, List.map_map]
  rfl
end Ps
def RwC (P : List Value → Ps.Tr → Prop) (w0 : World) (S : Nat → Prop) (A : Option Addr) (l : List Ps.Tr) : Prop :=
 ∃ css : List (List Value), css.length = l.length ∧ ReadsI w0 S 7 A l.length css.flatten ∧ ∀ (i : Nat) (cs' : List Value) (t' : Ps.Tr), css[i]? = some cs' → l[i]? = some t' → cs'.length = 7 ∧ P cs' t'
theorem RwC.at_ {P : List Value → Ps.Tr → Prop} {w0 W : World} {S : Nat → Prop} {g : Nat} {A : Option Addr} {l : List Ps.Tr} (h : RwC P w0 S A l) (hS : ∀ k, S k → k < g) (hB : Below g w0 W) {i : Nat} {t : Ps.Tr} (hi : l[i]? = some t) :
 ∃ b off x0 x1 x2 x3 x4 x5 x6, A = some ⟨b, off, none⟩ ∧ b < g ∧ b < W.heap.size ∧ P [x0, x1, x2, x3, x4, x5, x6] t ∧
  W.cell? ⟨b, off + i * 7, none⟩ = some x0 ∧ W.cell? ⟨b, off + i * 7 + 1, none⟩ = some x1 ∧ W.cell? ⟨b, off + i * 7 + 2, none⟩ = some x2 ∧ W.cell? ⟨b, off + i * 7 + 3, none⟩ = some x3 ∧ W.cell? ⟨b, off + i * 7 + 4, none⟩ = some x4 ∧ W.cell? ⟨b, off + i * 7 + 5, none⟩ = some x5 ∧ W.cell? ⟨b, off + i * 7 + 6, none⟩ = some x6 := by
 obtain ⟨css, hl, hr, hc⟩ := h
 have hil := (List.getElem?_eq_some_iff.1 hi).1
 obtain ⟨b, off, e, hSb, hbl, hcl⟩ := hr.2 (by omega)
 have h7 : ∀ c ∈ css, c.length = 7 := fun c hm => by
  obtain ⟨q, hq, rfl⟩ := List.getElem_of_mem hm
  exact (hc q _ _ (List.getElem?_eq_getElem hq) (List.getElem?_eq_getElem (by omega))).1
 have hx : css[i]? = some (css[i]'(by omega)) := List.getElem?_eq_getElem (by omega)
 obtain ⟨h1, h2⟩ := hc i _ t hx hi
 have key : ∀ j u, (css[i]'(by omega))[j]? = some u → j < 7 → W.cell? ⟨b, off + i * 7 + j, none⟩ = some u := fun j u hu hj => by
  rw [hB.cell (p := ⟨b, off + i * 7 + j, none⟩) (hS b hSb), Nat.add_assoc]
  exact hcl _ u (by rw [flat_at h7 i j _ hx hj]; exact hu)
 generalize css[i]'(by omega) = cs at *
 obtain ⟨x0, x1, x2, x3, x4, x5, x6, rfl⟩ := list7 h1
 exact ⟨b, off, x0, x1, x2, x3, x4, x5, x6, e, hS b hSb, Nat.lt_of_lt_of_le hbl hB.size, h2, key 0 _ rfl (by omega), key 1 _ rfl (by omega), key 2 _ rfl (by omega), key 3 _ rfl (by omega), key 4 _ rfl (by omega), key 5 _ rfl (by omega), key 6 _ rfl (by omega)⟩
def MgP (w0 : World) (S : Nat → Prop) (g base : Nat) (cs : List Value) (t : Ps.Tr) : Prop :=
 (∃ (y0 y5 y6 : Int) (B : Option Addr) (r d : Nat) (B' : Option Addr) (r' d' : Nat) (A : Option Addr) (n c : Nat), cs = [.int .i64 y0, .string ⟨t.name.toArray⟩, .slice B r d, .slice B' r' d', .slice A n c, .int .i64 y5, .int .i64 y6] ∧ t.nodes.length = n ∧ n ≤ 9223372036854775807 ∧ ArC w0 S g base A t.nodes) ∧ t.name.length < 4294967281 ∧
 (Ps.rankS t.name = 0 ∨ (Ps.rankS t.name = 1 ∧ 1 ≤ t.nodes.length) ∨ (Ps.rankS t.name = 2 ∧ (Ps.kws t.name).length ≤ t.nodes.length))
theorem wmg_any {w0 : World} {S : Nat → Prop} {g base : Nat} {t : Ps.Tr} {y0 y1 y2 y3 y4 y5 y6 : Value} (h : MgP w0 S g base [y0, y1, y2, y3, y4, y5, y6] t) (hS : ∀ k, S k → k < g) : ∃ (z0 z5 z6 : Int) (B : Option Addr) (r d : Nat) (B' : Option Addr) (r' d' : Nat) (A : Option Addr) (n c : Nat), [y0, y1, y2, y3, y4, y5, y6] = [.int .i64 z0, .string ⟨t.name.toArray⟩, .slice B r d, .slice B' r' d', .slice A n c, .int .i64 z5, .int .i64 z6] ∧ ∀ (W : World) (v : Value) (s : Ps.Wr), Below g w0 W → WA W g base v s → Calls Tryz.prog 152 #[.pointer (some ⟨g, 0, none⟩), .string ⟨t.name.toArray⟩, .slice A n c] W (WC g base v (Ps.evs (Ps.kid t).1.msg s) W) := by
 obtain ⟨⟨z0, z5, z6, B, r, d, B', r', d', A, n, c, e, hn, hn9, hA⟩, hx, har⟩ := h
 refine ⟨z0, z5, z6, B, r, d, B', r', d', A, n, c, e, fun W v s hB hw => ?_⟩
 rw [Ps.kid_msg]
 exact wmessage_any hA hS t.name hx hn (hn ▸ har) hn9 W v s hB hw
def CaR (W : World) (g base : Nat) (v : Value) (s : Ps.Wr) (ks : List Ps.Kid) (m : Nat) (i : Value) (wr : World) : Prop := ∃ k v1, k ≤ m ∧ i = .int .i64 k ∧ WPx g base v v1 (Ps.evs (Ps.caE true (ks.take k)) s) W wr
set_option maxRecDepth 20000 in
theorem wex6_any {w0 : World} {S : Nat → Prop} {g base : Nat} {name : Lx.Txt} {A1 : Option Addr} {n1 c1 : Nat} {A2 : Option Addr} {n2 c2 : Nat} {A3 : Option Addr} {nl c3 prim : Nat} {z : Int} {t u : Ps.Tr} {l : List Ps.Tr} (hA : ArC w0 S g base A3 [t]) (hM : ∀ A, (∀ b off, A3 = some ⟨b, off, none⟩ → A = some ⟨b, off + 7, none⟩) → RwC (MgP w0 S g base) w0 S A (u :: l)) (hS : ∀ k, S k → k < g) (hnl : nl = l.length + 2) (hl3 : 3 ≤ nl) (hc : nl ≤ c3) (hc9 : nl ≤ 9223372036854775807)
 (W : World) (v : Value) (s : Ps.Wr) (hB : Below g w0 W) (hw : WA W g base v s) :
 Calls Tryz.prog 120 #[.pointer (some ⟨g, 0, none⟩), .agg #[.int .i64 6, .string ⟨name.toArray⟩, .slice A1 n1 c1, .slice A2 n2 c2, .slice A3 nl c3, .int .i64 (prim : Int), .int .i64 z]] W (WC g base v (Ps.evs (Ps.caE true ((u :: l).map fun t => (Ps.kid t).1)) (Ps.evs (Ps.rcE u.name (Ps.kid t).1) s)) W) := by
 have ht : [t][0]? = some t := rfl
 obtain ⟨b, off, x0, x1, x2, x3, x4, x5, x6, rfl, hbg, hbl, hT, hE, hxt, a0, a1, a2, a3, a4, a5, a6⟩ := ArC.at_ hA hS hB ht
 simp only [Nat.zero_mul, Nat.add_zero] at a0 a1 a2 a3 a4 a5 a6
 have hM0 := hM (some ⟨b, off + 7, none⟩) (fun b' o' e => by injection e with e; injection e with e1 e2 _; rw [e1, e2])
 have hu : (u :: l)[0]? = some u := rfl
 obtain ⟨b2, off2, y0, y1, y2, y3, y4, y5, y6, e, _, _, hP, d0, d1, d2, d3, d4, d5, d6⟩ := hM0.at_ hS hB hu
 injection e with e
 injection e with e1 e2 _
 subst e1 e2
 have hxu := hP.2.1
 obtain ⟨_, _, _, _, _, _, _, _, _, _, _, _, e, _⟩ := wmg_any hP hS
 injection e with _ e
 injection e with e1 _
 subst e1
 simp only [Nat.zero_mul, Nat.add_zero] at d1
 clear d0 d2 d3 d4 d5 d6 hP hu
 have HEL := Hd (⟨a0, a1, a2, a3, a4, a5, a6⟩ : W.cell? ⟨b, off, none⟩ = some x0 ∧ W.cell? ⟨b, off + 1, none⟩ = some x1 ∧ W.cell? ⟨b, off + 2, none⟩ = some x2 ∧ W.cell? ⟨b, off + 3, none⟩ = some x3 ∧ W.cell? ⟨b, off + 4, none⟩ = some x4 ∧ W.cell? ⟨b, off + 5, none⟩ = some x5 ∧ W.cell? ⟨b, off + 6, none⟩ = some x6)
 have HD := Hd d1
 have HRC : Hid (∀ (W : World) (v : Value) (s : Ps.Wr), Below g w0 W → WA W g base v s → Calls Tryz.prog 151 #[.pointer (some ⟨g, 0, none⟩), .agg #[x0, x1, x2, x3, x4, x5, x6], .string ⟨u.name.toArray⟩] W (WC g base v (Ps.evs (Ps.rcE u.name (Ps.kid t).1) s) W)) := Hd fun W v s hB hw => wreceiver_any hE hT hxt u.name hxu W v s hB hw
 have HM := Hd hM0
 have HS := Hd hS
 have HNL := Hd hnl
 clear a0 a1 a2 a3 a4 a5 a6 hT hE hA hM hM0 hS ht hxt d1 hxu hnl
 have q0 : 0 < nl := by omega
 have q4 : 1 < nl := by omega
 have q4' : (1 : Int) < (nl : Int) := by omega
 have q2 : (1 : Int) ≤ (nl : Int) := by omega
 have q3 : (nl : Int) ≤ (c3 : Int) := by omega
 have q5 : ¬ c3 = 1 := by omega
 have HB := Hd hB
 have HW := Hd hw
 have HGW : Hid (g < W.heap.size) := Hd hw.blk.lt
 clear hB hw
 have HBG := Hd (new_below W (.cells #[.int .i64 6, .string ⟨name.toArray⟩, .slice A1 n1 c1, .slice A2 n2 c2, .slice (some ⟨b, off, none⟩) nl c3, .int .i64 (prim : Int), .int .i64 z] 27))
 have HK1 := Hd (Blk.new W 27 #[.int .i64 6, .string ⟨name.toArray⟩, .slice A1 n1 c1, .slice A2 n2 c2, .slice (some ⟨b, off, none⟩) nl c3, .int .i64 (prim : Int), .int .i64 z])
 go_enter Tryz.func120, Tryz.ntmps120
 go_upto_region 9 with fail
 have HW1 := Hd (HW.out.below HBG.out)
 have HB1 := Hd (HB.out.trans (HBG.out.mono (Nat.le_of_lt HGW.out)))
 have HBW := Hd HBG.out
 generalize W.heap.size = kb at HK1 HBG ⊢
 generalize (W.alloc (.cells #[.int .i64 6, .string ⟨name.toArray⟩, .slice A1 n1 c1, .slice A2 n2 c2, .slice (some ⟨b, off, none⟩) nl c3, .int .i64 (prim : Int), .int .i64 z] 27)) = w1 at *
 obtain ⟨a, b0, b1, b2, b3, b4, b5, b6⟩ := HK1.out.c7
 obtain ⟨a0, a1, a2, a3, a4, a5, a6⟩ := el7 (HBW.out.mono (Nat.le_of_lt HGW.out)) hbg HEL.out
 have hbl1 : b < w1.heap.size := Nat.lt_of_lt_of_le hbl HBW.out.size
 have d1 : w1.cell? ⟨b, off + 7 + 1, none⟩ = some (.string ⟨u.name.toArray⟩) := ((HBW.out.mono (Nat.le_of_lt HGW.out)).cell (p := ⟨b, off + 7 + 1, none⟩) hbg).trans HD.out
 go_region_held3 (fun W' => W'.cell? ⟨kb, 4, none⟩ = some (.slice (some ⟨b, off, none⟩) nl c3) ∧ W'.cell? ⟨b, off, none⟩ = some x0 ∧ W'.cell? ⟨b, off + 1, none⟩ = some x1 ∧ W'.cell? ⟨b, off + 2, none⟩ = some x2 ∧ W'.cell? ⟨b, off + 3, none⟩ = some x3 ∧ W'.cell? ⟨b, off + 4, none⟩ = some x4 ∧ W'.cell? ⟨b, off + 5, none⟩ = some x5 ∧ W'.cell? ⟨b, off + 6, none⟩ = some x6 ∧ W'.cell? ⟨b, off + 7 + 1, none⟩ = some (.string ⟨u.name.toArray⟩) ∧ b < W'.heap.size)
  (first | exact HS2.out | go_keep)
  ((first
   | (go_at_call 151; ((with_reducible refine (HRC.out w1.drew v s (HB1.out.trans (drew_low w1 g)) (HW1.out.below (drew_below w1))).mono ?_); rintro e w2 ⟨rfl, hp⟩; have HK2 := Hd (hp.blk (HW1.out.below (drew_below w1)) (HK1.out.below (drew_below w1) HK1.out.lt) (by decide) (by decide)); obtain ⟨v2, hx⟩ := (WP.from (drew_below w1) hp).x; have HX2 := Hd hx; have HL2 := Hd ((HBW.out.mono (Nat.le_of_lt HGW.out)).trans (hx.low HW1.out)); have HS2 := Hd (And.intro HK2.out.c7.2.2.2.2.2.1 (and_assoc8 (el7 HL2.out hbg HEL.out) ((HL2.out.cell (p := ⟨b, off + 7 + 1, none⟩) hbg).trans HD.out) (Nat.lt_of_lt_of_le hbl HL2.out.size))); clear hp hx))))
 obtain ⟨g4, -⟩ := HS2.out
 have hkb2 := HK2.out.lt
 have HB2 := Hd (HB1.out.trans (HX2.out.low HW1.out))
 clear HS2 a a0 a1 a2 a3 a4 a5 a6 b0 b1 b2 b3 b4 b5 b6 d1 hbl1
 go_wp2
 have HM1 : Hid (∃ m, nl - 1 = m ∧ (u :: l).length = m) := Hd ⟨_, rfl, by rw [HNL.out]; rfl⟩
 obtain ⟨m, hm1, hm2⟩ := HM1.out
 have HML := Hd hm2
 have qm : m ≤ 9223372036854775807 := by omega
 simp only [hm1]
 go_loopw [55] (fun i wr => CaR w2 g base v2 (Ps.evs (Ps.rcE u.name (Ps.kid t).1) s) ((u :: l).map fun t => (Ps.kid t).1) m i wr) (fun i _ => m - (intOf i).toNat)
 case atStart => exact ⟨0, v2, Nat.zero_le _, rfl, WPx.start HX2.out.wa⟩
 case round =>
  obtain ⟨k, v3, hk, rfl, hx⟩ := hrel
  have HX3 := Hd hx
  clear hx
  have l1 : (0 : Int) ≤ (k : Int) := by omega
  by_cases hlt : k < m
  rotate_left
  ·have HT : Hid ((((u :: l).map fun t => (Ps.kid t).1)).take k = (u :: l).map fun t => (Ps.kid t).1) := Hd (List.take_of_length_le (by rw [List.length_map, HML.out]; omega))
   go_wp2
   go_end0
   refine ⟨rfl, WP.from HBW.out (HX2.out.step ?_).choose_spec.wp⟩
   have h3 := HX3.out.wp
   rw [HT.out] at h3
   exact h3
  ·obtain ⟨q, hq⟩ : ∃ q, (u :: l)[k]? = some q := ⟨_, List.getElem?_eq_getElem (by rw [HML.out]; exact hlt)⟩
   have HQ := Hd hq
   have HSN := Hd (Ps.caE_snoc k true ((u :: l).map fun t => (Ps.kid t).1) (Ps.kid q).1 (by rw [List.getElem?_map, hq]; rfl))
   have HST : Hid (∀ s', Ps.evs (Ps.caE true (((u :: l).map fun t => (Ps.kid t).1).take k)) (Ps.evs (Ps.rcE u.name (Ps.kid t).1) s) = s' → Ps.evs (Ps.caE true (((u :: l).map fun t => (Ps.kid t).1).take (k + 1))) (Ps.evs (Ps.rcE u.name (Ps.kid t).1) s) = Ps.evs (Ps.kid q).1.msg (Ps.evs (if k = 0 then [] else [.t [59, 32]]) s')) := Hd fun s' e => by
    rw [HSN.out, Ps.evs_append, e, Ps.evs_append]
    cases k <;> rfl
   have HB3 := Hd (HB2.out.trans (HX3.out.low HX2.out.wa))
   obtain ⟨b', off', y0, y1, y2, y3, y4, y5, y6, e, hbg', hbl', hP, d0, d1, d2, d3, d4, d5, d6⟩ := (HM.out).at_ HS.out HB3.out hq
   injection e with e
   injection e with e1 e2 _
   subst e1 e2
   obtain ⟨z0, z5, z6, B, r, d, B', r', d', A, n, c, e, hms⟩ := wmg_any hP HS.out
   injection e with e0 e
   injection e with e1 e
   injection e with e2 e
   injection e with e3 e
   injection e with e4 e
   injection e with e5 e
   injection e with e6 _
   subst e0 e1 e2 e3 e4 e5 e6
   have HMS := Hd hms
   have l2 : (k : Int) < (m : Int) := by omega
   clear hq hP hms
   have HBN := Hd (new_below wr (.cells #[.int .i64 z0, .string ⟨q.name.toArray⟩, .slice B r d, .slice B' r' d', .slice A n c, .int .i64 z5, .int .i64 z6] 27))
   have HKN := Hd (Blk.new wr 27 #[.int .i64 z0, .string ⟨q.name.toArray⟩, .slice B r d, .slice B' r' d', .slice A n c, .int .i64 z5, .int .i64 z6])
   go_upto_region 13 with fail
   have HX4 := Hd (HX3.out.below HBN.out)
   have HB4 := Hd (HB3.out.trans (HBN.out.mono (Nat.le_of_lt HX3.out.wa.blk.lt)))
   generalize wr.heap.size = kn at HKN HBN ⊢
   generalize (wr.alloc (.cells #[.int .i64 z0, .string ⟨q.name.toArray⟩, .slice B r d, .slice B' r' d', .slice A n c, .int .i64 z5, .int .i64 z6] 27)) = w4 at *
   clear d0 d1 d2 d3 d4 d5 d6
   rcases Nat.eq_zero_or_pos k with hk0 | hk0
   ·subst hk0
    obtain ⟨f0, f1, f2, f3, f4, f5, f6, f7⟩ := HKN.out.c7
    go_wp2_with (go_at_call 152; refine (HMS.out _ _ _ HB4.out HX4.out.wa).mono ?_; rintro e w5 ⟨rfl, hp⟩; obtain ⟨v5, hx⟩ := HX4.out.step hp; have HX5 := Hd hx; clear hp hx)
    refine ⟨⟨0 + 1, v5, by omega, rfl, ?_⟩, by simp [intOf]; omega⟩
    have h5 := HX5.out
    rw [HST.out _ rfl]
    exact h5
   ·have l4 : (0 : Int) < (k : Int) := by omega
    have hkn : ¬ k = 0 := by omega
    simp only [if_neg hkn] at HST
    have HP0 := Hd (wput_new [[59, 32]] HX4.out.wa (by simp) (by simp))
    go_upto_region 15 with (go_at_call 66; refine HP0.out.mono ?_; rintro e w5 ⟨rfl, hp⟩; have HK5 := Hd (hp.blk HX4.out.wa HKN.out (by decide) (by decide)); obtain ⟨v5, hx⟩ := HX4.out.step hp; have HX5 := Hd hx; have HB5 := Hd (HB4.out.trans (hp.low HX4.out.wa)); clear hp hx)
    obtain ⟨f0, f1, f2, f3, f4, f5, f6, f7⟩ := HK5.out.c7
    go_wp2_with (go_at_call 152; refine (HMS.out _ _ _ HB5.out HX5.out.wa).mono ?_; rintro e w6 ⟨rfl, hp⟩; obtain ⟨v6, hx⟩ := HX5.out.step hp; have HX6 := Hd hx; clear hp hx)
    refine ⟨⟨k + 1, v6, by omega, rfl, ?_⟩, by simp [intOf]; omega⟩
    have h5 := HX6.out
    rw [HST.out _ rfl]
    exact h5
theorem RwC.of_tail {P : List Value → Ps.Tr → Prop} {w0 : World} {S : Nat → Prop} {A3 : Option Addr} {t : Ps.Tr} {l : List Ps.Tr} {css : List (List Value)} (hl : css.length = (t :: l).length) (hr : ReadsI w0 S 7 A3 (t :: l).length css.flatten)
 (h7 : ∀ (i : Nat) (cs' : List Value) (t' : Ps.Tr), css[i]? = some cs' → (t :: l)[i]? = some t' → cs'.length = 7) (hP : ∀ (i : Nat) (cs' : List Value) (t' : Ps.Tr), css[i + 1]? = some cs' → l[i]? = some t' → P cs' t') (A : Option Addr) (hA : ∀ b off, A3 = some ⟨b, off, none⟩ → A = some ⟨b, off + 7, none⟩) : RwC P w0 S A l := by
 cases css with
 | nil => simp at hl
 | cons c cs =>
  have hc7 := h7 0 c t rfl rfl
  obtain ⟨b, off, e, hSb, hbl, hcl⟩ := hr.2 (by simp)
  rw [hA b off e]
  refine ⟨cs, by simpa using hl, ⟨by have := hr.1; rw [List.flatten_cons, List.length_append, hc7] at this; simp only [List.length_cons] at this ⊢; omega, fun _ => ?_⟩, fun i cs' t' h1 h2 => ⟨h7 (i + 1) cs' t' (by simpa using h1) (by simpa using h2), hP i cs' t' (by simpa using h1) h2⟩⟩
  refine ⟨b, off + 7, rfl, hSb, hbl, fun j u' hu => ?_⟩
  have := hcl (7 + j) u' (by rw [List.flatten_cons, List.getElem?_append_right (by omega), hc7, Nat.add_sub_cancel_left]; exact hu)
  rwa [← Nat.add_assoc] at this
theorem mg_of {w0 : World} {S : Nat → Prop} {g base : Nat} {cs : List Value} {t : Ps.Tr} (hT : TpIn w0 S cs t) (hE : ExM w0 S g base cs t) (hz : Ps.szB t = true) (hf : Ps.fwB t = true) (hm : (Ps.vkid t).msg = true) : MgP w0 S g base cs t := by
 have h2 := (hE hz hf).2 hm
 cases hT with
 | mk k name names temps nodes prim place z A1 c1 A2 c2 A3 c3 css h1 h2' hl h3 h4 h5 =>
  obtain ⟨e1, e2, e3⟩ := h2 A3 nodes.length c3 rfl
  obtain ⟨_, ha, hb, _⟩ := Ps.msg_of hm
  exact ⟨⟨_, _, _, _, _, _, _, _, _, _, _, _, rfl, rfl, e2, e3⟩, (Ps.szB_parts hz).1, Ps.ar_of ha hb⟩
theorem Ps.name_sz {l : List Ps.Tr} (h : Ps.szL l = true) {i : Nat} {t : Ps.Tr} (hi : l[i]? = some t) : t.name.length < 4294967281 := by
 have := Ps.szL_at h hi
 cases t with
 | mk k n a b l p x => exact (Ps.szB_parts this).1
theorem Ps.kid_ex {k : Nat} {n : Lx.Txt} {a b : List Lx.Txt} {l : List Ps.Tr} {p x : Nat} (hk : k ≠ 2) : (Ps.kid (.mk k n a b l p x)).1.ex = Ps.exE k n (l.map fun t => (Ps.kid t).1) := by
 rw [Ps.kid]
 dsimp only
 rw [if_neg hk, Ps.kids_map, List.map_map]
 rfl
set_option maxRecDepth 20000 in
theorem wexpr_all {w0 : World} {S : Nat → Prop} {g base : Nat} {cs : List Value} {t : Ps.Tr} (hS : ∀ k, S k → k < g) (h : TpIn w0 S cs t) : ExM w0 S g base cs t := by
 induction h with
 | mk kind name names temps nodes prim place z A1 c1 A2 c2 A3 c3 css h1 h2 hl h3 h4 h5 ih =>
  intro hz hf
  obtain ⟨hn, _, _, hzl⟩ := Ps.szB_parts hz
  obtain ⟨hk, hfl⟩ := Ps.fwB_parts hf
  have harc : (∀ t ∈ nodes, (Ps.vkid t).ex = true) → ArC w0 S g base A3 nodes := fun ha => ⟨css, hl, h3, fun i cs' t' e1 e2 => ⟨h5 i cs' t' e1 e2, (ih i cs' t' e1 e2 (Ps.szL_at hzl e2) (Ps.fwL_at hfl e2)).1 (ha t' (List.mem_of_getElem? e2)), Ps.name_sz hzl e2⟩⟩
  have hm9 : nodes.length ≤ 9223372036854775807 := h4.2.1
  refine ⟨fun hex => ?_, fun hmsg A n c e => ?_⟩
  rotate_left
  ·obtain ⟨_, _, _, hall⟩ := Ps.msg_of hmsg
   simp only [List.getElem?_cons_succ, List.getElem?_cons_zero, Option.some.injEq, Value.slice.injEq] at e
   obtain ⟨rfl, rfl, rfl⟩ := e
   exact ⟨rfl, hm9, harc hall⟩
  ·have hv := Ps.ex_of hex (by omega)
   intro W v s hB hw
   rcases hk with rfl | rfl | rfl | rfl | rfl | rfl
   ·obtain ⟨hl1, hall⟩ := Ps.ex4 hv
    match nodes, hl1, harc hall with
    | [t0], _, hA =>
     have hx : (Ps.kid (.mk 4 name names temps [t0] prim place)).1.ex = .t name :: .t [32, 58, 61, 32] :: (Ps.kid t0).1.ex := by rw [Ps.kid_ex (by decide)]; rfl
     rw [hx]
     exact wex4_any hn hA hS rfl W v s hB hw
   ·obtain ⟨ha, hb, hall⟩ := Ps.ex5 hv
    cases nodes with
    | nil => simp only [List.length_nil] at hb; omega
    | cons t0 l0 =>
     have hx : (Ps.kid (.mk 5 name names temps (t0 :: l0) prim place)).1.ex = Ps.rcE name (Ps.kid t0).1 ++ Ps.msE name (l0.map fun t => (Ps.kid t).1) := by rw [Ps.kid_ex (by decide)]; rfl
     rw [hx, Ps.evs_append]
     exact wex5_any hn (harc hall) hS rfl (by have := h4.1; simpa using this) hm9 (Ps.ar_of ha (by simp only [List.length_cons] at hb; omega)) W v s hB hw
   ·obtain ⟨ha, hb, hc⟩ := Ps.ex6 hv
    match nodes, hl, h3, h4, h5, ih, hzl, hfl, ha, hb, hc, hm9, harc with
    | t0 :: u :: l0, hl, h3, h4, h5, ih, hzl, hfl, ha, hb, hc, hm9, harc =>
     have hx : (Ps.kid (.mk 6 name names temps (t0 :: u :: l0) prim place)).1.ex = Ps.rcE u.name (Ps.kid t0).1 ++ Ps.caE true ((u :: l0).map fun t => (Ps.kid t).1) := by
      rw [Ps.kid_ex (by decide)]
      show Ps.rcE (Ps.kid u).1.name _ ++ _ = _
      rw [Ps.kid_name]
      rfl
     rw [hx, Ps.evs_append]
     have hA1 : ArC w0 S g base A3 [t0] := by
      obtain ⟨c0, csr, hcs⟩ : ∃ c0 csr, css = c0 :: csr := by cases css with
       | nil => simp at hl
       | cons a r => exact ⟨a, r, rfl⟩
      obtain ⟨b, off, e, hSb, hbl, hcl⟩ := h3.2 (by simp)
      have e0 : css[0]? = some c0 := by rw [hcs]; rfl
      have h70 := (h5 0 c0 t0 e0 rfl).len
      refine ⟨[c0], rfl, ⟨by simp [h70], fun _ => ⟨b, off, e, hSb, hbl, fun j u' hu => hcl j u' ?_⟩⟩, fun i cs' t' q1 q2 => ?_⟩
      ·rw [hcs, List.flatten_cons]
       rw [List.flatten_cons, List.flatten_nil, List.append_nil] at hu
       rw [List.getElem?_append_left (List.getElem?_eq_some_iff.1 hu).1]; exact hu
      ·cases i with
       | zero =>
        obtain rfl : c0 = cs' := by simpa using q1
        obtain rfl : t0 = t' := by simpa using q2
        exact ⟨h5 0 c0 t0 e0 rfl, (ih 0 c0 t0 e0 rfl (Ps.szL_at hzl (i := 0) rfl) (Ps.fwL_at hfl (i := 0) rfl)).1 (hb t0 rfl), Ps.name_sz hzl (i := 0) rfl⟩
       | succ i => simp at q1
     exact wex6_any hA1 (fun A hA => RwC.of_tail hl h3 (fun i cs' t' q1 q2 => (h5 i cs' t' q1 q2).len) (fun i cs' t' q1 q2 => mg_of (h5 (i + 1) cs' t' q1 (by simpa using q2)) (ih (i + 1) cs' t' q1 (by simpa using q2)) (Ps.szL_at hzl (i := i + 1) (by simpa using q2)) (Ps.fwL_at hfl (i := i + 1) (by simpa using q2)) (hc i t' (by simpa using q2))) A hA) hS (by simp) (by simpa using ha) (by have := h4.1; simpa using this) hm9 W v s hB hw
   ·exact absurd hv (by unfold Ps.exV; simp)
   ·have hx : (Ps.kid (.mk 8 name names temps nodes prim place)).1.ex = [.t name] := by rw [Ps.kid_ex (by decide)]; rfl
    rw [hx]
    exact wex8_any hn W v s hB hw
   ·have hx : (Ps.kid (.mk 9 name names temps nodes prim place)).1.ex = [.t name] := by rw [Ps.kid_ex (by decide)]; rfl
    rw [hx]
    exact wex9_any hn W v s hB hw
namespace Ps
theorem kp_step {l a : List Lx.Txt} {k : Nat} {x y : Lx.Txt} (h1 : l[k]? = some x) (h2 : a[k]? = some y) : kpE (k == 0) (l.drop k) (a.drop k) = (if k = 0 then [] else [.t [32]]) ++ ([.t x, .t [32], .t y] ++ kpE (k + 1 == 0) (l.drop (k + 1)) (a.drop (k + 1))) := by
 obtain ⟨i1, e1⟩ := List.getElem?_eq_some_iff.1 h1
 obtain ⟨i2, e2⟩ := List.getElem?_eq_some_iff.1 h2
 rw [List.drop_eq_getElem_cons i1, List.drop_eq_getElem_cons i2, e1, e2, kpE]
 cases k <;> rfl
theorem mst_step {l : List (List Ev)} {k : Nat} {x : List Ev} (h1 : l[k]? = some x) : mstE (l.drop k) = .t [9] :: (x ++ ((if k + 1 < l.length then [.t [46]] else []) ++ .t [10] :: mstE (l.drop (k + 1)))) := by
 obtain ⟨i1, e1⟩ := List.getElem?_eq_some_iff.1 h1
 rw [List.drop_eq_getElem_cons i1, e1]
 by_cases h : k + 1 < l.length
 ·rw [List.drop_eq_getElem_cons h, if_pos h, mstE]
  · rfl
  ·intro e; cases e
 ·rw [List.drop_eq_nil_of_le (by omega), if_neg h, mstE]; rfl
theorem kid_st {t : Tr} (h : t.kind ≠ 3) : (kid t).2 = (kid t).1.ex := by
 cases t with
 | mk k n a b l p x =>
  rw [kid]
  dsimp only
  unfold stmE
  rw [if_neg (show ¬ k = 3 from h)]
theorem patE_kw {n : Lx.Txt} {a : List Lx.Txt} (h : rankS n = 2) : patE n a = kpE (0 == 0) ((kws n).drop 0) (a.drop 0) ++ [.t [10]] := by
 have h1 : Lx.wordB n = false := by
  cases hw : Lx.wordB n with
  | false => rfl
  | true => unfold rankS at h; rw [if_pos hw] at h; cases h
 have h2 : Lx.binsB n = false := by
  cases hb : Lx.binsB n with
  | false => rfl
  | true => unfold rankS at h; rw [h1, hb] at h; cases h
 unfold patE
 rw [h1, h2]
 rfl
theorem rank2_parts {n : Lx.Txt} (h : rankS n = 2) : Lx.wordB n = false ∧ Lx.binsB n = false := by
 have h1 : Lx.wordB n = false := by
  cases hw : Lx.wordB n with
  | false => rfl
  | true => unfold rankS at h; rw [if_pos hw] at h; cases h
 refine ⟨h1, ?_⟩
 cases hb : Lx.binsB n with
  | false => rfl
  | true => unfold rankS at h; rw [h1, hb] at h; cases h
end Ps
set_option maxRecDepth 20000 in
theorem wstm_any {w0 : World} {S : Nat → Prop} {g base : Nat} {cs : List Value} {t : Ps.Tr} (hE : ExC w0 g base cs t) (hT : TpIn w0 S cs t) (hk : t.kind ≠ 3) (W : World) (v : Value) (s : Ps.Wr) (hB : Below g w0 W) (hw : WA W g base v s) :
  Calls Tryz.prog 69 #[.pointer (some ⟨g, 0, none⟩), .agg cs.toArray] W (WC g base v (Ps.evs (Ps.kid t).2 s) W) := by
 rw [Ps.kid_st hk]
 have HE := Hd hE
 have HB := Hd hB
 have HW := Hd hw
 have HGW : Hid (g < W.heap.size) := Hd hw.blk.lt
 generalize hks : (Ps.kid t).1 = kt at *
 unfold ExC at HE
 rw [hks] at HE
 cases hT with
 | mk k name names temps nodes prim place z A1 c1 A2 c2 A3 c3 css h1 h2 hl h3 h4 h5 =>
  clear h1 h2 hl h3 h4 h5 hE hB hw hks
  have d1 : ¬ (k : Int) = 3 := by show ¬ _; intro e; exact hk (by show k = 3; omega)
  clear hk
  have HBG := Hd (new_below W (.cells #[.int .i64 (k : Int), .string ⟨name.toArray⟩, .slice A1 names.length c1, .slice A2 temps.length c2, .slice A3 nodes.length c3, .int .i64 (prim : Int), .int .i64 z] 27))
  go_enter Tryz.func69, Tryz.ntmps69
  go_wp2_with (go_at_call 120; refine (HE.out _ _ _ (HB.out.trans (HBG.out.mono (by have := HGW.out; omega))) (HW.out.below HBG.out)).mono ?_; rintro e w2 ⟨rfl, hp⟩; have HP := Hd hp; clear hp)
  go_end0
  exact ⟨rfl, WP.from HBG.out HP.out⟩
structure KpL (W : World) (g base : Nat) (v : Value) (fin : Ps.Wr) (n r : Lx.Txt) (a : List Lx.Txt) (kb nb : Nat) (C : Array Value) (k : Nat) (wr : World) (v1 : Value) (s1 : Ps.Wr) : Prop where
 x : WPx g base v v1 s1 W wr
 b : Blk wr kb 9 (List.map sv (Ps.kws n) ++ [sv r]).toArray
 m : Blk wr nb 27 C
 f : Ps.evs (Ps.kpE (k == 0) ((Ps.kws n).drop k) (a.drop k)) s1 = fin
def KpR (W : World) (g base : Nat) (v : Value) (fin : Ps.Wr) (n r : Lx.Txt) (a : List Lx.Txt) (kb nb : Nat) (C : Array Value) (i : Value) (wr : World) : Prop := ∃ k v1 s1, k ≤ (Ps.kws n).length ∧ i = .int .i64 k ∧ KpL W g base v fin n r a kb nb C k wr v1 s1
set_option maxRecDepth 20000 in
set_option maxHeartbeats 8000000 in
theorem wpat_any {w0 : World} {S : Nat → Prop} {g base : Nat} {n : Lx.Txt} {names : List Lx.Txt} {A1 : Option Addr} {n1 c1 : Nat} {A2 : Option Addr} {n2 c2 : Nat} {A3 : Option Addr} {n3 c3 : Nat} {p z : Int} (h1 : ReadsI w0 S 1 A1 names.length (names.map sv)) (hS : ∀ k, S k → k < g) (hn : n.length < 4294967281) (hr : Ps.rankS n = 2) (hkl : (Ps.kws n).length ≤ n1) (hn1 : names.length = n1) (hm1 : n1 ≤ 9223372036854775807) (s1 : ∀ x ∈ names, x.length < 4294967281) (W : World) (v : Value) (s : Ps.Wr) (hB : Below g w0 W) (hw : WA W g base v s) :
  Calls Tryz.prog 65 #[.pointer (some ⟨g, 0, none⟩), .agg #[.int .i64 1, .string ⟨n.toArray⟩, .slice A1 n1 c1, .slice A2 n2 c2, .slice A3 n3 c3, .int .i64 p, .int .i64 z]] W (WC g base v (Ps.evs (Ps.patE n names) s) W) := by
 rw [Ps.patE_kw hr, Ps.evs_append]
 obtain ⟨r1, r2⟩ := Ps.rank2_parts hr
 have HNA := Hd fun W => isname_any ⟨n.toArray⟩ W (by rw [txt_size]; omega)
 have HNB := Hd fun W => isbin_any ⟨n.toArray⟩ W (by rw [txt_size]; omega)
 rw [txt_list, r1] at HNA
 rw [txt_list, r2] at HNB
 have HKS := Hd fun W => wkws_any n W (by omega)
 obtain ⟨nk, hnk⟩ : ∃ nk, (Ps.kws n).length = nk := ⟨_, rfl⟩
 have HNK := Hd hnk
 rw [hnk] at HKS hkl
 have HNL : Hid (∀ x ∈ Ps.kws n, x.length ≤ 140737488355328) := Hd fun x hx => by have := kws_len hx; omega
 have hnk9 : nk ≤ 9223372036854775807 := by omega
 have HB := Hd hB
 have HW := Hd hw
 have HS := Hd hS
 have HR : Hid (∀ W2, Below g w0 W2 → ReadsI W2 S 1 A1 names.length (names.map sv)) := Hd fun W2 hb => h1.keep hb.size fun k hk _ => hb.block k (hS k hk)
 have HSZ := Hd s1
 have HN1 := Hd hn1
 obtain ⟨fin, hfin⟩ : ∃ fin, Ps.evs (Ps.kpE (0 == 0) ((Ps.kws n).drop 0) (names.drop 0)) s = fin := ⟨_, rfl⟩
 rw [hfin]
 have HFIN := Hd hfin
 have HGW : Hid (g < W.heap.size) := Hd hw.blk.lt
 clear hB hw hS h1 s1 hn1 hr r1 r2 hnk hfin hn
 have HBG := Hd (new_below W (.cells #[.int .i64 1, .string ⟨n.toArray⟩, .slice A1 n1 c1, .slice A2 n2 c2, .slice A3 n3 c3, .int .i64 p, .int .i64 z] 27))
 go_enter Tryz.func65, Tryz.ntmps65
 go_upto_region 1 with (first
  | (go_at_call 113; refine (HNA.out _).mono ?_; rintro e w1 ⟨rfl, hb⟩; have HB1 := Hd (HBG.out.trans (hb.mono HBG.out.size)); have HK1 := Hd (new_blk hb); obtain ⟨a, b0, b1, b2, b3, b4, b5, b6⟩ := HK1.out.c7; clear hb)
  | (go_at_call 114; refine (HNB.out _).mono ?_; rintro e w2 ⟨rfl, hb⟩; have HB2 := Hd (HB1.out.trans (hb.mono HB1.out.size)); have HK2 := Hd (HK1.out.below hb HK1.out.lt); obtain ⟨a', b0', b1', b2', b3', b4', b5', b6'⟩ := HK2.out.c7; clear hb))
 have HW2 := Hd (HW.out.below HB2.out)
 have HB3 := Hd (HB.out.trans (HB2.out.mono (Nat.le_of_lt HGW.out)))
 go_wp2_with (go_at_call 115; refine (HKS.out _).mono ?_; rintro e w3 ⟨r, rfl, rfl⟩)
 have HX2 := Hd ((WPx.start HW2.out).below (new_below w2 (.cells (List.map sv (Ps.kws n) ++ [sv r]).toArray 9)))
 have HKK := Hd (Blk.new w2 9 (List.map sv (Ps.kws n) ++ [sv r]).toArray)
 have HKM := Hd (HK2.out.alloc (.cells (List.map sv (Ps.kws n) ++ [sv r]).toArray 9))
 generalize (w2.alloc (.cells (List.map sv (Ps.kws n) ++ [sv r]).toArray 9)) = w3 at *
 generalize hkb : w2.heap.size = kb at *
 obtain ⟨nb, hnb⟩ : ∃ nb, W.heap.size = nb := ⟨_, rfl⟩
 rw [hnb] at HKM ⊢
 clear hnb
 clear a b0 b1 b2 b3 b4 b5 b6 a' b0' b1' b2' b3' b4' b5' b6' HK1 HK2 hkb
 go_loopw [10] (fun i wr => KpR w2 g base v fin n r names kb nb #[.int .i64 1, .string ⟨n.toArray⟩, .slice A1 n1 c1, .slice A2 n2 c2, .slice A3 n3 c3, .int .i64 p, .int .i64 z] i wr) (fun i _ => nk - (intOf i).toNat)
 case atStart => exact ⟨0, v, s, Nat.zero_le _, rfl, HX2.out, HKK.out, HKM.out, HFIN.out⟩
 case round =>
  clear HX2 HKK HKM HFIN
  obtain ⟨k, v1, s1, hk, rfl, hx, hkb, hkm, hf⟩ := hrel
  have HX1 := Hd hx
  have HKB := Hd hkb
  have HKM := Hd hkm
  have HF := Hd hf
  clear hx hkb hkm hf
  rw [HNK.out] at hk
  have l1 : (0 : Int) ≤ (k : Int) := by omega
  obtain ⟨a, b0, b1, b2, b3, b4, b5, b6⟩ := HKM.out.c7
  by_cases hlt : k < nk
  rotate_left
  ·have HT : Hid (s1 = fin) := Hd (by
    have h := HF.out
    rw [List.drop_eq_nil_of_le (by rw [HNK.out]; omega)] at h
    exact h)
   have HPT := Hd (wput_new [[10]] HX1.out.wa (by simp) (by simp))
   go_wp2_with (go_at_call 66; refine HPT.out.mono ?_; rintro e w4 ⟨rfl, hp⟩; obtain ⟨v4, hx⟩ := HX1.out.step hp; have HX4 := Hd hx; clear hp hx)
   go_end0
   refine ⟨rfl, WP.from HB2.out ?_⟩
   rw [← HT.out]
   exact HX4.out.wp
  ·have hxk := List.getElem?_eq_getElem (l := Ps.kws n) (i := k) (by rw [HNK.out]; exact hlt)
   have hxl := HNL.out ((Ps.kws n)[k]'(by rw [HNK.out]; exact hlt)) (List.getElem_mem _)
   generalize (Ps.kws n)[k]'(by rw [HNK.out]; exact hlt) = x at hxk hxl
   have hyk := List.getElem?_eq_getElem (l := names) (i := k) (by rw [HN1.out]; omega)
   have hyl := HSZ.out (names[k]'(by rw [HN1.out]; omega)) (List.getElem_mem _)
   generalize names[k]'(by rw [HN1.out]; omega) = y at hyk hyl
   have HST := Hd (Ps.kp_step hxk hyk)
   have hcx : wr.cell? ⟨kb, k, none⟩ = some (.string ⟨x.toArray⟩) := by
    rw [HKB.out.cell k, List.getElem?_toArray, List.getElem?_append_left (by rw [List.length_map, HNK.out]; exact hlt), List.getElem?_map, hxk]; rfl
   have HRY : Hid (∀ W2, Below g w0 W2 → ∃ b off, A1 = some ⟨b, off, none⟩ ∧ b < W2.heap.size ∧ W2.cell? ⟨b, off + k, none⟩ = some (.string ⟨y.toArray⟩)) := Hd fun W2 hb => by
    obtain ⟨b, off, e, _, h2, h3⟩ := ReadsI.str (HR.out W2 hb) hyk
    exact ⟨b, off, e, h2, h3⟩
   have hkl2 := HKB.out.lt
   have l2 : (k : Int) < (nk : Int) := by omega
   have l3 : (k : Int) < (n1 : Int) := by omega
   clear hxk hyk
   rcases Nat.eq_zero_or_pos k with hk0 | hk0
   ·subst hk0
    have HB4 := Hd (HB3.out.trans (HX1.out.low HW2.out))
    obtain ⟨b, off, rfl, hbl, hcy⟩ := HRY.out wr HB4.out
    rw [Nat.add_zero] at hcy
    have HPT := Hd (wput_new [x, [32], y] HX1.out.wa (by simp; omega) (by simp))
    go_wp2_with (go_at_call 66; refine HPT.out.mono ?_; rintro e w4 ⟨rfl, hp⟩; have HK4 := Hd (hp.blk HX1.out.wa HKB.out (by decide) (by decide)); have HM4 := Hd (hp.blk HX1.out.wa HKM.out (by decide) (by decide)); obtain ⟨v4, hx⟩ := HX1.out.step hp; have HX4 := Hd hx; clear hp hx)
    refine ⟨⟨0 + 1, v4, _, by rw [HNK.out]; omega, rfl, HX4.out, HK4.out, HM4.out, ?_⟩, by simp [intOf]; omega⟩
    rw [← HF.out, HST.out]
    rfl
   ·have l4 : (0 : Int) < (k : Int) := by omega
    have hkn : ¬ k = 0 := by omega
    rw [if_neg hkn] at HST
    have HP0 := Hd (wput_new [[32]] HX1.out.wa (by simp) (by simp))
    go_upto_region 6 with (go_at_call 66; refine HP0.out.mono ?_; rintro e w4 ⟨rfl, hp⟩; have HK4 := Hd (hp.blk HX1.out.wa HKB.out (by decide) (by decide)); have HM4 := Hd (hp.blk HX1.out.wa HKM.out (by decide) (by decide)); obtain ⟨v4, hx⟩ := HX1.out.step hp; have HX4 := Hd hx; clear hp hx)
    clear hcx hkl2 a b0 b1 b2 b3 b4 b5 b6
    obtain ⟨a, b0, b1, b2, b3, b4, b5, b6⟩ := HM4.out.c7
    have HB4 := Hd (HB3.out.trans (HX4.out.low HW2.out))
    obtain ⟨b, off, rfl, hbl, hcy⟩ := HRY.out w4 HB4.out
    have HPT := Hd (wput_new [x, [32], y] HX4.out.wa (by simp; omega) (by simp))
    go_wp2_with (go_at_call 66; refine HPT.out.mono ?_; rintro e w5 ⟨rfl, hp⟩; have HK5 := Hd (hp.blk HX4.out.wa HK4.out (by decide) (by decide)); have HM5 := Hd (hp.blk HX4.out.wa HM4.out (by decide) (by decide)); obtain ⟨v5, hx⟩ := HX4.out.step hp; have HX5 := Hd hx; clear hp hx)
    refine ⟨⟨k + 1, v5, _, by rw [HNK.out]; omega, by go_num, HX5.out, HK5.out, HM5.out, ?_⟩, by simp [intOf]; omega⟩
    rw [← HF.out, HST.out]
    rfl
abbrev YesB (w : World) (e : Ending) (w' : World) : Prop := e = .returned (.bool true) ∧ Below w.heap.size w w'
set_option maxRecDepth 20000 in
theorem isint0_any (s : ByteArray) (w : World) (hs : s.size ≤ 1000) (h0 : 0 < s.size) (hall : s.data.toList.all Lx.digB = true) (hz : s.size = 1 ∨ s[0] ≠ 48) : Calls Tryz.prog 184 #[.string s] w (YesB w) := by
 have HTL := Hd (tl s)
 have hn0 : ¬ s.size = 0 := by omega
 have t0 : s.toList.isEmpty = false := by rw [HTL.out, List.isEmpty_eq_false_iff]; intro h; apply hn0; have := congrArg List.length h; simpa using this
 have t2 : (s.toList == []) = false := by rw [HTL.out, beq_eq_false_iff_ne]; intro h; apply hn0; have := congrArg List.length h; simpa using this
 have hd0 : Lx.digB (s[0]'h0) = true := by
  have := all_drop (p := Lx.digB) h0
  rw [List.drop_zero, hall] at this
  exact (Bool.and_eq_true _ _ ▸ this.symm).1
 have d45 : (((s[0]'h0).toNat : Int) == 45) = false := by
  have := Lx.all_u8 (p := fun b => !Lx.digB b || !((b.toNat : Int) == 45)) (by decide +kernel) (s[0]'h0)
  rw [hd0] at this
  simpa using this
 have hcv := fun W => Lib.run_convert_string_bytes (P := Tryz.prog) W 9 47 5 s Tryz.underlying9 Tryz.underlying47 Tryz.underlying5
 have HAL := Hd hall
 have e1 : ¬ (1000 : Int) < (s.size : Int) := by omega
 have HSZ := Hd hs
 have main : (s.size = 1 ∧ ¬ (1 : Int) < (s.size : Int)) ∨ ((1 : Int) < (s.size : Int) ∧ (((s[0]'h0).toNat : Int) == 48) = false) := by
  rcases Nat.lt_or_ge 1 s.size with h1 | h1
  ·refine .inr ⟨by omega, ?_⟩
   have hne := hz.resolve_left (by omega)
   rw [beq_eq_false_iff_ne]
   intro e
   apply hne
   have : (s[0]'h0).toNat = 48 := by omega
   exact UInt8.toNat_inj.1 this
  ·exact .inl ⟨by omega, by omega⟩
 clear hz hall hs hd0
 rcases main with ⟨-, m1⟩ | ⟨m1, m2⟩
 ·go_enter Tryz.func184, Tryz.ntmps184
  go_upto_block 0 with fail
  have HBW := Hd (BW.new w s)
  have HB := Hd (bw_below w s)
  generalize Lib.bytesWorld w 5 s = w1 at HBW HB ⊢
  generalize hg : w.heap.size = g at HBW HB ⊢
  have HG := Hd hg
  clear hcv hg
  go_wp2
  go_loopw [45] (fun i wr => ∃ k : Nat, k ≤ s.size ∧ i = .int .i64 k ∧ (s.data.toList.drop k).all Lx.digB = true ∧ BW w wr g s ∧ Below g w wr) (fun i _ => s.size - (intOf i).toNat)
  case atStart => exact ⟨0, Nat.zero_le _, rfl, HAL.out, HBW.out, HB.out⟩
  case round =>
   obtain ⟨k, hk, rfl, ha, hbw, hb⟩ := hrel
   have HA := Hd ha
   have HW := Hd hbw
   have HB2 := Hd hb
   have hgs : g < wr.heap.size := hbw.lt
   clear ha hbw hb
   by_cases hlt : k < s.size
   ·have c1 := HW.out.cell k hlt
    have hD := all_drop (p := Lx.digB) hlt
    rw [HA.out] at hD
    have hD2 := Bool.and_eq_true _ _ ▸ hD.symm
    have HN := Hd hD2.2
    have h3 : Lx.cls (s[k]'hlt) = 3 := by simpa [Lx.digB] using hD2.1
    have d3 : ((Lx.cls (s[k]'hlt) : Int) != 3) = false := by rw [h3]; rfl
    clear hD hD2 h3
    go_wp2_with (go_at_call 131; refine (class_any _ _).mono ?_; rintro e w' ⟨rfl, hb'⟩; have HB3 := Hd hb'; clear hb')
    go_roundw
    case rel => exact ⟨k + 1, hlt, by go_num, HN.out, HW.out.below HB3.out, HB2.out.trans (HB3.out.mono (by omega))⟩
    case measure => simp [intOf]; omega
   ·go_wp2
    go_ret
    exact ⟨rfl, by rw [HG.out]; exact HB2.out⟩
 ·go_enter Tryz.func184, Tryz.ntmps184
  go_upto_block 0 with fail
  have HBW := Hd (BW.new w s)
  have HB := Hd (bw_below w s)
  generalize Lib.bytesWorld w 5 s = w1 at HBW HB ⊢
  generalize hg : w.heap.size = g at HBW HB ⊢
  have HG := Hd hg
  clear hcv hg
  go_wp2
  go_loopw [45] (fun i wr => ∃ k : Nat, k ≤ s.size ∧ i = .int .i64 k ∧ (s.data.toList.drop k).all Lx.digB = true ∧ BW w wr g s ∧ Below g w wr) (fun i _ => s.size - (intOf i).toNat)
  case atStart => exact ⟨0, Nat.zero_le _, rfl, HAL.out, HBW.out, HB.out⟩
  case round =>
   obtain ⟨k, hk, rfl, ha, hbw, hb⟩ := hrel
   have HA := Hd ha
   have HW := Hd hbw
   have HB2 := Hd hb
   have hgs : g < wr.heap.size := hbw.lt
   clear ha hbw hb
   by_cases hlt : k < s.size
   ·have c1 := HW.out.cell k hlt
    have hD := all_drop (p := Lx.digB) hlt
    rw [HA.out] at hD
    have hD2 := Bool.and_eq_true _ _ ▸ hD.symm
    have HN := Hd hD2.2
    have h3 : Lx.cls (s[k]'hlt) = 3 := by simpa [Lx.digB] using hD2.1
    have d3 : ((Lx.cls (s[k]'hlt) : Int) != 3) = false := by rw [h3]; rfl
    clear hD hD2 h3
    go_wp2_with (go_at_call 131; refine (class_any _ _).mono ?_; rintro e w' ⟨rfl, hb'⟩; have HB3 := Hd hb'; clear hb')
    go_roundw
    case rel => exact ⟨k + 1, hlt, by go_num, HN.out, HW.out.below HB3.out, HB2.out.trans (HB3.out.mono (by omega))⟩
    case measure => simp [intOf]; omega
   ·go_wp2
    go_ret
    exact ⟨rfl, by rw [HG.out]; exact HB2.out⟩
theorem intF_cons {c : UInt8} {t : Lx.Txt} (h : Ps.intF (c :: t) = true) : (c = 45 ∧ t ≠ [] ∧ t ≠ [48] ∧ Ps.intF t = true ∧ t.head? ≠ some 45) ∨ ((c :: t).length ≤ 1000 ∧ (t = [] ∨ c ≠ 48) ∧ (c :: t).all Lx.digB = true) := by
 rw [Ps.intF] at h
 split at h
 ·rename_i hc
  simp only [Bool.and_eq_true, decide_eq_true_eq, Bool.not_eq_true', List.isEmpty_eq_false_iff] at hc
  simp only [Bool.and_eq_true, bne_iff_ne, ne_eq] at h
  exact .inl ⟨hc.1, hc.2, h.1.1, h.1.2, h.2⟩
 ·simp only [Bool.and_eq_true, decide_eq_true_eq, Bool.not_eq_true', Bool.and_eq_false_iff, List.isEmpty_iff, beq_eq_false_iff_ne, ne_eq, Bool.not_eq_false'] at h
  exact .inr ⟨h.1.1, h.1.2, h.2⟩
set_option maxRecDepth 20000 in
theorem isint_any (x : Lx.Txt) (w : World) (h : Ps.intF x = true) (hn : x.head? ≠ some 45) : Calls Tryz.prog 184 #[.string ⟨x.toArray⟩] w (YesB w) := by
 have plain : ∀ y : Lx.Txt, y ≠ [] → (y.length ≤ 1000 ∧ (y.tail = [] ∨ y.head? ≠ some 48) ∧ y.all Lx.digB = true) → ∀ W, Calls Tryz.prog 184 #[.string ⟨y.toArray⟩] W (YesB W) := fun y hy h W => by
  cases y with
  | nil => exact absurd rfl hy
  | cons c t =>
   refine isint0_any ⟨(c :: t).toArray⟩ W (by rw [txt_size]; exact h.1) (by rw [txt_size]; simp) (by rw [txt_list]; exact h.2.2) ?_
   rcases h.2.1 with h1 | h1
   ·left; rw [txt_size]; have : t = [] := h1; rw [this]; rfl
   ·right; intro e; apply h1; show some c = some 48; rw [← e]; rfl
 cases x with
 | nil => cases h
 | cons c t =>
  rcases intF_cons h with ⟨rfl, _⟩ | h1
  ·exact absurd rfl hn
  ·exact plain _ (by simp) ⟨h1.1, h1.2.1.imp id (fun h => by simpa using h), h1.2.2⟩ w
def SayP (w0 : World) (g F : Nat) (cs : List Value) (_ : Ps.Tr) : Prop := (∃ (y0 y5 y6 : Int) (nm : Lx.Txt) (B : Option Addr) (r d : Nat) (B' : Option Addr) (r' d' : Nat) (A : Option Addr) (n c : Nat), cs = [.int .i64 y0, .string ⟨nm.toArray⟩, .slice B r d, .slice B' r' d', .slice A n c, .int .i64 y5, .int .i64 y6]) ∧ ∀ W, Below g w0 W → Calls Tryz.prog F #[.agg cs.toArray] W (YesB W)
set_option maxRecDepth 20000 in
theorem allc_any {w0 W : World} {g F kb : Nat} {cs : List Value} {t : Ps.Tr} (hF : F = 145 ∨ F = 183 ∨ F = 185 ∨ F = 186) (h : SayP w0 g F cs t) (hB : Below g w0 W) (hg : g ≤ W.heap.size) (hk : Blk W kb 59 #[.func (.func F) #[] #[]]) :
 Calls Tryz.prog 205 #[.agg cs.toArray, .pointer (some ⟨kb, 0, none⟩)] W fun e w' => e = .returned (.bool false) ∧ Below W.heap.size W w' := by
 obtain ⟨⟨y0, y5, y6, nm, B, r, d, B', r', d', A, n, c, rfl⟩, hc⟩ := h
 have HC := Hd hc
 have HBG := Hd (new_below W (.cells #[.int .i64 y0, .string ⟨nm.toArray⟩, .slice B r d, .slice B' r' d', .slice A n c, .int .i64 y5, .int .i64 y6] 27))
 have HB := Hd (hB.trans (HBG.out.mono hg))
 have hkl := hk.lt
 have hkc := (hk.below HBG.out hkl).cell 0
 clear hc hB hk
 rcases hF with rfl | rfl | rfl | rfl
 ·go_enter Tryz.func205, Tryz.ntmps205
  go_wp2_with (go_at_call 145; refine (HC.out _ HB.out).mono ?_; rintro e w1 ⟨rfl, hb⟩; have HB1 := Hd (HBG.out.trans (hb.mono HBG.out.size)); clear hb)
  go_ret
  exact ⟨rfl, HB1.out⟩
 ·go_enter Tryz.func205, Tryz.ntmps205
  go_wp2_with (go_at_call 183; refine (HC.out _ HB.out).mono ?_; rintro e w1 ⟨rfl, hb⟩; have HB1 := Hd (HBG.out.trans (hb.mono HBG.out.size)); clear hb)
  go_ret
  exact ⟨rfl, HB1.out⟩
 ·go_enter Tryz.func205, Tryz.ntmps205
  go_wp2_with (go_at_call 185; refine (HC.out _ HB.out).mono ?_; rintro e w1 ⟨rfl, hb⟩; have HB1 := Hd (HBG.out.trans (hb.mono HBG.out.size)); clear hb)
  go_ret
  exact ⟨rfl, HB1.out⟩
 ·go_enter Tryz.func205, Tryz.ntmps205
  go_wp2_with (go_at_call 186; refine (HC.out _ HB.out).mono ?_; rintro e w1 ⟨rfl, hb⟩; have HB1 := Hd (HBG.out.trans (hb.mono HBG.out.size)); clear hb)
  go_ret
  exact ⟨rfl, HB1.out⟩
set_option maxRecDepth 20000 in
theorem idxf_any {w0 W : World} {S : Nat → Prop} {g F kb m c : Nat} {A : Option Addr} {l : List Ps.Tr} (hF : F = 145 ∨ F = 183 ∨ F = 185 ∨ F = 186) (hA : RwC (SayP w0 g F) w0 S A l) (hS : ∀ k, S k → k < g) (hm : l.length = m) (hm9 : m ≤ 9223372036854775807) (hB : Below g w0 W) (hg : g ≤ W.heap.size) (hk : Blk W kb 59 #[.func (.func F) #[] #[]]) :
 Calls Tryz.prog 226 #[.slice A m c, .func (.func 205) #[] #[.pointer (some ⟨kb, 0, none⟩)]] W fun e w' => e = .returned (.int .i64 (-1)) ∧ Below W.heap.size W w' := by
 have HA := Hd hA
 have HS := Hd hS
 have HM := Hd hm
 have HB := Hd hB
 have HK := Hd hk
 have HG := Hd hg
 clear hA hS hm hB hk hg
 go_enter Tryz.func226, Tryz.ntmps226
 go_wp2
 go_loopw [8] (fun i wr => ∃ k : Nat, k ≤ m ∧ i = .int .i64 k ∧ Below W.heap.size W wr) (fun i _ => m - (intOf i).toNat)
 case atStart => exact ⟨0, Nat.zero_le _, rfl, Below.refl _ _⟩
 case round =>
  obtain ⟨k, hk, rfl, hb⟩ := hrel
  have HB2 := Hd hb
  clear hb
  by_cases hlt : k < m
  ·obtain ⟨q, hq⟩ : ∃ q, l[k]? = some q := ⟨_, List.getElem?_eq_getElem (by rw [HM.out]; exact hlt)⟩
   have HB3 := Hd (HB.out.trans (HB2.out.mono HG.out))
   obtain ⟨b, off, x0, x1, x2, x3, x4, x5, x6, rfl, hbg, hbl, hP, a0, a1, a2, a3, a4, a5, a6⟩ := HA.out.at_ HS.out HB3.out hq
   have hz := HB2.out.size
   have HC : Hid (Calls Tryz.prog 205 #[.agg #[x0, x1, x2, x3, x4, x5, x6], .pointer (some ⟨kb, 0, none⟩)] wr fun e w' => e = .returned (.bool false) ∧ Below wr.heap.size wr w') := Hd (allc_any hF hP HB3.out (Nat.le_trans HG.out hz) (HK.out.below HB2.out HK.out.lt))
   have l1 : (0 : Int) ≤ (k : Int) := by omega
   have l2 : (k : Int) < (m : Int) := by omega
   clear hP hq
   go_wp2_with (go_at_call 205; refine HC.out.mono ?_; rintro e w1 ⟨rfl, hb⟩; have HB4 := Hd (HB2.out.trans (hb.mono HB2.out.size)); clear hb)
   go_roundw
   case rel => exact ⟨k + 1, by omega, by go_num, HB4.out⟩
   case measure => simp [intOf]; omega
  ·go_wp2
   go_ret
   exact ⟨rfl, HB2.out⟩
set_option maxRecDepth 20000 in
theorem wall_of {w0 W : World} {S : Nat → Prop} {g F m c : Nat} {A : Option Addr} {l : List Ps.Tr} (hF : F = 145 ∨ F = 183 ∨ F = 185 ∨ F = 186) (hA : RwC (SayP w0 g F) w0 S A l) (hS : ∀ k, S k → k < g) (hm : l.length = m) (hm9 : m ≤ 9223372036854775807) (hB : Below g w0 W) (hg : g ≤ W.heap.size) :
 Calls Tryz.prog 182 #[.slice A m c, .func (.func F) #[] #[]] W (YesB W) := by
 have HBG := Hd (new_below W (.cells #[.func (.func F) #[] #[]] 59))
 have HI := Hd (idxf_any (c := c) hF hA hS hm hm9 (hB.trans (HBG.out.mono hg)) (Nat.le_trans hg HBG.out.size) (Blk.new W 59 #[.func (.func F) #[] #[]]))
 have HC : Hid (Calls Tryz.prog 204 #[.slice A m c, .func (.func 205) #[] #[.pointer (some ⟨W.heap.size, 0, none⟩)]] (W.alloc (.cells #[.func (.func F) #[] #[]] 59)) fun e w' => e = .returned (.bool false) ∧ Below (W.alloc (.cells #[.func (.func F) #[] #[]] 59)).heap.size (W.alloc (.cells #[.func (.func F) #[] #[]] 59)) w') := Hd (by
  generalize (W.alloc (.cells #[.func (.func F) #[] #[]] 59)) = w1 at *
  generalize W.heap.size = kb at *
  go_enter Tryz.func204, Tryz.ntmps204
  go_wp2_with (go_at_call 226; refine HI.out.mono ?_; rintro e w2 ⟨rfl, hb⟩)
  go_ret
  exact ⟨rfl, hb⟩)
 have hmf : ∀ (fn : Fn) (first cap : Array Value) (w : World), (Instr.makeFunc fn first cap).run Tryz.prog w = .ok (.func fn first cap) w := fun _ _ _ _ => rfl
 clear HI hA hS hm hB
 go_enter Tryz.func182, Tryz.ntmps182
 go_wp2_with (go_at_call 204; refine HC.out.mono ?_; rintro e w2 ⟨rfl, hb⟩; have HB2 := Hd (HBG.out.trans (hb.mono HBG.out.size)); clear hb)
 go_ret
 exact ⟨rfl, HB2.out⟩
end Go.Proofs.YtjhonaglmgmpiaaGreatDoor
