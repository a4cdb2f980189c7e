/-
  Parts PwD, PwE, PwF, PxA, PxB, PxC, PxD, PxK of the proof. No statement of the seat is proved here.
-/
import Derived.Test.YtjhonaglmgmpiaaGreatDoorP09
import Derived.Test.YtjhonaglmgmpiaaGreatDoorP07
import Derived.Deep.RegionLaw
set_option maxHeartbeats 4000000
namespace Go.Proofs.YtjhonaglmgmpiaaGreatDoor
open Go.RowKit
def smF (limit n : Nat) (l : Lx.Txt) : Nat := l.foldl (fun n b => min (10 * n + (b - 48).toNat) (limit + 1)) n
theorem sm_int {b : UInt8} {n limit : Nat} : (if (limit : Int) + 1 < 10 * (n : Int) + ((b.toNat : Int) - 48) % 256 then (limit : Int) + 1 else 10 * (n : Int) + ((b.toNat : Int) - 48) % 256) = ((min (10 * n + (b - 48).toNat) (limit + 1) : Nat) : Int) := by
 have h : (((b - 48).toNat : Nat) : Int) = ((b.toNat : Int) - 48) % 256 := by
  rw [UInt8.toNat_sub]
  have : (48 : UInt8).toNat = 48 := rfl
  rw [this]
  omega
 rw [← h]
 split <;> omega
theorem smF_step {limit n k : Nat} {l : Lx.Txt} {b : UInt8} (h : l[k]? = some b) : smF limit n (l.drop k) = smF limit (min (10 * n + (b - 48).toNat) (limit + 1)) (l.drop (k + 1)) := by
 obtain ⟨hk, rfl⟩ := List.getElem?_eq_some_iff.1 h
 unfold smF
 rw [List.drop_eq_getElem_cons hk, List.foldl_cons]
set_option maxRecDepth 20000 in
theorem psmall_any {w : World} {g c fin : Nat} {A : Option Addr} {T : List Lx.Tk} {s : Ps.PS} (h : PA w g A c T fin s) (t : Lx.Tk) (limit : Nat) (hl : limit ≤ 1000) (ht : t.2.1.length ≤ 65536) :
  Calls Tryz.prog 34 #[.pointer (some ⟨g, 0, none⟩), .agg #[.int .i64 ((t).1 : Int), .string ⟨(t).2.1.toArray⟩, .int .i64 ((t).2.2 : Int)], .int .i64 (limit : Int)] w fun e' w' => e' = .returned (.int .i64 (Ps.small t.2.1 limit : Nat)) ∧ PP w g A c T fin (Ps.smallS t limit s) w' := by
 have E0 := (Env.start h).box 37 [.int .i64 (t.1 : Int), .string ⟨t.2.1.toArray⟩, .int .i64 (t.2.2 : Int)] (by decide)
 have HR : Hid (smF limit 0 t.2.1 = Ps.small t.2.1 limit) := Hd rfl
 have HS : Hid (Ps.smallS t limit s = if limit < Ps.small t.2.1 limit then Ps.rf s t.2.2 123 else s) := Hd rfl
 have hcv := fun (w : World) => Lib.run_convert_string_bytes (P := Tryz.prog) w 9 47 5 ⟨t.2.1.toArray⟩ Tryz.underlying9 Tryz.underlying47 Tryz.underlying5
 generalize Ps.small t.2.1 limit = R at *
 clear h
 go_enter Tryz.func34, Tryz.ntmps34
 go_wp2
 clear hcv
 have hsz : (w.alloc (.cells #[.int .i64 (t.1 : Int), .string ⟨t.2.1.toArray⟩, .int .i64 (t.2.2 : Int)] 37)).heap.size = w.heap.size + 1 := by simp
 have hdr := DR.new (w.alloc (.cells #[.int .i64 (t.1 : Int), .string ⟨t.2.1.toArray⟩, .int .i64 (t.2.2 : Int)] 37)) ⟨t.2.1.toArray⟩
 rw [hsz] at hdr
 have E1 := E0.below (Joins.below_bytesWorld _ _ 5 ⟨t.2.1.toArray⟩ (Nat.le_refl _))
 go_loopw [7, 9, 14] (fun v _ i wr => ∃ k n : Nat, k ≤ t.2.1.length ∧ i = .int .i64 k ∧ v = .int .i64 n ∧ n ≤ limit + 1 ∧ smF limit n (t.2.1.drop k) = R ∧ Env w g A c T fin s [⟨w.heap.size, 37, [.int .i64 (t.1 : Int), .string ⟨t.2.1.toArray⟩, .int .i64 (t.2.2 : Int)]⟩] wr ∧ DR wr (w.heap.size + 1) t.2.1) (fun _ _ i _ => t.2.1.length - (intOf i).toNat)
 case atStart => exact ⟨0, 0, Nat.zero_le _, rfl, rfl, Nat.zero_le _, HR.out, E1, hdr⟩
 case round =>
  obtain ⟨k, n, hk, rfl, rfl, hn, hf, E2, hd⟩ := hrel
  have HF := Hd hf
  have HD := Hd hd
  clear hf hd E0 E1 hdr
  by_cases hlt : k < t.2.1.length
  ·have hy := List.getElem?_eq_getElem hlt
   generalize t.2.1[k] = b at hy
   have hc := HD.out.cell hy
   have hdl := HD.out.lt
   have HB := Hd (smF_step (limit := limit) (n := n) hy)
   have l1 : (0 : Int) ≤ (k : Int) := by omega
   have l2 : (k : Int) < (t.2.1.length : Int) := by omega
   have hb256 := b.toNat_lt
   clear hy
   go_wp2
   go_roundw
   case rel => exact ⟨k + 1, min (10 * n + (b - 48).toNat) (limit + 1), hlt, by go_num, by rw [sm_int], Nat.min_le_right _ _, by rw [← HB.out]; exact HF.out, E2, HD.out⟩
   case measure => simp [intOf]; omega
  ·have HE : Hid (n = R) := Hd (by have := HF.out; rw [List.drop_eq_nil_of_le (by omega)] at this; exact this)
   have HE2 := HE
   obtain ⟨a, a0, a1, a2⟩ := E2.c3 0 rfl
   by_cases hq : limit < n
   ·have HS2 : Hid (Ps.smallS t limit s = Ps.rf s t.2.2 123) := Hd (by rw [HS.out, ← HE.out, if_pos hq])
    go_wp2_with (go_at_call 74; refine (prefuse_any E2.pa t.2.2 123).mono ?_; rintro e w4 ⟨rfl, hp⟩; have E4 := E2.call hp; clear hp)
    go_ret
    exact ⟨by rw [HE.out]; rfl, by rw [HS2.out]; exact E4.pp⟩
   ·have HS2 : Hid (Ps.smallS t limit s = s) := Hd (by rw [HS.out, ← HE.out, if_neg hq])
    go_wp2
    go_ret
    exact ⟨by rw [HE.out]; rfl, by rw [HS2.out]; exact E2.pp⟩
theorem ret26x {fn : Func} {p u1 u2 : Tmp} (h : fn.results = #[.cell p 27, .tmp u1, .tmp u2]) (tmps : Array Value) (w : World) {k : Nat} {x0 x1 x2 x3 x4 x5 x6 : Value} (hp : tmps.getD p undef = .pointer (some ⟨k, 0, none⟩)) (hb : Blk w k 27 #[x0, x1, x2, x3, x4, x5, x6]) :
  (results fn tmps).run Tryz.prog w = .ok (.tuple #[.agg #[x0, x1, x2, x3, x4, x5, x6], tmps.getD u1 undef, tmps.getD u2 undef]) w := by
 have hp' : tmps[p]?.getD undef = .pointer (some ⟨k, 0, none⟩) := by simpa using hp
 simp [results, h, hp', asAddr, run_loadVar_row w k 27 27 _ (0, 0) _ hb Tryz.underlying27 rfl (by kernel_rfl)]
theorem PA.flt {w : World} {g c fin : Nat} {A : Option Addr} {T : List Lx.Tk} {s : Ps.PS} (h : PA w g A c T fin s) {x : Nat × Nat} (hs : s.fault = some x) : ∃ k, k ≠ g ∧ k < w.heap.size ∧ w.cell? ⟨g, 4, none⟩ = some (.pointer (some ⟨k, 0, none⟩)) ∧ w.cell? ⟨k, 0, none⟩ = some (.int .i64 (x.1 : Int)) ∧ w.cell? ⟨k, 1, none⟩ = some (.int .i64 (x.2 : Int)) ∧ Blk w k 122 #[.int .i64 (x.1 : Int), .int .i64 (x.2 : Int)] := by
 obtain ⟨fv, hb, hf⟩ := h.ex
 rw [hs] at hf
 obtain ⟨k, e, hk⟩ := hf
 exact ⟨k, Blk.ne_ hk hb (by decide), hk.lt, by rw [hb.cell 4]; show some fv = _; rw [e], hk.cell 0, hk.cell 1, hk⟩
def FinP (w : World) (f : Option (Nat × Nat)) (cs : List Value) (e : Ending) (w' : World) : Prop := Below w.heap.size w w' ∧ e = .returned (.tuple (match f with
   | none => #[.agg cs.toArray, .int .i64 0, .int .i64 0]
   | some x => #[.agg #[.int .i64 0, .string ⟨#[]⟩, .slice none 0 0, .slice none 0 0, .slice none 0 0, .int .i64 0, .int .i64 0], .int .i64 (x.1 : Int), .int .i64 (x.2 : Int)]))
set_option maxRecDepth 20000 in
theorem pfin_any {w : World} {g c fin : Nat} {A : Option Addr} {T : List Lx.Tk} {s : Ps.PS} (h : PA w g A c T fin s) {cs : List Value} {tr : Ps.Tr} {S : Nat → Prop} (ht : TrIn w S cs tr) :
  Calls Tryz.prog 37 #[.pointer (some ⟨g, 0, none⟩), .agg cs.toArray] w (FinP w s.fault cs) := by
 obtain ⟨q0, q1, A1, n1, c1, A2, n2, c2, A3, n3, c3, q5, q6, rfl, -⟩ := ht.seven
 clear ht
 have E0 := ((Env.start h).box 27 [.int .i64 (q0 : Int), .string ⟨q1.toArray⟩, .slice A1 n1 c1, .slice A2 n2 c2, .slice A3 n3 c3, .int .i64 (q5 : Int), .int .i64 (q6 : Int)] (by decide)).boxk (w.heap.size + 1) (by simp) 27 [.int .i64 0, .string ⟨#[]⟩, .slice none 0 0, .slice none 0 0, .slice none 0 0, .int .i64 0, .int .i64 0] (by decide)
 have HB0 : Below w.heap.size w _ := (new_below w (.cells #[.int .i64 (q0 : Int), .string ⟨q1.toArray⟩, .slice A1 n1 c1, .slice A2 n2 c2, .slice A3 n3 c3, .int .i64 (q5 : Int), .int .i64 (q6 : Int)] 27)).trans ((new_below _ (.cells #[.int .i64 0, .string ⟨#[]⟩, .slice none 0 0, .slice none 0 0, .slice none 0 0, .int .i64 0, .int .i64 0] 27)).mono (by simp))
 clear h
 go_enter Tryz.func37, Tryz.ntmps37
 go_upto_region 1 with fail
 refine wp_env2 E0 (fun W => Below w.heap.size w W) HB0 fun w1 E1 hb1 => ?_
 have HB1 := Hd hb1
 clear E0 HB0 hb1
 have hg := E1.pa.lt
 obtain ⟨a, a0, a1, a2, a3, a4, a5, a6⟩ := E1.c7 1 rfl
 obtain ⟨b, b0, b1, b2, b3, b4, b5, b6⟩ := E1.c7 0 rfl
 have f := E1.fz 0 rfl
 have lo := E1.lo 0 rfl
 have hgl := E1.gl
 cases hs : s.fault with
 | none =>
  have k4 := E1.pa.okc (by unfold Ps.ok; rw [hs]; rfl)
  have HSF := Hd hs
  clear hs
  go_wp2
  have E4 := E1.put7 0 rfl (.int .i64 (q0 : Int)) (.string ⟨q1.toArray⟩) (.slice A1 n1 c1) (.slice A2 n2 c2) (.slice A3 n3 c3) (.int .i64 (q5 : Int)) (.int .i64 (q6 : Int))
  refine bodyPost_ret (ret26x rfl _ _ rfl (E4.blk 0 rfl)) rfl ⟨?_, by rw [HSF.out]; rfl⟩
  exact below_set7 HB1.out lo _ _ _ _ _ _ _
 | some x =>
  obtain ⟨kq, hkg, hkl, k4, kp, ke, hkb⟩ := E1.pa.flt hs
  have HSF := Hd hs
  clear hs
  have n1 : w.heap.size + 1 ≠ g := by omega
  have n2 : w.heap.size + 1 ≠ kq := Ne.symm (Blk.ne_ hkb (E1.blk 0 rfl) (by decide))
  clear hkb
  have HE1 := Hd E1
  have LO := Hd lo
  clear a a0 a1 a2 a3 a4 a5 a6 E1 lo hgl
  go_upto_region 2 with fail
  go_region_held3 (fun W => W.cell? ⟨g, 4, none⟩ = some (.pointer (some ⟨kq, 0, none⟩)) ∧ W.cell? ⟨kq, 0, none⟩ = some (.int .i64 (x.1 : Int)) ∧ W.cell? ⟨kq, 1, none⟩ = some (.int .i64 (x.2 : Int))) (first | go_keep) ((first | fail))
  all_goals
   go_wp2
   have E4 := (HE1.out.put7 0 rfl (.int .i64 0) (.string ⟨#[]⟩) (.slice none 0 0) (.slice none 0 0) (.slice none 0 0) (.int .i64 0) (.int .i64 0)).drew
   refine bodyPost_ret (ret26x rfl _ _ rfl (E4.blk 0 rfl)) rfl ⟨?_, by rw [HSF.out]; rfl⟩
   exact (below_set7 HB1.out LO.out _ _ _ _ _ _ _).drew
set_option maxRecDepth 20000 in
theorem palike_any {w : World} {cs1 cs2 : List Value} {a n : Ps.Tr} {S1 S2 : Nat → Prop} (h1 : TrIn w S1 cs1 a) (h2 : TrIn w S2 cs2 n) (w0 : World) :
  Calls Tryz.prog 164 #[.agg cs1.toArray, .agg cs2.toArray] w0 fun e w' => e = .returned (.bool (a.place == n.place && a.kind == n.kind)) ∧ Below w0.heap.size w0 w' := by
 obtain ⟨p0, p1, A1, n1, c1, A2, n2, c2, A3, n3, c3, p5, p6, rfl, rfl, -, rfl, -⟩ := h1.seven
 obtain ⟨q0, q1, B1, m1, d1, B2, m2, d2, B3, m3, d3, q5, q6, rfl, rfl, -, rfl, -⟩ := h2.seven
 clear h1 h2
 generalize a.place = ap
 generalize a.kind = ak
 generalize n.place = np
 generalize n.kind = nk
 have e1 := kd_eqb ap np
 have HB : Hid (Below w0.heap.size w0 ((w0.alloc (.cells #[.int .i64 (ak : Int), .string ⟨p1.toArray⟩, .slice A1 n1 c1, .slice A2 n2 c2, .slice A3 n3 c3, .int .i64 (p5 : Int), .int .i64 (ap : Int)] 27)).alloc (.cells #[.int .i64 (nk : Int), .string ⟨q1.toArray⟩, .slice B1 m1 d1, .slice B2 m2 d2, .slice B3 m3 d3, .int .i64 (q5 : Int), .int .i64 (np : Int)] 27))) := Hd ((new_below _ _).trans ((new_below _ _).mono (by simp)))
 cases h : (ap == np) with
 | true =>
  rw [h] at e1
  clear h
  go_enter Tryz.func164, Tryz.ntmps164
  go_wp2
  go_ret
  exact ⟨ret_bool (by rw [← kd_eqb]; rfl), HB.out⟩
 | false =>
  rw [h] at e1
  clear h
  go_enter Tryz.func164, Tryz.ntmps164
  go_wp2
  go_ret
  exact ⟨ret_bool rfl, HB.out⟩
set_option maxRecDepth 20000 in
theorem psent_any {w : World} {cs1 cs2 : List Value} {a n : Ps.Tr} {S1 S2 : Nat → Prop} (h1 : TrIn w S1 cs1 a) (h2 : TrIn w S2 cs2 n) (w0 : World) :
  Calls Tryz.prog 126 #[.agg cs1.toArray, .agg cs2.toArray] w0 fun e w' => e = .returned (.bool (Ps.sent a n)) ∧ Below w0.heap.size w0 w' := by
 have HA := Hd fun w0 => palike_any h1 h2 w0
 have HE : Hid (Ps.sent a n = (n.kind == 5 && !(a.place == n.place && a.kind == n.kind))) := Hd rfl
 obtain ⟨p0, p1, A1, n1, c1, A2, n2, c2, A3, n3, c3, p5, p6, rfl, -⟩ := h1.seven
 obtain ⟨q0, q1, B1, m1, d1, B2, m2, d2, B3, m3, d3, q5, q6, rfl, rfl, -⟩ := h2.seven
 clear h1 h2
 obtain ⟨r, hr⟩ : ∃ r, (a.place == n.place && a.kind == n.kind) = r := ⟨_, rfl⟩
 rw [hr] at HA HE
 clear hr
 generalize n.kind = nk at *
 have e1 := kd_eqb nk 5
 cases h : (nk == 5) with
 | true =>
  rw [h] at e1 HE
  clear h
  have d1 : ((nk : Int) == 5) = true := e1
  clear e1
  go_enter Tryz.func126, Tryz.ntmps126
  go_wp2_with (go_at_call 164; refine (HA.out _).mono ?_; rintro e w4 ⟨rfl, hb⟩; have HB := Hd hb; clear hb)
  go_ret
  exact ⟨ret_bool (by rw [HE.out]; rfl), ((new_below _ _).trans ((new_below _ _).mono (by simp))).trans (HB.out.mono (by simp; omega))⟩
 | false =>
  rw [h] at e1 HE
  clear h
  have d1 : ((nk : Int) == 5) = false := e1
  clear e1
  go_enter Tryz.func126, Tryz.ntmps126
  go_wp2
  go_ret
  exact ⟨ret_bool (by rw [HE.out]; rfl), (new_below _ _).trans ((new_below _ _).mono (by simp))⟩
structure Bd (T : List Lx.Tk) (s : Ps.PS) : Prop where
 at_ : s.at_ ≤ T.length + 1
 ok : Ps.ok s = true → s.at_ ≤ T.length ∧ -(s.at_ : Int) ≤ s.deep ∧ s.deep ≤ (s.at_ : Int)
section
variable {T : List Lx.Tk} {fin : Nat} {s : Ps.PS}
theorem Bd.adv (h : Bd T s) (hlt : s.at_ < T.length) : Bd T (Ps.adv s) := ⟨by show s.at_ + 1 ≤ _; omega, fun hk => by
 have := h.ok hk
 refine ⟨hlt, ?_, ?_⟩
 ·show -((s.at_ + 1 : Nat) : Int) ≤ s.deep; omega
 ·show s.deep ≤ ((s.at_ + 1 : Nat) : Int); omega⟩
theorem Bd.bad (h : s.at_ ≤ T.length + 1) (hk : Ps.ok s = false) : Bd T s := ⟨h, fun hk' => by rw [hk] at hk'; cases hk'⟩
theorem Bd.rf (h : Bd T s) (p e : Nat) : Bd T (Ps.rf s p e) := Bd.bad h.at_ (Ps.rf_no _ _ _)
theorem Bd.want (h : Bd T s) {k : Nat} (hk : k ≠ 0) (x : Lx.Txt) : Bd T (Ps.want T fin k x s).2 := by
 unfold Ps.want
 split
 ·exact h.rf _ _
 ·rename_i hc
  have e : (Ps.nx T fin s).1 = k := by
   by_cases h1 : (Ps.nx T fin s).1 = k
   ·exact h1
   ·exact absurd (by simp [h1]) hc
  exact h.adv (Ps.nx_lt (fin := fin) (by rw [e]; exact hk))
theorem Bd.opn (h : Bd T s) (hk : Ps.ok s = true) (hlt : s.at_ < T.length) : Bd T (Ps.opn T fin s) := by
 have := h.ok hk
 unfold Ps.opn
 split
 ·exact Bd.bad (by show s.at_ + 1 ≤ _; omega) (Ps.rf_no _ _ _)
 ·refine ⟨by show s.at_ + 1 ≤ _; omega, fun _ => ⟨hlt, ?_, ?_⟩⟩
  ·show -((s.at_ + 1 : Nat) : Int) ≤ s.deep + 1; omega
  ·show s.deep + 1 ≤ ((s.at_ + 1 : Nat) : Int); omega
theorem Bd.cls (h : Bd T s) (hk : Ps.ok s = true) (x : Lx.Txt) : Bd T (Ps.cls_ T fin x s) := by
 have h1 := h.ok hk
 have h0 := h.at_
 unfold Ps.cls_ Ps.want
 split
 ·exact Bd.bad h0 (Ps.rf_no _ _ _)
 ·rename_i hc
  have e : (Ps.nx T fin { s with deep := s.deep - 1 }).1 = 7 := by
   by_cases h1 : (Ps.nx T fin { s with deep := s.deep - 1 }).1 = 7
   ·exact h1
   ·exact absurd (by simp [h1]) hc
  have hlt : s.at_ < T.length := Ps.nx_lt (fin := fin) (s := { s with deep := s.deep - 1 }) (by rw [e]; decide)
  refine ⟨by show s.at_ + 1 ≤ _; omega, fun _ => ⟨hlt, ?_, ?_⟩⟩
  ·show -((s.at_ + 1 : Nat) : Int) ≤ s.deep - 1; omega
  ·show s.deep - 1 ≤ ((s.at_ + 1 : Nat) : Int); omega
theorem Bd.shut (h : Bd T s) (x : Lx.Txt) : Bd T (Ps.shut T fin x s) := by
 unfold Ps.shut
 split
 ·rename_i hk; exact h.cls hk x
 ·exact h
theorem Bd.decl (h : Bd T s) (l : List Lx.Txt) : Bd T (Ps.decl T fin l s).2 := by
 unfold Ps.decl
 dsimp only
 split
 ·exact (h.want (by decide) _).rf _ _
 ·exact h.want (by decide) _
theorem tmpL_le : ∀ (f : Nat) (l : List Lx.Txt) (s : Ps.PS), s.at_ ≤ T.length → (Ps.tmpL T fin f l s).2.at_ ≤ T.length
 | 0, _, _, h => h
 | f + 1, l, s, h => by
  unfold Ps.tmpL
  split
  ·exact tmpL_le f _ _ (decl_at' h).1
  ·exact h
theorem tmpL_bd : ∀ (f : Nat) (l : List Lx.Txt) (s : Ps.PS), Bd T s → Bd T (Ps.tmpL T fin f l s).2
 | 0, _, _, h => h
 | f + 1, l, s, h => by
  unfold Ps.tmpL
  split
  ·exact tmpL_bd f _ _ (h.decl _)
  ·exact h
theorem tmpL_end : ∀ (f : Nat) (l : List Lx.Txt) (s : Ps.PS), s.at_ ≤ T.length → T.length < s.at_ + f → Ps.ok (Ps.tmpL T fin f l s).2 = true → Ps.is_ T fin (Ps.tmpL T fin f l s).2 [124] = true
 | 0, l, s, h, h1, _ => by omega
 | f + 1, l, s, h, h1, hk => by
  unfold Ps.tmpL at hk ⊢
  split at hk
  ·rename_i hc
   rw [if_pos hc]
   by_cases hd : Ps.ok (Ps.decl T fin l s).2 = true
   ·have := decl_at' (fin := fin) (l := l) h
    exact tmpL_end f _ _ this.1 (by have := this.2.2 hd; omega) hk
   ·have hd' : Ps.ok (Ps.decl T fin l s).2 = false := by simpa using hd
    rw [tmpL_stop (by rw [hd']; rfl)] at hk
    exact absurd hk hd
  ·rename_i hc
   rw [if_neg hc]
   rw [hk] at hc
   simpa using hc
theorem Bd.temps (h : Bd T s) : Bd T (Ps.temps T fin s).2 := by
 unfold Ps.temps
 split
 ·rename_i hi
  have hlt := Ps.mark_lt (fin := fin) hi
  have hb := tmpL_bd (fin := fin) (T.length + 2) [] _ (h.adv hlt)
  have hl := tmpL_le (T := T) (fin := fin) (T.length + 2) [] (Ps.adv s) hlt
  have he := tmpL_end (T := T) (fin := fin) (T.length + 2) [] (Ps.adv s) hlt (by show T.length < s.at_ + 1 + _; omega)
  generalize (Ps.tmpL T fin (T.length + 2) [] (Ps.adv s)).2 = s' at *
  by_cases hk : Ps.ok s' = true
  ·exact hb.adv (Ps.mark_lt (he hk))
  ·exact Bd.bad (by show s'.at_ + 1 ≤ _; omega) (by show Ps.ok s' = false; simpa using hk)
 ·exact h
theorem Bd.smallS (h : Bd T s) (t : Lx.Tk) (n : Nat) : Bd T (Ps.smallS t n s) := by
 unfold Ps.smallS
 split
 ·exact h.rf _ _
 ·exact h
theorem Bd.lt (h : Bd T s) (hT : T.length ≤ 65536) : s.at_ ≤ 100000 := by have := h.at_; omega
end
def NdP (w : World) (g : Nat) (A : Option Addr) (c : Nat) (T : List Lx.Tk) (fin base : Nat) (r : Ps.Tr × Ps.PS) (e : Ending) (w' : World) : Prop := ∃ cs, e = .returned (.agg cs.toArray) ∧ PP w g A c T fin r.2 w' ∧ Bd T r.2 ∧ TrM w' base (fun _ => False) cs r.1
theorem unaL_stop {T : List Lx.Tk} {fin f : Nat} {n : Ps.Tr} {s : Ps.PS} (h : (Ps.ok s && (Ps.nx T fin s).1 == 1) = false) : Ps.unaL T fin f n s = (n, s) := by
 cases f with
 | zero => rfl
 | succ f => unfold Ps.unaL; rw [if_neg (by rw [h]; decide)]
structure UnS (w : World) (g : Nat) (A : Option Addr) (c : Nat) (T : List Lx.Tk) (fin base t3 t4 : Nat) (s' : Ps.PS) (n' : Ps.Tr) (cs' : List Value) (wr : World) : Prop where
 env : Env w g A c T fin s' [⟨t4, 27, [.int .i64 0, .string ⟨#[]⟩, .slice none 0 0, .slice none 0 0, .slice none 0 0, .int .i64 0, .int .i64 0]⟩, ⟨t3, 27, cs'⟩] wr
 tr : TrM wr base (fun k => k = t3 ∨ k = t4) cs' n'
 bd : Bd T s'
section
variable {w wr w1 : World} {g c fin base t3 t4 : Nat} {A : Option Addr} {T : List Lx.Tk} {s' s1 : Ps.PS} {n' : Ps.Tr} {cs' : List Value} {R : Ps.Tr × Ps.PS}
theorem UnS.below (h : UnS w g A c T fin base t3 t4 s' n' cs' wr) (hb : Below wr.heap.size wr w1) : UnS w g A c T fin base t3 t4 s' n' cs' w1 := ⟨h.env.below hb, h.tr.below hb, h.bd⟩
theorem UnS.call (h : UnS w g A c T fin base t3 t4 s' n' cs' wr) (hp : PP wr g A c T fin s1 w1) (hb : Bd T s1) (hgb : g < base) : UnS w g A c T fin base t3 t4 s1 n' cs' w1 := ⟨h.env.call hp, h.tr.call hp.1 hgb, hb⟩
theorem UnS.turn {x0 x1 x2 x3 x4 x5 x6 : Value} (h : UnS w g A c T fin base t3 t4 s' n' [x0, x1, x2, x3, x4, x5, x6] wr) (hbw : base ≤ w.heap.size) (nm : Lx.Txt) (place : Nat) :
  UnS w g A c T fin base t3 t4 s' (Ps.nd 5 nm [n'] place) [.int .i64 5, .string ⟨nm.toArray⟩, .slice none 0 0, .slice none 0 0, .slice (some ⟨wr.heap.size, 0, none⟩) 1 1, .int .i64 0, .int .i64 (place : Int)]
   ((((((((wr.setCell ⟨t3, 0, none⟩ (.int .i64 5)).setCell ⟨t3, 1, none⟩ (.string ⟨nm.toArray⟩)).setCell ⟨t3, 2, none⟩ (.slice none 0 0)).setCell ⟨t3, 3, none⟩ (.slice none 0 0)).setCell ⟨t3, 4, none⟩ (.slice (some ⟨wr.heap.size, 0, none⟩) 1 1)).setCell ⟨t3, 5, none⟩ (.int .i64 0)).setCell ⟨t3, 6, none⟩ (.int .i64 (place : Int))).alloc (.cells #[x0, x1, x2, x3, x4, x5, x6] 27)) := by
 have l3 := (h.env.blk 1 rfl).lt
 have l4 := (h.env.blk 0 rfl).lt
 have hs := h.env.size
 rw [set7_alloc _ _ _ _ _ _ _ _ _ _ l3]
 refine ⟨(h.env.alloc _).put7 1 rfl _ _ _ _ _ _ _, ?_, h.bd⟩
 have h1 : TsM (wr.alloc (.cells #[x0, x1, x2, x3, x4, x5, x6] 27)) base (fun k => k = t3 ∨ k = t4) (.slice (some ⟨wr.heap.size, 0, none⟩) 1 1) [n'] := TsM.one h.tr (by omega) (by omega)
 exact (TrM.nd (l := [n']) 5 nm place h1).store (chg_set7 _ _ _ _ _ _ _ _ _) fun k e => .inl e
theorem UnS.done {x0 x1 x2 x3 x4 x5 x6 : Value} (h : UnS w g A c T fin base t3 t4 s' n' [x0, x1, x2, x3, x4, x5, x6] wr) (hR : R = (n', s')) :
  Blk (((((((wr.setCell ⟨t4, 0, none⟩ x0).setCell ⟨t4, 1, none⟩ x1).setCell ⟨t4, 2, none⟩ x2).setCell ⟨t4, 3, none⟩ x3).setCell ⟨t4, 4, none⟩ x4).setCell ⟨t4, 5, none⟩ x5).setCell ⟨t4, 6, none⟩ x6) t4 27 #[x0, x1, x2, x3, x4, x5, x6] ∧
  NdP w g A c T fin base R (.returned (.agg #[x0, x1, x2, x3, x4, x5, x6])) (((((((wr.setCell ⟨t4, 0, none⟩ x0).setCell ⟨t4, 1, none⟩ x1).setCell ⟨t4, 2, none⟩ x2).setCell ⟨t4, 3, none⟩ x3).setCell ⟨t4, 4, none⟩ x4).setCell ⟨t4, 5, none⟩ x5).setCell ⟨t4, 6, none⟩ x6) := by
 subst hR
 have E4 := h.env.put7 0 rfl x0 x1 x2 x3 x4 x5 x6
 refine ⟨E4.blk 0 rfl, _, rfl, E4.pp, h.bd, ?_⟩
 exact TrM.swap (h.tr.store (chg_set7 _ _ _ _ _ _ _ _ _) fun k e => .inr e) (fun k _ _ e => e.elim)
end
set_option maxRecDepth 20000 in
theorem punar_any {w : World} {g c fin : Nat} {A : Option Addr} {T : List Lx.Tk} {s : Ps.PS} {base : Nat} {cs : List Value} {n : Ps.Tr} (h : PA w g A c T fin s) (hb : Bd T s) (hT : T.length ≤ 65536) (hn : TrM w base (fun _ => False) cs n) (hgb : g < base) (hbw : base ≤ w.heap.size) :
  Calls Tryz.prog 125 #[.pointer (some ⟨g, 0, none⟩), .agg cs.toArray] w (NdP w g A c T fin base (Ps.unaL T fin (T.length + 2) n s)) := by
 have E0 := ((Env.start h).box 27 cs (by decide)).boxk (w.heap.size + 1) (by simp) 27 [.int .i64 0, .string ⟨#[]⟩, .slice none 0 0, .slice none 0 0, .slice none 0 0, .int .i64 0, .int .i64 0] (by decide)
 have ht0 : TrM ((w.alloc (.cells cs.toArray 27)).alloc (.cells #[.int .i64 0, .string ⟨#[]⟩, .slice none 0 0, .slice none 0 0, .slice none 0 0, .int .i64 0, .int .i64 0] 27)) base (fun k => k = w.heap.size ∨ k = w.heap.size + 1) cs n := ((TrM.swap hn (X' := fun k => k = w.heap.size ∨ k = w.heap.size + 1) (fun k _ hk e => by omega)).below (new_below _ _)).below (new_below _ _)
 have HU := Hd (UnS.mk E0 ht0 hb)
 obtain ⟨R, hR⟩ : ∃ R, Ps.unaL T fin (T.length + 2) n s = R := ⟨_, rfl⟩
 have HR := Hd hR
 have HFU : Hid (Ps.ok s = true → T.length < s.at_ + (T.length + 2)) := Hd fun _ => by omega
 rw [hR]
 obtain ⟨q0, q1, A1, n1, c1, A2, n2, c2, A3, n3, c3, q5, q6, rfl, -⟩ := TrIn.seven hn
 clear h hb hn E0 ht0 hR
 go_enter Tryz.func125, Tryz.ntmps125
 go_upto_block 0 with fail
 refine wp_world (fun W => UnS w g A c T fin base w.heap.size (w.heap.size + 1) s n _ W) HU.out fun w1 hu => ?_
 have HU1 := Hd hu
 clear HU hu
 go_wp2
 go_loopg [] (T.length + 2) (fun f wr => ∃ (s' : Ps.PS) (n' : Ps.Tr) (cs' : List Value), UnS w g A c T fin base w.heap.size (w.heap.size + 1) s' n' cs' wr ∧ (Ps.ok s' = true → T.length < s'.at_ + f) ∧ Ps.unaL T fin f n' s' = R)
 case atStart => exact ⟨s, n, _, HU1.out, HFU.out, HR.out⟩
 case round =>
  obtain ⟨s', n', cs', hu, hok, hR⟩ := hrel
  obtain ⟨r0, r1, B1, m1, d1, B2, m2, d2, B3, m3, d3, r5, r6, rfl, -⟩ := TrIn.seven hu.tr
  have HU := Hd hu
  have HR2 := Hd hR
  have HOK := Hd hok
  have hg := hu.env.pa.lt
  clear hu hR hok HU1 HR HFU
  obtain ⟨t, ht⟩ : ∃ t, Ps.nx T fin s' = t := ⟨_, rfl⟩
  cases hk : Ps.ok s' with
  | false =>
   have HE : Hid (R = (n', s')) := Hd (by rw [← HR2.out]; exact unaL_stop (by rw [hk]; rfl))
   obtain ⟨kq, k4⟩ := HU.out.env.pa.noc hk
   obtain ⟨a, a0, a1, a2, a3, a4, a5, a6⟩ := HU.out.env.c7 1 rfl
   obtain ⟨b, b0, b1, b2, b3, b4, b5, b6⟩ := HU.out.env.c7 0 rfl
   have f := HU.out.env.fz 0 rfl
   clear hk
   go_wp2
   obtain ⟨hb4, hnd⟩ := HU.out.done HE.out
   exact bodyPost_ret (ret26 rfl _ _ rfl hb4) rfl hnd
  | true =>
   have k4 := HU.out.env.pa.okc hk
   have HN := Hd (pnext_any HU.out.env.pa)
   rw [ht] at HN
   have hf0 := fld0 (.int .i64 (t.1 : Int)) (.string ⟨t.2.1.toArray⟩) (.int .i64 (t.2.2 : Int))
   by_cases h1 : t.1 = 1
   ·have d1 : ((t.1 : Int) == 1) = true := by simp [h1]
    have hlt : s'.at_ < T.length := Ps.nx_lt (fin := fin) (by rw [ht, h1]; decide)
    have hfu := HOK.out hk
    obtain ⟨f, rfl⟩ : ∃ f, gk = f + 1 := ⟨gk - 1, by have := (HU.out.bd.ok hk).1; omega⟩
    have HR3 : Hid (Ps.unaL T fin f (Ps.nd 5 t.2.1 [n'] t.2.2) (Ps.adv s') = R) := Hd (by rw [← HR2.out, Ps.unaL, ht, if_pos (by rw [hk, h1]; rfl)])
    have HT := Hd ht
    clear hk h1 ht
    go_upto_region 3 with (first
     | (go_at_call 28; refine HN.out.mono ?_; rintro e w4 ⟨rfl, hb⟩; have HU4 := Hd (HU.out.below hb); clear hb)
     | (go_at_call 29; refine (ptake_any HU4.out.env.pa (by omega)).mono ?_; rw [HT.out]; rintro e w5 ⟨rfl, hp⟩; have HU5 := Hd (HU4.out.call hp (HU4.out.bd.adv hlt) hgb); clear hp))
    refine wp_world (fun W => UnS w g A c T fin base w.heap.size (w.heap.size + 1) (Ps.adv s') n' _ W ∧ Blk W w5.heap.size 37 _) ⟨HU5.out.below (new_below _ _), Blk.new _ _ _⟩ fun w6 h6 => ?_
    have HU6 := Hd h6.1
    have HB6 := Hd h6.2
    clear h6 HU5 HU4 HU hg k4 HN hf0 d1 HR2 HOK
    obtain ⟨a, a0, a1, a2, a3, a4, a5, a6⟩ := HU6.out.env.c7 1 rfl
    have f3 := HU6.out.env.fz 1 rfl
    have b := HB6.out.lt
    have b1 := HB6.out.cell 1
    have b2 := HB6.out.cell 2
    go_wp2
    go_roundg f
    case measure => omega
    case rel => exact ⟨_, _, _, HU6.out.turn hbw t.2.1 t.2.2, fun _ => by show T.length < s'.at_ + 1 + f; omega, HR3.out⟩
   ·have d1 : ((t.1 : Int) == 1) = false := natInt (by omega)
    have HE : Hid (R = (n', s')) := Hd (by rw [← HR2.out]; exact unaL_stop (by rw [ht, hk]; simpa using h1))
    clear hk h1 ht
    go_upto_region 4 with (go_at_call 28; refine HN.out.mono ?_; rintro e w4 ⟨rfl, hb⟩; have HU4 := Hd (HU.out.below hb); clear hb)
    clear HU HN hf0 k4
    obtain ⟨a, a0, a1, a2, a3, a4, a5, a6⟩ := HU4.out.env.c7 1 rfl
    obtain ⟨b, b0, b1, b2, b3, b4, b5, b6⟩ := HU4.out.env.c7 0 rfl
    have f := HU4.out.env.fz 0 rfl
    go_wp2
    obtain ⟨hb4, hnd⟩ := HU4.out.done HE.out
    exact bodyPost_ret (ret26 rfl _ _ rfl hb4) rfl hnd
def TsP (w : World) (g : Nat) (A : Option Addr) (c : Nat) (T : List Lx.Tk) (fin : Nat) (r : List Ps.Tr × Ps.PS) (e : Ending) (w' : World) : Prop := ∃ v, e = .returned v ∧ PP w g A c T fin r.2 w' ∧ Bd T r.2 ∧ TsM w' w.heap.size (fun _ => False) v r.1
structure WAll (g : Nat) (A : Option Addr) (c : Nat) (T : List Lx.Tk) (fin f : Nat) : Prop where
 expr : ∀ s w, PA w g A c T fin s → Bd T s → Ps.rem T s + 8 ≤ f → Calls Tryz.prog 77 #[.pointer (some ⟨g, 0, none⟩)] w (NdP w g A c T fin w.heap.size (Ps.expr T fin f s))
 msg : ∀ s w, PA w g A c T fin s → Bd T s → Ps.rem T s + 6 ≤ f → Calls Tryz.prog 127 #[.pointer (some ⟨g, 0, none⟩)] w (NdP w g A c T fin w.heap.size (Ps.msg T fin f s))
 binL : ∀ base cs n s w, PA w g A c T fin s → Bd T s → TrM w base (fun _ => False) cs n → g < base → base ≤ w.heap.size → Ps.rem T s + 1 ≤ f → Calls Tryz.prog 124 #[.pointer (some ⟨g, 0, none⟩), .agg cs.toArray] w (NdP w g A c T fin base (Ps.binL_ T fin f n s))
 keyw : ∀ base cs n s w, PA w g A c T fin s → Bd T s → TrM w base (fun _ => False) cs n → g < base → base ≤ w.heap.size → Ps.rem T s + 2 ≤ f → Calls Tryz.prog 123 #[.pointer (some ⟨g, 0, none⟩), .agg cs.toArray] w (NdP w g A c T fin base (Ps.keyw T fin f n s))
 prim : ∀ s w, PA w g A c T fin s → Bd T s → Ps.rem T s + 5 ≤ f → Calls Tryz.prog 122 #[.pointer (some ⟨g, 0, none⟩)] w (NdP w g A c T fin w.heap.size (Ps.prim T fin f s))
 arr : ∀ s w, PA w g A c T fin s → Bd T s → Ps.ok s = true → s.at_ < T.length → Ps.rem T s + 2 ≤ f → Calls Tryz.prog 158 #[.pointer (some ⟨g, 0, none⟩)] w (NdP w g A c T fin w.heap.size (Ps.arr T fin f s))
 lit : ∀ s w, PA w g A c T fin s → Bd T s → Ps.ok s = true → Ps.rem T s + 5 ≤ f → Calls Tryz.prog 201 #[.pointer (some ⟨g, 0, none⟩)] w (NdP w g A c T fin w.heap.size (Ps.lit T fin f s))
 bra : ∀ s w, PA w g A c T fin s → Bd T s → Ps.ok s = true → s.at_ < T.length → Ps.rem T s + 2 ≤ f → Calls Tryz.prog 162 #[.pointer (some ⟨g, 0, none⟩)] w (NdP w g A c T fin w.heap.size (Ps.nd 14 [] (Ps.braL T fin f [] (Ps.opn T fin s)).1 (Ps.nx T fin s).2.2, Ps.shut T fin [125] (Ps.braL T fin f [] (Ps.opn T fin s)).2))
 blk : ∀ s w, PA w g A c T fin s → Bd T s → Ps.ok s = true → s.at_ < T.length → Ps.rem T s + 2 ≤ f → Calls Tryz.prog 163 #[.pointer (some ⟨g, 0, none⟩)] w (NdP w g A c T fin w.heap.size (Ps.blk T fin f s))
 stL : ∀ m s w, PA w g A c T fin s → Bd T s → Ps.rem T s + 9 ≤ f → Calls Tryz.prog 36 #[.pointer (some ⟨g, 0, none⟩), .string ⟨m.toArray⟩] w (TsP w g A c T fin (Ps.stL T fin f m [] s))
theorem binL_stop {T : List Lx.Tk} {fin f : Nat} {n : Ps.Tr} {s : Ps.PS} (h : (Ps.ok s && Ps.binS (Ps.nx T fin s)) = false) : Ps.binL_ T fin f n s = (n, s) := by
 cases f with
 | zero => unfold Ps.binL_; rfl
 | succ f => unfold Ps.binL_; rw [if_neg (by rw [h]; decide)]
theorem TrM.form {w : World} {base : Nat} {X : Nat → Prop} {cs : List Value} {t : Ps.Tr} (h : TrM w base X cs t) : ∃ (k : Nat) (nm : Lx.Txt) (A1 : Option Addr) (n1 c1 : Nat) (A2 : Option Addr) (n2 c2 : Nat) (A3 : Option Addr) (n3 c3 : Nat) (p pl : Nat),
  cs = [.int .i64 (k : Int), .string ⟨nm.toArray⟩, .slice A1 n1 c1, .slice A2 n2 c2, .slice A3 n3 c3, .int .i64 (p : Int), .int .i64 (pl : Int)] := by
 obtain ⟨q0, q1, A1, n1, c1, A2, n2, c2, A3, n3, c3, q5, q6, rfl, -⟩ := TrIn.seven h
 exact ⟨q0, q1, A1, n1, c1, A2, n2, c2, A3, n3, c3, q5, q6, rfl⟩
theorem UnS.turn2 {w wr : World} {g c fin base t3 t4 : Nat} {A : Option Addr} {T : List Lx.Tk} {s' : Ps.PS} {n' a' : Ps.Tr} {x0 x1 x2 x3 x4 x5 x6 y0 y1 y2 y3 y4 y5 y6 : Value} (h : UnS w g A c T fin base t3 t4 s' n' [x0, x1, x2, x3, x4, x5, x6] wr) (ha : TrM wr base (fun k => k = t3 ∨ k = t4) [y0, y1, y2, y3, y4, y5, y6] a') (hbw : base ≤ w.heap.size) (nm : Lx.Txt) (place : Nat) :
  UnS w g A c T fin base t3 t4 s' (Ps.nd 5 nm [n', a'] place) [.int .i64 5, .string ⟨nm.toArray⟩, .slice none 0 0, .slice none 0 0, .slice (some ⟨wr.heap.size, 0, none⟩) 2 2, .int .i64 0, .int .i64 (place : Int)]
   ((((((((wr.setCell ⟨t3, 0, none⟩ (.int .i64 5)).setCell ⟨t3, 1, none⟩ (.string ⟨nm.toArray⟩)).setCell ⟨t3, 2, none⟩ (.slice none 0 0)).setCell ⟨t3, 3, none⟩ (.slice none 0 0)).setCell ⟨t3, 4, none⟩ (.slice (some ⟨wr.heap.size, 0, none⟩) 2 2)).setCell ⟨t3, 5, none⟩ (.int .i64 0)).setCell ⟨t3, 6, none⟩ (.int .i64 (place : Int))).alloc (.cells #[x0, x1, x2, x3, x4, x5, x6, y0, y1, y2, y3, y4, y5, y6] 27)) := by
 have l3 := (h.env.blk 1 rfl).lt
 have l4 := (h.env.blk 0 rfl).lt
 have hs := h.env.size
 rw [set7_alloc _ _ _ _ _ _ _ _ _ _ l3]
 refine ⟨(h.env.alloc _).put7 1 rfl _ _ _ _ _ _ _, ?_, h.bd⟩
 have h1 : TsM (wr.alloc (.cells #[x0, x1, x2, x3, x4, x5, x6, y0, y1, y2, y3, y4, y5, y6] 27)) base (fun k => k = t3 ∨ k = t4) (.slice (some ⟨wr.heap.size, 0, none⟩) 2 2) [n', a'] := TsM.two h.tr ha (by omega) (by omega)
 exact (TrM.nd (l := [n', a']) 5 nm place h1).store (chg_set7 _ _ _ _ _ _ _ _ _) fun k e => .inl e
set_option maxRecDepth 20000 in
theorem pbins_any {g c fin F : Nat} {A : Option Addr} {T : List Lx.Tk} (hT : T.length ≤ 65536) (ih : ∀ f, f < F → WAll g A c T fin f) (base : Nat) (cs : List Value) (n : Ps.Tr) (s : Ps.PS) (w : World) (h : PA w g A c T fin s) (hb : Bd T s) (hn : TrM w base (fun _ => False) cs n) (hgb : g < base) (hbw : base ≤ w.heap.size) (hf : Ps.rem T s + 1 ≤ F) :
  Calls Tryz.prog 124 #[.pointer (some ⟨g, 0, none⟩), .agg cs.toArray] w (NdP w g A c T fin base (Ps.binL_ T fin F n s)) := by
 have E0 := ((Env.start h).box 27 cs (by decide)).boxk (w.heap.size + 1) (by simp) 27 [.int .i64 0, .string ⟨#[]⟩, .slice none 0 0, .slice none 0 0, .slice none 0 0, .int .i64 0, .int .i64 0] (by decide)
 have ht0 : TrM ((w.alloc (.cells cs.toArray 27)).alloc (.cells #[.int .i64 0, .string ⟨#[]⟩, .slice none 0 0, .slice none 0 0, .slice none 0 0, .int .i64 0, .int .i64 0] 27)) base (fun k => k = w.heap.size ∨ k = w.heap.size + 1) cs n := ((TrM.swap hn (X' := fun k => k = w.heap.size ∨ k = w.heap.size + 1) (fun k _ hk e => by omega)).below (new_below _ _)).below (new_below _ _)
 have HU := Hd (UnS.mk E0 ht0 hb)
 obtain ⟨R, hR⟩ : ∃ R, Ps.binL_ T fin F n s = R := ⟨_, rfl⟩
 have HR := Hd hR
 have IH := Hd ih
 rw [hR]
 obtain ⟨q0, q1, A1, n1, c1, A2, n2, c2, A3, n3, c3, q5, q6, rfl⟩ := hn.form
 clear h hb hn E0 ht0 hR ih
 go_enter Tryz.func124, Tryz.ntmps124
 go_upto_block 0 with fail
 refine wp_world (fun W => UnS w g A c T fin base w.heap.size (w.heap.size + 1) s n _ W) HU.out fun w1 hu => ?_
 have HU1 := Hd hu
 clear HU hu
 go_wp2
 go_loopg [] F (fun f wr => ∃ (s' : Ps.PS) (n' : Ps.Tr) (cs' : List Value), f ≤ F ∧ UnS w g A c T fin base w.heap.size (w.heap.size + 1) s' n' cs' wr ∧ Ps.rem T s' + 1 ≤ f ∧ Ps.binL_ T fin f n' s' = R)
 case atStart => exact ⟨s, n, _, Nat.le_refl _, HU1.out, hf, HR.out⟩
 case round =>
  obtain ⟨s', n', cs', hfF, hu, hrm, hR⟩ := hrel
  obtain ⟨r0, r1, B1, m1, d1, B2, m2, d2, B3, m3, d3, r5, r6, rfl⟩ := hu.tr.form
  have HU := Hd hu
  have HR2 := Hd hR
  have hg := hu.env.pa.lt
  clear hu hR HU1 HR
  obtain ⟨t, ht⟩ : ∃ t, Ps.nx T fin s' = t := ⟨_, rfl⟩
  obtain ⟨a, a0, a1, a2, a3, a4, a5, a6⟩ := HU.out.env.c7 1 rfl
  obtain ⟨b, b0, b1, b2, b3, b4, b5, b6⟩ := HU.out.env.c7 0 rfl
  have fz := HU.out.env.fz 0 rfl
  cases hk : Ps.ok s' with
  | false =>
   have HE : Hid (R = (n', s')) := Hd (by rw [← HR2.out]; exact binL_stop (by rw [hk]; rfl))
   obtain ⟨kq, k4⟩ := HU.out.env.pa.noc hk
   clear hk
   go_wp2
   obtain ⟨hb4, hnd⟩ := HU.out.done HE.out
   exact bodyPost_ret (ret26 rfl _ _ rfl hb4) rfl hnd
  | true =>
   have k4 := HU.out.env.pa.okc hk
   have HN := Hd (pnext_any HU.out.env.pa)
   rw [ht] at HN
   have HBI := Hd fun w => pbin_any t w
   clear a a0 a1 a2 a3 a4 a5 a6 b b0 b1 b2 b3 b4 b5 b6 fz
   cases h1 : Ps.binS t with
   | true =>
    have hlt : s'.at_ < T.length := Ps.bin_lt (fin := fin) (by rw [ht]; exact h1)
    obtain ⟨f, rfl⟩ : ∃ f, gk = f + 1 := ⟨gk - 1, by omega⟩
    have hra := Ps.rem_adv (T := T) (s := s') (s' := Ps.adv s') (Nat.lt_succ_self _) hlt
    obtain ⟨a, ha⟩ : ∃ a, Ps.prim T fin f (Ps.adv s') = a := ⟨_, rfl⟩
    obtain ⟨u, hu⟩ : ∃ u, Ps.unaL T fin (T.length + 2) a.1 a.2 = u := ⟨_, rfl⟩
    have hle : Ps.rem T u.2 ≤ Ps.rem T (Ps.adv s') := Ps.rem_le (by rw [← hu, ← ha]; exact (((Ps.leAll T fin f).prim _).trans (Ps.le_unaL T fin _ _ _)).at_)
    have HR3 : Hid (Ps.binL_ T fin f (Ps.nd 5 t.2.1 [n', u.1] t.2.2) u.2 = R) := Hd (by rw [← HR2.out, Ps.binL_, ht, if_pos (by rw [hk, h1]; rfl)]; dsimp only; rw [ha, hu])
    have HT := Hd ht
    have HPR := Hd fun w5 (hp : PA w5 g A c T fin (Ps.adv s')) (hb : Bd T (Ps.adv s')) => (IH.out f (by omega)).prim (Ps.adv s') w5 hp hb (by omega)
    rw [ha] at HPR
    have HUN := Hd fun w6 (base' : Nat) (cs6 : List Value) (hp : PA w6 g A c T fin a.2) (hb : Bd T a.2) (ht6 : TrM w6 base' (fun _ => False) cs6 a.1) (h7 : g < base') (h8 : base' ≤ w6.heap.size) => punar_any hp hb hT ht6 h7 h8
    rw [hu] at HUN
    rw [h1] at HBI
    clear hk h1 ht ha hu
    go_upto_region 3 with (first
     | (go_at_call 28; refine HN.out.mono ?_; rintro e w4 ⟨rfl, hb⟩; have HU4 := Hd (HU.out.below hb); clear hb)
     | (go_at_call 30; refine (HBI.out _).mono ?_; rintro e w4b ⟨rfl, hb⟩; have HU4b := Hd (HU4.out.below hb); clear hb)
     | (go_at_call 29; refine (ptake_any HU4b.out.env.pa (by omega)).mono ?_; rw [HT.out]; rintro e w5 ⟨rfl, hp⟩; have HU5 := Hd (HU4b.out.call hp (HU4b.out.bd.adv hlt) hgb); clear hp))
    refine wp_world (fun W => UnS w g A c T fin base w.heap.size (w.heap.size + 1) (Ps.adv s') n' _ W ∧ Blk W w5.heap.size 37 _) ⟨HU5.out.below (new_below _ _), Blk.new _ _ _⟩ fun w6 h6 => ?_
    have HU6 := Hd h6.1
    have HB6 := Hd h6.2
    have hn5 : w.heap.size ≤ w5.heap.size := HU5.out.env.size
    have hgw := HU5.out.env.gl
    have hs6 := HU6.out.env.size
    have l3 := (HU6.out.env.blk 1 rfl).lt
    have l4 := (HU6.out.env.blk 0 rfl).lt
    clear h6 HU5 HU4 HU4b HU hg k4 HN HBI HR2
    go_upto_region 4 with (first
     | (go_at_call 122; refine (HPR.out _ HU6.out.env.pa HU6.out.bd).mono ?_; rintro e w7 ⟨cs7, rfl, hp7, hb7, ht7⟩; have hz7 := hp7.1.size; have HU7 := Hd (HU6.out.call hp7 hb7 hgb); have HB7 := Hd (hp7.1.blk HB6.out (by omega)); have HT7 := Hd ht7; clear hp7 hb7 ht7)
     | (go_at_call 125; refine (HUN.out _ _ _ HU7.out.env.pa HU7.out.bd HT7.out (by omega) hz7).mono ?_; rintro e w8 ⟨cs8, rfl, hp8, hb8, ht8⟩; have hz8 := hp8.1.size; have HU8 := Hd (HU7.out.call hp8 hb8 hgb); have HB8 := Hd (hp8.1.blk HB7.out (by omega)); have HT8 := Hd ht8; obtain ⟨p0, p1, C1, o1, e1, C2, o2, e2, C3, o3, e3, p5, p6, rfl⟩ := ht8.form; clear hp8 hb8 ht8))
    have HTX := Hd (TrM.below (TrM.low (TrM.swap HT8.out (X' := fun k => k = w.heap.size ∨ k = w.heap.size + 1) (fun k h1 _ e => by omega)) (b' := base) (by omega)) (new_below w8 (.cells #[.int .i64 (p0 : Int), .string ⟨p1.toArray⟩, .slice C1 o1 e1, .slice C2 o2 e2, .slice C3 o3 e3, .int .i64 (p5 : Int), .int .i64 (p6 : Int)] 27)))
    refine wp_world (fun W => UnS w g A c T fin base w.heap.size (w.heap.size + 1) u.2 n' _ W ∧ Blk W w5.heap.size 37 _ ∧ Blk W w8.heap.size 27 _ ∧ TrM W base (fun k => k = w.heap.size ∨ k = w.heap.size + 1) _ u.1) ⟨HU8.out.below (new_below _ _), HB8.out.alloc _, Blk.new _ _ _, HTX.out⟩ fun w9 h9 => ?_
    have HU9 := Hd h9.1
    have HB9 := Hd h9.2.1
    have HC9 := Hd h9.2.2.1
    have HT9 := Hd h9.2.2.2
    clear h9 HU8 HU7 HU6 HB6 HB7 HB8 HT7 HT8 HTX HPR HUN
    obtain ⟨a, a0, a1, a2, a3, a4, a5, a6⟩ := HU9.out.env.c7 1 rfl
    have f3 := HU9.out.env.fz 1 rfl
    have b := HB9.out.lt
    have b1 := HB9.out.cell 1
    have b2 := HB9.out.cell 2
    have y := HC9.out.lt
    have y0 := HC9.out.cell 0
    have y1 := HC9.out.cell 1
    have y2 := HC9.out.cell 2
    have y3 := HC9.out.cell 3
    have y4 := HC9.out.cell 4
    have y5 := HC9.out.cell 5
    have y6 := HC9.out.cell 6
    go_wp2
    go_roundg f
    case measure => omega
    case rel => exact ⟨_, _, _, by omega, HU9.out.turn2 HT9.out hbw t.2.1 t.2.2, by omega, HR3.out⟩
   | false =>
    have HE : Hid (R = (n', s')) := Hd (by rw [← HR2.out]; exact binL_stop (by rw [ht, hk, h1]; rfl))
    rw [h1] at HBI
    clear hk h1 ht
    go_upto_region 5 with (first
     | (go_at_call 28; refine HN.out.mono ?_; rintro e w4 ⟨rfl, hb⟩; have HU4 := Hd (HU.out.below hb); clear hb)
     | (go_at_call 30; refine (HBI.out _).mono ?_; rintro e w4b ⟨rfl, hb⟩; have HU4b := Hd (HU4.out.below hb); clear hb))
    clear HU HU4 HN HBI k4
    obtain ⟨a, a0, a1, a2, a3, a4, a5, a6⟩ := HU4b.out.env.c7 1 rfl
    obtain ⟨b, b0, b1, b2, b3, b4, b5, b6⟩ := HU4b.out.env.c7 0 rfl
    have f := HU4b.out.env.fz 0 rfl
    go_wp2
    obtain ⟨hb4, hnd⟩ := HU4b.out.done HE.out
    exact bodyPost_ret (ret26 rfl _ _ rfl hb4) rfl hnd
theorem Env.pick2 {w W : World} {g c fin : Nat} {A : Option Addr} {T : List Lx.Tk} {s : Ps.PS} {L : List Lc} (h : Env w g A c T fin s L W) (i j : Nat) {x y : Lc} (hx : L[i]? = some x) (hy : L[j]? = some y) (hij : i ≠ j) : Env w g A c T fin s [x, y] W := by
 refine ⟨h.chg, h.pa, h.gl, fun k z hz => ?_, fun k q z u hz hu hkq => ?_⟩
 ·match k with
  | 0 => simp only [List.getElem?_cons_zero, Option.some.injEq] at hz; subst hz; exact h.loc i _ hx
  | 1 => simp only [List.getElem?_cons_succ, List.getElem?_cons_zero, Option.some.injEq] at hz; subst hz; exact h.loc j _ hy
  | k + 2 => simp at hz
 ·match k, q, hkq with
  | 0, 0, e => exact absurd rfl e
  | 0, 1, _ =>
   simp only [List.getElem?_cons_succ, List.getElem?_cons_zero, Option.some.injEq] at hz hu
   subst hz hu
   exact h.nd i j _ _ hx hy hij
  | 1, 0, _ =>
   simp only [List.getElem?_cons_succ, List.getElem?_cons_zero, Option.some.injEq] at hz hu
   subst hz hu
   exact h.nd j i _ _ hy hx (Ne.symm hij)
  | 1, 1, e => exact absurd rfl e
  | k + 2, _, _ => simp at hz
  | 0, q + 2, _ => simp at hu
  | 1, q + 2, _ => simp at hu
structure AcS (w : World) (g : Nat) (A : Option Addr) (c : Nat) (T : List Lx.Tk) (fin base ts t2 kind place : Nat) (s' : Ps.PS) (nm : Lx.Txt) (l : List Ps.Tr) (v : Value) (wr : World) : Prop where
 env : Env w g A c T fin s' [⟨ts, 27, [.int .i64 (kind : Int), .string ⟨nm.toArray⟩, .slice none 0 0, .slice none 0 0, v, .int .i64 0, .int .i64 (place : Int)]⟩, ⟨t2, 27, [.int .i64 0, .string ⟨#[]⟩, .slice none 0 0, .slice none 0 0, .slice none 0 0, .int .i64 0, .int .i64 0]⟩] wr
 row : TsM wr base (fun k => k = ts ∨ k = t2) v l
 bd : Bd T s'
 rlo : ∀ k, v.ownBlock = some k → w.heap.size ≤ k
section
variable {w wr w1 : World} {g c fin base ts t2 kind place : Nat} {A : Option Addr} {T : List Lx.Tk} {s' s1 : Ps.PS} {nm : Lx.Txt} {l : List Ps.Tr} {v : Value} {R : Ps.Tr × Ps.PS}
theorem AcS.below (h : AcS w g A c T fin base ts t2 kind place s' nm l v wr) (hb : Below wr.heap.size wr w1) : AcS w g A c T fin base ts t2 kind place s' nm l v w1 := ⟨h.env.below hb, h.row.below hb, h.bd, h.rlo⟩
theorem AcS.call (h : AcS w g A c T fin base ts t2 kind place s' nm l v wr) (hp : PP wr g A c T fin s1 w1) (hb : Bd T s1) (hgb : g < base) : AcS w g A c T fin base ts t2 kind place s1 nm l v w1 := ⟨h.env.call hp, h.row.call hp.1 hgb, hb, h.rlo⟩
theorem AcS.lts (h : AcS w g A c T fin base ts t2 kind place s' nm l v wr) : ts < wr.heap.size ∧ t2 < wr.heap.size ∧ g < ts ∧ w.heap.size ≤ ts ∧ (∀ k, v.ownBlock = some k → k < wr.heap.size) := by
 obtain ⟨css, _, h2, _⟩ := h.row
 have := h.env.lo 0 rfl
 have := h.env.gl
 exact ⟨(h.env.blk 0 rfl).lt, (h.env.blk 1 rfl).lt, by omega, by omega, fun k hk => (h2.lt k hk).2⟩
theorem AcS.named (h : AcS w g A c T fin base ts t2 kind place s' nm l v wr) (nm' : Lx.Txt) : AcS w g A c T fin base ts t2 kind place s' nm' l v (wr.setCell ⟨ts, 1, none⟩ (.string ⟨nm'.toArray⟩)) :=
 ⟨h.env.put 0 rfl 1 _, h.row.store (chg_set _ _ _ _) fun _ e => .inl e, h.bd, h.rlo⟩
theorem AcS.push {lo : Nat} {cs : List Value} {t : Ps.Tr} (h : AcS w g A c T fin base ts t2 kind place s' nm l v wr) (ht : TrM wr lo (fun _ => False) cs t) (hbl : base ≤ lo) (hlo : ts < lo ∧ t2 < lo ∧ ∀ k, v.ownBlock = some k → k < lo) (hgb : g < base) :
  ∃ css : List (List Value), css.length = l.length ∧ wr.ownsRow base 27 7 v l.length css.flatten ∧ ∀ (o : Obj) (v' : Value) (w6 : World), w6.ownsRow base 27 7 v' (l.length + 1) (css.flatten ++ cs) → (wr.alloc o).grownBy w6 v.ownBlock → (v'.ownBlock = v.ownBlock ∨ v'.ownBlock = some (wr.heap.size + 1)) →
   (∀ j, w6.cell? ⟨ts, j, none⟩ = wr.cell? ⟨ts, j, none⟩) ∧ (∀ j, w6.frozen? ⟨ts, j, none⟩ = false) ∧ ts < w6.heap.size ∧ AcS w g A c T fin base ts t2 kind place s' nm (l ++ [t]) v' (w6.setCell ⟨ts, 4, none⟩ v') := by
 obtain ⟨l1, l2, l3, l4, l5⟩ := h.lts
 have hb0 := h.env.blk 0 rfl
 obtain ⟨css, k1, k2, k4, k3⟩ := h.row
 refine ⟨css, k1, k2, fun o v' w6 ho hg hv => ?_⟩
 have hgr : wr.grownBy w6 v.ownBlock := by
  have a : wr.grownBy (wr.alloc o) v.ownBlock := only_alloc (World.grownBy.refl wr _) o
  exact ⟨hg.os.trans a.os, hg.tape.trans a.tape, hg.output.trans a.output, Nat.le_trans a.size hg.size, fun i hi hn => (hg.block i (Nat.lt_of_lt_of_le hi a.size) hn).trans (a.block i hi hn)⟩
 have hXk : ∀ k, v.ownBlock = some k → k ≠ ts ∧ k ≠ t2 := fun k hk => ⟨fun e => k4 k hk (.inl e), fun e => k4 k hk (.inr e)⟩
 have hE6 : Env w g A c T fin s' _ w6 := h.env.row (v := v) (Chg.of_grown hgr (F := fun k => k = g ∨ v.ownBlock = some k) fun k e => .inr e) (h.env.pa.grown k2 (by decide) hgb hgr) fun k hk => ⟨h.rlo k hk, fun i x hx e => by
  match i with
  | 0 => simp only [List.getElem?_cons_zero, Option.some.injEq] at hx; subst hx; exact (hXk k hk).1 e.symm
  | 1 => simp only [List.getElem?_cons_succ, List.getElem?_cons_zero, Option.some.injEq] at hx; subst hx; exact (hXk k hk).2 e.symm
  | i + 2 => simp at hx⟩
 have hb6 := hE6.blk 0 rfl
 have hts := TsM.snoc (X := fun k => k = ts ∨ k = t2) k1 k4 k3 (by intro e; omega) (TrIn.more ht fun k hk _ => ⟨Nat.le_trans hbl hk.1, hk.2.1, by have := hk.1; omega, fun e => by have := hlo.2.2 k e.symm; have := hk.1; omega⟩) ho hg hv
 refine ⟨fun j => by rw [hb6.cell j, hb0.cell j], fun j => hb6.frozen j, hb6.lt, hE6.put 0 rfl 4 v', hts.store (chg_set _ _ _ _) fun _ e => .inl e, h.bd, fun k hk => ?_⟩
 rcases hv with e | e
 ·exact h.rlo k (by rw [← e]; exact hk)
 ·rw [e] at hk; injection hk with hk; have := h.env.size; omega
theorem AcS.start {L : List Lc} {X : Nat → Prop} (h : Env w g A c T fin s' L wr) (i : Nat) (hi : L[i]? = some ⟨t2, 27, [.int .i64 0, .string ⟨#[]⟩, .slice none 0 0, .slice none 0 0, .slice none 0 0, .int .i64 0, .int .i64 0]⟩) (hts : wr.heap.size = ts) (hr : TsM wr base X v l) (hX : X t2) (hb : Bd T s') (hv : ∀ k, v.ownBlock = some k → w.heap.size ≤ k) (kind place : Nat) (nm : Lx.Txt) :
  AcS w g A c T fin base ts t2 kind place s' nm l v (wr.alloc (.cells #[.int .i64 (kind : Int), .string ⟨nm.toArray⟩, .slice none 0 0, .slice none 0 0, v, .int .i64 0, .int .i64 (place : Int)] 27)) := by
 have E1 := (h.boxk ts hts 27 [.int .i64 (kind : Int), .string ⟨nm.toArray⟩, .slice none 0 0, .slice none 0 0, v, .int .i64 0, .int .i64 (place : Int)] (by decide)).pick2 0 (i + 1) rfl (by simpa using hi) (by omega)
 exact ⟨E1, (hr.swap fun k _ h2 e => by
  rcases e with e | e
  ·omega
  ·rw [e]; exact hX).below (new_below _ _), hb, hv⟩
theorem AcS.done {A3 : Option Addr} {n3 c3 : Nat} (h : AcS w g A c T fin base ts t2 kind place s' nm l (.slice A3 n3 c3) wr) (hR : R = (Ps.nd kind nm l place, s')) :
  Blk (((((((wr.setCell ⟨t2, 0, none⟩ (.int .i64 (kind : Int))).setCell ⟨t2, 1, none⟩ (.string ⟨nm.toArray⟩)).setCell ⟨t2, 2, none⟩ (.slice none 0 0)).setCell ⟨t2, 3, none⟩ (.slice none 0 0)).setCell ⟨t2, 4, none⟩ (.slice A3 n3 c3)).setCell ⟨t2, 5, none⟩ (.int .i64 0)).setCell ⟨t2, 6, none⟩ (.int .i64 (place : Int))) t2 27 #[.int .i64 (kind : Int), .string ⟨nm.toArray⟩, .slice none 0 0, .slice none 0 0, .slice A3 n3 c3, .int .i64 0, .int .i64 (place : Int)] ∧
  NdP w g A c T fin base R (.returned (.agg #[.int .i64 (kind : Int), .string ⟨nm.toArray⟩, .slice none 0 0, .slice none 0 0, .slice A3 n3 c3, .int .i64 0, .int .i64 (place : Int)])) (((((((wr.setCell ⟨t2, 0, none⟩ (.int .i64 (kind : Int))).setCell ⟨t2, 1, none⟩ (.string ⟨nm.toArray⟩)).setCell ⟨t2, 2, none⟩ (.slice none 0 0)).setCell ⟨t2, 3, none⟩ (.slice none 0 0)).setCell ⟨t2, 4, none⟩ (.slice A3 n3 c3)).setCell ⟨t2, 5, none⟩ (.int .i64 0)).setCell ⟨t2, 6, none⟩ (.int .i64 (place : Int))) := by
 subst hR
 have E4 := h.env.put7 1 rfl (.int .i64 (kind : Int)) (.string ⟨nm.toArray⟩) (.slice none 0 0) (.slice none 0 0) (.slice A3 n3 c3) (.int .i64 0) (.int .i64 (place : Int))
 have hrow := h.row
 obtain ⟨_, _, e, hc, _⟩ := hrow.form
 injection e with _ e2 _
 subst e2
 refine ⟨E4.blk 1 rfl, _, rfl, E4.pp, h.bd, ?_⟩
 exact TrM.swap ((TrM.nd kind nm place hrow).store (chg_set7 _ _ _ _ _ _ _ _ _) fun _ e => .inr e) (fun k _ _ e => e.elim)
end
section
variable {w w4 w5 wr : World} {g c fin base ts t2 t3 t4 : Nat} {A : Option Addr} {T : List Lx.Tk} {s' : Ps.PS} {l : List Ps.Tr} {v : Value} {n' : Ps.Tr} {x0 x1 x2 x3 x4 x5 x6 : Value}
theorem AcS.fill {L : List Lc} {X : Nat → Prop} (h : Env w g A c T fin s' L wr) (i j : Nat) (hi : L[i]? = some ⟨ts, 27, [.int .i64 0, .string ⟨#[]⟩, .slice none 0 0, .slice none 0 0, .slice none 0 0, .int .i64 0, .int .i64 0]⟩) (hj : L[j]? = some ⟨t2, 27, [.int .i64 0, .string ⟨#[]⟩, .slice none 0 0, .slice none 0 0, .slice none 0 0, .int .i64 0, .int .i64 0]⟩) (hij : i ≠ j) (hr : TsM wr base X v l) (hX : X ts ∧ X t2) (hb : Bd T s') (hv : ∀ k, v.ownBlock = some k → w.heap.size ≤ k) (kind place : Nat) (nm : Lx.Txt) :
  AcS w g A c T fin base ts t2 kind place s' nm l v (((((((wr.setCell ⟨ts, 0, none⟩ (.int .i64 (kind : Int))).setCell ⟨ts, 1, none⟩ (.string ⟨nm.toArray⟩)).setCell ⟨ts, 2, none⟩ (.slice none 0 0)).setCell ⟨ts, 3, none⟩ (.slice none 0 0)).setCell ⟨ts, 4, none⟩ v).setCell ⟨ts, 5, none⟩ (.int .i64 0)).setCell ⟨ts, 6, none⟩ (.int .i64 (place : Int))) := by
 have E1 := (h.pick2 i j hi hj hij).put7 0 rfl (.int .i64 (kind : Int)) (.string ⟨nm.toArray⟩) (.slice none 0 0) (.slice none 0 0) v (.int .i64 0) (.int .i64 (place : Int))
 refine ⟨E1, TsM.store (hr.swap fun k _ _ e => ?_) (chg_set7 _ _ _ _ _ _ _ _ _) fun _ e => .inl e, hb, hv⟩
 rcases e with e | e
 ·rw [e]; exact hX.1
 ·rw [e]; exact hX.2
theorem slot_own {k n c : Nat} {q : Nat} (h : (Value.slice (some ⟨k, 0, none⟩) n c).ownBlock = some q) : q = k := by simpa [Value.ownBlock] using h.symm
theorem kw1 (h : UnS w g A c T fin base t3 t4 s' n' [x0, x1, x2, x3, x4, x5, x6] w4) (hbw : base ≤ w.heap.size) (hb : Below (w4.alloc (.cells #[x0, x1, x2, x3, x4, x5, x6] 27)).drew.heap.size (w4.alloc (.cells #[x0, x1, x2, x3, x4, x5, x6] 27)).drew w5) (kind place : Nat) (nm : Lx.Txt) :
  AcS w g A c T fin base w5.heap.size t4 kind place s' nm [n'] (.slice (some ⟨w4.heap.size, 0, none⟩) 1 1) (w5.alloc (.cells #[.int .i64 (kind : Int), .string ⟨nm.toArray⟩, .slice none 0 0, .slice none 0 0, .slice (some ⟨w4.heap.size, 0, none⟩) 1 1, .int .i64 0, .int .i64 (place : Int)] 27)) := by
 have l3 := (h.env.blk 1 rfl).lt
 have l4 := (h.env.blk 0 rfl).lt
 have hs := h.env.size
 have h1 := TsM.one h.tr (by omega) (by omega)
 exact AcS.start (h.env.below ((new_below _ _).drew.trans (hb.mono (by simp)))) 0 rfl rfl ((h1.below (Below.refl _ _).drew).below hb) (.inr rfl) h.bd (fun k hk => by rw [slot_own hk]; omega) kind place nm
theorem kw2 (h : UnS w g A c T fin base t3 t4 s' n' [x0, x1, x2, x3, x4, x5, x6] w4) (hbw : base ≤ w.heap.size) (hb : Below ((w4.alloc (.cells #[x0, x1, x2, x3, x4, x5, x6] 27)).alloc (.cells #[.int .i64 0, .string ⟨#[]⟩, .slice none 0 0, .slice none 0 0, .slice none 0 0, .int .i64 0, .int .i64 0] 27)).drew.heap.size ((w4.alloc (.cells #[x0, x1, x2, x3, x4, x5, x6] 27)).alloc (.cells #[.int .i64 0, .string ⟨#[]⟩, .slice none 0 0, .slice none 0 0, .slice none 0 0, .int .i64 0, .int .i64 0] 27)).drew w5) (kind place : Nat) (nm : Lx.Txt) :
  AcS w g A c T fin base (w4.heap.size + 1) t4 kind place s' nm [n'] (.slice (some ⟨w4.heap.size, 0, none⟩) 1 1) (((((((w5.setCell ⟨w4.heap.size + 1, 0, none⟩ (.int .i64 (kind : Int))).setCell ⟨w4.heap.size + 1, 1, none⟩ (.string ⟨nm.toArray⟩)).setCell ⟨w4.heap.size + 1, 2, none⟩ (.slice none 0 0)).setCell ⟨w4.heap.size + 1, 3, none⟩ (.slice none 0 0)).setCell ⟨w4.heap.size + 1, 4, none⟩ (.slice (some ⟨w4.heap.size, 0, none⟩) 1 1)).setCell ⟨w4.heap.size + 1, 5, none⟩ (.int .i64 0)).setCell ⟨w4.heap.size + 1, 6, none⟩ (.int .i64 (place : Int))) := by
 have l3 := (h.env.blk 1 rfl).lt
 have l4 := (h.env.blk 0 rfl).lt
 have hs := h.env.size
 have h1 := TsM.one (TrM.swap h.tr (X' := fun k => k = t3 ∨ k = t4 ∨ k = w4.heap.size + 1) fun k _ hk e => by omega) (by omega) (by omega)
 have E1 := (((h.env.alloc (.cells #[x0, x1, x2, x3, x4, x5, x6] 27)).boxk (w4.heap.size + 1) (by simp) 27 [.int .i64 0, .string ⟨#[]⟩, .slice none 0 0, .slice none 0 0, .slice none 0 0, .int .i64 0, .int .i64 0] (by decide)).drew).below hb
 exact AcS.fill E1 0 1 rfl rfl (by decide) (((h1.below (new_below _ _)).below (Below.refl _ _).drew).below hb) ⟨.inr (.inr rfl), .inr (.inl rfl)⟩ h.bd (fun k hk => by rw [slot_own hk]; omega) kind place nm
theorem kw3 (h : UnS w g A c T fin base t3 t4 s' n' [x0, x1, x2, x3, x4, x5, x6] w5) (hbw : base ≤ w.heap.size) (kind place : Nat) (nm : Lx.Txt) :
  AcS w g A c T fin base (w5.heap.size + 1) t4 kind place s' nm [n'] (.slice (some ⟨w5.heap.size, 0, none⟩) 1 1) ((w5.alloc (.cells #[x0, x1, x2, x3, x4, x5, x6] 27)).alloc (.cells #[.int .i64 (kind : Int), .string ⟨nm.toArray⟩, .slice none 0 0, .slice none 0 0, .slice (some ⟨w5.heap.size, 0, none⟩) 1 1, .int .i64 0, .int .i64 (place : Int)] 27)) := by
 have l3 := (h.env.blk 1 rfl).lt
 have l4 := (h.env.blk 0 rfl).lt
 have hs := h.env.size
 have h1 := TsM.one h.tr (by omega) (by omega)
 exact AcS.start (h.env.alloc _) 0 rfl (by simp) h1 (.inr rfl) h.bd (fun k hk => by rw [slot_own hk]; omega) kind place nm
theorem kw4 (h : UnS w g A c T fin base t3 t4 s' n' [x0, x1, x2, x3, x4, x5, x6] w5) (hbw : base ≤ w.heap.size) (kind place : Nat) (nm : Lx.Txt) :
  AcS w g A c T fin base w5.heap.size t4 kind place s' nm [n'] (.slice (some ⟨w5.heap.size + 1, 0, none⟩) 1 1) ((w5.alloc (.cells #[.int .i64 (kind : Int), .string ⟨nm.toArray⟩, .slice none 0 0, .slice none 0 0, .slice (some ⟨w5.heap.size + 1, 0, none⟩) 1 1, .int .i64 0, .int .i64 (place : Int)] 27)).alloc (.cells #[x0, x1, x2, x3, x4, x5, x6] 27)) := by
 have l3 := (h.env.blk 1 rfl).lt
 have l4 := (h.env.blk 0 rfl).lt
 have hs := h.env.size
 have h0 := TrM.below (TrM.swap h.tr (X' := fun k => k = w5.heap.size ∨ k = t4) fun k _ hk e => by omega) (new_below w5 (.cells #[.int .i64 (kind : Int), .string ⟨nm.toArray⟩, .slice none 0 0, .slice none 0 0, .slice (some ⟨w5.heap.size + 1, 0, none⟩) 1 1, .int .i64 0, .int .i64 (place : Int)] 27))
 have h1 := TsM.one h0 (by simp; omega) (by simp; omega)
 have e : (w5.alloc (.cells #[.int .i64 (kind : Int), .string ⟨nm.toArray⟩, .slice none 0 0, .slice none 0 0, .slice (some ⟨w5.heap.size + 1, 0, none⟩) 1 1, .int .i64 0, .int .i64 (place : Int)] 27)).heap.size = w5.heap.size + 1 := by simp
 rw [e] at h1
 exact ⟨((h.env.box 27 _ (by decide)).pick2 0 1 rfl rfl (by decide)).alloc _, h1, h.bd, fun k hk => by rw [slot_own hk]; omega⟩
theorem kw5 (h : UnS w g A c T fin base t3 t4 s' n' [x0, x1, x2, x3, x4, x5, x6] w4) (hbw : base ≤ w.heap.size) (hb : Below ((w4.alloc (.cells #[.int .i64 0, .string ⟨#[]⟩, .slice none 0 0, .slice none 0 0, .slice none 0 0, .int .i64 0, .int .i64 0] 27)).alloc (.cells #[x0, x1, x2, x3, x4, x5, x6] 27)).drew.heap.size ((w4.alloc (.cells #[.int .i64 0, .string ⟨#[]⟩, .slice none 0 0, .slice none 0 0, .slice none 0 0, .int .i64 0, .int .i64 0] 27)).alloc (.cells #[x0, x1, x2, x3, x4, x5, x6] 27)).drew w5) (kind place : Nat) (nm : Lx.Txt) :
  AcS w g A c T fin base w4.heap.size t4 kind place s' nm [n'] (.slice (some ⟨w4.heap.size + 1, 0, none⟩) 1 1) (((((((w5.setCell ⟨w4.heap.size, 0, none⟩ (.int .i64 (kind : Int))).setCell ⟨w4.heap.size, 1, none⟩ (.string ⟨nm.toArray⟩)).setCell ⟨w4.heap.size, 2, none⟩ (.slice none 0 0)).setCell ⟨w4.heap.size, 3, none⟩ (.slice none 0 0)).setCell ⟨w4.heap.size, 4, none⟩ (.slice (some ⟨w4.heap.size + 1, 0, none⟩) 1 1)).setCell ⟨w4.heap.size, 5, none⟩ (.int .i64 0)).setCell ⟨w4.heap.size, 6, none⟩ (.int .i64 (place : Int))) := by
 have l3 := (h.env.blk 1 rfl).lt
 have l4 := (h.env.blk 0 rfl).lt
 have hs := h.env.size
 have h0 := TrM.below (TrM.swap h.tr (X' := fun k => k = t3 ∨ k = t4 ∨ k = w4.heap.size) fun k _ hk e => by omega) (new_below w4 (.cells #[.int .i64 0, .string ⟨#[]⟩, .slice none 0 0, .slice none 0 0, .slice none 0 0, .int .i64 0, .int .i64 0] 27))
 have h1 := TsM.one h0 (by simp; omega) (by simp; omega)
 have e : (w4.alloc (.cells #[.int .i64 0, .string ⟨#[]⟩, .slice none 0 0, .slice none 0 0, .slice none 0 0, .int .i64 0, .int .i64 0] 27)).heap.size = w4.heap.size + 1 := by simp
 rw [e] at h1
 have E1 := (((h.env.boxk w4.heap.size rfl 27 [.int .i64 0, .string ⟨#[]⟩, .slice none 0 0, .slice none 0 0, .slice none 0 0, .int .i64 0, .int .i64 0] (by decide)).alloc (.cells #[x0, x1, x2, x3, x4, x5, x6] 27)).drew).below hb
 exact AcS.fill E1 0 1 rfl rfl (by decide) ((h1.below (Below.refl _ _).drew).below hb) ⟨.inr (.inr rfl), .inr (.inl rfl)⟩ h.bd (fun k hk => by rw [slot_own hk]; omega) kind place nm
theorem kw6 (h : UnS w g A c T fin base t3 t4 s' n' [x0, x1, x2, x3, x4, x5, x6] w4) (hbw : base ≤ w.heap.size) (hb : Below (w4.alloc (.cells #[.int .i64 0, .string ⟨#[]⟩, .slice none 0 0, .slice none 0 0, .slice none 0 0, .int .i64 0, .int .i64 0] 27)).drew.heap.size (w4.alloc (.cells #[.int .i64 0, .string ⟨#[]⟩, .slice none 0 0, .slice none 0 0, .slice none 0 0, .int .i64 0, .int .i64 0] 27)).drew w5) (kind place : Nat) (nm : Lx.Txt) :
  AcS w g A c T fin base w4.heap.size t4 kind place s' nm [n'] (.slice (some ⟨w5.heap.size, 0, none⟩) 1 1) ((((((((w5.setCell ⟨w4.heap.size, 0, none⟩ (.int .i64 (kind : Int))).setCell ⟨w4.heap.size, 1, none⟩ (.string ⟨nm.toArray⟩)).setCell ⟨w4.heap.size, 2, none⟩ (.slice none 0 0)).setCell ⟨w4.heap.size, 3, none⟩ (.slice none 0 0)).setCell ⟨w4.heap.size, 4, none⟩ (.slice (some ⟨w5.heap.size, 0, none⟩) 1 1)).setCell ⟨w4.heap.size, 5, none⟩ (.int .i64 0)).setCell ⟨w4.heap.size, 6, none⟩ (.int .i64 (place : Int))).alloc (.cells #[x0, x1, x2, x3, x4, x5, x6] 27)) := by
 have l3 := (h.env.blk 1 rfl).lt
 have l4 := (h.env.blk 0 rfl).lt
 have hs := h.env.size
 have h0 := TrM.below (TrM.swap h.tr (X' := fun k => k = t3 ∨ k = t4 ∨ k = w4.heap.size) fun k _ hk e => by omega) ((new_below w4 (.cells #[.int .i64 0, .string ⟨#[]⟩, .slice none 0 0, .slice none 0 0, .slice none 0 0, .int .i64 0, .int .i64 0] 27)).drew.trans (hb.mono (by simp)))
 have E1 := ((h.env.boxk w4.heap.size rfl 27 [.int .i64 0, .string ⟨#[]⟩, .slice none 0 0, .slice none 0 0, .slice none 0 0, .int .i64 0, .int .i64 0] (by decide)).drew).below hb
 have hl : w4.heap.size < w5.heap.size := (E1.blk 0 rfl).lt
 have h1 := TsM.one h0 (by omega) (by omega)
 rw [set7_alloc _ _ _ _ _ _ _ _ _ _ hl]
 exact AcS.fill (E1.alloc _) 0 1 rfl rfl (by decide) h1 ⟨.inr (.inr rfl), .inr (.inl rfl)⟩ h.bd (fun k hk => by rw [slot_own hk]; omega) kind place nm
end
end Go.Proofs.YtjhonaglmgmpiaaGreatDoor
