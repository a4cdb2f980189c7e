/-
  Parts RwC, RwD, RwE, PxE, RwF of the proof. No statement of the seat is proved here.
-/
import Derived.Test.YtbnlnndeajjenaaGreatP11
import Derived.Deep.RegionHeld3
set_option maxHeartbeats 4000000
namespace Go.Proofs.YtbnlnndeajjenaaGreat
open Go.RowKit
theorem rtake_z {w : World} {g c : Nat} {A : Option Addr} {T : List Lx.Tk} {s : Rs.RS} (h : RA w g A c T s) (hlt : s.at_ < T.length) (hs : s.at_ ≤ 100000) (k : Nat) (x : Lx.Txt) {z : Int} (hz : z = (k : Int)) {xs : Array UInt8} (hx : xs = x.toArray) :
  Calls Tryz.prog 41 #[.pointer (some ⟨g, 0, none⟩), .int .i64 z, .string ⟨xs⟩] w fun e' w' => e' = .returned (.agg #[.int .i64 (((Rs.take T k x s).1).1 : Int), .string ⟨((Rs.take T k x s).1).2.1.toArray⟩, .int .i64 (((Rs.take T k x s).1).2.2 : Int)]) ∧ RP w g A c T (Rs.take T k x s).2 w' := by
 subst hz hx
 exact rtake_any h hlt hs k x
def RDclP (w : World) (g : Nat) (A : Option Addr) (c : Nat) (T : List Lx.Tk) (base : Nat) (v : Value) (r : List Lx.Txt × Rs.RS) (e : Ending) (w' : World) : Prop :=
 ∃ v', e = .returned v' ∧ Chg (fun k => k = g ∨ v.ownBlock = some k) w w' ∧ RA w' g A c T r.2 ∧ SsN w' base v' r.1 ∧ (v'.ownBlock = v.ownBlock ∨ ∃ k, v'.ownBlock = some k ∧ w.heap.size ≤ k)
theorem RDclP.end_ {w w3 w' : World} {g c base : Nat} {A : Option Addr} {T : List Lx.Tk} {s3 : Rs.RS} {L : List Lc} {v v' : Value} {l l' : List Lx.Txt} {o : Obj} (h : Ev w g A c T s3 L w3) (hgb : g < base) (h3 : SsN w3 base v l') (ho : SsN w' base v' l) (ha : App (w3.alloc o) v w' v') : RDclP w g A c T base v (l, s3) (.returned v') w' := by
 have ha := ha.from
 refine ⟨v', rfl, (h.chg.mono (G := fun k => k = g ∨ v.ownBlock = some k) fun i _ e => .inl e).trans (Chg.of_grown ha.1 (F := fun k => v.ownBlock = some k) fun k e => e) (fun i _ e => .inr e), h.pa.grown h3 hgb ha.1, ho, ?_⟩
 rcases ha.2 with e | ⟨k, e, hk⟩
 ·exact .inl e
 ·exact .inr ⟨k, e, Nat.le_trans h.size hk⟩
set_option maxRecDepth 20000 in
theorem rdecl_any {w : World} {g c : Nat} {A : Option Addr} {T : List Lx.Tk} {s : Rs.RS} {base : Nat} {v : Value} {l : List Lx.Txt} (h : RA w g A c T s) (hlt : s.at_ < T.length) (hs : s.at_ ≤ 100000) (ho : SsN w base v l) (hgb : g < base) (hbw : base ≤ w.heap.size) (hl : l.length ≤ 1000000) :
  Calls Tryz.prog 40 #[.pointer (some ⟨g, 0, none⟩), v] w (RDclP w g A c T base v (Rs.decl T l s)) := by
 have E0 := Ev.start h
 have HN := Hd (rtake_any E0.pa hlt hs 1 [])
 have HO := Hd ho
 obtain ⟨r, hr⟩ : ∃ r, Rs.take T 1 [] s = r := ⟨_, rfl⟩
 have HW : Hid (Rs.decl T l s = if Rs.bad r.2 then (l, r.2) else (l ++ [r.1.2.1], if Ps.resv r.1.2.1 || hasT l r.1.2.1 then Rs.fail r.2 126 r.1.2.2 else r.2)) := Hd (by unfold Rs.decl; rw [hr]; rfl)
 rw [hr] at HN
 clear h ho hr
 obtain ⟨Av, cv, rfl, -, -⟩ := SsN.form HO.out
 obtain ⟨n, hn⟩ : ∃ n, n = l.length := ⟨_, rfl⟩
 obtain ⟨t, s1⟩ := r
 dsimp only at HN HW
 go_enter Tryz.func40, Tryz.ntmps40
 go_upto_region 2 with (go_at_call 41; refine HN.out.mono ?_; rintro e w1 ⟨rfl, hp⟩; have E1 := E0.call hp; clear hp)
 have HO1 := Hd (HO.out.call E1.chg hgb)
 refine wp_world (fun W => Ev w g A c T s1 _ W ∧ SsN W base (.slice Av l.length cv) l) ⟨E1.box 40 [_, _, _], HO1.out.below (new_below _ _)⟩ fun w2 h2 => ?_
 obtain ⟨E2, ho2⟩ := h2
 have HO2 := Hd ho2
 clear E0 E1 HO HO1 ho2 HN
 obtain ⟨a, a0, a1, a2⟩ := E2.c3 0 rfl
 have HB := Hd fun (W : World) (h : RA W g A c T s1) => rbad_any h
 cases hk : Rs.bad s1 with
 | true =>
  have HE : Hid (Rs.decl T l s = (l, s1)) := Hd (by rw [HW.out, hk]; rfl)
  rw [hk] at HB
  clear hk HW
  go_wp2_with (go_at_call 26; refine (HB.out _ E2.pa).mono ?_; rintro e w3 ⟨rfl, rfl⟩)
  go_ret
  rw [HE.out]
  exact ⟨_, rfl, E2.chg.mono (fun _ _ e => .inl e), E2.pa, HO2.out, .inl rfl⟩
 | false =>
  have HW2 : Hid (Rs.decl T l s = (l ++ [t.2.1], if Ps.resv t.2.1 || hasT l t.2.1 then Rs.fail s1 126 t.2.2 else s1)) := Hd (by rw [HW.out, hk]; rfl)
  rw [hk] at HB
  clear hk HW
  have HN := Hd hn
  rw [← hn]
  rw [← hn] at hl
  have HE2 := Hd E2
  clear hn E2
  go_upto_block 0 with (go_at_call 26; refine (HB.out _ HE2.out.pa).mono ?_; rintro e w3 ⟨rfl, rfl⟩)
  go_wp2
  go_loopw [6, 7] (fun ag i wr => ∃ (k : Nat) (b : Bool), k ≤ n ∧ i = .int .i64 k ∧ ag = .bool b ∧ (b || hasT (l.drop k) t.2.1) = hasT l t.2.1 ∧ Below w3.heap.size w3 wr) (fun _ i _ => n - (intOf i).toNat)
  case atStart => exact ⟨0, false, Nat.zero_le _, rfl, rfl, rfl, Below.refl _ _⟩
  case round =>
   obtain ⟨k, b, hk, rfl, rfl, hall, hb⟩ := hrel
   have HBW := Hd hb
   have HALL := Hd hall
   have HER := Hd (HE2.out.below hb)
   have HOR := Hd (HO2.out.below hb)
   clear hb hall a a0 a1 a2
   obtain ⟨a, a0, a1, a2⟩ := HER.out.c3 0 rfl
   by_cases hlt : k < n
   ·have hy := List.getElem?_eq_getElem (l := l) (i := k) (by rw [← HN.out]; exact hlt)
    generalize l[k]'_ = y at hy
    obtain ⟨b2, rfl, hb2, hc2⟩ := SsN.at_ HOR.out rfl hy
    have HD := Hd (has_step hy t.2.1)
    have l1 : (0 : Int) ≤ (k : Int) := by omega
    have l2 : (k : Int) < (n : Int) := by omega
    clear hy
    cases b with
    | true =>
     have HA2 : Hid ((true || hasT (l.drop (k + 1)) t.2.1) = hasT l t.2.1) := Hd (by rw [← HALL.out]; rfl)
     go_wp2
     go_quiet (fail)
     go_wp2
     go_roundw
     case rel => exact ⟨k + 1, true, by omega, by go_num, rfl, HA2.out, below_drewN HBW.out _⟩
     case measure => simp [intOf]; omega
    | false =>
     have d := str_eqb y t.2.1
     obtain ⟨q, hq⟩ : ∃ q, (y == t.2.1) = q := ⟨_, rfl⟩
     rw [hq] at d
     have HA2 : Hid ((q || hasT (l.drop (k + 1)) t.2.1) = hasT l t.2.1) := Hd (by rw [← HALL.out, HD.out, ← hq, Bool.beq_comm (a := y)]; rfl)
     have HQ := Hd hq
     clear hq
     go_wp2
     go_quiet (fail)
     go_wp2
     go_roundw
     case rel => exact ⟨k + 1, q, by omega, by go_num, by rw [HQ.out], HA2.out, below_drewN HBW.out _⟩
     case measure => simp [intOf]; omega
   ·have HE3 : Hid (b = hasT l t.2.1) := Hd (by have := HALL.out; rw [List.drop_eq_nil_of_le (by rw [← HN.out]; omega)] at this; simpa [hasT] using this)
    have HRV := Hd fun w => rresv_any t.2.1 w
    obtain ⟨rv, hrv⟩ : ∃ rv, Ps.resv t.2.1 = rv := ⟨_, rfl⟩
    rw [hrv] at HRV
    cases rv with
    | true =>
     have HE : Hid (Rs.decl T l s = (l ++ [t.2.1], Rs.fail s1 126 t.2.2)) := Hd (by rw [HW2.out, hrv]; rfl)
     clear hrv
     go_upto_region 11 with (first
      | (go_at_call 64; refine (HRV.out _).mono ?_; rintro e w4 ⟨rfl, rfl⟩)
      | (go_at_call 42; refine (rfail_any HER.out.pa 126 t.2.2 (by decide)).mono ?_; rintro e w5 ⟨rfl, hp⟩; have HE5 := Hd (HER.out.call hp); have HO5 := Hd (HOR.out.call hp.1 hgb); clear hp))
     clear a a0 a1 a2 HER HOR
     obtain ⟨a, a0, a1, a2⟩ := HE5.out.c3 0 rfl
     go_wp2_with (at_builtin; refine wpList_snocT rfl (.tmp 39) (.tmp 42) 23 rfl info9 Tryz.underlying23 base (.slice Av n cv) l t.2.1 _ _ rfl rfl (by rw [HN.out]; exact World.ownsRow.alloc HO5.out _) (by simp) ((Blk.new _ _ _).cell 0) (by rw [← HN.out]; omega) (by have := HE5.out.size; simp; omega) ?_; intro v' w' hown happ; have HO6 := Hd hown; have HA6 := Hd happ; clear hown happ)
     go_ret
     rw [HE.out]
     have h9 := RDclP.end_ (v := .slice Av n cv) HE5.out hgb (by rw [HN.out]; exact HO5.out) HO6.out HA6.out
     rw [HN.out] at h9
     exact h9
    | false =>
     cases b with
     | true =>
      have HE : Hid (Rs.decl T l s = (l ++ [t.2.1], Rs.fail s1 126 t.2.2)) := Hd (by rw [HW2.out, hrv, ← HE3.out]; rfl)
      clear hrv
      go_upto_region 11 with (first
       | (go_at_call 64; refine (HRV.out _).mono ?_; rintro e w4 ⟨rfl, rfl⟩)
       | (go_at_call 42; refine (rfail_any HER.out.pa 126 t.2.2 (by decide)).mono ?_; rintro e w5 ⟨rfl, hp⟩; have HE5 := Hd (HER.out.call hp); have HO5 := Hd (HOR.out.call hp.1 hgb); clear hp))
      clear a a0 a1 a2 HER HOR
      obtain ⟨a, a0, a1, a2⟩ := HE5.out.c3 0 rfl
      go_wp2_with (at_builtin; refine wpList_snocT rfl (.tmp 39) (.tmp 42) 23 rfl info9 Tryz.underlying23 base (.slice Av n cv) l t.2.1 _ _ rfl rfl (by rw [HN.out]; exact World.ownsRow.alloc HO5.out _) (by simp) ((Blk.new _ _ _).cell 0) (by rw [← HN.out]; omega) (by have := HE5.out.size; simp; omega) ?_; intro v' w' hown happ; have HO6 := Hd hown; have HA6 := Hd happ; clear hown happ)
      go_ret
      rw [HE.out]
      have h9 := RDclP.end_ (v := .slice Av n cv) HE5.out hgb (by rw [HN.out]; exact HO5.out) HO6.out HA6.out
      rw [HN.out] at h9
      exact h9
     | false =>
      have HE : Hid (Rs.decl T l s = (l ++ [t.2.1], s1)) := Hd (by rw [HW2.out, hrv, ← HE3.out]; rfl)
      clear hrv
      go_upto_region 11 with (go_at_call 64; refine (HRV.out _).mono ?_; rintro e w4 ⟨rfl, rfl⟩)
      have HE5 := HER
      have HO5 := HOR
      clear a a0 a1 a2 HER HOR
      obtain ⟨a, a0, a1, a2⟩ := HE5.out.c3 0 rfl
      go_wp2_with (at_builtin; refine wpList_snocT rfl (.tmp 39) (.tmp 42) 23 rfl info9 Tryz.underlying23 base (.slice Av n cv) l t.2.1 _ _ rfl rfl (by rw [HN.out]; exact World.ownsRow.alloc HO5.out _) (by simp) ((Blk.new _ _ _).cell 0) (by rw [← HN.out]; omega) (by have := HE5.out.size; simp; omega) ?_; intro v' w' hown happ; have HO6 := Hd hown; have HA6 := Hd happ; clear hown happ)
      go_ret
      rw [HE.out]
      have h9 := RDclP.end_ (v := .slice Av n cv) HE5.out hgb (by rw [HN.out]; exact HO5.out) HO6.out HA6.out
      rw [HN.out] at h9
      exact h9
theorem Rs.Bd.lt {T : List Lx.Tk} {fin : Nat} {s : Rs.RS} (h : Rs.Bd T s) : s.at_ < (Rs.toks T fin).length := by have := h.at_; rw [Ps.toks_len]; omega
theorem Rs.Bd.le {T : List Lx.Tk} {s : Rs.RS} (h : Rs.Bd T s) (hT : T.length ≤ 65536) : s.at_ ≤ 100000 := by have := h.at_; omega
theorem Rs.Bd.adv {T : List Lx.Tk} {s : Rs.RS} (h : Rs.Bd T s) (hlt : s.at_ < T.length) : Rs.Bd T (Rs.adv s) := h.mv (Rs.mv_adv hlt)
def RNmsP (w : World) (g : Nat) (A : Option Addr) (c : Nat) (L : List Lx.Tk) (r : List Lx.Txt × Rs.RS) (e : Ending) (w' : World) : Prop := ∃ v, e = .returned v ∧ RP w g A c L r.2 w' ∧ SsN w' w.heap.size v r.1
set_option maxRecDepth 20000 in
theorem rtemps_any {w : World} {g c fin : Nat} {A : Option Addr} {T : List Lx.Tk} {s : Rs.RS} (h : RA w g A c (Rs.toks T fin) s) (hb : Rs.Bd T s) (hT : T.length ≤ 65536) :
  Calls Tryz.prog 24 #[.pointer (some ⟨g, 0, none⟩)] w (RNmsP w g A c (Rs.toks T fin) (Rs.temps (Rs.toks T fin) s)) := by
 have E0 := Ev.start h
 have HI := Hd (ris_z h hb.lt 7 [124] (z := 7) rfl (xs := #[124]) rfl)
 clear h
 cases hi : Rs.is_ (Rs.toks T fin) 7 [124] s with
 | false =>
  have HE : Hid (Rs.temps (Rs.toks T fin) s = ([], s)) := Hd (by unfold Rs.temps; rw [hi]; rfl)
  rw [hi] at HI
  clear hi
  go_enter Tryz.func24, Tryz.ntmps24
  go_wp2_with (go_at_call 38; refine HI.out.mono ?_; rintro e w1 ⟨rfl, hb⟩; have E1 := E0.below hb)
  go_ret
  exact ⟨_, rfl, by rw [HE.out]; exact E1.pp, by rw [HE.out]; exact SsN.nil _ _⟩
 | true =>
  obtain ⟨R, hR⟩ : ∃ R, Rs.tmpL (Rs.toks T fin) (T.length + 4) [] (Rs.adv s) = R := ⟨_, rfl⟩
  have HE : Hid (Rs.temps (Rs.toks T fin) s = (R.1, if Rs.bad R.2 then R.2 else Rs.adv R.2)) := Hd (by unfold Rs.temps; rw [hi, Ps.toks_len, hR]; rfl)
  have hlt : s.at_ < T.length := Rs.is_lt (by decide) hi
  have HR := Hd hR
  have hs := hb.le hT
  have HB1 := Hd (hb.adv hlt)
  rw [hi] at HI
  clear hi hR hb
  go_enter Tryz.func24, Tryz.ntmps24
  go_upto_region 4 with (go_at_call 38; refine HI.out.mono ?_; rintro e w1 ⟨rfl, hb⟩; have E1 := E0.below hb; clear hb)
  clear E0 HI
  obtain ⟨k0, k1, k2, k3, k4⟩ := E1.pa.cells
  have kf := E1.pa.frz 1
  have hg := E1.pa.lt
  go_upto_block 0 with fail
  refine wp_world (Ev w g A c (Rs.toks T fin) (Rs.adv s) []) (E1.setAt (s.at_ + 1) _ (by first | rfl | omega)) fun w2 E2 => ?_
  clear E1 k0 k1 k2 k3 k4 kf hg
  go_wp2
  go_loopg [3] (T.length + 4) (fun f v wr => ∃ (l : List Lx.Txt) (s' : Rs.RS), Ev w g A c (Rs.toks T fin) s' [] wr ∧ SsN wr w.heap.size v l ∧ Rs.Bd T s' ∧ (Rs.bad s' = false → T.length < s'.at_ + f) ∧ l.length + f ≤ T.length + 4 ∧ Rs.tmpL (Rs.toks T fin) f l s' = R)
  case atStart => exact ⟨[], Rs.adv s, E2, SsN.nil _ _, HB1.out, fun _ => by show T.length < s.at_ + 1 + _; omega, by simp, HR.out⟩
  case round =>
   obtain ⟨l, s', E1, hO, hb, hok, hlen, hR⟩ := hrel
   have HO1 := Hd hO
   have HOK := Hd hok
   have HR := Hd hR
   have HB := Hd hb
   have HBA := Hd fun (W : World) (h : RA W g A c (Rs.toks T fin) s') => rbad_any h
   have HIS := Hd fun (W : World) (h : RA W g A c (Rs.toks T fin) s') => ris_z h hb.lt 7 [124] (z := 7) rfl (xs := #[124]) rfl
   have hs' := hb.le hT
   have hat := hb.at_
   clear hO hok hR E2 hb
   cases hk : Rs.bad s' with
   | true =>
    have HE2 : Hid (Rs.temps (Rs.toks T fin) s = (l, s')) := Hd (by rw [HE.out, ← HR.out, Rs.tmpL_stop (by rw [hk]; rfl)]; show (l, if Rs.bad s' = true then s' else _) = _; rw [if_pos hk])
    rw [hk] at HBA
    clear hk
    go_wp2_with (go_at_call 26; refine (HBA.out _ E1.pa).mono ?_; rintro e w3 ⟨rfl, rfl⟩)
    go_ret
    exact ⟨_, rfl, by rw [HE2.out]; exact E1.pp, by rw [HE2.out]; exact HO1.out⟩
   | false =>
    have hf := HOK.out hk
    cases hi : Rs.is_ (Rs.toks T fin) 7 [124] s' with
    | true =>
     have HE2 : Hid (Rs.temps (Rs.toks T fin) s = (l, Rs.adv s')) := Hd (by rw [HE.out, ← HR.out, Rs.tmpL_stop (by rw [hk, hi]; rfl)]; show (l, if Rs.bad s' = true then s' else _) = _; rw [if_neg (by rw [hk]; decide)])
     rw [hi] at HIS
     rw [hk] at HBA
     clear hk hi hf
     go_upto_region 8 with (first
      | (go_at_call 26; with_reducible refine (HBA.out _ E1.pa).mono ?_; rintro e w3 ⟨rfl, rfl⟩)
      | (go_at_call 38; with_reducible refine (HIS.out _ E1.pa).mono ?_; rintro e w4 ⟨rfl, hb⟩; have E4 := E1.below hb; have HO4 := Hd (HO1.out.below hb); clear hb)
      | (go_at_call 26; with_reducible refine (HBA.out _ E4.pa).mono ?_; rintro e w5 ⟨rfl, rfl⟩))
     obtain ⟨k0, k1, k2, k3, k4⟩ := E4.pa.cells
     have kf := E4.pa.frz 1
     have hg := E4.pa.lt
     go_upto_region 9 with fail
     refine wp_world (fun W => Ev w g A c (Rs.toks T fin) (Rs.adv s') [] W ∧ SsN W w.heap.size _ l) ⟨E4.setAt (s'.at_ + 1) _ (by first | rfl | omega), HO4.out.call (chg_set _ _ _ _) E4.gl⟩ fun w6 h6 => ?_
     go_wp2
     go_ret
     exact ⟨_, rfl, by rw [HE2.out]; exact h6.1.pp, by rw [HE2.out]; exact h6.2⟩
    | false =>
     obtain ⟨f, rfl⟩ : ∃ f, gk = f + 1 := ⟨gk - 1, by omega⟩
     have HR2 : Hid (Rs.tmpL (Rs.toks T fin) f (Rs.decl (Rs.toks T fin) l s').1 (Rs.decl (Rs.toks T fin) l s').2 = R) := Hd (by rw [← HR.out]; show _ = Rs.tmpL (Rs.toks T fin) (f + 1) l s'; rw [Rs.tmpL, if_pos (by rw [hk, hi]; rfl)])
     have HD := Hd (Rs.mv_decl (T := T) (fin := fin) l s')
     have HL : Hid ((Rs.decl (Rs.toks T fin) l s').1.length ≤ l.length + 1) := Hd (by unfold Rs.decl; dsimp only; split <;> simp)
     have HDA : Hid (Rs.bad (Rs.decl (Rs.toks T fin) l s').2 = false → (Rs.decl (Rs.toks T fin) l s').2.at_ = s'.at_ + 1) := Hd fun h => (Rs.decl_adv h).1
     rw [hi] at HIS
     rw [hk] at HBA
     clear hk hi
     go_wp2_with (first
      | (go_at_call 26; with_reducible refine (HBA.out _ E1.pa).mono ?_; rintro e w3 ⟨rfl, rfl⟩)
      | (go_at_call 38; with_reducible refine (HIS.out _ E1.pa).mono ?_; rintro e w4 ⟨rfl, hb⟩; have E4 := E1.below hb; have HO4 := Hd (HO1.out.below hb); clear hb)
      | (go_at_call 40; refine (rdecl_any E4.pa HB.out.lt hs' HO4.out E1.gl E4.size (by omega)).mono ?_; rintro e w5 ⟨v5, rfl, hc5, hp5, ho5, hv5⟩; have E5 := E4.row hc5 hp5 (fun k hk => ⟨(World.ownsRow.lt HO4.out k hk).1, fun i x hx => by simp at hx⟩); have HO5 := Hd ho5; clear hc5 hp5 ho5 hv5))
     go_roundg f
     case measure => omega
     case rel => exact ⟨_, _, E5, HO5.out, HB.out.mv HD.out, fun hk => by have := HDA.out hk; omega, by have := HL.out; omega, HR2.out⟩
set_option maxRecDepth 20000 in
theorem rneg_any {w : World} {g c : Nat} {A : Option Addr} {T : List Lx.Tk} {s : Rs.RS} (h : RA w g A c T s) (hl : s.at_ + 1 < T.length) (hs : s.at_ ≤ 100000) (hp : (Rs.tok T s).2.2 ≤ 100000) :
  Calls Tryz.prog 97 #[.pointer (some ⟨g, 0, none⟩)] w fun e w' => e = .returned (.bool (Rs.neg T s)) ∧ Below w.heap.size w w' := by
 have H := Hd h
 have hg := h.lt
 have HI := Hd fun (W : World) (h : RA W g A c T s) => ris_z h (by omega) 3 [45] (z := 3) rfl (xs := #[45]) rfl
 have HT := Hd fun (W : World) (h : RA W g A c T s) => rtok_any h (by omega)
 have HE : Hid (Rs.neg T s = (Rs.is_ T 3 [45] s && (Rs.tok1 T s).1 == 4 && (Rs.tok1 T s).2.2 == (Rs.tok T s).2.2 + 1)) := Hd rfl
 obtain ⟨k0, k1, k2, k3, k4⟩ := h.cells
 obtain ⟨bb, off, rfl, hbg, hbw, t0, t1, t2⟩ := h.tok hl
 have HN : Hid (Rs.tok1 T s = T.getD (s.at_ + 1) (0, [], 0)) := Hd rfl
 rw [HN.out] at HE
 generalize T.getD (s.at_ + 1) (0, [], 0) = n at *
 generalize Rs.tok T s = t at *
 have hf2 := fld2 (.int .i64 (t.1 : Int)) (.string ⟨t.2.1.toArray⟩) (.int .i64 (t.2.2 : Int))
 obtain ⟨j, hj⟩ : ∃ j, s.at_ + 1 = j := ⟨_, rfl⟩
 have hji : (s.at_ : Int) + 1 = (j : Int) := by omega
 have hwr : IntKind.i64.wrap (j : Int) = (j : Int) := by rw [IntKind.wrap_i64]; omega
 obtain ⟨q, hq⟩ : ∃ q, t.2.2 + 1 = q := ⟨_, rfl⟩
 have hqi : (t.2.2 : Int) + 1 = (q : Int) := by omega
 have hwq : IntKind.i64.wrap (q : Int) = (q : Int) := by rw [IntKind.wrap_i64]; omega
 rw [hj] at t0 t1 t2 hl
 rw [hq] at HE
 have l1 : (0 : Int) ≤ (j : Int) := by omega
 have l2 : (j : Int) < (T.length : Int) := by omega
 have HS : Hid (∀ W', Below w.heap.size w W' → W'.cell? ⟨g, 0, none⟩ = some (.slice (some ⟨bb, off, none⟩) T.length c) ∧ W'.cell? ⟨g, 1, none⟩ = some (.int .i64 (s.at_ : Int)) ∧ W'.cell? ⟨bb, off + j * 3, none⟩ = some (.int .i64 (n.1 : Int)) ∧ W'.cell? ⟨bb, off + j * 3 + 2, none⟩ = some (.int .i64 (n.2.2 : Int))) :=
  Hd fun W' hb => ⟨(hb.cell (p := ⟨g, 0, none⟩) hg).trans k0, (hb.cell (p := ⟨g, 1, none⟩) hg).trans k1, (hb.cell (p := ⟨bb, off + j * 3, none⟩) hbw).trans t0, (hb.cell (p := ⟨bb, off + j * 3 + 2, none⟩) hbw).trans t2⟩
 clear h k0 k1 k2 k3 k4 t0 t1 t2 hj hq hs hp hg hbg hbw hl
 cases hi : Rs.is_ T 3 [45] s with
 | false =>
  have HE2 : Hid (Rs.neg T s = false) := Hd (by rw [HE.out, hi]; rfl)
  rw [hi] at HI
  clear hi HE
  go_enter Tryz.func97, Tryz.ntmps97
  go_wp2_with fail
  refine wp_region_held_drew (S := fun W => W.cell? ⟨g, 0, none⟩ = some (.slice (some ⟨bb, off, none⟩) T.length c) ∧ W.cell? ⟨g, 1, none⟩ = some (.int .i64 (s.at_ : Int)) ∧ W.cell? ⟨bb, off + j * 3, none⟩ = some (.int .i64 (n.1 : Int)) ∧ W.cell? ⟨bb, off + j * 3 + 2, none⟩ = some (.int .i64 (n.2.2 : Int))) (by kernel_rfl) (HS.out _ (Below.refl _ _).drew) (fun hHeld => ?_)
  refine ht (i := 0) ?_
  refine wpAnyH_ready (rs := [1]) (by kernel_rfl) (by simp) ?_
  refine AllReadyH.cons (by simp only [List.getElem?_toArray, List.getElem?_cons_succ, List.getElem?_cons_zero]; rfl) (fun K hK => ?_) AllReadyH.nil
  go_simp
  go_at_call 38
  with_reducible refine (HI.out _ H.out.drew).mono ?_
  rintro e w1 ⟨rfl, hb⟩
  have HB1 : Hid (Below w.heap.size w w1) := Hd ((Below.refl _ _).drew.trans hb)
  clear hb
  try go_simp
  refine hK.out _ _ (HS.out _ HB1.out) (fun hHeld => ?_)
  clear hK K
  refine ht (i := 2) ?_
  refine hsk (i := 3) ?_
  refine hsk (i := 4) ?_
  refine hsk (i := 5) ?_
  refine hsk (i := 6) ?_
  refine hsk (i := 7) ?_
  refine hsk (i := 8) ?_
  refine hsk (i := 9) ?_
  refine hsk (i := 10) ?_
  refine hsk (i := 11) ?_
  refine hsk (i := 12) ?_
  refine hsk (i := 13) ?_
  refine hsk (i := 14) ?_
  refine hsk (i := 15) ?_
  refine ht (i := 16) ?_
  refine ht (i := 17) ?_
  refine hsk (i := 18) ?_
  refine hsk (i := 19) ?_
  refine hsk (i := 20) ?_
  refine hsk (i := 21) ?_
  refine hsk (i := 22) ?_
  refine hsk (i := 23) ?_
  refine hsk (i := 24) ?_
  refine hsk (i := 25) ?_
  refine hsk (i := 26) ?_
  refine hsk (i := 27) ?_
  refine hsk (i := 28) ?_
  refine hsk (i := 29) ?_
  refine hsk (i := 30) ?_
  refine hsk (i := 31) ?_
  refine hsk (i := 32) ?_
  refine hsk (i := 33) ?_
  refine hsk (i := 34) ?_
  refine ht (i := 35) ?_
  refine ht (i := 36) ?_
  refine wpAnyH_done (by kernel_rfl) ?_ _
  go_wp2
  go_ret
  exact ⟨ret_bool (by rw [HE2.out]), HB1.out⟩
 | true =>
  rw [hi] at HI
  cases h4 : n.1 == 4 with
  | false =>
   have HE2 : Hid (Rs.neg T s = false) := Hd (by rw [HE.out, hi, h4]; rfl)
   have d4 : ((n.1 : Int) == 4) = false := (kd_eqb n.1 4).trans h4
   clear hi HE h4
   go_enter Tryz.func97, Tryz.ntmps97
   go_wp2_with fail
   refine wp_region_held_drew (S := fun W => W.cell? ⟨g, 0, none⟩ = some (.slice (some ⟨bb, off, none⟩) T.length c) ∧ W.cell? ⟨g, 1, none⟩ = some (.int .i64 (s.at_ : Int)) ∧ W.cell? ⟨bb, off + j * 3, none⟩ = some (.int .i64 (n.1 : Int)) ∧ W.cell? ⟨bb, off + j * 3 + 2, none⟩ = some (.int .i64 (n.2.2 : Int))) (by kernel_rfl) (HS.out _ (Below.refl _ _).drew) (fun hHeld => ?_)
   refine ht (i := 0) ?_
   refine wpAnyH_ready (rs := [1]) (by kernel_rfl) (by simp) ?_
   refine AllReadyH.cons (by simp only [List.getElem?_toArray, List.getElem?_cons_succ, List.getElem?_cons_zero]; rfl) (fun K hK => ?_) AllReadyH.nil
   go_simp
   go_at_call 38
   with_reducible refine (HI.out _ H.out.drew).mono ?_
   rintro e w1 ⟨rfl, hb⟩
   have HB1 : Hid (Below w.heap.size w w1) := Hd ((Below.refl _ _).drew.trans hb)
   clear hb
   try go_simp
   refine hK.out _ _ (HS.out _ HB1.out) (fun hHeld => ?_)
   clear hK K
   refine ht (i := 2) ?_
   refine ht (i := 3) ?_
   refine ht (i := 4) ?_
   refine ht (i := 5) ?_
   refine ht (i := 6) ?_
   refine ht (i := 7) ?_
   refine ht (i := 8) ?_
   refine ht (i := 9) ?_
   refine ht (i := 10) ?_
   refine ht (i := 11) ?_
   refine ht (i := 12) ?_
   refine ht (i := 13) ?_
   refine ht (i := 14) ?_
   refine ht (i := 15) ?_
   refine ht (i := 16) ?_
   refine ht (i := 17) ?_
   refine hsk (i := 18) ?_
   refine hsk (i := 19) ?_
   refine hsk (i := 20) ?_
   refine hsk (i := 21) ?_
   refine hsk (i := 22) ?_
   refine hsk (i := 23) ?_
   refine hsk (i := 24) ?_
   refine hsk (i := 25) ?_
   refine hsk (i := 26) ?_
   refine hsk (i := 27) ?_
   refine hsk (i := 28) ?_
   refine hsk (i := 29) ?_
   refine hsk (i := 30) ?_
   refine hsk (i := 31) ?_
   refine hsk (i := 32) ?_
   refine hsk (i := 33) ?_
   refine hsk (i := 34) ?_
   refine ht (i := 35) ?_
   refine ht (i := 36) ?_
   refine wpAnyH_done (by kernel_rfl) ?_ _
   go_wp2
   go_ret
   exact ⟨ret_bool (by rw [HE2.out]), HB1.out⟩
  | true =>
   have HE2 : Hid (Rs.neg T s = (n.2.2 == q)) := Hd (by rw [HE.out, hi, h4]; rfl)
   have d4 : ((n.1 : Int) == 4) = true := (kd_eqb n.1 4).trans h4
   have d5 := kd_eqb n.2.2 q
   clear hi HE h4
   go_enter Tryz.func97, Tryz.ntmps97
   go_wp2_with fail
   refine wp_region_held_drew (S := fun W => W.cell? ⟨g, 0, none⟩ = some (.slice (some ⟨bb, off, none⟩) T.length c) ∧ W.cell? ⟨g, 1, none⟩ = some (.int .i64 (s.at_ : Int)) ∧ W.cell? ⟨bb, off + j * 3, none⟩ = some (.int .i64 (n.1 : Int)) ∧ W.cell? ⟨bb, off + j * 3 + 2, none⟩ = some (.int .i64 (n.2.2 : Int))) (by kernel_rfl) (HS.out _ (Below.refl _ _).drew) (fun hHeld => ?_)
   refine ht (i := 0) ?_
   refine wpAnyH_ready (rs := [1]) (by kernel_rfl) (by simp) ?_
   refine AllReadyH.cons (by simp only [List.getElem?_toArray, List.getElem?_cons_succ, List.getElem?_cons_zero]; rfl) (fun K hK => ?_) AllReadyH.nil
   go_simp
   go_at_call 38
   with_reducible refine (HI.out _ H.out.drew).mono ?_
   rintro e w1 ⟨rfl, hb⟩
   have HB1 : Hid (Below w.heap.size w w1) := Hd ((Below.refl _ _).drew.trans hb)
   clear hb
   try go_simp
   refine hK.out _ _ (HS.out _ HB1.out) (fun hHeld => ?_)
   clear hK K
   refine ht (i := 2) ?_
   refine ht (i := 3) ?_
   refine ht (i := 4) ?_
   refine ht (i := 5) ?_
   refine ht (i := 6) ?_
   refine ht (i := 7) ?_
   refine ht (i := 8) ?_
   refine ht (i := 9) ?_
   refine ht (i := 10) ?_
   refine ht (i := 11) ?_
   refine ht (i := 12) ?_
   refine ht (i := 13) ?_
   refine ht (i := 14) ?_
   refine ht (i := 15) ?_
   refine ht (i := 16) ?_
   refine ht (i := 17) ?_
   refine ht (i := 18) ?_
   refine ht (i := 19) ?_
   refine ht (i := 20) ?_
   refine ht (i := 21) ?_
   refine ht (i := 22) ?_
   refine ht (i := 23) ?_
   refine ht (i := 24) ?_
   refine ht (i := 25) ?_
   refine ht (i := 26) ?_
   refine ht (i := 27) ?_
   refine ht (i := 28) ?_
   refine ht (i := 29) ?_
   refine ht (i := 30) ?_
   refine wpAnyH_ready (rs := [31]) (by kernel_rfl) (by simp) ?_
   refine AllReadyH.cons (by simp only [List.getElem?_toArray, List.getElem?_cons_succ, List.getElem?_cons_zero]; rfl) (fun K hK => ?_) AllReadyH.nil
   go_simp
   go_at_call 37
   with_reducible refine (HT.out _ (H.out.below HB1.out)).mono ?_
   rintro e w2 ⟨rfl, hb⟩
   have HB2 : Hid (Below w.heap.size w w2) := Hd (HB1.out.trans (hb.mono HB1.out.size))
   clear hb
   try go_simp
   refine hK.out _ _ (HS.out _ HB2.out) (fun hHeld => ?_)
   clear hK K
   refine ht (i := 32) ?_
   refine ht (i := 33) ?_
   refine ht (i := 34) ?_
   refine ht (i := 35) ?_
   refine ht (i := 36) ?_
   refine wpAnyH_done (by kernel_rfl) ?_ _
   go_wp2
   go_ret
   exact ⟨ret_bool (by rw [HE2.out]), HB2.out⟩
theorem info26 : (Tryz.prog.info? 26).map (fun i => (i.zero, i.size, i.bytes)) = some (some (.agg #[.int .i64 0, .string ⟨#[]⟩, .slice none 0 0, .slice none 0 0, .slice none 0 0, .int .i64 0, .int .i64 0]), 7, 112) := by kernel_rfl
theorem str_app (a b : Lx.Txt) : (⟨a.toArray⟩ : ByteArray) ++ ⟨b.toArray⟩ = ⟨(a ++ b).toArray⟩ := by
 apply ByteArray.ext
 simp [ByteArray.data_append]
theorem keyL_go {T : List Lx.Tk} {fin f : Nat} {n : Lx.Txt} {l : List Ps.Tr} {s : Ps.PS} {q : Lx.Tk} {pa pu pb : Ps.Tr × Ps.PS} (hq : Ps.nx T fin s = q) (hk : Ps.ok s = true) (h2 : q.1 = 2) (h3 : Ps.prim T fin f (Ps.adv s) = pa) (h4 : Ps.unaL T fin (T.length + 2) pa.1 pa.2 = pu) (h5 : Ps.binL_ T fin f pu.1 pu.2 = pb) : Ps.keyL T fin (f + 2) n l s = Ps.keyL T fin (f + 1) (n ++ q.2.1) (l ++ [pb.1]) pb.2 := by
 subst h3 h4 h5 hq
 conv => lhs; unfold Ps.keyL
 rw [if_pos (by rw [hk, h2]; rfl), Ps.operand]
theorem keyL_stop {T : List Lx.Tk} {fin f : Nat} {n : Lx.Txt} {l : List Ps.Tr} {s : Ps.PS} (h : (Ps.ok s && (Ps.nx T fin s).1 == 2) = false) : Ps.keyL T fin f n l s = (n, l, s) := by
 cases f with
 | zero => unfold Ps.keyL; rfl
 | succ f => unfold Ps.keyL; rw [if_neg (by rw [h]; decide)]
set_option maxRecDepth 20000 in
theorem pkeyw_any {g c fin F : Nat} {A : Option Addr} {T : List Lx.Tk} (hT : Ps.Fits 65536 T) (ih : ∀ f, f < F → WAll g A c T fin f) (base : Nat) (cs : List Value) (n : Ps.Tr) (s : Ps.PS) (w : World) (h : PA w g A c T fin s) (hb : Bd T s) (hn : TrM w base (fun _ => False) cs n) (hgb : g < base) (hbw : base ≤ w.heap.size) (hf : Ps.rem T s + 2 ≤ F) :
  Calls Tryz.prog 49 #[.pointer (some ⟨g, 0, none⟩), .agg cs.toArray] w (NdP w g A c T fin base (Ps.keyw T fin F n s)) := by
 have E0 := ((Env.start h).box 26 cs (by decide)).boxk (w.heap.size + 1) (by simp) 26 [.int .i64 0, .string ⟨#[]⟩, .slice none 0 0, .slice none 0 0, .slice none 0 0, .int .i64 0, .int .i64 0] (by decide)
 have ht0 : TrM ((w.alloc (.cells cs.toArray 26)).alloc (.cells #[.int .i64 0, .string ⟨#[]⟩, .slice none 0 0, .slice none 0 0, .slice none 0 0, .int .i64 0, .int .i64 0] 26)) base (fun k => k = w.heap.size ∨ k = w.heap.size + 1) cs n := ((TrM.swap hn (X' := fun k => k = w.heap.size ∨ k = w.heap.size + 1) (fun k _ hk e => by omega)).below (new_below _ _)).below (new_below _ _)
 have HU := Hd (UnS.mk E0 ht0 hb)
 obtain ⟨F', rfl⟩ : ∃ F', F = F' + 1 := ⟨F - 1, by omega⟩
 obtain ⟨R, hR⟩ : ∃ R, Ps.keyw T fin (F' + 1) n s = R := ⟨_, rfl⟩
 have HR := Hd hR
 have IH := Hd ih
 have hTl := hT.len
 rw [hR]
 obtain ⟨q0, q1, A1, n1, c1, A2, n2, c2, A3, n3, c3, q5, q6, rfl⟩ := hn.form
 clear h hb hn E0 ht0 hR ih
 go_enter Tryz.func49, Tryz.ntmps49
 go_upto_region 1 with fail
 refine wp_world (fun W => UnS w g A c T fin base w.heap.size (w.heap.size + 1) s n _ W) HU.out fun wr hu => ?_
 have HU1 := Hd hu
 have hg := hu.env.pa.lt
 clear HU hu
 obtain ⟨t, ht⟩ : ∃ t, Ps.nx T fin s = t := ⟨_, rfl⟩
 obtain ⟨a, a0, a1, a2, a3, a4, a5, a6⟩ := HU1.out.env.c7 1 rfl
 obtain ⟨b, b0, b1, b2, b3, b4, b5, b6⟩ := HU1.out.env.c7 0 rfl
 have fz := HU1.out.env.fz 0 rfl
 cases hk : Ps.ok s with
 | false =>
  have HE : Hid (R = (n, s)) := Hd (by rw [← HR.out, Ps.keyw, if_pos (by rw [hk]; rfl)])
  obtain ⟨kq, k4⟩ := HU1.out.env.pa.noc hk
  clear hk
  go_wp2
  obtain ⟨hb4, hnd⟩ := HU1.out.done HE.out
  exact bodyPost_ret (ret26 rfl _ _ rfl hb4) rfl hnd
 | true =>
  have k4 := HU1.out.env.pa.okc hk
  have HN := Hd (pnext_any HU1.out.env.pa)
  rw [ht] at HN
  have hf0 := fld0 (.int .i64 (t.1 : Int)) (.string ⟨t.2.1.toArray⟩) (.int .i64 (t.2.2 : Int))
  by_cases h1 : t.1 = 2
  ·have d1 : ((t.1 : Int) != 2) = false := by rw [h1]; rfl
   have HE : Hid (R = (Ps.nd 5 (Ps.keyL T fin F' [] [n] s).1 (Ps.keyL T fin F' [] [n] s).2.1 t.2.2, (Ps.keyL T fin F' [] [n] s).2.2)) := Hd (by rw [← HR.out, Ps.keyw, ht, if_neg (by rw [hk, h1]; decide)])
   have HT := Hd ht
   clear hk h1 ht a a0 a1 a2 a3 a4 a5 a6 b b0 b1 b2 b3 b4 b5 b6 fz
   go_upto_region 3 with (go_at_call 11; refine HN.out.mono ?_; rintro e w4 ⟨rfl, hb⟩; have HU4 := Hd (HU1.out.below hb); clear hb)
   clear HU1 HN
   obtain ⟨a, a0, a1, a2, a3, a4, a5, a6⟩ := HU4.out.env.c7 1 rfl
   have HN := Hd fun (W : World) (h : PA W g A c T fin s) => pnext_any h
   rw [HT.out] at HN
   have hf2 := fld2 (.int .i64 (t.1 : Int)) (.string ⟨t.2.1.toArray⟩) (.int .i64 (t.2.2 : Int))
   go_cut [5] (fun v5 wx => ∃ ts v, v5 = .pointer (some ⟨ts, 0, none⟩) ∧ AcS w g A c T fin base ts (w.heap.size + 1) 5 t.2.2 s [] [n] v wx)
   case first =>
    go_region_law (first
     | (go_simp; go_at_call 11; refine (HN.out _ (by first | exact HU4.out.env.pa.drew | exact (HU4.out.env.pa.alloc _).drew | exact ((HU4.out.env.pa.alloc _).alloc _).drew)).mono ?_; rintro e w5 ⟨rfl, hb⟩; have HU5 := Hd (HU4.out.below (by first | exact (Below.refl _ _).drew.trans hb | exact (new_below _ _).drew.trans (hb.mono (by simp)) | exact ((new_below _ _).trans ((new_below _ _).mono (by simp))).drew.trans (hb.mono (by simp; omega)))); have HB5 := Hd hb; obtain ⟨c, c0, c1, c2, c3, c4, c5, c6⟩ := HU5.out.env.c7 1 rfl; (first | have HZ := Hd ((Blk.new' _ 26 w4.heap.size #[.int .i64 0, .string ⟨#[]⟩, .slice none 0 0, .slice none 0 0, .slice none 0 0, .int .i64 0, .int .i64 0] rfl).drew.below hb (by simp)) | have HZ := Hd ((Blk.new' _ 26 (w4.heap.size + 1) #[.int .i64 0, .string ⟨#[]⟩, .slice none 0 0, .slice none 0 0, .slice none 0 0, .int .i64 0, .int .i64 0] (by simp)).drew.below hb (by simp)) | have HZ := Hd (((Blk.new' _ 26 w4.heap.size #[.int .i64 0, .string ⟨#[]⟩, .slice none 0 0, .slice none 0 0, .slice none 0 0, .int .i64 0, .int .i64 0] rfl).alloc _).drew.below hb (by simp; omega)) | skip); (try (have zl := HZ.out.lt; have z0 := HZ.out.cell 0; have z1 := HZ.out.cell 1; have z2 := HZ.out.cell 2; have z3 := HZ.out.cell 3; have z4 := HZ.out.cell 4; have z5 := HZ.out.cell 5; have z6 := HZ.out.cell 6; have zf := HZ.out.frozen)); clear hb))
    all_goals
     go_wp2_with fail
     go_meet
     first
      | exact ⟨_, _, rfl, kw1 HU4.out hbw HB5.out 5 t.2.2 []⟩
      | exact ⟨_, _, rfl, kw2 HU4.out hbw HB5.out 5 t.2.2 []⟩
      | exact ⟨_, _, rfl, kw3 HU5.out hbw 5 t.2.2 []⟩
      | exact ⟨_, _, rfl, kw4 HU5.out hbw 5 t.2.2 []⟩
      | exact ⟨_, _, rfl, kw5 HU4.out hbw HB5.out 5 t.2.2 []⟩
      | exact ⟨_, _, rfl, kw6 HU4.out hbw HB5.out 5 t.2.2 []⟩
   case rest =>
    obtain ⟨ts, v, rfl, hA⟩ := hcut
    obtain ⟨RK, hRK⟩ : ∃ RK, Ps.keyL T fin F' [] [n] s = RK := ⟨_, rfl⟩
    have HRK := Hd hRK
    have HA0 := Hd hA
    have hg2 := (HA0.out.lts).2.2.1
    rw [hRK] at HE
    clear hA hRK HU4 HN hf2 hf0 d1 a a0 a1 a2 a3 a4 a5 a6 k4 HR
    go_upto_block 0 with fail
    go_wp2
    go_loopg [] F' (fun f wr => ∃ (s' : Ps.PS) (nm : Lx.Txt) (l : List Ps.Tr) (v : Value), f ≤ F' ∧ AcS w g A c T fin base ts (w.heap.size + 1) 5 t.2.2 s' nm l v wr ∧ Ps.rem T s' + 1 ≤ f ∧ nm.length ≤ 65536 * s'.at_ ∧ l.length ≤ s'.at_ + 1 ∧ Ps.keyL T fin f nm l s' = RK)
    case atStart => exact ⟨s, [], [n], v, Nat.le_refl _, HA0.out, by omega, by simp, by simp, HRK.out⟩
    case round =>
     obtain ⟨s', nm, l, v', hfF, hA, hrm, hnm, hll, hR⟩ := hrel
     have HA := Hd hA
     have HR2 := Hd hR
     have hg := hA.env.pa.lt
     obtain ⟨Av, cv, rfl, -, -⟩ := hA.row.form
     clear hA hR HA0 HRK
     obtain ⟨q, hq⟩ : ∃ q, Ps.nx T fin s' = q := ⟨_, rfl⟩
     have HNX := Hd (pnext_any HA.out.env.pa)
     rw [hq] at HNX
     have hq0 := fld0 (.int .i64 (q.1 : Int)) (.string ⟨q.2.1.toArray⟩) (.int .i64 (q.2.2 : Int))
     have hq1 := fld1 (.int .i64 (q.1 : Int)) (.string ⟨q.2.1.toArray⟩) (.int .i64 (q.2.2 : Int))
     cases hk : Ps.ok s' with
     | false =>
      have HE2 : Hid (RK = (nm, l, s')) := Hd (by rw [← HR2.out]; exact keyL_stop (by rw [hk]; rfl))
      obtain ⟨kq, k4⟩ := HA.out.env.pa.noc hk
      obtain ⟨a, a0, a1, a2, a3, a4, a5, a6⟩ := HA.out.env.c7 0 rfl
      obtain ⟨b, b0, b1, b2, b3, b4, b5, b6⟩ := HA.out.env.c7 1 rfl
      have fz := HA.out.env.fz 1 rfl
      clear hk
      go_wp2
      obtain ⟨hb4, hnd⟩ := HA.out.done (R := R) (by rw [HE.out, HE2.out])
      exact bodyPost_ret (ret26 rfl _ _ rfl hb4) rfl hnd
     | true =>
      have k4 := HA.out.env.pa.okc hk
      by_cases h1 : q.1 = 2
      ·have d1 : ((q.1 : Int) == 2) = true := by rw [h1]; rfl
       have hlt : s'.at_ < T.length := Ps.nx_lt (fin := fin) (by rw [hq, h1]; decide)
       have HTK := Hd fun (W : World) (h : PA W g A c T fin s') => ptake_any h (by omega)
       rw [hq] at HTK
       have hql := hT.txt _ (Ps.nx_mem (fin := fin) hlt)
       rw [hq] at hql
       have hat := HA.out.bd.at_
       have hcat : ¬ (9223372036854775807 < nm.length + q.2.1.length) := by omega
       have hstr := str_app nm q.2.1
       have HQ1 := Hd h1
       have HQT := Hd hq
       have HK := Hd hk
       clear h1 hq hk
       go_upto_region 5 with (go_at_call 11; refine HNX.out.mono ?_; rintro e w4 ⟨rfl, hb⟩; have HA5 := Hd (HA.out.below hb); clear hb)
       have HAK5 := HA5
       obtain ⟨c7, e0, e1, e2, e3, e4, e5, e6⟩ := HA5.out.env.c7 0 rfl
       have hS : w4.cell? ⟨ts, 1, none⟩ = some (.string ⟨nm.toArray⟩) := e1
       refine wp_region_x (s := 7) (S := fun W => W.cell? ⟨ts, 1, none⟩ = some (.string ⟨nm.toArray⟩)) (by kernel_rfl) hS (fun hHeld => ?_)
       refine xt (i := 0) ?_
       refine xt (i := 1) ?_
       refine xt (i := 2) ?_
       refine x1 (i := 3) (fun K2 hK2 => ?_)
       go_simp
       go_at_call 12
       refine (HTK.out _ HAK5.out.env.pa.drew).mono ?_
       rintro e w6 ⟨rfl, hp⟩
       have HA6 := Hd ((HA5.out.below (Below.refl _ _).drew).call hp (HA5.out.bd.adv hlt) hgb)
       obtain ⟨a, b0, b1, b2, b3, b4, b5, b6⟩ := HA6.out.env.c7 0 rfl
       have fz6 := HA6.out.env.fz 0 rfl
       clear hp
       refine hK2.out _ _ (b1) (fun hHeld => ?_)
       clear hK2 K2
       refine xt (i := 4) ?_
       refine x1 (i := 5) (fun K2 hK2 => ?_)
       go_simp
       refine hK2.out _ _ (hHeld) (fun hHeld => ?_)
       clear hK2 K2
       refine x1 (i := 6) (fun K2 hK2 => ?_)
       go_simp
       refine hK2.out _ _ (hHeld) (fun hHeld => ?_)
       clear hK2 K2
       try simp only [Act.put, List.setIfInBounds_toArray, List.set_cons_zero, List.set_cons_succ]
       refine xl (fun K2 hK2 => ?_)
       go_simp
       refine hK2.out _ _ ?_
       clear hK2 K2
       try simp only [Act.put, List.setIfInBounds_toArray, List.set_cons_zero, List.set_cons_succ]
       refine wpAnyX_done (by kernel_rfl) ?_ _
       go_upto_region 6 with fail
       refine wp_world (fun W => AcS w g A c T fin base ts (w.heap.size + 1) 5 t.2.2 (Ps.adv s') (nm ++ q.2.1) l _ W) (HA6.out.named (nm ++ q.2.1)) fun w7 ha7 => ?_
       have HA7 := Hd ha7
       have HL7 := Hd ha7.lts
       obtain ⟨f, rfl⟩ : ∃ f, gk = f + 2 := ⟨gk - 2, by have := Ps.rem_adv (T := T) (s := s') (s' := Ps.adv s') (Nat.lt_succ_self _) hlt; omega⟩
       have hra := Ps.rem_adv (T := T) (s := s') (s' := Ps.adv s') (Nat.lt_succ_self _) hlt
       obtain ⟨pa, hpa⟩ : ∃ a, Ps.prim T fin f (Ps.adv s') = a := ⟨_, rfl⟩
       obtain ⟨pu, hpu⟩ : ∃ u, Ps.unaL T fin (T.length + 2) pa.1 pa.2 = u := ⟨_, rfl⟩
       obtain ⟨pb, hpb⟩ : ∃ u, Ps.binL_ T fin f pu.1 pu.2 = u := ⟨_, rfl⟩
       have hle1 : Ps.rem T pu.2 ≤ Ps.rem T (Ps.adv s') := Ps.rem_le (by rw [← hpu, ← hpa]; exact (((Ps.leAll T fin f).prim _).trans (Ps.le_unaL T fin _ _ _)).at_)
       have hat2 : (Ps.adv s').at_ ≤ pb.2.at_ := by rw [← hpb, ← hpu, ← hpa]; exact ((((Ps.leAll T fin f).prim _).trans (Ps.le_unaL T fin _ _ _)).trans ((Ps.leAll T fin f).binL_ _ _)).at_
       have hle2 : Ps.rem T pb.2 ≤ Ps.rem T (Ps.adv s') := Ps.rem_le hat2
       have hat3 : s'.at_ + 1 ≤ pb.2.at_ := hat2
       have HR3 : Hid (Ps.keyL T fin (f + 1) (nm ++ q.2.1) (l ++ [pb.1]) pb.2 = RK) := Hd (by rw [← HR2.out]; exact (keyL_go HQT.out HK.out HQ1.out hpa hpu hpb).symm)
       have HPR := Hd fun w5 (hp : PA w5 g A c T fin (Ps.adv s')) (hb : Bd T (Ps.adv s')) => (IH.out f (by omega)).prim (Ps.adv s') w5 hp hb (by omega)
       rw [hpa] at HPR
       have HUN := Hd fun w6 (base' : Nat) (cs6 : List Value) (hp : PA w6 g A c T fin pa.2) (hb : Bd T pa.2) (ht6 : TrM w6 base' (fun _ => False) cs6 pa.1) (h7 : g < base') (h8 : base' ≤ w6.heap.size) => punar_any hp hb hTl ht6 h7 h8
       rw [hpu] at HUN
       have HBN := Hd fun w6 (base' : Nat) (cs6 : List Value) (hp : PA w6 g A c T fin pu.2) (hb : Bd T pu.2) (ht6 : TrM w6 base' (fun _ => False) cs6 pu.1) (h7 : g < base') (h8 : base' ≤ w6.heap.size) => (IH.out f (by omega)).binL base' cs6 pu.1 pu.2 w6 hp hb ht6 h7 h8 (by omega)
       rw [hpb] at HBN
       obtain ⟨i0, hi, hz0, hz1, hz2⟩ := info_parts info26
       have h77 : g < w7.heap.size := ha7.env.pa.lt
       have hbw7 : w.heap.size ≤ w7.heap.size := ha7.env.size
       obtain ⟨c7', e0', e1', e2', e3', e4', e5', e6'⟩ := ha7.env.c7 0 rfl
       have hS4 : w7.cell? ⟨ts, 4, none⟩ = some (.slice Av l.length cv) := e4'
       clear hpa hpu hpb ha7 HA6 HA5 HAK5 HA HTK HNX HR2 b0 b1 b2 b3 b4 b5 b6 fz6 e0 e1 e2 e3 e4 e5 e6 hS
       refine wp_region_x (s := 11) (S := fun W => W.cell? ⟨ts, 4, none⟩ = some (.slice Av l.length cv)) (by kernel_rfl) hS4 (fun hHeld => ?_)
       refine xt (i := 0) ?_
       refine xt (i := 1) ?_
       refine xt (i := 2) ?_
       refine xt (i := 3) ?_
       refine xt (i := 4) ?_
       refine x1 (i := 5) (fun K2 hK2 => ?_)
       go_simp
       go_at_call 48
       refine (HPR.out _ HA7.out.env.pa.drew HA7.out.bd).mono ?_
       rintro e w8 ⟨cs8, rfl, hp8, hb8, ht8⟩
       have hz8 := hp8.1.size
       have HA8 := Hd ((HA7.out.below (Below.refl _ _).drew).call hp8 hb8 hgb)
       have HT8 := Hd ht8
       have k8 : w8.cell? ⟨ts, 4, none⟩ = some (.slice Av l.length cv) := (HA8.out.env.c7 0 rfl).2.2.2.2.2.1
       clear hp8 hb8 ht8
       refine hK2.out _ _ (k8) (fun hHeld => ?_)
       clear hK2 K2
       refine x1 (i := 6) (fun K2 hK2 => ?_)
       go_simp
       go_at_call 51
       refine (HUN.out _ _ _ HA8.out.env.pa HA8.out.bd HT8.out (by show g < w7.heap.size; omega) hz8).mono ?_
       rintro e w9 ⟨cs9, rfl, hp9, hb9, ht9⟩
       have hz9 := hp9.1.size
       have HA9 := Hd (HA8.out.call hp9 hb9 hgb)
       have HT9 := Hd ht9
       have k9 : w9.cell? ⟨ts, 4, none⟩ = some (.slice Av l.length cv) := (HA9.out.env.c7 0 rfl).2.2.2.2.2.1
       clear hp9 hb9 ht9
       refine hK2.out _ _ (k9) (fun hHeld => ?_)
       clear hK2 K2
       refine x1 (i := 7) (fun K2 hK2 => ?_)
       go_simp
       go_at_call 50
       refine (HBN.out _ _ _ HA9.out.env.pa HA9.out.bd HT9.out (by show g < w7.heap.size; omega) (Nat.le_trans hz8 hz9)).mono ?_
       rintro e wa ⟨csa, rfl, hpa, hba, hta⟩
       have hza := hpa.1.size
       have HAa := Hd (HA9.out.call hpa hba hgb)
       have HTa := Hd hta
       have ka : wa.cell? ⟨ts, 4, none⟩ = some (.slice Av l.length cv) := (HAa.out.env.c7 0 rfl).2.2.2.2.2.1
       obtain ⟨css, hcl, hown, hpush⟩ := HAa.out.push HTa.out (by show base ≤ w7.heap.size; omega) ⟨HL7.out.1, HL7.out.2.1, HL7.out.2.2.2.2⟩ hgb
       have HOWN := Hd hown
       have HPUSH := Hd hpush
       obtain ⟨p0, p1, C1, o1, e1', C2, o2, e2', C3, o3, e3', p5, p6, rfl⟩ := HTa.out.form
       have hsa : w.heap.size ≤ wa.heap.size := HAa.out.env.size
       clear hpa hba hta hown hpush hcl
       refine hK2.out _ _ (ka) (fun hHeld => ?_)
       clear hK2 K2
       refine x1 (i := 8) (fun K2 hK2 => ?_)
       go_simp
       refine hK2.out _ _ (by go_keep) (fun hHeld => ?_)
       clear hK2 K2
       refine x1 (i := 9) (fun K2 hK2 => ?_)
       refine step_append_any _ rfl (.tmp 43) (.tmp 50) 24 rfl base 26 i0 _ 7 112 Tryz.underlying24 hi hz0 hz1 hz2 rfl (by decide) (.slice Av l.length cv) l.length css.flatten (by rfl) (World.ownsRow.alloc HOWN.out _) (wa.heap.size + 1) (some ⟨wa.heap.size, 0, none⟩) 1 1 _ (by rfl) (Reads.builtN wa 26 [_, _, _, _, _, _, _] 1 7 rfl) (by intro u hu; simp only [List.mem_cons, List.not_mem_nil, or_false] at hu; rcases hu with rfl | rfl | rfl | rfl | rfl | rfl | rfl <;> rfl) (by simp only [maxLen]; omega) (by omega) (by simp; omega) ?_
       intro v6 wb hown6 hgrow6 hv6
       obtain ⟨A6, c6, rfl, _, _⟩ := own_form hown6
       obtain ⟨hcl, hfz, hlt6, hac⟩ := HPUSH.out _ _ _ hown6 hgrow6 (by simpa using hv6)
       have HAC := Hd hac
       have kb : wb.cell? ⟨ts, 4, none⟩ = some (.slice Av l.length cv) := by rw [hcl 4]; exact ka
       have kbf := hfz 4
       clear hown6 hgrow6 hv6 hcl hfz hac
       try go_simp
       refine hK2.out _ _ (kb) (fun hHeld => ?_)
       clear hK2 K2
       refine x1 (i := 10) (fun K2 hK2 => ?_)
       go_simp
       refine hK2.out _ _ (hHeld) (fun hHeld => ?_)
       clear hK2 K2
       try simp only [Act.put, List.setIfInBounds_toArray, List.set_cons_zero, List.set_cons_succ]
       refine xl (fun K2 hK2 => ?_)
       go_simp
       refine hK2.out _ _ ?_
       clear hK2 K2
       try simp only [Act.put, List.setIfInBounds_toArray, List.set_cons_zero, List.set_cons_succ]
       refine wpAnyX_done (by kernel_rfl) ?_ _
       go_wp2_with fail
       go_roundg (f + 1)
       case measure => omega
       case rel => exact ⟨pb.2, nm ++ q.2.1, l ++ [pb.1], _, by omega, HAC.out, by omega, by simp only [List.length_append]; omega, by simp only [List.length_append, List.length_singleton]; omega, HR3.out⟩
      ·have d1 : ((q.1 : Int) == 2) = false := natInt (by omega)
       have HE2 : Hid (RK = (nm, l, s')) := Hd (by rw [← HR2.out]; exact keyL_stop (by rw [hq, hk]; simpa using h1))
       clear hk h1 hq
       go_upto_region 7 with (go_at_call 11; refine HNX.out.mono ?_; rintro e w4 ⟨rfl, hb⟩; have HA5 := Hd (HA.out.below hb); clear hb)
       obtain ⟨a, a0, a1, a2, a3, a4, a5, a6⟩ := HA5.out.env.c7 0 rfl
       obtain ⟨b, b0, b1, b2, b3, b4, b5, b6⟩ := HA5.out.env.c7 1 rfl
       have fz := HA5.out.env.fz 1 rfl
       go_wp2
       obtain ⟨hb4, hnd⟩ := HA5.out.done (R := R) (by rw [HE.out, HE2.out])
       exact bodyPost_ret (ret26 rfl _ _ rfl hb4) rfl hnd
  ·have d1 : ((t.1 : Int) != 2) = true := by rw [bne_iff_ne]; omega
   have HE : Hid (R = (n, s)) := Hd (by rw [← HR.out, Ps.keyw, ht, if_pos (by rw [hk]; simpa using h1)])
   clear hk h1 ht a a0 a1 a2 a3 a4 a5 a6 b b0 b1 b2 b3 b4 b5 b6 fz
   go_upto_region 2 with (go_at_call 11; refine HN.out.mono ?_; rintro e w4 ⟨rfl, hb⟩; have HU4 := Hd (HU1.out.below hb); clear hb)
   obtain ⟨a, a0, a1, a2, a3, a4, a5, a6⟩ := HU4.out.env.c7 1 rfl
   obtain ⟨b, b0, b1, b2, b3, b4, b5, b6⟩ := HU4.out.env.c7 0 rfl
   have fz := HU4.out.env.fz 0 rfl
   go_wp2
   obtain ⟨hb4, hnd⟩ := HU4.out.done HE.out
   exact bodyPost_ret (ret26 rfl _ _ rfl hb4) rfl hnd
def RNdP (w : World) (g : Nat) (A : Option Addr) (c : Nat) (L : List Lx.Tk) (base : Nat) (r : Ps.Tr × Rs.RS) (e : Ending) (w' : World) : Prop := ∃ cs, e = .returned (.agg cs.toArray) ∧ RP w g A c L r.2 w' ∧ TrM w' base (fun _ => False) cs r.1
set_option maxRecDepth 20000 in
theorem rnum_any {w : World} {g c : Nat} {A : Option Addr} {T : List Lx.Tk} {s : Rs.RS} (h : RA w g A c T s) (hl : s.at_ + 1 < T.length) (hs : s.at_ ≤ 100000) (hp : (Rs.tok T s).2.2 ≤ 100000) (hx : (Rs.tok1 T s).2.1.length ≤ 65536) :
  Calls Tryz.prog 98 #[.pointer (some ⟨g, 0, none⟩)] w (RNdP w g A c T w.heap.size (Rs.number T s)) := by
 have E0 := (Ev.start h).box 26 [.int .i64 0, .string ⟨#[]⟩, .slice none 0 0, .slice none 0 0, .slice none 0 0, .int .i64 0, .int .i64 0]
 have HN := Hd (rtok_any E0.pa (by omega))
 have HG := Hd fun (W : World) (h : RA W g A c T s) => rneg_any h hl hs hp
 obtain ⟨t, ht⟩ : ∃ t, Rs.tok T s = t := ⟨_, rfl⟩
 have HE : Hid (Rs.number T s = if Rs.neg T s then (Ps.nd 9 (if (Rs.tok1 T s).2.1 != [48] then 45 :: (Rs.tok1 T s).2.1 else (Rs.tok1 T s).2.1) [] t.2.2, Rs.adv (Rs.adv s)) else (Ps.nd 9 t.2.1 [] t.2.2, Rs.adv s)) := Hd (by unfold Rs.number; rw [ht])
 rw [ht] at HN
 clear h ht hp
 go_enter Tryz.func98, Tryz.ntmps98
 go_upto_region 2 with (go_at_call 37; refine HN.out.mono ?_; rintro e w1 ⟨rfl, hb1⟩; have E1 := E0.below hb1; clear hb1)
 refine wp_world (Ev w g A c T s _) (E1.box 40 [_, _, _]) fun w2 E2 => ?_
 clear E0 E1 HN
 cases hn : Rs.neg T s with
 | false =>
  have HE2 : Hid (Rs.number T s = (Ps.nd 9 t.2.1 [] t.2.2, Rs.adv s)) := Hd (by rw [HE.out, hn]; rfl)
  rw [hn] at HG
  clear hn HE
  go_upto_region 3 with (go_at_call 97; refine (HG.out _ E2.pa).mono ?_; rintro e w3 ⟨rfl, hb⟩; have E3 := E2.below hb; clear hb)
  clear E2 HG
  obtain ⟨k0, k1, k2, k3, k4⟩ := E3.pa.cells
  have kf := E3.pa.frz 1
  have hg := E3.pa.lt
  go_upto_region 4 with fail
  refine wp_world (Ev w g A c T (Rs.adv s) _) (E3.setAt (s.at_ + 1) _ (by first | rfl | omega)) fun w4 E4 => ?_
  clear k0 k1 k2 k3 k4 kf hg E3
  obtain ⟨a, a0, a1, a2⟩ := E4.c3 0 rfl
  obtain ⟨b, b0, b1, b2, b3, b4, b5, b6⟩ := E4.c7 1 rfl
  have f1 := E4.fz 1 rfl
  go_wp2
  have E9 := E4.put7 1 rfl (.int .i64 9) (.string ⟨t.2.1.toArray⟩) (.slice none 0 0) (.slice none 0 0) (.slice none 0 0) (.int .i64 0) (.int .i64 (t.2.2 : Int))
  refine bodyPost_ret (ret26 rfl _ _ rfl (E9.blk 1 rfl)) rfl ?_
  rw [HE2.out]
  exact ⟨_, rfl, E9.pp, TrM.leaf _ _ _ 9 t.2.1 t.2.2⟩
 | true =>
  rw [hn] at HG
  have HE2 : Hid (Rs.number T s = (Ps.nd 9 (if (T.getD (s.at_ + 1) (0, [], 0)).2.1 != [48] then 45 :: (T.getD (s.at_ + 1) (0, [], 0)).2.1 else (T.getD (s.at_ + 1) (0, [], 0)).2.1) [] t.2.2, Rs.adv (Rs.adv s))) := Hd (by rw [HE.out, hn]; rfl)
  have hx' : (T.getD (s.at_ + 1) (0, [], 0)).2.1.length ≤ 65536 := hx
  clear hn HE hx
  go_upto_region 5 with (go_at_call 97; refine (HG.out _ E2.pa).mono ?_; rintro e w3 ⟨rfl, hb⟩; have E3 := E2.below hb; clear hb)
  clear E2 HG
  obtain ⟨k0, k1, k2, k3, k4⟩ := E3.pa.cells
  have hg := E3.pa.lt
  obtain ⟨bb, off, rfl, hbg, hbw, t0, t1, t2⟩ := E3.pa.tok hl
  generalize T.getD (s.at_ + 1) (0, [], 0) = n at *
  obtain ⟨j, hj⟩ : ∃ j, s.at_ + 1 = j := ⟨_, rfl⟩
  have hji : (s.at_ : Int) + 1 = (j : Int) := by omega
  have hwr : IntKind.i64.wrap (j : Int) = (j : Int) := by rw [IntKind.wrap_i64]; omega
  rw [hj] at t0 t1 t2 hl
  have l1 : (0 : Int) ≤ (j : Int) := by omega
  have l2 : (j : Int) < (T.length : Int) := by omega
  clear hj
  go_quiet (fail)
  go_upto_region 6 with fail
  refine wp_world (Ev w g (some ⟨bb, off, none⟩) c T s _) (E3.drewN nq) fun w4 E4 => ?_
  clear k0 k1 k2 k3 k4 hg t0 t1 t2 hbw E3 hji hwr l1 l2
  obtain ⟨k0, k1, k2, k3, k4⟩ := E4.pa.cells
  have kf := E4.pa.frz 1
  have hg := E4.pa.lt
  go_upto_region 7 with fail
  refine wp_world (Ev w g (some ⟨bb, off, none⟩) c T (Rs.adv (Rs.adv s)) _) (E4.setAt (s.at_ + 2) _ (by first | rfl | omega)) fun w5 E5 => ?_
  clear k0 k1 k2 k3 k4 kf hg E4
  obtain ⟨a, a0, a1, a2⟩ := E5.c3 0 rfl
  obtain ⟨b, b0, b1, b2, b3, b4, b5, b6⟩ := E5.c7 1 rfl
  have f1 := E5.fz 1 rfl
  have hcat : ¬ (9223372036854775807 < 1 + n.2.1.length) := by omega
  have hstr := str_app [45] n.2.1
  by_cases h48 : n.2.1 = [48]
  ·have d48 : (n.2.1 == [48]) = true := by rw [h48]; rfl
   have HE3 : Hid (Rs.number T s = (Ps.nd 9 n.2.1 [] t.2.2, Rs.adv (Rs.adv s))) := Hd (by rw [HE2.out, h48]; rfl)
   clear h48
   go_wp2
   have E9 := E5.put7 1 rfl (.int .i64 9) (.string ⟨n.2.1.toArray⟩) (.slice none 0 0) (.slice none 0 0) (.slice none 0 0) (.int .i64 0) (.int .i64 (t.2.2 : Int))
   refine bodyPost_ret (ret26 rfl _ _ rfl (E9.blk 1 rfl)) rfl ?_
   rw [HE3.out]
   exact ⟨_, rfl, E9.pp, TrM.leaf _ _ _ 9 n.2.1 t.2.2⟩
  ·have d48 : (n.2.1 == [48]) = false := by simpa using h48
   have HE3 : Hid (Rs.number T s = (Ps.nd 9 (45 :: n.2.1) [] t.2.2, Rs.adv (Rs.adv s))) := Hd (by rw [HE2.out, if_pos (by simpa using h48)])
   clear h48
   go_wp2
   have E9 := E5.put7 1 rfl (.int .i64 9) (.string ⟨(45 :: n.2.1).toArray⟩) (.slice none 0 0) (.slice none 0 0) (.slice none 0 0) (.int .i64 0) (.int .i64 (t.2.2 : Int))
   refine bodyPost_ret (ret26 rfl _ _ rfl (E9.blk 1 rfl)) rfl ?_
   rw [HE3.out]
   exact ⟨_, rfl, E9.pp, TrM.leaf _ _ _ 9 (45 :: n.2.1) t.2.2⟩
end Go.Proofs.YtbnlnndeajjenaaGreat
