/-
  Parts RxL, RxM of the proof. No statement of the seat is proved here.
-/
import Derived.Test.YtbnlnndeajjenaaGreatP21
import Derived.Test.YtbnlnndeajjenaaGreatP28
import Derived.Test.YtbnlnndeajjenaaGreatP30
set_option maxHeartbeats 4000000
namespace Go.Proofs.YtbnlnndeajjenaaGreat
open Go.RowKit
structure RBk (w : World) (g : Nat) (A : Option Addr) (c : Nat) (T : List Lx.Tk) (fin ts t2 place : Nat) (s' : Rs.RS) (a : List Lx.Txt) (vA : Value) (b : List Lx.Txt) (vB : Value) (r : List Ps.Tr) (vR : Value) (wr : World) : Prop where
 env : Ev w g A c (Rs.toks T fin) s' [⟨ts, 26, [.int .i64 2, .string ⟨#[]⟩, vA, vB, vR, .int .i64 0, .int .i64 (place : Int)]⟩, ⟨t2, 26, [.int .i64 0, .string ⟨#[]⟩, .slice none 0 0, .slice none 0 0, .slice none 0 0, .int .i64 0, .int .i64 0]⟩] wr
 ra : SsN wr w.heap.size vA a
 rb : SsN wr w.heap.size vB b
 rr : TsM wr w.heap.size (fun k => k = ts ∨ k = t2) vR r
 bd : Rs.Bd T s'
section
variable {w wr w1 : World} {g c fin ts t2 place : Nat} {A : Option Addr} {T : List Lx.Tk} {s' s1 : Rs.RS} {a a' b b' : List Lx.Txt} {vA vB vR v' : Value} {r r' : List Ps.Tr} {R : Ps.Tr × Rs.RS}
theorem RBk.below (h : RBk w g A c T fin ts t2 place s' a vA b vB r vR wr) (hb : Below wr.heap.size wr w1) : RBk w g A c T fin ts t2 place s' a vA b vB r vR w1 := ⟨h.env.below hb, h.ra.below hb, h.rb.below hb, h.rr.below hb, h.bd⟩
theorem RBk.call (h : RBk w g A c T fin ts t2 place s' a vA b vB r vR wr) (hp : RP wr g A c (Rs.toks T fin) s1 w1) (hb : Rs.Bd T s1) : RBk w g A c T fin ts t2 place s1 a vA b vB r vR w1 := ⟨h.env.call hp, h.ra.call hp.1 h.env.gl, h.rb.call hp.1 h.env.gl, h.rr.call hp.1 h.env.gl, hb⟩
theorem RBk.start {L : List Lc} (h : Ev w g A c (Rs.toks T fin) s' L wr) (i : Nat) (hi : L[i]? = some ⟨t2, 26, [.int .i64 0, .string ⟨#[]⟩, .slice none 0 0, .slice none 0 0, .slice none 0 0, .int .i64 0, .int .i64 0]⟩) (hts : wr.heap.size = ts) (hb : Rs.Bd T s') (place : Nat) :
  RBk w g A c T fin ts t2 place s' [] (.slice none 0 0) [] (.slice none 0 0) [] (.slice none 0 0) (wr.alloc (.cells #[.int .i64 2, .string ⟨#[]⟩, .slice none 0 0, .slice none 0 0, .slice none 0 0, .int .i64 0, .int .i64 (place : Int)] 26)) := by
 have E1 := (h.boxk ts hts 26 [.int .i64 2, .string ⟨#[]⟩, .slice none 0 0, .slice none 0 0, .slice none 0 0, .int .i64 0, .int .i64 (place : Int)] ).pick2 0 (i + 1) rfl (by simpa using hi) (by omega)
 exact ⟨E1, SsN.nil _ _, SsN.nil _ _, TsM.nil _ _ _, hb⟩
theorem RBk.names (h : RBk w g A c T fin ts t2 place s' a vA [] (.slice none 0 0) [] (.slice none 0 0) wr) (hc : Chg (fun k => k = g ∨ vA.ownBlock = some k) wr w1) (hp : RA w1 g A c (Rs.toks T fin) s1) (ho : SsN w1 w.heap.size v' a') (hb : Rs.Bd T s1) :
  Ev w g A c (Rs.toks T fin) s1 [⟨ts, 26, [.int .i64 2, .string ⟨#[]⟩, vA, .slice none 0 0, .slice none 0 0, .int .i64 0, .int .i64 (place : Int)]⟩, ⟨t2, 26, [.int .i64 0, .string ⟨#[]⟩, .slice none 0 0, .slice none 0 0, .slice none 0 0, .int .i64 0, .int .i64 0]⟩] w1 ∧ RBk w g A c T fin ts t2 place s1 a' v' [] (.slice none 0 0) [] (.slice none 0 0) (w1.setCell ⟨ts, 2, none⟩ v') := by
 have E := h.env.row (v := vA) hc hp fun k hk => ⟨(World.ownsRow.lt h.ra k hk).1, fun i x hx e => by
  match i with
  | 0 => simp only [List.getElem?_cons_zero, Option.some.injEq] at hx; subst hx; subst e; exact own_blk_ne h.ra (h.env.blk 0 rfl) (by decide) hk
  | 1 => simp only [List.getElem?_cons_succ, List.getElem?_cons_zero, Option.some.injEq] at hx; subst hx; subst e; exact own_blk_ne h.ra (h.env.blk 1 rfl) (by decide) hk
  | i + 2 => simp at hx⟩
 exact ⟨E, E.put 0 rfl 2 v', ho.put (E.blk 0 rfl) (by decide) (chg_set _ _ _ _), SsN.nil _ _, TsM.nil _ _ _, hb⟩
theorem RBk.temps (h : RBk w g A c T fin ts t2 place s' a vA [] (.slice none 0 0) [] (.slice none 0 0) wr) (hp : RP wr g A c (Rs.toks T fin) s1 w1) (ho : SsN w1 wr.heap.size v' b') (hb : Rs.Bd T s1) :
  Ev w g A c (Rs.toks T fin) s1 [⟨ts, 26, [.int .i64 2, .string ⟨#[]⟩, vA, .slice none 0 0, .slice none 0 0, .int .i64 0, .int .i64 (place : Int)]⟩, ⟨t2, 26, [.int .i64 0, .string ⟨#[]⟩, .slice none 0 0, .slice none 0 0, .slice none 0 0, .int .i64 0, .int .i64 0]⟩] w1 ∧ RBk w g A c T fin ts t2 place s1 a vA b' v' [] (.slice none 0 0) (w1.setCell ⟨ts, 3, none⟩ v') := by
 have E := h.env.call hp
 exact ⟨E, E.put 0 rfl 3 v', (h.ra.call hp.1 h.env.gl).put (E.blk 0 rfl) (by decide) (chg_set _ _ _ _), SsN.put (own_low ho h.env.size : SsN w1 w.heap.size v' b') (E.blk 0 rfl) (by decide) (chg_set _ _ _ _), TsM.nil _ _ _, hb⟩
theorem RBk.nodes (h : RBk w g A c T fin ts t2 place s' a vA b vB [] (.slice none 0 0) wr) (hp : RP wr g A c (Rs.toks T fin) s1 w1) (ho : TsM w1 wr.heap.size (fun _ => False) v' r') (hb : Rs.Bd T s1) :
  Ev w g A c (Rs.toks T fin) s1 [⟨ts, 26, [.int .i64 2, .string ⟨#[]⟩, vA, vB, .slice none 0 0, .int .i64 0, .int .i64 (place : Int)]⟩, ⟨t2, 26, [.int .i64 0, .string ⟨#[]⟩, .slice none 0 0, .slice none 0 0, .slice none 0 0, .int .i64 0, .int .i64 0]⟩] w1 ∧ RBk w g A c T fin ts t2 place s1 a vA b vB r' v' (w1.setCell ⟨ts, 4, none⟩ v') := by
 have E := h.env.call hp
 have l0 := (h.env.blk 0 rfl).lt
 have l1 := (h.env.blk 1 rfl).lt
 refine ⟨E, E.put 0 rfl 4 v', (h.ra.call hp.1 h.env.gl).put (E.blk 0 rfl) (by decide) (chg_set _ _ _ _), (h.rb.call hp.1 h.env.gl).put (E.blk 0 rfl) (by decide) (chg_set _ _ _ _), ?_, hb⟩
 exact ((ho.swap (X' := fun k => k = ts ∨ k = t2) fun k h1 _ e => by omega).low h.env.size).store (chg_set _ _ _ _) fun k e => .inl e
theorem RBk.done {A1 A2 A3 : Option Addr} {n1 n2 n3 c1 c2 c3 : Nat} (h : RBk w g A c T fin ts t2 place s' a (.slice A1 n1 c1) b (.slice A2 n2 c2) r (.slice A3 n3 c3) wr) (hR : R = (.mk 2 [] a b r 0 place, s')) :
  Blk (((((((wr.setCell ⟨t2, 0, none⟩ (.int .i64 2)).setCell ⟨t2, 1, none⟩ (.string ⟨#[]⟩)).setCell ⟨t2, 2, none⟩ (.slice A1 n1 c1)).setCell ⟨t2, 3, none⟩ (.slice A2 n2 c2)).setCell ⟨t2, 4, none⟩ (.slice A3 n3 c3)).setCell ⟨t2, 5, none⟩ (.int .i64 0)).setCell ⟨t2, 6, none⟩ (.int .i64 (place : Int))) t2 26 #[.int .i64 2, .string ⟨#[]⟩, .slice A1 n1 c1, .slice A2 n2 c2, .slice A3 n3 c3, .int .i64 0, .int .i64 (place : Int)] ∧
  RNd w g A c T fin w.heap.size R (.returned (.agg #[.int .i64 2, .string ⟨#[]⟩, .slice A1 n1 c1, .slice A2 n2 c2, .slice A3 n3 c3, .int .i64 0, .int .i64 (place : Int)])) (((((((wr.setCell ⟨t2, 0, none⟩ (.int .i64 2)).setCell ⟨t2, 1, none⟩ (.string ⟨#[]⟩)).setCell ⟨t2, 2, none⟩ (.slice A1 n1 c1)).setCell ⟨t2, 3, none⟩ (.slice A2 n2 c2)).setCell ⟨t2, 4, none⟩ (.slice A3 n3 c3)).setCell ⟨t2, 5, none⟩ (.int .i64 0)).setCell ⟨t2, 6, none⟩ (.int .i64 (place : Int))) := by
 subst hR
 have E4 := h.env.put7 1 rfl (.int .i64 2) (.string ⟨#[]⟩) (.slice A1 n1 c1) (.slice A2 n2 c2) (.slice A3 n3 c3) (.int .i64 0) (.int .i64 (place : Int))
 obtain ⟨_, _, e1, _, _⟩ := SsN.form h.ra
 obtain ⟨_, _, e2, _, _⟩ := SsN.form h.rb
 obtain ⟨_, _, e3, _, _⟩ := h.rr.form
 injection e1 with _ e1 _
 injection e2 with _ e2 _
 injection e3 with _ e3 _
 subst e1 e2 e3
 have ne : ∀ (vX : Value) (x : List Lx.Txt), SsN wr w.heap.size vX x → ∀ k, vX.ownBlock = some k → ¬ (k = ts ∨ k = t2) := fun vX x hx k hk e => by
  rcases e with rfl | rfl
  ·exact own_blk_ne hx (h.env.blk 0 rfl) (by decide) hk
  ·exact own_blk_ne hx (h.env.blk 1 rfl) (by decide) hk
 refine ⟨E4.blk 1 rfl, _, rfl, E4.pp, h.bd, ?_⟩
 exact TrM.swap ((TrM.node 2 [] 0 place h.ra (ne _ _ h.ra) h.rb (ne _ _ h.rb) h.rr).store (chg_set7 _ _ _ _ _ _ _ _ _) fun _ e => .inr e) (fun k _ _ e => e.elim)
end
theorem Rs.argL_stop {L : List Lx.Tk} {f : Nat} {l : List Lx.Txt} {s : Rs.RS} (h : Rs.is_ L 7 [58] s = false) : Rs.argL L f l s = (l, s) := by
 cases f with
 | zero => unfold Rs.argL; rfl
 | succ f => unfold Rs.argL; rw [if_neg (by rw [h]; decide)]
set_option maxRecDepth 100000 in
set_option maxHeartbeats 8000000 in
theorem rblk_any {g c fin F : Nat} {A : Option Addr} {T : List Lx.Tk} (hT : Ps.Fits 65536 T) (ih : ∀ f, f < F → RWAll g A c T fin f) (s : Rs.RS) (w : World) (h : RA w g A c (Rs.toks T fin) s) (hb : Rs.Bd T s) (hk : Rs.bad s = false) (hlt : s.at_ < T.length) (hf : Rs.rem T s + 2 ≤ F) :
  Calls Tryz.prog 104 #[.pointer (some ⟨g, 0, none⟩)] w (RNd w g A c T fin w.heap.size (Rs.blk (Rs.toks T fin) F s)) := by
 have hTl := hT.len
 have hgb := h.lt
 have E0 := (Ev.start h).box 26 [.int .i64 0, .string ⟨#[]⟩, .slice none 0 0, .slice none 0 0, .slice none 0 0, .int .i64 0, .int .i64 0]
 obtain ⟨f0, rfl⟩ : ∃ f0, F = f0 + 1 := ⟨F - 1, by omega⟩
 obtain ⟨t, ht⟩ : ∃ t, Rs.tok (Rs.toks T fin) s = t := ⟨_, rfl⟩
 obtain ⟨s1, hs1⟩ : ∃ s1, Rs.opn (Rs.toks T fin) s = s1 := ⟨_, rfl⟩
 obtain ⟨RG, hRG⟩ : ∃ x, Rs.argL (Rs.toks T fin) (T.length + 4) [] s1 = x := ⟨_, rfl⟩
 obtain ⟨R, hR⟩ : ∃ R, Rs.blk (Rs.toks T fin) (f0 + 1) s = R := ⟨_, rfl⟩
 have HE : Hid (∀ (a : List Lx.Txt) (s2 q : Rs.RS), RG = (a, s2) → (if !a.isEmpty && !Rs.is_ (Rs.toks T fin) 7 [93] s2 then (Rs.take (Rs.toks T fin) 7 [124] s2).2 else s2) = q → R = (.mk 2 [] a (Rs.temps (Rs.toks T fin) q).1 (Rs.stL (Rs.toks T fin) f0 [93] [] (Rs.temps (Rs.toks T fin) q).2).1 0 t.2.2, Rs.shut (Rs.toks T fin) [93] (Rs.stL (Rs.toks T fin) f0 [93] [] (Rs.temps (Rs.toks T fin) q).2).2)) := Hd (by
  intro a s2 q h1 h2
  rw [← hR, Rs.blk, Ps.toks_len, hs1, hRG, h1]
  try dsimp only
  rw [h2, ht])
 rw [hR]
 have HTK := Hd fun (W : World) (h : RA W g A c (Rs.toks T fin) s) => rtok_any h (hb).lt
 have HOP := Hd fun (W : World) (h : RA W g A c (Rs.toks T fin) s) => ropen_any h hb.lt (hb.le hTl) ⟨hb.lo, hb.hi⟩
 have hb1 := Rs.Bd.opn (fin := fin) hb hk hlt
 have hra : Rs.bad s1 = false → Rs.rem T s1 + 10 ≤ Rs.rem T s := fun h1 => Rs.rem_adv (by rw [← hs1] at h1 ⊢; rw [Rs.opn_at h1]; omega) hlt
 rw [ht] at HTK
 rw [hs1] at HOP hb1
 have IH := Hd ih
 have HRG := Hd hRG
 have HB1 := Hd hb1
 have HB0 := Hd hb
 have HHR := Hd hra
 have HS1 := Hd hs1
 have HE0 := Hd E0
 have hf2 := fld2 (.int .i64 (t.1 : Int)) (.string ⟨t.2.1.toArray⟩) (.int .i64 (t.2.2 : Int))
 clear h hb ht hs1 hRG hR ih hb1 E0 hra
 go_enter Tryz.func104, Tryz.ntmps104
 go_upto_region 2 with (go_at_call 37; refine (HTK.out _ HE0.out.pa).mono ?_; rintro e w1 ⟨rfl, hp⟩; have HE1 := Hd (HE0.out.below hp); clear hp)
 refine wp_world (fun W => RBk w g A c T fin w1.heap.size w.heap.size t.2.2 s [] (.slice none 0 0) [] (.slice none 0 0) [] (.slice none 0 0) W) (RBk.start HE1.out 0 rfl rfl HB0.out t.2.2) fun w2 ha2 => ?_
 have HA2 := Hd ha2
 obtain ⟨ts, hts⟩ : ∃ ts, w1.heap.size = ts := ⟨_, rfl⟩
 rw [hts] at HA2 ⊢
 clear ha2 HE0 HE1 HTK hf2 hts
 go_upto_block 0 with (go_at_call 101; refine (HOP.out _ HA2.out.env.pa).mono ?_; rintro e w3 ⟨rfl, hp⟩; have HA3 := Hd (HA2.out.call hp HB1.out); clear hp)
 clear HA2 HOP
 go_wp2
 go_loopg [] (T.length + 4) (fun f wr => ∃ (s' : Rs.RS) (l : List Lx.Txt) (v : Value), RBk w g A c T fin ts w.heap.size t.2.2 s' l v [] (.slice none 0 0) [] (.slice none 0 0) wr ∧ Rs.Mv T s1 s' ∧ (Rs.bad s' = false → T.length < s'.at_ + f) ∧ l.length + f ≤ T.length + 4 ∧ Rs.argL (Rs.toks T fin) f l s' = RG)
 case atStart => exact ⟨s1, [], _, HA3.out, Rs.Mv.refl _ _, fun _ => by omega, by simp, HRG.out⟩
 case round =>
  obtain ⟨s', l, v', hA, hmv, hok, hlf, hR⟩ := hrel
  have HA := Hd hA
  have HR2 := Hd hR
  have HOK := Hd hok
  have HMV := Hd hmv
  obtain ⟨Av, cv, rfl, -, -⟩ := SsN.form hA.ra
  have hat := HA.out.bd.at_
  have HI58 := Hd fun (W : World) (h : RA W g A c (Rs.toks T fin) s') => ris_z h (HA.out.bd).lt 7 [58] (z := 7) rfl (xs := #[58]) rfl
  have HI93 := Hd fun (W : World) (h : RA W g A c (Rs.toks T fin) s') => ris_z h (HA.out.bd).lt 7 [93] (z := 7) rfl (xs := #[93]) rfl
  clear hA hR hok hmv HA3 HRG
  cases hi : Rs.is_ (Rs.toks T fin) 7 [58] s' with
  | true =>
   have hls := Rs.is_lt (by decide) hi
   have hgk := HOK.out (Rs.is_ok hi)
   have hs' := HA.out.bd.le hTl
   obtain ⟨f, rfl⟩ : ∃ f, gk = f + 1 := ⟨gk - 1, by omega⟩
   have HR3 : Hid (Rs.argL (Rs.toks T fin) f (Rs.decl (Rs.toks T fin) l (Rs.adv s')).1 (Rs.decl (Rs.toks T fin) l (Rs.adv s')).2 = RG) := Hd (by rw [← HR2.out]; show _ = Rs.argL (Rs.toks T fin) (f + 1) l s'; rw [Rs.argL, if_pos hi])
   have HD := Hd (Rs.mv_decl (T := T) (fin := fin) l (Rs.adv s'))
   have HL : Hid ((Rs.decl (Rs.toks T fin) l (Rs.adv s')).1.length ≤ l.length + 1) := Hd (by unfold Rs.decl; dsimp only; split <;> simp)
   have HDA : Hid (Rs.bad (Rs.decl (Rs.toks T fin) l (Rs.adv s')).2 = false → (Rs.decl (Rs.toks T fin) l (Rs.adv s')).2.at_ = s'.at_ + 1 + 1) := Hd fun h => (Rs.decl_adv h).1
   have HBA := Hd (HA.out.bd.adv hls)
   have hadv : (Rs.adv s').at_ = s'.at_ + 1 := rfl
   rw [hi] at HI58
   clear hi
   go_upto_region 4 with (go_at_call 38; with_reducible refine (HI58.out _ HA.out.env.pa).mono ?_; rintro e hb4 ⟨rfl, hb⟩; have HB4 := Hd (HA.out.below hb); obtain ⟨a, a0, a1, a2, a3, a4, a5, a6⟩ := HB4.out.env.c7 0 rfl; clear hb)
   clear a a0 a1 a2 a3 a4 a5 a6
   obtain ⟨k0, k1, k2, k3, k4⟩ := HB4.out.env.pa.cells
   have kf := HB4.out.env.pa.frz 1
   have hg := HB4.out.env.pa.lt
   go_upto_region 5 with fail
   refine wp_world (fun W => RBk w g A c T fin ts w.heap.size t.2.2 (Rs.adv s') l (.slice Av l.length cv) [] (.slice none 0 0) [] (.slice none 0 0) W) (HB4.out.call ⟨chg_set _ _ _ _, HB4.out.env.pa.setAt (s'.at_ + 1) _ (by first | rfl | omega)⟩ HBA.out) fun w5 h5 => ?_
   have HB5 := Hd h5
   clear h5 k0 k1 k2 k3 k4 kf hg HB4 HA
   obtain ⟨a, a0, a1, a2, a3, a4, a5, a6⟩ := HB5.out.env.c7 0 rfl
   go_wp2_with (go_at_call 40; refine (rdecl_any HB5.out.env.pa HBA.out.lt (by omega) HB5.out.ra HB5.out.env.gl HB5.out.env.size (by omega)).mono ?_; rintro e w6 ⟨v6, rfl, hc6, hp6, ho6, -⟩; obtain ⟨A6, c6, rfl, -, -⟩ := SsN.form ho6; obtain ⟨hE6, hB6⟩ := HB5.out.names hc6 hp6 ho6 (HBA.out.mv HD.out); have HB6 := Hd hB6; obtain ⟨a, a0, a1, a2, a3, a4, a5, a6⟩ := hE6.c7 0 rfl; have fz := hE6.fz 0 rfl; clear hc6 hp6 ho6 hE6 hB6)
   go_roundg f
   case measure => omega
   case rel => exact ⟨_, _, _, HB6.out, HMV.out.trans ((Rs.mv_adv hls).trans HD.out), fun hk => by have := HDA.out hk; omega, by have := HL.out; omega, HR3.out⟩
  | false =>
   have HRG2 : Hid (RG = (l, s')) := Hd (by rw [← HR2.out]; exact Rs.argL_stop hi)
   rw [hi] at HI58
   clear hi
   cases l with
   | nil =>
    have HV := HE.out [] s' s' HRG2.out rfl
    obtain ⟨pv, hpv⟩ : ∃ x, Rs.temps (Rs.toks T fin) (s') = x := ⟨_, rfl⟩
    obtain ⟨pr, hpr⟩ : ∃ x, Rs.stL (Rs.toks T fin) f0 [93] [] pv.2 = x := ⟨_, rfl⟩
    have HE2 : Hid (R = (.mk 2 [] [] pv.1 pr.1 0 t.2.2, Rs.shut (Rs.toks T fin) [93] pr.2)) := Hd (by rw [HV, ← hpr, ← hpv])
    have HMS : Hid (Rs.Mv T s1 (s')) := Hd (HMV.out)
    have HBS := Hd (HB1.out.mv HMS.out)
    have HMT : Hid (Rs.Mv T (s') pv.2) := Hd (by rw [← hpv]; exact Rs.mv_temps HBS.out.at_)
    have HBT := Hd (HBS.out.mv HMT.out)
    have HMR : Hid (Rs.Mv T pv.2 pr.2) := Hd (by rw [← hpr]; exact (Rs.mvAll (T := T) (fin := fin) f0).stL _ _ _ HBT.out.at_)
    have HBR := Hd (HBT.out.mv HMR.out)
    have HBZ : Hid (Rs.Bd T (Rs.shut (Rs.toks T fin) [93] pr.2)) := Hd (HB0.out.shutm hk hlt (by rw [HS1.out]; exact (HMS.out.trans HMT.out).trans HMR.out) [93])
    have HTM := Hd fun (W : World) (h : RA W g A c (Rs.toks T fin) (s')) => rtemps_any h HBS.out hTl
    have HSL := Hd fun (W : World) (h : RA W g A c (Rs.toks T fin) pv.2) => (IH.out f0 (by omega)).stL [93] pv.2 W h HBT.out (fun h1 => by have m1 := HMS.out.trans HMT.out; have := HHR.out (Rs.ok_back m1 h1); have := Rs.rem_le (T := T) (m1.at_ HB1.out.at_).1; omega)
    have HSH := Hd fun (W : World) (h : RA W g A c (Rs.toks T fin) pr.2) => rshut_any h HBR.out.lt (HBR.out.le hTl) ⟨HBR.out.lo, HBR.out.hi⟩ [93]
    rw [hpv] at HTM
    rw [hpr] at HSL
    clear hpr HV hpv
    go_upto_region 10 with (first
     | (go_at_call 38; with_reducible refine (HI58.out _ HA.out.env.pa).mono ?_; rintro e hb4 ⟨rfl, hb⟩; have HB4 := Hd (HA.out.below hb); obtain ⟨a, a0, a1, a2, a3, a4, a5, a6⟩ := HB4.out.env.c7 0 rfl; clear hb)
     | (go_at_call 24; refine (HTM.out _ HB4.out.env.pa).mono ?_; rintro e wt ⟨vt, rfl, hp, ho⟩; obtain ⟨Bv, bv, rfl, -, -⟩ := SsN.form ho; obtain ⟨hE, hB⟩ := HB4.out.temps hp ho HBT.out; have HBV := Hd hB; obtain ⟨a, a0, a1, a2, a3, a4, a5, a6⟩ := hE.c7 0 rfl; have fz := hE.fz 0 rfl; clear hp ho hB hE)
     | (go_at_call 25; refine (HSL.out _ HBV.out.env.pa).mono ?_; rintro e ws ⟨vs, rfl, hp, hbs, hts⟩; obtain ⟨Cv, dv, rfl, -, -⟩ := hts.form; obtain ⟨hE, hB⟩ := HBV.out.nodes hp hts hbs; have HBW := Hd hB; obtain ⟨a, a0, a1, a2, a3, a4, a5, a6⟩ := hE.c7 0 rfl; have fz := hE.fz 0 rfl; clear hp hts hB hE))
    refine wp_world (fun W => RBk w g A c T fin ts w.heap.size t.2.2 pr.2 [] _ pv.1 _ pr.1 _ W) HBW.out fun w8 h8 => ?_
    have HB8 := Hd h8
    clear h8 HBW HA HI58 HB4 HBV HTM HBT HSL a a0 a1 a2 a3 a4 a5 a6 fz
    go_upto_region 11 with (go_at_call 102; refine (HSH.out _ HB8.out.env.pa).mono ?_; rintro e w9 ⟨rfl, hp⟩; have HB9 := Hd (HB8.out.call hp HBZ.out); clear hp)
    obtain ⟨a, a0, a1, a2, a3, a4, a5, a6⟩ := HB9.out.env.c7 0 rfl
    obtain ⟨b, b0, b1, b2, b3, b4, b5, b6⟩ := HB9.out.env.c7 1 rfl
    have fz := HB9.out.env.fz 1 rfl
    go_wp2
    obtain ⟨hb4, hnd⟩ := HB9.out.done (R := R) HE2.out
    exact bodyPost_ret (ret26 rfl _ _ rfl hb4) rfl hnd
   | cons x l =>
    obtain ⟨lc, hlc⟩ : ∃ z, x :: l = z := ⟨_, rfl⟩
    have hl0 : (0 : Int) < (lc.length : Int) := by rw [← hlc]; simp
    have hemp : lc.isEmpty = false := by rw [← hlc]; rfl
    rw [hlc] at HA HRG2
    clear hlc HR2 hlf
    cases hi3 : Rs.is_ (Rs.toks T fin) 7 [93] s' with
    | true =>
     have HV := HE.out lc s' s' HRG2.out (by rw [hemp, hi3]; rfl)
     rw [hi3] at HI93
     clear hi3 hemp
     obtain ⟨pv, hpv⟩ : ∃ x, Rs.temps (Rs.toks T fin) (s') = x := ⟨_, rfl⟩
     obtain ⟨pr, hpr⟩ : ∃ x, Rs.stL (Rs.toks T fin) f0 [93] [] pv.2 = x := ⟨_, rfl⟩
     have HE2 : Hid (R = (.mk 2 [] lc pv.1 pr.1 0 t.2.2, Rs.shut (Rs.toks T fin) [93] pr.2)) := Hd (by rw [HV, ← hpr, ← hpv])
     have HMS : Hid (Rs.Mv T s1 (s')) := Hd (HMV.out)
     have HBS := Hd (HB1.out.mv HMS.out)
     have HMT : Hid (Rs.Mv T (s') pv.2) := Hd (by rw [← hpv]; exact Rs.mv_temps HBS.out.at_)
     have HBT := Hd (HBS.out.mv HMT.out)
     have HMR : Hid (Rs.Mv T pv.2 pr.2) := Hd (by rw [← hpr]; exact (Rs.mvAll (T := T) (fin := fin) f0).stL _ _ _ HBT.out.at_)
     have HBR := Hd (HBT.out.mv HMR.out)
     have HBZ : Hid (Rs.Bd T (Rs.shut (Rs.toks T fin) [93] pr.2)) := Hd (HB0.out.shutm hk hlt (by rw [HS1.out]; exact (HMS.out.trans HMT.out).trans HMR.out) [93])
     have HTM := Hd fun (W : World) (h : RA W g A c (Rs.toks T fin) (s')) => rtemps_any h HBS.out hTl
     have HSL := Hd fun (W : World) (h : RA W g A c (Rs.toks T fin) pv.2) => (IH.out f0 (by omega)).stL [93] pv.2 W h HBT.out (fun h1 => by have m1 := HMS.out.trans HMT.out; have := HHR.out (Rs.ok_back m1 h1); have := Rs.rem_le (T := T) (m1.at_ HB1.out.at_).1; omega)
     have HSH := Hd fun (W : World) (h : RA W g A c (Rs.toks T fin) pr.2) => rshut_any h HBR.out.lt (HBR.out.le hTl) ⟨HBR.out.lo, HBR.out.hi⟩ [93]
     rw [hpv] at HTM
     rw [hpr] at HSL
     clear hpr HV hpv
     go_upto_region 10 with (first
      | (go_at_call 38; with_reducible refine (HI58.out _ HA.out.env.pa).mono ?_; rintro e hb4 ⟨rfl, hb⟩; have HB4 := Hd (HA.out.below hb); obtain ⟨a, a0, a1, a2, a3, a4, a5, a6⟩ := HB4.out.env.c7 0 rfl; clear hb)
      | (go_at_call 38; with_reducible refine (HI93.out _ HB4.out.env.pa).mono ?_; rintro e hb5 ⟨rfl, hb⟩; have HB5 := Hd (HB4.out.below hb); obtain ⟨a, a0, a1, a2, a3, a4, a5, a6⟩ := HB5.out.env.c7 0 rfl; clear hb)
      | (go_at_call 24; refine (HTM.out _ HB5.out.env.pa).mono ?_; rintro e wt ⟨vt, rfl, hp, ho⟩; obtain ⟨Bv, bv, rfl, -, -⟩ := SsN.form ho; obtain ⟨hE, hB⟩ := HB5.out.temps hp ho HBT.out; have HBV := Hd hB; obtain ⟨a, a0, a1, a2, a3, a4, a5, a6⟩ := hE.c7 0 rfl; have fz := hE.fz 0 rfl; clear hp ho hB hE)
      | (go_at_call 25; refine (HSL.out _ HBV.out.env.pa).mono ?_; rintro e ws ⟨vs, rfl, hp, hbs, hts⟩; obtain ⟨Cv, dv, rfl, -, -⟩ := hts.form; obtain ⟨hE, hB⟩ := HBV.out.nodes hp hts hbs; have HBW := Hd hB; obtain ⟨a, a0, a1, a2, a3, a4, a5, a6⟩ := hE.c7 0 rfl; have fz := hE.fz 0 rfl; clear hp hts hB hE))
     refine wp_world (fun W => RBk w g A c T fin ts w.heap.size t.2.2 pr.2 lc _ pv.1 _ pr.1 _ W) HBW.out fun w8 h8 => ?_
     have HB8 := Hd h8
     clear h8 HBW HA HI58 HI93 HB4 HB5 HBV HTM HBT HSL a a0 a1 a2 a3 a4 a5 a6 fz
     go_upto_region 11 with (go_at_call 102; refine (HSH.out _ HB8.out.env.pa).mono ?_; rintro e w9 ⟨rfl, hp⟩; have HB9 := Hd (HB8.out.call hp HBZ.out); clear hp)
     obtain ⟨a, a0, a1, a2, a3, a4, a5, a6⟩ := HB9.out.env.c7 0 rfl
     obtain ⟨b, b0, b1, b2, b3, b4, b5, b6⟩ := HB9.out.env.c7 1 rfl
     have fz := HB9.out.env.fz 1 rfl
     go_wp2
     obtain ⟨hb4, hnd⟩ := HB9.out.done (R := R) HE2.out
     exact bodyPost_ret (ret26 rfl _ _ rfl hb4) rfl hnd
    | false =>
     obtain ⟨q, hq⟩ : ∃ q, Rs.take (Rs.toks T fin) 7 [124] s' = q := ⟨_, rfl⟩
     have HV := HE.out lc s' q.2 HRG2.out (by rw [hemp, hi3, ← hq]; rfl)
     have HTQ := Hd fun (W : World) (h : RA W g A c (Rs.toks T fin) s') => rtake_z h (HA.out.bd).lt ((HA.out.bd).le hTl) 7 [124] (z := 7) rfl (xs := #[124]) rfl
     have HMQ : Hid (Rs.Mv T s' q.2) := Hd (by rw [← hq]; exact Rs.mv_take (by decide) _ _)
     have HBQ := Hd (HA.out.bd.mv HMQ.out)
     rw [hq] at HTQ
     rw [hi3] at HI93
     clear hi3 hemp hq
     obtain ⟨pv, hpv⟩ : ∃ x, Rs.temps (Rs.toks T fin) (q.2) = x := ⟨_, rfl⟩
     obtain ⟨pr, hpr⟩ : ∃ x, Rs.stL (Rs.toks T fin) f0 [93] [] pv.2 = x := ⟨_, rfl⟩
     have HE2 : Hid (R = (.mk 2 [] lc pv.1 pr.1 0 t.2.2, Rs.shut (Rs.toks T fin) [93] pr.2)) := Hd (by rw [HV, ← hpr, ← hpv])
     have HMS : Hid (Rs.Mv T s1 (q.2)) := Hd (HMV.out.trans HMQ.out)
     have HBS := Hd (HB1.out.mv HMS.out)
     have HMT : Hid (Rs.Mv T (q.2) pv.2) := Hd (by rw [← hpv]; exact Rs.mv_temps HBS.out.at_)
     have HBT := Hd (HBS.out.mv HMT.out)
     have HMR : Hid (Rs.Mv T pv.2 pr.2) := Hd (by rw [← hpr]; exact (Rs.mvAll (T := T) (fin := fin) f0).stL _ _ _ HBT.out.at_)
     have HBR := Hd (HBT.out.mv HMR.out)
     have HBZ : Hid (Rs.Bd T (Rs.shut (Rs.toks T fin) [93] pr.2)) := Hd (HB0.out.shutm hk hlt (by rw [HS1.out]; exact (HMS.out.trans HMT.out).trans HMR.out) [93])
     have HTM := Hd fun (W : World) (h : RA W g A c (Rs.toks T fin) (q.2)) => rtemps_any h HBS.out hTl
     have HSL := Hd fun (W : World) (h : RA W g A c (Rs.toks T fin) pv.2) => (IH.out f0 (by omega)).stL [93] pv.2 W h HBT.out (fun h1 => by have m1 := HMS.out.trans HMT.out; have := HHR.out (Rs.ok_back m1 h1); have := Rs.rem_le (T := T) (m1.at_ HB1.out.at_).1; omega)
     have HSH := Hd fun (W : World) (h : RA W g A c (Rs.toks T fin) pr.2) => rshut_any h HBR.out.lt (HBR.out.le hTl) ⟨HBR.out.lo, HBR.out.hi⟩ [93]
     rw [hpv] at HTM
     rw [hpr] at HSL
     clear hpr HV hpv
     go_upto_region 10 with (first
      | (go_at_call 38; with_reducible refine (HI58.out _ HA.out.env.pa).mono ?_; rintro e hb4 ⟨rfl, hb⟩; have HB4 := Hd (HA.out.below hb); obtain ⟨a, a0, a1, a2, a3, a4, a5, a6⟩ := HB4.out.env.c7 0 rfl; clear hb)
      | (go_at_call 38; with_reducible refine (HI93.out _ HB4.out.env.pa).mono ?_; rintro e hb5 ⟨rfl, hb⟩; have HB5 := Hd (HB4.out.below hb); obtain ⟨a, a0, a1, a2, a3, a4, a5, a6⟩ := HB5.out.env.c7 0 rfl; clear hb)
      | (go_at_call 41; refine (HTQ.out _ HB5.out.env.pa).mono ?_; rintro e wz ⟨rfl, hp⟩; have HB6 := Hd (HB5.out.call hp HBQ.out); obtain ⟨a, a0, a1, a2, a3, a4, a5, a6⟩ := HB6.out.env.c7 0 rfl; clear hp)
      | (go_at_call 24; refine (HTM.out _ HB6.out.env.pa).mono ?_; rintro e wt ⟨vt, rfl, hp, ho⟩; obtain ⟨Bv, bv, rfl, -, -⟩ := SsN.form ho; obtain ⟨hE, hB⟩ := HB6.out.temps hp ho HBT.out; have HBV := Hd hB; obtain ⟨a, a0, a1, a2, a3, a4, a5, a6⟩ := hE.c7 0 rfl; have fz := hE.fz 0 rfl; clear hp ho hB hE)
      | (go_at_call 25; refine (HSL.out _ HBV.out.env.pa).mono ?_; rintro e ws ⟨vs, rfl, hp, hbs, hts⟩; obtain ⟨Cv, dv, rfl, -, -⟩ := hts.form; obtain ⟨hE, hB⟩ := HBV.out.nodes hp hts hbs; have HBW := Hd hB; obtain ⟨a, a0, a1, a2, a3, a4, a5, a6⟩ := hE.c7 0 rfl; have fz := hE.fz 0 rfl; clear hp hts hB hE))
     refine wp_world (fun W => RBk w g A c T fin ts w.heap.size t.2.2 pr.2 lc _ pv.1 _ pr.1 _ W) HBW.out fun w8 h8 => ?_
     have HB8 := Hd h8
     clear h8 HBW HA HI58 HI93 HB4 HB5 HB6 HBV HTM HBT HSL a a0 a1 a2 a3 a4 a5 a6 fz
     go_upto_region 11 with (go_at_call 102; refine (HSH.out _ HB8.out.env.pa).mono ?_; rintro e w9 ⟨rfl, hp⟩; have HB9 := Hd (HB8.out.call hp HBZ.out); clear hp)
     obtain ⟨a, a0, a1, a2, a3, a4, a5, a6⟩ := HB9.out.env.c7 0 rfl
     obtain ⟨b, b0, b1, b2, b3, b4, b5, b6⟩ := HB9.out.env.c7 1 rfl
     have fz := HB9.out.env.fz 1 rfl
     go_wp2
     obtain ⟨hb4, hnd⟩ := HB9.out.done (R := R) HE2.out
     exact bodyPost_ret (ret26 rfl _ _ rfl hb4) rfl hnd
theorem TrIn.one {w : World} {S : Nat → Prop} {cs : List Value} {t : Ps.Tr} (h : TrIn w S cs t) : ∀ u ∈ cs, u.oneCell' = true := by
 obtain ⟨k, nm, A1, n1, c1, A2, n2, c2, A3, n3, c3, p, pl, rfl, -⟩ := h.seven
 intro u hu
 simp only [List.mem_cons, List.not_mem_nil, or_false] at hu
 rcases hu with rfl | rfl | rfl | rfl | rfl | rfl | rfl <;> rfl
theorem TrIn.split1 {w : World} {S : Nat → Prop} {k p pl : Nat} {nm : Lx.Txt} {A1 A2 A3 : Option Addr} {n1 c1 n2 c2 n3 c3 : Nat} {t : Ps.Tr} (h : TrIn w S [.int .i64 (k : Int), .string ⟨nm.toArray⟩, .slice A1 n1 c1, .slice A2 n2 c2, .slice A3 n3 c3, .int .i64 (p : Int), .int .i64 (pl : Int)] t) (hne : 1 ≤ t.nodes.length) :
  1 ≤ n3 ∧ n3 = t.nodes.length ∧ n3 ≤ c3 ∧ k = t.kind ∧ nm = t.name ∧ pl = t.place ∧ ∃ (b off : Nat) (x0 : Nat) (x1 : Lx.Txt) (B1 : Option Addr) (y1 z1 : Nat) (B2 : Option Addr) (y2 z2 : Nat) (B3 : Option Addr) (y3 z3 : Nat) (x5 x6 : Nat) (css : List (List Value)), A3 = some ⟨b, off, none⟩ ∧ S b ∧ b < w.heap.size ∧
   w.cell? ⟨b, off, none⟩ = some (.int .i64 (x0 : Int)) ∧ w.cell? ⟨b, off + 1, none⟩ = some (.string ⟨x1.toArray⟩) ∧ w.cell? ⟨b, off + 2, none⟩ = some (.slice B1 y1 z1) ∧ w.cell? ⟨b, off + 3, none⟩ = some (.slice B2 y2 z2) ∧ w.cell? ⟨b, off + 4, none⟩ = some (.slice B3 y3 z3) ∧ w.cell? ⟨b, off + 5, none⟩ = some (.int .i64 (x5 : Int)) ∧ w.cell? ⟨b, off + 6, none⟩ = some (.int .i64 (x6 : Int)) ∧
   TrIn w S [.int .i64 (x0 : Int), .string ⟨x1.toArray⟩, .slice B1 y1 z1, .slice B2 y2 z2, .slice B3 y3 z3, .int .i64 (x5 : Int), .int .i64 (x6 : Int)] (t.nodes.headD Ps.Tr.zero) ∧
   css.length = t.nodes.tail.length ∧ css.flatten.length = (n3 - 1) * 7 ∧ (∀ j u, css.flatten[j]? = some u → w.cell? ⟨b, off + 7 + j, none⟩ = some u) ∧ (∀ (i : Nat) (cs' : List Value) (t' : Ps.Tr), css[i]? = some cs' → t.nodes.tail[i]? = some t' → TrIn w S cs' t') := by
 obtain ⟨k', nm', A1', n1', c1', A2', n2', c2', A3', n3', c3', p', pl', ee, e1, e2, e3, e4, e5⟩ := h.seven
 simp only [List.cons.injEq, Value.int.injEq, Value.string.injEq, Value.slice.injEq, true_and, and_true] at ee
 obtain ⟨ea, eb, -, -, ⟨-, ec, -⟩, -, ed⟩ := ee
 have ea' : k = k' := by omega
 have ed' : pl = pl' := by omega
 have eb' : nm = nm' := by
  have : nm.toArray = nm'.toArray := by injection eb
  have := congrArg Array.toList this
  simpa using this
 subst ea' ed' eb' ec
 cases h with
 | mk kind name names temps nodes prim place _ _ _ _ _ _ css h1 h2 hl h3 hc ih =>
  cases nodes with
  | nil => simp [Ps.Tr.nodes] at hne
  | cons y l =>
   cases css with
   | nil => simp at hl
   | cons cs css =>
    have hy := ih 0 cs y rfl rfl
    obtain ⟨hlen, hcell⟩ := h3
    obtain ⟨b, off, e, hS, hb, hcl⟩ := hcell (by simp)
    have hcs : ∀ j u, cs[j]? = some u → w.cell? ⟨b, off + j, none⟩ = some u := fun j u hu => hcl j u (by rw [List.flatten_cons, List.getElem?_append_left (List.getElem?_eq_some_iff.1 hu).1]; exact hu)
    have hlc : css.length = l.length := by simpa using hl
    obtain ⟨x0, x1, B1, y1, z1, B2, y2, z2, B3, y3, z3, x5, x6, rfl, -⟩ := hy.seven
    refine ⟨by simp, rfl, hc.1, rfl, rfl, rfl, b, off, x0, x1, B1, y1, z1, B2, y2, z2, B3, y3, z3, x5, x6, css, e, hS, hb, hcs 0 _ rfl, hcs 1 _ rfl, hcs 2 _ rfl, hcs 3 _ rfl, hcs 4 _ rfl, hcs 5 _ rfl, hcs 6 _ rfl, hy, hlc, ?_, fun j u hu => ?_, fun i cs' t' hi ht => ih (i + 1) cs' t' (by simpa using hi) (by simpa [Ps.Tr.nodes] using ht)⟩
    ·rw [List.flatten_cons, List.length_append, List.length_cons] at hlen
     simp only [List.length_cons, List.length_nil] at hlen ⊢
     omega
    ·rw [Nat.add_assoc]
     exact hcl (7 + j) u (by rw [List.flatten_cons, List.getElem?_append_right (by simp)]; simpa using hu)
theorem RAc.pushG {w wr : World} {g c fin base ts t2 kind place : Nat} {A : Option Addr} {T : List Lx.Tk} {s' : Rs.RS} {nm : Lx.Txt} {l : List Ps.Tr} {v : Value} {cs : List Value} {t : Ps.Tr} (h : RAc w g A c T fin base ts t2 kind place s' nm l v wr) (ht : TrIn wr (fun k => base ≤ k ∧ k < wr.heap.size ∧ ¬ (k = ts ∨ k = t2) ∧ some k ≠ v.ownBlock) cs t) (hgb : g < base) :
  ∃ css : List (List Value), css.length = l.length ∧ wr.ownsRow base 26 7 v l.length css.flatten ∧ ∀ (o : Obj) (v' : Value) (w6 : World), w6.ownsRow base 26 7 v' (l.length + 1) (css.flatten ++ cs) → (wr.alloc o).grownBy w6 v.ownBlock → (v'.ownBlock = v.ownBlock ∨ v'.ownBlock = some (wr.heap.size + 1)) →
   (∀ j, w6.cell? ⟨ts, j, none⟩ = wr.cell? ⟨ts, j, none⟩) ∧ (∀ j, w6.frozen? ⟨ts, j, none⟩ = false) ∧ ts < w6.heap.size ∧ (∀ p : Addr, p.block < wr.heap.size → some p.block ≠ v.ownBlock → w6.cell? p = wr.cell? p) ∧ RAc w g A c T fin base ts t2 kind place s' nm (l ++ [t]) v' (w6.setCell ⟨ts, 4, none⟩ v') ∧ wr.heap.size ≤ w6.heap.size ∧ (∀ k, k < wr.heap.size → some k ≠ v.ownBlock → w6.heap[k]? = wr.heap[k]?) := by
 obtain ⟨l1, l2, l3, l4, l5⟩ := h.lts
 have hb0 := h.env.blk 0 rfl
 obtain ⟨css, k1, k2, k4, k3⟩ := h.row
 refine ⟨css, k1, k2, fun o v' w6 ho hg hv => ?_⟩
 have hgr : wr.grownBy w6 v.ownBlock := by
  have a : wr.grownBy (wr.alloc o) v.ownBlock := only_alloc (World.grownBy.refl wr _) o
  exact ⟨hg.os.trans a.os, hg.tape.trans a.tape, hg.output.trans a.output, Nat.le_trans a.size hg.size, fun i hi hn => (hg.block i (Nat.lt_of_lt_of_le hi a.size) hn).trans (a.block i hi hn)⟩
 have hXk : ∀ k, v.ownBlock = some k → k ≠ ts ∧ k ≠ t2 := fun k hk => ⟨fun e => k4 k hk (.inl e), fun e => k4 k hk (.inr e)⟩
 have hE6 : Ev w g A c (Rs.toks T fin) s' _ w6 := h.env.row (v := v) (Chg.of_grown hgr (F := fun k => k = g ∨ v.ownBlock = some k) fun k e => .inr e) (h.env.pa.grown k2 hgb hgr) fun k hk => ⟨h.rlo k hk, fun i x hx e => by
  match i with
  | 0 => simp only [List.getElem?_cons_zero, Option.some.injEq] at hx; subst hx; exact (hXk k hk).1 e.symm
  | 1 => simp only [List.getElem?_cons_succ, List.getElem?_cons_zero, Option.some.injEq] at hx; subst hx; exact (hXk k hk).2 e.symm
  | i + 2 => simp at hx⟩
 have hb6 := hE6.blk 0 rfl
 have hts := TsM.snoc (X := fun k => k = ts ∨ k = t2) k1 k4 k3 (by intro e; omega) ht ho hg hv
 refine ⟨fun j => by rw [hb6.cell j, hb0.cell j], fun j => hb6.frozen j, hb6.lt, fun p hp hn => cell_of_heap (hgr.block _ hp hn), ⟨hE6.put 0 rfl 4 v', hts.store (chg_set _ _ _ _) fun _ e => .inl e, h.bd, fun k hk => ?_⟩, hgr.size, fun k hk hn => hgr.block k hk hn⟩
 rcases hv with e | e
 ·exact h.rlo k (by rw [← e]; exact hk)
 ·rw [e] at hk; injection hk with hk; have := h.env.size; omega
structure RCa (w : World) (g : Nat) (A : Option Addr) (c : Nat) (T : List Lx.Tk) (fin ts tb place : Nat) (s' : Rs.RS) (l : List Ps.Tr) (v : Value) (kcs : List Value) (kt : Ps.Tr) (wr : World) : Prop where
 acc : RAc w g A c T fin w.heap.size ts w.heap.size 6 place s' [] l v wr
 kb : Blk wr tb 26 kcs.toArray
 kt : TrIn wr (fun k => w.heap.size < k ∧ k < tb) kcs kt
 lt : w.heap.size < tb ∧ tb < ts
 rl : ∀ k, v.ownBlock = some k → tb < k
section
variable {w wr w1 : World} {g c fin ts tb place : Nat} {A : Option Addr} {T : List Lx.Tk} {s' : Rs.RS} {l : List Ps.Tr} {v : Value} {kcs : List Value} {kt : Ps.Tr}
theorem RCa.below (h : RCa w g A c T fin ts tb place s' l v kcs kt wr) (hb : Below wr.heap.size wr w1) : RCa w g A c T fin ts tb place s' l v kcs kt w1 :=
 ⟨h.acc.below hb, h.kb.below hb h.kb.lt, h.kt.keep hb.size fun k _ hl => hb.block k hl, h.lt, h.rl⟩
theorem RCa.head {cs : List Value} {t : Ps.Tr} (h : RCa w g A c T fin ts tb place s' l v kcs kt wr) (ht : TrIn wr (fun k => w.heap.size < k ∧ k < tb) cs t) (hgb : g < w.heap.size) :
  ∃ css : List (List Value), css.length = l.length ∧ wr.ownsRow w.heap.size 26 7 v l.length css.flatten ∧ ∀ (o : Obj) (v' : Value) (w6 : World), w6.ownsRow w.heap.size 26 7 v' (l.length + 1) (css.flatten ++ cs) → (wr.alloc o).grownBy w6 v.ownBlock → (v'.ownBlock = v.ownBlock ∨ v'.ownBlock = some (wr.heap.size + 1)) →
   (∀ j, w6.cell? ⟨ts, j, none⟩ = wr.cell? ⟨ts, j, none⟩) ∧ (∀ j, w6.frozen? ⟨ts, j, none⟩ = false) ∧ ts < w6.heap.size ∧ (∀ p : Addr, p.block ≤ tb → w6.cell? p = wr.cell? p) ∧ RCa w g A c T fin ts tb place s' (l ++ [t]) v' kcs kt (w6.setCell ⟨ts, 4, none⟩ v') := by
 have hk := h.kb.lt
 have hl := h.lt
 obtain ⟨css, k1, k2, k3⟩ := h.acc.pushG (TrIn.more ht fun k hk' hlt => ⟨by omega, hlt, by omega, fun e => by have := h.rl k e.symm; omega⟩) hgb
 refine ⟨css, k1, k2, fun o v' w6 ho hg hv => ?_⟩
 obtain ⟨a1, a2, a3, a4, a5, a6, a7⟩ := k3 o v' w6 ho hg hv
 have hn : ∀ k, k ≤ tb → some k ≠ v.ownBlock := fun k hk e => by have := h.rl k e.symm; omega
 refine ⟨a1, a2, a3, fun p hp => a4 p (by omega) (hn _ hp), a5, ?_, ?_, hl, fun k hk' => ?_⟩
 ·exact Blk.far (p := ⟨ts, 4, none⟩) ((a7 tb hk (hn tb (Nat.le_refl _))).trans h.kb) (by dsimp only; omega) _
 ·refine TrIn.keep h.kt (by simpa [World.setCell] using a6) fun k hk' hlt => ?_
  exact (Below.heap_setCell w6 ⟨ts, 4, none⟩ v' k (by dsimp only; omega)).trans (a7 k hlt (hn k (by omega)))
 ·rcases hv with e | e
  ·exact h.rl k (by rw [← e]; exact hk')
  ·rw [e] at hk'; injection hk' with hk'; omega
theorem RCa.tail {wc wb : World} {t7 : Nat} {v7 : Value} {css : List (List Value)} {tl : List Ps.Tr} (h : RCa w g A c T fin ts tb place s' l v kcs kt wr) (hb : Below wr.heap.size wr wc) (h7 : wr.heap.size = t7) (hwc : t7 + 1 ≤ wc.heap.size) (hcl : css.length = tl.length)
  (hcs : ∀ (i : Nat) (cs' : List Value) (t' : Ps.Tr), css[i]? = some cs' → tl[i]? = some t' → TrIn wr (fun k => w.heap.size < k ∧ k < tb) cs' t') (ho : wb.ownsRow w.heap.size 26 7 v7 tl.length css.flatten) (hg : wc.grownBy wb none) (hv : v7.ownBlock = none ∨ v7.ownBlock = some wc.heap.size) :
  TsM wb w.heap.size (fun k => k = ts ∨ k = w.heap.size ∨ some k = v.ownBlock ∨ k = t7) v7 tl := by
 have hk := h.kb.lt
 have hl := h.lt
 obtain ⟨l1, l2, l3, l4, l5⟩ := h.acc.lts
 have hbb : Below wr.heap.size wr wb := ⟨hg.os.trans hb.os, hg.tape.trans hb.tape, hg.output.trans hb.output, Nat.le_trans hb.size hg.size, fun i hi => (hg.block i (Nat.lt_of_lt_of_le hi hb.size) (by simp)).trans (hb.block i hi)⟩
 have hsz := hbb.size
 refine ⟨css, hcl, ho, fun k hk' e => ?_, fun i cs' t' hc ht => ?_⟩
 ·rcases hv with e2 | e2
  ·rw [e2] at hk'; cases hk'
  ·rw [e2] at hk'; injection hk' with hk'
   have hsw := hb.size
   rcases e with e | e | e | e
   ·omega
   ·omega
   ·have := l5 k e.symm; omega
   ·omega
 ·refine ((hcs i cs' t' hc ht).keep hbb.size fun k _ hlt => hbb.block k hlt).more fun k hk' hlt => ⟨by omega, by omega, fun e => ?_, fun e => ?_⟩
  ·rcases e with e | e | e | e
   ·omega
   ·omega
   ·have := h.rl k e.symm; omega
   ·omega
  ·rcases hv with e2 | e2
   ·rw [e2] at e; cases e
   ·rw [e2] at e; injection e with e; have := hb.size; omega
end
end Go.Proofs.YtbnlnndeajjenaaGreat
