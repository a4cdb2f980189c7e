/-
  Parts PxO, PxI of the proof. No statement of the seat is proved here.
-/
import Derived.Test.YtjhonaglmgmpiaaGreatDoorP16
set_option maxHeartbeats 4000000
namespace Go.Proofs.YtjhonaglmgmpiaaGreatDoor
open Go.RowKit
structure BkS (w : World) (g : Nat) (A : Option Addr) (c : Nat) (T : List Lx.Tk) (fin ts t2 place : Nat) (s' : Ps.PS) (a : List Lx.Txt) (vA : Value) (b : List Lx.Txt) (vB : Value) (r : List Ps.Tr) (vR : Value) (wr : World) : Prop where
 env : Env w g A c T fin s' [⟨ts, 27, [.int .i64 2, .string ⟨#[]⟩, vA, vB, vR, .int .i64 0, .int .i64 (place : Int)]⟩, ⟨t2, 27, [.int .i64 0, .string ⟨#[]⟩, .slice none 0 0, .slice none 0 0, .slice none 0 0, .int .i64 0, .int .i64 0]⟩] wr
 ra : SsN wr w.heap.size vA a
 rb : SsN wr w.heap.size vB b
 rr : TsM wr w.heap.size (fun k => k = ts ∨ k = t2) vR r
 bd : Bd T s'
section
variable {w wr w1 : World} {g c fin ts t2 place : Nat} {A : Option Addr} {T : List Lx.Tk} {s' s1 : Ps.PS} {a a' b b' : List Lx.Txt} {vA vB vR v' : Value} {r r' : List Ps.Tr} {R : Ps.Tr × Ps.PS}
theorem BkS.below (h : BkS w g A c T fin ts t2 place s' a vA b vB r vR wr) (hb : Below wr.heap.size wr w1) : BkS w g A c T fin ts t2 place s' a vA b vB r vR w1 := ⟨h.env.below hb, h.ra.below hb, h.rb.below hb, h.rr.below hb, h.bd⟩
theorem BkS.call (h : BkS w g A c T fin ts t2 place s' a vA b vB r vR wr) (hp : PP wr g A c T fin s1 w1) (hb : Bd T s1) : BkS w g A c T fin ts t2 place s1 a vA b vB r vR w1 := ⟨h.env.call hp, h.ra.call hp.1 h.env.gl, h.rb.call hp.1 h.env.gl, h.rr.call hp.1 h.env.gl, hb⟩
theorem BkS.start {L : List Lc} (h : Env w g A c T fin s' L wr) (i : Nat) (hi : L[i]? = some ⟨t2, 27, [.int .i64 0, .string ⟨#[]⟩, .slice none 0 0, .slice none 0 0, .slice none 0 0, .int .i64 0, .int .i64 0]⟩) (hts : wr.heap.size = ts) (hb : Bd T s') (place : Nat) :
  BkS w g A c T fin ts t2 place s' [] (.slice none 0 0) [] (.slice none 0 0) [] (.slice none 0 0) (wr.alloc (.cells #[.int .i64 2, .string ⟨#[]⟩, .slice none 0 0, .slice none 0 0, .slice none 0 0, .int .i64 0, .int .i64 (place : Int)] 27)) := by
 have E1 := (h.boxk ts hts 27 [.int .i64 2, .string ⟨#[]⟩, .slice none 0 0, .slice none 0 0, .slice none 0 0, .int .i64 0, .int .i64 (place : Int)] (by decide)).pick2 0 (i + 1) rfl (by simpa using hi) (by omega)
 exact ⟨E1, SsN.nil _ _, SsN.nil _ _, TsM.nil _ _ _, hb⟩
theorem BkS.names (h : BkS w g A c T fin ts t2 place s' a vA [] (.slice none 0 0) [] (.slice none 0 0) wr) (hc : Chg (fun k => k = g ∨ vA.ownBlock = some k) wr w1) (hp : PA w1 g A c T fin s1) (ho : SsN w1 w.heap.size v' a') (hb : Bd T s1) :
  Env w g A c T fin s1 [⟨ts, 27, [.int .i64 2, .string ⟨#[]⟩, vA, .slice none 0 0, .slice none 0 0, .int .i64 0, .int .i64 (place : Int)]⟩, ⟨t2, 27, [.int .i64 0, .string ⟨#[]⟩, .slice none 0 0, .slice none 0 0, .slice none 0 0, .int .i64 0, .int .i64 0]⟩] w1 ∧ BkS w g A c T fin ts t2 place s1 a' v' [] (.slice none 0 0) [] (.slice none 0 0) (w1.setCell ⟨ts, 2, none⟩ v') := by
 have E := h.env.row (v := vA) hc hp fun k hk => ⟨(World.ownsRow.lt h.ra k hk).1, fun i x hx e => by
  match i with
  | 0 => simp only [List.getElem?_cons_zero, Option.some.injEq] at hx; subst hx; subst e; exact own_blk_ne h.ra (h.env.blk 0 rfl) (by decide) hk
  | 1 => simp only [List.getElem?_cons_succ, List.getElem?_cons_zero, Option.some.injEq] at hx; subst hx; subst e; exact own_blk_ne h.ra (h.env.blk 1 rfl) (by decide) hk
  | i + 2 => simp at hx⟩
 exact ⟨E, E.put 0 rfl 2 v', ho.put (E.blk 0 rfl) (by decide) (chg_set _ _ _ _), SsN.nil _ _, TsM.nil _ _ _, hb⟩
theorem BkS.temps (h : BkS w g A c T fin ts t2 place s' a vA [] (.slice none 0 0) [] (.slice none 0 0) wr) (hp : PP wr g A c T fin s1 w1) (ho : SsN w1 wr.heap.size v' b') (hb : Bd T s1) :
  Env w g A c T fin s1 [⟨ts, 27, [.int .i64 2, .string ⟨#[]⟩, vA, .slice none 0 0, .slice none 0 0, .int .i64 0, .int .i64 (place : Int)]⟩, ⟨t2, 27, [.int .i64 0, .string ⟨#[]⟩, .slice none 0 0, .slice none 0 0, .slice none 0 0, .int .i64 0, .int .i64 0]⟩] w1 ∧ BkS w g A c T fin ts t2 place s1 a vA b' v' [] (.slice none 0 0) (w1.setCell ⟨ts, 3, none⟩ v') := by
 have E := h.env.call hp
 exact ⟨E, E.put 0 rfl 3 v', (h.ra.call hp.1 h.env.gl).put (E.blk 0 rfl) (by decide) (chg_set _ _ _ _), SsN.put (own_low ho h.env.size : SsN w1 w.heap.size v' b') (E.blk 0 rfl) (by decide) (chg_set _ _ _ _), TsM.nil _ _ _, hb⟩
theorem BkS.nodes (h : BkS w g A c T fin ts t2 place s' a vA b vB [] (.slice none 0 0) wr) (hp : PP wr g A c T fin s1 w1) (ho : TsM w1 wr.heap.size (fun _ => False) v' r') (hb : Bd T s1) :
  Env w g A c T fin s1 [⟨ts, 27, [.int .i64 2, .string ⟨#[]⟩, vA, vB, .slice none 0 0, .int .i64 0, .int .i64 (place : Int)]⟩, ⟨t2, 27, [.int .i64 0, .string ⟨#[]⟩, .slice none 0 0, .slice none 0 0, .slice none 0 0, .int .i64 0, .int .i64 0]⟩] w1 ∧ BkS w g A c T fin ts t2 place s1 a vA b vB r' v' (w1.setCell ⟨ts, 4, none⟩ v') := by
 have E := h.env.call hp
 have l0 := (h.env.blk 0 rfl).lt
 have l1 := (h.env.blk 1 rfl).lt
 refine ⟨E, E.put 0 rfl 4 v', (h.ra.call hp.1 h.env.gl).put (E.blk 0 rfl) (by decide) (chg_set _ _ _ _), (h.rb.call hp.1 h.env.gl).put (E.blk 0 rfl) (by decide) (chg_set _ _ _ _), ?_, hb⟩
 exact ((ho.swap (X' := fun k => k = ts ∨ k = t2) fun k h1 _ e => by omega).low h.env.size).store (chg_set _ _ _ _) fun k e => .inl e
theorem BkS.done {A1 A2 A3 : Option Addr} {n1 n2 n3 c1 c2 c3 : Nat} (h : BkS w g A c T fin ts t2 place s' a (.slice A1 n1 c1) b (.slice A2 n2 c2) r (.slice A3 n3 c3) wr) (hR : R = (.mk 2 [] a b r 0 place, s')) :
  Blk (((((((wr.setCell ⟨t2, 0, none⟩ (.int .i64 2)).setCell ⟨t2, 1, none⟩ (.string ⟨#[]⟩)).setCell ⟨t2, 2, none⟩ (.slice A1 n1 c1)).setCell ⟨t2, 3, none⟩ (.slice A2 n2 c2)).setCell ⟨t2, 4, none⟩ (.slice A3 n3 c3)).setCell ⟨t2, 5, none⟩ (.int .i64 0)).setCell ⟨t2, 6, none⟩ (.int .i64 (place : Int))) t2 27 #[.int .i64 2, .string ⟨#[]⟩, .slice A1 n1 c1, .slice A2 n2 c2, .slice A3 n3 c3, .int .i64 0, .int .i64 (place : Int)] ∧
  NdP w g A c T fin w.heap.size R (.returned (.agg #[.int .i64 2, .string ⟨#[]⟩, .slice A1 n1 c1, .slice A2 n2 c2, .slice A3 n3 c3, .int .i64 0, .int .i64 (place : Int)])) (((((((wr.setCell ⟨t2, 0, none⟩ (.int .i64 2)).setCell ⟨t2, 1, none⟩ (.string ⟨#[]⟩)).setCell ⟨t2, 2, none⟩ (.slice A1 n1 c1)).setCell ⟨t2, 3, none⟩ (.slice A2 n2 c2)).setCell ⟨t2, 4, none⟩ (.slice A3 n3 c3)).setCell ⟨t2, 5, none⟩ (.int .i64 0)).setCell ⟨t2, 6, none⟩ (.int .i64 (place : Int))) := by
 subst hR
 have E4 := h.env.put7 1 rfl (.int .i64 2) (.string ⟨#[]⟩) (.slice A1 n1 c1) (.slice A2 n2 c2) (.slice A3 n3 c3) (.int .i64 0) (.int .i64 (place : Int))
 obtain ⟨_, _, e1, _, _⟩ := SsN.form h.ra
 obtain ⟨_, _, e2, _, _⟩ := SsN.form h.rb
 obtain ⟨_, _, e3, _, _⟩ := h.rr.form
 injection e1 with _ e1 _
 injection e2 with _ e2 _
 injection e3 with _ e3 _
 subst e1 e2 e3
 have ne : ∀ (vX : Value) (x : List Lx.Txt), SsN wr w.heap.size vX x → ∀ k, vX.ownBlock = some k → ¬ (k = ts ∨ k = t2) := fun vX x hx k hk e => by
  rcases e with rfl | rfl
  ·exact own_blk_ne hx (h.env.blk 0 rfl) (by decide) hk
  ·exact own_blk_ne hx (h.env.blk 1 rfl) (by decide) hk
 refine ⟨E4.blk 1 rfl, _, rfl, E4.pp, h.bd, ?_⟩
 exact TrM.swap ((TrM.node 2 [] 0 place h.ra (ne _ _ h.ra) h.rb (ne _ _ h.rb) h.rr).store (chg_set7 _ _ _ _ _ _ _ _ _) fun _ e => .inr e) (fun k _ _ e => e.elim)
end
theorem argL_stop {T : List Lx.Tk} {fin f : Nat} {l : List Lx.Txt} {s : Ps.PS} (h : (Ps.ok s && Ps.is_ T fin s [58]) = false) : Ps.argL T fin f l s = (l, s) := by
 cases f with
 | zero => unfold Ps.argL; rfl
 | succ f => unfold Ps.argL; rw [if_neg (by rw [h]; decide)]
set_option maxRecDepth 100000 in
set_option maxHeartbeats 8000000 in
theorem pblk_any {g c fin F : Nat} {A : Option Addr} {T : List Lx.Tk} (hT : Ps.Fits 65536 T) (ih : ∀ f, f < F → WAll g A c T fin f) (s : Ps.PS) (w : World) (h : PA w g A c T fin s) (hb : Bd T s) (hk : Ps.ok s = true) (hlt : s.at_ < T.length) (hf : Ps.rem T s + 2 ≤ F) :
  Calls Tryz.prog 163 #[.pointer (some ⟨g, 0, none⟩)] w (NdP w g A c T fin w.heap.size (Ps.blk T fin F s)) := by
 have hTl := hT.len
 have E0 := (Env.start h).box 27 [.int .i64 0, .string ⟨#[]⟩, .slice none 0 0, .slice none 0 0, .slice none 0 0, .int .i64 0, .int .i64 0] (by decide)
 obtain ⟨f0, rfl⟩ : ∃ f0, F = f0 + 1 := ⟨F - 1, by omega⟩
 obtain ⟨t, ht⟩ : ∃ t, Ps.nx T fin s = t := ⟨_, rfl⟩
 obtain ⟨s1, hs1⟩ : ∃ s1, Ps.opn T fin s = s1 := ⟨_, rfl⟩
 obtain ⟨RA, hRA⟩ : ∃ x, Ps.argL T fin (T.length + 2) [] s1 = x := ⟨_, rfl⟩
 obtain ⟨R, hR⟩ : ∃ R, Ps.blk T fin (f0 + 1) s = R := ⟨_, rfl⟩
 have HE : Hid (∀ (a : List Lx.Txt) (s2 sv_ : Ps.PS) (b : List Lx.Txt), RA = (a, s2) → (let q := if Ps.ok s2 && !a.isEmpty then (if Ps.is_ T fin s2 [124] then Ps.adv s2 else if Ps.is_ T fin s2 [93] then s2 else Ps.odd T fin s2) else s2; (if Ps.ok q then Ps.temps T fin q else ([], q)) = (b, sv_)) → R = (.mk 2 [] a b (Ps.stL T fin f0 [93] [] sv_).1 0 t.2.2, Ps.shut T fin [93] (Ps.stL T fin f0 [93] [] sv_).2)) := Hd (by
  intro a s2 sv_ b h1 h2
  dsimp only at h2
  rw [← hR, Ps.blk]
  rw [hs1, hRA, h1]
  try dsimp only
  rw [h2, ht])
 rw [hR]
 have HO := Hd (popen_any E0.pa (by omega) (hb.deep hTl hk))
 have hb1 := Bd.opn (fin := fin) hb hk hlt
 have hra := Ps.rem_adv (T := T) (s := s) (s' := s1) (by rw [← hs1, Ps.opn_at]; omega) hlt
 rw [ht, hs1] at HO
 rw [hs1] at hb1
 have IH := Hd ih
 have HRA := Hd hRA
 have HB1 := Hd hb1
 have hgb : g < w.heap.size := h.lt
 have HE0 := Hd E0
 have hr1 : Ps.rem T s1 + 12 ≤ f0 + 1 := by omega
 clear h hb hk hlt ht hs1 hRA hR ih hb1 E0 hra hf
 go_enter Tryz.func163, Tryz.ntmps163
 have hf2 := fld2 (.int .i64 (t.1 : Int)) (.string ⟨t.2.1.toArray⟩) (.int .i64 (t.2.2 : Int))
 go_upto_block 0 with (go_at_call 160; refine HO.out.mono ?_; rintro e w1 ⟨rfl, hp⟩; have HE1 := Hd (HE0.out.call hp); clear hp)
 refine wp_world (fun W => BkS w g A c T fin w1.heap.size w.heap.size t.2.2 s1 [] (.slice none 0 0) [] (.slice none 0 0) [] (.slice none 0 0) W) (BkS.start HE1.out 0 rfl rfl HB1.out t.2.2) fun w2 ha2 => ?_
 have HA2 := Hd ha2
 obtain ⟨ts, hts⟩ : ∃ ts, w1.heap.size = ts := ⟨_, rfl⟩
 rw [hts] at HA2 ⊢
 clear ha2 HE0 HE1 HO hf2 HB1 hts
 go_wp2
 go_loopg [] (T.length + 2) (fun f wr => ∃ (s' : Ps.PS) (l : List Lx.Txt) (v : Value), BkS w g A c T fin ts w.heap.size t.2.2 s' l v [] (.slice none 0 0) [] (.slice none 0 0) wr ∧ (Ps.ok s' = true → T.length < s'.at_ + f) ∧ l.length + f ≤ T.length + 2 ∧ Ps.rem T s' + 12 ≤ f0 + 1 ∧ Ps.argL T fin f l s' = RA)
 case atStart => exact ⟨s1, [], _, HA2.out, fun _ => by omega, by simp, hr1, HRA.out⟩
 case round =>
  obtain ⟨s', l, v', hA, hok, hlf, hr1, hR⟩ := hrel
  have HA := Hd hA
  have HR2 := Hd hR
  have HOK := Hd hok
  have hg := hA.env.pa.lt
  obtain ⟨Av, cv, rfl, -, -⟩ := SsN.form hA.ra
  clear hA hR hok HA2 HRA
  obtain ⟨a, a0, a1, a2, a3, a4, a5, a6⟩ := HA.out.env.c7 0 rfl
  have hat := HA.out.bd.at_
  have HI58 := Hd fun (W : World) (h : PA W g A c T fin s') => pis_any h [58]
  cases hk : Ps.ok s' with
  | false =>
   have HV : R = (.mk 2 [] l [] (Ps.stL T fin f0 [93] [] s').1 0 t.2.2, Ps.shut T fin [93] (Ps.stL T fin f0 [93] [] s').2) := HE.out l s' s' [] (by rw [← HR2.out]; exact argL_stop (by rw [hk]; rfl)) (by rw [hk]; simp [hk])
   obtain ⟨kq, k4⟩ := HA.out.env.pa.noc hk
   clear hk
   obtain ⟨pr, hpr⟩ : ∃ x, Ps.stL T fin f0 [93] [] (s') = x := ⟨_, rfl⟩
   have HE2 : Hid (R = (.mk 2 [] l [] pr.1 0 t.2.2, Ps.shut T fin [93] pr.2)) := Hd (by rw [HV, ← hpr])
   have HSL := Hd fun (W : World) (h : PA W g A c T fin (s')) (hb : Bd T (s')) => (IH.out f0 (by omega)).stL [93] (s') W h hb (by omega)
   rw [hpr] at HSL
   clear hpr HV
   go_upto_region 13 with (first
    | (go_at_call 36; refine (HSL.out _ HA.out.env.pa HA.out.bd).mono ?_; rintro e ws ⟨vs, rfl, hp, hbs, hts⟩; obtain ⟨Cv, dv, rfl, -, -⟩ := hts.form; obtain ⟨hE, hB⟩ := HA.out.nodes hp hts hbs; have HBW := Hd hB; obtain ⟨a, a0, a1, a2, a3, a4, a5, a6⟩ := hE.c7 0 rfl; have fz := hE.fz 0 rfl; clear hp hts hB hE))
   refine wp_world (fun W => BkS w g A c T fin ts w.heap.size t.2.2 pr.2 l _ [] _ pr.1 _ W) HBW.out fun w8 h8 => ?_
   have HB8 := Hd h8
   clear h8 HBW HA HI58 k4 HSL
   have hg8 := HB8.out.env.pa.lt
   obtain ⟨a, a0, a1, a2, a3, a4, a5, a6⟩ := HB8.out.env.c7 0 rfl
   obtain ⟨b, b0, b1, b2, b3, b4, b5, b6⟩ := HB8.out.env.c7 1 rfl
   have fz := HB8.out.env.fz 1 rfl
   cases hkr : Ps.ok pr.2 with
   | false =>
    have HE3 : Hid (R = (.mk 2 [] l [] pr.1 0 t.2.2, pr.2)) := Hd (by rw [HE2.out, shut_no hkr])
    obtain ⟨kq, k4⟩ := HB8.out.env.pa.noc hkr
    clear hkr
    go_wp2
    obtain ⟨hb4, hnd⟩ := HB8.out.done (R := R) HE3.out
    exact bodyPost_ret (ret26 rfl _ _ rfl hb4) rfl hnd
   | true =>
    have HE3 : Hid (R = (.mk 2 [] l [] pr.1 0 t.2.2, Ps.cls_ T fin [93] pr.2)) := Hd (by rw [HE2.out, shut_ok hkr])
    have k4 := HB8.out.env.pa.okc hkr
    have HCL := Hd fun (W : World) (h : PA W g A c T fin pr.2) => pclose_any h (HB8.out.bd.lt hTl) (HB8.out.bd.deep hTl hkr) [93]
    have HBC := Hd (HB8.out.bd.cls (fin := fin) hkr [93])
    clear hkr
    go_wp2_with (go_at_call 161; refine (HCL.out _ HB8.out.env.pa).mono ?_; rintro e w9 ⟨rfl, hp⟩; have HB9 := Hd (HB8.out.call hp HBC.out); obtain ⟨a, a0, a1, a2, a3, a4, a5, a6⟩ := HB9.out.env.c7 0 rfl; obtain ⟨b, b0, b1, b2, b3, b4, b5, b6⟩ := HB9.out.env.c7 1 rfl; have fz := HB9.out.env.fz 1 rfl; clear hp)
    obtain ⟨hb4, hnd⟩ := HB9.out.done (R := R) HE3.out
    exact bodyPost_ret (ret26 rfl _ _ rfl hb4) rfl hnd
  | true =>
   have k4 := HA.out.env.pa.okc hk
   cases hi : Ps.is_ T fin s' [58] with
   | true =>
    have hlt := Ps.mark_lt (fin := fin) hi
    have hgk := HOK.out hk
    obtain ⟨f, rfl⟩ : ∃ f, gk = f + 1 := ⟨gk - 1, by omega⟩
    have HD := Hd (decl_at' (T := T) (fin := fin) (l := l) (s := Ps.adv s') hlt)
    have HR3 : Hid (Ps.argL T fin f (Ps.decl T fin l (Ps.adv s')).1 (Ps.decl T fin l (Ps.adv s')).2 = RA) := Hd (by rw [← HR2.out]; show _ = Ps.argL T fin (f + 1) l s'; rw [Ps.argL, if_pos (by rw [hk, hi]; rfl)])
    have HL : Hid ((Ps.decl T fin l (Ps.adv s')).1.length = l.length + 1) := Hd (by simp [Ps.decl])
    have HBD := Hd fun (h : Bd T (Ps.adv s')) => h.decl (fin := fin) l
    have HBA := Hd (HA.out.bd.adv hlt)
    have hadv : (Ps.adv s').at_ = s'.at_ + 1 := rfl
    rw [hi] at HI58
    clear hi hk
    go_wp2_with (first
     | (go_at_call 75; refine (HI58.out _ HA.out.env.pa).mono ?_; rintro e hb4 ⟨rfl, hb⟩; have HB4 := Hd (HA.out.below hb); obtain ⟨a, a0, a1, a2, a3, a4, a5, a6⟩ := HB4.out.env.c7 0 rfl; clear hb)
     | (go_at_call 29; refine (ptake_any HB4.out.env.pa (by omega)).mono ?_; rintro e hb5 ⟨rfl, hp⟩; have HB5 := Hd (HB4.out.call hp HBA.out); obtain ⟨a, a0, a1, a2, a3, a4, a5, a6⟩ := HB5.out.env.c7 0 rfl; clear hp)
     | (go_at_call 31; refine (pdecl_any HB5.out.env.pa (by omega) HB5.out.ra HB5.out.env.gl HB5.out.env.size (by omega)).mono ?_; rintro e w6 ⟨v6, rfl, hc6, hp6, ho6, -⟩; obtain ⟨A6, c6, rfl, -, -⟩ := SsN.form ho6; obtain ⟨hE6, hB6⟩ := HB5.out.names hc6 hp6 ho6 (HBD.out HBA.out); have HB6 := Hd hB6; obtain ⟨a, a0, a1, a2, a3, a4, a5, a6⟩ := hE6.c7 0 rfl; have fz := hE6.fz 0 rfl; clear hc6 hp6 ho6 hE6 hB6))
    go_roundg f
    case measure => omega
    case rel => exact ⟨_, _, _, HB6.out, fun hk => by have := HD.out.2.2 hk; omega, by rw [HL.out]; omega, by have := Ps.rem_le (T := T) (s := s') (s' := (Ps.decl T fin l (Ps.adv s')).2) (by have := HD.out.2.1; omega); omega, HR3.out⟩
   | false =>
    have HRA2 : Hid (RA = (l, s')) := Hd (by rw [← HR2.out]; exact argL_stop (by rw [hk, hi]; rfl))
    rw [hi] at HI58
    cases l with
    | nil =>
     have HV : R = (.mk 2 [] [] (Ps.temps T fin s').1 (Ps.stL T fin f0 [93] [] (Ps.temps T fin s').2).1 0 t.2.2, Ps.shut T fin [93] (Ps.stL T fin f0 [93] [] (Ps.temps T fin s').2).2) := HE.out [] s' (Ps.temps T fin s').2 (Ps.temps T fin s').1 HRA2.out (by simp [hk])
     have HKO := Hd hk
     clear hi hk
     obtain ⟨pv, hpv⟩ : ∃ x, Ps.temps T fin (s') = x := ⟨_, rfl⟩
     obtain ⟨pr, hpr⟩ : ∃ x, Ps.stL T fin f0 [93] [] pv.2 = x := ⟨_, rfl⟩
     have HE2 : Hid (R = (.mk 2 [] [] pv.1 pr.1 0 t.2.2, Ps.shut T fin [93] pr.2)) := Hd (by rw [HV, ← hpr, ← hpv])
     have HTM := Hd fun (W : World) (h : PA W g A c T fin (s')) => ptemps_any h hTl
     have HBT := Hd fun (h : Bd T (s')) => h.temps (fin := fin)
     have hrt := Ps.rem_le (T := T) (Ps.le_temps T fin (s')).at_
     rw [hpv] at HTM HBT hrt
     have HSL := Hd fun (W : World) (h : PA W g A c T fin pv.2) (hb : Bd T pv.2) => (IH.out f0 (by omega)).stL [93] pv.2 W h hb (by omega)
     rw [hpr] at HSL
     clear hpr HV hpv
     go_upto_region 13 with (first
      | (go_at_call 75; refine (HI58.out _ HA.out.env.pa).mono ?_; rintro e hb4 ⟨rfl, hb⟩; have HB4 := Hd (HA.out.below hb); obtain ⟨a, a0, a1, a2, a3, a4, a5, a6⟩ := HB4.out.env.c7 0 rfl; have k4 := HB4.out.env.pa.okc HKO.out; clear hb)
      | (go_at_call 35; refine (HTM.out _ HB4.out.env.pa).mono ?_; rintro e wt ⟨vt, rfl, hp, ho⟩; obtain ⟨Bv, bv, rfl, -, -⟩ := SsN.form ho; obtain ⟨hE, hB⟩ := HB4.out.temps hp ho (HBT.out HB4.out.bd); have HBV := Hd hB; obtain ⟨a, a0, a1, a2, a3, a4, a5, a6⟩ := hE.c7 0 rfl; have fz := hE.fz 0 rfl; clear hp ho hB hE)
      | (go_at_call 36; refine (HSL.out _ HBV.out.env.pa HBV.out.bd).mono ?_; rintro e ws ⟨vs, rfl, hp, hbs, hts⟩; obtain ⟨Cv, dv, rfl, -, -⟩ := hts.form; obtain ⟨hE, hB⟩ := HBV.out.nodes hp hts hbs; have HBW := Hd hB; obtain ⟨a, a0, a1, a2, a3, a4, a5, a6⟩ := hE.c7 0 rfl; have fz := hE.fz 0 rfl; clear hp hts hB hE))
     refine wp_world (fun W => BkS w g A c T fin ts w.heap.size t.2.2 pr.2 [] _ pv.1 _ pr.1 _ W) HBW.out fun w8 h8 => ?_
     have HB8 := Hd h8
     clear h8 HBW HA HI58 HB4 k4 HBV HTM HBT HSL
     have hg8 := HB8.out.env.pa.lt
     obtain ⟨a, a0, a1, a2, a3, a4, a5, a6⟩ := HB8.out.env.c7 0 rfl
     obtain ⟨b, b0, b1, b2, b3, b4, b5, b6⟩ := HB8.out.env.c7 1 rfl
     have fz := HB8.out.env.fz 1 rfl
     cases hkr : Ps.ok pr.2 with
     | false =>
      have HE3 : Hid (R = (.mk 2 [] [] pv.1 pr.1 0 t.2.2, pr.2)) := Hd (by rw [HE2.out, shut_no hkr])
      obtain ⟨kq, k4⟩ := HB8.out.env.pa.noc hkr
      clear hkr
      go_wp2
      obtain ⟨hb4, hnd⟩ := HB8.out.done (R := R) HE3.out
      exact bodyPost_ret (ret26 rfl _ _ rfl hb4) rfl hnd
     | true =>
      have HE3 : Hid (R = (.mk 2 [] [] pv.1 pr.1 0 t.2.2, Ps.cls_ T fin [93] pr.2)) := Hd (by rw [HE2.out, shut_ok hkr])
      have k4 := HB8.out.env.pa.okc hkr
      have HCL := Hd fun (W : World) (h : PA W g A c T fin pr.2) => pclose_any h (HB8.out.bd.lt hTl) (HB8.out.bd.deep hTl hkr) [93]
      have HBC := Hd (HB8.out.bd.cls (fin := fin) hkr [93])
      clear hkr
      go_wp2_with (go_at_call 161; refine (HCL.out _ HB8.out.env.pa).mono ?_; rintro e w9 ⟨rfl, hp⟩; have HB9 := Hd (HB8.out.call hp HBC.out); obtain ⟨a, a0, a1, a2, a3, a4, a5, a6⟩ := HB9.out.env.c7 0 rfl; obtain ⟨b, b0, b1, b2, b3, b4, b5, b6⟩ := HB9.out.env.c7 1 rfl; have fz := HB9.out.env.fz 1 rfl; clear hp)
      obtain ⟨hb4, hnd⟩ := HB9.out.done (R := R) HE3.out
      exact bodyPost_ret (ret26 rfl _ _ rfl hb4) rfl hnd
    | cons x l =>
     obtain ⟨lc, hlc⟩ : ∃ z, x :: l = z := ⟨_, rfl⟩
     have hl0 : (0 : Int) < (lc.length : Int) := by rw [← hlc]; simp
     have hemp : lc.isEmpty = false := by rw [← hlc]; rfl
     rw [hlc] at HA HRA2 a2
     clear hlc HR2 hlf
     have HI124 := Hd fun (W : World) (h : PA W g A c T fin s') => pis_any h [124]
     have HI93 := Hd fun (W : World) (h : PA W g A c T fin s') => pis_any h [93]
     cases hi2 : Ps.is_ T fin s' [124] with
     | true =>
      have hlt := Ps.mark_lt (fin := fin) hi2
      have hka : Ps.ok (Ps.adv s') = true := hk
      have hrb := Ps.rem_le (T := T) (s := s') (s' := Ps.adv s') (Nat.le_succ _)
      have HV : R = (.mk 2 [] lc (Ps.temps T fin (Ps.adv s')).1 (Ps.stL T fin f0 [93] [] (Ps.temps T fin (Ps.adv s')).2).1 0 t.2.2, Ps.shut T fin [93] (Ps.stL T fin f0 [93] [] (Ps.temps T fin (Ps.adv s')).2).2) := HE.out lc s' (Ps.temps T fin (Ps.adv s')).2 (Ps.temps T fin (Ps.adv s')).1 HRA2.out (by simp [hk, hemp, hi2, hka])
      have HKA := Hd hka
      have HKO := Hd hk
      have HBA := Hd (HA.out.bd.adv hlt)
      rw [hi2] at HI124
      clear hi hk hka hi2 hemp
      obtain ⟨pv, hpv⟩ : ∃ x, Ps.temps T fin (Ps.adv s') = x := ⟨_, rfl⟩
      obtain ⟨pr, hpr⟩ : ∃ x, Ps.stL T fin f0 [93] [] pv.2 = x := ⟨_, rfl⟩
      have HE2 : Hid (R = (.mk 2 [] lc pv.1 pr.1 0 t.2.2, Ps.shut T fin [93] pr.2)) := Hd (by rw [HV, ← hpr, ← hpv])
      have HTM := Hd fun (W : World) (h : PA W g A c T fin (Ps.adv s')) => ptemps_any h hTl
      have HBT := Hd fun (h : Bd T (Ps.adv s')) => h.temps (fin := fin)
      have hrt := Ps.rem_le (T := T) (Ps.le_temps T fin (Ps.adv s')).at_
      rw [hpv] at HTM HBT hrt
      have HSL := Hd fun (W : World) (h : PA W g A c T fin pv.2) (hb : Bd T pv.2) => (IH.out f0 (by omega)).stL [93] pv.2 W h hb (by omega)
      rw [hpr] at HSL
      clear hpr HV hpv
      go_upto_region 13 with (first
       | (go_at_call 75; refine (HI58.out _ HA.out.env.pa).mono ?_; rintro e hb4 ⟨rfl, hb⟩; have HB4 := Hd (HA.out.below hb); obtain ⟨a, a0, a1, a2, a3, a4, a5, a6⟩ := HB4.out.env.c7 0 rfl; have k4 := HB4.out.env.pa.okc HKO.out; clear hb)
       | (go_at_call 75; refine (HI124.out _ HB4.out.env.pa).mono ?_; rintro e hb5 ⟨rfl, hb⟩; have HB5 := Hd (HB4.out.below hb); obtain ⟨a, a0, a1, a2, a3, a4, a5, a6⟩ := HB5.out.env.c7 0 rfl; clear hb)
       | (go_at_call 29; refine (ptake_any HB5.out.env.pa (by omega)).mono ?_; rintro e hb6 ⟨rfl, hp⟩; have HB6 := Hd (HB5.out.call hp HBA.out); obtain ⟨a, a0, a1, a2, a3, a4, a5, a6⟩ := HB6.out.env.c7 0 rfl; have k4 := HB6.out.env.pa.okc HKA.out; clear hp)
       | (go_at_call 35; refine (HTM.out _ HB6.out.env.pa).mono ?_; rintro e wt ⟨vt, rfl, hp, ho⟩; obtain ⟨Bv, bv, rfl, -, -⟩ := SsN.form ho; obtain ⟨hE, hB⟩ := HB6.out.temps hp ho (HBT.out HB6.out.bd); have HBV := Hd hB; obtain ⟨a, a0, a1, a2, a3, a4, a5, a6⟩ := hE.c7 0 rfl; have fz := hE.fz 0 rfl; clear hp ho hB hE)
       | (go_at_call 36; refine (HSL.out _ HBV.out.env.pa HBV.out.bd).mono ?_; rintro e ws ⟨vs, rfl, hp, hbs, hts⟩; obtain ⟨Cv, dv, rfl, -, -⟩ := hts.form; obtain ⟨hE, hB⟩ := HBV.out.nodes hp hts hbs; have HBW := Hd hB; obtain ⟨a, a0, a1, a2, a3, a4, a5, a6⟩ := hE.c7 0 rfl; have fz := hE.fz 0 rfl; clear hp hts hB hE))
      refine wp_world (fun W => BkS w g A c T fin ts w.heap.size t.2.2 pr.2 lc _ pv.1 _ pr.1 _ W) HBW.out fun w8 h8 => ?_
      have HB8 := Hd h8
      clear h8 HBW HA HI58 HB4 HB5 HB6 k4 HBV HTM HBT HSL
      have hg8 := HB8.out.env.pa.lt
      obtain ⟨a, a0, a1, a2, a3, a4, a5, a6⟩ := HB8.out.env.c7 0 rfl
      obtain ⟨b, b0, b1, b2, b3, b4, b5, b6⟩ := HB8.out.env.c7 1 rfl
      have fz := HB8.out.env.fz 1 rfl
      cases hkr : Ps.ok pr.2 with
      | false =>
       have HE3 : Hid (R = (.mk 2 [] lc pv.1 pr.1 0 t.2.2, pr.2)) := Hd (by rw [HE2.out, shut_no hkr])
       obtain ⟨kq, k4⟩ := HB8.out.env.pa.noc hkr
       clear hkr
       go_wp2
       obtain ⟨hb4, hnd⟩ := HB8.out.done (R := R) HE3.out
       exact bodyPost_ret (ret26 rfl _ _ rfl hb4) rfl hnd
      | true =>
       have HE3 : Hid (R = (.mk 2 [] lc pv.1 pr.1 0 t.2.2, Ps.cls_ T fin [93] pr.2)) := Hd (by rw [HE2.out, shut_ok hkr])
       have k4 := HB8.out.env.pa.okc hkr
       have HCL := Hd fun (W : World) (h : PA W g A c T fin pr.2) => pclose_any h (HB8.out.bd.lt hTl) (HB8.out.bd.deep hTl hkr) [93]
       have HBC := Hd (HB8.out.bd.cls (fin := fin) hkr [93])
       clear hkr
       go_wp2_with (go_at_call 161; refine (HCL.out _ HB8.out.env.pa).mono ?_; rintro e w9 ⟨rfl, hp⟩; have HB9 := Hd (HB8.out.call hp HBC.out); obtain ⟨a, a0, a1, a2, a3, a4, a5, a6⟩ := HB9.out.env.c7 0 rfl; obtain ⟨b, b0, b1, b2, b3, b4, b5, b6⟩ := HB9.out.env.c7 1 rfl; have fz := HB9.out.env.fz 1 rfl; clear hp)
       obtain ⟨hb4, hnd⟩ := HB9.out.done (R := R) HE3.out
       exact bodyPost_ret (ret26 rfl _ _ rfl hb4) rfl hnd
     | false =>
      rw [hi2] at HI124
      cases hi3 : Ps.is_ T fin s' [93] with
      | true =>
       have HV : R = (.mk 2 [] lc (Ps.temps T fin s').1 (Ps.stL T fin f0 [93] [] (Ps.temps T fin s').2).1 0 t.2.2, Ps.shut T fin [93] (Ps.stL T fin f0 [93] [] (Ps.temps T fin s').2).2) := HE.out lc s' (Ps.temps T fin s').2 (Ps.temps T fin s').1 HRA2.out (by simp [hk, hemp, hi2, hi3])
       have HKO := Hd hk
       rw [hi3] at HI93
       clear hi hk hi2 hi3 hemp
       obtain ⟨pv, hpv⟩ : ∃ x, Ps.temps T fin (s') = x := ⟨_, rfl⟩
       obtain ⟨pr, hpr⟩ : ∃ x, Ps.stL T fin f0 [93] [] pv.2 = x := ⟨_, rfl⟩
       have HE2 : Hid (R = (.mk 2 [] lc pv.1 pr.1 0 t.2.2, Ps.shut T fin [93] pr.2)) := Hd (by rw [HV, ← hpr, ← hpv])
       have HTM := Hd fun (W : World) (h : PA W g A c T fin (s')) => ptemps_any h hTl
       have HBT := Hd fun (h : Bd T (s')) => h.temps (fin := fin)
       have hrt := Ps.rem_le (T := T) (Ps.le_temps T fin (s')).at_
       rw [hpv] at HTM HBT hrt
       have HSL := Hd fun (W : World) (h : PA W g A c T fin pv.2) (hb : Bd T pv.2) => (IH.out f0 (by omega)).stL [93] pv.2 W h hb (by omega)
       rw [hpr] at HSL
       clear hpr HV hpv
       go_upto_region 13 with (first
        | (go_at_call 75; refine (HI58.out _ HA.out.env.pa).mono ?_; rintro e hb4 ⟨rfl, hb⟩; have HB4 := Hd (HA.out.below hb); obtain ⟨a, a0, a1, a2, a3, a4, a5, a6⟩ := HB4.out.env.c7 0 rfl; have k4 := HB4.out.env.pa.okc HKO.out; clear hb)
        | (go_at_call 75; refine (HI124.out _ HB4.out.env.pa).mono ?_; rintro e hb5 ⟨rfl, hb⟩; have HB5 := Hd (HB4.out.below hb); obtain ⟨a, a0, a1, a2, a3, a4, a5, a6⟩ := HB5.out.env.c7 0 rfl; clear hb)
        | (go_at_call 75; refine (HI93.out _ HB5.out.env.pa).mono ?_; rintro e hb6 ⟨rfl, hb⟩; have HB6 := Hd (HB5.out.below hb); obtain ⟨a, a0, a1, a2, a3, a4, a5, a6⟩ := HB6.out.env.c7 0 rfl; have k4 := HB6.out.env.pa.okc HKO.out; clear hb)
        | (go_at_call 35; refine (HTM.out _ HB6.out.env.pa).mono ?_; rintro e wt ⟨vt, rfl, hp, ho⟩; obtain ⟨Bv, bv, rfl, -, -⟩ := SsN.form ho; obtain ⟨hE, hB⟩ := HB6.out.temps hp ho (HBT.out HB6.out.bd); have HBV := Hd hB; obtain ⟨a, a0, a1, a2, a3, a4, a5, a6⟩ := hE.c7 0 rfl; have fz := hE.fz 0 rfl; clear hp ho hB hE)
        | (go_at_call 36; refine (HSL.out _ HBV.out.env.pa HBV.out.bd).mono ?_; rintro e ws ⟨vs, rfl, hp, hbs, hts⟩; obtain ⟨Cv, dv, rfl, -, -⟩ := hts.form; obtain ⟨hE, hB⟩ := HBV.out.nodes hp hts hbs; have HBW := Hd hB; obtain ⟨a, a0, a1, a2, a3, a4, a5, a6⟩ := hE.c7 0 rfl; have fz := hE.fz 0 rfl; clear hp hts hB hE))
       refine wp_world (fun W => BkS w g A c T fin ts w.heap.size t.2.2 pr.2 lc _ pv.1 _ pr.1 _ W) HBW.out fun w8 h8 => ?_
       have HB8 := Hd h8
       clear h8 HBW HA HI58 HB4 HB5 HB6 k4 HBV HTM HBT HSL
       have hg8 := HB8.out.env.pa.lt
       obtain ⟨a, a0, a1, a2, a3, a4, a5, a6⟩ := HB8.out.env.c7 0 rfl
       obtain ⟨b, b0, b1, b2, b3, b4, b5, b6⟩ := HB8.out.env.c7 1 rfl
       have fz := HB8.out.env.fz 1 rfl
       cases hkr : Ps.ok pr.2 with
       | false =>
        have HE3 : Hid (R = (.mk 2 [] lc pv.1 pr.1 0 t.2.2, pr.2)) := Hd (by rw [HE2.out, shut_no hkr])
        obtain ⟨kq, k4⟩ := HB8.out.env.pa.noc hkr
        clear hkr
        go_wp2
        obtain ⟨hb4, hnd⟩ := HB8.out.done (R := R) HE3.out
        exact bodyPost_ret (ret26 rfl _ _ rfl hb4) rfl hnd
       | true =>
        have HE3 : Hid (R = (.mk 2 [] lc pv.1 pr.1 0 t.2.2, Ps.cls_ T fin [93] pr.2)) := Hd (by rw [HE2.out, shut_ok hkr])
        have k4 := HB8.out.env.pa.okc hkr
        have HCL := Hd fun (W : World) (h : PA W g A c T fin pr.2) => pclose_any h (HB8.out.bd.lt hTl) (HB8.out.bd.deep hTl hkr) [93]
        have HBC := Hd (HB8.out.bd.cls (fin := fin) hkr [93])
        clear hkr
        go_wp2_with (go_at_call 161; refine (HCL.out _ HB8.out.env.pa).mono ?_; rintro e w9 ⟨rfl, hp⟩; have HB9 := Hd (HB8.out.call hp HBC.out); obtain ⟨a, a0, a1, a2, a3, a4, a5, a6⟩ := HB9.out.env.c7 0 rfl; obtain ⟨b, b0, b1, b2, b3, b4, b5, b6⟩ := HB9.out.env.c7 1 rfl; have fz := HB9.out.env.fz 1 rfl; clear hp)
        obtain ⟨hb4, hnd⟩ := HB9.out.done (R := R) HE3.out
        exact bodyPost_ret (ret26 rfl _ _ rfl hb4) rfl hnd
      | false =>
       have hko : Ps.ok (Ps.odd T fin s') = false := Ps.rf_no _ _ _
       have hrb : Ps.rem T (Ps.odd T fin s') = Ps.rem T s' := rfl
       have HV : R = (.mk 2 [] lc [] (Ps.stL T fin f0 [93] [] (Ps.odd T fin s')).1 0 t.2.2, Ps.shut T fin [93] (Ps.stL T fin f0 [93] [] (Ps.odd T fin s')).2) := HE.out lc s' (Ps.odd T fin s') [] HRA2.out (by simp [hk, hemp, hi2, hi3, hko])
       have HKO := Hd hk
       have HKO2 := Hd hko
       rw [hi3] at HI93
       clear hi hk hi2 hi3 hemp hko
       obtain ⟨pr, hpr⟩ : ∃ x, Ps.stL T fin f0 [93] [] ((Ps.odd T fin s')) = x := ⟨_, rfl⟩
       have HE2 : Hid (R = (.mk 2 [] lc [] pr.1 0 t.2.2, Ps.shut T fin [93] pr.2)) := Hd (by rw [HV, ← hpr])
       have HSL := Hd fun (W : World) (h : PA W g A c T fin ((Ps.odd T fin s'))) (hb : Bd T ((Ps.odd T fin s'))) => (IH.out f0 (by omega)).stL [93] ((Ps.odd T fin s')) W h hb (by omega)
       rw [hpr] at HSL
       clear hpr HV
       go_upto_region 13 with (first
        | (go_at_call 75; refine (HI58.out _ HA.out.env.pa).mono ?_; rintro e hb4 ⟨rfl, hb⟩; have HB4 := Hd (HA.out.below hb); obtain ⟨a, a0, a1, a2, a3, a4, a5, a6⟩ := HB4.out.env.c7 0 rfl; have k4 := HB4.out.env.pa.okc HKO.out; clear hb)
        | (go_at_call 75; refine (HI124.out _ HB4.out.env.pa).mono ?_; rintro e hb5 ⟨rfl, hb⟩; have HB5 := Hd (HB4.out.below hb); obtain ⟨a, a0, a1, a2, a3, a4, a5, a6⟩ := HB5.out.env.c7 0 rfl; clear hb)
        | (go_at_call 75; refine (HI93.out _ HB5.out.env.pa).mono ?_; rintro e hb6 ⟨rfl, hb⟩; have HB6 := Hd (HB5.out.below hb); obtain ⟨a, a0, a1, a2, a3, a4, a5, a6⟩ := HB6.out.env.c7 0 rfl; clear hb)
        | (go_at_call 32; refine (podd_any HB6.out.env.pa).mono ?_; rintro e hb7 ⟨rfl, hp⟩; have HB7 := Hd (HB6.out.call hp (HB6.out.bd.rf _ _)); obtain ⟨a, a0, a1, a2, a3, a4, a5, a6⟩ := HB7.out.env.c7 0 rfl; obtain ⟨kq, k4⟩ := HB7.out.env.pa.noc HKO2.out; clear hp)
        | (go_at_call 36; refine (HSL.out _ HB7.out.env.pa HB7.out.bd).mono ?_; rintro e ws ⟨vs, rfl, hp, hbs, hts⟩; obtain ⟨Cv, dv, rfl, -, -⟩ := hts.form; obtain ⟨hE, hB⟩ := HB7.out.nodes hp hts hbs; have HBW := Hd hB; obtain ⟨a, a0, a1, a2, a3, a4, a5, a6⟩ := hE.c7 0 rfl; have fz := hE.fz 0 rfl; clear hp hts hB hE))
       refine wp_world (fun W => BkS w g A c T fin ts w.heap.size t.2.2 pr.2 lc _ [] _ pr.1 _ W) HBW.out fun w8 h8 => ?_
       have HB8 := Hd h8
       clear h8 HBW HA HI58 HB4 HB5 HB6 HB7 k4 HSL
       have hg8 := HB8.out.env.pa.lt
       obtain ⟨a, a0, a1, a2, a3, a4, a5, a6⟩ := HB8.out.env.c7 0 rfl
       obtain ⟨b, b0, b1, b2, b3, b4, b5, b6⟩ := HB8.out.env.c7 1 rfl
       have fz := HB8.out.env.fz 1 rfl
       cases hkr : Ps.ok pr.2 with
       | false =>
        have HE3 : Hid (R = (.mk 2 [] lc [] pr.1 0 t.2.2, pr.2)) := Hd (by rw [HE2.out, shut_no hkr])
        obtain ⟨kq, k4⟩ := HB8.out.env.pa.noc hkr
        clear hkr
        go_wp2
        obtain ⟨hb4, hnd⟩ := HB8.out.done (R := R) HE3.out
        exact bodyPost_ret (ret26 rfl _ _ rfl hb4) rfl hnd
       | true =>
        have HE3 : Hid (R = (.mk 2 [] lc [] pr.1 0 t.2.2, Ps.cls_ T fin [93] pr.2)) := Hd (by rw [HE2.out, shut_ok hkr])
        have k4 := HB8.out.env.pa.okc hkr
        have HCL := Hd fun (W : World) (h : PA W g A c T fin pr.2) => pclose_any h (HB8.out.bd.lt hTl) (HB8.out.bd.deep hTl hkr) [93]
        have HBC := Hd (HB8.out.bd.cls (fin := fin) hkr [93])
        clear hkr
        go_wp2_with (go_at_call 161; refine (HCL.out _ HB8.out.env.pa).mono ?_; rintro e w9 ⟨rfl, hp⟩; have HB9 := Hd (HB8.out.call hp HBC.out); obtain ⟨a, a0, a1, a2, a3, a4, a5, a6⟩ := HB9.out.env.c7 0 rfl; obtain ⟨b, b0, b1, b2, b3, b4, b5, b6⟩ := HB9.out.env.c7 1 rfl; have fz := HB9.out.env.fz 1 rfl; clear hp)
        obtain ⟨hb4, hnd⟩ := HB9.out.done (R := R) HE3.out
        exact bodyPost_ret (ret26 rfl _ _ rfl hb4) rfl hnd
theorem ret26b {fn : Func} {p u1 : Tmp} (h : fn.results = #[.cell p 27, .tmp u1]) (tmps : Array Value) (w : World) {k : Nat} {x0 x1 x2 x3 x4 x5 x6 : Value} (hp : tmps.getD p undef = .pointer (some ⟨k, 0, none⟩)) (hb : Blk w k 27 #[x0, x1, x2, x3, x4, x5, x6]) :
  (results fn tmps).run Tryz.prog w = .ok (.tuple #[.agg #[x0, x1, x2, x3, x4, x5, x6], tmps.getD u1 undef]) w := by
 have hp' : tmps[p]?.getD undef = .pointer (some ⟨k, 0, none⟩) := by simpa using hp
 simp [results, h, hp', asAddr, run_loadVar_row w k 27 27 _ (0, 0) _ hb Tryz.underlying27 rfl (by kernel_rfl)]
def SimP (w : World) (g : Nat) (A : Option Addr) (c : Nat) (T : List Lx.Tk) (fin : Nat) (r : Option Ps.Tr × Ps.PS) (e : Ending) (w' : World) : Prop := ∃ cs, e = .returned (.tuple #[.agg cs.toArray, .bool r.1.isSome]) ∧ PP w g A c T fin r.2 w' ∧ Bd T r.2 ∧ TrM w' w.heap.size (fun _ => False) cs (r.1.getD Ps.Tr.zero)
set_option maxRecDepth 20000 in
theorem psimp_any {w : World} {g c fin : Nat} {A : Option Addr} {T : List Lx.Tk} {s : Ps.PS} (hT : Ps.Fits 65536 T) (h : PA w g A c T fin s) (hb : Bd T s) : Calls Tryz.prog 157 #[.pointer (some ⟨g, 0, none⟩)] w (SimP w g A c T fin (Ps.simple T fin s)) := by
 have hTl := hT.len
 have hs := hb.at_
 have E0 := (Env.start h).box 27 [.int .i64 0, .string ⟨#[]⟩, .slice none 0 0, .slice none 0 0, .slice none 0 0, .int .i64 0, .int .i64 0] (by decide)
 have HN := Hd (pnext_any E0.pa)
 obtain ⟨t, ht⟩ : ∃ t, Ps.nx T fin s = t := ⟨_, rfl⟩
 rw [ht] at HN
 have HB := Hd hb
 clear h hb
 go_enter Tryz.func157, Tryz.ntmps157
 go_upto_region 2 with (go_at_call 28; refine HN.out.mono ?_; rintro e w1 ⟨rfl, hb1⟩; have E1 := E0.below hb1; clear hb1)
 refine wp_env (E1.box 37 [_, _, _] (by decide)) fun w2 E2 => ?_
 clear E0 E1 HN
 obtain ⟨a, a0, a1, a2⟩ := E2.c3 0 rfl
 have hg := E2.pa.lt
 by_cases h4 : t.1 = 4
 ·have d4 : ((t.1 : Int) == 4) = true := by rw [h4]; rfl
  have HE : Hid (Ps.simple T fin s = (some (Ps.nd 9 t.2.1 [] t.2.2), Ps.adv s)) := Hd (by unfold Ps.simple; rw [ht]; simp [h4])
  have hlt : s.at_ < T.length := Ps.nx_lt (fin := fin) (by rw [ht, h4]; decide)
  have HBD := Hd (HB.out.adv hlt)
  have HT := Hd ht
  clear h4 ht
  go_wp2_with (go_at_call 29; refine (ptake_any E2.pa (by omega)).mono ?_; rw [HT.out]; rintro e w3 ⟨rfl, hp⟩; have E3 := E2.call hp; clear hp; obtain ⟨b, b0, b1, b2, b3, b4, b5, b6⟩ := E3.c7 1 rfl; have f1 := E3.fz 1 rfl; obtain ⟨a, a0, a1, a2⟩ := E3.c3 0 rfl)
  have E4 := E3.put7 1 rfl (.int .i64 9) (.string ⟨t.2.1.toArray⟩) (.slice none 0 0) (.slice none 0 0) (.slice none 0 0) (.int .i64 0) (.int .i64 (t.2.2 : Int))
  refine bodyPost_ret (ret26b rfl _ _ rfl (E4.blk 1 rfl)) rfl ?_
  rw [HE.out]
  exact ⟨_, rfl, E4.pp, HBD.out, TrM.leaf _ _ _ 9 t.2.1 t.2.2⟩
 have d4 : ((t.1 : Int) == 4) = false := natInt (by omega)
 by_cases h5 : t.1 = 5
 ·have d5 : ((t.1 : Int) == 5) = true := by rw [h5]; rfl
  have HE : Hid (Ps.simple T fin s = (some (Ps.nd 10 t.2.1 [] t.2.2), Ps.adv s)) := Hd (by unfold Ps.simple; rw [ht]; simp [h5])
  have hlt : s.at_ < T.length := Ps.nx_lt (fin := fin) (by rw [ht, h5]; decide)
  have HBD := Hd (HB.out.adv hlt)
  have HT := Hd ht
  clear h5 ht
  go_wp2_with (go_at_call 29; refine (ptake_any E2.pa (by omega)).mono ?_; rw [HT.out]; rintro e w3 ⟨rfl, hp⟩; have E3 := E2.call hp; clear hp; obtain ⟨b, b0, b1, b2, b3, b4, b5, b6⟩ := E3.c7 1 rfl; have f1 := E3.fz 1 rfl; obtain ⟨a, a0, a1, a2⟩ := E3.c3 0 rfl)
  have E4 := E3.put7 1 rfl (.int .i64 10) (.string ⟨t.2.1.toArray⟩) (.slice none 0 0) (.slice none 0 0) (.slice none 0 0) (.int .i64 0) (.int .i64 (t.2.2 : Int))
  refine bodyPost_ret (ret26b rfl _ _ rfl (E4.blk 1 rfl)) rfl ?_
  rw [HE.out]
  exact ⟨_, rfl, E4.pp, HBD.out, TrM.leaf _ _ _ 10 t.2.1 t.2.2⟩
 have d5 : ((t.1 : Int) == 5) = false := natInt (by omega)
 by_cases h6 : t.1 = 6
 ·have d6 : ((t.1 : Int) == 6) = true := by rw [h6]; rfl
  have HE : Hid (Ps.simple T fin s = (some (Ps.nd 11 t.2.1 [] t.2.2), Ps.adv s)) := Hd (by unfold Ps.simple; rw [ht]; simp [h6])
  have hlt : s.at_ < T.length := Ps.nx_lt (fin := fin) (by rw [ht, h6]; decide)
  have HBD := Hd (HB.out.adv hlt)
  have HT := Hd ht
  clear h6 ht
  go_wp2_with (go_at_call 29; refine (ptake_any E2.pa (by omega)).mono ?_; rw [HT.out]; rintro e w3 ⟨rfl, hp⟩; have E3 := E2.call hp; clear hp; obtain ⟨b, b0, b1, b2, b3, b4, b5, b6⟩ := E3.c7 1 rfl; have f1 := E3.fz 1 rfl; obtain ⟨a, a0, a1, a2⟩ := E3.c3 0 rfl)
  have E4 := E3.put7 1 rfl (.int .i64 11) (.string ⟨t.2.1.toArray⟩) (.slice none 0 0) (.slice none 0 0) (.slice none 0 0) (.int .i64 0) (.int .i64 (t.2.2 : Int))
  refine bodyPost_ret (ret26b rfl _ _ rfl (E4.blk 1 rfl)) rfl ?_
  rw [HE.out]
  exact ⟨_, rfl, E4.pp, HBD.out, TrM.leaf _ _ _ 11 t.2.1 t.2.2⟩
 have d6 : ((t.1 : Int) == 6) = false := natInt (by omega)
 have HU : Hid (Ps.simple T fin s = if t.1 == 3 && t.2.1 == [45] && decide (s.at_ + 1 < T.length) then (if (T.getD (s.at_ + 1) (0, [], fin)).1 == 4 && (T.getD (s.at_ + 1) (0, [], fin)).2.2 == t.2.2 + 1 then (some (Ps.nd 9 (if (T.getD (s.at_ + 1) (0, [], fin)).2.1 == [48] then [48] else 45 :: (T.getD (s.at_ + 1) (0, [], fin)).2.1) [] t.2.2), Ps.adv (Ps.adv s)) else (none, s)) else (none, s)) := Hd (by unfold Ps.simple; rw [ht]; simp [h4, h5, h6])
 clear h4 h5 h6
 by_cases h3 : t.1 = 3
 ·have d3 : ((t.1 : Int) == 3) = true := by rw [h3]; rfl
  by_cases h45 : t.2.1 = [45]
  ·have dt : (t.2.1 == [45]) = true := by rw [h45]; rfl
   obtain ⟨k0, k1, k2, k3⟩ := E2.pa.cells
   by_cases hl : s.at_ + 1 < T.length
   ·have HQ : Hid (Ps.simple T fin s = if (T.getD (s.at_ + 1) (0, [], fin)).1 == 4 && (T.getD (s.at_ + 1) (0, [], fin)).2.2 == t.2.2 + 1 then (some (Ps.nd 9 (if (T.getD (s.at_ + 1) (0, [], fin)).2.1 == [48] then [48] else 45 :: (T.getD (s.at_ + 1) (0, [], fin)).2.1) [] t.2.2), Ps.adv (Ps.adv s)) else (none, s)) := Hd (by rw [HU.out, if_pos (by rw [h3, h45]; simp [hl])])
    have hnt := hT.txt (T.getD (s.at_ + 1) (0, [], fin)) (by rw [List.getD_eq_getElem?_getD, List.getElem?_eq_getElem hl]; exact List.getElem_mem hl)
    obtain ⟨bb, off, rfl, hbg, hbw, t0, t1, t2⟩ := E2.pa.tok hl
    generalize T.getD (s.at_ + 1) (0, [], fin) = n at *
    obtain ⟨j, hj⟩ : ∃ j, s.at_ + 1 = j := ⟨_, rfl⟩
    have hji : (s.at_ : Int) + 1 = (j : Int) := by omega
    have hwr : IntKind.i64.wrap (j : Int) = (j : Int) := by rw [IntKind.wrap_i64]; omega
    rw [hj] at t0 t1 t2 hl
    clear hj
    have hpl := (hT.place t (by rw [← ht]; exact Ps.nx_mem (by omega)))
    have HBD := Hd ((HB.out.adv (by omega)).adv (s := Ps.adv s) (by show s.at_ + 1 < T.length; omega))
    clear h3 h45 ht
    go_upto_region 13 with fail
    go_quiet (fail)
    go_upto_region 14 with fail
    refine wp_env2 (E2.drewN nq) (fun W => W.cell? ⟨bb, off + j * 3, none⟩ = some (.int .i64 (n.1 : Int)) ∧ W.cell? ⟨bb, off + j * 3 + 1, none⟩ = some (.string ⟨n.2.1.toArray⟩) ∧ W.cell? ⟨bb, off + j * 3 + 2, none⟩ = some (.int .i64 (n.2.2 : Int)) ∧ bb < W.heap.size) ⟨t0, t1, t2, hbw⟩ fun w3 E3 hx3 => ?_
    clear k0 k1 k2 k3 t0 t1 t2 hbw E2 a a0 a1 a2 hg
    obtain ⟨t0, t1, t2, hbw⟩ := hx3
    obtain ⟨k0, k1, k2, k3⟩ := E3.pa.cells
    have hg := E3.pa.lt
    have l1 : (0 : Int) ≤ (j : Int) := by omega
    have l2 : (j : Int) < (T.length : Int) := by omega
    have n1 : w3.heap.size ≠ g := by omega
    have n2 : w3.heap.size ≠ bb := by omega
    go_region_held3 (fun W => W.cell? ⟨g, 0, none⟩ = some (.slice (some ⟨bb, off, none⟩) T.length c) ∧ W.cell? ⟨g, 1, none⟩ = some (.int .i64 (s.at_ : Int)) ∧ W.cell? ⟨bb, off + j * 3, none⟩ = some (.int .i64 (n.1 : Int)) ∧ W.cell? ⟨bb, off + j * 3 + 1, none⟩ = some (.string ⟨n.2.1.toArray⟩) ∧ W.cell? ⟨bb, off + j * 3 + 2, none⟩ = some (.int .i64 (n.2.2 : Int))) (first | go_keep) ((first | fail))
    go_upto_region 15 with fail
    refine wp_env ((E3.box 37 [.int .i64 (n.1 : Int), .string ⟨n.2.1.toArray⟩, .int .i64 (n.2.2 : Int)] (by decide)).drew) fun w4 E4 => ?_
    clear t0 t1 t2 hbw k0 k1 k2 k3 hg n1 n2 E3 hji hwr
    obtain ⟨a, a0, a1, a2⟩ := E4.c3 1 rfl
    obtain ⟨c, c0, c1, c2⟩ := E4.c3 0 rfl
    obtain ⟨k0, k1, k2, k3⟩ := E4.pa.cells
    have kf := E4.pa.frz 1
    have hg := E4.pa.lt
    by_cases h4n : n.1 = 4
    ·have dn : ((n.1 : Int) == 4) = true := by rw [h4n]; rfl
     by_cases hpn : n.2.2 = t.2.2 + 1
     ·have dp : ((n.2.2 : Int) == (t.2.2 : Int) + 1) = true := by rw [hpn]; simp
      have HQ2 : Hid (Ps.simple T fin s = (some (Ps.nd 9 (if n.2.1 == [48] then [48] else 45 :: n.2.1) [] t.2.2), Ps.adv (Ps.adv s))) := Hd (by rw [HQ.out, if_pos (by rw [h4n, hpn]; simp)])
      clear h4n hpn
      go_upto_region 17 with fail
      refine wp_env (s := Ps.adv (Ps.adv s)) (E4.setAt (s.at_ + 2) _ (by first | rfl | omega)) fun w5 E5 => ?_
      clear a a0 a1 a2 c0 c1 c2 k0 k1 k2 k3 kf hg E4
      obtain ⟨a, a0, a1, a2⟩ := E5.c3 1 rfl
      obtain ⟨c', c0, c1, c2⟩ := E5.c3 0 rfl
      obtain ⟨b, b0, b1, b2, b3, b4, b5, b6⟩ := E5.c7 2 rfl
      have f1 := E5.fz 2 rfl
      have hcat : ¬ (9223372036854775807 < 1 + n.2.1.length) := by omega
      have hstr := str_app [45] n.2.1
      by_cases h48 : n.2.1 = [48]
      ·have d48 : (n.2.1 == [48]) = true := by rw [h48]; rfl
       have HE : Hid (Ps.simple T fin s = (some (Ps.nd 9 [48] [] t.2.2), Ps.adv (Ps.adv s))) := Hd (by rw [HQ2.out, d48]; rfl)
       clear h48
       go_wp2
       have E6 := E5.put7 2 rfl (.int .i64 9) (.string ⟨([48] : Lx.Txt).toArray⟩) (.slice none 0 0) (.slice none 0 0) (.slice none 0 0) (.int .i64 0) (.int .i64 (t.2.2 : Int))
       refine bodyPost_ret (ret26b rfl _ _ rfl (E6.blk 2 rfl)) rfl ?_
       rw [HE.out]
       exact ⟨_, rfl, E6.pp, HBD.out, TrM.leaf _ _ _ 9 [48] t.2.2⟩
      ·have d48 : (n.2.1 == [48]) = false := by simpa using h48
       have HE : Hid (Ps.simple T fin s = (some (Ps.nd 9 (45 :: n.2.1) [] t.2.2), Ps.adv (Ps.adv s))) := Hd (by rw [HQ2.out, d48]; rfl)
       clear h48
       go_wp2
       have E6 := E5.put7 2 rfl (.int .i64 9) (.string ⟨(45 :: n.2.1).toArray⟩) (.slice none 0 0) (.slice none 0 0) (.slice none 0 0) (.int .i64 0) (.int .i64 (t.2.2 : Int))
       refine bodyPost_ret (ret26b rfl _ _ rfl (E6.blk 2 rfl)) rfl ?_
       rw [HE.out]
       exact ⟨_, rfl, E6.pp, HBD.out, TrM.leaf _ _ _ 9 (45 :: n.2.1) t.2.2⟩
     ·have dp : ((n.2.2 : Int) == (t.2.2 : Int) + 1) = false := by simpa using (by omega : ¬ (n.2.2 : Int) = (t.2.2 : Int) + 1)
      have HE : Hid (Ps.simple T fin s = (none, s)) := Hd (by rw [HQ.out, if_neg (by simp [hpn])])
      clear h4n hpn
      obtain ⟨b, b0, b1, b2, b3, b4, b5, b6⟩ := E4.c7 2 rfl
      have f1 := E4.fz 2 rfl
      go_wp2
      have E6 := E4.put7 2 rfl (.int .i64 0) (.string ⟨#[]⟩) (.slice none 0 0) (.slice none 0 0) (.slice none 0 0) (.int .i64 0) (.int .i64 0)
      refine bodyPost_ret (ret26b rfl _ _ rfl (E6.blk 2 rfl)) rfl ?_
      rw [HE.out]
      exact ⟨_, rfl, E6.pp, HB.out, TrM.zero _ _ _⟩
    ·have dn : ((n.1 : Int) == 4) = false := natInt (by omega)
     have HE : Hid (Ps.simple T fin s = (none, s)) := Hd (by rw [HQ.out, if_neg (by simp [h4n])])
     clear h4n
     obtain ⟨b, b0, b1, b2, b3, b4, b5, b6⟩ := E4.c7 2 rfl
     have f1 := E4.fz 2 rfl
     go_wp2
     have E6 := E4.put7 2 rfl (.int .i64 0) (.string ⟨#[]⟩) (.slice none 0 0) (.slice none 0 0) (.slice none 0 0) (.int .i64 0) (.int .i64 0)
     refine bodyPost_ret (ret26b rfl _ _ rfl (E6.blk 2 rfl)) rfl ?_
     rw [HE.out]
     exact ⟨_, rfl, E6.pp, HB.out, TrM.zero _ _ _⟩
   ·have HE : Hid (Ps.simple T fin s = (none, s)) := Hd (by rw [HU.out, if_neg (by simp [hl])])
    clear h3 h45 ht
    go_upto_region 13 with fail
    go_quiet (fail)
    go_upto_region 21 with fail
    refine wp_env (E2.drewN nq) fun w3 E3 => ?_
    clear a a0 a1 a2 hg k0 k1 k2 k3 E2
    obtain ⟨b, b0, b1, b2, b3, b4, b5, b6⟩ := E3.c7 1 rfl
    have f1 := E3.fz 1 rfl
    go_wp2
    have E6 := E3.put7 1 rfl (.int .i64 0) (.string ⟨#[]⟩) (.slice none 0 0) (.slice none 0 0) (.slice none 0 0) (.int .i64 0) (.int .i64 0)
    refine bodyPost_ret (ret26b rfl _ _ rfl (E6.blk 1 rfl)) rfl ?_
    rw [HE.out]
    exact ⟨_, rfl, E6.pp, HB.out, TrM.zero _ _ _⟩
  ·have HE : Hid (Ps.simple T fin s = (none, s)) := Hd (by rw [HU.out, if_neg (by simp [h45])])
   have dt : (t.2.1 == [45]) = false := by simpa using h45
   clear h3 h45 ht
   go_upto_region 13 with fail
   go_quiet (fail)
   go_upto_region 21 with fail
   refine wp_env (E2.drewN nq) fun w3 E3 => ?_
   clear a a0 a1 a2 hg E2
   obtain ⟨b, b0, b1, b2, b3, b4, b5, b6⟩ := E3.c7 1 rfl
   have f1 := E3.fz 1 rfl
   go_wp2
   have E6 := E3.put7 1 rfl (.int .i64 0) (.string ⟨#[]⟩) (.slice none 0 0) (.slice none 0 0) (.slice none 0 0) (.int .i64 0) (.int .i64 0)
   refine bodyPost_ret (ret26b rfl _ _ rfl (E6.blk 1 rfl)) rfl ?_
   rw [HE.out]
   exact ⟨_, rfl, E6.pp, HB.out, TrM.zero _ _ _⟩
 ·have d3 : ((t.1 : Int) == 3) = false := natInt (by omega)
  have HE : Hid (Ps.simple T fin s = (none, s)) := Hd (by rw [HU.out, if_neg (by simp [h3])])
  clear h3 ht
  obtain ⟨b, b0, b1, b2, b3, b4, b5, b6⟩ := E2.c7 1 rfl
  have f1 := E2.fz 1 rfl
  go_wp2
  have E4 := E2.put7 1 rfl (.int .i64 0) (.string ⟨#[]⟩) (.slice none 0 0) (.slice none 0 0) (.slice none 0 0) (.int .i64 0) (.int .i64 0)
  refine bodyPost_ret (ret26b rfl _ _ rfl (E4.blk 1 rfl)) rfl ?_
  rw [HE.out]
  exact ⟨_, rfl, E4.pp, HB.out, TrM.zero _ _ _⟩
end Go.Proofs.YtjhonaglmgmpiaaGreatDoor
