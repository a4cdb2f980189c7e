/-
  The verifier's split f36 where no instruction is a block. No statement of the seat is proved here.
-/
import Derived.Test.YtaeegkljldngmaaDoorCvG
import Derived.Test.YtaeegkljldngmaaDoorHeldX
namespace Go.Proofs.YtaeegkljldngmaaDoor
open Go.RowKit

theorem VM.old {W W' : World} {base : Nat} {K : VK} {D : VD} (h : VM base K D W) (hc : Chg (VB K D) W W') (hB : base ≤ W.heap.size) : Below base W W' :=
  hc.below hB fun k hk e => by have := (h.lt e).1; omega
/-- a verifier whose regions, and so on, are those of a splitting -/
def VD.sp (D : VD) (S : Sp) : Prop := D.rs = S.rs ∧ D.of = S.of ∧ D.body = S.body
def SplP (base : Nat) (K : VK) (D : VD) (X : Except (Int × Int) Sp) (W : World) (e : Ending) (w' : World) : Prop :=
  ∃ D', VM base K D' w' ∧ Below base W w' ∧ D'.dv = D.dv ∧ D'.dp = D.dp ∧ D'.fault = D.fault ∧
    match X with
    | .ok S => e = .returned (.tuple #[.int .i64 0, .int .i64 0]) ∧ D'.sp S
    | .error x => e = .returned (.tuple #[.int .i64 x.1, .int .i64 x.2])
/-- between two instructions -/
structure SpM (base : Nat) (K : VK) (D0 : VD) (W0 : World) (i : Nat) (S : Sp) (W : World) : Prop where
  vm : ∃ D, VM base K D W ∧ D.dv = D0.dv ∧ D.dp = D0.dp ∧ D.fault = D0.fault ∧ D.sp S
  old : Below base W0 W
  ok : SpOk K.l i S
theorem natZ_snoc (l : List Nat) (c : Nat) : natZ (l ++ [c]) = natZ l ++ [(c : Int)] := by simp [natZ]
theorem drewN_drewN (w : World) (a b : Nat) : (w.drewN a).drewN b = w.drewN (a + b) := by simp [World.drewN, Nat.add_assoc]
/-- the verifier, and an instruction in a block of its own -/
structure SB (base : Nat) (K : VK) (W0 : World) (bx : Nat) (cs : Array Value) (D : VD) (W : World) : Prop where
  vm : VM base K D W
  box : Blk W bx 34 cs
  old : Below base W0 W
  ne : K.lv.ownBlock ≠ some bx
  hB : base ≤ W0.heap.size
section
variable {base : Nat} {K : VK} {W0 W W' : World} {bx : Nat} {cs : Array Value} {D D' : VD}
theorem SB.le (h : SB base K W0 bx cs D W) : base ≤ W.heap.size := Nat.le_trans h.hB h.old.size
theorem SB.not (h : SB base K W0 bx cs D W) : ¬ VB K D bx := by
  rintro (e | e | e | e | ⟨v, hv, e⟩)
  · exact Blk.ne_ h.box h.vm.blk (by decide) e
  · exact map_blk_ne h.vm.mp h.box e
  · exact h.ne e
  · exact own_blk_ne h.vm.rgs h.box (by decide) e
  · obtain ⟨n, xs, ho⟩ := h.vm.row hv
    exact own_blk_ne ho h.box (by decide) e
theorem SB.turn (h : SB base K W0 bx cs D W) (hv : VM base K D' W' ∧ Chg (VB K D) W W') : SB base K W0 bx cs D' W' :=
  ⟨hv.1, hv.2.blk h.box h.not, h.old.trans (h.vm.old hv.2 h.le), h.ne, h.hB⟩
theorem SB.below (h : SB base K W0 bx cs D W) (hb : Below W.heap.size W W') : SB base K W0 bx cs D W' :=
  ⟨h.vm.below hb h.le, h.box.below hb h.box.lt, h.old.trans (hb.mono h.le), h.ne, h.hB⟩
theorem SB.alloc (h : SB base K W0 bx cs D W) (o : Obj) : SB base K W0 bx cs D (W.alloc o) := h.below ((Below.refl _ _).alloc (Nat.le_refl _) o)
theorem SB.drewN (h : SB base K W0 bx cs D W) (n : Nat) : SB base K W0 bx cs D (W.drewN n) := h.below (below_drewN (Below.refl _ _) n)
end
theorem VM.begin0 {base : Nat} {K : VK} {D : VD} {W : World} (h : VM base K D W) (hB : base ≤ W.heap.size) (hrs : D.rs = []) (hsv : D.sv = []) :
    ∃ D1, VM base K D1 (((W.setCell ⟨K.g, 8, none⟩ (.slice (some ⟨W.heap.size, 0, none⟩) 1 1)).alloc (.cells #[.int .i64 (-1), .int .i64 0, .int .i64 K.s.temps, .int .i64 (pl K.l K.l.length : Int), .slice none 0 0, .int .i64 0] 88)).drew) ∧
      D1.dv = D.dv ∧ D1.dp = D.dp ∧ D1.fault = D.fault ∧ D1.rs = (sp0 K.s (pl K.l K.l.length)).rs ∧ D1.of = D.of ∧ D1.body = D.body ∧
      Below base W (((W.setCell ⟨K.g, 8, none⟩ (.slice (some ⟨W.heap.size, 0, none⟩) 1 1)).alloc (.cells #[.int .i64 (-1), .int .i64 0, .int .i64 K.s.temps, .int .i64 (pl K.l K.l.length : Int), .slice none 0 0, .int .i64 0] 88)).drew) := by
  have hg := h.blk.lt
  have ha : App W D.rv (W.alloc (.cells #[.int .i64 (-1), .int .i64 0, .int .i64 K.s.temps, .int .i64 (pl K.l K.l.length : Int), .slice none 0 0, .int .i64 0] 88)) (.slice (some ⟨W.heap.size, 0, none⟩) 1 1) :=
    ⟨only_alloc (World.grownBy.refl W _) _, .inr ⟨W.heap.size, by simp [Value.ownBlock], Nat.le_refl _⟩⟩
  have ho := World.ownsRow_lit (base := base) (e := 88) (size := 6) W #[.int .i64 (-1), .int .i64 0, .int .i64 K.s.temps, .int .i64 (pl K.l K.l.length : Int), .slice none 0 0, .int .i64 0] 1 hB (by decide) rfl
  have h2 := h.appR (W2 := W.alloc (.cells #[.int .i64 (-1), .int .i64 0, .int .i64 K.s.temps, .int .i64 (pl K.l K.l.length : Int), .slice none 0 0, .int .i64 0] 88)) (v2 := .slice (some ⟨W.heap.size, 0, none⟩) 1 1) hB (x := ⟨-1, 0, K.s.temps, (pl K.l K.l.length : Int), [], 0⟩) rfl ha (by rw [hrs, hsv]; exact ho)
  rw [World.setCell_alloc_past _ _ _ _ hg] at h2
  refine ⟨_, h2.1.drewN 1, rfl, rfl, rfl, ?_, rfl, rfl, ?_⟩
  · show D.rs ++ _ = _
    rw [hrs]; rfl
  · exact (h.old h2.2 hB).drew
set_option maxRecDepth 100000 in
set_option maxHeartbeats 40000000 in
theorem split_flat {base : Nat} {K : VK} {D : VD} {W : World} (h : VM base K D W) (hB : base ≤ W.heap.size) (ok : KOk K) (hn : 0 < K.l.length) (hnb : ∀ k, k < K.l.length → (insD K.l k).op ≠ 24) (hrs : D.rs = []) (hsv : D.sv = []) (hof : D.of = []) (hbo : D.body = []) :
    Calls Tryd.prog 29 #[.pointer (some ⟨K.g, 0, none⟩)] W (SplP base K D (splitF K.s K.l K.l.length 0 (sp0 K.s (pl K.l K.l.length))) W) := by
  obtain ⟨R, hR⟩ : ∃ R, splitF K.s K.l K.l.length 0 (sp0 K.s (pl K.l K.l.length)) = R := ⟨_, rfl⟩
  rw [hR]
  have HR := Lib.hid hR
  have HV := Lib.hid h
  have c1 : W.cell? ⟨K.g, 1, none⟩ = some (.int .i64 K.s.temps) := h.blk.cell 1
  have c6 : W.cell? ⟨K.g, 6, none⟩ = some (.int .i64 (pl K.l K.l.length : Int)) := h.blk.cell 6
  have c8 : W.cell? ⟨K.g, 8, none⟩ = some D.rv := h.blk.cell 8
  have f8 : W.frozen? ⟨K.g, 8, none⟩ = false := h.blk.frozen 8
  have hg := h.blk.lt
  have hpos : 0 < pl K.l K.l.length := by
    have := pl_lt ok.ok (i := 0) (j := K.l.length) hn (Nat.le_refl _)
    omega
  have z43 := zero34
  clear hR
  go_enter Tryd.func29, Tryd.ntmps29
  go_upto_region 1 with fail
  have HQ : Hid (∀ (v : Value) (o : Obj), ((W.setCell ⟨K.g, 8, none⟩ v).alloc o).drew.cell? ⟨K.g, 1, none⟩ = some (.int .i64 K.s.temps) ∧ ((W.setCell ⟨K.g, 8, none⟩ v).alloc o).drew.cell? ⟨K.g, 6, none⟩ = some (.int .i64 (pl K.l K.l.length : Int))) :=
    Lib.hid fun v o => ⟨((h.blk.set_ 8 v).alloc o).drew.cell 1, ((h.blk.set_ 8 v).alloc o).drew.cell 6⟩
  go_region
  clear c1 c6 c8 f8 HQ
  have HM0 := Lib.hid (h.begin0 hB hrs hsv)
  generalize (((W.setCell ⟨K.g, 8, none⟩ (.slice (some ⟨W.heap.size, 0, none⟩) 1 1)).alloc (.cells #[.int .i64 (-1), .int .i64 0, .int .i64 K.s.temps, .int .i64 (pl K.l K.l.length : Int), .slice none 0 0, .int .i64 0] 88)).drew) = W1 at HM0 ⊢
  obtain ⟨D1, m1, m2, m3, m4, m5, m6, m7, m8⟩ := HM0.out
  have HSM : Hid (SpM base K D W 0 (sp0 K.s (pl K.l K.l.length)) W1) := Lib.hid ⟨⟨D1, m1, m2, m3, m4, m5, by rw [m6, hof]; rfl, by rw [m7, hbo]; rfl⟩, m8, sp0_ok K.s K.l hpos⟩
  obtain ⟨A0, cc0, hlv, _, _⟩ := own_form h.ins
  have c4 : W1.cell? ⟨K.g, 4, none⟩ = some (.slice A0 K.l.length cc0) := by rw [← hlv]; exact m1.blk.cell 4
  clear HM0 m1 m2 m3 m4 m5 m6 m7 m8 hrs hsv hof hbo hg
  go_wp2
  clear c4
  have hlen := ok.len
  go_loopw [4, 29] (fun r i wr => ∃ (k : Nat) (S : Sp), k ≤ K.l.length ∧ i = .int .i64 k ∧ r = .int .i64 (S.r : Int) ∧ SpM base K D W k S wr ∧ splitF K.s K.l (K.l.length - k) k S = R) (fun _ i _ => K.l.length - (intOf i).toNat)
  case atStart => exact ⟨0, _, Nat.zero_le _, rfl, rfl, HSM.out, HR.out⟩
  case round =>
    obtain ⟨k, S, hk, rfl, rfl, hM, hrest⟩ := hrel
    have HM := Lib.hid hM
    have HRE := Lib.hid hrest
    clear hM hrest HSM HR
    by_cases hlt : k < K.l.length
    · obtain ⟨⟨rv, rs', sv, ov, of', bv, body', dv', dp', ft'⟩, hv, q1, q2, q3, q4, q5, q6⟩ := HM.out.vm
      dsimp only at q1 q2 q3 q4 q5 q6
      subst q1 q2 q3 q4 q5 q6
      have hold := HM.out.old
      have HSO := Lib.hid HM.out.ok
      have hBr : base ≤ wr.heap.size := Nat.le_trans hB hold.size
      obtain ⟨pb, pc, lb, lc, hp, hl⟩ := hv.forms hn
      have hA0 : A0 = some ⟨lb, 0, none⟩ := by rw [hlv] at hl; injection hl
      subst hA0
      obtain ⟨_, e0, e1, e2, e3, e4⟩ := hv.lcell hl hlt
      have hlbw := (World.ownsRow.lt hv.ins lb (by rw [hl]; simp [Value.ownBlock])).2
      have l1 : (0 : Int) ≤ (k : Int) := by omega
      have l2 : (k : Int) < (K.l.length : Int) := by omega
      have HPC := Lib.hid fun W D (h : VM base K D W) => h.pcell hp hlt
      have HXOK := Lib.hid (ok.at_ hlt)
      obtain ⟨rb, rc, hrv⟩ := hv.rform HSO.out.rok.pos
      dsimp only at hrv
      subst hrv
      have HRC := Lib.hid fun W r hr (h : VM base K (⟨.slice (some ⟨rb, 0, none⟩) S.rs.length rc, S.rs, sv, ov, S.of, bv, S.body, D.dv, D.dp, D.fault⟩ : VD) W) => h.rcell (rb := rb) (rc := rc) (r := r) rfl hr
      have HS2 : Hid (SB base K W wr.heap.size #[.int .i64 (insD K.l k).op, .int .i64 (insD K.l k).a, .int .i64 (insD K.l k).b, .int .i64 (insD K.l k).c, .int .i64 (insD K.l k).z] _ (wr.alloc (.cells #[.int .i64 (insD K.l k).op, .int .i64 (insD K.l k).a, .int .i64 (insD K.l k).b, .int .i64 (insD K.l k).c, .int .i64 (insD K.l k).z] 34))) :=
        Lib.hid ⟨hv.alloc hBr _, Blk.new wr 34 _, hold.alloc hBr _, fun e => by have := (World.ownsRow.lt hv.ins _ e).2; omega, hB⟩
      have HP0 := Lib.hid (HSO.out.p0 ok.ok hlt)
      have hrlt := HSO.out.rlt
      obtain ⟨c, HC⟩ : ∃ c, Hid (climb S.rs (pl K.l k) S.r S.r = c) := ⟨_, Lib.hid rfl⟩
      have hrl2 : S.rs.length ≤ 32768 := by have := HSO.out.cnt; omega
      clear hp hl hold hv
      generalize hxx : insD K.l k = x at *
      have HXX := Lib.hid hxx
      clear hxx
      obtain ⟨op, xa, xb, xc, xz⟩ := x
      dsimp only at e0 e1 e2 e3 e4 HS2
      go_upto_block 2 with fail
      clear e0 e1 e2 e3 e4 hlbw
      generalize hbx : wr.heap.size = bx at *
      generalize wr.alloc (.cells #[.int .i64 op, .int .i64 xa, .int .i64 xb, .int .i64 xc, .int .i64 xz] 34) = W2 at *
      clear hbx
      go_cut [4] (fun v wx => v = .int .i64 (c : Int) ∧ ∃ n, wx = W2.drewN n)
      case first => as_aux_lemma =>
        have p5 := (HPC.out W2 _ HS2.out.vm).1
        have pk := (HPC.out W2 _ HS2.out.vm).2
        go_wp2
        go_loopw [4] (fun r wx => ∃ (r' n : Nat), r = .int .i64 (r' : Int) ∧ r' < S.rs.length ∧ Hid (climb S.rs (pl K.l k) r' r' = c) ∧ wx = W2.drewN n) (fun r _ => (intOf r).toNat)
        case atStart => exact ⟨S.r, 0, rfl, hrlt, HC, rfl⟩
        case round =>
          obtain ⟨r', n, rfl, hr', HC2, rfl⟩ := hrel
          obtain ⟨r8, ro, rd, rt, rf, rs4, rm⟩ := HRC.out W2 r' hr' HS2.out.vm
          have l3 : (0 : Int) ≤ (r' : Int) := by omega
          have l4 : (r' : Int) < (S.rs.length : Int) := by omega
          clear rd rt rs4 rm
          by_cases hf : (pl K.l k : Int) = (rgAt S.rs r').fin
          · obtain ⟨o, ho1, ho2, ho3⟩ := climb_up HSO.out.rok HP0.out (r := r') (by omega) hf
            rw [show (rgAt S.rs r').outer = (o : Int) from ho1] at ro
            have HC3 : Hid (climb S.rs (pl K.l k) o o = c) := Lib.hid (by rw [ho3]; exact HC2.out)
            have d1 : ((pl K.l k : Int) == (rgAt S.rs r').fin) = true := by simp [hf]
            clear hf ho1 ho3 HC2
            generalize (rgAt S.rs r').fin = fn at *
            generalize pl K.l k = p at *
            go_wp2
            go_quiet (fail)
            go_wp2
            go_roundw
            case rel => exact ⟨o, _, rfl, by omega, HC3, rfl⟩
            case measure => simp [intOf]; omega
          · have HC3 : Hid (r' = c) := Lib.hid (by rw [← HC2.out, climb_stay hf])
            have d1 : ((pl K.l k : Int) == (rgAt S.rs r').fin) = false := by simp [hf]
            clear hf HC2
            generalize (rgAt S.rs r').fin = fn at *
            generalize pl K.l k = p at *
            go_wp2
            go_quiet (fail)
            go_wp2_with fail
            go_meet
            exact ⟨by rw [HC3.out], _, drewN_drewN _ _ _⟩
      case rest =>
        have HRC5 := Lib.hid fun W (c : Nat) (hc : c < S.rs.length) (A4 : Option Addr) (n4 k4 : Nat) (of4 : List Nat) (A5 : Option Addr) (n5 k5 : Nat) (bo5 : List Int) (h : VM base K (⟨.slice (some ⟨rb, 0, none⟩) S.rs.length rc, S.rs, sv, .slice A4 n4 k4, of4, .slice A5 n5 k5, bo5, D.dv, D.dp, D.fault⟩ : VD) W) => h.rcell (rb := rb) (rc := rc) (r := c) rfl hc
        obtain ⟨rfl, n3, rfl⟩ := hcut
        have HS3 := Lib.hid (HS2.out.drewN n3)
        have hcl := climb_le HSO.out.rok HP0.out S.r S.r (Nat.le_refl _) hrlt
        rw [HC.out] at hcl
        have hcr : c < S.rs.length := by omega
        clear hcl
        generalize W2.drewN n3 = W3 at *
        clear HS2
        obtain ⟨Ao, co, ho, _, _⟩ := own_form HS3.out.vm.oft
        obtain ⟨Ab, cb, hb, _, _⟩ := own_form HS3.out.vm.bdy
        dsimp only at ho hb
        subst ho hb
        have c9 : W3.cell? ⟨K.g, 9, none⟩ = some (.slice Ao (natZ S.of).length co) := HS3.out.vm.blk.cell 9
        have f9 : W3.frozen? ⟨K.g, 9, none⟩ = false := HS3.out.vm.blk.frozen 9
        have hg3 := HS3.out.vm.blk.lt
        have hofl : (natZ S.of).length = k := by simp [natZ, HSO.out.ofl]
        have hbB : base ≤ W3.heap.size := HS3.out.le
        have HOFL := Lib.hid hofl
        clear hofl
        have HO3 : Hid (OwnZ W3 base (.slice Ao (natZ S.of).length co) (natZ S.of)) := Lib.hid HS3.out.vm.oft
        have HAP : Hid (∀ (o : Obj) (v4 : Value) (w4 : World), OwnZ w4 base v4 (natZ S.of ++ [(c : Int)]) → App (W3.alloc o) (.slice Ao (natZ S.of).length co) w4 v4 →
            SB base K W bx #[.int .i64 op, .int .i64 xa, .int .i64 xb, .int .i64 xc, .int .i64 xz] ⟨.slice (some ⟨rb, 0, none⟩) S.rs.length rc, S.rs, sv, v4, S.of ++ [c], .slice Ab S.body.length cb, S.body, D.dv, D.dp, D.fault⟩ (w4.setCell ⟨K.g, 9, none⟩ v4) ∧ w4.cell? ⟨K.g, 9, none⟩ = some (.slice Ao (natZ S.of).length co) ∧ w4.frozen? ⟨K.g, 9, none⟩ = false ∧ K.g < w4.heap.size) := Lib.hid fun o v4 w4 ho4 ha4 => by
          have hs := HS3.out.alloc o
          have hg4 := ha4.blk hs.vm.blk (own_blk_ne hs.vm.oft hs.vm.blk (by decide))
          exact ⟨hs.turn (VM.appO hs.vm hs.le (zs := S.of ++ [c]) ha4 (by rw [natZ_snoc]; exact ho4)), hg4.cell 9, hg4.frozen 9, hg4.lt⟩
        go_upto_region 9 with (at_builtin; refine app_z rfl (.tmp 62) (.tmp 64) rfl base _ (natZ S.of) rfl (HO3.out.alloc _) _ _ 1 1 [(c : Int)] rfl (Reads.builtN' _ 3 _ ([(c : Int)].map iv) 1 1 rfl rfl) (by have := HOFL.out; omega) (by simp; omega) ?_; intro v4 w4 ho4 ha4; obtain ⟨A4, k4, rfl, _, _⟩ := own_form ho4; obtain ⟨hs4, c94, f94, g94⟩ := HAP.out _ _ w4 ho4 ha4; simp only [List.length_append, List.length_cons, List.length_nil, Nat.zero_add] at hs4; have HS4 := Lib.hid hs4; clear hs4 ho4 ha4)
        clear c9 f9 c94 f94 g94 HAP HO3 HS3 hg3 hbB
        generalize w4.setCell ⟨K.g, 9, none⟩ (.slice A4 ((natZ S.of).length + 1) k4) = W4 at *
        have hbB : base ≤ W4.heap.size := HS4.out.le
        have hg4 := HS4.out.vm.blk.lt
        have c10 : W4.cell? ⟨K.g, 10, none⟩ = some (.slice Ab S.body.length cb) := HS4.out.vm.blk.cell 10
        have hbl : S.body.length = k := HSO.out.bol
        have HBL := Lib.hid hbl
        have HO4 : Hid (OwnZ W4 base (.slice Ab S.body.length cb) S.body) := Lib.hid HS4.out.vm.bdy
        have HAP : Hid (∀ (o : Obj) (v5 : Value) (w5 : World), OwnZ w5 base v5 (S.body ++ [-1]) → App (W4.alloc o) (.slice Ab S.body.length cb) w5 v5 →
            SB base K W bx #[.int .i64 op, .int .i64 xa, .int .i64 xb, .int .i64 xc, .int .i64 xz] ⟨.slice (some ⟨rb, 0, none⟩) S.rs.length rc, S.rs, sv, .slice A4 ((natZ S.of).length + 1) k4, S.of ++ [c], v5, S.body ++ [-1], D.dv, D.dp, D.fault⟩ (w5.setCell ⟨K.g, 10, none⟩ v5) ∧ w5.cell? ⟨K.g, 10, none⟩ = some (.slice Ab S.body.length cb) ∧ w5.frozen? ⟨K.g, 10, none⟩ = false ∧ K.g < w5.heap.size) := Lib.hid fun o v5 w5 ho5 ha5 => by
          have hs := HS4.out.alloc o
          have hg5 := ha5.blk hs.vm.blk (own_blk_ne hs.vm.bdy hs.vm.blk (by decide))
          exact ⟨hs.turn (VM.appB hs.vm hs.le (zs := S.body ++ [-1]) ha5 ho5), hg5.cell 10, hg5.frozen 10, hg5.lt⟩
        clear hbl
        go_upto_region 10 with (at_builtin; refine app_z rfl (.tmp 72) (.tmp 73) rfl base _ S.body rfl (HO4.out.alloc _) _ _ 1 1 [-1] rfl (Reads.builtN' _ 3 _ ([(-1 : Int)].map iv) 1 1 rfl rfl) (by have := HBL.out; omega) (by simp; omega) ?_; intro v5 w5 ho5 ha5; obtain ⟨A5, k5, rfl, _, _⟩ := own_form ho5; obtain ⟨hs5, c105, f105, g105⟩ := HAP.out _ _ w5 ho5 ha5; simp only [List.length_append, List.length_cons, List.length_nil, Nat.zero_add] at hs5; have HS5 := Lib.hid hs5; clear hs5 ho5 ha5)
        clear c10 c105 f105 g105 HAP HO4 HS4 hg4 hbB
        generalize w5.setCell ⟨K.g, 10, none⟩ (.slice A5 (S.body.length + 1) k5) = W5 at *
        have hvm5 := HS5.out.vm
        obtain ⟨t8, _, _, _, _, t4, _⟩ := HRC5.out W5 c hcr _ _ _ _ _ _ _ _ hvm5
        have hsvl : sv.length = S.rs.length := hvm5.stl
        have hsvc : sv[c]? = some (sv.getD c (.slice none 0 0)) := by
          rw [List.getD_eq_getElem?_getD, List.getElem?_eq_getElem (by omega)]
          rfl
        have hso := hvm5.sts c _ _ (rgAt_some hcr) hsvc
        obtain ⟨As, cs, hse, _, _⟩ := own_form hso
        have hstl : (natZ (rgAt S.rs c).steps).length ≤ k := by
          have := HSO.out.stl _ (List.mem_of_getElem? (rgAt_some hcr))
          simpa [natZ] using this
        have HAP : Hid (∀ (o : Obj) (v6 : Value) (w6 : World), OwnZ w6 base v6 (natZ (rgAt S.rs c).steps ++ [(k : Int)]) → App ((W5.alloc o).drew) (sv.getD c (.slice none 0 0)) w6 v6 →
            SB base K W bx #[.int .i64 op, .int .i64 xa, .int .i64 xb, .int .i64 xc, .int .i64 xz] ⟨.slice (some ⟨rb, 0, none⟩) S.rs.length rc, addStep S.rs c k, sv.set c v6, .slice A4 ((natZ S.of).length + 1) k4, S.of ++ [c], .slice A5 (S.body.length + 1) k5, S.body ++ [-1], D.dv, D.dp, D.fault⟩ (w6.setCell ⟨rb, c * 6 + 4, none⟩ v6) ∧ w6.cell? ⟨K.g, 8, none⟩ = some (.slice (some ⟨rb, 0, none⟩) S.rs.length rc) ∧ w6.cell? ⟨rb, c * 6 + 4, none⟩ = some (sv.getD c (.slice none 0 0)) ∧ w6.frozen? ⟨rb, c * 6 + 4, none⟩ = false ∧ K.g < w6.heap.size ∧ rb < w6.heap.size) := Lib.hid fun o v6 w6 ho6 ha6 => by
          have hs := (HS5.out.alloc o).drewN 1
          have hso2 := hs.vm.sts c _ _ (rgAt_some hcr) hsvc
          have hg6 := ha6.blk hs.vm.blk (own_blk_ne hso2 hs.vm.blk (by decide))
          have hr6 := two_app ha6 hso2 hs.vm.rgs (by decide)
          refine ⟨hs.turn (VM.appS hs.vm hs.le rfl hcr hsvc ha6 (by rw [natZ_snoc]; exact ho6)), hg6.cell 8, ?_, World.ownsRow.frozenAt hr6 _, hg6.lt, (World.ownsRow.lt hr6 rb (by simp [Value.ownBlock])).2⟩
          rw [World.ownsRow.cellAt hr6 _ (by omega)]
          exact rgC_at _ _ _ _ (rgAt_some hcr) 4 (by omega)
        have HSO5 := Lib.hid hso
        have hg5 := hvm5.blk.lt
        have hrb5 := (World.ownsRow.lt hvm5.rgs rb (by simp [Value.ownBlock])).2
        have hbB : base ≤ W5.heap.size := HS5.out.le
        have l5 : (0 : Int) ≤ (c : Int) := by omega
        have l6 : (c : Int) < (S.rs.length : Int) := by omega
        clear hvm5 hso hsvc hsvl
        generalize sv.getD c (.slice none 0 0) = sc at *
        subst hse
        generalize natZ (rgAt S.rs c).steps = stz at *
        go_cut [4] (fun v wx => v = .int .i64 (c : Int) ∧ ∃ A6 n6 k6, SB base K W bx #[.int .i64 op, .int .i64 xa, .int .i64 xb, .int .i64 xc, .int .i64 xz] ⟨.slice (some ⟨rb, 0, none⟩) S.rs.length rc, addStep S.rs c k, sv.set c (.slice A6 n6 k6), .slice A4 ((natZ S.of).length + 1) k4, S.of ++ [c], .slice A5 (S.body.length + 1) k5, S.body ++ [-1], D.dv, D.dp, D.fault⟩ wx)
        case first => as_aux_lemma =>
          have hS5 : W5.cell? ⟨K.g, 8, none⟩ = some (.slice (some ⟨rb, 0, none⟩) S.rs.length rc) ∧ W5.cell? ⟨rb, c * 6 + 4, none⟩ = some (.slice As stz.length cs) := ⟨HS5.out.vm.blk.cell 8, t4⟩
          refine wp_region_x (s := 18) (S := fun W' => W'.cell? ⟨K.g, 8, none⟩ = some (.slice (some ⟨rb, 0, none⟩) S.rs.length rc) ∧ W'.cell? ⟨rb, c * 6 + 4, none⟩ = some (.slice As stz.length cs)) (by kernel_rfl) hS5 (fun hHeld => ?_)
          refine wpAnyX_take (i := 0) (v := ?_) (by simp only [List.getElem?_toArray, List.getElem?_cons_zero]; rfl) (by kernel_rfl) (by kernel_rfl) (by kernel_rfl) (by kernel_rfl) (by exact fun _ _ _ h => h) (Or.inl ⟨by rfl, ?_⟩) (by assumption) ?_
          rotate_left
          · intro w hSw; (try dsimp only at hSw); go_split_ands; go_simp <;> with_reducible rfl
          try simp only [Act.put, List.setIfInBounds_toArray, List.set_cons_zero, List.set_cons_succ]
          refine wpAnyX_take (i := 1) (v := ?_) (by simp only [List.getElem?_toArray, List.getElem?_cons_succ, List.getElem?_cons_zero]; rfl) (by kernel_rfl) (by kernel_rfl) (by kernel_rfl) (by kernel_rfl) (by exact fun _ _ _ h => h) (Or.inl ⟨by rfl, ?_⟩) (by assumption) ?_
          rotate_left
          · intro w hSw; (try dsimp only at hSw); go_split_ands; go_simp <;> with_reducible rfl
          try simp only [Act.put, List.setIfInBounds_toArray, List.set_cons_zero, List.set_cons_succ]
          refine wpAnyX_take (i := 2) (v := ?_) (by simp only [List.getElem?_toArray, List.getElem?_cons_succ, List.getElem?_cons_zero]; rfl) (by kernel_rfl) (by kernel_rfl) (by kernel_rfl) (by kernel_rfl) (by exact fun _ _ _ h => h) (Or.inl ⟨by rfl, ?_⟩) (by assumption) ?_
          rotate_left
          · intro w hSw; (try dsimp only at hSw); go_split_ands; go_simp <;> with_reducible rfl
          try simp only [Act.put, List.setIfInBounds_toArray, List.set_cons_zero, List.set_cons_succ]
          refine wpAnyX_take (i := 3) (v := ?_) (by simp only [List.getElem?_toArray, List.getElem?_cons_succ, List.getElem?_cons_zero]; rfl) (by kernel_rfl) (by kernel_rfl) (by kernel_rfl) (by kernel_rfl) (by exact fun _ _ _ h => h) (Or.inl ⟨by rfl, ?_⟩) (by assumption) ?_
          rotate_left
          · intro w hSw; (try dsimp only at hSw); go_split_ands; go_simp <;> with_reducible rfl
          try simp only [Act.put, List.setIfInBounds_toArray, List.set_cons_zero, List.set_cons_succ]
          refine wpAnyX_take (i := 4) (v := ?_) (by simp only [List.getElem?_toArray, List.getElem?_cons_succ, List.getElem?_cons_zero]; rfl) (by kernel_rfl) (by kernel_rfl) (by kernel_rfl) (by kernel_rfl) (by exact fun _ _ _ h => h) (Or.inl ⟨by rfl, ?_⟩) (by assumption) ?_
          rotate_left
          · intro w hSw; (try dsimp only at hSw); go_split_ands; go_simp <;> with_reducible rfl
          try simp only [Act.put, List.setIfInBounds_toArray, List.set_cons_zero, List.set_cons_succ]
          refine wpAnyX_take (i := 5) (v := ?_) (by simp only [List.getElem?_toArray, List.getElem?_cons_succ, List.getElem?_cons_zero]; rfl) (by kernel_rfl) (by kernel_rfl) (by kernel_rfl) (by kernel_rfl) (by exact fun _ _ _ h => h) (Or.inl ⟨by rfl, ?_⟩) (by assumption) ?_
          rotate_left
          · intro w hSw; (try dsimp only at hSw); go_split_ands; go_simp <;> with_reducible rfl
          try simp only [Act.put, List.setIfInBounds_toArray, List.set_cons_zero, List.set_cons_succ]
          refine wpAnyX_take (i := 6) (v := ?_) (by simp only [List.getElem?_toArray, List.getElem?_cons_succ, List.getElem?_cons_zero]; rfl) (by kernel_rfl) (by kernel_rfl) (by kernel_rfl) (by kernel_rfl) (by exact fun _ _ _ h => h) (Or.inl ⟨by rfl, ?_⟩) (by assumption) ?_
          rotate_left
          · intro w hSw; (try dsimp only at hSw); go_split_ands; go_simp <;> with_reducible rfl
          try simp only [Act.put, List.setIfInBounds_toArray, List.set_cons_zero, List.set_cons_succ]
          refine wpAnyX_take (i := 7) (v := ?_) (by simp only [List.getElem?_toArray, List.getElem?_cons_succ, List.getElem?_cons_zero]; rfl) (by kernel_rfl) (by kernel_rfl) (by kernel_rfl) (by kernel_rfl) (by exact fun _ _ _ h => h) (Or.inl ⟨by rfl, ?_⟩) (by assumption) ?_
          rotate_left
          · intro w hSw; (try dsimp only at hSw); go_split_ands; go_simp <;> with_reducible rfl
          try simp only [Act.put, List.setIfInBounds_toArray, List.set_cons_zero, List.set_cons_succ]
          refine wpAnyX_take (i := 8) (v := ?_) (by simp only [List.getElem?_toArray, List.getElem?_cons_succ, List.getElem?_cons_zero]; rfl) (by kernel_rfl) (by kernel_rfl) (by kernel_rfl) (by kernel_rfl) (by exact fun _ _ _ h => h) (Or.inl ⟨by rfl, ?_⟩) (by assumption) ?_
          rotate_left
          · intro w hSw; (try dsimp only at hSw); go_split_ands; go_simp <;> with_reducible rfl
          try simp only [Act.put, List.setIfInBounds_toArray, List.set_cons_zero, List.set_cons_succ]
          refine wpAnyX_take (i := 9) (v := ?_) (by simp only [List.getElem?_toArray, List.getElem?_cons_succ, List.getElem?_cons_zero]; rfl) (by kernel_rfl) (by kernel_rfl) (by kernel_rfl) (by kernel_rfl) (by exact fun _ _ _ h => h) (Or.inl ⟨by rfl, ?_⟩) (by assumption) ?_
          rotate_left
          · intro w hSw; (try dsimp only at hSw); go_split_ands; go_simp <;> with_reducible rfl
          try simp only [Act.put, List.setIfInBounds_toArray, List.set_cons_zero, List.set_cons_succ]
          refine wpAnyX_take (i := 10) (v := ?_) (by simp only [List.getElem?_toArray, List.getElem?_cons_succ, List.getElem?_cons_zero]; rfl) (by kernel_rfl) (by kernel_rfl) (by kernel_rfl) (by kernel_rfl) (by exact fun _ _ _ h => h) (Or.inl ⟨by rfl, ?_⟩) (by assumption) ?_
          rotate_left
          · intro w hSw; (try dsimp only at hSw); go_split_ands; go_simp <;> with_reducible rfl
          try simp only [Act.put, List.setIfInBounds_toArray, List.set_cons_zero, List.set_cons_succ]
          refine wpAnyX_take (i := 11) (v := ?_) (by simp only [List.getElem?_toArray, List.getElem?_cons_succ, List.getElem?_cons_zero]; rfl) (by kernel_rfl) (by kernel_rfl) (by kernel_rfl) (by kernel_rfl) (by exact fun _ _ _ h => h) (Or.inl ⟨by rfl, ?_⟩) (by assumption) ?_
          rotate_left
          · intro w hSw; (try dsimp only at hSw); go_split_ands; go_simp <;> with_reducible rfl
          try simp only [Act.put, List.setIfInBounds_toArray, List.set_cons_zero, List.set_cons_succ]
          refine wpAnyX_take (i := 12) (v := ?_) (by simp only [List.getElem?_toArray, List.getElem?_cons_succ, List.getElem?_cons_zero]; rfl) (by kernel_rfl) (by kernel_rfl) (by kernel_rfl) (by kernel_rfl) (by exact fun _ _ _ h => h) (Or.inl ⟨by rfl, ?_⟩) (by assumption) ?_
          rotate_left
          · intro w hSw; (try dsimp only at hSw); go_split_ands; go_simp <;> with_reducible rfl
          try simp only [Act.put, List.setIfInBounds_toArray, List.set_cons_zero, List.set_cons_succ]
          refine wpAnyX_take (i := 13) (v := ?_) (by simp only [List.getElem?_toArray, List.getElem?_cons_succ, List.getElem?_cons_zero]; rfl) (by kernel_rfl) (by kernel_rfl) (by kernel_rfl) (by kernel_rfl) (by exact fun _ _ _ h => h) (Or.inl ⟨by rfl, ?_⟩) (by assumption) ?_
          rotate_left
          · intro w hSw; (try dsimp only at hSw); go_split_ands; go_simp <;> with_reducible rfl
          try simp only [Act.put, List.setIfInBounds_toArray, List.set_cons_zero, List.set_cons_succ]
          refine wpAnyX_one (i := 14) (by kernel_rfl) (by simp only [List.getElem?_toArray, List.getElem?_cons_succ, List.getElem?_cons_zero]; rfl) (fun K2 hK2 => ?_)
          go_simp
          refine hK2.out _ _ (by go_keep) (fun hHeld => ?_)
          clear hK2 K2
          try simp only [Act.put, List.setIfInBounds_toArray, List.set_cons_zero, List.set_cons_succ]
          refine wpAnyX_one (i := 15) (by kernel_rfl) (by simp only [List.getElem?_toArray, List.getElem?_cons_succ, List.getElem?_cons_zero]; rfl) (fun K2 hK2 => ?_)
          (refine step_z rfl (.tmp 89) (.tmp 91) rfl base _ stz (by rfl) ((HSO5.out.alloc _).drew) _ _ 1 1 [(k : Int)] (by rfl) ((Reads.builtN' W5 3 _ ([(k : Int)].map iv) 1 1 rfl rfl).drew) (by omega) (by simp; omega) ?_; intro v6 w6 ho6 ha6; obtain ⟨A6, k6, rfl, _, _⟩ := own_form ho6; obtain ⟨hs6, d8, d4, df, dg, dr⟩ := HAP.out _ _ w6 ho6 ha6; simp only [List.length_append, List.length_cons, List.length_nil, Nat.zero_add] at hs6; have HS6 := Lib.hid hs6; clear hs6 ho6 ha6)
          refine hK2.out _ _ (⟨d8, d4⟩) (fun hHeld => ?_)
          clear hK2 K2
          try simp only [Act.put, List.setIfInBounds_toArray, List.set_cons_zero, List.set_cons_succ]
          refine wpAnyX_one (i := 16) (by kernel_rfl) (by simp only [List.getElem?_toArray, List.getElem?_cons_succ, List.getElem?_cons_zero]; rfl) (fun K2 hK2 => ?_)
          go_simp
          refine hK2.out _ _ (hHeld) (fun hHeld => ?_)
          clear hK2 K2
          try simp only [Act.put, List.setIfInBounds_toArray, List.set_cons_zero, List.set_cons_succ]
          refine wpAnyX_one (i := 17) (by kernel_rfl) (by simp only [List.getElem?_toArray, List.getElem?_cons_succ, List.getElem?_cons_zero]; rfl) (fun K2 hK2 => ?_)
          go_simp
          refine hK2.out _ _ (hHeld) (fun hHeld => ?_)
          clear hK2 K2
          try simp only [Act.put, List.setIfInBounds_toArray, List.set_cons_zero, List.set_cons_succ]
          refine wpAnyX_last (by kernel_rfl) (by simp only [List.getElem?_toArray, List.getElem?_cons_succ, List.getElem?_cons_zero]; rfl) (fun K2 hK2 => ?_)
          go_simp
          refine hK2.out _ _ ?_
          clear hK2 K2
          try simp only [Act.put, List.setIfInBounds_toArray, List.set_cons_zero, List.set_cons_succ]
          refine wpAnyX_done (by kernel_rfl) ?_ _
          (go_wp2_with fail; go_meet; exact ⟨rfl, _, _, _, HS6.out⟩)
        case rest => as_aux_lemma =>
          obtain ⟨rfl, A6, n6, k6, hs6⟩ := hcut
          have HS6 := Lib.hid hs6
          clear HS5 HSO5 HAP t8 t4 hg5 hrb5 hbB hs6
          have HSP : Hid ((if opdO K.s (addStep S.rs c k) ⟨op, xa, xb, xc, xz⟩ c = true then
              if op = 24 then
                if xz < 1 ∨ (rgAt (addStep S.rs c k) c).fin < beh K.l k + xz ∨ (ix K.l (beh K.l k + xz)).isNone = true then (Except.error ((pl K.l k : Int), 52) : Except (Int × Int) Sp)
                else .ok ⟨addStep S.rs c k ++ [⟨c, (rgAt (addStep S.rs c k) c).deep + 1, xb, beh K.l k + xz, [], 0⟩], S.of ++ [c], S.body ++ [((addStep S.rs c k).length : Int)], (addStep S.rs c k).length⟩
              else .ok ⟨addStep S.rs c k, S.of ++ [c], S.body ++ [-1], c⟩
            else .error ((pl K.l k : Int), 51)) = spStep K.s K.l k S) := Lib.hid (by
            unfold spStep
            simp only [HXX.out, HC.out])
          have HST : Hid ((match spStep K.s K.l k S with
            | .ok S' => splitF K.s K.l (K.l.length - (k + 1)) (k + 1) S'
            | .error e => .error e) = R) := Lib.hid (by
            have := HRE.out
            obtain ⟨f, hf⟩ : ∃ f, K.l.length - k = f + 1 := ⟨K.l.length - k - 1, by omega⟩
            rw [hf] at this
            unfold splitF at this
            rw [show K.l.length - (k + 1) = f by omega]
            exact this)
          have HNT : Hid (SpOk K.l (k + 1) ⟨addStep S.rs c k, S.of ++ [c], S.body ++ [-1], c⟩ ∧ (addStep S.rs c k).length ≤ k + 1 ∧ ∀ q, q < (addStep S.rs c k).length → (rgAt (addStep S.rs c k) q).steps ≠ []) := Lib.hid (by
            have := HSO.out.note ok.ok hlt (b := -1)
            rw [HC.out] at this
            exact this)
          have hrl6 : (addStep S.rs c k).length = S.rs.length := by simp [addStep]
          have H46 : Hid (Calls Tryd.prog 42 #[.pointer (some ⟨K.g, 0, none⟩), .agg #[.int .i64 op, .int .i64 xa, .int .i64 xb, .int .i64 xc, .int .i64 xz], .int .i64 (c : Int)] wc fun e w' => e = .returned (.bool (opdO K.s (addStep S.rs c k) ⟨op, xa, xb, xc, xz⟩ c)) ∧ Below wc.heap.size wc w') :=
            Lib.hid (operands_any HS6.out.vm HS6.out.le HNT.out.1.rok (by dsimp only; omega) ⟨op, xa, xb, xc, xz⟩ HXOK.out c (by dsimp only; omega))
          have x0 : wc.cell? ⟨bx, 0, none⟩ = some (.int .i64 op) := HS6.out.box.cell 0
          have x1 : wc.cell? ⟨bx, 1, none⟩ = some (.int .i64 xa) := HS6.out.box.cell 1
          have x2 : wc.cell? ⟨bx, 2, none⟩ = some (.int .i64 xb) := HS6.out.box.cell 2
          have x3 : wc.cell? ⟨bx, 3, none⟩ = some (.int .i64 xc) := HS6.out.box.cell 3
          have x4 : wc.cell? ⟨bx, 4, none⟩ = some (.int .i64 xz) := HS6.out.box.cell 4
          generalize hopd : opdO K.s (addStep S.rs c k) ⟨op, xa, xb, xc, xz⟩ c = opd at *
          clear hopd
          have HRL := Lib.hid hrl6
          clear hrl6
          cases opd with
          | false =>
            have HF : Hid (R = .error ((pl K.l k : Int), 51)) := Lib.hid (by
              have := HST.out
              rw [← HSP.out] at this
              simpa using this.symm)
            clear HST HSP
            go_wp2_with (go_at_call 42; refine H46.out.mono ?_; rintro e w7 ⟨rfl, hb7⟩; have HS7 := Lib.hid (HS6.out.below hb7); have hp5 := (HPC.out w7 _ HS7.out.vm).1; have hpk := (HPC.out w7 _ HS7.out.vm).2; clear hb7)
            go_ret2
            rw [HF.out]
            exact ⟨_, HS7.out.vm, HS7.out.old, rfl, rfl, rfl, rfl⟩
          | true =>
            by_cases h24 : op = 24
            · exact absurd (by rw [← h24]; exact congrArg Ins.op HXX.out) (hnb k hlt)
            · have HN : Hid (splitF K.s K.l (K.l.length - (k + 1)) (k + 1) ⟨addStep S.rs c k, S.of ++ [c], S.body ++ [-1], c⟩ = R) := Lib.hid (by
                have := HST.out
                rw [← HSP.out] at this
                simpa [h24] using this)
              have d24 : (op != 24) = true := by simpa using h24
              clear HST HSP
              go_wp2_with (go_at_call 42; refine H46.out.mono ?_; rintro e w7 ⟨rfl, hb7⟩; have HS7 := Lib.hid (HS6.out.below hb7); have y0 : w7.cell? ⟨bx, 0, none⟩ = some (.int .i64 op) := HS7.out.box.cell 0; clear hb7)
              go_roundw
              case rel => exact ⟨k + 1, _, by omega, by go_num, rfl, ⟨⟨_, HS7.out.vm, rfl, rfl, rfl, rfl, rfl, rfl⟩, HS7.out.old, HNT.out.1⟩, HN.out⟩
              case measure => simp [intOf]; omega
    · have HE : Hid (R = .ok S) := Lib.hid (by
        have := HRE.out
        rw [show K.l.length - k = 0 by omega] at this
        exact this.symm)
      go_wp2
      go_ret2
      rw [HE.out]
      obtain ⟨D2, n1, n2, n3, n4, n5⟩ := HM.out.vm
      exact ⟨D2, n1, HM.out.old, n2, n3, n4, rfl, n5⟩
end Go.Proofs.YtaeegkljldngmaaDoor
