/-
  The verifier's split f36. No statement of the seat is proved here.
-/
import Derived.Test.YtaeegkljldngmaaCvG
import Derived.Test.YtaeegkljldngmaaHeldY
import Derived.Test.YtaeegkljldngmaaCvS
namespace Go.Proofs.Ytaeegkljldngmaa
open Go.RowKit

set_option maxRecDepth 100000 in
theorem build_rg {ops : Array Oper} {t : Tmp} (p1 p2 p3 p4 : Int) {a : Act} {w : World} {K : Act → World → Prop} {Q : Exit → Act → World → Prop} {E : Prop} {o : Oper} (hgd : o.guard = none) (ho : o.op = .buildSlice 84 1 #[(0, .tmp t)]) (hv : a.eval (.tmp t) = .agg #[.int .i64 p1, .int .i64 p2, .int .i64 p3, .int .i64 p4, .slice none 0 0, .int .i64 0])
    (h : K (a.put o.dst (.slice (some ⟨w.heap.size, 0, none⟩) 1 1)) ((w.alloc (.cells #[.int .i64 p1, .int .i64 p2, .int .i64 p3, .int .i64 p4, .slice none 0 0, .int .i64 0] 92)).drew)) : if Region.wanted o (yielded ops a.tmps) = true then Oper.wp Try.prog o a w.drew K Q else E := by
  have hw : Region.wanted o (yielded ops a.tmps) = true := by simp [Region.wanted, hgd]
  rw [if_pos hw]
  obtain ⟨dst, op, ty, pos, after, guard⟩ := o
  dsimp only at hgd ho h
  subst hgd ho
  have hv2 : a.tmps[t]?.getD undef = .agg #[.int .i64 p1, .int .i64 p2, .int .i64 p3, .int .i64 p4, .slice none 0 0, .int .i64 0] := by
    rw [← hv]
    simp [Act.eval]
  go_simp
  exact h
/-- a region is laid behind the others -/
theorem step_rg {w : World} {ops : Array Oper} {o : Oper} {a : Act} {Q : Exit → Act → World → Prop} {K : Act → World → Prop} {E : Prop} (hgd : o.guard = none) (s x : Operand) (ho : o.op = .call { callee := .builtin .append, args := #[s, x], argTypes := #[84, 84] })
    (base : Nat) (v : Value) (n : Nat) (xs : List Value) (hs : a.eval s = v) (hown : w.ownsRow base 92 6 v n xs) (B : Nat) (A : Option Addr) (c : Nat) (news : List Value) (hx : a.eval x = .slice A 1 c) (hr : Reads w B 6 A 1 news) (h1 : ∀ u ∈ news, u.oneCell' = true)
    (hb : (n + 1) * 64 ≤ 140737488355328) (hbase : base ≤ w.heap.size)
    (h : ∀ v' w', w'.ownsRow base 92 6 v' (n + 1) (xs ++ news) → App w v w' v' → K (a.put o.dst v') w') : if Region.wanted o (yielded ops a.tmps) = true then Oper.wp Try.prog o a w K Q else E := by
  obtain ⟨i0, hi, hz0, hz1, hz2⟩ := info_parts info92
  refine step_append_any w hgd s x 84 ho base 92 i0 _ 6 64 Try.underlying84 hi hz0 hz1 hz2 rfl (by decide) v n xs hs hown B A 1 c news hx hr h1 (by simp only [maxLen]; omega) hb hbase fun v' w' h1 h2 h3 => h v' w' h1 ⟨h2, ?_⟩
  rcases h3 with e | e
  · exact .inl e
  · exact .inr ⟨_, e, Nat.le_refl _⟩
set_option maxRecDepth 100000 in
set_option maxHeartbeats 40000000 in
theorem split_any {base : Nat} {K : VK} {D : VD} {W : World} (h : VM base K D W) (hB : base ≤ W.heap.size) (ok : KOk K) (hn : 0 < K.l.length) (hrs : D.rs = []) (hsv : D.sv = []) (hof : D.of = []) (hbo : D.body = []) :
    Calls Try.prog 36 #[.pointer (some ⟨K.g, 0, none⟩)] W (SplP base K D (splitF K.s K.l K.l.length 0 (sp0 K.s (pl K.l K.l.length))) W) := by
  obtain ⟨R, hR⟩ : ∃ R, splitF K.s K.l K.l.length 0 (sp0 K.s (pl K.l K.l.length)) = R := ⟨_, rfl⟩
  rw [hR]
  have HR := Lib.hid hR
  have HV := Lib.hid h
  have c1 : W.cell? ⟨K.g, 1, none⟩ = some (.int .i64 K.s.temps) := h.blk.cell 1
  have c6 : W.cell? ⟨K.g, 6, none⟩ = some (.int .i64 (pl K.l K.l.length : Int)) := h.blk.cell 6
  have c8 : W.cell? ⟨K.g, 8, none⟩ = some D.rv := h.blk.cell 8
  have f8 : W.frozen? ⟨K.g, 8, none⟩ = false := h.blk.frozen 8
  have hg := h.blk.lt
  have hpos : 0 < pl K.l K.l.length := by
    have := pl_lt ok.ok (i := 0) (j := K.l.length) hn (Nat.le_refl _)
    omega
  have z43 := zero43
  clear hR
  go_enter Try.func36, Try.ntmps36
  go_upto_region 1 with fail
  have HQ : Hid (∀ (v : Value) (o : Obj), ((W.setCell ⟨K.g, 8, none⟩ v).alloc o).drew.cell? ⟨K.g, 1, none⟩ = some (.int .i64 K.s.temps) ∧ ((W.setCell ⟨K.g, 8, none⟩ v).alloc o).drew.cell? ⟨K.g, 6, none⟩ = some (.int .i64 (pl K.l K.l.length : Int))) :=
    Lib.hid fun v o => ⟨((h.blk.set_ 8 v).alloc o).drew.cell 1, ((h.blk.set_ 8 v).alloc o).drew.cell 6⟩
  go_region
  clear c1 c6 c8 f8 HQ
  have HM0 := Lib.hid (h.begin0 hB hrs hsv)
  generalize (((W.setCell ⟨K.g, 8, none⟩ (.slice (some ⟨W.heap.size, 0, none⟩) 1 1)).alloc (.cells #[.int .i64 (-1), .int .i64 0, .int .i64 K.s.temps, .int .i64 (pl K.l K.l.length : Int), .slice none 0 0, .int .i64 0] 92)).drew) = W1 at HM0 ⊢
  obtain ⟨D1, m1, m2, m3, m4, m5, m6, m7, m8⟩ := HM0.out
  have HSM : Hid (SpM base K D W 0 (sp0 K.s (pl K.l K.l.length)) W1) := Lib.hid ⟨⟨D1, m1, m2, m3, m4, m5, by rw [m6, hof]; rfl, by rw [m7, hbo]; rfl⟩, m8, sp0_ok K.s K.l hpos⟩
  obtain ⟨A0, cc0, hlv, -, -⟩ := own_form h.ins
  have c4 : W1.cell? ⟨K.g, 4, none⟩ = some (.slice A0 K.l.length cc0) := by rw [← hlv]; exact m1.blk.cell 4
  clear HM0 m1 m2 m3 m4 m5 m6 m7 m8 hrs hsv hof hbo hg
  go_wp2
  clear c4
  have hlen := ok.len
  go_loopw [4, 29] (fun r i wr => ∃ (k : Nat) (S : Sp), k ≤ K.l.length ∧ i = .int .i64 k ∧ r = .int .i64 (S.r : Int) ∧ SpM base K D W k S wr ∧ splitF K.s K.l (K.l.length - k) k S = R) (fun _ i _ => K.l.length - (intOf i).toNat)
  case atStart => exact ⟨0, _, Nat.zero_le _, rfl, rfl, HSM.out, HR.out⟩
  case round =>
    obtain ⟨k, S, hk, rfl, rfl, hM, hrest⟩ := hrel
    have HM := Lib.hid hM
    have HRE := Lib.hid hrest
    clear hM hrest HSM HR
    by_cases hlt : k < K.l.length
    · obtain ⟨⟨rv, rs', sv, ov, of', bv, body', dv', dp', ft'⟩, hv, q1, q2, q3, q4, q5, q6⟩ := HM.out.vm
      dsimp only at q1 q2 q3 q4 q5 q6
      subst q1 q2 q3 q4 q5 q6
      have hold := HM.out.old
      have HSO := Lib.hid HM.out.ok
      have hBr : base ≤ wr.heap.size := Nat.le_trans hB hold.size
      obtain ⟨pb, pc, lb, lc, hp, hl⟩ := hv.forms hn
      have hA0 : A0 = some ⟨lb, 0, none⟩ := by rw [hlv] at hl; injection hl
      subst hA0
      obtain ⟨-, e0, e1, e2, e3, e4⟩ := hv.lcell hl hlt
      have hlbw := (World.ownsRow.lt hv.ins lb (by rw [hl]; simp [Value.ownBlock])).2
      have l1 : (0 : Int) ≤ (k : Int) := by omega
      have l2 : (k : Int) < (K.l.length : Int) := by omega
      have HPC := Lib.hid fun W D (h : VM base K D W) => h.pcell hp hlt
      have HXOK := Lib.hid (ok.at_ hlt)
      obtain ⟨rb, rc, hrv⟩ := hv.rform HSO.out.rok.pos
      dsimp only at hrv
      subst hrv
      have HRC := Lib.hid fun W r hr (h : VM base K (⟨.slice (some ⟨rb, 0, none⟩) S.rs.length rc, S.rs, sv, ov, S.of, bv, S.body, D.dv, D.dp, D.fault⟩ : VD) W) => h.rcell (rb := rb) (rc := rc) (r := r) rfl hr
      have HS2 : Hid (SB base K W wr.heap.size #[.int .i64 (insD K.l k).op, .int .i64 (insD K.l k).a, .int .i64 (insD K.l k).b, .int .i64 (insD K.l k).c, .int .i64 (insD K.l k).z] _ (wr.alloc (.cells #[.int .i64 (insD K.l k).op, .int .i64 (insD K.l k).a, .int .i64 (insD K.l k).b, .int .i64 (insD K.l k).c, .int .i64 (insD K.l k).z] 43))) :=
        Lib.hid ⟨hv.alloc hBr _, Blk.new wr 43 _, hold.alloc hBr _, fun e => by have := (World.ownsRow.lt hv.ins _ e).2; omega, hB⟩
      have HP0 := Lib.hid (HSO.out.p0 ok.ok hlt)
      have hrlt := HSO.out.rlt
      obtain ⟨c, HC⟩ : ∃ c, Hid (climb S.rs (pl K.l k) S.r S.r = c) := ⟨_, Lib.hid rfl⟩
      have hrl2 : S.rs.length ≤ 32768 := by have := HSO.out.cnt; omega
      clear hp hl hold hv
      generalize hxx : insD K.l k = x at *
      have HXX := Lib.hid hxx
      clear hxx
      obtain ⟨op, xa, xb, xc, xz⟩ := x
      dsimp only at e0 e1 e2 e3 e4 HS2
      go_upto_block 2 with fail
      clear e0 e1 e2 e3 e4 hlbw
      generalize hbx : wr.heap.size = bx at *
      generalize wr.alloc (.cells #[.int .i64 op, .int .i64 xa, .int .i64 xb, .int .i64 xc, .int .i64 xz] 43) = W2 at *
      clear hbx
      go_cut [4] (fun v wx => v = .int .i64 (c : Int) ∧ ∃ n, wx = W2.drewN n)
      case first => as_aux_lemma =>
        have p5 := (HPC.out W2 _ HS2.out.vm).1
        have pk := (HPC.out W2 _ HS2.out.vm).2
        go_wp2
        go_loopw [4] (fun r wx => ∃ (r' n : Nat), r = .int .i64 (r' : Int) ∧ r' < S.rs.length ∧ Hid (climb S.rs (pl K.l k) r' r' = c) ∧ wx = W2.drewN n) (fun r _ => (intOf r).toNat)
        case atStart => exact ⟨S.r, 0, rfl, hrlt, HC, rfl⟩
        case round =>
          obtain ⟨r', n, rfl, hr', HC2, rfl⟩ := hrel
          obtain ⟨r8, ro, rd, rt, rf, rs4, rm⟩ := HRC.out W2 r' hr' HS2.out.vm
          have l3 : (0 : Int) ≤ (r' : Int) := by omega
          have l4 : (r' : Int) < (S.rs.length : Int) := by omega
          clear rd rt rs4 rm
          by_cases hf : (pl K.l k : Int) = (rgAt S.rs r').fin
          · obtain ⟨o, ho1, ho2, ho3⟩ := climb_up HSO.out.rok HP0.out (r := r') (by omega) hf
            rw [show (rgAt S.rs r').outer = (o : Int) from ho1] at ro
            have HC3 : Hid (climb S.rs (pl K.l k) o o = c) := Lib.hid (by rw [ho3]; exact HC2.out)
            have d1 : ((pl K.l k : Int) == (rgAt S.rs r').fin) = true := by simp [hf]
            clear hf ho1 ho3 HC2
            generalize (rgAt S.rs r').fin = fn at *
            generalize pl K.l k = p at *
            go_wp2
            go_quiet (fail)
            go_wp2
            go_roundw
            case rel => exact ⟨o, _, rfl, by omega, HC3, rfl⟩
            case measure => simp [intOf]; omega
          · have HC3 : Hid (r' = c) := Lib.hid (by rw [← HC2.out, climb_stay hf])
            have d1 : ((pl K.l k : Int) == (rgAt S.rs r').fin) = false := by simp [hf]
            clear hf HC2
            generalize (rgAt S.rs r').fin = fn at *
            generalize pl K.l k = p at *
            go_wp2
            go_quiet (fail)
            go_wp2_with fail
            go_meet
            exact ⟨by rw [HC3.out], _, drewN_drewN _ _ _⟩
      case rest =>
        have HRC5 := Lib.hid fun W (c : Nat) (hc : c < S.rs.length) (A4 : Option Addr) (n4 k4 : Nat) (of4 : List Nat) (A5 : Option Addr) (n5 k5 : Nat) (bo5 : List Int) (h : VM base K (⟨.slice (some ⟨rb, 0, none⟩) S.rs.length rc, S.rs, sv, .slice A4 n4 k4, of4, .slice A5 n5 k5, bo5, D.dv, D.dp, D.fault⟩ : VD) W) => h.rcell (rb := rb) (rc := rc) (r := c) rfl hc
        obtain ⟨rfl, n3, rfl⟩ := hcut
        have HS3 := Lib.hid (HS2.out.drewN n3)
        have hcl := climb_le HSO.out.rok HP0.out S.r S.r (Nat.le_refl _) hrlt
        rw [HC.out] at hcl
        have hcr : c < S.rs.length := by omega
        clear hcl
        generalize W2.drewN n3 = W3 at *
        clear HS2
        obtain ⟨Ao, co, ho, -, -⟩ := own_form HS3.out.vm.oft
        obtain ⟨Ab, cb, hb, -, -⟩ := own_form HS3.out.vm.bdy
        dsimp only at ho hb
        subst ho hb
        have c9 : W3.cell? ⟨K.g, 9, none⟩ = some (.slice Ao (natZ S.of).length co) := HS3.out.vm.blk.cell 9
        have f9 : W3.frozen? ⟨K.g, 9, none⟩ = false := HS3.out.vm.blk.frozen 9
        have hg3 := HS3.out.vm.blk.lt
        have hofl : (natZ S.of).length = k := by simp [natZ, HSO.out.ofl]
        have hbB : base ≤ W3.heap.size := HS3.out.le
        have HOFL := Lib.hid hofl
        clear hofl
        have HO3 : Hid (OwnZ W3 base (.slice Ao (natZ S.of).length co) (natZ S.of)) := Lib.hid HS3.out.vm.oft
        have HAP : Hid (∀ (o : Obj) (v4 : Value) (w4 : World), OwnZ w4 base v4 (natZ S.of ++ [(c : Int)]) → App (W3.alloc o) (.slice Ao (natZ S.of).length co) w4 v4 →
            SB base K W bx #[.int .i64 op, .int .i64 xa, .int .i64 xb, .int .i64 xc, .int .i64 xz] ⟨.slice (some ⟨rb, 0, none⟩) S.rs.length rc, S.rs, sv, v4, S.of ++ [c], .slice Ab S.body.length cb, S.body, D.dv, D.dp, D.fault⟩ (w4.setCell ⟨K.g, 9, none⟩ v4) ∧ w4.cell? ⟨K.g, 9, none⟩ = some (.slice Ao (natZ S.of).length co) ∧ w4.frozen? ⟨K.g, 9, none⟩ = false ∧ K.g < w4.heap.size) := Lib.hid fun o v4 w4 ho4 ha4 => by
          have hs := HS3.out.alloc o
          have hg4 := ha4.blk hs.vm.blk (own_blk_ne hs.vm.oft hs.vm.blk (by decide))
          exact ⟨hs.turn (VM.appO hs.vm hs.le (zs := S.of ++ [c]) ha4 (by rw [natZ_snoc]; exact ho4)), hg4.cell 9, hg4.frozen 9, hg4.lt⟩
        go_upto_region 9 with (at_builtin; refine app_z rfl (.tmp 62) (.tmp 64) rfl base _ (natZ S.of) rfl (HO3.out.alloc _) _ _ 1 1 [(c : Int)] rfl (Reads.builtN' _ 3 _ ([(c : Int)].map iv) 1 1 rfl rfl) (by have := HOFL.out; omega) (by simp; omega) ?_; intro v4 w4 ho4 ha4; obtain ⟨A4, k4, rfl, -, -⟩ := own_form ho4; obtain ⟨hs4, c94, f94, g94⟩ := HAP.out _ _ w4 ho4 ha4; simp only [List.length_append, List.length_cons, List.length_nil, Nat.zero_add] at hs4; have HS4 := Lib.hid hs4; clear hs4 ho4 ha4)
        clear c9 f9 c94 f94 g94 HAP HO3 HS3 hg3 hbB
        generalize w4.setCell ⟨K.g, 9, none⟩ (.slice A4 ((natZ S.of).length + 1) k4) = W4 at *
        have hbB : base ≤ W4.heap.size := HS4.out.le
        have hg4 := HS4.out.vm.blk.lt
        have c10 : W4.cell? ⟨K.g, 10, none⟩ = some (.slice Ab S.body.length cb) := HS4.out.vm.blk.cell 10
        have hbl : S.body.length = k := HSO.out.bol
        have HBL := Lib.hid hbl
        have HO4 : Hid (OwnZ W4 base (.slice Ab S.body.length cb) S.body) := Lib.hid HS4.out.vm.bdy
        have HAP : Hid (∀ (o : Obj) (v5 : Value) (w5 : World), OwnZ w5 base v5 (S.body ++ [-1]) → App (W4.alloc o) (.slice Ab S.body.length cb) w5 v5 →
            SB base K W bx #[.int .i64 op, .int .i64 xa, .int .i64 xb, .int .i64 xc, .int .i64 xz] ⟨.slice (some ⟨rb, 0, none⟩) S.rs.length rc, S.rs, sv, .slice A4 ((natZ S.of).length + 1) k4, S.of ++ [c], v5, S.body ++ [-1], D.dv, D.dp, D.fault⟩ (w5.setCell ⟨K.g, 10, none⟩ v5) ∧ w5.cell? ⟨K.g, 10, none⟩ = some (.slice Ab S.body.length cb) ∧ w5.frozen? ⟨K.g, 10, none⟩ = false ∧ K.g < w5.heap.size) := Lib.hid fun o v5 w5 ho5 ha5 => by
          have hs := HS4.out.alloc o
          have hg5 := ha5.blk hs.vm.blk (own_blk_ne hs.vm.bdy hs.vm.blk (by decide))
          exact ⟨hs.turn (VM.appB hs.vm hs.le (zs := S.body ++ [-1]) ha5 ho5), hg5.cell 10, hg5.frozen 10, hg5.lt⟩
        clear hbl
        go_upto_region 10 with (at_builtin; refine app_z rfl (.tmp 72) (.tmp 73) rfl base _ S.body rfl (HO4.out.alloc _) _ _ 1 1 [-1] rfl (Reads.builtN' _ 3 _ ([(-1 : Int)].map iv) 1 1 rfl rfl) (by have := HBL.out; omega) (by simp; omega) ?_; intro v5 w5 ho5 ha5; obtain ⟨A5, k5, rfl, -, -⟩ := own_form ho5; obtain ⟨hs5, c105, f105, g105⟩ := HAP.out _ _ w5 ho5 ha5; simp only [List.length_append, List.length_cons, List.length_nil, Nat.zero_add] at hs5; have HS5 := Lib.hid hs5; clear hs5 ho5 ha5)
        clear c10 c105 f105 g105 HAP HO4 HS4 hg4 hbB
        generalize w5.setCell ⟨K.g, 10, none⟩ (.slice A5 (S.body.length + 1) k5) = W5 at *
        have hvm5 := HS5.out.vm
        obtain ⟨t8, -, -, -, -, t4, -⟩ := HRC5.out W5 c hcr _ _ _ _ _ _ _ _ hvm5
        have hsvl : sv.length = S.rs.length := hvm5.stl
        have hsvc : sv[c]? = some (sv.getD c (.slice none 0 0)) := by
          rw [List.getD_eq_getElem?_getD, List.getElem?_eq_getElem (by omega)]
          rfl
        have hso := hvm5.sts c _ _ (rgAt_some hcr) hsvc
        obtain ⟨As, cs, hse, -, -⟩ := own_form hso
        have hstl : (natZ (rgAt S.rs c).steps).length ≤ k := by
          have := HSO.out.stl _ (List.mem_of_getElem? (rgAt_some hcr))
          simpa [natZ] using this
        have HAP : Hid (∀ (o : Obj) (v6 : Value) (w6 : World), OwnZ w6 base v6 (natZ (rgAt S.rs c).steps ++ [(k : Int)]) → App ((W5.alloc o).drew) (sv.getD c (.slice none 0 0)) w6 v6 →
            SB base K W bx #[.int .i64 op, .int .i64 xa, .int .i64 xb, .int .i64 xc, .int .i64 xz] ⟨.slice (some ⟨rb, 0, none⟩) S.rs.length rc, addStep S.rs c k, sv.set c v6, .slice A4 ((natZ S.of).length + 1) k4, S.of ++ [c], .slice A5 (S.body.length + 1) k5, S.body ++ [-1], D.dv, D.dp, D.fault⟩ (w6.setCell ⟨rb, c * 6 + 4, none⟩ v6) ∧ w6.cell? ⟨K.g, 8, none⟩ = some (.slice (some ⟨rb, 0, none⟩) S.rs.length rc) ∧ w6.cell? ⟨rb, c * 6 + 4, none⟩ = some (sv.getD c (.slice none 0 0)) ∧ w6.frozen? ⟨rb, c * 6 + 4, none⟩ = false ∧ K.g < w6.heap.size ∧ rb < w6.heap.size) := Lib.hid fun o v6 w6 ho6 ha6 => by
          have hs := (HS5.out.alloc o).drewN 1
          have hso2 := hs.vm.sts c _ _ (rgAt_some hcr) hsvc
          have hg6 := ha6.blk hs.vm.blk (own_blk_ne hso2 hs.vm.blk (by decide))
          have hr6 := two_app ha6 hso2 hs.vm.rgs (by decide)
          refine ⟨hs.turn (VM.appS hs.vm hs.le rfl hcr hsvc ha6 (by rw [natZ_snoc]; exact ho6)), hg6.cell 8, ?_, World.ownsRow.frozenAt hr6 _, hg6.lt, (World.ownsRow.lt hr6 rb (by simp [Value.ownBlock])).2⟩
          rw [World.ownsRow.cellAt hr6 _ (by omega)]
          exact rgC_at _ _ _ _ (rgAt_some hcr) 4 (by omega)
        have HSO5 := Lib.hid hso
        have hg5 := hvm5.blk.lt
        have hrb5 := (World.ownsRow.lt hvm5.rgs rb (by simp [Value.ownBlock])).2
        have hbB : base ≤ W5.heap.size := HS5.out.le
        have l5 : (0 : Int) ≤ (c : Int) := by omega
        have l6 : (c : Int) < (S.rs.length : Int) := by omega
        clear hvm5 hso hsvc hsvl
        generalize sv.getD c (.slice none 0 0) = sc at *
        subst hse
        generalize natZ (rgAt S.rs c).steps = stz at *
        go_cut [4] (fun v wx => v = .int .i64 (c : Int) ∧ ∃ A6 n6 k6, SB base K W bx #[.int .i64 op, .int .i64 xa, .int .i64 xb, .int .i64 xc, .int .i64 xz] ⟨.slice (some ⟨rb, 0, none⟩) S.rs.length rc, addStep S.rs c k, sv.set c (.slice A6 n6 k6), .slice A4 ((natZ S.of).length + 1) k4, S.of ++ [c], .slice A5 (S.body.length + 1) k5, S.body ++ [-1], D.dv, D.dp, D.fault⟩ wx)
        case first => as_aux_lemma =>
          have hS5 : W5.cell? ⟨K.g, 8, none⟩ = some (.slice (some ⟨rb, 0, none⟩) S.rs.length rc) ∧ W5.cell? ⟨rb, c * 6 + 4, none⟩ = some (.slice As stz.length cs) := ⟨HS5.out.vm.blk.cell 8, t4⟩
          refine wp_region_x (s := 18) (S := fun W' => W'.cell? ⟨K.g, 8, none⟩ = some (.slice (some ⟨rb, 0, none⟩) S.rs.length rc) ∧ W'.cell? ⟨rb, c * 6 + 4, none⟩ = some (.slice As stz.length cs)) (by kernel_rfl) hS5 (fun hHeld => ?_)
          refine wpAnyX_take (i := 0) (v := ?_) (by simp only [List.getElem?_toArray, List.getElem?_cons_zero]; rfl) (by kernel_rfl) (by kernel_rfl) (by kernel_rfl) (by kernel_rfl) (by exact fun _ _ _ h => h) (Or.inl ⟨by rfl, ?_⟩) (by assumption) ?_
          rotate_left
          · intro w hSw; (try dsimp only at hSw); go_split_ands; go_simp <;> with_reducible rfl
          try simp only [Act.put, List.setIfInBounds_toArray, List.set_cons_zero, List.set_cons_succ]
          refine wpAnyX_take (i := 1) (v := ?_) (by simp only [List.getElem?_toArray, List.getElem?_cons_succ, List.getElem?_cons_zero]; rfl) (by kernel_rfl) (by kernel_rfl) (by kernel_rfl) (by kernel_rfl) (by exact fun _ _ _ h => h) (Or.inl ⟨by rfl, ?_⟩) (by assumption) ?_
          rotate_left
          · intro w hSw; (try dsimp only at hSw); go_split_ands; go_simp <;> with_reducible rfl
          try simp only [Act.put, List.setIfInBounds_toArray, List.set_cons_zero, List.set_cons_succ]
          refine wpAnyX_take (i := 2) (v := ?_) (by simp only [List.getElem?_toArray, List.getElem?_cons_succ, List.getElem?_cons_zero]; rfl) (by kernel_rfl) (by kernel_rfl) (by kernel_rfl) (by kernel_rfl) (by exact fun _ _ _ h => h) (Or.inl ⟨by rfl, ?_⟩) (by assumption) ?_
          rotate_left
          · intro w hSw; (try dsimp only at hSw); go_split_ands; go_simp <;> with_reducible rfl
          try simp only [Act.put, List.setIfInBounds_toArray, List.set_cons_zero, List.set_cons_succ]
          refine wpAnyX_take (i := 3) (v := ?_) (by simp only [List.getElem?_toArray, List.getElem?_cons_succ, List.getElem?_cons_zero]; rfl) (by kernel_rfl) (by kernel_rfl) (by kernel_rfl) (by kernel_rfl) (by exact fun _ _ _ h => h) (Or.inl ⟨by rfl, ?_⟩) (by assumption) ?_
          rotate_left
          · intro w hSw; (try dsimp only at hSw); go_split_ands; go_simp <;> with_reducible rfl
          try simp only [Act.put, List.setIfInBounds_toArray, List.set_cons_zero, List.set_cons_succ]
          refine wpAnyX_take (i := 4) (v := ?_) (by simp only [List.getElem?_toArray, List.getElem?_cons_succ, List.getElem?_cons_zero]; rfl) (by kernel_rfl) (by kernel_rfl) (by kernel_rfl) (by kernel_rfl) (by exact fun _ _ _ h => h) (Or.inl ⟨by rfl, ?_⟩) (by assumption) ?_
          rotate_left
          · intro w hSw; (try dsimp only at hSw); go_split_ands; go_simp <;> with_reducible rfl
          try simp only [Act.put, List.setIfInBounds_toArray, List.set_cons_zero, List.set_cons_succ]
          refine wpAnyX_take (i := 5) (v := ?_) (by simp only [List.getElem?_toArray, List.getElem?_cons_succ, List.getElem?_cons_zero]; rfl) (by kernel_rfl) (by kernel_rfl) (by kernel_rfl) (by kernel_rfl) (by exact fun _ _ _ h => h) (Or.inl ⟨by rfl, ?_⟩) (by assumption) ?_
          rotate_left
          · intro w hSw; (try dsimp only at hSw); go_split_ands; go_simp <;> with_reducible rfl
          try simp only [Act.put, List.setIfInBounds_toArray, List.set_cons_zero, List.set_cons_succ]
          refine wpAnyX_take (i := 6) (v := ?_) (by simp only [List.getElem?_toArray, List.getElem?_cons_succ, List.getElem?_cons_zero]; rfl) (by kernel_rfl) (by kernel_rfl) (by kernel_rfl) (by kernel_rfl) (by exact fun _ _ _ h => h) (Or.inl ⟨by rfl, ?_⟩) (by assumption) ?_
          rotate_left
          · intro w hSw; (try dsimp only at hSw); go_split_ands; go_simp <;> with_reducible rfl
          try simp only [Act.put, List.setIfInBounds_toArray, List.set_cons_zero, List.set_cons_succ]
          refine wpAnyX_take (i := 7) (v := ?_) (by simp only [List.getElem?_toArray, List.getElem?_cons_succ, List.getElem?_cons_zero]; rfl) (by kernel_rfl) (by kernel_rfl) (by kernel_rfl) (by kernel_rfl) (by exact fun _ _ _ h => h) (Or.inl ⟨by rfl, ?_⟩) (by assumption) ?_
          rotate_left
          · intro w hSw; (try dsimp only at hSw); go_split_ands; go_simp <;> with_reducible rfl
          try simp only [Act.put, List.setIfInBounds_toArray, List.set_cons_zero, List.set_cons_succ]
          refine wpAnyX_take (i := 8) (v := ?_) (by simp only [List.getElem?_toArray, List.getElem?_cons_succ, List.getElem?_cons_zero]; rfl) (by kernel_rfl) (by kernel_rfl) (by kernel_rfl) (by kernel_rfl) (by exact fun _ _ _ h => h) (Or.inl ⟨by rfl, ?_⟩) (by assumption) ?_
          rotate_left
          · intro w hSw; (try dsimp only at hSw); go_split_ands; go_simp <;> with_reducible rfl
          try simp only [Act.put, List.setIfInBounds_toArray, List.set_cons_zero, List.set_cons_succ]
          refine wpAnyX_take (i := 9) (v := ?_) (by simp only [List.getElem?_toArray, List.getElem?_cons_succ, List.getElem?_cons_zero]; rfl) (by kernel_rfl) (by kernel_rfl) (by kernel_rfl) (by kernel_rfl) (by exact fun _ _ _ h => h) (Or.inl ⟨by rfl, ?_⟩) (by assumption) ?_
          rotate_left
          · intro w hSw; (try dsimp only at hSw); go_split_ands; go_simp <;> with_reducible rfl
          try simp only [Act.put, List.setIfInBounds_toArray, List.set_cons_zero, List.set_cons_succ]
          refine wpAnyX_take (i := 10) (v := ?_) (by simp only [List.getElem?_toArray, List.getElem?_cons_succ, List.getElem?_cons_zero]; rfl) (by kernel_rfl) (by kernel_rfl) (by kernel_rfl) (by kernel_rfl) (by exact fun _ _ _ h => h) (Or.inl ⟨by rfl, ?_⟩) (by assumption) ?_
          rotate_left
          · intro w hSw; (try dsimp only at hSw); go_split_ands; go_simp <;> with_reducible rfl
          try simp only [Act.put, List.setIfInBounds_toArray, List.set_cons_zero, List.set_cons_succ]
          refine wpAnyX_take (i := 11) (v := ?_) (by simp only [List.getElem?_toArray, List.getElem?_cons_succ, List.getElem?_cons_zero]; rfl) (by kernel_rfl) (by kernel_rfl) (by kernel_rfl) (by kernel_rfl) (by exact fun _ _ _ h => h) (Or.inl ⟨by rfl, ?_⟩) (by assumption) ?_
          rotate_left
          · intro w hSw; (try dsimp only at hSw); go_split_ands; go_simp <;> with_reducible rfl
          try simp only [Act.put, List.setIfInBounds_toArray, List.set_cons_zero, List.set_cons_succ]
          refine wpAnyX_take (i := 12) (v := ?_) (by simp only [List.getElem?_toArray, List.getElem?_cons_succ, List.getElem?_cons_zero]; rfl) (by kernel_rfl) (by kernel_rfl) (by kernel_rfl) (by kernel_rfl) (by exact fun _ _ _ h => h) (Or.inl ⟨by rfl, ?_⟩) (by assumption) ?_
          rotate_left
          · intro w hSw; (try dsimp only at hSw); go_split_ands; go_simp <;> with_reducible rfl
          try simp only [Act.put, List.setIfInBounds_toArray, List.set_cons_zero, List.set_cons_succ]
          refine wpAnyX_take (i := 13) (v := ?_) (by simp only [List.getElem?_toArray, List.getElem?_cons_succ, List.getElem?_cons_zero]; rfl) (by kernel_rfl) (by kernel_rfl) (by kernel_rfl) (by kernel_rfl) (by exact fun _ _ _ h => h) (Or.inl ⟨by rfl, ?_⟩) (by assumption) ?_
          rotate_left
          · intro w hSw; (try dsimp only at hSw); go_split_ands; go_simp <;> with_reducible rfl
          try simp only [Act.put, List.setIfInBounds_toArray, List.set_cons_zero, List.set_cons_succ]
          refine wpAnyX_one (i := 14) (by kernel_rfl) (by simp only [List.getElem?_toArray, List.getElem?_cons_succ, List.getElem?_cons_zero]; rfl) (fun K2 hK2 => ?_)
          go_simp
          refine hK2.out _ _ (by go_keep) (fun hHeld => ?_)
          clear hK2 K2
          try simp only [Act.put, List.setIfInBounds_toArray, List.set_cons_zero, List.set_cons_succ]
          refine wpAnyX_one (i := 15) (by kernel_rfl) (by simp only [List.getElem?_toArray, List.getElem?_cons_succ, List.getElem?_cons_zero]; rfl) (fun K2 hK2 => ?_)
          (refine step_z rfl (.tmp 89) (.tmp 91) rfl base _ stz (by rfl) ((HSO5.out.alloc _).drew) _ _ 1 1 [(k : Int)] (by rfl) ((Reads.builtN' W5 3 _ ([(k : Int)].map iv) 1 1 rfl rfl).drew) (by omega) (by simp; omega) ?_; intro v6 w6 ho6 ha6; obtain ⟨A6, k6, rfl, -, -⟩ := own_form ho6; obtain ⟨hs6, d8, d4, df, dg, dr⟩ := HAP.out _ _ w6 ho6 ha6; simp only [List.length_append, List.length_cons, List.length_nil, Nat.zero_add] at hs6; have HS6 := Lib.hid hs6; clear hs6 ho6 ha6)
          refine hK2.out _ _ (⟨d8, d4⟩) (fun hHeld => ?_)
          clear hK2 K2
          try simp only [Act.put, List.setIfInBounds_toArray, List.set_cons_zero, List.set_cons_succ]
          refine wpAnyX_one (i := 16) (by kernel_rfl) (by simp only [List.getElem?_toArray, List.getElem?_cons_succ, List.getElem?_cons_zero]; rfl) (fun K2 hK2 => ?_)
          go_simp
          refine hK2.out _ _ (hHeld) (fun hHeld => ?_)
          clear hK2 K2
          try simp only [Act.put, List.setIfInBounds_toArray, List.set_cons_zero, List.set_cons_succ]
          refine wpAnyX_one (i := 17) (by kernel_rfl) (by simp only [List.getElem?_toArray, List.getElem?_cons_succ, List.getElem?_cons_zero]; rfl) (fun K2 hK2 => ?_)
          go_simp
          refine hK2.out _ _ (hHeld) (fun hHeld => ?_)
          clear hK2 K2
          try simp only [Act.put, List.setIfInBounds_toArray, List.set_cons_zero, List.set_cons_succ]
          refine wpAnyX_last (by kernel_rfl) (by simp only [List.getElem?_toArray, List.getElem?_cons_succ, List.getElem?_cons_zero]; rfl) (fun K2 hK2 => ?_)
          go_simp
          refine hK2.out _ _ ?_
          clear hK2 K2
          try simp only [Act.put, List.setIfInBounds_toArray, List.set_cons_zero, List.set_cons_succ]
          refine wpAnyX_done (by kernel_rfl) ?_ _
          (go_wp2_with fail; go_meet; exact ⟨rfl, _, _, _, HS6.out⟩)
        case rest => as_aux_lemma =>
          obtain ⟨rfl, A6, n6, k6, hs6⟩ := hcut
          have HS6 := Lib.hid hs6
          clear HS5 HSO5 HAP t8 t4 hg5 hrb5 hbB hs6
          have HSP : Hid ((if opdO K.s (addStep S.rs c k) ⟨op, xa, xb, xc, xz⟩ c = true then
              if op = 24 then
                if xz < 1 ∨ (rgAt (addStep S.rs c k) c).fin < beh K.l k + xz ∨ (ix K.l (beh K.l k + xz)).isNone = true then (Except.error ((pl K.l k : Int), 52) : Except (Int × Int) Sp)
                else .ok ⟨addStep S.rs c k ++ [⟨c, (rgAt (addStep S.rs c k) c).deep + 1, xb, beh K.l k + xz, [], 0⟩], S.of ++ [c], S.body ++ [((addStep S.rs c k).length : Int)], (addStep S.rs c k).length⟩
              else .ok ⟨addStep S.rs c k, S.of ++ [c], S.body ++ [-1], c⟩
            else .error ((pl K.l k : Int), 51)) = spStep K.s K.l k S) := Lib.hid (by
            unfold spStep
            simp only [HXX.out, HC.out])
          have HST : Hid ((match spStep K.s K.l k S with
            | .ok S' => splitF K.s K.l (K.l.length - (k + 1)) (k + 1) S'
            | .error e => .error e) = R) := Lib.hid (by
            have := HRE.out
            obtain ⟨f, hf⟩ : ∃ f, K.l.length - k = f + 1 := ⟨K.l.length - k - 1, by omega⟩
            rw [hf] at this
            unfold splitF at this
            rw [show K.l.length - (k + 1) = f by omega]
            exact this)
          have HNT : Hid (SpOk K.l (k + 1) ⟨addStep S.rs c k, S.of ++ [c], S.body ++ [-1], c⟩ ∧ (addStep S.rs c k).length ≤ k + 1 ∧ ∀ q, q < (addStep S.rs c k).length → (rgAt (addStep S.rs c k) q).steps ≠ []) := Lib.hid (by
            have := HSO.out.note ok.ok hlt (b := -1)
            rw [HC.out] at this
            exact this)
          have hrl6 : (addStep S.rs c k).length = S.rs.length := by simp [addStep]
          have H46 : Hid (Calls Try.prog 46 #[.pointer (some ⟨K.g, 0, none⟩), .agg #[.int .i64 op, .int .i64 xa, .int .i64 xb, .int .i64 xc, .int .i64 xz], .int .i64 (c : Int)] wc fun e w' => e = .returned (.bool (opdO K.s (addStep S.rs c k) ⟨op, xa, xb, xc, xz⟩ c)) ∧ Below wc.heap.size wc w') :=
            Lib.hid (operands_any HS6.out.vm HS6.out.le HNT.out.1.rok (by dsimp only; omega) ⟨op, xa, xb, xc, xz⟩ HXOK.out c (by dsimp only; omega))
          have x0 : wc.cell? ⟨bx, 0, none⟩ = some (.int .i64 op) := HS6.out.box.cell 0
          have x1 : wc.cell? ⟨bx, 1, none⟩ = some (.int .i64 xa) := HS6.out.box.cell 1
          have x2 : wc.cell? ⟨bx, 2, none⟩ = some (.int .i64 xb) := HS6.out.box.cell 2
          have x3 : wc.cell? ⟨bx, 3, none⟩ = some (.int .i64 xc) := HS6.out.box.cell 3
          have x4 : wc.cell? ⟨bx, 4, none⟩ = some (.int .i64 xz) := HS6.out.box.cell 4
          generalize hopd : opdO K.s (addStep S.rs c k) ⟨op, xa, xb, xc, xz⟩ c = opd at *
          clear hopd
          have HRL := Lib.hid hrl6
          clear hrl6
          cases opd with
          | false =>
            have HF : Hid (R = .error ((pl K.l k : Int), 51)) := Lib.hid (by
              have := HST.out
              rw [← HSP.out] at this
              simpa using this.symm)
            clear HST HSP
            go_wp2_with (go_at_call 46; refine H46.out.mono ?_; rintro e w7 ⟨rfl, hb7⟩; have HS7 := Lib.hid (HS6.out.below hb7); have hp5 := (HPC.out w7 _ HS7.out.vm).1; have hpk := (HPC.out w7 _ HS7.out.vm).2; clear hb7)
            go_ret2
            rw [HF.out]
            exact ⟨_, HS7.out.vm, HS7.out.old, rfl, rfl, rfl, rfl⟩
          | true =>
            by_cases h24 : op = 24
            · subst h24
              have hzb := HXOK.out.z
              have hbe := ok.beh hlt
              have hb1 : 0 ≤ beh K.l k ∧ beh K.l k ≤ 32767 := by
                have := ok.pl_le (k + 1) (by omega)
                omega
              have HBE := Lib.hid hbe
              clear hbe
              have HLK := Lib.hid fun W D (h : VM base K D W) => h.look ok (beh K.l k + xz)
              have HBHA := Lib.hid fun W D (h : VM base K D W) hB => behind_any (W := W.drew) h.drew hB ok k hlt
              dsimp only at hzb
              generalize hbh : beh K.l k = bh at *
              clear hbh
              have lw : IntKind.i64.wrap (bh + xz) = bh + xz := by rw [IntKind.wrap_i64]; omega
              generalize hix : ix K.l (bh + xz) = ixv at *
              clear hix
              have d24 : ((24 : Int) != 24) = false := by decide
              go_upto_region 14 with (go_at_call 46; refine H46.out.mono ?_; rintro e w7 ⟨rfl, hb7⟩; have HS7 := Lib.hid (HS6.out.below hb7); have y0 : w7.cell? ⟨bx, 0, none⟩ = some (.int .i64 24) := HS7.out.box.cell 0; clear hb7)
              have y4 : w7.cell? ⟨bx, 4, none⟩ = some (.int .i64 xz) := HS7.out.box.cell 4
              have HBH := Lib.hid (HBHA.out w7 _ HS7.out.vm HS7.out.le)
              go_region_held3 (fun W' => W'.cell? ⟨bx, 4, none⟩ = some (.int .i64 xz)) (first | go_keep | exact HS8.out.box.cell 4)
                (first | (go_at_call 47; ((with_reducible refine HBH.out.mono ?_); rintro e w8 ⟨rfl, hb8'⟩; have hb8 := below_of_drew hb8'; clear hb8'; have HS8 := Lib.hid (HS7.out.below hb8); clear hb8)))
              clear HBH HBHA y0 y4 x0 x1 x2 x3 x4 H46 HS6 HS7 d24
              have m7 : w8.cell? ⟨K.g, 7, none⟩ = some (.map (some K.mb)) := HS8.out.vm.blk.cell 7
              have mlk := HLK.out w8 _ HS8.out.vm
              have u8 : w8.cell? ⟨K.g, 8, none⟩ = some (.slice (some ⟨rb, 0, none⟩) S.rs.length rc) := HS8.out.vm.blk.cell 8
              obtain ⟨-, -, ud, -, uf, -, -⟩ := HS8.out.vm.rcell (rb := rb) (rc := rc) (r := c) (by dsimp only; rw [HRL.out]) (by dsimp only; have := HRL.out; omega)
              have hp5 := (HPC.out w8 _ HS8.out.vm).1
              have hpk := (HPC.out w8 _ HS8.out.vm).2
              have z4 : w8.cell? ⟨bx, 4, none⟩ = some (.int .i64 xz) := HS8.out.box.cell 4
              have hg8 := HS8.out.vm.blk.lt
              have hdp := HNT.out.1.rok.deep c c (Nat.le_refl _) (by dsimp only; have := HRL.out; omega)
              dsimp only at ud uf hdp
              have HSQ : Hid (∀ b : Bool, (decide (xz < 1 ∨ (rgAt (addStep S.rs c k) c).fin < bh + xz ∨ ixv.isNone = true) = b) → (if b then R = .error ((pl K.l k : Int), 52) else splitF K.s K.l (K.l.length - (k + 1)) (k + 1) ⟨addStep S.rs c k ++ [⟨c, (rgAt (addStep S.rs c k) c).deep + 1, xb, bh + xz, [], 0⟩], S.of ++ [c], S.body ++ [((addStep S.rs c k).length : Int)], (addStep S.rs c k).length⟩ = R)) := Lib.hid fun b hb => by
                have := HST.out
                rw [← HSP.out, if_pos (by trivial), if_pos (by trivial)] at this
                cases b with
                | true =>
                  rw [if_pos (of_decide_eq_true hb)] at this
                  rw [if_pos rfl]
                  exact this.symm
                | false =>
                  rw [if_neg (of_decide_eq_false hb)] at this
                  rw [if_neg (by simp)]
                  exact this
              clear HLK HST HSP
              have HERR : Hid (R = .error ((pl K.l k : Int), 52) → ∀ w', w' = w8 → SplP base K D R W (.returned (.tuple #[.int .i64 (pl K.l k : Int), .int .i64 52])) w') := Lib.hid fun hr w' hw => by
                subst hw
                rw [hr]
                exact ⟨_, HS8.out.vm, HS8.out.old, rfl, rfl, rfl, rfl⟩
              by_cases hz1 : xz < 1
              · have HE := Lib.hid (HERR.out (HSQ.out true (by simp [hz1])))
                clear HSQ HERR hdp HRE
                generalize (rgAt (addStep S.rs c k) c).fin = fn at *
                generalize (rgAt (addStep S.rs c k) c).deep = dn at *
                go_wp2
                all_goals (go_ret2; exact HE.out _ rfl)
              · have e1 : decide (xz < 1) = false := by simpa using hz1
                generalize hfn : (rgAt (addStep S.rs c k) c).fin = fn at *
                by_cases hz2 : fn < bh + xz
                · have HE := Lib.hid (HERR.out (HSQ.out true (by simp [hz2])))
                  have e2 : decide (fn < bh + xz) = true := by simpa using hz2
                  clear HSQ HERR hfn HRE
                  go_wp2
                  all_goals (go_ret2; exact HE.out _ rfl)
                · have e2 : decide (fn < bh + xz) = false := by simpa using hz2
                  rcases ixv with _ | q
                  · have HE := Lib.hid (HERR.out (HSQ.out true (by simp)))
                    simp only [Option.getD_none, Option.isSome_none] at mlk
                    clear HSQ HERR hfn HRE
                    go_wp2
                    all_goals (go_ret2; exact HE.out _ rfl)
                  · have HN := Lib.hid (show splitF K.s K.l (K.l.length - (k + 1)) (k + 1) ⟨addStep S.rs c k ++ [⟨c, (rgAt (addStep S.rs c k) c).deep + 1, xb, bh + xz, [], 0⟩], S.of ++ [c], S.body ++ [((addStep S.rs c k).length : Int)], (addStep S.rs c k).length⟩ = R from HSQ.out false (by simp; omega))
                    have HBG : Hid (SpOk K.l (k + 1) ⟨addStep S.rs c k ++ [⟨c, (rgAt (addStep S.rs c k) c).deep + 1, xb, bh + xz, [], 0⟩], S.of ++ [c], (S.body ++ [-1]).set k ((addStep S.rs c k).length : Int), (addStep S.rs c k).length⟩) := Lib.hid (by
                      have := HNT.out.1.begin_ HNT.out.2.1 HNT.out.2.2 (t := xb) (z := xz) (by omega) (by dsimp only; rw [hfn, ← HBE.out]; omega) (b := ((addStep S.rs c k).length : Int))
                      rw [← HBE.out] at this
                      exact this)
                    simp only [Option.getD_some, Option.isSome_some] at mlk
                    clear HSQ HERR hfn HRE
                    generalize hfn2 : (rgAt (addStep S.rs c k) c).fin = fn2 at *
                    generalize hdn : (rgAt (addStep S.rs c k) c).deep = dn at *
                    clear hfn2 hdn
                    have z2 : w8.cell? ⟨bx, 2, none⟩ = some (.int .i64 xb) := HS8.out.box.cell 2
                    have hbx8 := HS8.out.box.lt
                    have hrb8 := (World.ownsRow.lt HS8.out.vm.rgs rb (by simp [Value.ownBlock])).2
                    have lw2 : IntKind.i64.wrap (dn + 1) = dn + 1 := by rw [IntKind.wrap_i64]; omega
                    have hbB : base ≤ w8.heap.size := HS8.out.le
                    have HO8 : Hid (w8.ownsRow base 92 6 (.slice (some ⟨rb, 0, none⟩) S.rs.length rc) S.rs.length (rgC (addStep S.rs c k) (sv.set c (.slice A6 n6 k6)))) := Lib.hid (by
                      have := HS8.out.vm.rgs
                      dsimp only at this
                      rw [HRL.out] at this
                      exact this)
                    have HAPR : Hid (∀ (o : Obj) (v9 : Value) (w9 : World), w9.ownsRow base 92 6 v9 (S.rs.length + 1) (rgC (addStep S.rs c k) (sv.set c (.slice A6 n6 k6)) ++ [.int .i64 (c : Int), .int .i64 (dn + 1), .int .i64 xb, .int .i64 (bh + xz), .slice none 0 0, .int .i64 0]) → App ((w8.alloc o).drew) (.slice (some ⟨rb, 0, none⟩) S.rs.length rc) w9 v9 →
                        SB base K W bx #[.int .i64 24, .int .i64 xa, .int .i64 xb, .int .i64 xc, .int .i64 xz] ⟨v9, addStep S.rs c k ++ [⟨c, dn + 1, xb, bh + xz, [], 0⟩], sv.set c (.slice A6 n6 k6) ++ [.slice none 0 0], .slice A4 ((natZ S.of).length + 1) k4, S.of ++ [c], .slice A5 (S.body.length + 1) k5, S.body ++ [-1], D.dv, D.dp, D.fault⟩ (w9.setCell ⟨K.g, 8, none⟩ v9) ∧ w9.cell? ⟨K.g, 8, none⟩ = some (.slice (some ⟨rb, 0, none⟩) S.rs.length rc) ∧ w9.frozen? ⟨K.g, 8, none⟩ = false ∧ K.g < w9.heap.size) := Lib.hid fun o v9 w9 ho9 ha9 => by
                      have hs := (HS8.out.alloc o).drewN 1
                      have hg9 := ha9.blk hs.vm.blk (own_blk_ne hs.vm.rgs hs.vm.blk (by decide))
                      exact ⟨hs.turn (VM.appR hs.vm hs.le (x := ⟨c, dn + 1, xb, bh + xz, [], 0⟩) rfl ha9 (by dsimp only; rw [HRL.out]; exact ho9)), hg9.cell 8, hg9.frozen 8, hg9.lt⟩
                    go_upto_region 18 with fail
                    go_cut [4] (fun v wx => v = .int .i64 (c : Int) ∧ ∃ A9 k9, SB base K W bx #[.int .i64 24, .int .i64 xa, .int .i64 xb, .int .i64 xc, .int .i64 xz] ⟨.slice A9 (S.rs.length + 1) k9, addStep S.rs c k ++ [⟨c, dn + 1, xb, bh + xz, [], 0⟩], sv.set c (.slice A6 n6 k6) ++ [.slice none 0 0], .slice A4 ((natZ S.of).length + 1) k4, S.of ++ [c], .slice A5 (S.body.length + 1) k5, S.body ++ [-1], D.dv, D.dp, D.fault⟩ wx)
                    case first => as_aux_lemma =>
                      have hk6 : S.rs.length ≤ 32768 := hrl2
                      clear HN HBG HNT HRL HXOK HXX HBE hzb HSO HPC HRC HRC5 HP0 HC HOFL HBL HS8 HM m7 mlk hp5 hpk z4 e1 e2 hz1 hz2 lw h HV hpos ok hn z43 hlt hrlt hk l1 l2 hlv hb1 hcr hstl hrl2 hlen
                      have hS8 : w8.cell? ⟨K.g, 8, none⟩ = some (.slice (some ⟨rb, 0, none⟩) S.rs.length rc) ∧ w8.cell? ⟨rb, c * 6 + 1, none⟩ = some (.int .i64 dn) ∧ w8.cell? ⟨bx, 2, none⟩ = some (.int .i64 xb) := ⟨u8, ud, z2⟩
                      refine wp_region_y (E := fun j => j == 0 || decide (20 ≤ j)) (S := fun W' => W'.cell? ⟨K.g, 8, none⟩ = some (.slice (some ⟨rb, 0, none⟩) S.rs.length rc) ∧ W'.cell? ⟨rb, c * 6 + 1, none⟩ = some (.int .i64 dn) ∧ W'.cell? ⟨bx, 2, none⟩ = some (.int .i64 xb)) (by kernel_rfl) hS8 (fun hHeld => ?_)
                      refine wpAnyY_free (i := 0) (v := ?_) (by simp only [List.getElem?_toArray, List.getElem?_cons_zero]; rfl) (by rfl) (by kernel_rfl) (by kernel_rfl) (by kernel_rfl) (by exact fun _ _ _ h => h) (Or.inl ⟨by rfl, ?_⟩) ?_
                      rotate_left
                      · intro w hSw; (try dsimp only at hSw); go_split_ands; go_simp <;> with_reducible rfl
                      try simp only [Act.put, List.setIfInBounds_toArray, List.set_cons_zero, List.set_cons_succ]
                      refine wpAnyY_take (i := 1) (v := ?_) (by simp only [List.getElem?_toArray, List.getElem?_cons_succ, List.getElem?_cons_zero]; rfl) (by kernel_rfl) (by kernel_rfl) (by kernel_rfl) (by kernel_rfl) (by kernel_rfl) (by exact fun _ _ _ h => h) (Or.inl ⟨by rfl, ?_⟩) (by assumption) ?_
                      rotate_left
                      · intro w hSw; (try dsimp only at hSw); go_split_ands; go_simp <;> with_reducible rfl
                      try simp only [Act.put, List.setIfInBounds_toArray, List.set_cons_zero, List.set_cons_succ]
                      refine wpAnyY_take (i := 2) (v := ?_) (by simp only [List.getElem?_toArray, List.getElem?_cons_succ, List.getElem?_cons_zero]; rfl) (by kernel_rfl) (by kernel_rfl) (by kernel_rfl) (by kernel_rfl) (by kernel_rfl) (by exact fun _ _ _ h => h) (Or.inl ⟨by rfl, ?_⟩) (by assumption) ?_
                      rotate_left
                      · intro w hSw; (try dsimp only at hSw); go_split_ands; go_simp <;> with_reducible rfl
                      try simp only [Act.put, List.setIfInBounds_toArray, List.set_cons_zero, List.set_cons_succ]
                      refine wpAnyY_take (i := 3) (v := ?_) (by simp only [List.getElem?_toArray, List.getElem?_cons_succ, List.getElem?_cons_zero]; rfl) (by kernel_rfl) (by kernel_rfl) (by kernel_rfl) (by kernel_rfl) (by kernel_rfl) (by exact fun _ _ _ h => h) (Or.inl ⟨by rfl, ?_⟩) (by assumption) ?_
                      rotate_left
                      · intro w hSw; (try dsimp only at hSw); go_split_ands; go_simp <;> with_reducible rfl
                      try simp only [Act.put, List.setIfInBounds_toArray, List.set_cons_zero, List.set_cons_succ]
                      refine wpAnyY_take (i := 4) (v := ?_) (by simp only [List.getElem?_toArray, List.getElem?_cons_succ, List.getElem?_cons_zero]; rfl) (by kernel_rfl) (by kernel_rfl) (by kernel_rfl) (by kernel_rfl) (by kernel_rfl) (by exact fun _ _ _ h => h) (Or.inl ⟨by rfl, ?_⟩) (by assumption) ?_
                      rotate_left
                      · intro w hSw; (try dsimp only at hSw); go_split_ands; go_simp <;> with_reducible rfl
                      try simp only [Act.put, List.setIfInBounds_toArray, List.set_cons_zero, List.set_cons_succ]
                      refine wpAnyY_take (i := 5) (v := ?_) (by simp only [List.getElem?_toArray, List.getElem?_cons_succ, List.getElem?_cons_zero]; rfl) (by kernel_rfl) (by kernel_rfl) (by kernel_rfl) (by kernel_rfl) (by kernel_rfl) (by exact fun _ _ _ h => h) (Or.inl ⟨by rfl, ?_⟩) (by assumption) ?_
                      rotate_left
                      · intro w hSw; (try dsimp only at hSw); go_split_ands; go_simp <;> with_reducible rfl
                      try simp only [Act.put, List.setIfInBounds_toArray, List.set_cons_zero, List.set_cons_succ]
                      refine wpAnyY_take (i := 6) (v := ?_) (by simp only [List.getElem?_toArray, List.getElem?_cons_succ, List.getElem?_cons_zero]; rfl) (by kernel_rfl) (by kernel_rfl) (by kernel_rfl) (by kernel_rfl) (by kernel_rfl) (by exact fun _ _ _ h => h) (Or.inl ⟨by rfl, ?_⟩) (by assumption) ?_
                      rotate_left
                      · intro w hSw; (try dsimp only at hSw); go_split_ands; go_simp <;> with_reducible rfl
                      try simp only [Act.put, List.setIfInBounds_toArray, List.set_cons_zero, List.set_cons_succ]
                      refine wpAnyY_take (i := 7) (v := ?_) (by simp only [List.getElem?_toArray, List.getElem?_cons_succ, List.getElem?_cons_zero]; rfl) (by kernel_rfl) (by kernel_rfl) (by kernel_rfl) (by kernel_rfl) (by kernel_rfl) (by exact fun _ _ _ h => h) (Or.inl ⟨by rfl, ?_⟩) (by assumption) ?_
                      rotate_left
                      · intro w hSw; (try dsimp only at hSw); go_split_ands; go_simp <;> with_reducible rfl
                      try simp only [Act.put, List.setIfInBounds_toArray, List.set_cons_zero, List.set_cons_succ]
                      refine wpAnyY_take (i := 8) (v := ?_) (by simp only [List.getElem?_toArray, List.getElem?_cons_succ, List.getElem?_cons_zero]; rfl) (by kernel_rfl) (by kernel_rfl) (by kernel_rfl) (by kernel_rfl) (by kernel_rfl) (by exact fun _ _ _ h => h) (Or.inl ⟨by rfl, ?_⟩) (by assumption) ?_
                      rotate_left
                      · intro w hSw; (try dsimp only at hSw); go_split_ands; go_simp <;> with_reducible rfl
                      try simp only [Act.put, List.setIfInBounds_toArray, List.set_cons_zero, List.set_cons_succ]
                      refine wpAnyY_take (i := 9) (v := ?_) (by simp only [List.getElem?_toArray, List.getElem?_cons_succ, List.getElem?_cons_zero]; rfl) (by kernel_rfl) (by kernel_rfl) (by kernel_rfl) (by kernel_rfl) (by kernel_rfl) (by exact fun _ _ _ h => h) (Or.inl ⟨by rfl, ?_⟩) (by assumption) ?_
                      rotate_left
                      · intro w hSw; (try dsimp only at hSw); go_split_ands; go_simp <;> with_reducible rfl
                      try simp only [Act.put, List.setIfInBounds_toArray, List.set_cons_zero, List.set_cons_succ]
                      refine wpAnyY_take (i := 10) (v := ?_) (by simp only [List.getElem?_toArray, List.getElem?_cons_succ, List.getElem?_cons_zero]; rfl) (by kernel_rfl) (by kernel_rfl) (by kernel_rfl) (by kernel_rfl) (by kernel_rfl) (by exact fun _ _ _ h => h) (Or.inl ⟨by rfl, ?_⟩) (by assumption) ?_
                      rotate_left
                      · intro w hSw; (try dsimp only at hSw); go_split_ands; go_simp <;> with_reducible rfl
                      try simp only [Act.put, List.setIfInBounds_toArray, List.set_cons_zero, List.set_cons_succ]
                      refine wpAnyY_take (i := 11) (v := ?_) (by simp only [List.getElem?_toArray, List.getElem?_cons_succ, List.getElem?_cons_zero]; rfl) (by kernel_rfl) (by kernel_rfl) (by kernel_rfl) (by kernel_rfl) (by kernel_rfl) (by exact fun _ _ _ h => h) (Or.inl ⟨by rfl, ?_⟩) (by assumption) ?_
                      rotate_left
                      · intro w hSw; (try dsimp only at hSw); go_split_ands; go_simp <;> with_reducible rfl
                      try simp only [Act.put, List.setIfInBounds_toArray, List.set_cons_zero, List.set_cons_succ]
                      refine wpAnyY_take (i := 12) (v := ?_) (by simp only [List.getElem?_toArray, List.getElem?_cons_succ, List.getElem?_cons_zero]; rfl) (by kernel_rfl) (by kernel_rfl) (by kernel_rfl) (by kernel_rfl) (by kernel_rfl) (by exact fun _ _ _ h => h) (Or.inl ⟨by rfl, ?_⟩) (by assumption) ?_
                      rotate_left
                      · intro w hSw; (try dsimp only at hSw); go_split_ands; go_simp <;> with_reducible rfl
                      try simp only [Act.put, List.setIfInBounds_toArray, List.set_cons_zero, List.set_cons_succ]
                      refine wpAnyY_take (i := 13) (v := ?_) (by simp only [List.getElem?_toArray, List.getElem?_cons_succ, List.getElem?_cons_zero]; rfl) (by kernel_rfl) (by kernel_rfl) (by kernel_rfl) (by kernel_rfl) (by kernel_rfl) (by exact fun _ _ _ h => h) (Or.inl ⟨by rfl, ?_⟩) (by assumption) ?_
                      rotate_left
                      · intro w hSw; (try dsimp only at hSw); go_split_ands; go_simp <;> with_reducible rfl
                      try simp only [Act.put, List.setIfInBounds_toArray, List.set_cons_zero, List.set_cons_succ]
                      refine wpAnyY_take (i := 14) (v := ?_) (by simp only [List.getElem?_toArray, List.getElem?_cons_succ, List.getElem?_cons_zero]; rfl) (by kernel_rfl) (by kernel_rfl) (by kernel_rfl) (by kernel_rfl) (by kernel_rfl) (by exact fun _ _ _ h => h) (Or.inl ⟨by rfl, ?_⟩) (by assumption) ?_
                      rotate_left
                      · intro w hSw; (try dsimp only at hSw); go_split_ands; go_simp <;> with_reducible rfl
                      try simp only [Act.put, List.setIfInBounds_toArray, List.set_cons_zero, List.set_cons_succ]
                      refine wpAnyY_take (i := 15) (v := ?_) (by simp only [List.getElem?_toArray, List.getElem?_cons_succ, List.getElem?_cons_zero]; rfl) (by kernel_rfl) (by kernel_rfl) (by kernel_rfl) (by kernel_rfl) (by kernel_rfl) (by exact fun _ _ _ h => h) (Or.inl ⟨by rfl, ?_⟩) (by assumption) ?_
                      rotate_left
                      · intro w hSw; (try dsimp only at hSw); go_split_ands; go_simp <;> with_reducible rfl
                      try simp only [Act.put, List.setIfInBounds_toArray, List.set_cons_zero, List.set_cons_succ]
                      refine wpAnyY_take (i := 16) (v := ?_) (by simp only [List.getElem?_toArray, List.getElem?_cons_succ, List.getElem?_cons_zero]; rfl) (by kernel_rfl) (by kernel_rfl) (by kernel_rfl) (by kernel_rfl) (by kernel_rfl) (by exact fun _ _ _ h => h) (Or.inl ⟨by rfl, ?_⟩) (by assumption) ?_
                      rotate_left
                      · intro w hSw; (try dsimp only at hSw); go_split_ands; go_simp <;> with_reducible rfl
                      try simp only [Act.put, List.setIfInBounds_toArray, List.set_cons_zero, List.set_cons_succ]
                      refine wpAnyY_take (i := 17) (v := ?_) (by simp only [List.getElem?_toArray, List.getElem?_cons_succ, List.getElem?_cons_zero]; rfl) (by kernel_rfl) (by kernel_rfl) (by kernel_rfl) (by kernel_rfl) (by kernel_rfl) (by exact fun _ _ _ h => h) (Or.inl ⟨by rfl, ?_⟩) (by assumption) ?_
                      rotate_left
                      · intro w hSw; (try dsimp only at hSw); go_split_ands; go_simp <;> with_reducible rfl
                      try simp only [Act.put, List.setIfInBounds_toArray, List.set_cons_zero, List.set_cons_succ]
                      refine wpAnyY_one (i := 18) (by kernel_rfl) (by simp only [List.getElem?_toArray, List.getElem?_cons_succ, List.getElem?_cons_zero]; rfl) (fun K2 hK2 => ?_)
                      go_simp
                      refine hK2.out _ _ (hHeld) (fun hHeld => ?_)
                      clear hK2 K2
                      try simp only [Act.put, List.setIfInBounds_toArray, List.set_cons_zero, List.set_cons_succ]
                      refine wpAnyY_one (i := 19) (by kernel_rfl) (by simp only [List.getElem?_toArray, List.getElem?_cons_succ, List.getElem?_cons_zero]; rfl) (fun K2 hK2 => ?_)
                      refine build_rg (c : Int) (dn + 1) xb (bh + xz) rfl rfl (by rfl) ?_
                      refine hK2.out _ _ (by go_keep) (fun hHeld => ?_)
                      clear hK2 K2
                      try simp only [Act.put, List.setIfInBounds_toArray, List.set_cons_zero, List.set_cons_succ]
                      refine wpAnyY_late (i := 20) (by kernel_rfl) (by rfl) (by simp only [List.getElem?_toArray, List.getElem?_cons_succ, List.getElem?_cons_zero]; rfl) (fun K2 hK2 => ?_)
                      (refine step_rg rfl (.tmp 155) (.tmp 170) rfl base _ S.rs.length _ (by rfl) ((HO8.out.alloc _).drew) _ _ 1 [.int .i64 (c : Int), .int .i64 (dn + 1), .int .i64 xb, .int .i64 (bh + xz), .slice none 0 0, .int .i64 0] (by rfl) ((Reads.builtN' w8 92 _ [.int .i64 (c : Int), .int .i64 (dn + 1), .int .i64 xb, .int .i64 (bh + xz), .slice none 0 0, .int .i64 0] 1 6 rfl rfl).drew) (by intro u hu; simp only [List.mem_cons, List.not_mem_nil, or_false] at hu; rcases hu with rfl | rfl | rfl | rfl | rfl | rfl <;> rfl) (by omega) (by simp; omega) ?_; intro v9 w9 ho9 ha9; obtain ⟨A9, k9, rfl, -, -⟩ := own_form ho9; obtain ⟨hs9, d8, df, dg⟩ := HAPR.out _ _ w9 ho9 ha9; have HS9 := Lib.hid hs9; clear hs9 ho9 ha9)
                      refine hK2.out _ _ ?_
                      clear hK2 K2
                      try simp only [Act.put, List.setIfInBounds_toArray, List.set_cons_zero, List.set_cons_succ]
                      refine wpAnyY_late (i := 21) (by kernel_rfl) (by rfl) (by simp only [List.getElem?_toArray, List.getElem?_cons_succ, List.getElem?_cons_zero]; rfl) (fun K2 hK2 => ?_)
                      go_simp
                      refine hK2.out _ _ ?_
                      clear hK2 K2
                      try simp only [Act.put, List.setIfInBounds_toArray, List.set_cons_zero, List.set_cons_succ]
                      refine wpAnyY_late (i := 22) (by kernel_rfl) (by rfl) (by simp only [List.getElem?_toArray, List.getElem?_cons_succ, List.getElem?_cons_zero]; rfl) (fun K2 hK2 => ?_)
                      go_simp
                      refine hK2.out _ _ ?_
                      clear hK2 K2
                      try simp only [Act.put, List.setIfInBounds_toArray, List.set_cons_zero, List.set_cons_succ]
                      refine wpAnyY_late (i := 23) (by kernel_rfl) (by rfl) (by simp only [List.getElem?_toArray, List.getElem?_cons_succ, List.getElem?_cons_zero]; rfl) (fun K2 hK2 => ?_)
                      go_simp
                      refine hK2.out _ _ ?_
                      clear hK2 K2
                      try simp only [Act.put, List.setIfInBounds_toArray, List.set_cons_zero, List.set_cons_succ]
                      refine wpAnyY_done (by kernel_rfl) ?_ _
                      go_wp2_with fail
                      go_meet
                      exact ⟨rfl, _, _, HS9.out⟩
                    case rest => as_aux_lemma =>
                      obtain ⟨rfl, A9, k9, hs9⟩ := hcut
                      have HS9 := Lib.hid hs9
                      clear HO8 HAPR m7 mlk u8 ud uf hp5 hpk z4 z2 hg8 hbx8 hrb8 hbB HS8 hs9
                      obtain ⟨b5, k5', he5, -, hb5, -, -, -, hc5⟩ := own_at HS9.out.vm.bdy (i := k) (by have := HBL.out; simp; omega)
                      dsimp only at he5
                      simp only [List.length_append, List.length_cons, List.length_nil, Value.slice.injEq] at he5
                      obtain ⟨rfl, _, rfl⟩ := he5
                      obtain ⟨q5, q6⟩ := hc5 0 (by omega)
                      have hgb : K.g ≠ b5 := fun e => own_blk_ne HS9.out.vm.bdy HS9.out.vm.blk (by decide) (by simp [Value.ownBlock, e])
                      have c8 : wc.cell? ⟨K.g, 8, none⟩ = some (.slice A9 (S.rs.length + 1) k9) := HS9.out.vm.blk.cell 8
                      have c10 : wc.cell? ⟨K.g, 10, none⟩ = some (.slice (some ⟨b5, 0, none⟩) (S.body.length + 1) k5) := HS9.out.vm.blk.cell 10
                      have c5 : wc.cell? ⟨b5, k, none⟩ = some (.int .i64 (-1)) := by
                        have := q5
                        simp only [Nat.mul_one, Nat.add_zero, List.map_append, List.map_cons, List.map_nil] at this
                        rw [this, List.getElem?_append_right (by have := HBL.out; simp; omega)]
                        have e : k - (S.body.map iv).length = 0 := by have := HBL.out; simp; omega
                        rw [e]
                        rfl
                      have f5 : wc.frozen? ⟨b5, k, none⟩ = false := by simpa using q6
                      have hg9 := HS9.out.vm.blk.lt
                      have l7 : (k : Int) < (S.body.length : Int) + 1 := by have := HBL.out; omega
                      have lw3 : IntKind.i64.wrap ((S.rs.length : Int) + 1 - 1) = (S.rs.length : Int) := by rw [IntKind.wrap_i64]; omega
                      have HS10 := Lib.hid (HS9.out.turn (VM.setbody HS9.out.vm HS9.out.le (b := b5) (c := k5) (by simp) k (S.rs.length : Int)))
                      have HBS : Hid ((S.body ++ [-1]).set k (S.rs.length : Int) = S.body ++ [(S.rs.length : Int)]) := Lib.hid (by
                        have := HBL.out
                        rw [List.set_append_right _ _ (by omega), show k - S.body.length = 0 by omega]
                        rfl)
                      clear q5 q6
                      go_upto_region 19 with fail
                      go_still_tail 12, (by kernel_rfl)
                      have HBG2 : Hid (SpOk K.l (k + 1) ⟨addStep S.rs c k ++ [⟨c, dn + 1, xb, bh + xz, [], 0⟩], S.of ++ [c], S.body ++ [(S.rs.length : Int)], S.rs.length⟩) := Lib.hid (by
                        have := HBG.out
                        rw [HRL.out, HBS.out] at this
                        exact this)
                      have HN2 : Hid (splitF K.s K.l (K.l.length - (k + 1)) (k + 1) ⟨addStep S.rs c k ++ [⟨c, dn + 1, xb, bh + xz, [], 0⟩], S.of ++ [c], S.body ++ [(S.rs.length : Int)], S.rs.length⟩ = R) := Lib.hid (by
                        have := HN.out
                        rw [HRL.out] at this
                        exact this)
                      go_wp2
                      go_roundw
                      case rel => exact ⟨k + 1, _, by omega, by go_num, rfl, ⟨⟨_, HS10.out.vm.drew, rfl, rfl, rfl, rfl, rfl, HBS.out⟩, HS10.out.old.drew, HBG2.out⟩, HN2.out⟩
                      case measure => simp [intOf]; omega
            · have HN : Hid (splitF K.s K.l (K.l.length - (k + 1)) (k + 1) ⟨addStep S.rs c k, S.of ++ [c], S.body ++ [-1], c⟩ = R) := Lib.hid (by
                have := HST.out
                rw [← HSP.out] at this
                simpa [h24] using this)
              have d24 : (op != 24) = true := by simpa using h24
              clear HST HSP
              go_wp2_with (go_at_call 46; refine H46.out.mono ?_; rintro e w7 ⟨rfl, hb7⟩; have HS7 := Lib.hid (HS6.out.below hb7); have y0 : w7.cell? ⟨bx, 0, none⟩ = some (.int .i64 op) := HS7.out.box.cell 0; clear hb7)
              go_roundw
              case rel => exact ⟨k + 1, _, by omega, by go_num, rfl, ⟨⟨_, HS7.out.vm, rfl, rfl, rfl, rfl, rfl, rfl⟩, HS7.out.old, HNT.out.1⟩, HN.out⟩
              case measure => simp [intOf]; omega
    · have HE : Hid (R = .ok S) := Lib.hid (by
        have := HRE.out
        rw [show K.l.length - k = 0 by omega] at this
        exact this.symm)
      go_wp2
      go_ret2
      rw [HE.out]
      obtain ⟨D2, n1, n2, n3, n4, n5⟩ := HM.out.vm
      exact ⟨D2, n1, HM.out.old, n2, n3, n4, rfl, n5⟩
end Go.Proofs.Ytaeegkljldngmaa
