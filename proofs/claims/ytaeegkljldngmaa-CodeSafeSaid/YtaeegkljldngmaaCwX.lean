/-
  The splitting in general; a slice of bools that came in; the law's at f44, its walk f29, the law CodeSafe f9. No statement of the seat is proved here.
-/
import Derived.Test.YtaeegkljldngmaaCvH
import Derived.Test.YtaeegkljldngmaaCvQ
import Derived.Test.YtaeegkljldngmaaCvI
import Derived.Test.YtaeegkljldngmaaFrame
import Derived.Deep.Grids
import Derived.Test.YtaeegkljldngmaaPlX
import Derived.Test.YtaeegkljldngmaaCwB
import Derived.Test.YtaeegkljldngmaaCwJ
namespace Go.Proofs.Ytaeegkljldngmaa
open Go.RowKit

theorem splits_any (s : Shp) (l : List Ins) : SplitsOk s l := by
  intro base K D W hs hl hv hB ok h1 h2 h3 h4
  subst hs hl
  rcases Nat.eq_zero_or_pos K.l.length with h0 | h0
  · exact split_nil hv hB (List.eq_nil_of_length_eq_zero h0) h1 h2 h3 h4
  · exact split_any hv hB ok h0 h1 h2 h3 h4
end Go.Proofs.Ytaeegkljldngmaa
namespace Go.Proofs.Ytaeegkljldngmaa
open Go.Joins Go.ChangeShapes Go.WideShapes Go.RowKit Go.Deep

theorem bools_in {H : Type} {enc : TypeId × Value → H} {P : Program} {w : World} {base : Nat} {held : Bool} {t e : TypeId} {fuel : Nat} {v : Value} {x : DataW H × List MemPlace} (ht : P.underlying t = some (.slice e)) (he : P.underlying e = some .bool) (hc : P.cellsOf e = 1)
    (h : DataW.trod enc P w base (fun _ => true) held fuel t [v] = some x) :
    ∃ (A : Option Addr) (n c : Nat) (bs : List Bool), v = .slice A n c ∧ n ≤ 9223372036854775807 ∧ Reads w w.heap.size 1 A n (bs.map bvl) := by
  rcases open_bools ht he hc h with ⟨hcs, _⟩ | ⟨a, l, c, B, hcs, _, hl, hm, _, hcell⟩
  · simp at hcs
    exact ⟨none, 0, 0, [], hcs, by omega, Reads.none_⟩
  · simp at hcs
    refine ⟨some a, l, c, (List.range l).map B, hcs, by simp only [maxLen] at hm; omega, by simp, fun h0 => ⟨a, rfl, ?_, fun j u hu => ?_⟩⟩
    · have := World.block_lt_of_cell? _ _ (hcell 0 (by omega))
      rwa [block_of_add] at this
    · rw [List.getElem?_map, List.getElem?_map] at hu
      by_cases hj : j < l
      · rw [List.getElem?_range hj] at hu
        simp only [Option.map_some, Option.some.injEq] at hu
        rw [hcell j (by omega), ← hu]
        rfl
      · rw [List.getElem?_eq_none (by simp; omega)] at hu
        simp at hu
end Go.Proofs.Ytaeegkljldngmaa
namespace Go.Proofs.Ytaeegkljldngmaa
open Go.RowKit

theorem plsL_len (l : List Ins) : (plsL l).length = l.length := by simp [plsL]
theorem plsL_at {l : List Ins} {i : Nat} (h : i < l.length) : (plsL l).getD i 0 = (pl l i : Int) := by simp [plsL, List.getD_eq_getElem?_getD, List.getElem?_range h]
set_option maxRecDepth 20000 in
theorem at_any (A : Option Addr) (n c : Nat) (ps : List Int) (i : Nat) (z : Int) (w : World) (hr : Reads w w.heap.size 1 A n (ps.map iv)) (hn : n ≤ 32767) (hi : i < n) (hz : ps.getD i 0 = z) (hne : ∀ j, j < i → ps.getD j 0 ≠ z) :
    Calls Try.prog 44 #[.slice A n c, .int .i64 z] w fun e w' => e = .returned (.int .i64 (i : Int)) ∧ w' = w := by
  have HRD := Lib.hid hr
  have HZ := Lib.hid hz
  have HNE := Lib.hid hne
  clear hr hz hne
  go_enter Try.func44, Try.ntmps44
  go_wp2
  go_loopw [9] (fun v wx => ∃ k : Nat, k ≤ i ∧ v = .int .i64 k ∧ wx = w) (fun v _ => n - (intOf v).toNat)
  case atStart => exact ⟨0, Nat.zero_le _, rfl, rfl⟩
  case round =>
    obtain ⟨k, hk, rfl, rfl⟩ := hrel
    have hlt : k < n := by omega
    obtain ⟨b, o, rfl, hbb, c5⟩ := int_at HRD.out hlt
    have l1 : (0 : Int) ≤ (k : Int) := by omega
    have l2 : (k : Int) < (n : Int) := by omega
    have hbw : b < wr.heap.size := hbb
    by_cases hki : k = i
    · subst hki
      have e := HZ.out
      rw [e] at c5
      clear e
      have t1 : (z == z) = true := by simp
      go_wp2
      go_ret
      exact ⟨rfl, rfl⟩
    · have e := HNE.out k (by omega)
      generalize ps.getD k 0 = y at *
      have t1 : (y == z) = false := by simpa using e
      clear e
      go_wp2
      go_roundw
      case rel => exact ⟨k + 1, by omega, by go_num, by first | rfl | trivial⟩
      case measure => simp [intOf]; omega
/-- the region's end, its ways -/
theorem bool_at {w : World} {B n : Nat} {A : Option Addr} {zs : List Bool} (h : Reads w B 1 A n (zs.map bvl)) {k : Nat} (hk : k < n) : ∃ b o, A = some ⟨b, o, none⟩ ∧ b < B ∧ w.cell? ⟨b, o + k, none⟩ = some (.bool (zs.getD k false)) := by
  obtain ⟨⟨b, off, spot⟩, u, e, hb, hx, hc⟩ := Reads.at_ h hk
  have hspot : spot = none := by
    obtain ⟨ad0, u0, e0, _, _, hc0⟩ := Reads.at_ h (k := 0) (by omega)
    rw [e] at e0
    injection e0 with e0
    subst e0
    simpa [Addr.add] using World.cell?_spot hc0
  subst hspot
  have hl : zs.length = n := by simpa using h.1
  rw [List.getElem?_map, List.getElem?_eq_getElem (by omega)] at hx
  simp only [Option.map_some, Option.some.injEq] at hx
  refine ⟨b, off, e, hb, ?_⟩
  have e2 : (⟨b, off, none⟩ : Addr).add k = ⟨b, off + k, none⟩ := by unfold Addr.add; split <;> simp_all
  rw [e2] at hc
  rw [hc, ← hx, List.getD_eq_getElem?_getD, List.getElem?_eq_getElem (by omega)]
  rfl
theorem ends_ops {x : Ins} (h : x.Ok) (hn : ¬ (x.op = 18 ∨ x.op = 21 ∨ x.op = 22 ∨ x.op = 23)) : (ent x.op).ends = false := by
  have e : ∀ k : Fin 26, ¬ (k.1 = 18 ∨ k.1 = 21 ∨ k.1 = 22 ∨ k.1 = 23) → (ent k.1).ends = false := by decide
  have hop := h.op
  have := e ⟨x.op.toNat, by omega⟩ (by dsimp only; omega)
  rw [show ((x.op.toNat : Nat) : Int) = x.op by omega] at this
  exact this
theorem mv_ok {x : Ins} (h : x.Ok) : mvT x = takeO x ∧ mvP x = putO x := by
  unfold mvT mvP
  rw [inO_ok h]
  exact ⟨rfl, rfl⟩
/-- between two steps of the walk -/
def WkS (w : World) (l : List Ins) (P : Nat → Int → Prop) (d p y s : Value) (wx : World) : Prop :=
  ∃ (k i : Nat) (x : Int) (wy : Nat), k ≤ 300 ∧ s = .int .i64 (k : Int) ∧ d = .int .i64 x ∧ p = .int .i64 (pl l i : Int) ∧ y = .int .i64 (wy : Int) ∧ wy ≤ k ∧ P i x ∧ Below w.heap.size w wx
set_option maxRecDepth 100000 in
set_option maxHeartbeats 8000000 in
theorem lawwalk_any (A0 AL AP AB AW : Option Addr) (n0 c0 cl cp cb nw cw : Nat) (l : List Ins) (bl : List (Int × Int)) (fr en most : Int) (ws : List Bool) (P : Nat → Int → Prop) (base : Nat) (w : World)
    (hg : Goes l bl fr en most P) (hok : ∀ x ∈ l, x.Ok) (hll : l.length ≤ 32767) (hn0 : n0 = pl l l.length) (hn1 : n0 ≤ 32767) (hfr : 0 ≤ fr) (hL : RdI w w.heap.size AL l.length l) (hP : Reads w w.heap.size 1 AP l.length ((plsL l).map iv)) (hB : OwnP w base (.slice AB bl.length cb) bl) (hbl : bl.length ≤ 32767)
    (hbn : ∀ b ∈ bl, 0 ≤ b.1 ∧ b.1 ≤ 32800 ∧ -32768 ≤ b.2 ∧ b.2 ≤ 32767) (hW : Reads w w.heap.size 1 AW nw (ws.map bvl)) (hnw : nw ≤ 9223372036854775807) :
    Calls Try.prog 29 #[.slice A0 n0 c0, .slice AL l.length cl, .slice AP l.length cp, .slice AB bl.length cb, .int .i64 fr, .int .i64 en, .int .i64 most, .slice AW nw cw] w (AwP w) := by
  have HG := Lib.hid hg
  have HOK := Lib.hid hok
  have HN0 := Lib.hid hn0
  have HL := Lib.hid hL
  have HPS := Lib.hid hP
  have HB := Lib.hid hB
  have HBN := Lib.hid hbn
  have HW := Lib.hid hW
  have hen' : en ≤ (n0 : Int) := by have := hg.enE; omega
  have hms := hg.ms'
  have hW0 : ws.length = nw := by simpa using hW.1
  have HWL := Lib.hid hW0
  have hst := hg.start
  have HST := Lib.hid hst
  have z43 := zero43
  have z68 : ∀ w : World, (zeroValue 68).run Try.prog w = .ok (.agg #[.int .i64 0, .int .i64 0]) w := fun w => by kernel_rfl
  clear hg hok hn0 hL hP hB hbn hW hW0 hst
  go_enter Try.func29, Try.ntmps29
  go_wp2
  go_loopw [17, 18, 19, 20] (fun d p y s wx => WkS w l P d p y s wx) (fun _ _ _ s _ => 300 - (intOf s).toNat)
  case atStart => 
    obtain ⟨i, e, hp⟩ := HST.out
    exact ⟨0, i, 0, 0, by omega, rfl, rfl, by rw [e], rfl, Nat.le_refl _, hp, Below.refl _ _⟩
  case round =>
    obtain ⟨k, i, x, wy, hk, rfl, rfl, rfl, rfl, hwy, hpx, hb⟩ := hrel
    have HBW := Lib.hid hb
    have hws := hb.size
    by_cases hk3 : k < 300
    · have hi := HG.out.lt i x hpx
      have HPX := Lib.hid hpx
      have g1 := HG.out.frL i x hpx
      have g2 := HG.out.enL i x hpx
      have H44 := Lib.hid (at_any AP l.length cp (plsL l) i (pl l i : Int) wr ((HPS.out.below hb).more hws) hll hi (plsL_at hi) (fun j hj e => by
        rw [plsL_at (by omega)] at e
        have := pl_lt HOK.out hj (by omega)
        omega))
      have g3 := HG.out.bl i x hpx
      have HG3 := Lib.hid g3
      have HPB : Hid (pl l i ≤ 32767) := Lib.hid (by have := pl_mono l l.length i (by omega); have := HN0.out; omega)
      obtain ⟨p, hp⟩ : ∃ p : Int, (pl l i : Int) = p := ⟨_, rfl⟩
      have HP := Lib.hid hp
      have hp1 : p ≤ 32767 := by have := HPB.out; omega
      rw [hp] at H44 g1 g2 HG3 ⊢
      have l1 : (0 : Int) ≤ (i : Int) := by omega
      have l2 : (k : Int) < 300 := by omega
      clear hb hpx g3 hp HPB
      go_upto_region 5 with fail
      go_upto_region 6 with (go_at_call 44; refine H44.out.mono ?_; rintro e w2 ⟨rfl, rfl⟩)
      clear H44
      obtain ⟨w3, hw3⟩ : ∃ w3, w3 = w2 := ⟨_, rfl⟩
      subst hw3
      go_upto_block 2 with fail
      go_cut [55] (fun _ wx => Below w3.heap.size w3 wx)
      case first =>
        go_wp2
        go_loopw [55] (fun v wx => ∃ j : Nat, j ≤ bl.length ∧ v = .int .i64 (j : Int) ∧ Below w3.heap.size w3 wx) (fun v _ => bl.length - (intOf v).toNat)
        case atStart => exact ⟨0, Nat.zero_le _, rfl, Below.refl _ _⟩
        case round =>
          obtain ⟨j, hj, rfl, hbx⟩ := hrel
          by_cases hjl : j < bl.length
          · obtain ⟨b1, c1, hv, hb1, e0, e1⟩ := own_pair (own_to (own_to HB.out HBW.out) hbx) hjl
            obtain ⟨rfl, rfl⟩ : AB = some ⟨b1, 0, none⟩ ∧ cb = c1 := by injection hv with a b c; exact ⟨a, c⟩
            have hmem : bl.getD j (0, 0) ∈ bl := getD_mem _ hjl
            have hno := HG3.out _ hmem
            have hbd := HBN.out _ hmem
            have HBX := Lib.hid hbx
            have hbs := hbx.size
            have l3 : (0 : Int) ≤ (j : Int) := by omega
            have l4 : (j : Int) < (bl.length : Int) := by omega
            clear hv hmem hbx
            generalize bl.getD j (0, 0) = q at *
            obtain ⟨q1, q2⟩ := q
            dsimp only at e0 e1 hno hbd
            have HBY := Lib.hid (HBX.out.alloc hbs (.cells #[.int .i64 q1, .int .i64 q2] 68))
            have h3 : ¬ fr < q1 ∨ (fr < q1 ∧ ¬ q1 ≤ p) ∨ (fr < q1 ∧ q1 ≤ p ∧ ¬ p < q1 + q2) := by
              by_cases h1 : fr < q1
              · by_cases h2 : q1 ≤ p
                · exact .inr (.inr ⟨h1, h2, fun h4 => hno h1 h2 h4⟩)
                · exact .inr (.inl ⟨h1, h2⟩)
              · exact .inl h1
            obtain ⟨d1, d2, d3, d4⟩ := hbd
            clear hno
            rcases h3 with f1 | ⟨f1, f2⟩ | ⟨f1, f2, f3⟩
            all_goals
              go_wp2
              go_roundw
              case rel => exact ⟨j + 1, by omega, by go_num, HBY.out⟩
              case measure => simp [intOf]; omega
          · go_wp2
            go_meet
            exact hbx
      case rest =>
        have HBC := Lib.hid (HBW.out.trans (hcut.mono hws))
        obtain ⟨bi, oi, rfl, hbi, qi⟩ := (HL.out.below HBC.out).2 i (insD l i) (insD_some hi)
        obtain ⟨e0, e1, e2, e3, e4⟩ := cs43 qi
        have hxo := HOK.out _ (insD_mem hi)
        have HTK := Lib.hid (HG.out.tk i x HPX.out)
        have HMS := Lib.hid (HG.out.ms i x HPX.out)
        have hbe : beh l i = p + szO (insD l i).op := by unfold beh; rw [HP.out]
        have HNX := Lib.hid (HG.out.nxt i x HPX.out)
        have HBK := Lib.hid (HG.out.blk i x HPX.out)
        have HJM := Lib.hid (HG.out.jmp i x HPX.out)
        rw [hbe] at HNX HBK HJM
        have HEN := Lib.hid (ends_ops hxo)
        obtain ⟨m1, m2⟩ := mv_ok hxo
        have ht := takeO_le hxo
        have hpp := putO_pos hxo
        have hsz := size_cast (inO_ok hxo)
        have H16 := Lib.hid fun w => Moves_any (insD l i) w hxo.b
        rw [m1, m2] at H16
        have hz := hxo.z
        have hop := hxo.op
        have hbw := HBC.out.size
        have hbiw : bi < wc.heap.size := by omega
        have l5 : (i : Int) < (l.length : Int) := by omega
        clear qi hxo hbe m1 m2 hcut
        generalize takeO (insD l i) = tk at *
        generalize putO (insD l i) = pt at *
        generalize insD l i = ix at *
        obtain ⟨op, xa, xb, xc, xz⟩ := ix
        dsimp only at e0 e1 e2 e3 e4 HNX HBK HJM HEN hz hop
        have hsz2 : 1 ≤ szO op ∧ szO op ≤ 6 := by
          have := hsz; dsimp only at this; omega
        have HR20 := Lib.hid fun w => Rsize_any op w
        clear hsz
        generalize szO op = sz at *
        have HOI : Hid ((⟨op, xa, xb, xc, xz⟩ : Ins).val = .agg #[.int .i64 op, .int .i64 xa, .int .i64 xb, .int .i64 xc, .int .i64 xz]) := Lib.hid rfl
        rw [HOI.out] at H16
        have HX := Lib.hid (Blk.new wc 43 #[.int .i64 op, .int .i64 xa, .int .i64 xb, .int .i64 xc, .int .i64 xz])
        have HB5 := Lib.hid (HBC.out.alloc hbw (.cells #[.int .i64 op, .int .i64 xa, .int .i64 xb, .int .i64 xc, .int .i64 xz] 43))
        go_upto_region 15 with fail
        generalize hg5 : wc.alloc (.cells #[.int .i64 op, .int .i64 xa, .int .i64 xb, .int .i64 xc, .int .i64 xz] 43) = w5 at *
        generalize hg6 : wc.heap.size = g5 at *
        have y0 : w5.cell? ⟨g5, 0, none⟩ = some (.int .i64 op) := HX.out.cell 0
        have y1 : w5.cell? ⟨g5, 1, none⟩ = some (.int .i64 xa) := HX.out.cell 1
        have y2 : w5.cell? ⟨g5, 2, none⟩ = some (.int .i64 xb) := HX.out.cell 2
        have y3 : w5.cell? ⟨g5, 3, none⟩ = some (.int .i64 xc) := HX.out.cell 3
        have y4 : w5.cell? ⟨g5, 4, none⟩ = some (.int .i64 xz) := HX.out.cell 4
        have hg5w := HX.out.lt
        clear hg5 hg6 e0 e1 e2 e3 e4
        go_upto_region 16 with (go_at_call 16; refine (H16.out _).mono ?_; rintro e w6 ⟨rfl, hb6⟩; have HB6 := Lib.hid (HB5.out.trans (hb6.mono HB5.out.size)); have HX6 := Lib.hid (HX.out.below hb6 HX.out.lt); clear hb6)
        clear y0 y1 y2 y3 y4 hg5w HX HB5 H16
        have y0 : w6.cell? ⟨g5, 0, none⟩ = some (.int .i64 op) := HX6.out.cell 0
        have y4 : w6.cell? ⟨g5, 4, none⟩ = some (.int .i64 xz) := HX6.out.cell 4
        have hg6w := HX6.out.lt
        have f1 : tk ≤ x := HTK.out
        have f2 : x + (pt - tk) ≤ most := by have := HMS.out; omega
        obtain ⟨f3, f4⟩ := ht
        obtain ⟨f5, f6⟩ := hpp
        obtain ⟨f7, f8⟩ := hsz2
        obtain ⟨f9, f10⟩ := hz
        go_upto_region 22 with (go_at_call 20; refine (HR20.out _).mono ?_; rintro e w7 ⟨rfl, rfl⟩)
        have hsm : IntKind.i64.wrap (x + (pt - tk)) = x - tk + pt := by rw [IntKind.wrap_i64]; omega
        have l6 : (k : Int) + 1 ≤ 300 := by omega
        clear HR20 HTK HMS HX6 hbi hbiw
        have hcase : (op = 21 ∨ op = 22 ∨ op = 23) ∨ op = 18 ∨ (op = 19 ∨ op = 20) ∨ op = 24 ∨ ((op = 1 ∨ op = 2 ∨ op = 3 ∨ op = 4 ∨ op = 5 ∨ op = 6 ∨ op = 7 ∨ op = 8 ∨ op = 9 ∨ op = 10 ∨ op = 11 ∨ op = 12 ∨ op = 13 ∨ op = 14 ∨ op = 15 ∨ op = 16 ∨ op = 17 ∨ op = 25)) := by omega
        rcases hcase with h5 | rfl | h5 | rfl | h5
        · rcases h5 with rfl | rfl | rfl
          all_goals
            go_wp2
            go_ret
            exact ⟨rfl, HB6.out⟩
        · obtain ⟨i2, e1, hp2⟩ := HJM.out rfl
          have HP2 := Lib.hid hp2
          have HE1 := Lib.hid e1
          clear e1 hp2
          go_wp2
          go_roundw
          case rel => exact ⟨k + 1, i2, _, wy, by omega, by go_num, rfl, by rw [HE1.out], rfl, by omega, by first | exact HP2.out | (rw [show x + (pt - tk) = x - tk + pt by omega]; exact HP2.out), HB6.out⟩
          case measure => simp [intOf]; omega
        · by_cases hn0 : nw = 0
          · subst hn0
            rcases h5 with rfl | rfl
            all_goals
              obtain ⟨i2, e1, hp2⟩ := HNX.out (HEN.out (by omega)) (by omega)
              have HP2 := Lib.hid hp2
              have HE1 := Lib.hid e1
              clear e1 hp2
              go_wp2
              go_roundw
              case rel => exact ⟨k + 1, i2, _, wy + 1, by omega, by go_num, rfl, by rw [HE1.out], by go_num, by omega, by first | exact HP2.out | (rw [show x + (pt - tk) = x - tk + pt by omega]; exact HP2.out), HB6.out⟩
              case measure => simp [intOf]; omega
          · obtain ⟨m, hm⟩ : ∃ m, wy % nw = m := ⟨_, rfl⟩
            have hmn : m < nw := by rw [← hm]; exact Nat.mod_lt _ (by omega)
            obtain ⟨b8, o8, rfl, hb8, c8⟩ := bool_at (HW.out.below HB6.out) hmn
            have em : (wy : Int).tmod (nw : Int) = (m : Int) := by rw [← hm, Int.tmod_eq_emod_of_nonneg (by omega)]; omega
            have q1 : (0 : Int) ≤ (m : Int) := by omega
            have q2 : (m : Int) < (nw : Int) := by omega
            have q3 : (0 : Int) < (nw : Int) := by omega
            have hb8w : b8 < w7.heap.size := by omega
            have q4 : (nw : Int) ≠ 0 := by omega
            clear hm
            generalize ws.getD m false = wb at *
            rcases h5 with rfl | rfl
            all_goals
              cases wb
              · obtain ⟨i2, e1, hp2⟩ := HNX.out (HEN.out (by omega)) (by omega)
                have HP2 := Lib.hid hp2
                have HE1 := Lib.hid e1
                clear e1 hp2
                go_wp2
                go_roundw
                case rel => exact ⟨k + 1, i2, _, wy + 1, by omega, by go_num, rfl, by rw [HE1.out], by go_num, by omega, by first | exact HP2.out | (rw [show x + (pt - tk) = x - tk + pt by omega]; exact HP2.out), HB6.out⟩
                case measure => simp [intOf]; omega
              · obtain ⟨i2, e1, hp2⟩ := HJM.out rfl
                have HP2 := Lib.hid hp2
                have HE1 := Lib.hid e1
                clear e1 hp2
                go_wp2
                go_roundw
                case rel => exact ⟨k + 1, i2, _, wy + 1, by omega, by go_num, rfl, by rw [HE1.out], by go_num, by omega, by first | exact HP2.out | (rw [show x + (pt - tk) = x - tk + pt by omega]; exact HP2.out), HB6.out⟩
                case measure => simp [intOf]; omega
        · obtain ⟨i2, e1, hp2⟩ := HBK.out rfl
          have HP2 := Lib.hid hp2
          have HE1 := Lib.hid e1
          clear e1 hp2
          go_wp2
          go_roundw
          case rel => exact ⟨k + 1, i2, _, wy, by omega, by go_num, rfl, by rw [HE1.out], rfl, by omega, by first | exact HP2.out | (rw [show x + (pt - tk) = x - tk + pt by omega]; exact HP2.out), HB6.out⟩
          case measure => simp [intOf]; omega
        · obtain ⟨i2, e1, hp2⟩ := HNX.out (HEN.out (by omega)) (by omega)
          have HP2 := Lib.hid hp2
          have HE1 := Lib.hid e1
          have t1 : (op == 21) = false := by simp; omega
          have t2 : (op == 22) = false := by simp; omega
          have t3 : (op == 23) = false := by simp; omega
          have t4 : (op == 18) = false := by simp; omega
          have t5 : (op == 19) = false := by simp; omega
          have t6 : (op == 20) = false := by simp; omega
          have t7 : (op == 24) = false := by simp; omega
          clear e1 hp2 h5
          go_wp2
          go_roundw
          case rel => exact ⟨k + 1, i2, _, wy, by omega, by go_num, rfl, by rw [HE1.out], rfl, by omega, by first | exact HP2.out | (rw [show x + (pt - tk) = x - tk + pt by omega]; exact HP2.out), HB6.out⟩
          case measure => simp [intOf]; omega
    · go_wp2
      go_ret
      exact ⟨rfl, HBW.out⟩
end Go.Proofs.Ytaeegkljldngmaa
namespace Go.Proofs.Ytaeegkljldngmaa
open Go.RowKit

/-- what Verify's answer tells -/
theorem verB_zero {s : Shp} {bs : List UInt8} {d a : Int} (h : verB s bs = (d, a, 0)) : ∃ l ps, decL bs = (l, ps, 0, 0) ∧ bs.length ≤ 32767 ∧ Whole bs bs.length l ps ∧ verL s l = (d, a, 0) := by
  unfold verB at h
  cases hs : shB s.args s.temps s.fields s.lits.length with
  | false => rw [hs] at h; simp at h
  | true =>
    rw [hs, if_pos rfl] at h
    by_cases hd : (decL bs).2.2.2 = 0
    · rw [if_pos hd] at h
      rcases decL_cases bs with ⟨_, e⟩ | ⟨h1, ⟨l, ps, e, hw⟩ | ⟨p, e, _⟩⟩
      · rw [e] at hd; exact absurd hd (by decide)
      · rw [e] at h
        exact ⟨l, ps, e, h1, hw, h⟩
      · rw [e] at hd; exact absurd hd (show ¬ (50 : Int) = 0 by decide)
    · rw [if_neg hd] at h
      simp only [Prod.mk.injEq] at h
      exact absurd h.2.2 hd
set_option maxRecDepth 100000 in
set_option maxHeartbeats 8000000 in
theorem safe_any (A LA AW : Option Addr) (n c lc nw cw : Nat) (bs : List UInt8) (s : Shp) (ws : List Bool) (w : World) (hr : RdB w w.heap.size A n bs) (hl : Reads w w.heap.size 1 LA s.lits.length (s.lits.map iv)) (hW : Reads w w.heap.size 1 AW nw (ws.map bvl)) (hnw : nw ≤ 9223372036854775807) :
    Calls Try.prog 9 #[.slice A n c, .agg #[.int .i64 s.args, .int .i64 s.temps, .int .i64 s.fields, .slice LA s.lits.length lc], .slice AW nw cw] w (AwP w) := by
  have H14 := Lib.hid awake_any
  have HRD := Lib.hid hr
  have HL := Lib.hid hl
  have HW := Lib.hid hW
  have hlen := hr.len1
  have HLEN := Lib.hid hlen
  obtain ⟨R, hR⟩ : ∃ R, verB s bs = R := ⟨_, rfl⟩
  have HR := Lib.hid hR
  have H15 := Lib.hid fun (w : World) h1 h2 => verify_any A n c bs s LA lc w h1 h2 (splits_any s _)
  have H24 := Lib.hid fun w h => Decode_any A n c bs w h
  have H26 := Lib.hid fun w h => Blocks_any A n c bs w h
  unfold BlkP at H26
  have HB1 : Hid (Below w.heap.size w (w.alloc (.cells #[.int .i64 s.args, .int .i64 s.temps, .int .i64 s.fields, .slice LA s.lits.length lc] 35))) := Lib.hid ((Below.refl _ _).alloc (Nat.le_refl _) _)
  have HX1 := Lib.hid (Blk.new w 35 #[.int .i64 s.args, .int .i64 s.temps, .int .i64 s.fields, .slice LA s.lits.length lc])
  clear hR hr hl hW hlen
  go_enter Try.func9, Try.ntmps9
  go_upto_region 1 with fail
  generalize w.alloc (.cells #[.int .i64 s.args, .int .i64 s.temps, .int .i64 s.fields, .slice LA s.lits.length lc] 35) = w1 at *
  have k0 : w1.cell? ⟨w.heap.size, 0, none⟩ = some (.int .i64 s.args) := HX1.out.cell 0
  have k1 : w1.cell? ⟨w.heap.size, 1, none⟩ = some (.int .i64 s.temps) := HX1.out.cell 1
  have k2 : w1.cell? ⟨w.heap.size, 2, none⟩ = some (.int .i64 s.fields) := HX1.out.cell 2
  have k3 : w1.cell? ⟨w.heap.size, 3, none⟩ = some (.slice LA s.lits.length lc) := HX1.out.cell 3
  have HV1 := Lib.hid (H15.out w1 ((HRD.out.below HB1.out).more HB1.out.size) ((HL.out.below HB1.out).more HB1.out.size))
  rw [HR.out] at HV1
  obtain ⟨d, at_, er⟩ := R
  go_upto_region 2 with (go_at_call 15; refine HV1.out.mono ?_; rintro e w2 ⟨rfl, hb2⟩; have HB2 := Lib.hid (HB1.out.trans (hb2.mono HB1.out.size)); clear hb2)
  clear k0 k1 k2 k3 HV1 HX1 HB1 H15 HL
  by_cases her : er = 0
  · subst her
    obtain ⟨l, ps, hD, hbs, hwh, hvl⟩ := verB_zero HR.out
    rw [hD] at H24 H26
    have hps := whole_ps hwh
    have hok := hwh.ok
    have hll : l.length ≤ 32767 := by have := whole_len hwh; omega
    have hgo := ver_goes hok hll (by rw [hvl])
    rw [hvl] at hgo
    dsimp only at hgo H24 H26
    simp only [if_true] at H26
    have HGO := Lib.hid hgo
    have HOK := Lib.hid hok
    have HPS := Lib.hid hps
    have HFIN := Lib.hid (show n = pl l l.length by have := hwh.fin; have := HLEN.out; omega)
    have hnn : n ≤ 32767 := by have := HLEN.out; omega
    have hbl := blkN_len l l.length
    have HBM := Lib.hid (blkN_mem l l.length)
    have hnz : (natZ ps).length = l.length := by simp [natZ, hwh.len]
    have HBD : Hid (∀ b ∈ blkN l l.length, 0 ≤ b.1 ∧ b.1 ≤ 32800 ∧ -32768 ≤ b.2 ∧ b.2 ≤ 32767) := Lib.hid (by
      intro b hb
      obtain ⟨k, h1, h2, rfl⟩ := (blkN_mem l l.length b).1 hb
      have h3 := pl_mono l l.length k (by omega)
      have h4 := HFIN.out
      have h5 := (hok _ (insD_mem h1)).z
      dsimp only
      omega)
    generalize blkN l l.length = bl at *
    clear hD hwh hvl hgo hok hps HR
    have HR2 := Lib.hid ((HRD.out.below HB2.out).more HB2.out.size)
    go_upto_region 5 with (go_at_call 24; refine (H24.out _ HR2.out).mono ?_; rintro e w3 ⟨hb3, lv, pv, rfl, hi3, hp3⟩; have HBA := Lib.hid hb3; have HI := Lib.hid hi3; have HP := Lib.hid hp3; clear hb3 hi3 hp3)
    have HB3 := Lib.hid (HB2.out.trans (HBA.out.mono HB2.out.size))
    have HR3 := Lib.hid ((HRD.out.below HB3.out).more HB3.out.size)
    go_upto_region 6 with (go_at_call 26; refine (H26.out _ HR3.out).mono ?_; rintro e w4 ⟨bv, rfl, hk4, hb4⟩; have HBC := Lib.hid hb4; have HK := Lib.hid hk4; clear hk4 hb4)
    have HB4 := Lib.hid (HB3.out.trans (HBC.out.mono HB3.out.size))
    have HI4 := Lib.hid (own_to HI.out HBC.out)
    have HP4 := Lib.hid (own_to HP.out HBC.out)
    clear HI HP HR2 HR3 H24 H26 HB2 HB3 HBA HBC
    obtain ⟨Al, cl, rfl, hrl⟩ := ins_letter HI4.out
    obtain ⟨Ap, cp, rfl, hrp⟩ := int_letter HP4.out
    rw [HPS.out] at hrp
    rw [plsL_len] at hrp
    rw [hnz]
    have hk5 : OwnP w4 w3.heap.size bv bl := HK.out
    obtain ⟨Ab, cb, rfl, _, _⟩ := own_form hk5
    have HRL := Lib.hid hrl
    have HRP := Lib.hid hrp
    have HK4 := Lib.hid hk5
    clear hrl hrp hk5 HI4 HP4 HK
    go_upto_region 8 with (go_at_call 14; refine (H14.out _).mono ?_; rintro e w5 ⟨rfl, hb5⟩; have HB5 := Lib.hid (HB4.out.trans (hb5.mono HB4.out.size)); have HB5' := Lib.hid hb5; clear hb5)
    have HRL5 := Lib.hid ((HRL.out.below HB5'.out).more HB5'.out.size)
    have HRP5 := Lib.hid ((HRP.out.below HB5'.out).more HB5'.out.size)
    have HK5 := Lib.hid (own_to HK4.out HB5'.out)
    have HW5 := Lib.hid ((HW.out.below HB5.out).more HB5.out.size)
    clear HRL HRP HK4 HB5' HB4 H14
    obtain ⟨P0, hP0⟩ := HGO.out.1
    have H29 := Lib.hid fun w h1 h2 h3 h4 => lawwalk_any A Al Ap Ab AW n c cl cp cb nw cw l bl 0 (pl l l.length : Int) d ws P0 w3.heap.size w hP0 HOK.out hll HFIN.out hnn (Int.le_refl _) h1 h2 h3 (by omega) HBD.out h4 hnw
    rw [← HFIN.out] at H29
    clear hP0
    go_upto_region 10 with (go_at_call 29; refine (H29.out _ HRL5.out HRP5.out HK5.out HW5.out).mono ?_; rintro e w6 ⟨rfl, hb6⟩; have HB6 := Lib.hid (HB5.out.trans (hb6.mono HB5.out.size)); have HB6' := Lib.hid hb6; clear hb6)
    have HRL6 := Lib.hid ((HRL5.out.below HB6'.out).more HB6'.out.size)
    have HRP6 := Lib.hid ((HRP5.out.below HB6'.out).more HB6'.out.size)
    have HK6 := Lib.hid (own_to HK5.out HB6'.out)
    clear HRL5 HRP5 HK5 HW5 HB6' HB5 H29
    go_wp2
    go_loopw [72] (fun v wx => ∃ k : Nat, k ≤ bl.length ∧ v = .int .i64 (k : Int) ∧ Below w6.heap.size w6 wx) (fun v _ => bl.length - (intOf v).toNat)
    case atStart => exact ⟨0, Nat.zero_le _, rfl, Below.refl _ _⟩
    case round =>
      obtain ⟨k, hk, rfl, hbx⟩ := hrel
      have HBX := Lib.hid hbx
      have hbs6 := hbx.size
      clear hbx
      by_cases hkl : k < bl.length
      · have HK7 := Lib.hid (own_to HK6.out HBX.out)
        obtain ⟨b1, c1, hv, hb1, e0, e1⟩ := own_pair HK7.out hkl
        obtain ⟨rfl, rfl⟩ : Ab = some ⟨b1, 0, none⟩ ∧ cb = c1 := by injection hv with a b c; exact ⟨a, c⟩
        obtain ⟨b, hbl2, h24, hbe⟩ := (HBM.out _).1 (getD_mem (0, 0) hkl)
        have hbd := HBD.out _ (getD_mem (0, 0) hkl)
        have l3 : (0 : Int) ≤ (k : Int) := by omega
        have l4 : (k : Int) < (bl.length : Int) := by omega
        obtain ⟨hz1, P, hP⟩ := HGO.out.2 b hbl2 h24
        clear hv h24
        generalize bl.getD k (0, 0) = q at *
        obtain ⟨q1, q2⟩ := q
        simp only [Prod.mk.injEq] at hbe
        dsimp only at e0 e1 hbd
        obtain ⟨hq1, hq2⟩ := hbe
        rw [← hq1, ← hq2] at hP
        rw [← hq2] at hz1
        have hpb : (pl l b : Int) = q1 - 6 := by omega
        have HPB := Lib.hid hpb
        have HPP := Lib.hid hP
        obtain ⟨d1, d2, d3, d4⟩ := hbd
        have hq6 : 6 ≤ q1 := by omega
        clear hq1 hq2 hP hpb
        have HBY := Lib.hid (HBX.out.alloc hbs6 (.cells #[.int .i64 q1, .int .i64 q2] 68))
        have HQ := Lib.hid (Blk.new wr 68 #[.int .i64 q1, .int .i64 q2])
        go_upto_region 13 with fail
        generalize hw7 : wr.alloc (.cells #[.int .i64 q1, .int .i64 q2] 68) = w7 at *
        generalize hg7 : wr.heap.size = g7 at *
        have y0 : w7.cell? ⟨g7, 0, none⟩ = some (.int .i64 q1) := HQ.out.cell 0
        have y1 : w7.cell? ⟨g7, 1, none⟩ = some (.int .i64 q2) := HQ.out.cell 1
        have hg7w := HQ.out.lt
        have hw67 := HBY.out.size
        clear hw7 hg7 e0 e1
        go_upto_region 15 with fail
        obtain ⟨cc, hcc⟩ : ∃ cc, (insD l b).c = cc := ⟨_, rfl⟩
        have HCC := Lib.hid hcc
        rw [hcc] at HPP
        clear hcc
        go_upto_block 2 with fail
        go_cut [18] (fun v wx => v = .int .i64 cc ∧ w7 = wx)
        case first =>
          go_wp2
          go_loopw [18, 81] (fun v j wx => ∃ m : Nat, m ≤ l.length ∧ j = .int .i64 (m : Int) ∧ v = .int .i64 (if b < m then cc else -1) ∧ w7 = wx) (fun _ j _ => l.length - (intOf j).toNat)
          case atStart => exact ⟨0, Nat.zero_le _, rfl, by rw [if_neg (Nat.not_lt_zero _)], rfl⟩
          case round =>
            obtain ⟨m, hm, rfl, rfl, rfl⟩ := hrel
            by_cases hml : m < l.length
            · obtain ⟨bp, op', rfl, hbp, qp⟩ := int_at (HRP6.out.below HBY.out) hml
              rw [plsL_at hml] at qp
              have l1 : (0 : Int) ≤ (m : Int) := by omega
              have l2 : (m : Int) < (l.length : Int) := by omega
              have hbpw : bp < w7.heap.size := by omega
              by_cases hmb : m = b
              · subst hmb
                obtain ⟨bi, oi, rfl, hbi, qi⟩ := (HRL6.out.below HBY.out).2 m (insD l m) (insD_some hml)
                obtain ⟨f0, f1, f2, f3, f4⟩ := cs43 qi
                rw [HCC.out] at f3
                rw [HPB.out] at qp
                have hbiw : bi < w7.heap.size := by omega
                have t1 : (q1 - 6 == q1 - 6) = true := by simp
                clear qi
                go_wp2
                go_roundw
                case rel => exact ⟨m + 1, by omega, by go_num, by rw [if_pos (by omega)], by first | rfl | trivial⟩
                case measure => simp [intOf]; omega
              · have hne : (pl l m : Int) ≠ q1 - 6 := by
                  rw [← HPB.out]
                  intro e
                  exact hmb (pl_inj HOK.out (by omega) (by omega) (by omega))
                generalize (pl l m : Int) = y at *
                have t1 : (y == q1 - 6) = false := by simpa using hne
                clear hne
                go_wp2
                go_roundw
                case rel => exact ⟨m + 1, by omega, by go_num, by by_cases hb2 : b < m; (rw [if_pos hb2, if_pos (by omega)]); (rw [if_neg hb2, if_neg (by omega)]), by first | rfl | trivial⟩
                case measure => simp [intOf]; omega
            · obtain rfl : m = l.length := by omega
              go_wp2
              go_meet
              exact ⟨by first | rfl | rw [if_pos hbl2], by first | rfl | trivial⟩
        case rest =>
          obtain ⟨rfl, rfl⟩ := hcut
          have HRL7 := Lib.hid ((HRL6.out.below HBY.out).more hw67)
          have HRP7 := Lib.hid ((HRP6.out.below HBY.out).more hw67)
          have HK8 := Lib.hid (own_to HK6.out HBY.out)
          have HB7 := Lib.hid (HB6.out.trans (HBY.out.mono HB6.out.size))
          have HW7 := Lib.hid ((HW.out.below HB7.out).more HB7.out.size)
          have H29 := Lib.hid fun w h1 h2 h3 h4 => lawwalk_any A Al Ap (some ⟨b1, 0, none⟩) AW n c cl cp cb nw cw l bl q1 (q1 + q2) cc ws P w3.heap.size w HPP.out HOK.out hll HFIN.out hnn d1 h1 h2 h3 (by omega) HBD.out h4 hnw
          go_upto_region 23 with (go_at_call 29; refine (H29.out _ HRL7.out HRP7.out HK8.out HW7.out).mono ?_; rintro e w8 ⟨rfl, hb8⟩; have HB8 := Lib.hid (HBY.out.trans (hb8.mono HBY.out.size)); clear hb8)
          go_wp2
          go_roundw
          case rel => exact ⟨k + 1, by omega, by go_num, HB8.out⟩
          case measure => simp [intOf]; omega
      · go_wp2
        go_ret
        exact ⟨rfl, HB6.out.trans (HBX.out.mono HB6.out.size)⟩
  · have d1 : (er != 0) = true := by simpa using her
    clear her
    go_wp2_with (go_at_call 14; refine (H14.out _).mono ?_; rintro e w3 ⟨rfl, hb3⟩; have HB3 := Lib.hid (HB2.out.trans (hb3.mono HB2.out.size)); clear hb3)
    go_ret
    exact ⟨rfl, HB3.out⟩
end Go.Proofs.Ytaeegkljldngmaa
