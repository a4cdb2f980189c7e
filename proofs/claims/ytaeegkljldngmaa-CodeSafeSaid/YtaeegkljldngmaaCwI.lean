/-
  Blocks f26, the document's f28. No statement of the seat is proved here.
-/
import Derived.Test.YtaeegkljldngmaaCwG
import Derived.Test.YtaeegkljldngmaaCwH
namespace Go.Proofs.Ytaeegkljldngmaa
open Go.RowKit

theorem info68 : (Try.prog.info? 68).map (fun i => (i.zero, i.size, i.bytes)) = some (some (.agg #[.int .i64 0, .int .i64 0]), 2, 16) := by kernel_rfl
def pcs (bl : List (Int × Int)) : List Value := bl.flatMap fun p => [.int .i64 p.1, .int .i64 p.2]
theorem pcs_len (bl : List (Int × Int)) : (pcs bl).length = bl.length * 2 := by
  induction bl with
  | nil => rfl
  | cons a l ih => simp only [pcs, List.flatMap_cons, List.length_append, List.length_cons] at ih ⊢; rw [ih]; simp; omega
theorem pcs_one (l : List (Int × Int)) : ∀ u ∈ pcs l, u.oneCell' = true := by
  intro u hu
  obtain ⟨x, _, hu⟩ := List.mem_flatMap.1 hu
  simp only [List.mem_cons, List.not_mem_nil, or_false] at hu
  rcases hu with rfl | rfl <;> rfl
abbrev OwnP (w : World) (base : Nat) (v : Value) (bl : List (Int × Int)) : Prop := w.ownsRow base 68 2 v bl.length (pcs bl)
section
variable {w : World} {ops : Array Oper} {o : Oper} {a : Act} {Q : Exit → Act → World → Prop} {K : Act → World → Prop} {E : Prop}
theorem step_p (hgd : o.guard = none) (s x : Operand) (ho : o.op = .call { callee := .builtin .append, args := #[s, x], argTypes := #[63, 63] })
    (base : Nat) (v : Value) (l : List (Int × Int)) (hs : a.eval s = v) (hown : OwnP w base v l) (B : Nat) (A : Option Addr) (m c : Nat) (news : List (Int × Int)) (hx : a.eval x = .slice A m c) (hr : Reads w B 2 A m (pcs news))
    (hb : (l.length + m) * 16 ≤ 140737488355328) (hbase : base ≤ w.heap.size)
    (h : ∀ v' w', OwnP w' base v' (l ++ news) → App w v w' v' → K (a.put o.dst v') w') : if Region.wanted o (yielded ops a.tmps) = true then Oper.wp Try.prog o a w K Q else E := by
  obtain ⟨i0, hi, hz0, hz1, hz2⟩ := info_parts info68
  refine step_append_any w hgd s x 63 ho base 68 i0 _ 2 16 Try.underlying63 hi hz0 hz1 hz2 rfl (by decide) v l.length (pcs l) hs hown B A m c (pcs news) hx hr (pcs_one _) (by simp only [maxLen]; omega) hb hbase fun v' w' h1 h2 h3 => h v' w' ?_ ⟨h2, ?_⟩
  · have hl : news.length = m := by have := hr.1; rw [pcs_len] at this; omega
    have e : pcs (l ++ news) = pcs l ++ pcs news := by simp [pcs]
    show w'.ownsRow base 68 2 v' (l ++ news).length (pcs (l ++ news))
    rw [List.length_append, e, hl]
    exact h1
  · rcases h3 with e | e
    · exact .inl e
    · exact .inr ⟨_, e, Nat.le_refl _⟩
end
/-- the blocks among the k first instructions -/
def blkN (l : List Ins) : Nat → List (Int × Int)
  | 0 => []
  | k + 1 => blkN l k ++ (if (insD l k).op = 24 then [((pl l k : Int) + 6, (insD l k).z)] else [])
theorem blkN_len (l : List Ins) : ∀ k, (blkN l k).length ≤ k
  | 0 => Nat.le_refl _
  | k + 1 => by
    have := blkN_len l k
    simp only [blkN, List.length_append]
    split <;> simp <;> omega
def BkP (bl : List (Int × Int)) (w : World) (e : Ending) (w' : World) : Prop := ∃ v, e = .returned v ∧ OwnP w' w.heap.size v bl ∧ Below w.heap.size w w'
set_option maxRecDepth 100000 in
set_option maxHeartbeats 4000000 in
theorem Rblocks_any (A A' : Option Addr) (n c n' c' : Nat) (l : List Ins) (w : World) (hl : RdI w w.heap.size A n l) (hp : Reads w w.heap.size 1 A' n' ((plsL l).map iv)) (hn : n ≤ 32767) (hpl : ∀ k, k < l.length → pl l k ≤ 32767) (hok : ∀ x ∈ l, x.Ok) :
    Calls Try.prog 28 #[.slice A n c, .slice A' n' c'] w (BkP (blkN l l.length) w) := by
  have HL := Lib.hid hl
  have hln := hl.1
  subst hln
  have hnl : n' = l.length := by have := hp.1; simp [plsL] at this; omega
  subst hnl
  have HP := Lib.hid hp
  have HPL := Lib.hid hpl
  have HOK := Lib.hid hok
  have z43 := zero43
  clear hl hp hpl hok
  go_enter Try.func28, Try.ntmps28
  go_wp2
  go_loopw [5, 10] (fun v i wr => ∃ k : Nat, k ≤ l.length ∧ i = .int .i64 k ∧ OwnP wr w.heap.size v (blkN l k) ∧ Below w.heap.size w wr) (fun _ i _ => l.length - (intOf i).toNat)
  case atStart => exact ⟨0, Nat.zero_le _, rfl, World.ownsRow_nil _ _ _ _, Below.refl _ _⟩
  case round =>
    obtain ⟨k, hk, rfl, ho, hb⟩ := hrel
    have HO := Lib.hid ho
    have HB := Lib.hid hb
    obtain ⟨Av, cv, rfl, _, _⟩ := own_form ho
    have hws := hb.size
    clear ho hb
    by_cases hlt : k < l.length
    · obtain ⟨bi, oi, rfl, hbi, qi⟩ := (HL.out.below HB.out).2 k (insD l k) (insD_some hlt)
      obtain ⟨bp, op', rfl, hbp, qp⟩ := int_at (HP.out.below HB.out) (by simpa [plsL] using hlt)
      obtain ⟨e0, e1, e2, e3, e4⟩ := cs43 qi
      have hpk : (plsL l).getD k 0 = (pl l k : Int) := by simp [plsL, List.getD_eq_getElem?_getD, List.getElem?_range hlt]
      rw [hpk] at qp
      have hple := HPL.out k hlt
      have hbl := blkN_len l k
      have hxo := HOK.out _ (insD_mem hlt)
      have hzb := hxo.z
      have HNX : Hid (blkN l (k + 1) = blkN l k ++ (if (insD l k).op = 24 then [((pl l k : Int) + 6, (insD l k).z)] else [])) := Lib.hid rfl
      have l1 : (0 : Int) ≤ (k : Int) := by omega
      have l2 : (k : Int) < (l.length : Int) := by omega
      have hbiw : bi < wr.heap.size := by omega
      have hbpw : bp < wr.heap.size := by omega
      clear qi hpk hxo
      generalize insD l k = x at *
      obtain ⟨op, xa, xb, xc, xz⟩ := x
      dsimp only at e0 e1 e2 e3 e4 HNX hzb
      have HX := Lib.hid (Blk.new wr 43 #[.int .i64 op, .int .i64 xa, .int .i64 xb, .int .i64 xc, .int .i64 xz])
      have qp2 : (wr.alloc (.cells #[.int .i64 op, .int .i64 xa, .int .i64 xb, .int .i64 xc, .int .i64 xz] 43)).cell? ⟨bp, op' + k, none⟩ = some (.int .i64 (pl l k : Int)) := by
        rw [((Below.refl wr.heap.size wr).alloc (Nat.le_refl _) _).cell hbpw]; exact qp
      have HO2 := Lib.hid (World.ownsRow.alloc HO.out (.cells #[.int .i64 op, .int .i64 xa, .int .i64 xb, .int .i64 xc, .int .i64 xz] 43))
      have HB2 := Lib.hid (HB.out.alloc hws (.cells #[.int .i64 op, .int .i64 xa, .int .i64 xb, .int .i64 xc, .int .i64 xz] 43))
      by_cases h24 : op = 24
      · subst h24
        have HN := Lib.hid (show blkN l (k + 1) = blkN l k ++ [((pl l k : Int) + 6, xz)] from HNX.out)
        clear HNX
        go_upto_region 6 with fail
        clear e0 e1 e2 e3 e4 hbiw qp HO HB
        generalize hbx : wr.heap.size = bx at *
        generalize wr.alloc (.cells #[.int .i64 24, .int .i64 xa, .int .i64 xb, .int .i64 xc, .int .i64 xz] 43) = w2 at *
        have y4 : w2.cell? ⟨bx, 4, none⟩ = some (.int .i64 xz) := HX.out.cell 4
        have lw : IntKind.i64.wrap ((pl l k : Int) + 6) = (pl l k : Int) + 6 := by rw [IntKind.wrap_i64]; omega
        have hbB := HB2.out.size
        generalize blkN l k = bl at *
        have hbp3 : bp < w.heap.size := hbp
        have HAP : Hid (∀ (v4 : Value) (w4 : World) (o : Obj), App ((w2.alloc o).drew) (.slice Av bl.length cv) w4 v4 → Below w.heap.size w w4 ∧ (w4.cell? ⟨bp, op' + k, none⟩ = some (.int .i64 (pl l k : Int)) ∧ w4.cell? ⟨bx, 4, none⟩ = some (.int .i64 xz))) := Lib.hid fun v4 w4 o ha => by
          have hd := ha.below (base := w.heap.size) (Nat.le_trans hbB (by simp)) fun j hj => (World.ownsRow.lt HO2.out j hj).1
          have h3 := ha.blk ((HX.out.alloc o).drew) (own_blk_ne ((HO2.out.alloc o).drew) ((HX.out.alloc o).drew) (by decide))
          refine ⟨((HB2.out.alloc hbB o).drew).trans hd, ?_, h3.cell 4⟩
          rw [hd.cell (p := ⟨bp, op' + k, none⟩) hbp3]
          show (w2.alloc o).cell? _ = _
          rw [((Below.refl w2.heap.size w2).alloc (Nat.le_refl _) o).cell (p := ⟨bp, op' + k, none⟩) (by show bp < w2.heap.size; omega)]
          exact qp2
        go_region_held3 (fun W' => W'.cell? ⟨bp, op' + k, none⟩ = some (.int .i64 (pl l k : Int)) ∧ W'.cell? ⟨bx, 4, none⟩ = some (.int .i64 xz))
          (first | go_keep | exact hk4)
          (first | (refine step_p rfl (.tmp 18) (.tmp 27) rfl w.heap.size (.slice Av bl.length cv) bl (by simp [Act.eval]) ((HO2.out.alloc _).drew) _ _ 1 1 [((pl l k : Int) + 6, xz)] (by simp [Act.eval]) ((Reads.builtN' w2 68 _ (pcs [((pl l k : Int) + 6, xz)]) 1 2 rfl rfl).drew) (by omega) (by simp; omega) ?_; intro v4 w4 ho4 ha4; obtain ⟨hb4, hk4⟩ := HAP.out _ _ _ ha4; have HO4 := Lib.hid ho4; have HB4 := Lib.hid hb4; clear ho4 ha4 hb4))
        all_goals
          go_wp2
          go_roundw
          case rel => exact ⟨k + 1, by omega, by go_num, by rw [HN.out]; exact HO4.out, HB4.out⟩
          case measure => simp [intOf]; omega
      · have HN := Lib.hid (show blkN l (k + 1) = blkN l k by rw [HNX.out, if_neg h24, List.append_nil])
        have d1 : (op == 24) = false := by simpa using h24
        clear HNX
        go_wp2
        go_roundw
        case rel => exact ⟨k + 1, by omega, by go_num, by rw [HN.out]; exact HO2.out, HB2.out⟩
        case measure => simp [intOf]; omega
    · obtain rfl : k = l.length := by omega
      go_wp2
      go_ret
      exact ⟨_, rfl, HO.out, HB.out⟩
def BlkP (bs : List UInt8) (w : World) (e : Ending) (w' : World) : Prop := ∃ v, e = .returned (.tuple #[v, .int .i64 (decL bs).2.2.2]) ∧ OwnP w' w.heap.size v (if (decL bs).2.2.2 = 0 then blkN (decL bs).1 (decL bs).1.length else []) ∧ Below w.heap.size w w'
set_option maxRecDepth 100000 in
set_option maxHeartbeats 4000000 in
theorem Blocks_any (A0 : Option Addr) (n0 c0 : Nat) (bs : List UInt8) (w0 : World) (hr : RdB w0 w0.heap.size A0 n0 bs) : Calls Try.prog 26 #[.slice A0 n0 c0] w0 (BlkP bs w0) := by
  have H24 := Lib.hid (Decode_any A0 n0 c0 bs w0 hr)
  clear hr
  rcases decL_cases bs with ⟨_, hd⟩ | ⟨hbl, ⟨l, ps, hd, hwh⟩ | ⟨pb, hd, _⟩⟩
  · have HF : Hid (∀ w', Below w0.heap.size w0 w' → BlkP bs w0 (.returned (.tuple #[.slice none 0 0, .int .i64 2])) w') := Lib.hid fun w' hb => ⟨_, by rw [hd], by rw [hd]; exact World.ownsRow_nil _ _ _ _, hb⟩
    rw [hd] at H24
    clear hd
    go_enter Try.func26, Try.ntmps26
    go_wp2_with (go_at_call 24; refine H24.out.mono ?_; rintro e w ⟨hb3, lv, pv, rfl, _, _⟩; have HB3 := Lib.hid hb3; clear hb3)
    go_ret2
    exact HF.out _ HB3.out
  rotate_left
  · have HF : Hid (∀ w', Below w0.heap.size w0 w' → BlkP bs w0 (.returned (.tuple #[.slice none 0 0, .int .i64 50])) w') := Lib.hid fun w' hb => ⟨_, by rw [hd], by rw [hd]; exact World.ownsRow_nil _ _ _ _, hb⟩
    rw [hd] at H24
    clear hd
    go_enter Try.func26, Try.ntmps26
    go_wp2_with (go_at_call 24; refine H24.out.mono ?_; rintro e w ⟨hb3, lv, pv, rfl, _, _⟩; have HB3 := Lib.hid hb3; clear hb3)
    go_ret2
    exact HF.out _ HB3.out
  have HF : Hid (∀ v w', OwnP w' w0.heap.size v (blkN l l.length) → Below w0.heap.size w0 w' → BlkP bs w0 (.returned (.tuple #[v, .int .i64 0])) w') := Lib.hid fun v w' ho hb => ⟨_, by rw [hd], by rw [hd, if_pos rfl]; exact ho, hb⟩
  have HOK := Lib.hid hwh.ok
  have HPL : Hid (∀ k, k < l.length → pl l k ≤ 32767) := Lib.hid fun k hk => by
    have h1 := pl_mono l l.length k (by omega)
    have h2 := hwh.fin
    omega
  have hpsz := whole_ps hwh
  have hll := whole_len hwh
  have hn : l.length ≤ 32767 := by omega
  rw [hd] at H24
  have HS19 := Lib.hid (Size_any 24)
  have z43 := zero43
  rw [show szO 24 = 6 from rfl] at HS19
  clear hd hwh hbl hll
  go_enter Try.func26, Try.ntmps26
  go_upto_region 2 with (go_at_call 24; refine H24.out.mono ?_; rintro e w ⟨hb3, lv, pv, rfl, ho3, hp3⟩; have HB0 := Lib.hid hb3; have HO3 := Lib.hid ho3; have HP3 := Lib.hid hp3; clear hb3 ho3 hp3)
  clear H24
  rw [hpsz] at HP3
  clear hpsz
  obtain ⟨A, c, rfl, _, _⟩ := own_form HO3.out
  obtain ⟨A', c', hpv, _, _⟩ := own_form HP3.out
  rw [show (plsL l).length = l.length by simp [plsL]] at hpv
  subst hpv
  have HL : Hid (RdI w w.heap.size A l.length l) := Lib.hid (RdI.of_own HO3.out)
  have HP : Hid (Reads w w.heap.size 1 A' l.length ((plsL l).map iv)) := Lib.hid (by
    have := HP3.out
    unfold OwnZ at this
    rw [show (plsL l).length = l.length by simp [plsL]] at this
    exact Reads.of_own this)
  clear HO3 HP3
  go_wp2
  go_loopw [8, 23] (fun v i wr => ∃ k : Nat, k ≤ l.length ∧ i = .int .i64 k ∧ OwnP wr w.heap.size v (blkN l k) ∧ Below w.heap.size w wr) (fun _ i _ => l.length - (intOf i).toNat)
  case atStart => exact ⟨0, Nat.zero_le _, rfl, World.ownsRow_nil _ _ _ _, Below.refl _ _⟩
  case round =>
    obtain ⟨k, hk, rfl, ho, hb⟩ := hrel
    have HO := Lib.hid ho
    have HB := Lib.hid hb
    obtain ⟨Av, cv, rfl, _, _⟩ := own_form ho
    have hws := hb.size
    clear ho hb
    by_cases hlt : k < l.length
    · obtain ⟨bi, oi, rfl, hbi, qi⟩ := (HL.out.below HB.out).2 k (insD l k) (insD_some hlt)
      obtain ⟨bp, op', rfl, hbp, qp⟩ := int_at (HP.out.below HB.out) (by simpa [plsL] using hlt)
      obtain ⟨e0, e1, e2, e3, e4⟩ := cs43 qi
      have hpk : (plsL l).getD k 0 = (pl l k : Int) := by simp [plsL, List.getD_eq_getElem?_getD, List.getElem?_range hlt]
      rw [hpk] at qp
      have hple := HPL.out k hlt
      have hbl := blkN_len l k
      have hxo := HOK.out _ (insD_mem hlt)
      have hzb := hxo.z
      have HNX : Hid (blkN l (k + 1) = blkN l k ++ (if (insD l k).op = 24 then [((pl l k : Int) + 6, (insD l k).z)] else [])) := Lib.hid rfl
      have l1 : (0 : Int) ≤ (k : Int) := by omega
      have l2 : (k : Int) < (l.length : Int) := by omega
      have hbiw : bi < wr.heap.size := by omega
      have hbpw : bp < wr.heap.size := by omega
      clear qi hpk hxo
      generalize insD l k = x at *
      obtain ⟨op, xa, xb, xc, xz⟩ := x
      dsimp only at e0 e1 e2 e3 e4 HNX hzb
      have HX := Lib.hid (Blk.new wr 43 #[.int .i64 op, .int .i64 xa, .int .i64 xb, .int .i64 xc, .int .i64 xz])
      have qp2 : (wr.alloc (.cells #[.int .i64 op, .int .i64 xa, .int .i64 xb, .int .i64 xc, .int .i64 xz] 43)).cell? ⟨bp, op' + k, none⟩ = some (.int .i64 (pl l k : Int)) := by
        rw [((Below.refl wr.heap.size wr).alloc (Nat.le_refl _) _).cell hbpw]; exact qp
      have HO2 := Lib.hid (World.ownsRow.alloc HO.out (.cells #[.int .i64 op, .int .i64 xa, .int .i64 xb, .int .i64 xc, .int .i64 xz] 43))
      have HB2 := Lib.hid (HB.out.alloc hws (.cells #[.int .i64 op, .int .i64 xa, .int .i64 xb, .int .i64 xc, .int .i64 xz] 43))
      by_cases h24 : op = 24
      · subst h24
        have HN := Lib.hid (show blkN l (k + 1) = blkN l k ++ [((pl l k : Int) + 6, xz)] from HNX.out)
        clear HNX
        go_upto_region 9 with fail
        clear e0 e1 e2 e3 e4 hbiw qp HO HB
        generalize hbx : wr.heap.size = bx at *
        generalize wr.alloc (.cells #[.int .i64 24, .int .i64 xa, .int .i64 xb, .int .i64 xc, .int .i64 xz] 43) = w2 at *
        have y4 : w2.cell? ⟨bx, 4, none⟩ = some (.int .i64 xz) := HX.out.cell 4
        have lw : IntKind.i64.wrap ((pl l k : Int) + 6) = (pl l k : Int) + 6 := by rw [IntKind.wrap_i64]; omega
        have hbB := HB2.out.size
        generalize blkN l k = bl at *
        have hbp3 : bp < w.heap.size := hbp
        have HAC : Hid (∀ (w3 : World), Below w2.heap.size w2 w3 → OwnP w3 w.heap.size (.slice Av bl.length cv) bl ∧ Blk w3 bx 43 #[.int .i64 24, .int .i64 xa, .int .i64 xb, .int .i64 xc, .int .i64 xz] ∧ Below w.heap.size w w3 ∧ (w3.cell? ⟨bp, op' + k, none⟩ = some (.int .i64 (pl l k : Int)) ∧ w3.cell? ⟨bx, 0, none⟩ = some (.int .i64 24) ∧ w3.cell? ⟨bx, 4, none⟩ = some (.int .i64 xz))) := Lib.hid fun w3 hb => by
          have h1 := HX.out.below hb HX.out.lt
          exact ⟨own_same HO2.out fun j hj => hb.block j (World.ownsRow.lt HO2.out j hj).2, h1, HB2.out.trans (hb.mono hbB), by rw [hb.cell (p := ⟨bp, op' + k, none⟩) (by show bp < w2.heap.size; omega)]; exact qp2, h1.cell 0, h1.cell 4⟩
        have HAP : Hid (∀ (w3 : World) (v4 : Value) (w4 : World) (o : Obj), OwnP w3 w.heap.size (.slice Av bl.length cv) bl → Blk w3 bx 43 #[.int .i64 24, .int .i64 xa, .int .i64 xb, .int .i64 xc, .int .i64 xz] → Below w.heap.size w w3 → w3.cell? ⟨bp, op' + k, none⟩ = some (.int .i64 (pl l k : Int)) → App (w3.alloc o) (.slice Av bl.length cv) w4 v4 → Below w.heap.size w w4 ∧ (w4.cell? ⟨bp, op' + k, none⟩ = some (.int .i64 (pl l k : Int)) ∧ w4.cell? ⟨bx, 0, none⟩ = some (.int .i64 24) ∧ w4.cell? ⟨bx, 4, none⟩ = some (.int .i64 xz))) := Lib.hid fun w3 v4 w4 o ho hx hb3 hq ha => by
          have hd := ha.below (base := w.heap.size) (Nat.le_trans hb3.size (by simp)) fun j hj => (World.ownsRow.lt ho j hj).1
          have h3 := ha.blk (hx.alloc o) (own_blk_ne (ho.alloc o) (hx.alloc o) (by decide))
          refine ⟨(hb3.alloc hb3.size o).trans hd, ?_, h3.cell 0, h3.cell 4⟩
          rw [hd.cell (p := ⟨bp, op' + k, none⟩) hbp3, ((Below.refl w3.heap.size w3).alloc (Nat.le_refl _) o).cell (p := ⟨bp, op' + k, none⟩) (by show bp < w3.heap.size; have := hb3.size; omega)]
          exact hq
        have y0 : w2.cell? ⟨bx, 0, none⟩ = some (.int .i64 24) := HX.out.cell 0
        go_region_held3 (fun W' => W'.cell? ⟨bp, op' + k, none⟩ = some (.int .i64 (pl l k : Int)) ∧ W'.cell? ⟨bx, 0, none⟩ = some (.int .i64 24) ∧ W'.cell? ⟨bx, 4, none⟩ = some (.int .i64 xz))
          (first | go_keep | exact hk4 | exact hk3)
          (first
            | (go_at_call 19; ((with_reducible refine (HS19.out _).mono ?_); rintro e w3 ⟨rfl, hb3'⟩; obtain ⟨ho3, hx3, hb3, hk3⟩ := HAC.out _ (below_of_drew hb3'); have HO3 := Lib.hid ho3; have HX3 := Lib.hid hx3; have HB3 := Lib.hid hb3; have HQ3 := Lib.hid hk3.1; clear hb3' ho3 hx3 hb3))
            | (refine step_p rfl (.tmp 31) (.tmp 43) rfl w.heap.size (.slice Av bl.length cv) bl (by simp [Act.eval]) (World.ownsRow.alloc HO3.out _) _ _ 1 1 [((pl l k : Int) + 6, xz)] (by simp [Act.eval]) (Reads.builtN' w3 68 _ (pcs [((pl l k : Int) + 6, xz)]) 1 2 rfl rfl) (by omega) (by have := HB3.out.size; simp; omega) ?_; intro v4 w4 ho4 ha4; obtain ⟨hb4, hk4⟩ := HAP.out _ _ _ _ HO3.out HX3.out HB3.out HQ3.out ha4; have HO4 := Lib.hid ho4; have HB4 := Lib.hid hb4; clear ho4 ha4 hb4))
        all_goals
          go_wp2
          go_roundw
          case rel => exact ⟨k + 1, by omega, by go_num, by rw [HN.out]; exact HO4.out, HB4.out⟩
          case measure => simp [intOf]; omega
      · have HN := Lib.hid (show blkN l (k + 1) = blkN l k by rw [HNX.out, if_neg h24, List.append_nil])
        have d1 : (op == 24) = false := by simpa using h24
        clear HNX
        go_wp2
        go_roundw
        case rel => exact ⟨k + 1, by omega, by go_num, by rw [HN.out]; exact HO2.out, HB2.out⟩
        case measure => simp [intOf]; omega
    · obtain rfl : k = l.length := by omega
      go_wp2
      go_ret2
      exact HF.out _ _ (own_base HO.out HB0.out.size) (HB0.out.trans (HB.out.mono HB0.out.size))
end Go.Proofs.Ytaeegkljldngmaa
