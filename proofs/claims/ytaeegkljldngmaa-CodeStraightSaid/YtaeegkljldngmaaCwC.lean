/-
  The law CodeStraight f5. No statement of the seat is proved here.
-/
import Derived.Test.YtaeegkljldngmaaCwB
namespace Go.Proofs.Ytaeegkljldngmaa
open Go.RowKit

theorem opI_b (op : Int) : 0 ≤ (opI op).b ∧ (opI op).b ≤ 255 := ⟨Int.le_refl 0, by show (0 : Int) ≤ 255; decide⟩
theorem drop_int {l : List Int} {k : Nat} (h : k < l.length) : l.drop k = l.getD k 0 :: l.drop (k + 1) := by
  rw [List.drop_eq_getElem_cons h, List.getD_eq_getElem?_getD, List.getElem?_eq_getElem h]
  rfl
theorem strF_skip {op : Int} {r : List Int} {S : StrS} (h : op < 1 ∨ 15 < op ∨ S.d < mvT (opI op) ∨ 9000 < S.l.length) : strF (op :: r) S = strF r S := by
  rw [strF, if_pos h]
theorem strF_stop {op : Int} {r : List Int} {S : StrS} (h : ¬ (op < 1 ∨ 15 < op ∨ S.d < mvT (opI op) ∨ 9000 < S.l.length)) (h2 : 127 < S.d + mvP (opI op) - mvT (opI op)) : strF (op :: r) S = S := by
  rw [strF, if_neg h, if_pos h2]
theorem strF_go {op : Int} {r : List Int} {S : StrS} (h : ¬ (op < 1 ∨ 15 < op ∨ S.d < mvT (opI op) ∨ 9000 < S.l.length)) (h2 : ¬ 127 < S.d + mvP (opI op) - mvT (opI op)) : strF (op :: r) S = strF r ⟨S.l ++ [opI op], S.d + mvP (opI op) - mvT (opI op), max S.m (S.d + mvP (opI op) - mvT (opI op))⟩ := by
  rw [strF, if_neg h, if_neg h2]
theorem strOk_go {op : Int} {S : StrS} (hs : StrOk S) (h : ¬ (op < 1 ∨ 15 < op ∨ S.d < mvT (opI op) ∨ 9000 < S.l.length)) (h2 : ¬ 127 < S.d + mvP (opI op) - mvT (opI op)) : StrOk ⟨S.l ++ [opI op], S.d + mvP (opI op) - mvT (opI op), max S.m (S.d + mvP (opI op) - mvT (opI op))⟩ := by
  have hm := str_move (op := op) (by omega) (by omega)
  rw [hm.1] at h
  rw [hm.1, hm.2.1] at h2 ⊢
  exact hs.snoc (by omega) (by omega) (by omega) (by omega) (by omega)
theorem str_ver (ops : List Int) : encF [] (strL ops) = (0, bytesL (strL ops)) ∧ verB shpS (bytesL (strL ops)) = (strM ops, 0, 0) ∧ SplitsOk shpS (decL (bytesL (strL ops))).1 ∧ (strL ops).length ≤ 9002 ∧ (bytesL (strL ops)).length ≤ 32767 := by
  obtain ⟨h1, h2⟩ := strL_may ops
  obtain ⟨f1, f2, _⟩ := strL_flat ops
  have hd := decL_bytes h1 h2
  refine ⟨by rw [encF_ok _ _ h1, List.nil_append, if_neg (by omega)], ?_, ?_, f2, h2⟩
  · unfold verB
    rw [hd, show shB shpS.args shpS.temps shpS.fields shpS.lits.length = true by decide, if_pos rfl]
    dsimp only
    rw [if_pos rfl]
    exact verL_str ops
  · rw [hd]
    exact splits_flat _ fun k hk => by
      obtain ⟨op, ho, h3 | h3⟩ := f1.op k hk <;> · rw [ho]; show op ≠ 24; omega
set_option maxRecDepth 100000 in
set_option maxHeartbeats 8000000 in
theorem straight_any (A : Option Addr) (n c : Nat) (ops : List Int) (w : World) (hr : Reads w w.heap.size 1 A n (ops.map iv)) (hn : n ≤ 9223372036854775807) : Calls Try.prog 5 #[.slice A n c] w (AwP w) := by
  obtain ⟨SF, hSF⟩ : ∃ SF, strF ops ⟨[], 0, 0⟩ = SF := ⟨_, rfl⟩
  have HSF := Lib.hid hSF
  have HRD := Lib.hid hr
  have hlen : ops.length = n := by simpa using hr.1
  have HLN := Lib.hid hlen
  have H14 := Lib.hid awake_any
  have z43 := zero43
  clear hSF hr hlen
  go_enter Try.func5, Try.ntmps5
  go_upto_block 0 with fail
  go_cut [3, 4, 5] (fun v d m wx => OwnIn wx w.heap.size v SF.l ∧ d = .int .i64 SF.d ∧ m = .int .i64 SF.m ∧ Below w.heap.size w wx)
  case first =>
    go_wp2
    go_loopw [3, 4, 5, 18] (fun v d m i wx => ∃ (k : Nat) (S : StrS), k ≤ n ∧ i = .int .i64 k ∧ OwnIn wx w.heap.size v S.l ∧ d = .int .i64 S.d ∧ m = .int .i64 S.m ∧ StrOk S ∧ Below w.heap.size w wx ∧ strF (ops.drop k) S = SF) (fun _ _ _ i _ => n - (intOf i).toNat)
    case atStart => exact ⟨0, ⟨[], 0, 0⟩, Nat.zero_le _, rfl, World.ownsRow_nil _ _ _ _, rfl, rfl, str0, Below.refl _ _, HSF.out⟩
    case round =>
      obtain ⟨k, S, hk, rfl, ho, rfl, rfl, hs, hb, hrest⟩ := hrel
      have HO := Lib.hid ho
      have HS := Lib.hid hs
      have HB := Lib.hid hb
      have HRE := Lib.hid hrest
      obtain ⟨A1, c1, rfl, _, _⟩ := own_form ho
      have hdp := hs.dp
      have hmp := hs.mp
      have hll := hs.len
      have hws := hb.size
      clear ho hs hb hrest
      by_cases hlt : k < n
      · obtain ⟨b, o, rfl, hbb, c5⟩ := int_at (HRD.out.below HB.out) hlt
        have hdrop := drop_int (l := ops) (k := k) (by rw [HLN.out]; exact hlt)
        rw [hdrop] at HRE
        clear hdrop
        generalize ops.getD k 0 = op at *
        have l1 : (0 : Int) ≤ (k : Int) := by omega
        have l2 : (k : Int) < (n : Int) := by omega
        have hbw : b < wr.heap.size := by omega
        have H16 := Lib.hid fun w => Moves_any (opI op) w (opI_b op)
        have hmv := mv_le (x := opI op) (opI_b op) (opI_b op)
        have HSK := Lib.hid fun h => (strF_skip (op := op) (r := ops.drop (k + 1)) (S := S) h).symm.trans HRE.out
        have HST := Lib.hid fun h h2 => (strF_stop (op := op) (r := ops.drop (k + 1)) (S := S) h h2).symm.trans HRE.out
        have HGO := Lib.hid fun h h2 => (strF_go (op := op) (r := ops.drop (k + 1)) (S := S) h h2).symm.trans HRE.out
        have HSO := Lib.hid fun h h2 => strOk_go (op := op) HS.out h h2
        have HOI : Hid ((opI op).val = .agg #[.int .i64 op, .int .i64 0, .int .i64 0, .int .i64 0, .int .i64 0]) := Lib.hid rfl
        rw [HOI.out] at H16
        clear HRE HOI
        generalize mvT (opI op) = tk at *
        generalize mvP (opI op) = pt at *
        go_upto_region 8 with (go_at_call 16; refine (H16.out _).mono ?_; rintro e w2 ⟨rfl, hb2⟩; have HB2 := Lib.hid hb2; clear hb2)
        have HBW : Hid (Below wr.heap.size wr w2) := Lib.hid (((Below.refl _ _).alloc (Nat.le_refl _) _).trans (HB2.out.mono (by simp)))
        have HX := Lib.hid ((Blk.new wr 43 #[.int .i64 op, .int .i64 0, .int .i64 0, .int .i64 0, .int .i64 0]).below HB2.out (by simp))
        have HO2 : Hid (OwnIn w2 w.heap.size (.slice A1 S.l.length c1) S.l) := Lib.hid (own_same HO.out fun k hk => HBW.out.block k (World.ownsRow.lt HO.out k hk).2)
        have HB3 := Lib.hid (HB.out.trans (HBW.out.mono hws))
        clear HB2 HBW HO HB hbb c5 H16
        obtain ⟨sl, sd, sm⟩ := S
        dsimp only at HO2 HSK HST HGO HSO hdp hmp hll
        by_cases hskip : op < 1 ∨ 15 < op ∨ sd < tk ∨ 9000 < sl.length
        · have HR2 := Lib.hid (HSK.out hskip)
          clear HSK HST HGO HSO
          have h4 : op < 1 ∨ (1 ≤ op ∧ 15 < op) ∨ (1 ≤ op ∧ op ≤ 15 ∧ sd < tk) ∨ (1 ≤ op ∧ op ≤ 15 ∧ tk ≤ sd ∧ 9000 < sl.length) := by omega
          clear hskip
          rcases h4 with g1 | ⟨g1, g2⟩ | ⟨g1, g2, g3⟩ | ⟨g1, g2, g3, g4⟩
          all_goals
            go_wp2
            go_roundw
            case rel => exact ⟨k + 1, ⟨sl, sd, sm⟩, by omega, by go_num, HO2.out, rfl, rfl, HS.out, HB3.out, HR2.out⟩
            case measure => simp [intOf]; omega
        · by_cases hstop : 127 < sd + pt - tk
          · have HR2 := Lib.hid (HST.out hskip hstop)
            clear HSK HST HGO HSO
            have g1 : 1 ≤ op := by omega
            have g2 : op ≤ 15 := by omega
            have g3 : tk ≤ sd := by omega
            have g4 : sl.length ≤ 9000 := by omega
            clear hskip
            go_wp2
            go_meet
            rw [← HR2.out]
            exact ⟨HO2.out, rfl, rfl, HB3.out⟩
          · have HR2 := Lib.hid (HGO.out hskip (by omega))
            have HS2 := Lib.hid (HSO.out hskip (by omega))
            clear HSK HST HGO HSO HS
            have g1 : 1 ≤ op := by omega
            have g2 : op ≤ 15 := by omega
            have g3 : tk ≤ sd := by omega
            have g4 : sl.length ≤ 9000 := by omega
            have g5 : sd + pt - tk ≤ 127 := by omega
            clear hskip hstop
            have x0 : w2.cell? ⟨wr.heap.size, 0, none⟩ = some (.int .i64 op) := HX.out.cell 0
            have x1 : w2.cell? ⟨wr.heap.size, 1, none⟩ = some (.int .i64 0) := HX.out.cell 1
            have x2 : w2.cell? ⟨wr.heap.size, 2, none⟩ = some (.int .i64 0) := HX.out.cell 2
            have x3 : w2.cell? ⟨wr.heap.size, 3, none⟩ = some (.int .i64 0) := HX.out.cell 3
            have x4 : w2.cell? ⟨wr.heap.size, 4, none⟩ = some (.int .i64 0) := HX.out.cell 4
            have hbB : w.heap.size ≤ w2.heap.size := HB3.out.size
            go_wp2_with (at_builtin; refine app_ins rfl (.tmp 51) (.tmp 53) rfl w.heap.size _ sl rfl (HO2.out.alloc _) _ _ 1 1 [opI op] rfl (Reads.builtN' _ 43 _ (insC [opI op]) 1 5 rfl rfl) (by omega) (by simp; omega) ?_; intro v4 w4 ho4 ha4; have HO4 := Lib.hid ho4; have HB4 := Lib.hid (HB3.out.trans ((((Below.refl _ _).alloc (Nat.le_refl _) _).mono hbB).trans (ha4.below (by simp; omega) fun k hk => (World.ownsRow.lt HO2.out k hk).1))); clear ho4 ha4)
            go_roundw
            case rel => exact ⟨k + 1, ⟨sl ++ [opI op], sd + pt - tk, max sm (sd + pt - tk)⟩, by omega, by go_num, HO4.out, congrArg (Value.int .i64) (by dsimp only; omega), congrArg (Value.int .i64) (by rw [show sd + (pt - tk) = sd + pt - tk by omega]; exact max_if _ _), HS2.out, HB4.out, HR2.out⟩
            case measure => simp [intOf]; omega
      · have HE : Hid (S = SF) := Lib.hid (by
          have := HRE.out
          rw [List.drop_eq_nil_of_le (by rw [HLN.out]; omega)] at this
          exact this)
        go_wp2
        go_meet
        rw [← HE.out]
        exact ⟨HO.out, rfl, rfl, HB.out⟩
  case rest =>
    obtain ⟨ho, rfl, rfl, hb⟩ := hcut
    obtain ⟨A1, c1, rfl, _, _⟩ := own_form ho
    have HO := Lib.hid ho
    have HB := Lib.hid hb
    have hs := strF_ok ops _ str0
    rw [HSF.out] at hs
    have hll := hs.len
    obtain ⟨e1, e2, e3, e4, e5⟩ := str_ver ops
    have hL : strL ops = SF.l ++ [opI 22] := by unfold strL; rw [HSF.out]
    have hM : strM ops = SF.m := by unfold strM; rw [HSF.out]
    rw [hL] at e1 e2 e3 e4 e5
    rw [hM] at e2
    have HE1 := Lib.hid e1
    have HE2 := Lib.hid e2
    have HE3 := Lib.hid e3
    have hbB : w.heap.size ≤ wc.heap.size := hb.size
    obtain ⟨sl, sd, sm⟩ := SF
    dsimp only at HO HE1 HE2 HE3 e4 e5 hll
    clear ho hb hs e1 e2 e3 hL hM HSF HRD HLN hn
    go_upto_region 15 with (at_builtin; refine app_ins rfl (.tmp 64) (.tmp 66) rfl w.heap.size _ sl rfl (HO.out.alloc _) _ _ 1 1 [opI 22] rfl (Reads.builtN' _ 43 _ (insC [opI 22]) 1 5 rfl rfl) (by omega) (by simp; omega) ?_; intro v4 w4 ho4 ha4; have HO4 := Lib.hid ho4; have HB4 := Lib.hid (HB.out.trans ((((Below.refl _ _).alloc (Nat.le_refl _) _).mono hbB).trans (ha4.below (by simp; omega) fun k hk => (World.ownsRow.lt HO.out k hk).1))); clear ho4 ha4)
    clear HO HB
    obtain ⟨A4, c4, hv4, _, _⟩ := own_form HO4.out
    obtain ⟨m, hm⟩ : ∃ m, (sl ++ [opI 22]).length = m := ⟨_, rfl⟩
    have HO6 : Hid (w4.ownsRow w.heap.size 43 5 v4 m (insC (sl ++ [opI 22]))) := Lib.hid (by rw [← hm]; exact HO4.out)
    rw [hm] at hv4 e4
    subst hv4
    clear hm HO4
    have H10 := Lib.hid (Encode_any A4 m c4 _ w4 (RdI.of_own HO6.out) (by omega))
    rw [HE1.out] at H10
    generalize hbl : bytesL (sl ++ [opI 22]) = bl at *
    clear hbl
    go_upto_region 16 with (go_at_call 10; refine H10.out.mono ?_; rintro e w5 ⟨v5, rfl, ho5, hb5⟩; have HO5 := Lib.hid ho5; have HB5 := Lib.hid (HB4.out.trans (hb5.mono HB4.out.size)); clear ho5 hb5)
    clear HO6 HB4 H10
    obtain ⟨A5, c5, rfl, _, _⟩ := HO5.out.form
    go_upto_region 18 with (go_at_call 14; refine (H14.out _).mono ?_; rintro e w6 ⟨rfl, hb6⟩; have HB6 := Lib.hid (HB5.out.trans (hb6.mono HB5.out.size)); have HO6 : Hid (OwnB 5 w6 w4.heap.size (.slice A5 bl.length c5) bl) := Lib.hid (own_same HO5.out fun k hk => hb6.block k (World.ownsRow.lt HO5.out k hk).2); clear hb6)
    clear HO5 HB5 H14
    have H15 := Lib.hid fun (t : TypeId) => verify_any A5 bl.length c5 bl shpS (some ⟨w6.heap.size, 0, none⟩) 1 (w6.alloc (.cells #[.int .i64 2] t)) (OwnB.reads (e := 5) (c := c5) (World.ownsRow.alloc HO6.out (.cells #[.int .i64 2] t)) rfl) ((Reads.builtN' w6 t _ ([2].map iv) 1 1 rfl rfl).more (by simp)) HE3.out
    rw [HE2.out] at H15
    have HB7 := Lib.hid fun (t : TypeId) => HB6.out.alloc HB6.out.size (.cells #[.int .i64 2] t)
    clear HE1 HE2 HE3 HO6
    have e1 : (sm == sm) = true := by simp
    go_wp2_with (go_at_call 15; refine (H15.out _).mono ?_; rintro e w8 ⟨rfl, hb8⟩; have HB8 := Lib.hid ((HB7.out _).trans (hb8.mono (HB7.out _).size)); clear hb8)
    go_ret
    exact ⟨rfl, HB8.out⟩
end Go.Proofs.Ytaeegkljldngmaa
