/-
  The closure put f48. No statement of the seat is proved here.
-/
import Derived.Test.YtaeegkljldngmaaDoorCvI
namespace Go.Proofs.YtaeegkljldngmaaDoor
open Go.RowKit

theorem VM.oldI {W W' : World} {base : Nat} {K : VK} {D : VD} (h : VM base K D W) (hc : Chg (VB K D) W W') (hB : base ≤ W.heap.size) : Below base W W' :=
  hc.below hB fun k hk e => by have := (h.lt e).1; omega
theorem getI_uniq {f : List (Int × Value)} {z : Int} {v : Value} (hm : (z, v) ∈ f) (hu : ∀ p ∈ f, p.1 = z → p.2 = v) : getI f z = some v := by
  cases h : getI f z with
  | none => exact absurd rfl (getI_none h _ hm)
  | some u =>
    obtain ⟨p, hp, h1, h2⟩ := getI_some h
    rw [← h2, hu p hp h1]
theorem getI_rank {st : List Nat} (hn : st.Nodup) {k : Nat} (hk : k < st.length) : getI (rankL st) ((st.getD k 0 : Nat) : Int) = some (.int .i64 (k : Int)) := by
  refine getI_uniq ?_ fun p hp he => ?_
  · simp only [rankL, List.mem_map, List.mem_range]
    exact ⟨k, hk, rfl⟩
  · simp only [rankL, List.mem_map, List.mem_range] at hp
    obtain ⟨j, hj, rfl⟩ := hp
    dsimp only at he ⊢
    have e : st.getD j 0 = st.getD k 0 := by omega
    rw [List.getD_eq_getElem?_getD, List.getD_eq_getElem?_getD, List.getElem?_eq_getElem hj, List.getElem?_eq_getElem hk] at e
    have hp := List.pairwise_iff_getElem.1 hn
    rcases Nat.lt_trichotomy j k with h1 | h1 | h1
    · exact absurd e (hp j k hj hk h1)
    · rw [h1]
    · exact absurd e.symm (hp k j hk hj h1)
theorem max_if (a d : Int) : (if a < d then d else a) = max a d := by
  rw [Int.max_def]
  split <;> split <;> omega
set_option maxRecDepth 100000 in
set_option maxHeartbeats 4000000 in
theorem put_any {base : Nat} {K : VK} {A : WA} {st : List Nat} {D : VD} {S : Wk} {W : World} (h : WkM base K A st D S W) (hB : base ≤ W.heap.size) (ok : KOk K) (hn : st.Nodup) (hwl : S.wt.length = st.length) (hsl : st.length ≤ 32768) (k : Nat) (hk : k < st.length) (i : Nat) (hi : st.getD k 0 = i) (hil : i < K.l.length) (hdl : S.dp.length = K.l.length) (d : Int) :
    Calls Tryd.prog 44 #[.int .i64 (i : Int), .int .i64 d, .pointer (some ⟨A.b3, 0, none⟩), .pointer (some ⟨A.b2, 0, none⟩), .pointer (some ⟨A.b4, 0, none⟩), .pointer (some ⟨A.b5, 0, none⟩)] W fun e w' => e = .returned (.tuple #[]) ∧ (∃ D', WkM base K A st D' (putW K.l i k d S) w' ∧ D'.rv = D.rv ∧ D'.sv = D.sv ∧ D'.ov = D.ov ∧ D'.of = D.of ∧ D'.bv = D.bv ∧ D'.body = D.body ∧ D'.rs = setMost D.rs A.q (max S.most d) ∧ D'.dv = D.dv) ∧ Below base W w' ∧ Chg (fun j => VB K D j ∨ A.wv.ownBlock = some j) W w' := by
  obtain ⟨rv, rs, sv, ov, of', bv, body, dv, dp', ft'⟩ := D
  obtain rfl : dp' = S.dp := h.dp
  obtain rfl : ft' = S.fault := h.ft
  have c2 : W.cell? ⟨A.b2, 0, none⟩ = some (.pointer (some ⟨K.g, 0, none⟩)) := h.x2.cell 0
  have c3 : W.cell? ⟨A.b3, 0, none⟩ = some (.pointer (some ⟨A.rb, A.q * 6, none⟩)) := h.x3.cell 0
  obtain ⟨_, _, _, _, _, _, cm⟩ := h.vm.rcell h.rv h.ql
  rw [h.ms] at cm
  have hr := h.vm.rgs
  rw [h.rv] at hr
  dsimp only at hr
  have fm := World.ownsRow.frozenAt hr (A.q * 6 + 5)
  have hrb := (World.ownsRow.lt hr A.rb (by simp [Value.ownBlock])).2
  have HV := Lib.hid h
  have HMX := Lib.hid (max_if S.most d)
  obtain ⟨m, hm⟩ : ∃ m, (if S.most < d then d else S.most) = m := ⟨_, rfl⟩
  have HM : Hid (max S.most d = m) := Lib.hid (by rw [← hm]; exact HMX.out.symm)
  have HPW : Hid (putW K.l i k d S = if S.dp.getD i 0 < 0 then { S with most := max S.most d, dp := S.dp.set i d, wt := S.wt.set k true } else if S.dp.getD i 0 = d then { S with most := max S.most d } else { S with most := max S.most d, fault := lower S.fault (pl K.l i) }) := Lib.hid rfl
  clear hr
  go_enter Tryd.func44, Tryd.ntmps44
  go_wp2
  go_region
  have hw1 := (HV.out.most hB m).drew
  have hold1 : Below base W (W.setCell ⟨A.rb, A.q * 6 + 5, none⟩ (.int .i64 m)).drew := ((Below.refl base W).setCell (World.ownsRow.lt HV.out.vm.rgs A.rb (by rw [HV.out.rv]; simp [Value.ownBlock])).1 _).drew
  have hch1 : Chg (fun j => VB K ⟨rv, rs, sv, ov, of', bv, body, dv, S.dp, S.fault⟩ j ∨ A.wv.ownBlock = some j) W (W.setCell ⟨A.rb, A.q * 6 + 5, none⟩ (.int .i64 m)).drew := ((Chg.refl _ W).setCell (p := ⟨A.rb, A.q * 6 + 5, none⟩) (fun _ => .inl (.inr (.inr (.inr (.inl (by rw [HV.out.rv]; simp [Value.ownBlock])))))) _).drew
  have HW1 := Lib.hid hw1
  have HOLD := Lib.hid hold1
  have HCH := Lib.hid hch1
  clear hw1 hold1 hch1 cm fm c2 c3 hm h
  generalize (W.setCell ⟨A.rb, A.q * 6 + 5, none⟩ (.int .i64 m)).drew = W1 at *
  have hB1 : base ≤ W1.heap.size := Nat.le_trans hB HOLD.out.size
  have c2 : W1.cell? ⟨A.b2, 0, none⟩ = some (.pointer (some ⟨K.g, 0, none⟩)) := HW1.out.x2.cell 0
  have H49 := Lib.hid (hand_any HW1.out.vm hB1 i hil ok.len (by rw [HW1.out.dp]; exact hdl) d)
  dsimp only at H49
  have HSE : Hid (handD K.l i d ⟨rv, setMost rs A.q m, sv, ov, of', bv, body, dv, S.dp, S.fault⟩ = if S.dp.getD i 0 < 0 then ⟨rv, setMost rs A.q m, sv, ov, of', bv, body, dv, S.dp.set i d, S.fault⟩ else if S.dp.getD i 0 = d then ⟨rv, setMost rs A.q m, sv, ov, of', bv, body, dv, S.dp, S.fault⟩ else ⟨rv, setMost rs A.q m, sv, ov, of', bv, body, dv, S.dp, lower S.fault (pl K.l i)⟩) := Lib.hid rfl
  generalize hx : S.dp.getD i 0 = x at *
  have HB1 := Lib.hid hB1
  by_cases h0 : x < 0
  · have d0 : decide (x < 0) = true := by simpa using h0
    go_wp2_with fail
    refine H49.out.mono ?_
    rintro e w2 ⟨rfl, hv2⟩
    rw [HSE.out, if_pos h0] at hv2
    have HW2 := Lib.hid (HW1.out.turn (D' := ⟨rv, setMost rs A.q m, sv, ov, of', bv, body, dv, S.dp.set i d, S.fault⟩) (S' := { S with most := m, dp := S.dp.set i d }) hv2.1 hv2.2 rfl rfl HW1.out.rv HW1.out.ql HW1.out.ms rfl)
    have HO2 := Lib.hid (HOLD.out.trans (HW1.out.vm.oldI hv2.2 HB1.out))
    have HC2 : Hid (Chg (fun j => VB K ⟨rv, rs, sv, ov, of', bv, body, dv, S.dp, S.fault⟩ j ∨ A.wv.ownBlock = some j) W w2) := Lib.hid (HCH.out.trans hv2.2 fun _ _ h => .inl h)
    clear hv2 c2
    obtain ⟨wb, wc, hwv⟩ := HW2.out.mform (by dsimp only; omega)
    obtain ⟨m4, mk, mf⟩ := HW2.out.mcell hwv (k := k) (by dsimp only; omega)
    dsimp only at m4 mk
    have c5 : w2.cell? ⟨A.b5, 0, none⟩ = some (.map (some A.mr)) := HW2.out.x5.cell 0
    have hlk : (Instr.lookup 79 (.map (some A.mr)) (.int .i64 (i : Int)) false).run Tryd.prog w2 = .ok (.int .i64 (k : Int)) w2 := by
      rw [run_lookupI (z0 := .int .i64 0) Tryd.underlying79 Tryd.underlying3 zero3 HW2.out.rk (i : Int), ← hi, getI_rank hn hk]
      rfl
    have l1 : (0 : Int) ≤ (k : Int) := by omega
    have l2 : (k : Int) < (S.wt.length : Int) := by omega
    have HMK := Lib.hid (HW2.out.mark hwv k true)
    have hwb := (World.ownsRow.lt HW2.out.wt wb (by rw [hwv]; simp [Value.ownBlock])).1
    clear hi
    go_wp2
    go_end0
    refine ⟨rfl, ⟨⟨rv, setMost rs A.q m, sv, ov, of', bv, body, dv, S.dp.set i d, S.fault⟩, ?_, rfl, rfl, rfl, rfl, rfl, rfl, congrArg (setMost rs A.q) HM.out.symm, rfl⟩, HO2.out.setCell hwb _, HC2.out.setCell (fun _ => .inr (by rw [hwv]; simp [Value.ownBlock])) _⟩
    rw [HPW.out, if_pos h0, HM.out]
    exact HMK.out
  · have d0 : decide (x < 0) = false := by simpa using h0
    go_wp2_with fail
    refine H49.out.mono ?_
    rintro e w2 ⟨rfl, hv2⟩
    have HO2 := Lib.hid (HOLD.out.trans (HW1.out.vm.oldI hv2.2 HB1.out))
    have HC2 : Hid (Chg (fun j => VB K ⟨rv, rs, sv, ov, of', bv, body, dv, S.dp, S.fault⟩ j ∨ A.wv.ownBlock = some j) W w2) := Lib.hid (HCH.out.trans hv2.2 fun _ _ h => .inl h)
    rw [HSE.out, if_neg (by omega)] at hv2
    by_cases h1 : x = d
    · rw [if_pos h1] at hv2
      have HW2 := Lib.hid (HW1.out.turn (D' := ⟨rv, setMost rs A.q m, sv, ov, of', bv, body, dv, S.dp, S.fault⟩) (S' := { S with most := m }) hv2.1 hv2.2 rfl rfl HW1.out.rv HW1.out.ql HW1.out.ms rfl)
      clear hv2 c2
      go_wp2
      go_end0
      refine ⟨rfl, ⟨⟨rv, setMost rs A.q m, sv, ov, of', bv, body, dv, S.dp, S.fault⟩, ?_, rfl, rfl, rfl, rfl, rfl, rfl, congrArg (setMost rs A.q) HM.out.symm, rfl⟩, HO2.out, HC2.out⟩
      rw [HPW.out, if_neg (by omega), if_pos h1, HM.out]
      exact HW2.out
    · rw [if_neg h1] at hv2
      have HW2 := Lib.hid (HW1.out.turn (D' := ⟨rv, setMost rs A.q m, sv, ov, of', bv, body, dv, S.dp, lower S.fault (pl K.l i)⟩) (S' := { S with most := m, fault := lower S.fault (pl K.l i) }) hv2.1 hv2.2 rfl rfl HW1.out.rv HW1.out.ql HW1.out.ms rfl)
      clear hv2 c2
      go_wp2
      go_end0
      refine ⟨rfl, ⟨⟨rv, setMost rs A.q m, sv, ov, of', bv, body, dv, S.dp, lower S.fault (pl K.l i)⟩, ?_, rfl, rfl, rfl, rfl, rfl, rfl, congrArg (setMost rs A.q) HM.out.symm, rfl⟩, HO2.out, HC2.out⟩
      rw [HPW.out, if_neg (by omega), if_neg h1, HM.out]
      exact HW2.out
end Go.Proofs.YtaeegkljldngmaaDoor
