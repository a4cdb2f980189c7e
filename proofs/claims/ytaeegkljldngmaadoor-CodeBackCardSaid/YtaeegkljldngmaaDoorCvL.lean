/-
  The verifier's walk f39. No statement of the seat is proved here.
-/
import Derived.Test.YtaeegkljldngmaaDoorCvW
namespace Go.Proofs.YtaeegkljldngmaaDoor
open Go.RowKit

/-- the frame at the label: what is read behind it, and anything else -/
def frameL (hs g rb q : Nat) (us : Nat → Value) : Act := ⟨#[.pointer (some ⟨g, 0, none⟩), .pointer (some ⟨rb, q * 6, none⟩), .pointer (some ⟨hs, 0, none⟩), .pointer (some ⟨hs + 1, 0, none⟩), .pointer (some ⟨hs + 1 + 1 + 1, 0, none⟩), .pointer (some ⟨hs + 1 + 1 + 1 + 1 + 1, 0, none⟩), us 6, us 7, .func (.func 44) #[] #[.pointer (some ⟨hs + 1, 0, none⟩), .pointer (some ⟨hs, 0, none⟩), .pointer (some ⟨hs + 1 + 1 + 1, 0, none⟩), .pointer (some ⟨hs + 1 + 1 + 1 + 1 + 1, 0, none⟩)], us 9, us 10, us 11, us 12, us 13, us 14, us 15, us 16, us 17, us 18, us 19, us 20, us 21, us 22, us 23, us 24, us 25, us 26, us 27, us 28, us 29, us 30, us 31, us 32, us 33, us 34, us 35, us 36, us 37, us 38, us 39, us 40, us 41, us 42, us 43, us 44, us 45, us 46, us 47, us 48, us 49, us 50, us 51, us 52, us 53, us 54, us 55, us 56, us 57, us 58, us 59, us 60, us 61, us 62, us 63, us 64, us 65, us 66, us 67, us 68, us 69, us 70, us 71, us 72, us 73, us 74, us 75, us 76, us 77, us 78, us 79, us 80, us 81, us 82, us 83, us 84, us 85, us 86, us 87, us 88, us 89, us 90, us 91, us 92, us 93, us 94, us 95, us 96, us 97, us 98, us 99, us 100, us 101, us 102, us 103, us 104, us 105, us 106, us 107, us 108, us 109, us 110, us 111, us 112, us 113, us 114, us 115, us 116, us 117, us 118, us 119, us 120, us 121, us 122, us 123, us 124, us 125, us 126, us 127, us 128, us 129, us 130, us 131, us 132, us 133, us 134, us 135, us 136, us 137, us 138, us 139, us 140, us 141, us 142, us 143, us 144, us 145, us 146, us 147, us 148, us 149, us 150, us 151, us 152, us 153], []⟩
theorem frameL_ex {hs g rb q : Nat} {a : Act} (h : a = frameL hs g rb q fun i => a.tmps.getD i undef) : ∃ us, a = frameL hs g rb q us := ⟨_, h⟩
/-- at the label -/
def WalkJ (base : Nat) (K : VK) (D : VD) (W : World) (R : Wk) (st : List Nat) (rb rc q : Nat) (m : Nat) (a' : Act) (w' : World) : Prop :=
  ∃ (D' : VD) (S' : Wk), (∃ us, a' = frameL W.heap.size K.g rb q us) ∧ WkM base K (waOf W.heap.size st.length rb rc q) st D' S' w' ∧ wkM S' = m ∧ wkF K.l st m S' = R ∧ S'.wt.length = st.length ∧ S'.dp.length = K.l.length ∧ DpOk S'.dp ∧ Below base W w' ∧ SameD D q D' S'.most
theorem WalkJ.intro {base : Nat} {K : VK} {D : VD} {W : World} {R : Wk} {st : List Nat} {rb rc q : Nat} {m : Nat} {a' : Act} {w' : World} (D' : VD) (S' : Wk) (h1 : ∃ us, a' = frameL W.heap.size K.g rb q us) (h2 : WkM base K (waOf W.heap.size st.length rb rc q) st D' S' w') (h3 : wkM S' = m) (h4 : wkF K.l st m S' = R) (h5 : S'.wt.length = st.length) (h6 : S'.dp.length = K.l.length) (h7 : DpOk S'.dp) (h8 : Below base W w') (h9 : SameD D q D' S'.most) : WalkJ base K D W R st rb rc q m a' w' :=
  ⟨D', S', h1, h2, h3, h4, h5, h6, h7, h8, h9⟩
/-- what the walk of a region leaves -/
def WlkP (base : Nat) (K : VK) (D : VD) (q : Nat) (R : Wk) (W : World) (e : Ending) (w' : World) : Prop :=
  e = .returned (.tuple #[]) ∧ (∃ D', VM base K D' w' ∧ D'.rv = D.rv ∧ D'.sv = D.sv ∧ D'.ov = D.ov ∧ D'.of = D.of ∧ D'.bv = D.bv ∧ D'.body = D.body ∧ D'.rs = setMost D.rs q R.most ∧ D'.dv = D.dv ∧ D'.dp = R.dp ∧ D'.fault = R.fault) ∧ Below base W w'
set_option maxRecDepth 100000 in
set_option maxHeartbeats 8000000 in
theorem walk_any {base : Nat} {K : VK} {D : VD} {W : World} (h : VM base K D W) (hB : base ≤ W.heap.size) (ok : KOk K) (q : Nat) (hq : q < D.rs.length) (rb rc : Nat) (hrv : D.rv = .slice (some ⟨rb, 0, none⟩) D.rs.length rc) (hok : WalkOk K.l (rgAt D.rs q).steps) (hm0 : (rgAt D.rs q).most = 0) (hdl : D.dp.length = K.l.length) (hdo : DpOk D.dp) :
    Calls Tryd.prog 32 #[.pointer (some ⟨K.g, 0, none⟩), .pointer (some ⟨rb, q * 6, none⟩)] W (WlkP base K D q (wkAll K.l (rgAt D.rs q).steps D.dp D.fault) W) := by
  obtain ⟨R, hR⟩ : ∃ R, wkAll K.l (rgAt D.rs q).steps D.dp D.fault = R := ⟨_, rfl⟩
  rw [hR]
  have HR := Lib.hid hR
  obtain ⟨st, hst⟩ : ∃ st, (rgAt D.rs q).steps = st := ⟨_, rfl⟩
  obtain ⟨sb, sc, hsv⟩ := h.sform hq hok.ne
  obtain ⟨_, _, _, _, _, c4, _⟩ := h.rcell hrv hq
  rw [hsv, hst] at c4
  have HSC := Lib.hid fun W (h : VM base K D W) k hk => h.scell hq hsv (i := k) hk
  rw [hst] at hok HR HSC
  have HSV : Hid (D.sv.getD q (.slice none 0 0) = .slice (some ⟨sb, 0, none⟩) st.length sc) := Lib.hid (by rw [hsv, hst])
  have hsn := hok.le
  have hs0 := hok.ne
  have hgl := h.blk.lt
  have hrb := (World.ownsRow.lt h.rgs rb (by rw [hrv]; simp [Value.ownBlock])).2
  obtain ⟨i4, hi4, hz4, hsz4, hby4⟩ := info_parts info4
  have hmk := fun w => run_make_rowN (P := Tryd.prog) 106 4 i4 _ Tryd.underlying106 hi4 hz4 .i64 .i64 st.length st.length (Nat.le_refl _) (by rw [hby4]; omega) (by omega) w
  rw [hsz4] at hmk
  have hmm := @run_makeMap Tryd.prog
  have z70 : ∀ w : World, (zeroValue 106).run Tryd.prog w = .ok (.slice none 0 0) w := fun w => by kernel_rfl
  have z83 : ∀ w : World, (zeroValue 79).run Tryd.prog w = .ok (.map none) w := fun w => by kernel_rfl
  have hu83 := Tryd.underlying79
  have hmf : ∀ (fn : Fn) (first cap : Array Value) (w : World), (Instr.makeFunc fn first cap).run Tryd.prog w = .ok (.func fn first cap) w := fun _ _ _ _ => rfl
  have HV := Lib.hid h
  have HOK := Lib.hid hok
  have HST := Lib.hid hst
  clear hR h hok hst hsv
  go_enter Tryd.func32, Tryd.ntmps32
  go_wp2_with fail
  have hmrk : rankT st 0 = [] := rfl
  clear hmrk
  refine wp_scope_ghost 0 (WalkJ base K D W R st rb rc q) rfl ?pass ?first
  case first =>
    intro hrest
    have HRS := Lib.hid hrest
    clear hrest
    go_upto_region 2 with fail
    go_cut [5] (fun p5 wx => p5 = .pointer (some ⟨W.heap.size + 1 + 1 + 1 + 1 + 1, 0, none⟩) ∧ Wk0 base K (waOf W.heap.size st.length rb rc q) D st.length [] W wx)
    case first =>
      have H0 := Lib.hid (wk0_start HV.out hB st.length rb rc q hsn)
      go_wp2_with fail
      go_meet
      exact ⟨rfl, by have := H0.out; rw [Nat.mul_one] at this; exact this⟩
    case rest =>
      obtain ⟨rfl, h0⟩ := hcut
      have H0 := Lib.hid h0
      have k3 : wc.cell? ⟨W.heap.size + 1, 0, none⟩ = some (.pointer (some ⟨rb, q * 6, none⟩)) := h0.x3.cell 0
      obtain ⟨_, _, _, _, _, k4, _⟩ := h0.vm.rcell hrv hq
      rw [show D.sv.getD q (.slice none 0 0) = .slice (some ⟨sb, 0, none⟩) st.length sc from HSV.out] at k4
      clear c4 hmk hmm z70 z83 hi4 hz4 hsz4 hby4 h0
      go_upto_block 0 with fail
      go_cut [29] (fun _ wx => Wk0 base K (waOf W.heap.size st.length rb rc q) D st.length (rankT st st.length) W wx)
      case first =>
        go_wp2
        go_loopw [29] (fun i wr => ∃ k : Nat, k ≤ st.length ∧ i = .int .i64 k ∧ Wk0 base K (waOf W.heap.size st.length rb rc q) D st.length (rankT st k) W wr) (fun i _ => st.length - (intOf i).toNat)
        case atStart => exact ⟨0, Nat.zero_le _, rfl, H0.out⟩
        case round =>
          obtain ⟨k, hk, rfl, hr⟩ := hrel
          have HR0 := Lib.hid hr
          have k5 : wr.cell? ⟨W.heap.size + 1 + 1 + 1 + 1 + 1, 0, none⟩ = some (.map (some (W.heap.size + 1 + 1 + 1 + 1))) := hr.x5.cell 0
          by_cases hlt : k < st.length
          · have s0 := (HSC.out wr hr.vm k hlt).1
            have hup := run_updateI (P := Tryd.prog) hu83 Tryd.underlying3 hr.rk ((st.getD k 0 : Nat) : Int) (.int .i64 (k : Int)) (rankT_new HOK.out.nodup hlt)
            dsimp only [waOf] at hup
            have HPT := Lib.hid (hr.put ((st.getD k 0 : Nat) : Int) (.int .i64 (k : Int)))
            rw [← rankT_succ] at HPT
            have l1 : (0 : Int) ≤ (k : Int) := by omega
            have l2 : (k : Int) < (st.length : Int) := by omega
            clear hr
            generalize st.getD k 0 = i0 at *
            go_wp2
            go_roundw
            case rel => exact ⟨k + 1, by omega, by go_num, HPT.out⟩
            case measure => simp [intOf]; omega
          · have e : k = st.length := by omega
            subst e
            clear hr
            go_wp2_with fail
            go_meet
            exact HR0.out
      case rest =>
        have HRK := Lib.hid hcut
        clear hcut H0 k3 k4
        have hw0 : WkM base K (waOf W.heap.size st.length rb rc q) st D ⟨D.dp, List.replicate st.length false, 0, D.fault⟩ wc :=
          ⟨HRK.out.vm, rfl, rfl, hrv, hq, hm0, HRK.out.x2, HRK.out.x3, HRK.out.x4, HRK.out.x5, by
            have := HRK.out.wt
            simpa [bvl] using this, HRK.out.rk, HRK.out.ne⟩
        have HP := Lib.hid (put_any hw0 (Nat.le_trans hB HRK.out.old.size) ok HOK.out.nodup (by simp) HOK.out.le 0 HOK.out.ne _ rfl (HOK.out.lt 0 HOK.out.ne) hdl 0)
        have k3 : wc.cell? ⟨W.heap.size + 1, 0, none⟩ = some (.pointer (some ⟨rb, q * 6, none⟩)) := HRK.out.x3.cell 0
        obtain ⟨_, _, _, _, _, k4, _⟩ := HRK.out.vm.rcell hrv hq
        rw [show D.sv.getD q (.slice none 0 0) = .slice (some ⟨sb, 0, none⟩) st.length sc from HSV.out] at k4
        have s0 := (HSC.out wc HRK.out.vm 0 HOK.out.ne).1
        have HWK : Hid (wk0 K.l st D.dp D.fault = putW K.l (st.getD 0 0) 0 0 ⟨D.dp, List.replicate st.length false, 0, D.fault⟩) := Lib.hid rfl
        have HLEN := Lib.hid (putW_len K.l (st.getD 0 0) 0 0 ⟨D.dp, List.replicate st.length false, 0, D.fault⟩)
        have HRR : Hid (wkF K.l st (wkM (wk0 K.l st D.dp D.fault)) (wk0 K.l st D.dp D.fault) = R) := Lib.hid HR.out
        have HMS : Hid ((putW K.l (st.getD 0 0) 0 0 ⟨D.dp, List.replicate st.length false, 0, D.fault⟩).most = max 0 0) := Lib.hid (by
          unfold putW
          dsimp only
          split
          · rfl
          · split <;> rfl)
        dsimp only [waOf] at HP
        have HPO := Lib.hid (putW_ok (l := K.l) (i := st.getD 0 0) (k := 0) (d := 0) (W := ⟨D.dp, List.replicate st.length false, 0, D.fault⟩) hdo (by omega) (by omega))
        generalize putW K.l (st.getD 0 0) 0 0 ⟨D.dp, List.replicate st.length false, 0, D.fault⟩ = P0 at *
        generalize hgi : st.getD 0 0 = i0 at *
        have l2 : (0 : Int) < (st.length : Int) := by omega
        clear hw0 hgi
        go_wp2_with (go_at_call 44; refine HP.out.mono ?_; rintro e w6 ⟨rfl, ⟨D1, p1, p2, p3, p4, p5, p6, p7, p8, p9⟩, p10, _⟩)
        go_step3
        dsimp only [Exit.then]
        rename_i K2 hK2
        refine hK2 _ _ ?_
        refine HRS.out (wkM P0) _ _ ?_
        refine WalkJ.intro D1 P0 (frameL_ex rfl) p1 rfl ?_ ?_ ?_ HPO.out (HRK.out.old.trans p10) ⟨p2, p3, p4, p5, p6, p7, ?_, p9⟩
        · rw [← HWK.out]
          exact HRR.out
        · have := HLEN.out.2
          simpa using this
        · have := HLEN.out.1
          simpa [hdl] using this
        · rw [p8, HMS.out]
  case pass =>
    rintro n a w' ⟨D', S', ⟨us, rfl⟩, hM, rfl, hwk, hwl, hdl', hdo', hold, e1, e2, e3, e4, e5, e6, e7, e8⟩
    have HM := Lib.hid hM
    have HWK := Lib.hid hwk
    have HOLD := Lib.hid hold
    have HE := Lib.hid (And.intro e1 (And.intro e2 (And.intro e3 (And.intro e4 (And.intro e5 (And.intro e6 (And.intro e7 e8)))))))
    have HWL := Lib.hid hwl
    have HDL := Lib.hid hdl'
    have HDO := Lib.hid hdo'
    clear hdo'
    have hrl' : D'.rs.length = D.rs.length := by rw [e7]; simp [setMost]
    have k3 : w'.cell? ⟨W.heap.size + 1, 0, none⟩ = some (.pointer (some ⟨rb, q * 6, none⟩)) := hM.x3.cell 0
    obtain ⟨_, _, _, _, _, k4, _⟩ := hM.vm.rcell (by rw [e1, hrl']; exact hrv) (show q < D'.rs.length by omega)
    rw [e2, show D.sv.getD q (.slice none 0 0) = .slice (some ⟨sb, 0, none⟩) st.length sc from HSV.out] at k4
    have HSC2 : Hid (∀ k, k < st.length → w'.cell? ⟨sb, k, none⟩ = some (.int .i64 ((st.getD k 0 : Nat) : Int))) := Lib.hid fun k hk => by
      have h1 := hM.vm.scell (r := q) (b := sb) (c := sc) (by omega) (by rw [e2, e7]; unfold setMost; rw [rgAt_set hq, if_pos rfl]; dsimp only; rw [HST.out]; exact HSV.out) (i := k) (by rw [e7]; unfold setMost; rw [rgAt_set hq, if_pos rfl]; dsimp only; rw [HST.out]; exact hk)
      have h2 := h1.1
      rw [e7] at h2
      unfold setMost at h2
      rw [rgAt_set hq, if_pos rfl] at h2
      dsimp only at h2
      rw [HST.out] at h2
      exact h2
    have hpos : 0 < st.length := HOK.out.ne
    obtain ⟨wb, wc', hwv⟩ := hM.mform (by omega)
    have HMC := Lib.hid fun k (hk : k < S'.wt.length) => hM.mcell hwv hk
    clear hM hwk hold e1 e2 e3 e4 e5 e6 e7 e8 c4
    unfold frameL
    go_wp2
    go_loopw [52] (fun i wr => ∃ k : Nat, k ≤ st.length ∧ i = .int .i64 k ∧ wr = w' ∧ Hid (∀ j, j < k → S'.wt.getD j false = false)) (fun i _ => st.length - (intOf i).toNat)
    case atStart => exact ⟨0, Nat.zero_le _, rfl, rfl, Lib.hid fun j hj => absurd hj (by omega)⟩
    case round =>
      obtain ⟨k, hk, rfl, rfl, HF⟩ := hrel
      by_cases hlt : k < st.length
      · obtain ⟨m4, mk, mf⟩ := HMC.out k (by omega)
        dsimp only [waOf] at m4
        have s0 := HSC2.out k hlt
        have l1 : (0 : Int) ≤ (k : Int) := by omega
        have l2 : (k : Int) < (st.length : Int) := by omega
        have l3 : (k : Int) < (S'.wt.length : Int) := by omega
        cases hw : S'.wt.getD k false with
        | false =>
          rw [hw] at mk
          have HF2 : Hid (∀ j, j < k + 1 → S'.wt.getD j false = false) := Lib.hid fun j hj => by
            by_cases e : j = k
            · subst e; exact hw
            · exact HF.out j (by omega)
          clear hw
          generalize st.getD k 0 = i0 at *
          go_wp2
          go_roundw
          case rel => exact ⟨k + 1, by omega, by go_num, by first | rfl | trivial, HF2⟩
          case measure => simp [intOf]; omega
        | true =>
          have HM2 : Hid (WkM base K (waOf W.heap.size st.length rb rc q) st D' ⟨S'.dp, S'.wt.set k false, S'.most, S'.fault⟩ (wr.setCell ⟨wb, k, none⟩ (.bool false))) := Lib.hid (HM.out.mark hwv k false)
          have HIX := idx_some hw HF.out
          have HRO := Lib.hid (wkF_round ok.ok HOK.out HIX HDL.out HWL.out HDO.out HWK.out)
          have HFIN : Hid (∀ (D2 : VD) (w2 : World), WkM base K (waOf W.heap.size st.length rb rc q) st D2 (wkStep K.l st k S') w2 → Below base W w2 → SameD D q D2 (wkStep K.l st k S').most → ∀ a, (∃ us, a = frameL W.heap.size K.g rb q us) → ∃ m, m < wkM S' ∧ WalkJ base K D W R st rb rc q m a w2) := Lib.hid fun D2 w2 h1 h2 h3 a ha => ⟨_, HRO.out.1, WalkJ.intro D2 _ ha h1 rfl HRO.out.2.1 HRO.out.2.2.1 HRO.out.2.2.2.1 HRO.out.2.2.2.2 h2 h3⟩
          have HOLD2 := Lib.hid (HOLD.out.setCell (p := ⟨wb, k, none⟩) (World.ownsRow.lt HM.out.wt wb (by rw [hwv]; simp [Value.ownBlock])).1 (.bool false))
          have HSD : Hid (SameD D q D' S'.most) := HE
          have HNX := Lib.hid (HOK.out.nxt k hlt)
          have HJP := Lib.hid (HOK.out.jmp k hlt)
          have HGO : Hid (goalO K.l (st.getD k 0) = (ix K.l (beh K.l (st.getD k 0) + (insD K.l (st.getD k 0)).z)).getD 0) := Lib.hid rfl
          have hil := HOK.out.lt k hlt
          have HSTEP : Hid (wkStep K.l st k S' = if S'.dp.getD (st.getD k 0) 0 < takeO (insD K.l (st.getD k 0)) ∨ 127 < S'.dp.getD (st.getD k 0) 0 - takeO (insD K.l (st.getD k 0)) + putO (insD K.l (st.getD k 0)) then blameW K.l (st.getD k 0) ⟨S'.dp, S'.wt.set k false, S'.most, S'.fault⟩ else if isJ (insD K.l (st.getD k 0)).op then putW K.l (goalO K.l (st.getD k 0)) (st.idxOf (goalO K.l (st.getD k 0))) (S'.dp.getD (st.getD k 0) 0 - takeO (insD K.l (st.getD k 0)) + putO (insD K.l (st.getD k 0))) (if (ent (insD K.l (st.getD k 0)).op).ends then ⟨S'.dp, S'.wt.set k false, max S'.most (S'.dp.getD (st.getD k 0) 0 - takeO (insD K.l (st.getD k 0)) + putO (insD K.l (st.getD k 0))), S'.fault⟩ else putW K.l (st.getD (k + 1) 0) (k + 1) (S'.dp.getD (st.getD k 0) 0 - takeO (insD K.l (st.getD k 0)) + putO (insD K.l (st.getD k 0))) ⟨S'.dp, S'.wt.set k false, max S'.most (S'.dp.getD (st.getD k 0) 0 - takeO (insD K.l (st.getD k 0)) + putO (insD K.l (st.getD k 0))), S'.fault⟩) else (if (ent (insD K.l (st.getD k 0)).op).ends then ⟨S'.dp, S'.wt.set k false, max S'.most (S'.dp.getD (st.getD k 0) 0 - takeO (insD K.l (st.getD k 0)) + putO (insD K.l (st.getD k 0))), S'.fault⟩ else putW K.l (st.getD (k + 1) 0) (k + 1) (S'.dp.getD (st.getD k 0) 0 - takeO (insD K.l (st.getD k 0)) + putO (insD K.l (st.getD k 0))) ⟨S'.dp, S'.wt.set k false, max S'.most (S'.dp.getD (st.getD k 0) 0 - takeO (insD K.l (st.getD k 0)) + putO (insD K.l (st.getD k 0))), S'.fault⟩)) := Lib.hid rfl
          generalize wkStep K.l st k S' = SN at *
          rw [hw] at mk
          clear hw HF HIX HRO
          generalize hgi : st.getD k 0 = i0 at *
          go_upto_region 15 with fail
          clear m4 mk mf s0 k3 k4
          generalize wr.setCell ⟨wb, k, none⟩ (.bool false) = w1 at *
          have hB1 : base ≤ w1.heap.size := Nat.le_trans hB HOLD2.out.size
          obtain ⟨pb, pc, lb, lc, hp, hl⟩ := HM2.out.vm.forms (by omega)
          have m2 : w1.cell? ⟨W.heap.size, 0, none⟩ = some (.pointer (some ⟨K.g, 0, none⟩)) := HM2.out.x2.cell 0
          obtain ⟨o4, e0, e1, e2, e3, e4⟩ := HM2.out.vm.lcell hl hil
          have l4 : (0 : Int) ≤ (i0 : Int) := by omega
          have l5 : (i0 : Int) < (K.l.length : Int) := by omega
          have HXOK := Lib.hid (ok.at_ hil)
          have hlbw := (World.ownsRow.lt HM2.out.vm.ins lb (by rw [hl]; simp [Value.ownBlock])).2
          have HWB : Hid (WB base K (waOf W.heap.size st.length rb rc q) st W w1.heap.size #[.int .i64 (insD K.l i0).op, .int .i64 (insD K.l i0).a, .int .i64 (insD K.l i0).b, .int .i64 (insD K.l i0).c, .int .i64 (insD K.l i0).z] D' ⟨S'.dp, S'.wt.set k false, S'.most, S'.fault⟩ (w1.alloc (.cells #[.int .i64 (insD K.l i0).op, .int .i64 (insD K.l i0).a, .int .i64 (insD K.l i0).b, .int .i64 (insD K.l i0).c, .int .i64 (insD K.l i0).z] 34))) :=
            Lib.hid ⟨HM2.out.below ((Below.refl _ _).alloc (Nat.le_refl _) _) hB1, Blk.new w1 34 _, HOLD2.out.alloc hB1 _, fun e => by have := (World.ownsRow.lt HM2.out.vm.ins _ e).2; omega, hB⟩
          clear hp hl
          generalize hxx : insD K.l i0 = x at *
          clear hxx
          obtain ⟨op, xa, xb, xc, xz⟩ := x
          dsimp only at e0 e1 e2 e3 e4 HWB
          go_upto_region 16 with fail
          clear e0 e1 e2 e3 e4 hlbw o4 m2 HM2 HOLD2 hB1
          generalize w1.heap.size = bx at *
          generalize w1.alloc (.cells #[.int .i64 op, .int .i64 xa, .int .i64 xb, .int .i64 xc, .int .i64 xz] 34) = w2 at *
          have y0 : w2.cell? ⟨bx, 0, none⟩ = some (.int .i64 op) := HWB.out.box.cell 0
          have y1 : w2.cell? ⟨bx, 1, none⟩ = some (.int .i64 xa) := HWB.out.box.cell 1
          have y2 : w2.cell? ⟨bx, 2, none⟩ = some (.int .i64 xb) := HWB.out.box.cell 2
          have y3 : w2.cell? ⟨bx, 3, none⟩ = some (.int .i64 xc) := HWB.out.box.cell 3
          have y4 : w2.cell? ⟨bx, 4, none⟩ = some (.int .i64 xz) := HWB.out.box.cell 4
          have H50 := Lib.hid (show Calls Tryd.prog 46 #[.agg #[.int .i64 op, .int .i64 xa, .int .i64 xb, .int .i64 xc, .int .i64 xz]] w2 (fun e w' => e = .returned (.tuple #[.int .i64 (takeO ⟨op, xa, xb, xc, xz⟩), .int .i64 (putO ⟨op, xa, xb, xc, xz⟩)]) ∧ Below w2.heap.size w2 w') from effect_any ⟨op, xa, xb, xc, xz⟩ w2 HXOK.out)
          have htk := takeO_le HXOK.out
          have hpt := putO_pos HXOK.out
          generalize takeO ⟨op, xa, xb, xc, xz⟩ = tk at *
          generalize putO ⟨op, xa, xb, xc, xz⟩ = pt at *
          go_upto_region 17 with (go_at_call 46; refine H50.out.mono ?_; rintro e w3 ⟨rfl, hb3⟩; have HWB3 := Lib.hid (HWB.out.below hb3); clear hb3)
          clear y0 y1 y2 y3 y4 H50 HWB
          have hdp : D'.dp = S'.dp := HWB3.out.m.dp
          obtain ⟨db, dc, hdv⟩ := HWB3.out.m.vm.dform (by rw [hdp]; omega)
          obtain ⟨d11, dd, df⟩ := HWB3.out.m.vm.dcell hdv (i := i0) (by rw [hdp]; omega)
          rw [hdp] at d11 dd
          have m3 : w3.cell? ⟨W.heap.size, 0, none⟩ = some (.pointer (some ⟨K.g, 0, none⟩)) := HWB3.out.m.x2.cell 0
          have hdz := HDO.out i0
          generalize hdd : S'.dp.getD i0 0 = dz at *
          clear hdd hdv df
          obtain ⟨d, hd⟩ : ∃ d, dz - tk + pt = d := ⟨_, rfl⟩
          have lw1 : IntKind.i64.wrap (dz - tk) = dz - tk := by rw [IntKind.wrap_i64]; omega
          have lw2 : IntKind.i64.wrap (dz - tk + pt) = d := by rw [IntKind.wrap_i64]; omega
          have l6 : (i0 : Int) < (S'.dp.length : Int) := by omega
          rw [hd] at HSTEP
          have hdd := hd
          clear hd
          go_upto_region 18 with fail
          clear lw1 lw2
          by_cases hbad : dz < tk ∨ 127 < d
          · have HSN : Hid (SN = blameW K.l i0 ⟨S'.dp, S'.wt.set k false, S'.most, S'.fault⟩) := Lib.hid (by rw [HSTEP.out, if_pos hbad])
            have H40 := Lib.hid (blame_any HWB3.out.m.vm HWB3.out.le i0 hil ok.len)
            have HEND : Hid (∀ w4, VP base K D' { D' with fault := lower D'.fault (pl K.l i0) } w3 w4 → ∀ a, (∃ us, a = frameL W.heap.size K.g rb q us) → ∃ m, m < wkM S' ∧ WalkJ base K D W R st rb rc q m a w4) := Lib.hid fun w4 hv a ha => by
              refine HFIN.out { D' with fault := lower D'.fault (pl K.l i0) } w4 ?_ (HWB3.out.old.trans (HWB3.out.m.vm.oldI hv.2 HWB3.out.le)) ?_ a ha
              · rw [HSN.out]
                exact HWB3.out.m.turn hv.1 hv.2 HWB3.out.m.dp (by rw [HWB3.out.m.ft]; rfl) HWB3.out.m.rv HWB3.out.m.ql HWB3.out.m.ms rfl
              · rw [HSN.out]
                exact HSD.out
            clear HSTEP HSN HFIN HNX HJP HGO
            by_cases hb1 : dz < tk
            · have e1 : decide (dz < tk) = true := by simpa using hb1
              go_wp2_with (go_at_call 33; refine H40.out.mono ?_; rintro e w4 ⟨rfl, hv4⟩)
              refine wp_goto ?_
              dsimp +zetaDelta only [Exit.then, Exit.inBlock, Exit.jump]
              exact ⟨rfl, HEND.out w4 hv4 _ (frameL_ex rfl)⟩
            · have e1 : decide (dz < tk) = false := by simpa using hb1
              have e2 : decide (127 < d) = true := by simp; omega
              go_wp2_with (go_at_call 33; refine H40.out.mono ?_; rintro e w4 ⟨rfl, hv4⟩)
              refine wp_goto ?_
              dsimp +zetaDelta only [Exit.then, Exit.inBlock, Exit.jump]
              exact ⟨rfl, HEND.out w4 hv4 _ (frameL_ex rfl)⟩
          · have e1 : decide (dz < tk) = false := by simp; omega
            have e2 : decide (127 < d) = false := by simp; omega
            rw [if_neg hbad] at HSTEP
            go_upto_region 20 with fail
            clear e1 e2 d11 dd m3 hbad
            have k3 : w3.cell? ⟨W.heap.size + 1, 0, none⟩ = some (.pointer (some ⟨rb, q * 6, none⟩)) := HWB3.out.m.x3.cell 0
            obtain ⟨_, _, _, _, _, _, cm⟩ := HWB3.out.m.vm.rcell HWB3.out.m.rv HWB3.out.m.ql
            rw [HWB3.out.m.ms] at cm
            dsimp only [waOf] at cm
            have hrw := HWB3.out.m.vm.rgs
            rw [HWB3.out.m.rv] at hrw
            dsimp only [waOf] at hrw
            have fm := World.ownsRow.frozenAt hrw (q * 6 + 5)
            have hrb3 := (World.ownsRow.lt hrw rb (by simp [Value.ownBlock])).2
            have hrb4 := (World.ownsRow.lt hrw rb (by simp [Value.ownBlock])).1
            obtain ⟨m, hm⟩ : ∃ m, (if S'.most < d then d else S'.most) = m := ⟨_, rfl⟩
            have HMX : Hid (max S'.most d = m) := Lib.hid (by rw [← hm]; exact (max_if _ _).symm)
            clear hrw
            go_region
            have HWB4 : Hid (WB base K (waOf W.heap.size st.length rb rc q) st W bx #[.int .i64 op, .int .i64 xa, .int .i64 xb, .int .i64 xc, .int .i64 xz] { D' with rs := setMost D'.rs q m } ⟨S'.dp, S'.wt.set k false, m, S'.fault⟩ (w3.setCell ⟨rb, q * 6 + 5, none⟩ (.int .i64 m)).drew) := Lib.hid (HWB3.out.put (HWB3.out.m.most HWB3.out.le m).drew (((Below.refl base w3).setCell (p := ⟨rb, q * 6 + 5, none⟩) hrb4 _).drew) (((Chg.refl _ w3).setCell (p := ⟨rb, q * 6 + 5, none⟩) (fun _ => .inl (.inr (.inr (.inr (.inl (by rw [HWB3.out.m.rv]; simp [Value.ownBlock, waOf])))))) _).drew))
            have HSD4 : Hid (SameD D q { D' with rs := setMost D'.rs q m } m) := Lib.hid (HSD.out.most hq m rfl rfl rfl rfl rfl rfl rfl rfl)
            rw [HMX.out] at HSTEP
            clear HWB3 HSD k3 cm fm hrb3 hrb4 hm HMX
            generalize (w3.setCell ⟨rb, q * 6 + 5, none⟩ (.int .i64 m)).drew = w4 at *
            generalize hD4 : ({ D' with rs := setMost D'.rs q m } : VD) = D4 at *
            clear hD4
            have y0 : w4.cell? ⟨bx, 0, none⟩ = some (.int .i64 op) := HWB4.out.box.cell 0
            have H30 := Lib.hid (show ∀ w, Calls Tryd.prog 14 #[.int .i64 op] w (fun e w' => e = .returned (.tuple #[.agg #[.string (ent op).nm, .int .i64 (ent op).has, .int .i64 (ent op).take, .int .i64 (ent op).put, .bool (ent op).ends], .bool true]) ∧ Below w.heap.size w w') from fun w => by
              have h := ops_any op w
              rw [inO_ok HXOK.out] at h
              exact h)
            have z74 := zero50
            try dsimp only at HSTEP HNX HJP HGO
            generalize ent op = en at *
            obtain ⟨nm, has, take, put, ends⟩ := en
            try dsimp only at HSTEP HNX H30
            go_upto_region 22 with (go_at_call 14; refine (H30.out _).mono ?_; rintro e w5 ⟨rfl, hb5⟩; have HWB5 := Lib.hid (HWB4.out.below hb5); clear hb5)
            have HWB6 : Hid (WB base K (waOf W.heap.size st.length rb rc q) st W bx #[.int .i64 op, .int .i64 xa, .int .i64 xb, .int .i64 xc, .int .i64 xz] D4 ⟨S'.dp, S'.wt.set k false, m, S'.fault⟩ (w5.alloc (.cells #[.string nm, .int .i64 has, .int .i64 take, .int .i64 put, .bool ends] 50))) := Lib.hid (HWB5.out.below ((Below.refl _ _).alloc (Nat.le_refl _) _))
            have z4 : (w5.alloc (.cells #[.string nm, .int .i64 has, .int .i64 take, .int .i64 put, .bool ends] 50)).cell? ⟨w5.heap.size, 4, none⟩ = some (.bool ends) := (Blk.new w5 50 _).cell 4
            clear H30 z74 y0 HWB4 HWB5
            generalize w5.alloc (.cells #[.string nm, .int .i64 has, .int .i64 take, .int .i64 put, .bool ends] 50) = w6 at *
            have HTW : Hid ((S'.wt.set k false).length = st.length) := Lib.hid (by rw [List.length_set]; exact HWL.out)
            have H7 : Hid (∃ S7, (if ends = true then (⟨S'.dp, S'.wt.set k false, m, S'.fault⟩ : Wk) else putW K.l (st.getD (k + 1) 0) (k + 1) d ⟨S'.dp, S'.wt.set k false, m, S'.fault⟩) = S7 ∧ S7.wt.length = st.length ∧ S7.dp.length = K.l.length) := Lib.hid ⟨_, rfl, by
              split
              · exact HTW.out
              · rw [(putW_len _ _ _ _ _).2]; exact HTW.out, by
              split
              · exact HDL.out
              · rw [(putW_len _ _ _ _ _).1]; exact HDL.out⟩
            obtain ⟨S7, hS7, h7w, h7d⟩ := H7.out
            rw [hS7] at HSTEP
            clear H7
            cases ends
            case' false =>
              have hk1 : k + 1 < st.length := HNX.out rfl
              have k3 : w6.cell? ⟨W.heap.size + 1, 0, none⟩ = some (.pointer (some ⟨rb, q * 6, none⟩)) := HWB6.out.m.x3.cell 0
              obtain ⟨_, _, _, _, _, k4, _⟩ := HWB6.out.m.vm.rcell HWB6.out.m.rv HWB6.out.m.ql
              dsimp only [waOf] at k4
              rw [show D4.sv = D.sv from HSD4.out.2.1, show D.sv.getD q (.slice none 0 0) = .slice (some ⟨sb, 0, none⟩) st.length sc from HSV.out] at k4
              have s1 := HSD4.out.scell HWB6.out.m.vm hq HST.out HSV.out hk1
              have H48 := Lib.hid (put_any HWB6.out.m HWB6.out.le ok HOK.out.nodup HTW.out hsn (k + 1) hk1 (st.getD (k + 1) 0) rfl (HOK.out.lt _ hk1) HDL.out d)
              dsimp only [waOf] at H48
              rw [if_neg (by simp)] at hS7
              rw [hS7] at H48
              have HM7 : Hid (S7.most = max m d) := Lib.hid (by rw [← hS7]; exact putW_most _ _ _ _ _)
              clear hS7
              generalize st.getD (k + 1) 0 = i1 at *
              have l7 : (0 : Int) ≤ (k : Int) + 1 := by omega
              have l8 : (k : Int) + 1 < (st.length : Int) := by omega
              have lw : IntKind.i64.wrap ((k : Int) + 1) = (k : Int) + 1 := by rw [IntKind.wrap_i64]; omega
              have lt : ((k : Int) + 1).toNat = k + 1 := by omega
              go_upto_region 24 with (go_at_call 44; refine H48.out.mono ?_; rintro e w7 ⟨rfl, ⟨D7, p1, p2, p3, p4, p5, p6, p7, p8, p9⟩, p10, p11⟩; have HWB7 := Lib.hid (HWB6.out.put p1 p10 p11); have HSD7 := Lib.hid (HSD4.out.most hq S7.most p2 p3 p4 p5 p6 p7 (by rw [HM7.out]; exact p8) p9); clear p1 p2 p3 p4 p5 p6 p7 p8 p9 p10 p11)
              clear k3 k4 s1 H48 HM7 l7 l8 lw lt hk1
            case' true =>
              rw [if_pos rfl] at hS7
              have HSD7 : Hid (SameD D q D4 S7.most) := Lib.hid (by rw [← hS7]; exact HSD4.out)
              rw [hS7] at HWB6
              have HWB7 := HWB6
              clear hS7 HWB6 HSD4
              go_upto_region 24 with fail
              generalize w6 = w7 at *
              generalize D4 = D7 at *
            all_goals
              have y0 : w7.cell? ⟨bx, 0, none⟩ = some (.int .i64 op) := HWB7.out.box.cell 0
              by_cases hj : op = 18 ∨ op = 19 ∨ op = 20
              · have HISJ : Hid (isJ op = true) := Lib.hid (by rcases hj with rfl | rfl | rfl <;> rfl)
                have hgx := idx_of (HJP.out HISJ.out)
                rw [HISJ.out, if_pos rfl] at HSTEP
                have hzb := HXOK.out.z
                dsimp only at hzb
                have hbe := ok.beh hil
                have hb1 : 0 ≤ beh K.l i0 ∧ beh K.l i0 ≤ 32767 := by
                  have := ok.pl_le (i0 + 1) (by omega)
                  omega
                clear hbe
                have HGL : Hid (st.getD (st.idxOf (goalO K.l i0)) 0 < K.l.length) := Lib.hid (HOK.out.lt _ hgx.1)
                rw [hgx.2] at HGL
                have H48 : Hid (∀ w8, WB base K (waOf W.heap.size st.length rb rc q) st W bx #[.int .i64 op, .int .i64 xa, .int .i64 xb, .int .i64 xc, .int .i64 xz] D7 S7 w8 → _) := Lib.hid fun w8 (h8 : WB base K (waOf W.heap.size st.length rb rc q) st W bx #[.int .i64 op, .int .i64 xa, .int .i64 xb, .int .i64 xc, .int .i64 xz] D7 S7 w8) => put_any h8.m h8.le ok HOK.out.nodup h7w hsn (st.idxOf (goalO K.l i0)) hgx.1 (goalO K.l i0) hgx.2 HGL.out h7d d
                rw [← HSTEP.out] at H48
                have HM7 : Hid (SN.most = max S7.most d) := Lib.hid (by rw [HSTEP.out]; exact putW_most _ _ _ _ _)
                have HC : Hid (∀ D8 S8 w8, WB base K (waOf W.heap.size st.length rb rc q) st W bx #[.int .i64 op, .int .i64 xa, .int .i64 xb, .int .i64 xc, .int .i64 xz] D8 S8 w8 → w8.cell? ⟨W.heap.size, 0, none⟩ = some (.pointer (some ⟨K.g, 0, none⟩)) ∧ w8.cell? ⟨K.g, 7, none⟩ = some (.map (some K.mb)) ∧ w8.cell? ⟨bx, 4, none⟩ = some (.int .i64 xz) ∧ (Instr.lookup 79 (.map (some K.mb)) (.int .i64 (beh K.l i0 + xz)) false).run Tryd.prog w8 = .ok (.int .i64 ((goalO K.l i0 : Nat) : Int)) w8) := Lib.hid fun D8 S8 w8 h8 => ⟨h8.m.x2.cell 0, h8.m.vm.blk.cell 7, h8.box.cell 4, by rw [HGO.out]; exact h8.m.vm.look1 ok _⟩
                have H47 := Lib.hid (behind_any (W := w7.drew) HWB7.out.m.vm.drew HWB7.out.le ok i0 hil)
                generalize hbh : beh K.l i0 = bh at *
                clear hbh HGO HJP HSTEP hgx HGL
                generalize goalO K.l i0 = gi at *
                have lw : IntKind.i64.wrap (bh + xz) = bh + xz := by rw [IntKind.wrap_i64]; omega
                obtain ⟨c2, c7, y4, hlk⟩ := HC.out _ _ _ HWB7.out
                have hlk2 : (Instr.lookup 79 (.map (some K.mb)) (.int .i64 (bh + xz)) false).run Tryd.prog w7.drew = .ok (.int .i64 (gi : Int)) w7.drew := (HC.out D7 S7 w7.drew (HWB7.out.below (below_drewN (Below.refl _ _) 1))).2.2.2
                rcases hj with rfl | rfl | rfl
                all_goals
                  go_upto_region 28 with fail
                  go_region_held3 (fun W' => W'.cell? ⟨W.heap.size, 0, none⟩ = some (.pointer (some ⟨K.g, 0, none⟩)) ∧ W'.cell? ⟨K.g, 7, none⟩ = some (.map (some K.mb)) ∧ W'.cell? ⟨bx, 4, none⟩ = some (.int .i64 xz) ∧ (Instr.lookup 79 (.map (some K.mb)) (.int .i64 (bh + xz)) false).run Tryd.prog W' = .ok (.int .i64 (gi : Int)) W')
                    (first | go_keep | exact HC.out _ _ _ HWB9.out | exact HC.out _ _ _ HWB8.out)
                    (first | (go_at_call 43; ((with_reducible refine H47.out.mono ?_); rintro e w8 ⟨rfl, hb8'⟩; have hb8 := below_of_drew hb8'; clear hb8'; have HWB8 := Lib.hid (HWB7.out.below hb8); clear hb8)) | (go_at_call 44; (have h48 := H48.out _ HWB8.out; dsimp only [waOf] at h48; (with_reducible refine h48.mono ?_); clear h48; rintro e w9 ⟨rfl, ⟨D9, p1, p2, p3, p4, p5, p6, p7, p8, p9⟩, p10, p11⟩; have HWB9 := Lib.hid (HWB8.out.put p1 p10 p11); have HSD9 := Lib.hid (HSD7.out.most hq SN.most p2 p3 p4 p5 p6 p7 (by rw [HM7.out]; exact p8) p9); clear p1 p2 p3 p4 p5 p6 p7 p8 p9 p10 p11)))
                  all_goals
                    go_wp2_with fail
                    refine wp_goto ?_
                    dsimp +zetaDelta only [Exit.then, Exit.inBlock, Exit.jump]
                    exact ⟨rfl, HFIN.out D9 w9 HWB9.out.m HWB9.out.old HSD9.out _ (frameL_ex rfl)⟩
              · have e18 : (op == 18) = false := by rw [beq_eq_false_iff_ne]; omega
                have e19 : (op == 19) = false := by rw [beq_eq_false_iff_ne]; omega
                have e20 : (op == 20) = false := by rw [beq_eq_false_iff_ne]; omega
                have HSN : Hid (SN = S7) := Lib.hid (by rw [HSTEP.out, if_neg (by unfold isJ; rw [e18, e19, e20]; simp)])
                go_wp2
                refine wp_goto ?_
                dsimp +zetaDelta only [Exit.then, Exit.inBlock, Exit.jump]
                exact ⟨rfl, HFIN.out D7 w7 (by rw [HSN.out]; exact HWB7.out.m) HWB7.out.old (by rw [HSN.out]; exact HSD7.out) _ (frameL_ex rfl)⟩
      · have HR2 : Hid (S' = R) := Lib.hid (by
          have h1 := HWK.out
          have h2 := idx_none (l := S'.wt) fun j hj => HF.out j (by omega)
          cases hf : wkM S' with
          | zero => rw [hf] at h1; exact h1
          | succ f =>
            rw [hf] at h1
            unfold wkF at h1
            rw [h2] at h1
            exact h1)
        go_wp2
        dsimp +zetaDelta only [Exit.jump]
        go_end0
        obtain ⟨e1, e2, e3, e4, e5, e6, e7, e8⟩ := HE.out
        have hr2 := HR2.out
        subst hr2
        exact ⟨rfl, ⟨D', HM.out.vm, e1, e2, e3, e4, e5, e6, e7, e8, HM.out.dp, HM.out.ft⟩, HOLD.out⟩
end Go.Proofs.YtaeegkljldngmaaDoor
