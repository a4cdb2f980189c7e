/-
  The verifier's ends f38. No statement of the seat is proved here.
-/
import Derived.Test.YtaeegkljldngmaaDoorCvD
namespace Go.Proofs.YtaeegkljldngmaaDoor
open Go.RowKit

def resE (l : List Ins) (rs : List Rg) : Int × Int := if l.length = 0 then (0, 54) else if 0 ≤ endsF l rs (-1) then (endsF l rs (-1), 54) else (0, 0)
/-- every region has steps, each an instruction's number -/
def StepsOk (l : List Ins) (rs : List Rg) : Prop := ∀ x ∈ rs, x.steps ≠ [] ∧ ∀ i ∈ x.steps, i < l.length
section
variable {W W' : World} {base : Nat} {K : VK} {D : VD}
theorem VM.sform (h : VM base K D W) {r : Nat} (hr : r < D.rs.length) (hn : 0 < (rgAt D.rs r).steps.length) : ∃ b c, D.sv.getD r (.slice none 0 0) = .slice (some ⟨b, 0, none⟩) (rgAt D.rs r).steps.length c := by
  have hs : D.sv[r]? = some (D.sv.getD r (.slice none 0 0)) := by
    rw [List.getD_eq_getElem?_getD, List.getElem?_eq_getElem (by rw [h.stl]; exact hr)]
    rfl
  have h1 := h.sts r _ _ (rgAt_some hr) hs
  unfold OwnZ at h1
  rw [show (natZ (rgAt D.rs r).steps).length = (rgAt D.rs r).steps.length by simp [natZ]] at h1
  obtain ⟨b, c, e1, _⟩ := own_at h1 hn
  exact ⟨b, c, e1⟩
theorem VM.scell (h : VM base K D W) {r b c : Nat} (hr : r < D.rs.length) (hd : D.sv.getD r (.slice none 0 0) = .slice (some ⟨b, 0, none⟩) (rgAt D.rs r).steps.length c) {i : Nat} (hi : i < (rgAt D.rs r).steps.length) :
    W.cell? ⟨b, i, none⟩ = some (.int .i64 (((rgAt D.rs r).steps.getD i 0 : Nat) : Int)) ∧ b < W.heap.size := by
  have hs : D.sv[r]? = some (D.sv.getD r (.slice none 0 0)) := by
    rw [List.getD_eq_getElem?_getD, List.getElem?_eq_getElem (by rw [h.stl]; exact hr)]
    rfl
  have h1 := h.sts r _ _ (rgAt_some hr) hs
  unfold OwnZ at h1
  rw [show (natZ (rgAt D.rs r).steps).length = (rgAt D.rs r).steps.length by simp [natZ], hd] at h1
  refine ⟨?_, (World.ownsRow.lt h1 b (by simp [Value.ownBlock])).2⟩
  rw [World.ownsRow.cellAt h1 i (by omega), List.getD_eq_getElem?_getD]
  simp only [natZ, List.getElem?_map]
  rw [List.getElem?_eq_getElem hi]
  rfl
end
set_option maxRecDepth 100000 in
set_option maxHeartbeats 4000000 in
theorem ends_any {base : Nat} {K : VK} {D : VD} {W : World} (h : VM base K D W) (hB : base ≤ W.heap.size) (ok : KOk K) (hst : StepsOk K.l D.rs) (hrl : D.rs.length ≤ 32768) (hsl : ∀ x ∈ D.rs, x.steps.length ≤ 32768) :
    Calls Tryd.prog 31 #[.pointer (some ⟨K.g, 0, none⟩)] W (JP (resE K.l D.rs) W) := by
  have HV := Lib.hid h
  obtain ⟨A0, cc0, hlv, hlc1, hlc2⟩ := own_form h.ins
  have c4 : W.cell? ⟨K.g, 4, none⟩ = some (.slice A0 K.l.length cc0) := by rw [← hlv]; exact h.blk.cell 4
  have hlen := ok.len
  clear hlc1 hlc2
  by_cases hl0 : K.l.length = 0
  · have HE : Hid (resE K.l D.rs = (0, 54)) := Lib.hid (by unfold resE; rw [if_pos hl0])
    have d0 : ((K.l.length : Int) == 0) = true := by simp [hl0]
    generalize K.l.length = n at *
    clear hl0 h hlv
    go_enter Tryd.func31, Tryd.ntmps31
    go_wp2
    go_ret2
    exact JP.mk' HE.out.symm (Below.refl _ _)
  · obtain ⟨R, hR⟩ : ∃ R, endsF K.l D.rs (-1) = R := ⟨_, rfl⟩
    have HE : Hid (resE K.l D.rs = if 0 ≤ R then (R, 54) else (0, 0)) := Lib.hid (by unfold resE; rw [if_neg hl0, hR])
    have HR := Lib.hid hR
    have z74 := zero50
    have z92 : ∀ w : World, (zeroValue 88).run Tryd.prog w = .ok (.agg #[.int .i64 0, .int .i64 0, .int .i64 0, .int .i64 0, .slice none 0 0, .int .i64 0]) w := fun w => by kernel_rfl
    have d0 : ((K.l.length : Int) == 0) = false := by rw [beq_eq_false_iff_ne]; omega
    obtain ⟨A1, cc1, hrv, hrc1, hrc2⟩ := own_form h.rgs
    have c8 : W.cell? ⟨K.g, 8, none⟩ = some (.slice A1 D.rs.length cc1) := by rw [← hrv]; exact h.blk.cell 8
    have hg := h.blk.lt
    clear hR hrc1 hrc2
    go_enter Tryd.func31, Tryd.ntmps31
    go_wp2
    clear c8 c4
    go_loopw [4, 21] (fun s i wr => ∃ (k : Nat) (f : Int), k ≤ D.rs.length ∧ i = .int .i64 k ∧ s = .int .i64 f ∧ Below W.heap.size W wr ∧ endsF K.l (D.rs.drop k) f = R) (fun _ i _ => D.rs.length - (intOf i).toNat)
    case atStart => exact ⟨0, -1, Nat.zero_le _, rfl, rfl, Below.refl _ _, HR.out⟩
    case round =>
      obtain ⟨k, f, hk, rfl, rfl, hbel, hrest⟩ := hrel
      have HB := Lib.hid hbel
      have HRE := Lib.hid hrest
      have hws := hbel.size
      have HVr := Lib.hid (h.below hbel hB)
      clear hbel hrest
      by_cases hlt : k < D.rs.length
      · obtain ⟨rb, rc, hrv2⟩ := HV.out.rform (by omega)
        have hA1 : A1 = some ⟨rb, 0, none⟩ := by rw [hrv] at hrv2; injection hrv2
        subst hA1
        obtain ⟨_, r0, r1, r2, r3, r4, r5⟩ := HVr.out.rcell hrv2 hlt
        have hmem : rgAt D.rs k ∈ D.rs := List.mem_of_getElem? (rgAt_some hlt)
        obtain ⟨hs1, hs2⟩ := hst _ hmem
        have hsn : 0 < (rgAt D.rs k).steps.length := List.length_pos_iff.2 hs1
        obtain ⟨sb, sc, hsv⟩ := HVr.out.sform hlt hsn
        have hdrop : D.rs.drop k = rgAt D.rs k :: D.rs.drop (k + 1) := by
          rw [List.drop_eq_getElem_cons hlt]
          congr 1
          have := rgAt_some hlt
          rw [List.getElem?_eq_getElem hlt] at this
          injection this
        have hlast : (rgAt D.rs k).steps.getLastD 0 = (rgAt D.rs k).steps.getD ((rgAt D.rs k).steps.length - 1) 0 := by
          rw [List.getLastD_eq_getLast?, List.getLast?_eq_getElem?, List.getD_eq_getElem?_getD]
        obtain ⟨m, hm⟩ : ∃ m, (rgAt D.rs k).steps.length = m + 1 := ⟨_, (Nat.succ_pred_eq_of_pos hsn).symm⟩
        obtain ⟨s0, hsb⟩ := HVr.out.scell hlt hsv (i := m) (by omega)
        rw [hm, Nat.add_sub_cancel] at hlast
        rw [hsv, hm] at r4
        have hm2 := hsl _ hmem
        rw [hm] at hm2
        have hi : (rgAt D.rs k).steps.getD m 0 < K.l.length := by
          have h2 : m < (rgAt D.rs k).steps.length := by omega
          rw [List.getD_eq_getElem?_getD, List.getElem?_eq_getElem h2]
          exact hs2 _ (List.getElem_mem h2)
        have HN : Hid (endsF K.l (D.rs.drop (k + 1)) (if (ent (insD K.l ((rgAt D.rs k).steps.getD m 0)).op).ends then f else lower f (pl K.l ((rgAt D.rs k).steps.getD m 0))) = R) := Lib.hid (by
          have := HRE.out
          rw [hdrop] at this
          unfold endsF at this
          rw [hlast] at this
          exact this)
        clear hlast hdrop hmem hs1 hs2 hsn hsv hm
        generalize (rgAt D.rs k).steps.getD m 0 = i at *
        obtain ⟨pb, pc, lb, lc, hp, hl⟩ := HV.out.forms (by omega)
        obtain ⟨c4, e0, _, _, _, _⟩ := HVr.out.lcell hl hi
        obtain ⟨c5, p0⟩ := HVr.out.pcell hp hi
        have HPC := Lib.hid fun W (h : VM base K D W) => h.pcell hp hi
        have hlb := (World.ownsRow.lt HVr.out.ins lb (by rw [hl]; simp [Value.ownBlock])).2
        have hin := inO_ok (ok.at_ hi)
        have h30 := (show ∀ w, Calls Tryd.prog 14 #[.int .i64 (insD K.l i).op] w (fun e w' => e = .returned (.tuple #[.agg #[.string (ent (insD K.l i).op).nm, .int .i64 (ent (insD K.l i).op).has, .int .i64 (ent (insD K.l i).op).take, .int .i64 (ent (insD K.l i).op).put, .bool (ent (insD K.l i).op).ends], .bool true]) ∧ Below w.heap.size w w') from fun w => by
          have h := ops_any (insD K.l i).op w
          rw [hin] at h
          exact h)
        generalize ent (insD K.l i).op = en at *
        generalize (insD K.l i).op = op at *
        obtain ⟨nm, has, take, put, ends⟩ := en
        dsimp only at h30 HN
        have H30 := Lib.hid h30
        have l1 : (0 : Int) ≤ (i : Int) := by omega
        have l2 : (i : Int) < (K.l.length : Int) := by omega
        have l3 : (0 : Int) ≤ (k : Int) := by omega
        have l4 : (k : Int) < (D.rs.length : Int) := by omega
        have hgr := HVr.out.blk.lt
        have hrb : rb < wr.heap.size := (World.ownsRow.lt HVr.out.rgs rb (by rw [hrv2]; simp [Value.ownBlock])).2
        generalize rgAt D.rs k = x at *
        clear h30 hl hp hin hrv2 c5 p0
        obtain ⟨x0, x1, x2, x3, x4, x5⟩ := x
        dsimp only at r0 r1 r2 r3 r4 r5
        go_wp2_with fail
        refine (H30.out _).mono ?_
        rintro e w1 ⟨rfl, hb1⟩
        have hV1 := ((HVr.out.alloc (Nat.le_trans hB hws) (.cells #[.int .i64 x0, .int .i64 x1, .int .i64 x2, .int .i64 x3, .slice (some ⟨sb, 0, none⟩) (m + 1) sc, .int .i64 x5] 88)).below hb1 (by simp; omega))
        have HV1 := Lib.hid hV1
        have HB1 : Hid (Below W.heap.size W w1) := Lib.hid ((HB.out.alloc HB.out.size _).trans (hb1.mono (by simp; omega)))
        have hw1 : W.heap.size ≤ w1.heap.size := HB1.out.size
        obtain ⟨c5, p0⟩ := HPC.out w1 hV1
        have hg1 := hV1.blk.lt
        have hpb : pb < w1.heap.size := World.block_lt_of_cell? _ _ p0
        have hpl := ok.pl_le i (by omega)
        clear hV1 hb1 HPC
        generalize pl K.l i = p at *
        cases ends with
        | true =>
          have HN2 := Lib.hid (show endsF K.l (D.rs.drop (k + 1)) f = R from HN.out)
          clear HN
          go_wp2
          go_roundw
          case rel => exact ⟨k + 1, f, by omega, by go_num, rfl, HB1.out.alloc HB1.out.size _, HN2.out⟩
          case measure => simp [intOf]; omega
        | false =>
          by_cases hf0 : f < 0
          · have HN2 := Lib.hid (show endsF K.l (D.rs.drop (k + 1)) (p : Int) = R by have := HN.out; rwa [show (if (false : Bool) = true then f else lower f (p : Int)) = (p : Int) by simp [lower, hf0]] at this)
            clear HN
            go_wp2
            go_roundw
            case rel => exact ⟨k + 1, p, by omega, by go_num, rfl, HB1.out.alloc HB1.out.size _, HN2.out⟩
            case measure => simp [intOf]; omega
          · by_cases hpf : (p : Int) < f
            · have HN2 := Lib.hid (show endsF K.l (D.rs.drop (k + 1)) (p : Int) = R by have := HN.out; rwa [show (if (false : Bool) = true then f else lower f (p : Int)) = (p : Int) by simp [lower, hpf]] at this)
              clear HN
              go_wp2
              go_roundw
              case rel => exact ⟨k + 1, p, by omega, by go_num, rfl, HB1.out.alloc HB1.out.size _, HN2.out⟩
              case measure => simp [intOf]; omega
            · have HN2 := Lib.hid (show endsF K.l (D.rs.drop (k + 1)) f = R by have := HN.out; rwa [show (if (false : Bool) = true then f else lower f (p : Int)) = f by simp [lower, hpf, hf0]] at this)
              have d1 : ¬ f < 0 := hf0
              have d2 : ¬ (p : Int) < f := hpf
              clear HN
              go_wp2
              go_roundw
              case rel => exact ⟨k + 1, f, by omega, by go_num, rfl, HB1.out.alloc HB1.out.size _, HN2.out⟩
              case measure => simp [intOf]; omega
      · have HF : Hid (f = R) := Lib.hid (by
          have := HRE.out
          rw [List.drop_eq_nil_of_le (by omega)] at this
          exact this)
        by_cases hf0 : 0 ≤ f
        · have HJ : Hid ((f, 54) = resE K.l D.rs) := Lib.hid (by rw [HE.out, ← HF.out, if_pos hf0])
          go_wp2
          go_ret2
          exact JP.mk' HJ.out HB.out
        · have HJ : Hid ((0, 0) = resE K.l D.rs) := Lib.hid (by rw [HE.out, ← HF.out, if_neg hf0])
          go_wp2
          go_ret2
          exact JP.mk' HJ.out HB.out
end Go.Proofs.YtaeegkljldngmaaDoor
