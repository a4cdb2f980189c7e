/-
  Merged: Rgetr, Samer, Putc, Rputr, Rputc.
-/
import Derived.Test.YtjhkfpemcplaaaaPt
import Derived.BigQuiet
import Derived.Deep.QuietTactic
import Derived.Test.YtjhkfpemcplaaaaPu
namespace Go.Proofs.Ytjhkfpemcplaaaa
open Go.RowKit

theorem txtD_bad (l : List UInt8) : txtD l true = ([], l.tail, true) := by
  have h : cnt l true = (0, l.tail, true) := cntS_bad (f := 9) (i := 0) (n := 0) (l := l) (b := true) rfl
  unfold txtD
  rw [h]
  simp
set_option maxRecDepth 20000 in
set_option maxHeartbeats 4000000 in
theorem rgetr_any (A : Option Addr) (n c : Nat) (bs : List UInt8) (w : World) (hr : RdB w w.heap.size A n bs) (hc : n ≤ c) (hm : n ≤ 9223372036854775807) :
    Calls Try.prog 31 #[.slice A n c] w (GetRPost w ((repTD bs).2.2 = false ∧ (repTD bs).2.1 = [] ∧ n ≤ 1024 ∧ (repV bs).1.length ≤ 32) (unzig (cnt bs false).1) (repV bs).1 (repTD bs).1 (.bool true) (.bool false)) := by
  obtain ⟨good, HGOOD⟩ : ∃ good, Hid (((repTD bs).2.2 = false ∧ (repTD bs).2.1 = [] ∧ n ≤ 1024 ∧ (repV bs).1.length ≤ 32) = good) := ⟨_, rfl⟩
  rw [HGOOD.out]
  have HE : Hid (I64 (unzig (cnt bs false).1)) := Lib.hid (unzig_I64 (cnt_lt bs false))
  obtain ⟨err, HERR⟩ : ∃ e0, Hid (unzig (cnt bs false).1 = e0) := ⟨_, rfl⟩
  rw [HERR.out] at HE ⊢
  obtain ⟨vs, HVS⟩ : ∃ e0, Hid ((repV bs).1 = e0) := ⟨_, rfl⟩
  rw [HVS.out]
  obtain ⟨text, HTX⟩ : ∃ e0, Hid ((repTD bs).1 = e0) := ⟨_, rfl⟩
  rw [HTX.out]
  have HP := Lib.hid (GS.start (T := 110) (U := 53) #[.int .i64 0, .slice none 0 0, .string ⟨#[]⟩] hr hc hm)
  clear hr hc hm
  go_enter Try.func31, Try.ntmps31
  go_wp2_with fail
  have HS1 := Lib.hid (rsgn_any _ _ _ _ _ HP.out)
  refine HS1.out.mono ?_
  rintro e w1 ⟨he, hp1, hg1⟩
  rw [HERR.out] at he
  subst he
  have h0 : GS w 110 53 68 2 (w.heap.size + 1) w1.heap.size w.heap.size (cnt bs false).2.1 (cnt bs false).2.2 #[.int .i64 err, .slice none 0 0, .string ⟨#[]⟩] #[.int .i64 0, .slice none 0 0, .string ⟨#[]⟩] (.slice none 0 0) 0 (vcells []) (w1.alloc (.cells #[.int .i64 err, .slice none 0 0, .string ⟨#[]⟩] 53)) := by
    have hsz := hg1.size
    simp at hsz
    have hb1 : Below w.heap.size w w1 := (((Below.refl _ _).alloc (Nat.le_refl _) _).alloc (by simp) _).grown hg1 (by simp; omega) (fun k hk => by injection hk with hk; omega)
    refine ⟨hp1.grown (World.grownBy_alloc _ _ none) (fun k hk => by cases hk) (by simp), Blk.new _ _ _, ((Blk.new' w 53 w.heap.size _ rfl).alloc _).grown hg1 (by simp) |>.alloc _, World.ownsRow_nil _ _ _ _, hb1.alloc hb1.size _, hb1.size, Nat.le_refl _, by omega⟩
  clear hp1 hg1 HS1 HP
  go_upto_region 3 with fail
  generalize hW3 : (w1.alloc (.cells #[.int .i64 err, .slice none 0 0, .string ⟨#[]⟩] 53)) = W3 at h0 ⊢
  generalize w1.heap.size = G at h0 ⊢
  clear hW3 w1
  have HB := Lib.hid (rbyte_any _ _ _ _ _ h0.part)
  go_wp2_with fail
  refine HB.out.mono ?_
  rintro e w4 ⟨rfl, hp4, hg4⟩
  have h4 := h0.call (by decide) (by decide) hp4 hg4
  clear h0 hp4 hg4 HB
  have hx := byteV_lt (cnt bs false).2.1
  obtain ⟨nv, HNV⟩ : ∃ e0, Hid (byteV (cnt bs false).2.1 = e0) := ⟨_, rfl⟩
  rw [HNV.out] at hx ⊢
  obtain ⟨l0, HL0⟩ : ∃ e0, Hid ((cnt bs false).2.1.tail = e0) := ⟨_, rfl⟩
  obtain ⟨b0, HB0⟩ : ∃ e0, Hid (((cnt bs false).2.2 || (cnt bs false).2.1.isEmpty) = e0) := ⟨_, rfl⟩
  rw [HL0.out, HB0.out] at h4
  have HREP : Hid (repV bs = valsD nv l0 b0) := Lib.hid (by unfold repV; rw [HNV.out, HL0.out, HB0.out])
  clear HNV HL0 HB0
  generalize w.heap.size + 1 = R at h4 ⊢
  generalize w.heap.size = G0 at h4 ⊢
  go_wp2
  go_loopw [6, 7] (fun i _ wr => ∃ j m : Nat, m + j = nv ∧ i = .int .i64 m ∧ GLoop w 110 err nv l0 b0 R G G0 j wr) (fun i _ _ => (intOf i).toNat)
  case atStart => exact ⟨0, nv, by omega, rfl, [], l0, b0, _, rfl, h4, by simp⟩
  case round =>
    obtain ⟨j, m, hj, rfl, us, l, b, V, hus, h5, hrel⟩ := hrel
    have HNM : Hid (nv - j = m) := Lib.hid (by omega)
    clear h4
    have HREL := Lib.hid hrel
    have HUS := Lib.hid hus
    clear hrel hus
    have cb := h5.bad
    by_cases hlt : 0 < m
    · have d : decide ((0 : Int) < (m : Int)) = true := by simp; omega
      cases b
      · have HB := Lib.hid (rcnt_any _ _ _ _ _ h5.part)
        go_wp2_with fail
        refine HB.out.mono ?_
        rintro e w6 ⟨rfl, hp6, hg6⟩
        have h6 := h5.call (by decide) (by decide) hp6 hg6
        clear h5 hp6 hg6 HB cb
        have hbk := Blk.new w6 68 #[.int .u64 ((cnt l false).1 : Int), .int .i64 0]
        have h7 := h6.alloc (.cells #[.int .u64 ((cnt l false).1 : Int), .int .i64 0] 68)
        have k1 := h6.partLt
        have k2 := h6.main.lt
        have k3 := h6.res.lt
        have k4 := h6.ownLt
        have k5 := h6.below.size
        clear h6
        go_upto_region 7 with fail
        generalize w6.alloc (.cells #[.int .u64 ((cnt l false).1 : Int), .int .i64 0] 68) = W7 at hbk h7 ⊢
        generalize w6.heap.size = k at hbk k1 k2 k3 k4 k5 ⊢
        clear w6
        obtain ⟨⟨hv, l2, b2⟩, HCN⟩ : ∃ r, Hid (cnt l false = r) := ⟨_, rfl⟩
        rw [HCN.out] at hbk h7 ⊢
        dsimp only at hbk h7 ⊢
        have e0 := hbk.cell 0
        simp at e0
        have k6 : R ≠ k := by omega
        by_cases hv0 : hv = 0
        · have t0 : ((hv : Int) == 0) = true := by rw [beq_iff_eq]; omega
          have HS2 := Lib.hid (rsgn_any _ _ _ _ _ h7.part)
          go_wp2_with fail
          refine HS2.out.mono ?_
          rintro e w8 ⟨rfl, hp8, hg8⟩
          have h8 := h7.call (by decide) (by decide) hp8 hg8
          have hbk8 := hbk.grown hg8 (by simpa using k6.symm)
          clear h7 hbk hp8 hg8 HS2 e0
          obtain ⟨⟨m2, l3, b3⟩, HCN2⟩ : ∃ r, Hid (cnt l2 b2 = r) := ⟨_, rfl⟩
          rw [HCN2.out] at h8 ⊢
          dsimp only at h8 ⊢
          have HVD : Hid (valD l false = ((hv, unzig m2), l3, b3)) := Lib.hid (by unfold valD; rw [HCN.out]; dsimp only; rw [if_pos hv0, HCN2.out, hv0])
          have kf := hbk8.frozen 1
          have kc := hbk8.cell 1
          simp at kc
          go_upto_region 9 with fail
          have h9 := h8.setFar k5 k6 (Nat.ne_of_lt k2) (Nat.ne_of_lt k3) k4 1 (.int .i64 (unzig m2))
          have hbk9 := hbk8.set_ 1 (.int .i64 (unzig m2))
          simp at hbk9
          generalize w8.setCell ⟨k, 1, none⟩ (.int .i64 (unzig m2)) = W9 at h9 hbk9 ⊢
          clear h8 hbk8 kf kc t0 hv0
          generalize unzig m2 = z at hbk9 HVD ⊢
          have e0 := hbk9.cell 0
          have e1 := hbk9.cell 1
          have g1 := h9.cell 1
          have gf := h9.main.frozen 1
          simp at e0 e1 g1
          have h10 := h9.alloc (.cells #[.int .u64 (hv : Int), .int .i64 z] 68)
          have hrd := Reads.ofBlk (size := 2) (n := 1) (cs := [.int .u64 (hv : Int), .int .i64 z]) (Blk.new W9 68 #[.int .u64 (hv : Int), .int .i64 z]) rfl
          have gf2 := h10.main.frozen 1
          go_wp2_with (at_builtin; refine wpList_appE rfl _ _ _ rfl w.heap.size 68 _ 2 16 info68 Try.underlying51 rfl (by decide) _ _ _ rfl h10.own _ _ _ _ _ rfl hrd (by simp [Value.oneCell']) (by simp only [maxLen]; omega) (by omega) h10.below.size ?_; intro V2 w11 hown11 happ11; obtain ⟨A2, c2, rfl⟩ := own_form hown11; have h11 := h10.app (by decide) (by decide) happ11 hown11; have gf3 := h11.main.frozen 1; have g3 := h11.cell 1; simp at g3)
          go_roundw
          case rel =>
            refine ⟨j + 1, m - 1, by omega, by go_num, us ++ [(hv, z)], l3, b3, .slice A2 (j + 1) c2, by simp [HUS.out], ?_, ?_⟩
            · have h12 := h11.setMain (by decide) (by decide) 1 (.slice A2 (j + 1) c2)
              rw [vcells_one us (hv, z)] at h12
              simpa using h12
            · obtain ⟨f, hf⟩ : ∃ f, nv - j = f + 1 := ⟨nv - j - 1, by omega⟩
              rw [HREL.out, hf, show nv - (j + 1) = f from by omega, valsD, if_neg (by decide), HVD.out]
              simp
          case measure => simp [intOf]; omega

        · have t0 : ((hv : Int) == 0) = false := by rw [beq_eq_false_iff_ne]; omega
          have HVD : Hid (valD l false = ((hv, 0), l2, b2)) := Lib.hid (by unfold valD; rw [HCN.out]; dsimp only; rw [if_neg hv0])
          have h9 := h7
          have hbk9 := hbk
          clear h7 hbk hv0
          go_upto_region 9 with fail
          obtain ⟨l3, HL3⟩ : ∃ r, Hid (l2 = r) := ⟨_, rfl⟩
          obtain ⟨b3, HB3⟩ : ∃ r, Hid (b2 = r) := ⟨_, rfl⟩
          rw [HL3.out, HB3.out] at h9 HVD
          clear e0
          generalize W7 = W9 at h9 hbk9 ⊢
          have e0 := hbk9.cell 0
          have e1 := hbk9.cell 1
          have g1 := h9.cell 1
          have gf := h9.main.frozen 1
          simp at e0 e1 g1
          have h10 := h9.alloc (.cells #[.int .u64 (hv : Int), .int .i64 0] 68)
          have hrd := Reads.ofBlk (size := 2) (n := 1) (cs := [.int .u64 (hv : Int), .int .i64 0]) (Blk.new W9 68 #[.int .u64 (hv : Int), .int .i64 0]) rfl
          have gf2 := h10.main.frozen 1
          go_wp2_with (at_builtin; refine wpList_appE rfl _ _ _ rfl w.heap.size 68 _ 2 16 info68 Try.underlying51 rfl (by decide) _ _ _ rfl h10.own _ _ _ _ _ rfl hrd (by simp [Value.oneCell']) (by simp only [maxLen]; omega) (by omega) h10.below.size ?_; intro V2 w11 hown11 happ11; obtain ⟨A2, c2, rfl⟩ := own_form hown11; have h11 := h10.app (by decide) (by decide) happ11 hown11; have gf3 := h11.main.frozen 1; have g3 := h11.cell 1; simp at g3)
          go_roundw
          case rel =>
            refine ⟨j + 1, m - 1, by omega, by go_num, us ++ [(hv, 0)], l3, b3, .slice A2 (j + 1) c2, by simp [HUS.out], ?_, ?_⟩
            · have h12 := h11.setMain (by decide) (by decide) 1 (.slice A2 (j + 1) c2)
              rw [vcells_one us (hv, 0)] at h12
              simpa using h12
            · obtain ⟨f, hf⟩ : ∃ f, nv - j = f + 1 := ⟨nv - j - 1, by omega⟩
              rw [HREL.out, hf, show nv - (j + 1) = f from by omega, valsD, if_neg (by decide), HVD.out]
              simp
          case measure => simp [intOf]; omega
      · have HV : Hid (valsD nv l0 b0 = (us, l, true)) := Lib.hid (by rw [HREL.out, valsD_bad]; simp)
        have hrange : ∀ v ∈ us, v.1 < 18446744073709551616 ∧ I64 v.2 := fun v hv => valsD_range nv l0 b0 v (by rw [HV.out]; exact hv)
        have HRG := Lib.hid hrange
        clear hrange
        go_wp2_with fail
        have HT := Lib.hid (rtxt_any _ _ _ _ _ h5.part)
        refine HT.out.mono ?_
        rintro e w6 ⟨rfl, hp6, hg6⟩
        have h6 := h5.call (by decide) (by decide) hp6 hg6
        obtain ⟨⟨tx, l6, b6⟩, HTT⟩ : ∃ r, Hid (txtD l true = r) := ⟨_, rfl⟩
        rw [HTT.out] at h6 ⊢
        try dsimp only at h6 ⊢
        have m2 := h6.cell 2
        have mf := h6.main.frozen 2
        simp at m2
        clear h5 hp6 hg6 HT cb
        have HF : Hid (vs = us ∧ text = tx ∧ (good = (b6 = false ∧ l6 = [] ∧ n ≤ 1024 ∧ us.length ≤ 32))) := Lib.hid (by
          have e1 : repV bs = (us, l, true) := by rw [HREP.out, HV.out]
          have e2 : repTD bs = (tx, l6, b6) := by unfold repTD; rw [e1]; exact HTT.out
          refine ⟨by rw [← HVS.out, e1], by rw [← HTX.out, e2], by rw [← HGOOD.out, e1, e2]⟩)
        go_upto_region 11 with fail
        have h7 := h6.setMain (by decide) (by decide) 2 (.string ⟨tx.toArray⟩)
        simp at h7
        generalize w6.setCell ⟨G, 2, none⟩ (.string ⟨tx.toArray⟩) = w7 at h7 ⊢
        clear h6 m2 mf
        obtain ⟨A5, c5, rfl⟩ := own_form h7.own
        have q0 := h7.cell 0
        have q1 := h7.cell 1
        have q2 := h7.cell 2
        have r0 := h7.res.cell 0
        have r1 := h7.res.cell 1
        have r2 := h7.res.cell 2
        have s0 := h7.res.frozen 0
        have s1 := h7.res.frozen 1
        have s2 := h7.res.frozen 2
        obtain ⟨_, hl6, A6, c6, hp6, _, _⟩ := id h7.part
        have p0 := hp6.cell 0
        have p1 := hp6.cell 1
        simp at q0 q1 q2 r0 r1 r2 p0 p1
        obtain ⟨L6, HL6⟩ : ∃ r, Hid (l6.length = r) := ⟨_, rfl⟩
        rw [HL6.out] at p0 hl6
        clear hp6
        cases b6
        · exact absurd (congrArg (fun r => r.2.2) HTT.out) (by rw [txtD_bad]; simp)
        · have HZ : Hid (¬ good) := Lib.hid (by rw [HF.out.2.2]; rintro ⟨h, -⟩; exact absurd h (by decide))
          have hF := ((h7.setRes (by decide) (by decide) 0 (.int .i64 0)).setRes (by decide) (by decide) 1 (.slice none 0 0)).setRes (by decide) (by decide) 2 (.string ⟨#[]⟩)
          have HFF := Lib.hid hF
          clear hF h7
          go_wp2
          have hF := HFF.out
          have t0 := hF.res.cell 0
          have t1 := hF.res.cell 1
          have t2 := hF.res.cell 2
          simp at t0 t1 t2
          refine bodyPost_ret (v := .tuple #[.agg #[.int .i64 0, .slice none 0 0, .string ByteArray.empty], .bool false]) (by simp [results, Try.results31, go_sem, t0, t1, t2]; rfl) rfl ⟨hF.below, .inr ⟨HZ.out, rfl⟩⟩
    · have d : decide ((0 : Int) < (m : Int)) = false := by simp; omega
      have HV : Hid (valsD nv l0 b0 = (us, l, b)) := Lib.hid (by rw [HREL.out, show nv - j = 0 from by omega, valsD]; simp)
      have hrange : ∀ v ∈ us, v.1 < 18446744073709551616 ∧ I64 v.2 := fun v hv => valsD_range nv l0 b0 v (by rw [HV.out]; exact hv)
      have HRG := Lib.hid hrange
      clear hrange
      go_wp2_with fail
      have HT := Lib.hid (rtxt_any _ _ _ _ _ h5.part)
      refine HT.out.mono ?_
      rintro e w6 ⟨rfl, hp6, hg6⟩
      have h6 := h5.call (by decide) (by decide) hp6 hg6
      obtain ⟨⟨tx, l6, b6⟩, HTT⟩ : ∃ r, Hid (txtD l b = r) := ⟨_, rfl⟩
      rw [HTT.out] at h6 ⊢
      try dsimp only at h6 ⊢
      have m2 := h6.cell 2
      have mf := h6.main.frozen 2
      simp at m2
      clear h5 hp6 hg6 HT cb
      have HF : Hid (vs = us ∧ text = tx ∧ (good = (b6 = false ∧ l6 = [] ∧ n ≤ 1024 ∧ us.length ≤ 32))) := Lib.hid (by
        have e1 : repV bs = (us, l, b) := by rw [HREP.out, HV.out]
        have e2 : repTD bs = (tx, l6, b6) := by unfold repTD; rw [e1]; exact HTT.out
        refine ⟨by rw [← HVS.out, e1], by rw [← HTX.out, e2], by rw [← HGOOD.out, e1, e2]⟩)
      go_upto_region 11 with fail
      have h7 := h6.setMain (by decide) (by decide) 2 (.string ⟨tx.toArray⟩)
      simp at h7
      generalize w6.setCell ⟨G, 2, none⟩ (.string ⟨tx.toArray⟩) = w7 at h7 ⊢
      clear h6 m2 mf
      obtain ⟨A5, c5, rfl⟩ := own_form h7.own
      have q0 := h7.cell 0
      have q1 := h7.cell 1
      have q2 := h7.cell 2
      have r0 := h7.res.cell 0
      have r1 := h7.res.cell 1
      have r2 := h7.res.cell 2
      have s0 := h7.res.frozen 0
      have s1 := h7.res.frozen 1
      have s2 := h7.res.frozen 2
      obtain ⟨_, hl6, A6, c6, hp6, _, _⟩ := id h7.part
      have p0 := hp6.cell 0
      have p1 := hp6.cell 1
      simp at q0 q1 q2 r0 r1 r2 p0 p1
      obtain ⟨L6, HL6⟩ : ∃ r, Hid (l6.length = r) := ⟨_, rfl⟩
      rw [HL6.out] at p0 hl6
      clear hp6
      cases b6
      · by_cases z1 : l6 = []
        · have z0 : L6 = 0 := by rw [← HL6.out, z1]; rfl
          subst z0
          by_cases z2 : n ≤ 1024
          · have d2 : decide ((1024 : Int) < (n : Int)) = false := by simp; omega
            by_cases z3 : j ≤ 32
            · have d3 : decide ((32 : Int) < (j : Int)) = false := by simp; omega
              have HZ : Hid good := Lib.hid (by rw [HF.out.2.2]; exact ⟨rfl, z1, z2, by rw [HUS.out]; exact z3⟩)
              clear z1 z2 z3
              have hF := ((h7.setRes (by decide) (by decide) 0 (.int .i64 err)).setRes (by decide) (by decide) 1 (.slice A5 j c5)).setRes (by decide) (by decide) 2 (.string ⟨tx.toArray⟩)
              have HFF := Lib.hid hF
              clear hF h7
              go_wp2
              have hF := HFF.out
              have t0 := hF.res.cell 0
              have t1 := hF.res.cell 1
              have t2 := hF.res.cell 2
              simp at t0 t1 t2
              refine bodyPost_ret (v := .tuple #[.agg #[.int .i64 err, .slice A5 j c5, .string ⟨tx.toArray⟩], .bool true]) (by simp [results, Try.results31, go_sem, t0, t1, t2]) rfl ⟨hF.below, .inl ⟨HZ.out, A5, j, c5, by rw [HF.out.2.1], by rw [HF.out.1]; exact hF.own⟩⟩
            · have d3 : decide ((32 : Int) < (j : Int)) = true := by simp; omega
              have HZ : Hid (¬ good) := Lib.hid (by rw [HF.out.2.2]; rintro ⟨-, -, -, h⟩; rw [HUS.out] at h; omega)
              clear z1 z2 z3 hx hj hlt d HNM hl6
              have hF := ((h7.setRes (by decide) (by decide) 0 (.int .i64 0)).setRes (by decide) (by decide) 1 (.slice none 0 0)).setRes (by decide) (by decide) 2 (.string ⟨#[]⟩)
              have HFF := Lib.hid hF
              clear hF h7
              go_wp2
              have hF := HFF.out
              have t0 := hF.res.cell 0
              have t1 := hF.res.cell 1
              have t2 := hF.res.cell 2
              simp at t0 t1 t2
              refine bodyPost_ret (v := .tuple #[.agg #[.int .i64 0, .slice none 0 0, .string ByteArray.empty], .bool false]) (by simp [results, Try.results31, go_sem, t0, t1, t2]; rfl) rfl ⟨hF.below, .inr ⟨HZ.out, rfl⟩⟩
          · have d2 : decide ((1024 : Int) < (n : Int)) = true := by simp; omega
            have HZ : Hid (¬ good) := Lib.hid (by rw [HF.out.2.2]; rintro ⟨-, -, h, -⟩; omega)
            clear z1 z2
            have hF := ((h7.setRes (by decide) (by decide) 0 (.int .i64 0)).setRes (by decide) (by decide) 1 (.slice none 0 0)).setRes (by decide) (by decide) 2 (.string ⟨#[]⟩)
            have HFF := Lib.hid hF
            clear hF h7
            go_wp2
            have hF := HFF.out
            have t0 := hF.res.cell 0
            have t1 := hF.res.cell 1
            have t2 := hF.res.cell 2
            simp at t0 t1 t2
            refine bodyPost_ret (v := .tuple #[.agg #[.int .i64 0, .slice none 0 0, .string ByteArray.empty], .bool false]) (by simp [results, Try.results31, go_sem, t0, t1, t2]; rfl) rfl ⟨hF.below, .inr ⟨HZ.out, rfl⟩⟩
        · have d1n : 0 < L6 := by rw [← HL6.out]; exact List.length_pos_iff.2 z1
          have d1 : decide ((0 : Int) < (L6 : Int)) = true := by simp; omega
          have HZ : Hid (¬ good) := Lib.hid (by rw [HF.out.2.2]; rintro ⟨-, h, -⟩; exact z1 h)
          clear z1
          have hF := ((h7.setRes (by decide) (by decide) 0 (.int .i64 0)).setRes (by decide) (by decide) 1 (.slice none 0 0)).setRes (by decide) (by decide) 2 (.string ⟨#[]⟩)
          have HFF := Lib.hid hF
          clear hF h7
          go_wp2
          have hF := HFF.out
          have t0 := hF.res.cell 0
          have t1 := hF.res.cell 1
          have t2 := hF.res.cell 2
          simp at t0 t1 t2
          refine bodyPost_ret (v := .tuple #[.agg #[.int .i64 0, .slice none 0 0, .string ByteArray.empty], .bool false]) (by simp [results, Try.results31, go_sem, t0, t1, t2]; rfl) rfl ⟨hF.below, .inr ⟨HZ.out, rfl⟩⟩
      · have HZ : Hid (¬ good) := Lib.hid (by rw [HF.out.2.2]; rintro ⟨h, -⟩; exact absurd h (by decide))
        have hF := ((h7.setRes (by decide) (by decide) 0 (.int .i64 0)).setRes (by decide) (by decide) 1 (.slice none 0 0)).setRes (by decide) (by decide) 2 (.string ⟨#[]⟩)
        have HFF := Lib.hid hF
        clear hF h7
        go_wp2
        have hF := HFF.out
        have t0 := hF.res.cell 0
        have t1 := hF.res.cell 1
        have t2 := hF.res.cell 2
        simp at t0 t1 t2
        refine bodyPost_ret (v := .tuple #[.agg #[.int .i64 0, .slice none 0 0, .string ByteArray.empty], .bool false]) (by simp [results, Try.results31, go_sem, t0, t1, t2]; rfl) rfl ⟨hF.below, .inr ⟨HZ.out, rfl⟩⟩
end Go.Proofs.Ytjhkfpemcplaaaa
namespace Go.Proofs.Ytjhkfpemcplaaaa
open Go.RowKit

set_option maxRecDepth 20000 in
set_option maxHeartbeats 2000000 in
theorem samer_any (err : Int) (A A' : Option Addr) (n c c' : Nat) (s : ByteArray) (vs : List (Nat × Int)) (w : World) (h : RdV w w.heap.size A n vs) (h' : RdV w w.heap.size A' n vs) (hm : n ≤ 9223372036854775807) :
    Calls Try.prog 27 #[.agg #[.int .i64 err, .slice A n c, .string s], .agg #[.int .i64 err, .slice A' n c', .string s]] w fun e w' => e = .returned (.bool true) ∧ Below w.heap.size w w' := by
  have H1 := Lib.hid ((h.alloc (Nat.le_refl _) (.cells #[.int .i64 err, .slice A n c, .string s] 53)).alloc (by simp) (.cells #[.int .i64 err, .slice A' n c', .string s] 53))
  have H2 := Lib.hid ((h'.alloc (Nat.le_refl _) (.cells #[.int .i64 err, .slice A n c, .string s] 53)).alloc (by simp) (.cells #[.int .i64 err, .slice A' n c', .string s] 53))
  have HB := Lib.hid (((Below.refl w.heap.size w).alloc (Nat.le_refl _) (.cells #[.int .i64 err, .slice A n c, .string s] 53)).alloc (by simp) (.cells #[.int .i64 err, .slice A' n c', .string s] 53))
  have B1 := Lib.hid ((Blk.new w 53 #[.int .i64 err, .slice A n c, .string s]).alloc (.cells #[.int .i64 err, .slice A' n c', .string s] 53))
  have B2 := Lib.hid (Blk.new' (w.alloc (.cells #[.int .i64 err, .slice A n c, .string s] 53)) 53 (w.heap.size + 1) #[.int .i64 err, .slice A' n c', .string s] (by simp))
  clear h h'
  go_enter Try.func27, Try.ntmps27
  go_upto_region 3 with fail
  generalize ((w.alloc (.cells #[.int .i64 err, .slice A n c, .string s] 53)).alloc (.cells #[.int .i64 err, .slice A' n c', .string s] 53)) = W at H1 H2 HB B1 B2 ⊢
  have p1 := B1.out.cell 1
  have q1 := B2.out.cell 1
  simp at p1 q1
  go_wp2
  go_loopw [5, 30] (fun _ i wr => ∃ j k : Nat, j ≤ n ∧ i = .int .i64 j ∧ wr = W.drewN k) (fun _ i _ => n - (intOf i).toNat)
  case atStart => exact ⟨0, 0, Nat.zero_le _, rfl, rfl⟩
  case round =>
    obtain ⟨j, k, hj, rfl, rfl⟩ := hrel
    by_cases hlt : j < n
    · obtain ⟨b, off, v, rfl, hb, hv, e1, e2⟩ := RdV.at2 H1.out hlt
      obtain ⟨b', off', v', rfl, hb', hv', e1', e2'⟩ := RdV.at2 H2.out hlt
      rw [hv] at hv'
      injection hv' with hv'
      subst hv'
      clear hb hb' hv
      have l1 : (0 : Int) ≤ (j : Int) := by omega
      have l2 : (j : Int) < (n : Int) := by omega
      have l3 : wrap64 ((j : Int) + 1) = (j : Int) + 1 := by unfold wrap64; omega
      go_wp2_with fail
      go_quiet (fail)
      go_wp2_with fail
      go_roundw
      case rel => exact ⟨j + 1, k + nq, by omega, by go_num, rfl⟩
      case measure => simp [intOf]; omega
    · go_wp2
      go_ret
      exact ⟨rfl, below_drewN HB.out k⟩
end Go.Proofs.Ytjhkfpemcplaaaa
namespace Go.Proofs.Ytjhkfpemcplaaaa
open Go.RowKit

/-- numbers as cells -/
abbrev RdI (w : World) (B : Nat) (A : Option Addr) (n : Nat) (ns : List Int) : Prop := Reads w B 1 A n (ns.map (Value.int .i64))
theorem RdI.len {w : World} {B n : Nat} {A : Option Addr} {ns : List Int} (h : RdI w B A n ns) : ns.length = n := by
  have := h.1
  simpa using this
theorem RdI.at1 {w : World} {B n k : Nat} {A : Option Addr} {ns : List Int} (h : RdI w B A n ns) (hk : k < n) :
    ∃ ad z, A = some ad ∧ ad.block < B ∧ ns[k]? = some z ∧ w.cell? (ad.add k) = some (.int .i64 z) := by
  obtain ⟨ad, u, rfl, hb, hx, hc⟩ := Reads.at_ h hk
  rw [List.getElem?_map] at hx
  cases hy : ns[k]? with
  | none => rw [hy] at hx; cases hx
  | some x =>
    rw [hy] at hx
    injection hx with hx
    subst hx
    exact ⟨ad, x, rfl, hb, rfl, hc⟩
def numB (z : Int) : List UInt8 := enc (zig z)
def cmdB (kind : Int) (h : Nat) (ns : List Int) (text : List UInt8) : List UInt8 := ([UInt8.ofNat kind.toNat] ++ enc h ++ [UInt8.ofNat ns.length] ++ ns.flatMap numB) ++ enc text.length ++ text
theorem nums_le (ns : List Int) : (ns.flatMap numB).length ≤ 10 * ns.length := by
  induction ns with
  | nil => simp
  | cons v l ih =>
    have := enc_le (zig v)
    simp only [List.flatMap_cons, List.length_append, List.length_cons, numB] at ih ⊢
    omega
theorem nums_take (ns : List Int) (k : Nat) (z : Int) (h : ns[k]? = some z) : (ns.take (k + 1)).flatMap numB = (ns.take k).flatMap numB ++ numB z := by
  rw [List.take_add_one, h]
  simp
/-- may the command be -/
def goodC (kind : Int) (h : Nat) (ns : List Int) (text : List UInt8) : Prop := 1 ≤ kind ∧ kind ≤ 23 ∧ ns.length ≤ 32 ∧ text.length ≤ 512 ∧ (cmdB kind h ns text).length ≤ 1024

theorem encs_one (m : Nat) : encs [m] = enc m := by simp [encs]
def HoldPost2 (w : World) (T g : Nat) (cs : Array Value) (W : World) (v0 : Value) (ys : List UInt8) (e : Ending) (w1 : World) : Prop :=
  ∃ v, e = .returned v ∧ OwnB 5 w1 w.heap.size v ys ∧ Kept w T g cs none 0 [] w1 ∧ (∀ k t ds, v0.ownBlock ≠ some k → Blk W k t ds → Blk w1 k t ds)
theorem counts_hold2 {w W : World} {T g : Nat} {cs : Array Value} (v : Value) (xs : List UInt8) (lb m c : Nat) (ns : List Nat) (h : Kept w T g cs none 0 [] W) (hT : 5 ≠ T) (hv : OwnB 5 W w.heap.size v xs)
    (hl : Blk W lb 22 (ns.map uv).toArray) (hm : m = ns.length) (hn : ∀ n ∈ ns, n < 18446744073709551616) (hns : ns.length ≤ 1000) (hsz : xs.length ≤ 1099511627776) :
    Calls Try.prog 73 #[v, .slice (some ⟨lb, 0, none⟩) m c] W (HoldPost2 w T g cs W v (xs ++ encs ns)) :=
  (counts_any w.heap.size v xs lb m c ns W hv h.2.2.size hl hm hn hns hsz).mono fun _ _ ⟨v1, he, ho, ha⟩ => ⟨v1, he, ho, h.app hv hT ha, fun _ _ _ hne hb => ha.blk hb hne⟩

set_option maxRecDepth 20000 in
set_option maxHeartbeats 2000000 in
theorem putc_long (kind : Int) (hd : Nat) (A : Option Addr) (n c : Nat) (s : ByteArray) (w : World) (h : ¬ (1 ≤ kind ∧ kind ≤ 23 ∧ n ≤ 32 ∧ s.size ≤ 512)) :
    Calls Try.prog 50 #[.agg #[.int .i64 kind, .int .u64 hd, .slice A n c, .string s]] w fun e w' => e = .returned (.tuple #[.slice none 0 0, .int .i64 173]) ∧ ∃ o, w.alloc o = w' := by
  by_cases h1 : kind < 1
  · have d1 : decide (kind < 1) = true := by simp; omega
    clear h
    go_enter Try.func50, Try.ntmps50
    go_wp2
    go_ret2
    exact ⟨rfl, _, rfl⟩
  · have d1 : decide (kind < 1) = false := by simp; omega
    by_cases h2 : 23 < kind
    · have d2 : decide (23 < kind) = true := by simp; omega
      clear h
      go_enter Try.func50, Try.ntmps50
      go_wp2
      go_ret2
      exact ⟨rfl, _, rfl⟩
    · have d2 : decide (23 < kind) = false := by simp; omega
      by_cases h3 : 32 < n
      · have d : decide ((32 : Int) < (n : Int)) = true := by simp; omega
        clear h
        go_enter Try.func50, Try.ntmps50
        go_wp2
        go_ret2
        exact ⟨rfl, _, rfl⟩
      · have d : decide ((32 : Int) < (n : Int)) = false := by simp; omega
        have h4 : 512 < s.size := by omega
        have d3 : decide ((512 : Int) < (s.size : Int)) = true := by simp; omega
        clear h
        go_enter Try.func50, Try.ntmps50
        go_wp2
        go_ret2
        exact ⟨rfl, _, rfl⟩

set_option maxRecDepth 20000 in
set_option maxHeartbeats 4000000 in
theorem putc_main (kind : Int) (hd : Nat) (A : Option Addr) (n c : Nat) (ns : List Int) (s : ByteArray) (w : World) (hka : 1 ≤ kind) (hkb : kind ≤ 23) (hh : hd < 18446744073709551616) (hr : RdI w w.heap.size A n ns) (hn : n ≤ 32) (ht : s.size ≤ 512)
    (hu : ∀ z ∈ ns, I64 z) :
    Calls Try.prog 50 #[.agg #[.int .i64 kind, .int .u64 hd, .slice A n c, .string s]] w (PutPost w (goodC kind hd ns s.data.toList) (cmdB kind hd ns s.data.toList)) := by
  obtain ⟨x, HX⟩ : ∃ x : UInt8, Hid (x = UInt8.ofNat n) := ⟨_, rfl⟩
  have hx8 : (n : Int) = (x.toNat : Int) := by rw [HX.out]; simp only [UInt8.toNat_ofNat']; omega
  have HXN := Lib.hid hx8
  obtain ⟨y, HY⟩ : ∃ x : UInt8, Hid (x = UInt8.ofNat kind.toNat) := ⟨_, rfl⟩
  have hy8 : kind = (y.toNat : Int) := by rw [HY.out]; simp only [UInt8.toNat_ofNat']; omega
  have HYN := Lib.hid hy8
  clear hx8 hy8
  have hK : Kept w 35 w.heap.size #[.int .i64 kind, .int .u64 hd, .slice A n c, .string s] none 0 [] (w.alloc (.cells #[.int .i64 kind, .int .u64 hd, .slice A n c, .string s] 35)) :=
    ⟨Blk.new w _ _, Reads.none_, (Below.refl _ _).alloc (Nat.le_refl _) _⟩
  have d1 : decide (kind < 1) = false := by simp; omega
  have d2 : decide (23 < kind) = false := by simp; omega
  have d : decide ((32 : Int) < (n : Int)) = false := by simp; omega
  have d3 : decide ((512 : Int) < (s.size : Int)) = false := by simp; omega
  have HU := Lib.hid hu
  have HKR := Lib.hid (And.intro hka hkb)
  have HH := Lib.hid hh
  clear hu
  go_enter Try.func50, Try.ntmps50
  go_upto_region 3 with fail
  generalize (w.alloc (.cells #[.int .i64 kind, .int .u64 hd, .slice A n c, .string s] 35)) = W at hK ⊢
  have HS : Hid (∀ w' : World, Kept w 35 w.heap.size #[.int .i64 kind, .int .u64 hd, .slice A n c, .string s] none 0 [] w' → w'.cell? ⟨w.heap.size, 0, none⟩ = some (.int .i64 kind) ∧ w'.cell? ⟨w.heap.size, 1, none⟩ = some (.int .u64 hd) ∧ w'.cell? ⟨w.heap.size, 2, none⟩ = some (.slice A n c) ∧ w'.cell? ⟨w.heap.size, 3, none⟩ = some (.string s)) :=
    Lib.hid fun w' h => ⟨h.1.cell 0, h.1.cell 1, h.1.cell 2, h.1.cell 3⟩
  have hS0 := HS.out W hK
  have hw8 : IntKind.u8.wrap (n : Int) = (x.toNat : Int) := by have := HXN.out; have := u8_lt x; rw [IntKind.wrap_u8]; omega
  have hv8 : IntKind.u8.wrap kind = (y.toNat : Int) := by have := HYN.out; have := u8_lt y; rw [IntKind.wrap_u8]; omega
  have hsz : w.heap.size ≤ W.heap.size := hK.2.2.size
  have eh := enc_le hd
  have HK := Lib.hid hK
  have hh1 : ∀ z ∈ [hd], z < 18446744073709551616 := by simpa using hh
  have HC1 := Lib.hid (counts_hold2 (w := w) (.slice (some ⟨W.heap.size, 0, none⟩) 1 1) [y] (W.heap.size + 1) 1 1 [hd] ((hK.alloc (.cells #[.int .u8 (y.toNat : Int)] 5)).alloc (.cells #[.int .u64 (hd : Int)] 22)).drew (by decide) ((OwnB.built' 5 W w.heap.size W.heap.size #[.int .u8 (y.toNat : Int)] [y] (by first | exact hsz | (simp; omega)) rfl (by simp) rfl).alloc (.cells #[.int .u64 (hd : Int)] 22)).drew (Blk.new' (W.alloc (.cells #[.int .u8 (y.toNat : Int)] 5)) 22 (W.heap.size + 1) #[.int .u64 (hd : Int)] (by simp)).drew rfl hh1 (by simp) (by simp))
  have HC2 := Lib.hid (counts_hold2 (w := w) (.slice (some ⟨(W.heap.size + 1), 0, none⟩) 1 1) [y] W.heap.size 1 1 [hd] ((hK.alloc (.cells #[.int .u64 (hd : Int)] 22)).alloc (.cells #[.int .u8 (y.toNat : Int)] 5)).drew (by decide) (OwnB.built' 5 (W.alloc (.cells #[.int .u64 (hd : Int)] 22)) w.heap.size (W.heap.size + 1) #[.int .u8 (y.toNat : Int)] [y] (by first | exact hsz | (simp; omega)) (by simp) (by simp) rfl).drew ((Blk.new' W 22 W.heap.size #[.int .u64 (hd : Int)] rfl).alloc (.cells #[.int .u8 (y.toNat : Int)] 5)).drew rfl hh1 (by simp) (by simp))
  have HC3 := Lib.hid (counts_hold2 (w := w) (.slice (some ⟨W.heap.size, 0, none⟩) 1 1) [y] (W.heap.size + 1) 1 1 [hd] (((hK.alloc (.cells #[.int .u8 (y.toNat : Int)] 5)).alloc (.cells #[.int .u64 (hd : Int)] 22)).alloc (.cells #[.int .u8 (x.toNat : Int)] 5)).drew (by decide) (((OwnB.built' 5 W w.heap.size W.heap.size #[.int .u8 (y.toNat : Int)] [y] (by first | exact hsz | (simp; omega)) rfl (by simp) rfl).alloc (.cells #[.int .u64 (hd : Int)] 22)).alloc (.cells #[.int .u8 (x.toNat : Int)] 5)).drew ((Blk.new' (W.alloc (.cells #[.int .u8 (y.toNat : Int)] 5)) 22 (W.heap.size + 1) #[.int .u64 (hd : Int)] (by simp)).alloc (.cells #[.int .u8 (x.toNat : Int)] 5)).drew rfl hh1 (by simp) (by simp))
  have HB3 := Lib.hid (Blk.new' ((W.alloc (.cells #[.int .u8 (y.toNat : Int)] 5)).alloc (.cells #[.int .u64 (hd : Int)] 22)) 5 (W.heap.size + 1 + 1) #[.int .u8 (x.toNat : Int)] (by simp)).drew
  have HC4 := Lib.hid (counts_hold2 (w := w) (.slice (some ⟨W.heap.size, 0, none⟩) 1 1) [y] (W.heap.size + 1 + 1) 1 1 [hd] (((hK.alloc (.cells #[.int .u8 (y.toNat : Int)] 5)).alloc (.cells #[.int .u8 (x.toNat : Int)] 5)).alloc (.cells #[.int .u64 (hd : Int)] 22)).drew (by decide) (((OwnB.built' 5 W w.heap.size W.heap.size #[.int .u8 (y.toNat : Int)] [y] (by first | exact hsz | (simp; omega)) rfl (by simp) rfl).alloc (.cells #[.int .u8 (x.toNat : Int)] 5)).alloc (.cells #[.int .u64 (hd : Int)] 22)).drew (Blk.new' ((W.alloc (.cells #[.int .u8 (y.toNat : Int)] 5)).alloc (.cells #[.int .u8 (x.toNat : Int)] 5)) 22 (W.heap.size + 1 + 1) #[.int .u64 (hd : Int)] (by simp)).drew rfl hh1 (by simp) (by simp))
  have HB4 := Lib.hid ((Blk.new' (W.alloc (.cells #[.int .u8 (y.toNat : Int)] 5)) 5 (W.heap.size + 1) #[.int .u8 (x.toNat : Int)] (by simp)).alloc (.cells #[.int .u64 (hd : Int)] 22)).drew
  have HC5 := Lib.hid (counts_hold2 (w := w) (.slice (some ⟨(W.heap.size + 1), 0, none⟩) 1 1) [y] W.heap.size 1 1 [hd] (((hK.alloc (.cells #[.int .u64 (hd : Int)] 22)).alloc (.cells #[.int .u8 (y.toNat : Int)] 5)).alloc (.cells #[.int .u8 (x.toNat : Int)] 5)).drew (by decide) ((OwnB.built' 5 (W.alloc (.cells #[.int .u64 (hd : Int)] 22)) w.heap.size (W.heap.size + 1) #[.int .u8 (y.toNat : Int)] [y] (by first | exact hsz | (simp; omega)) (by simp) (by simp) rfl).alloc (.cells #[.int .u8 (x.toNat : Int)] 5)).drew (((Blk.new' W 22 W.heap.size #[.int .u64 (hd : Int)] rfl).alloc (.cells #[.int .u8 (y.toNat : Int)] 5)).alloc (.cells #[.int .u8 (x.toNat : Int)] 5)).drew rfl hh1 (by simp) (by simp))
  have HB5 := Lib.hid (Blk.new' ((W.alloc (.cells #[.int .u64 (hd : Int)] 22)).alloc (.cells #[.int .u8 (y.toNat : Int)] 5)) 5 (W.heap.size + 1 + 1) #[.int .u8 (x.toNat : Int)] (by simp)).drew
  have HC6 := Lib.hid (counts_hold2 (w := w) (.slice (some ⟨(W.heap.size + 1 + 1), 0, none⟩) 1 1) [y] W.heap.size 1 1 [hd] (((hK.alloc (.cells #[.int .u64 (hd : Int)] 22)).alloc (.cells #[.int .u8 (x.toNat : Int)] 5)).alloc (.cells #[.int .u8 (y.toNat : Int)] 5)).drew (by decide) (OwnB.built' 5 ((W.alloc (.cells #[.int .u64 (hd : Int)] 22)).alloc (.cells #[.int .u8 (x.toNat : Int)] 5)) w.heap.size (W.heap.size + 1 + 1) #[.int .u8 (y.toNat : Int)] [y] (by first | exact hsz | (simp; omega)) (by simp) (by simp) rfl).drew (((Blk.new' W 22 W.heap.size #[.int .u64 (hd : Int)] rfl).alloc (.cells #[.int .u8 (x.toNat : Int)] 5)).alloc (.cells #[.int .u8 (y.toNat : Int)] 5)).drew rfl hh1 (by simp) (by simp))
  have HB6 := Lib.hid ((Blk.new' (W.alloc (.cells #[.int .u64 (hd : Int)] 22)) 5 (W.heap.size + 1) #[.int .u8 (x.toNat : Int)] (by simp)).alloc (.cells #[.int .u8 (y.toNat : Int)] 5)).drew
  have HC7 := Lib.hid (counts_hold2 (w := w) (.slice (some ⟨(W.heap.size + 1), 0, none⟩) 1 1) [y] (W.heap.size + 1 + 1) 1 1 [hd] (((hK.alloc (.cells #[.int .u8 (x.toNat : Int)] 5)).alloc (.cells #[.int .u8 (y.toNat : Int)] 5)).alloc (.cells #[.int .u64 (hd : Int)] 22)).drew (by decide) ((OwnB.built' 5 (W.alloc (.cells #[.int .u8 (x.toNat : Int)] 5)) w.heap.size (W.heap.size + 1) #[.int .u8 (y.toNat : Int)] [y] (by first | exact hsz | (simp; omega)) (by simp) (by simp) rfl).alloc (.cells #[.int .u64 (hd : Int)] 22)).drew (Blk.new' ((W.alloc (.cells #[.int .u8 (x.toNat : Int)] 5)).alloc (.cells #[.int .u8 (y.toNat : Int)] 5)) 22 (W.heap.size + 1 + 1) #[.int .u64 (hd : Int)] (by simp)).drew rfl hh1 (by simp) (by simp))
  have HB7 := Lib.hid (((Blk.new' W 5 W.heap.size #[.int .u8 (x.toNat : Int)] rfl).alloc (.cells #[.int .u8 (y.toNat : Int)] 5)).alloc (.cells #[.int .u64 (hd : Int)] 22)).drew
  have HC8 := Lib.hid (counts_hold2 (w := w) (.slice (some ⟨(W.heap.size + 1 + 1), 0, none⟩) 1 1) [y] (W.heap.size + 1) 1 1 [hd] (((hK.alloc (.cells #[.int .u8 (x.toNat : Int)] 5)).alloc (.cells #[.int .u64 (hd : Int)] 22)).alloc (.cells #[.int .u8 (y.toNat : Int)] 5)).drew (by decide) (OwnB.built' 5 ((W.alloc (.cells #[.int .u8 (x.toNat : Int)] 5)).alloc (.cells #[.int .u64 (hd : Int)] 22)) w.heap.size (W.heap.size + 1 + 1) #[.int .u8 (y.toNat : Int)] [y] (by first | exact hsz | (simp; omega)) (by simp) (by simp) rfl).drew ((Blk.new' (W.alloc (.cells #[.int .u8 (x.toNat : Int)] 5)) 22 (W.heap.size + 1) #[.int .u64 (hd : Int)] (by simp)).alloc (.cells #[.int .u8 (y.toNat : Int)] 5)).drew rfl hh1 (by simp) (by simp))
  have HB8 := Lib.hid (((Blk.new' W 5 W.heap.size #[.int .u8 (x.toNat : Int)] rfl).alloc (.cells #[.int .u64 (hd : Int)] 22)).alloc (.cells #[.int .u8 (y.toNat : Int)] 5)).drew
  clear hK hh hh1
  go_cut [4] (fun v wx => OwnB 5 wx w.heap.size v ([y] ++ enc hd ++ [x]) ∧ Kept w 35 w.heap.size #[.int .i64 kind, .int .u64 hd, .slice A n c, .string s] none 0 [] wx)
  case first =>
    go_region_held3 (fun w' => w'.cell? ⟨w.heap.size, 0, none⟩ = some (.int .i64 kind) ∧ w'.cell? ⟨w.heap.size, 1, none⟩ = some (.int .u64 hd) ∧ w'.cell? ⟨w.heap.size, 2, none⟩ = some (.slice A n c) ∧ w'.cell? ⟨w.heap.size, 3, none⟩ = some (.string s))
      (first | exact HS.out _ hk2 | exact HS.out _ hk1 | exact HS.out _ (hk1.alloc _) | exact HS.out _ HK.out.drew | exact HS.out _ (Kept.alloc HK.out _).drew | exact HS.out _ (Kept.alloc (Kept.alloc HK.out _) _).drew | exact HS.out _ (Kept.alloc (Kept.alloc (Kept.alloc HK.out _) _) _).drew)
      (first | (refine step_app rfl (.tmp 34) (.tmp 39) 37 rfl w.heap.size 5 info5 Try.underlying37 _ ([y] ++ enc hd) rfl (hown1.alloc _) _ _ _ _ [x] rfl (Reads.built w1 5 [bv x]) (by simp; omega) (by have := hk1.2.2.size; simp; omega) ?_; intro v2 w2 hown2 happ2; have hk2 := (hk1.alloc _).app (hown1.alloc _) (by decide) happ2) | (refine step_app rfl (.tmp 34) (.tmp 39) 37 rfl w.heap.size 5 info5 Try.underlying37 _ ([y] ++ enc hd) rfl hown1 _ _ _ _ [x] rfl (Reads.of_blk (cs := [bv x]) (hold1 _ _ _ (by simp only [Value.ownBlock, ne_eq, Option.some.injEq]; omega) HB3.out)) (by simp; omega) hk1.2.2.size ?_; intro v2 w2 hown2 happ2; have hk2 := hk1.app hown1 (by decide) happ2) | (refine step_app rfl (.tmp 34) (.tmp 39) 37 rfl w.heap.size 5 info5 Try.underlying37 _ ([y] ++ enc hd) rfl hown1 _ _ _ _ [x] rfl (Reads.of_blk (cs := [bv x]) (hold1 _ _ _ (by simp only [Value.ownBlock, ne_eq, Option.some.injEq]; omega) HB4.out)) (by simp; omega) hk1.2.2.size ?_; intro v2 w2 hown2 happ2; have hk2 := hk1.app hown1 (by decide) happ2) | (refine step_app rfl (.tmp 34) (.tmp 39) 37 rfl w.heap.size 5 info5 Try.underlying37 _ ([y] ++ enc hd) rfl hown1 _ _ _ _ [x] rfl (Reads.of_blk (cs := [bv x]) (hold1 _ _ _ (by simp only [Value.ownBlock, ne_eq, Option.some.injEq]; omega) HB5.out)) (by simp; omega) hk1.2.2.size ?_; intro v2 w2 hown2 happ2; have hk2 := hk1.app hown1 (by decide) happ2) | (refine step_app rfl (.tmp 34) (.tmp 39) 37 rfl w.heap.size 5 info5 Try.underlying37 _ ([y] ++ enc hd) rfl hown1 _ _ _ _ [x] rfl (Reads.of_blk (cs := [bv x]) (hold1 _ _ _ (by simp only [Value.ownBlock, ne_eq, Option.some.injEq]; omega) HB6.out)) (by simp; omega) hk1.2.2.size ?_; intro v2 w2 hown2 happ2; have hk2 := hk1.app hown1 (by decide) happ2) | (refine step_app rfl (.tmp 34) (.tmp 39) 37 rfl w.heap.size 5 info5 Try.underlying37 _ ([y] ++ enc hd) rfl hown1 _ _ _ _ [x] rfl (Reads.of_blk (cs := [bv x]) (hold1 _ _ _ (by simp only [Value.ownBlock, ne_eq, Option.some.injEq]; omega) HB7.out)) (by simp; omega) hk1.2.2.size ?_; intro v2 w2 hown2 happ2; have hk2 := hk1.app hown1 (by decide) happ2) | (refine step_app rfl (.tmp 34) (.tmp 39) 37 rfl w.heap.size 5 info5 Try.underlying37 _ ([y] ++ enc hd) rfl hown1 _ _ _ _ [x] rfl (Reads.of_blk (cs := [bv x]) (hold1 _ _ _ (by simp only [Value.ownBlock, ne_eq, Option.some.injEq]; omega) HB8.out)) (by simp; omega) hk1.2.2.size ?_; intro v2 w2 hown2 happ2; have hk2 := hk1.app hown1 (by decide) happ2) | (go_at_call 73; ((with_reducible refine HC1.out.mono ?_); rintro e w1 ⟨v1, rfl, hown1, hk1, hold1⟩; rw [encs_one] at hown1)) | (go_at_call 73; ((with_reducible refine HC2.out.mono ?_); rintro e w1 ⟨v1, rfl, hown1, hk1, hold1⟩; rw [encs_one] at hown1)) | (go_at_call 73; ((with_reducible refine HC3.out.mono ?_); rintro e w1 ⟨v1, rfl, hown1, hk1, hold1⟩; rw [encs_one] at hown1)) | (go_at_call 73; ((with_reducible refine HC4.out.mono ?_); rintro e w1 ⟨v1, rfl, hown1, hk1, hold1⟩; rw [encs_one] at hown1)) | (go_at_call 73; ((with_reducible refine HC5.out.mono ?_); rintro e w1 ⟨v1, rfl, hown1, hk1, hold1⟩; rw [encs_one] at hown1)) | (go_at_call 73; ((with_reducible refine HC6.out.mono ?_); rintro e w1 ⟨v1, rfl, hown1, hk1, hold1⟩; rw [encs_one] at hown1)) | (go_at_call 73; ((with_reducible refine HC7.out.mono ?_); rintro e w1 ⟨v1, rfl, hown1, hk1, hold1⟩; rw [encs_one] at hown1)) | (go_at_call 73; ((with_reducible refine HC8.out.mono ?_); rintro e w1 ⟨v1, rfl, hown1, hk1, hold1⟩; rw [encs_one] at hown1)))
    all_goals (go_wp2_with fail; go_meet; exact ⟨hown2, hk2⟩)
  case rest =>
    obtain ⟨hown, hk⟩ := hcut
    clear HC1 HC2 HC3 HC4 HC5 HC6 HC7 HC8 HB3 HB4 HB5 HB6 HB7 HB8 eh hw8 hv8 hS0 HK hsz
    obtain ⟨s0, s1, s2, s3⟩ := HS.out _ hk
    obtain ⟨pre, HPRE⟩ : ∃ pre : List UInt8, Hid (pre = [y] ++ enc hd ++ [x]) := ⟨_, rfl⟩
    rw [← HPRE.out] at hown
    have hpl : pre.length ≤ 12 := by rw [HPRE.out]; have := enc_le hd; simp; omega
    go_wp2_with fail
    clear s0 s1 s2 s3
    go_loopw [4, 6, 44] (fun u _ i wr => ∃ k : Nat, k ≤ n ∧ i = .int .i64 k ∧ OwnB 5 wr w.heap.size u (pre ++ (ns.take k).flatMap numB) ∧ Kept w 35 w.heap.size #[.int .i64 kind, .int .u64 hd, .slice A n c, .string s] none 0 [] wr) (fun _ _ i _ => n - (intOf i).toNat)
    case atStart => exact ⟨0, Nat.zero_le _, rfl, by simpa using hown, hk⟩
    case round =>
      obtain ⟨k, hkn, rfl, hown, hk⟩ := hrel
      by_cases hlt : k < n
      · obtain ⟨ad, z, rfl, hb, hv, e1⟩ := RdI.at1 (Reads.below hr hk.2.2) hlt
        have HZ := Lib.hid (HU.out z (List.mem_of_getElem? hv))
        have hxl : (pre ++ (ns.take k).flatMap numB).length ≤ 1000 := by
          have := nums_le (ns.take k)
          have e := RdI.len hr
          rw [List.length_take] at this
          rw [List.length_append]
          omega
        have HXL := Lib.hid hxl
        have HTK := Lib.hid (nums_take ns k z hv)
        clear hv hxl
        have l1 : (0 : Int) ≤ (k : Int) := by omega
        have l2 : (k : Int) < (n : Int) := by omega
        go_wp2_with (go_at_call 74; ((with_reducible refine (zig_any z _ HZ.out).mono ?_); rintro e w2 ⟨rfl, rfl⟩))
        have HC := Lib.hid (counts_one _ _ wr.heap.size (zig z) hk (by decide) hown rfl (zig_lt HZ.out) (by have := HXL.out; omega))
        refine HC.out.mono ?_
        rintro e w3 ⟨v3, rfl, hown3, hk3, hh⟩
        clear HC hh
        go_wp2_with fail
        go_roundw
        case rel => exact ⟨k + 1, by omega, by go_num, by rw [HTK.out]; simpa [numB] using hown3, hk3⟩
        case measure => simp [intOf]; omega
      · go_wp2_with fail
        obtain rfl : k = n := by omega
        have e0 := RdI.len hr
        have HVN : Hid (ns.take k = ns) := Lib.hid (List.take_of_length_le (by omega))
        rw [HVN.out] at hown
        have hxl : (pre ++ ns.flatMap numB).length ≤ 1000 := by
          have := nums_le ns
          rw [List.length_append]
          omega
        have HXL := Lib.hid hxl
        have HLV := Lib.hid e0
        clear hxl e0
        generalize HBB : pre ++ ns.flatMap numB = bb at hown HXL
        have HBBH := Lib.hid HBB
        clear HBB
        have hS0 := HS.out _ hk
        have hC2 : Calls Try.prog 73 #[u4, .slice (some ⟨wr.heap.size, 0, none⟩) 1 1] ((wr.alloc (.cells #[.int .u64 (s.size : Int)] 22)).drew) (HoldPost w 35 w.heap.size #[.int .i64 kind, .int .u64 hd, .slice A k c, .string s] wr (bb ++ enc s.size)) :=
          (counts_hold (w := w) _ bb wr.heap.size 1 1 [s.size] ((hk.alloc _).drew) (by decide) ((hown.alloc _).drew) ((Blk.new' wr 22 _ #[.int .u64 (s.size : Int)] rfl).drew) rfl (by simp; omega) (by simp) (by have := HXL.out; omega)).mono fun _ _ ⟨v1, he, ho, hk, hh⟩ =>
            ⟨v1, he, by simpa [encs] using ho, hk, fun _ _ _ ht hb => hh _ _ _ ht (hb.alloc _).drew⟩
        have HC2 := Lib.hid hC2
        clear hC2
        have hsw : IntKind.u64.wrap (s.size : Int) = (s.size : Int) := by rw [IntKind.wrap_u64]; omega
        go_cut [4] (fun v wx => OwnB 5 wx w.heap.size v (bb ++ enc s.size ++ s.data.toList) ∧ Kept w 35 w.heap.size #[.int .i64 kind, .int .u64 hd, .slice A k c, .string s] none 0 [] wx)
        case first =>
          go_region_held3 (fun w' => w'.cell? ⟨w.heap.size, 0, none⟩ = some (.int .i64 kind) ∧ w'.cell? ⟨w.heap.size, 1, none⟩ = some (.int .u64 hd) ∧ w'.cell? ⟨w.heap.size, 2, none⟩ = some (.slice A k c) ∧ w'.cell? ⟨w.heap.size, 3, none⟩ = some (.string s))
            (first | go_keep | exact HS.out _ hk2 | exact HS.out _ hk1)
            (first | (refine step_app_str rfl (.tmp 60) (.tmp 62) 37 9 rfl w.heap.size 5 info5 Try.underlying37 Try.underlying9 _ (bb ++ enc s.size) rfl hown1 s rfl (by have := HXL.out; have := enc_le s.size; simp; omega) hk1.2.2.size ?_; intro v2 w2 hown2 happ2; have hk2 := hk1.grw hown1 (by decide) happ2) | (go_at_call 73; ((with_reducible refine HC2.out.mono ?_); rintro e w1 ⟨v1, rfl, hown1, hk1, hh1⟩)))
          all_goals (go_wp2_with fail; go_meet; exact ⟨hown2, hk2⟩)
        case rest =>
          obtain ⟨hown, hk⟩ := hcut
          have hrb : bb ++ enc s.size ++ s.data.toList = cmdB kind hd ns s.data.toList := by
            rw [← HBBH.out, HPRE.out, HX.out, HY.out, ← HLV.out]
            have : s.data.toList.length = s.size := by rw [Array.length_toList]; rfl
            simp [cmdB, this]
          rw [hrb] at hown
          generalize hR : cmdB kind hd ns s.data.toList = R at hown
          have HR := Lib.hid hR
          have HTL : Hid (s.data.toList.length = s.size) := Lib.hid (by rw [Array.length_toList]; rfl)
          have hbw := hk.2.2
          obtain ⟨A4, c4, rfl, hc4⟩ := hown.form
          clear hR hrb hc4 HC2 hS0 hsw
          by_cases h1024 : R.length ≤ 1024
          · have d5 : decide ((1024 : Int) < (R.length : Int)) = false := by simp; omega
            have HG : Hid (goodC kind hd ns s.data.toList) := Lib.hid ⟨HKR.out.1, HKR.out.2, by rw [HLV.out]; exact hn, by rw [HTL.out]; exact ht, by rw [HR.out]; exact h1024⟩
            go_wp2_with fail
            go_ret2
            exact ⟨hbw, .inl ⟨HG.out, _, rfl, by rw [HR.out]; exact hown⟩⟩
          · have d5 : decide ((1024 : Int) < (R.length : Int)) = true := by simp; omega
            have HG : Hid (¬ goodC kind hd ns s.data.toList) := Lib.hid fun h => by have := h.2.2.2.2; rw [HR.out] at this; omega
            go_wp2_with fail
            go_ret2
            exact ⟨hbw, .inr ⟨HG.out, rfl⟩⟩

/-- PutCommand, whatever the command -/
theorem putc_any (kind : Int) (hd : Nat) (A : Option Addr) (n c : Nat) (ns : List Int) (s : ByteArray) (w : World) (hh : hd < 18446744073709551616) (hr : RdI w w.heap.size A n ns) (hu : ∀ z ∈ ns, I64 z) :
    Calls Try.prog 50 #[.agg #[.int .i64 kind, .int .u64 hd, .slice A n c, .string s]] w (PutPost w (goodC kind hd ns s.data.toList) (cmdB kind hd ns s.data.toList)) := by
  have hl := RdI.len hr
  have htl : s.data.toList.length = s.size := by rw [Array.length_toList]; rfl
  by_cases h : 1 ≤ kind ∧ kind ≤ 23 ∧ n ≤ 32 ∧ s.size ≤ 512
  · exact putc_main kind hd A n c ns s w h.1 h.2.1 hh hr h.2.2.1 h.2.2.2 hu
  · refine (putc_long kind hd A n c s w h).mono ?_
    rintro e w1 ⟨rfl, o, rfl⟩
    refine ⟨(Below.refl _ _).alloc (Nat.le_refl _) _, .inr ⟨fun g => h ⟨g.1, g.2.1, ?_, ?_⟩, rfl⟩⟩
    · have := g.2.2.1; omega
    · have := g.2.2.2.1; omega
end Go.Proofs.Ytjhkfpemcplaaaa
namespace Go.Proofs.Ytjhkfpemcplaaaa
open Go.RowKit

def RCPost (w : World) (T g : Nat) (cs : Array Value) (W : World) (acc : Value) (xs : List UInt8) (m : Nat) (e : Ending) (w1 : World) : Prop :=
  ∃ v, e = .returned v ∧ OwnB 5 w1 w.heap.size v (enc m) ∧ OwnB 5 w1 w.heap.size acc xs ∧ Kept w T g cs none 0 [] w1 ∧ (∀ k t ds, Blk W k t ds → Blk w1 k t ds)
theorem rcnt_keep {w W : World} {T g : Nat} {cs : Array Value} (acc : Value) (xs : List UInt8) (m : Nat) (h : Kept w T g cs none 0 [] W) (hT : 5 ≠ T) (ho : OwnB 5 W w.heap.size acc xs) (hm : m < 18446744073709551616) :
    Calls Try.prog 41 #[.int .u64 (m : Int)] W (RCPost w T g cs W acc xs m) :=
  (rcount_any w.heap.size m W h.2.2.size hm).mono fun _ _ ⟨v1, he, hv, ha⟩ => ⟨v1, he, hv, ho.fresh ha, h.app (OwnB.nil 5 W w.heap.size) hT ha, fun _ _ _ hb => ha.blk hb (by simp [Value.ownBlock])⟩
/-- what the document's Put ends with -/
def RPutPost (w : World) (good : Prop) (bytes : List UInt8) (e : Ending) (w' : World) : Prop :=
  Below w.heap.size w w' ∧ ((good ∧ ∃ v, e = .returned (.tuple #[v, .bool true]) ∧ OwnB 5 w' w.heap.size v bytes) ∨ (¬ good ∧ ∃ A n c, e = .returned (.tuple #[.slice A n c, .bool false])))

set_option maxRecDepth 20000 in
set_option maxHeartbeats 2000000 in
theorem rputr_long (err : Int) (A : Option Addr) (n c : Nat) (s : ByteArray) (w : World) (h : 32 < n ∨ 512 < s.size) :
    Calls Try.prog 18 #[.agg #[.int .i64 err, .slice A n c, .string s]] w fun e w' => e = .returned (.tuple #[.slice none 0 0, .bool false]) ∧ ∃ o, w.alloc o = w' := by
  by_cases h1 : 32 < n
  · have d : decide ((32 : Int) < (n : Int)) = true := by simp; omega
    clear h
    go_enter Try.func18, Try.ntmps18
    go_wp2
    go_ret2
    exact ⟨rfl, _, rfl⟩
  · have d : decide ((32 : Int) < (n : Int)) = false := by simp; omega
    have d2 : decide ((512 : Int) < (s.size : Int)) = true := by simp; omega
    clear h
    go_enter Try.func18, Try.ntmps18
    go_wp2
    go_ret2
    exact ⟨rfl, _, rfl⟩

set_option maxRecDepth 20000 in
set_option maxHeartbeats 4000000 in
theorem rputr_main (err : Int) (A : Option Addr) (n c : Nat) (vs : List (Nat × Int)) (s : ByteArray) (w : World) (he : I64 err) (hr : RdV w w.heap.size A n vs) (hn : n ≤ 32) (ht : s.size ≤ 512)
    (hu : ∀ v ∈ vs, v.1 < 18446744073709551616 ∧ I64 v.2) :
    Calls Try.prog 18 #[.agg #[.int .i64 err, .slice A n c, .string s]] w (RPutPost w (goodR err vs s.data.toList) (replyB err vs s.data.toList)) := by
  obtain ⟨x, HX⟩ : ∃ x : UInt8, Hid (x = UInt8.ofNat n) := ⟨_, rfl⟩
  have hx8 : (n : Int) = (x.toNat : Int) := by rw [HX.out]; simp only [UInt8.toNat_ofNat']; omega
  have HXN := Lib.hid hx8
  clear hx8
  have hK : Kept w 53 w.heap.size #[.int .i64 err, .slice A n c, .string s] none 0 [] (w.alloc (.cells #[.int .i64 err, .slice A n c, .string s] 53)) :=
    ⟨Blk.new w _ _, Reads.none_, (Below.refl _ _).alloc (Nat.le_refl _) _⟩
  have d : decide ((32 : Int) < (n : Int)) = false := by simp; omega
  have d2 : decide ((512 : Int) < (s.size : Int)) = false := by simp; omega
  have HE := Lib.hid he
  have HU := Lib.hid hu
  clear he hu
  go_enter Try.func18, Try.ntmps18
  go_upto_region 3 with fail
  generalize (w.alloc (.cells #[.int .i64 err, .slice A n c, .string s] 53)) = W at hK ⊢
  have HS : Hid (∀ w' : World, Kept w 53 w.heap.size #[.int .i64 err, .slice A n c, .string s] none 0 [] w' → w'.cell? ⟨w.heap.size, 0, none⟩ = some (.int .i64 err) ∧ w'.cell? ⟨w.heap.size, 1, none⟩ = some (.slice A n c) ∧ w'.cell? ⟨w.heap.size, 2, none⟩ = some (.string s)) :=
    Lib.hid fun w' h => ⟨h.1.cell 0, h.1.cell 1, h.1.cell 2⟩
  have hS0 := HS.out W hK
  have hz : zig err < 18446744073709551616 := zig_lt HE.out
  have HC1 := Lib.hid (rcnt_keep (.slice none 0 0) [] (zig err) hK.drew (by decide) (OwnB.nil 5 _ _) hz)
  have HC2 := Lib.hid (rcnt_keep (.slice none 0 0) [] (zig err) ((hK.alloc (.cells #[.int .u8 (x.toNat : Int)] 5)).drew) (by decide) (OwnB.nil 5 _ _) hz)
  have B2 := Lib.hid ((Blk.new' W 5 _ #[.int .u8 (x.toNat : Int)] rfl).drew)
  have ele : (enc (zig err)).length ≤ 10 := enc_le _
  have hw8 : IntKind.u8.wrap (n : Int) = (x.toNat : Int) := by have := HXN.out; have := u8_lt x; rw [IntKind.wrap_u8]; omega
  clear hz hK
  go_cut [4] (fun v wx => OwnB 5 wx w.heap.size v (enc (zig err) ++ [x]) ∧ Kept w 53 w.heap.size #[.int .i64 err, .slice A n c, .string s] none 0 [] wx)
  case first =>
    go_region_held3 (fun w' => w'.cell? ⟨w.heap.size, 0, none⟩ = some (.int .i64 err) ∧ w'.cell? ⟨w.heap.size, 1, none⟩ = some (.slice A n c) ∧ w'.cell? ⟨w.heap.size, 2, none⟩ = some (.string s))
      (first | go_keep | exact HS.out _ hk2 | exact HS.out _ hk1)
      (first | (refine step_app rfl (.tmp 20) (.tmp 25) 37 rfl w.heap.size 5 info5 Try.underlying37 _ (enc (zig err)) rfl (hown1.alloc _) _ _ _ _ [x] rfl (Reads.built w1 5 [bv x]) (by simp; omega) (by have := hk1.2.2.size; simp; omega) ?_; intro v2 w2 hown2 happ2; have hk2 := (hk1.alloc _).app (hown1.alloc _) (by decide) happ2) | (refine step_app rfl (.tmp 20) (.tmp 25) 37 rfl w.heap.size 5 info5 Try.underlying37 _ (enc (zig err)) rfl hown1 _ _ _ _ [x] rfl (Reads.of_blk (cs := [bv x]) (hold1 _ _ _ B2.out)) (by simp; omega) hk1.2.2.size ?_; intro v2 w2 hown2 happ2; have hk2 := hk1.app hown1 (by decide) happ2) | (go_at_call 42; ((with_reducible refine (rzig_any err _ HE.out).mono ?_); rintro e w1 ⟨rfl, rfl⟩)) | (go_at_call 41; ((with_reducible refine HC1.out.mono ?_); rintro e w1 ⟨v1, rfl, hown1, -, hk1, hold1⟩)) | (go_at_call 41; ((with_reducible refine HC2.out.mono ?_); rintro e w1 ⟨v1, rfl, hown1, -, hk1, hold1⟩)))
    all_goals (go_wp2_with fail; go_meet; exact ⟨hown2, hk2⟩)
  case rest =>
    obtain ⟨hown, hk⟩ := hcut
    clear HC1 HC2 B2 ele hw8 hS0
    obtain ⟨s0, s1, s2⟩ := HS.out _ hk
    obtain ⟨pre, HPRE⟩ : ∃ pre : List UInt8, Hid (pre = enc (zig err) ++ [x]) := ⟨_, rfl⟩
    rw [← HPRE.out] at hown
    have hpl : pre.length ≤ 11 := by rw [HPRE.out]; have := enc_le (zig err); simp; omega
    go_wp2_with fail
    clear s0 s1 s2
    go_loopw [4, 6, 30] (fun u _ i wr => ∃ k : Nat, k ≤ n ∧ i = .int .i64 k ∧ OwnB 5 wr w.heap.size u (pre ++ (vs.take k).flatMap valB) ∧ Kept w 53 w.heap.size #[.int .i64 err, .slice A n c, .string s] none 0 [] wr ∧ Hid (okV (vs.take k))) (fun _ _ i _ => n - (intOf i).toNat)
    case atStart => exact ⟨0, Nat.zero_le _, rfl, by simpa using hown, hk, Lib.hid (by intro v hv; simp at hv)⟩
    case round =>
      obtain ⟨k, hkn, rfl, hown, hk, HOK⟩ := hrel
      by_cases hlt : k < n
      · obtain ⟨b, off, v, rfl, hb, hv, e1, e2⟩ := RdV.at2 (Reads.below hr hk.2.2) hlt
        have HV := Lib.hid hv
        obtain ⟨hv1, hv2⟩ := HU.out v (List.mem_of_getElem? hv)
        have HV1 := Lib.hid hv1
        have HV2 := Lib.hid hv2
        have hxl : (pre ++ (vs.take k).flatMap valB).length ≤ 1000 := by
          have := vals_le (vs.take k)
          have e := RdV.len hr
          rw [List.length_take] at this
          rw [List.length_append]
          omega
        have HXL := Lib.hid hxl
        have HTK := Lib.hid (vals_take vs k v hv)
        clear hv hv1 hv2 hxl
        go_upto_region 7 with fail
        have hbv := Blk.new wr 68 #[.int .u64 (v.1 : Int), .int .i64 v.2]
        have hk1 := hk.alloc (.cells #[.int .u64 (v.1 : Int), .int .i64 v.2] 68)
        have hown1 := hown.alloc (.cells #[.int .u64 (v.1 : Int), .int .i64 v.2] 68)
        generalize wr.alloc (.cells #[.int .u64 (v.1 : Int), .int .i64 v.2] 68) = W1 at hbv hk1 hown1 ⊢
        clear hk hown e1 e2
        have e1 := hbv.cell 0
        have e2 := hbv.cell 1
        simp at e1 e2
        have HC := Lib.hid (rcnt_keep _ _ v.1 hk1 (by decide) hown1 HV1.out)
        by_cases h0 : v.1 = 0
        · have t0 : ((v.1 : Int) == 0) = true := by rw [beq_iff_eq]; omega
          have t1 : ((v.1 : Int) != 0) = false := by rw [bne_eq_false_iff_eq]; omega
          have HVB : Hid (valB v = enc v.1 ++ enc (zig v.2)) := Lib.hid (by unfold valB; rw [if_pos h0])
          have HOK2 : Hid (okV (vs.take (k + 1))) := Lib.hid (okV_take HV.out HOK.out (.inl h0))
          clear h0
          go_wp2_with fail
          refine HC.out.mono ?_
          rintro e w1 ⟨v1, rfl, hnew, hacc, hk2, hh⟩
          obtain ⟨A1, c1, rfl, -⟩ := hnew.form
          have hbv2 := hh _ _ _ hbv
          clear HC hh hbv hk1 hown1 e1 e2
          have hac2 := hacc
          go_wp2_with (at_builtin; refine wpList_app rfl _ _ _ rfl w.heap.size 5 info5 Try.underlying37 _ _ rfl hacc _ _ _ _ _ rfl (OwnB.reads hnew rfl) (by have := HXL.out; have := enc_le v.1; omega) hk2.2.2.size ?_; intro v2 w2 hown2 happ2; have hk3 := hk2.app hacc (by decide) happ2; have hbv3 := happ2.blk hbv2 (own_blk_ne hacc hbv2 (by decide)); have e1 := hbv3.cell 0; have e2 := hbv3.cell 1; simp at e1 e2)
          have HZ := Lib.hid (rzig_any v.2 w2 HV2.out)
          refine HZ.out.mono ?_
          rintro e w3 ⟨rfl, rfl⟩
          have HC2 := Lib.hid (rcnt_keep _ _ (zig v.2) hk3 (by decide) hown2 (zig_lt HV2.out))
          clear hac2 hacc hnew happ2 HZ
          go_wp2_with fail
          refine HC2.out.mono ?_
          rintro e w4 ⟨v4, rfl, hnew, hacc, hk4, -⟩
          obtain ⟨A4, c4, rfl, -⟩ := hnew.form
          clear HC2 hown2 hk3
          go_wp2_with (at_builtin; refine wpList_app rfl _ _ _ rfl w.heap.size 5 info5 Try.underlying37 _ _ rfl hacc _ _ _ _ _ rfl (OwnB.reads hnew rfl) (by have := HXL.out; have := enc_le v.1; have := enc_le (zig v.2); rw [List.length_append]; omega) hk4.2.2.size ?_; intro v5 w5 hown5 happ5; have hk5 := hk4.app hacc (by decide) happ5)
          go_roundw
          case rel => exact ⟨k + 1, by omega, by go_num, by rw [HTK.out, HVB.out]; simpa using hown5, hk5, HOK2⟩
          case measure => simp [intOf]; omega
        · have t0 : ((v.1 : Int) == 0) = false := by rw [beq_eq_false_iff_ne]; omega
          have t1 : ((v.1 : Int) != 0) = true := by rw [bne_iff_ne]; omega
          by_cases h2 : v.2 = 0
          · have t2 : (v.2 != 0) = false := by rw [bne_eq_false_iff_eq]; exact h2
            have HVB : Hid (valB v = enc v.1) := Lib.hid (by unfold valB; rw [if_neg h0]; simp)
            have HOK2 : Hid (okV (vs.take (k + 1))) := Lib.hid (okV_take HV.out HOK.out (.inr h2))
            clear h0 h2
            go_wp2_with fail
            refine HC.out.mono ?_
            rintro e w1 ⟨v1, rfl, hnew, hacc, hk2, hh⟩
            obtain ⟨A1, c1, rfl, -⟩ := hnew.form
            have hbv2 := hh _ _ _ hbv
            clear HC hh hbv hk1 hown1 e1 e2
            go_wp2_with (at_builtin; refine wpList_app rfl _ _ _ rfl w.heap.size 5 info5 Try.underlying37 _ _ rfl hacc _ _ _ _ _ rfl (OwnB.reads hnew rfl) (by have := HXL.out; have := enc_le v.1; omega) hk2.2.2.size ?_; intro v2 w2 hown2 happ2; have hk3 := hk2.app hacc (by decide) happ2; have hbv3 := happ2.blk hbv2 (own_blk_ne hacc hbv2 (by decide)); have e1 := hbv3.cell 0; have e2 := hbv3.cell 1; simp at e1 e2)
            go_roundw
            case rel => exact ⟨k + 1, by omega, by go_num, by rw [HTK.out, HVB.out]; simpa using hown2, hk3, HOK2⟩
            case measure => simp [intOf]; omega
          · have t2 : (v.2 != 0) = true := by rw [bne_iff_ne]; exact h2
            have hbad : ¬ okV vs := fun h => by
              rcases h v (List.mem_of_getElem? HV.out) with q | q
              · exact h0 q
              · exact h2 q
            have HB := Lib.hid hbad
            clear h0 h2 hbad
            have hbw := hk1.2.2
            go_wp2_with fail
            go_ret2
            exact ⟨hbw, .inr ⟨fun h => HB.out h.2.2.1, _, _, _, rfl⟩⟩
      · go_wp2_with fail
        obtain rfl : k = n := by omega
        have e0 := RdV.len hr
        have HVN : Hid (vs.take k = vs) := Lib.hid (List.take_of_length_le (by omega))
        have hOK := HOK.out
        rw [HVN.out] at hown hOK
        have HOK2 := Lib.hid hOK
        have hxl : (pre ++ vs.flatMap valB).length ≤ 1000 := by
          have := vals_le vs
          rw [List.length_append]
          omega
        have HXL := Lib.hid hxl
        have HLV := Lib.hid e0
        clear hOK hxl HOK e0
        generalize HBB : pre ++ vs.flatMap valB = bb at hown HXL
        have HBBH := Lib.hid HBB
        clear HBB
        have hS0 := HS.out _ hk
        have HC := Lib.hid (rcnt_keep _ _ s.size hk.drew (by decide) hown.drew (by omega))
        have hsw : IntKind.u64.wrap (s.size : Int) = (s.size : Int) := by rw [IntKind.wrap_u64]; omega
        go_cut [4] (fun v wx => OwnB 5 wx w.heap.size v (bb ++ enc s.size ++ s.data.toList) ∧ Kept w 53 w.heap.size #[.int .i64 err, .slice A k c, .string s] none 0 [] wx)
        case first =>
          go_region_held3 (fun w' => w'.cell? ⟨w.heap.size, 0, none⟩ = some (.int .i64 err) ∧ w'.cell? ⟨w.heap.size, 1, none⟩ = some (.slice A k c) ∧ w'.cell? ⟨w.heap.size, 2, none⟩ = some (.string s))
            (first | go_keep | exact HS.out _ hk3 | exact HS.out _ hk2 | exact HS.out _ hk1)
            (first | (refine step_app_str rfl (.tmp 63) (.tmp 65) 37 9 rfl w.heap.size 5 info5 Try.underlying37 Try.underlying9 _ (bb ++ enc s.size) rfl hown2 s rfl (by have := HXL.out; have := enc_le s.size; simp; omega) hk2.2.2.size ?_; intro v3 w3 hown3 happ3; have hk3 := hk2.grw hown2 (by decide) happ3) | (refine step_app rfl (.tmp 57) (.tmp 62) 37 rfl w.heap.size 5 info5 Try.underlying37 _ bb rfl hacc1 _ A1 _ c1 (enc s.size) rfl (OwnB.reads hnew1 rfl) (by have := HXL.out; have := enc_le s.size; omega) hk1.2.2.size ?_; intro v2 w2 hown2 happ2; have hk2 := hk1.app hacc1 (by decide) happ2) | (go_at_call 41; ((with_reducible refine HC.out.mono ?_); rintro e w1 ⟨v1, rfl, hnew1, hacc1, hk1, -⟩; obtain ⟨A1, c1, rfl, hm1⟩ := hnew1.form; clear hm1)))
          all_goals (go_wp2_with fail; go_meet; exact ⟨hown3, hk3⟩)
        case rest =>
          obtain ⟨hown, hk⟩ := hcut
          have hrb : bb ++ enc s.size ++ s.data.toList = replyB err vs s.data.toList := by
            rw [← HBBH.out, HPRE.out, HX.out, ← HLV.out]
            have : s.data.toList.length = s.size := by rw [Array.length_toList]; rfl
            simp [replyB, this]
          rw [hrb] at hown
          generalize hR : replyB err vs s.data.toList = R at hown
          have HR := Lib.hid hR
          have HTL : Hid (s.data.toList.length = s.size) := Lib.hid (by rw [Array.length_toList]; rfl)
          have hbw := hk.2.2
          obtain ⟨A4, c4, rfl, hc4⟩ := hown.form
          clear hR hrb hc4 HC hS0 hsw
          by_cases h1024 : R.length ≤ 1024
          · have d3 : decide ((R.length : Int) ≤ 1024) = true := by simp; omega
            have HG : Hid (goodR err vs s.data.toList) := Lib.hid ⟨by rw [HLV.out]; exact hn, by rw [HTL.out]; exact ht, HOK2.out, by rw [HR.out]; exact h1024⟩
            go_wp2_with fail
            go_ret2
            exact ⟨hbw, .inl ⟨HG.out, _, rfl, by rw [HR.out]; exact hown⟩⟩
          · have d3 : decide ((R.length : Int) ≤ 1024) = false := by simp; omega
            have HG : Hid (¬ goodR err vs s.data.toList) := Lib.hid fun h => by have := h.2.2.2; rw [HR.out] at this; omega
            go_wp2_with fail
            go_ret2
            exact ⟨hbw, .inr ⟨HG.out, _, _, _, rfl⟩⟩

/-- the document's PutReply, whatever the reply -/
theorem rputr_any (err : Int) (A : Option Addr) (n c : Nat) (vs : List (Nat × Int)) (s : ByteArray) (w : World) (he : I64 err) (hr : RdV w w.heap.size A n vs)
    (hu : ∀ v ∈ vs, v.1 < 18446744073709551616 ∧ I64 v.2) :
    Calls Try.prog 18 #[.agg #[.int .i64 err, .slice A n c, .string s]] w (RPutPost w (goodR err vs s.data.toList) (replyB err vs s.data.toList)) := by
  have hl := RdV.len hr
  have htl : s.data.toList.length = s.size := by rw [Array.length_toList]; rfl
  by_cases h : 32 < n ∨ 512 < s.size
  · refine (rputr_long err A n c s w h).mono ?_
    rintro e w1 ⟨rfl, o, rfl⟩
    refine ⟨(Below.refl _ _).alloc (Nat.le_refl _) _, .inr ⟨fun g => ?_, _, _, _, rfl⟩⟩
    have h1 := g.1
    have h2 := g.2.1
    omega
  · exact rputr_main err A n c vs s w he hr (by omega) (by omega) hu
end Go.Proofs.Ytjhkfpemcplaaaa
namespace Go.Proofs.Ytjhkfpemcplaaaa
open Go.RowKit

set_option maxRecDepth 20000 in
set_option maxHeartbeats 2000000 in
theorem rputc_long (kind : Int) (hd : Nat) (A : Option Addr) (n c : Nat) (s : ByteArray) (w : World) (h : ¬ (1 ≤ kind ∧ kind ≤ 23 ∧ n ≤ 32 ∧ s.size ≤ 512)) :
    Calls Try.prog 14 #[.agg #[.int .i64 kind, .int .u64 hd, .slice A n c, .string s]] w fun e w' => e = .returned (.tuple #[.slice none 0 0, .bool false]) ∧ ∃ o, w.alloc o = w' := by
  by_cases h1 : kind < 1
  · have d1 : decide (kind < 1) = true := by simp; omega
    clear h
    go_enter Try.func14, Try.ntmps14
    go_wp2
    go_ret2
    exact ⟨rfl, _, rfl⟩
  · have d1 : decide (kind < 1) = false := by simp; omega
    by_cases h2 : 23 < kind
    · have d2 : decide (23 < kind) = true := by simp; omega
      clear h
      go_enter Try.func14, Try.ntmps14
      go_wp2
      go_ret2
      exact ⟨rfl, _, rfl⟩
    · have d2 : decide (23 < kind) = false := by simp; omega
      by_cases h3 : 32 < n
      · have d : decide ((32 : Int) < (n : Int)) = true := by simp; omega
        clear h
        go_enter Try.func14, Try.ntmps14
        go_wp2
        go_ret2
        exact ⟨rfl, _, rfl⟩
      · have d : decide ((32 : Int) < (n : Int)) = false := by simp; omega
        have h4 : 512 < s.size := by omega
        have d3 : decide ((512 : Int) < (s.size : Int)) = true := by simp; omega
        clear h
        go_enter Try.func14, Try.ntmps14
        go_wp2
        go_ret2
        exact ⟨rfl, _, rfl⟩

set_option maxRecDepth 20000 in
set_option maxHeartbeats 4000000 in
theorem rputc_main (kind : Int) (hd : Nat) (A : Option Addr) (n c : Nat) (ns : List Int) (s : ByteArray) (w : World) (hka : 1 ≤ kind) (hkb : kind ≤ 23) (hh : hd < 18446744073709551616) (hr : RdI w w.heap.size A n ns) (hn : n ≤ 32) (ht : s.size ≤ 512)
    (hu : ∀ z ∈ ns, I64 z) :
    Calls Try.prog 14 #[.agg #[.int .i64 kind, .int .u64 hd, .slice A n c, .string s]] w (RPutPost w (goodC kind hd ns s.data.toList) (cmdB kind hd ns s.data.toList)) := by
  obtain ⟨x, HX⟩ : ∃ x : UInt8, Hid (x = UInt8.ofNat n) := ⟨_, rfl⟩
  have hx8 : (n : Int) = (x.toNat : Int) := by rw [HX.out]; simp only [UInt8.toNat_ofNat']; omega
  have HXN := Lib.hid hx8
  obtain ⟨y, HY⟩ : ∃ x : UInt8, Hid (x = UInt8.ofNat kind.toNat) := ⟨_, rfl⟩
  have hy8 : kind = (y.toNat : Int) := by rw [HY.out]; simp only [UInt8.toNat_ofNat']; omega
  have HYN := Lib.hid hy8
  clear hx8 hy8
  have hK : Kept w 35 w.heap.size #[.int .i64 kind, .int .u64 hd, .slice A n c, .string s] none 0 [] (w.alloc (.cells #[.int .i64 kind, .int .u64 hd, .slice A n c, .string s] 35)) :=
    ⟨Blk.new w _ _, Reads.none_, (Below.refl _ _).alloc (Nat.le_refl _) _⟩
  have d1 : decide (kind < 1) = false := by simp; omega
  have d2 : decide (23 < kind) = false := by simp; omega
  have d : decide ((32 : Int) < (n : Int)) = false := by simp; omega
  have d3 : decide ((512 : Int) < (s.size : Int)) = false := by simp; omega
  have HU := Lib.hid hu
  have HKR := Lib.hid (And.intro hka hkb)
  have HH := Lib.hid hh
  clear hu
  go_enter Try.func14, Try.ntmps14
  go_upto_region 3 with fail
  generalize (w.alloc (.cells #[.int .i64 kind, .int .u64 hd, .slice A n c, .string s] 35)) = W at hK ⊢
  have HS : Hid (∀ w' : World, Kept w 35 w.heap.size #[.int .i64 kind, .int .u64 hd, .slice A n c, .string s] none 0 [] w' → w'.cell? ⟨w.heap.size, 0, none⟩ = some (.int .i64 kind) ∧ w'.cell? ⟨w.heap.size, 1, none⟩ = some (.int .u64 hd) ∧ w'.cell? ⟨w.heap.size, 2, none⟩ = some (.slice A n c) ∧ w'.cell? ⟨w.heap.size, 3, none⟩ = some (.string s)) :=
    Lib.hid fun w' h => ⟨h.1.cell 0, h.1.cell 1, h.1.cell 2, h.1.cell 3⟩
  have hS0 := HS.out W hK
  have hw8 : IntKind.u8.wrap (n : Int) = (x.toNat : Int) := by have := HXN.out; have := u8_lt x; rw [IntKind.wrap_u8]; omega
  have hv8 : IntKind.u8.wrap kind = (y.toNat : Int) := by have := HYN.out; have := u8_lt y; rw [IntKind.wrap_u8]; omega
  have hsz : w.heap.size ≤ W.heap.size := hK.2.2.size
  have eh := enc_le hd
  have HK := Lib.hid hK
  have HC1 := Lib.hid (rcnt_keep (.slice none 0 0) [] hd hK.drew (by decide) (OwnB.nil 5 _ _) hh)
  have HC2 := Lib.hid (rcnt_keep (.slice (some ⟨W.heap.size, 0, none⟩) 1 1) [y] hd ((hK.alloc (.cells #[.int .u8 (y.toNat : Int)] 5)).drew) (by decide) (OwnB.built' 5 W w.heap.size W.heap.size #[.int .u8 (y.toNat : Int)] [y] hsz rfl (by simp) rfl).drew hh)
  clear hK hh
  go_cut [4] (fun v wx => OwnB 5 wx w.heap.size v ([y] ++ enc hd) ∧ Kept w 35 w.heap.size #[.int .i64 kind, .int .u64 hd, .slice A n c, .string s] none 0 [] wx)
  case first =>
    go_region_held3 (fun w' => w'.cell? ⟨w.heap.size, 0, none⟩ = some (.int .i64 kind) ∧ w'.cell? ⟨w.heap.size, 1, none⟩ = some (.int .u64 hd) ∧ w'.cell? ⟨w.heap.size, 2, none⟩ = some (.slice A n c) ∧ w'.cell? ⟨w.heap.size, 3, none⟩ = some (.string s))
      (first | exact HS.out _ hk2 | exact HS.out _ hk1 | exact HS.out _ (hk1.alloc _) | exact HS.out _ HK.out.drew | exact HS.out _ (Kept.alloc HK.out _).drew)
      (first | (refine step_app rfl (.tmp 30) (.tmp 33) 37 rfl w.heap.size 5 info5 Try.underlying37 _ [y] rfl (OwnB.built' 5 w1 w.heap.size w1.heap.size #[.int .u8 (y.toNat : Int)] [y] hk1.2.2.size rfl (by simp) rfl) _ A1 _ c1 (enc hd) rfl (Reads.alloc (OwnB.reads hnew1 rfl) (Nat.le_refl _) _) (by simp; omega) (by have := hk1.2.2.size; simp; omega) ?_; intro v2 w2 hown2 happ2; have hk2 := (hk1.alloc _).app (OwnB.built' 5 w1 w.heap.size w1.heap.size #[.int .u8 (y.toNat : Int)] [y] hk1.2.2.size rfl (by simp) rfl) (by decide) happ2) | (refine step_app rfl (.tmp 30) (.tmp 33) 37 rfl w.heap.size 5 info5 Try.underlying37 _ [y] rfl hacc1 _ A1 _ c1 (enc hd) rfl (OwnB.reads hnew1 rfl) (by simp; omega) hk1.2.2.size ?_; intro v2 w2 hown2 happ2; have hk2 := hk1.app hacc1 (by decide) happ2) | (go_at_call 41; ((with_reducible refine HC1.out.mono ?_); rintro e w1 ⟨v1, rfl, hnew1, hacc1, hk1, -⟩; obtain ⟨A1, c1, rfl, hm1⟩ := hnew1.form; clear hm1)) | (go_at_call 41; ((with_reducible refine HC2.out.mono ?_); rintro e w1 ⟨v1, rfl, hnew1, hacc1, hk1, -⟩; obtain ⟨A1, c1, rfl, hm1⟩ := hnew1.form; clear hm1)))
    all_goals (go_wp2_with fail; go_meet; exact ⟨hown2, hk2⟩)
  case rest =>
    obtain ⟨hown, hk⟩ := hcut
    clear HC1 HC2
    clear hv8 hS0 HK hsz
    obtain ⟨s0, s1, s2, s3⟩ := HS.out _ hk
    have hol : ([y] ++ enc hd).length ≤ 11 := by simp; omega
    go_wp2_with (at_builtin; refine wpList_app rfl _ _ _ rfl w.heap.size 5 info5 Try.underlying37 _ ([y] ++ enc hd) rfl (hown.alloc _) _ _ _ _ [x] rfl (Reads.built wc 5 [bv x]) (by simp; omega) (by have := hk.2.2.size; simp; omega) ?_; intro v2 w2 hown2 happ2; have hk2 := (hk.alloc _).app (hown.alloc _) (by decide) happ2; clear s0 s1 s2 s3; obtain ⟨s0, s1, s2, s3⟩ := HS.out _ hk2)
    clear s0 s1 s2 s3 hown hk hw8 hol
    obtain ⟨pre, HPRE⟩ : ∃ pre : List UInt8, Hid (pre = [y] ++ enc hd ++ [x]) := ⟨_, rfl⟩
    rw [← HPRE.out] at hown2
    have hpl : pre.length ≤ 12 := by rw [HPRE.out]; simp; omega
    go_loopw [4, 6, 45] (fun u _ i wr => ∃ k : Nat, k ≤ n ∧ i = .int .i64 k ∧ OwnB 5 wr w.heap.size u (pre ++ (ns.take k).flatMap numB) ∧ Kept w 35 w.heap.size #[.int .i64 kind, .int .u64 hd, .slice A n c, .string s] none 0 [] wr) (fun _ _ i _ => n - (intOf i).toNat)
    case atStart => exact ⟨0, Nat.zero_le _, rfl, by simpa using hown2, hk2⟩
    case round =>
      obtain ⟨k, hkn, rfl, hown, hk⟩ := hrel
      clear hown2 hk2
      by_cases hlt : k < n
      · obtain ⟨ad, z, rfl, hb, hv, e1⟩ := RdI.at1 (Reads.below hr hk.2.2) hlt
        have HZ := Lib.hid (HU.out z (List.mem_of_getElem? hv))
        have hxl : (pre ++ (ns.take k).flatMap numB).length ≤ 1000 := by
          have := nums_le (ns.take k)
          have e := RdI.len hr
          rw [List.length_take] at this
          rw [List.length_append]
          omega
        have HXL := Lib.hid hxl
        have HTK := Lib.hid (nums_take ns k z hv)
        clear hv hxl
        have l1 : (0 : Int) ≤ (k : Int) := by omega
        have l2 : (k : Int) < (n : Int) := by omega
        go_wp2_with (go_at_call 42; ((with_reducible refine (rzig_any z _ HZ.out).mono ?_); rintro e w2 ⟨rfl, rfl⟩))
        have HC := Lib.hid (rcnt_keep _ _ (zig z) hk (by decide) hown (zig_lt HZ.out))
        refine HC.out.mono ?_
        rintro e w3 ⟨v3, rfl, hnew, hacc, hk3, -⟩
        obtain ⟨A1, c1, rfl, -⟩ := hnew.form
        clear HC hown hk
        go_wp2_with (at_builtin; refine wpList_app rfl _ _ _ rfl w.heap.size 5 info5 Try.underlying37 _ _ rfl hacc _ _ _ _ _ rfl (OwnB.reads hnew rfl) (by have := HXL.out; have := enc_le (zig z); omega) hk3.2.2.size ?_; intro v4 w4 hown4 happ4; have hk4 := hk3.app hacc (by decide) happ4)
        go_roundw
        case rel => exact ⟨k + 1, by omega, by go_num, by rw [HTK.out]; simpa [numB] using hown4, hk4⟩
        case measure => simp [intOf]; omega
      · go_wp2_with fail
        obtain rfl : k = n := by omega
        have e0 := RdI.len hr
        have HVN : Hid (ns.take k = ns) := Lib.hid (List.take_of_length_le (by omega))
        rw [HVN.out] at hown
        have hxl : (pre ++ ns.flatMap numB).length ≤ 1000 := by
          have := nums_le ns
          rw [List.length_append]
          omega
        have HXL := Lib.hid hxl
        have HLV := Lib.hid e0
        clear hxl e0
        generalize HBB : pre ++ ns.flatMap numB = bb at hown HXL
        have HBBH := Lib.hid HBB
        clear HBB
        have hS0 := HS.out _ hk
        have HC := Lib.hid (rcnt_keep _ _ s.size hk.drew (by decide) hown.drew (by omega))
        have hsw : IntKind.u64.wrap (s.size : Int) = (s.size : Int) := by rw [IntKind.wrap_u64]; omega
        go_cut [4] (fun v wx => OwnB 5 wx w.heap.size v (bb ++ enc s.size ++ s.data.toList) ∧ Kept w 35 w.heap.size #[.int .i64 kind, .int .u64 hd, .slice A k c, .string s] none 0 [] wx)
        case first =>
          go_region_held3 (fun w' => w'.cell? ⟨w.heap.size, 0, none⟩ = some (.int .i64 kind) ∧ w'.cell? ⟨w.heap.size, 1, none⟩ = some (.int .u64 hd) ∧ w'.cell? ⟨w.heap.size, 2, none⟩ = some (.slice A k c) ∧ w'.cell? ⟨w.heap.size, 3, none⟩ = some (.string s))
            (first | go_keep | exact HS.out _ hk3 | exact HS.out _ hk2 | exact HS.out _ hk1)
            (first | (refine step_app_str rfl (.tmp 61) (.tmp 63) 37 9 rfl w.heap.size 5 info5 Try.underlying37 Try.underlying9 _ (bb ++ enc s.size) rfl hown2 s rfl (by have := HXL.out; have := enc_le s.size; simp; omega) hk2.2.2.size ?_; intro v3 w3 hown3 happ3; have hk3 := hk2.grw hown2 (by decide) happ3) | (refine step_app rfl (.tmp 55) (.tmp 60) 37 rfl w.heap.size 5 info5 Try.underlying37 _ bb rfl hacc1 _ A1 _ c1 (enc s.size) rfl (OwnB.reads hnew1 rfl) (by have := HXL.out; have := enc_le s.size; omega) hk1.2.2.size ?_; intro v2 w2 hown2 happ2; have hk2 := hk1.app hacc1 (by decide) happ2) | (go_at_call 41; ((with_reducible refine HC.out.mono ?_); rintro e w1 ⟨v1, rfl, hnew1, hacc1, hk1, -⟩; obtain ⟨A1, c1, rfl, hm1⟩ := hnew1.form; clear hm1)))
          all_goals (go_wp2_with fail; go_meet; exact ⟨hown3, hk3⟩)
        case rest =>
          obtain ⟨hown, hk⟩ := hcut
          have hrb : bb ++ enc s.size ++ s.data.toList = cmdB kind hd ns s.data.toList := by
            rw [← HBBH.out, HPRE.out, HX.out, HY.out, ← HLV.out]
            have : s.data.toList.length = s.size := by rw [Array.length_toList]; rfl
            simp [cmdB, this]
          rw [hrb] at hown
          generalize hR : cmdB kind hd ns s.data.toList = R at hown
          have HR := Lib.hid hR
          have HTL : Hid (s.data.toList.length = s.size) := Lib.hid (by rw [Array.length_toList]; rfl)
          have hbw := hk.2.2
          obtain ⟨A4, c4, rfl, hc4⟩ := hown.form
          clear hR hrb hc4 HC hS0 hsw
          by_cases h1024 : R.length ≤ 1024
          · have d5 : decide ((R.length : Int) ≤ 1024) = true := by simp; omega
            have HG : Hid (goodC kind hd ns s.data.toList) := Lib.hid ⟨HKR.out.1, HKR.out.2, by rw [HLV.out]; exact hn, by rw [HTL.out]; exact ht, by rw [HR.out]; exact h1024⟩
            go_wp2_with fail
            go_ret2
            exact ⟨hbw, .inl ⟨HG.out, _, rfl, by rw [HR.out]; exact hown⟩⟩
          · have d5 : decide ((R.length : Int) ≤ 1024) = false := by simp; omega
            have HG : Hid (¬ goodC kind hd ns s.data.toList) := Lib.hid fun h => by have := h.2.2.2.2; rw [HR.out] at this; omega
            go_wp2_with fail
            go_ret2
            exact ⟨hbw, .inr ⟨HG.out, _, _, _, rfl⟩⟩

/-- the document's PutCommand, whatever the command -/
theorem rputc_any (kind : Int) (hd : Nat) (A : Option Addr) (n c : Nat) (ns : List Int) (s : ByteArray) (w : World) (hh : hd < 18446744073709551616) (hr : RdI w w.heap.size A n ns) (hu : ∀ z ∈ ns, I64 z) :
    Calls Try.prog 14 #[.agg #[.int .i64 kind, .int .u64 hd, .slice A n c, .string s]] w (RPutPost w (goodC kind hd ns s.data.toList) (cmdB kind hd ns s.data.toList)) := by
  have hl := RdI.len hr
  have htl : s.data.toList.length = s.size := by rw [Array.length_toList]; rfl
  by_cases h : 1 ≤ kind ∧ kind ≤ 23 ∧ n ≤ 32 ∧ s.size ≤ 512
  · exact rputc_main kind hd A n c ns s w h.1 h.2.1 hh hr h.2.2.1 h.2.2.2 hu
  · refine (rputc_long kind hd A n c s w h).mono ?_
    rintro e w1 ⟨rfl, o, rfl⟩
    refine ⟨(Below.refl _ _).alloc (Nat.le_refl _) _, .inr ⟨fun g => h ⟨g.1, g.2.1, ?_, ?_⟩, _, _, _, rfl⟩⟩
    · have := g.2.2.1; omega
    · have := g.2.2.2.1; omega
end Go.Proofs.Ytjhkfpemcplaaaa
