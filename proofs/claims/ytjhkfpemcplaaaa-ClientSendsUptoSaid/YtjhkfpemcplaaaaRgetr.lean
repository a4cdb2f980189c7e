/-
  Contract of the document's GetReply.
-/
import Derived.Test.YtjhkfpemcplaaaaGetr
namespace Go.Proofs.Ytjhkfpemcplaaaa
open Go.RowKit

theorem txtD_bad (l : List UInt8) : txtD l true = ([], l.tail, true) := by
  have h : cnt l true = (0, l.tail, true) := cntS_bad (f := 9) (i := 0) (n := 0) (l := l) (b := true) rfl
  unfold txtD
  rw [h]
  simp
set_option maxRecDepth 20000 in
set_option maxHeartbeats 4000000 in
theorem rgetr_any (A : Option Addr) (n c : Nat) (bs : List UInt8) (w : World) (hr : RdB w w.heap.size A n bs) (hc : n ≤ c) (hm : n ≤ 9223372036854775807) :
    Calls Try.prog 31 #[.slice A n c] w (GetRPost w ((repTD bs).2.2 = false ∧ (repTD bs).2.1 = [] ∧ n ≤ 1024 ∧ (repV bs).1.length ≤ 32) (unzig (cnt bs false).1) (repV bs).1 (repTD bs).1 (.bool true) (.bool false)) := by
  obtain ⟨good, HGOOD⟩ : ∃ good, Hid (((repTD bs).2.2 = false ∧ (repTD bs).2.1 = [] ∧ n ≤ 1024 ∧ (repV bs).1.length ≤ 32) = good) := ⟨_, rfl⟩
  rw [HGOOD.out]
  have HE : Hid (I64 (unzig (cnt bs false).1)) := Lib.hid (unzig_I64 (cnt_lt bs false))
  obtain ⟨err, HERR⟩ : ∃ e0, Hid (unzig (cnt bs false).1 = e0) := ⟨_, rfl⟩
  rw [HERR.out] at HE ⊢
  obtain ⟨vs, HVS⟩ : ∃ e0, Hid ((repV bs).1 = e0) := ⟨_, rfl⟩
  rw [HVS.out]
  obtain ⟨text, HTX⟩ : ∃ e0, Hid ((repTD bs).1 = e0) := ⟨_, rfl⟩
  rw [HTX.out]
  have HP := Lib.hid (GS.start (T := 110) (U := 53) #[.int .i64 0, .slice none 0 0, .string ⟨#[]⟩] hr hc hm)
  clear hr hc hm
  go_enter Try.func31, Try.ntmps31
  go_wp2_with fail
  have HS1 := Lib.hid (rsgn_any _ _ _ _ _ HP.out)
  refine HS1.out.mono ?_
  rintro e w1 ⟨he, hp1, hg1⟩
  rw [HERR.out] at he
  subst he
  have h0 : GS w 110 53 68 2 (w.heap.size + 1) w1.heap.size w.heap.size (cnt bs false).2.1 (cnt bs false).2.2 #[.int .i64 err, .slice none 0 0, .string ⟨#[]⟩] #[.int .i64 0, .slice none 0 0, .string ⟨#[]⟩] (.slice none 0 0) 0 (vcells []) (w1.alloc (.cells #[.int .i64 err, .slice none 0 0, .string ⟨#[]⟩] 53)) := by
    have hsz := hg1.size
    simp at hsz
    have hb1 : Below w.heap.size w w1 := (((Below.refl _ _).alloc (Nat.le_refl _) _).alloc (by simp) _).grown hg1 (by simp; omega) (fun k hk => by injection hk with hk; omega)
    refine ⟨hp1.grown (World.grownBy_alloc _ _ none) (fun k hk => by cases hk) (by simp), Blk.new _ _ _, ((Blk.new' w 53 w.heap.size _ rfl).alloc _).grown hg1 (by simp) |>.alloc _, World.ownsRow_nil _ _ _ _, hb1.alloc hb1.size _, hb1.size, Nat.le_refl _, by omega⟩
  clear hp1 hg1 HS1 HP
  go_upto_region 3 with fail
  generalize hW3 : (w1.alloc (.cells #[.int .i64 err, .slice none 0 0, .string ⟨#[]⟩] 53)) = W3 at h0 ⊢
  generalize w1.heap.size = G at h0 ⊢
  clear hW3 w1
  have HB := Lib.hid (rbyte_any _ _ _ _ _ h0.part)
  go_wp2_with fail
  refine HB.out.mono ?_
  rintro e w4 ⟨rfl, hp4, hg4⟩
  have h4 := h0.call (by decide) (by decide) hp4 hg4
  clear h0 hp4 hg4 HB
  have hx := byteV_lt (cnt bs false).2.1
  obtain ⟨nv, HNV⟩ : ∃ e0, Hid (byteV (cnt bs false).2.1 = e0) := ⟨_, rfl⟩
  rw [HNV.out] at hx ⊢
  obtain ⟨l0, HL0⟩ : ∃ e0, Hid ((cnt bs false).2.1.tail = e0) := ⟨_, rfl⟩
  obtain ⟨b0, HB0⟩ : ∃ e0, Hid (((cnt bs false).2.2 || (cnt bs false).2.1.isEmpty) = e0) := ⟨_, rfl⟩
  rw [HL0.out, HB0.out] at h4
  have HREP : Hid (repV bs = valsD nv l0 b0) := Lib.hid (by unfold repV; rw [HNV.out, HL0.out, HB0.out])
  clear HNV HL0 HB0
  generalize w.heap.size + 1 = R at h4 ⊢
  generalize w.heap.size = G0 at h4 ⊢
  go_wp2
  go_loopw [6, 7] (fun i _ wr => ∃ j m : Nat, m + j = nv ∧ i = .int .i64 m ∧ GLoop w 110 err nv l0 b0 R G G0 j wr) (fun i _ _ => (intOf i).toNat)
  case atStart => exact ⟨0, nv, by omega, rfl, [], l0, b0, _, rfl, h4, by simp⟩
  case round =>
    obtain ⟨j, m, hj, rfl, us, l, b, V, hus, h5, hrel⟩ := hrel
    have HNM : Hid (nv - j = m) := Lib.hid (by omega)
    clear h4
    have HREL := Lib.hid hrel
    have HUS := Lib.hid hus
    clear hrel hus
    have cb := h5.bad
    by_cases hlt : 0 < m
    · have d : decide ((0 : Int) < (m : Int)) = true := by simp; omega
      cases b
      · have HB := Lib.hid (rcnt_any _ _ _ _ _ h5.part)
        go_wp2_with fail
        refine HB.out.mono ?_
        rintro e w6 ⟨rfl, hp6, hg6⟩
        have h6 := h5.call (by decide) (by decide) hp6 hg6
        clear h5 hp6 hg6 HB cb
        have hbk := Blk.new w6 68 #[.int .u64 ((cnt l false).1 : Int), .int .i64 0]
        have h7 := h6.alloc (.cells #[.int .u64 ((cnt l false).1 : Int), .int .i64 0] 68)
        have k1 := h6.partLt
        have k2 := h6.main.lt
        have k3 := h6.res.lt
        have k4 := h6.ownLt
        have k5 := h6.below.size
        clear h6
        go_upto_region 7 with fail
        generalize w6.alloc (.cells #[.int .u64 ((cnt l false).1 : Int), .int .i64 0] 68) = W7 at hbk h7 ⊢
        generalize w6.heap.size = k at hbk k1 k2 k3 k4 k5 ⊢
        clear w6
        obtain ⟨⟨hv, l2, b2⟩, HCN⟩ : ∃ r, Hid (cnt l false = r) := ⟨_, rfl⟩
        rw [HCN.out] at hbk h7 ⊢
        dsimp only at hbk h7 ⊢
        have e0 := hbk.cell 0
        simp at e0
        have k6 : R ≠ k := by omega
        by_cases hv0 : hv = 0
        · have t0 : ((hv : Int) == 0) = true := by rw [beq_iff_eq]; omega
          have HS2 := Lib.hid (rsgn_any _ _ _ _ _ h7.part)
          go_wp2_with fail
          refine HS2.out.mono ?_
          rintro e w8 ⟨rfl, hp8, hg8⟩
          have h8 := h7.call (by decide) (by decide) hp8 hg8
          have hbk8 := hbk.grown hg8 (by simpa using k6.symm)
          clear h7 hbk hp8 hg8 HS2 e0
          obtain ⟨⟨m2, l3, b3⟩, HCN2⟩ : ∃ r, Hid (cnt l2 b2 = r) := ⟨_, rfl⟩
          rw [HCN2.out] at h8 ⊢
          dsimp only at h8 ⊢
          have HVD : Hid (valD l false = ((hv, unzig m2), l3, b3)) := Lib.hid (by unfold valD; rw [HCN.out]; dsimp only; rw [if_pos hv0, HCN2.out, hv0])
          have kf := hbk8.frozen 1
          have kc := hbk8.cell 1
          simp at kc
          go_upto_region 9 with fail
          have h9 := h8.setFar k5 k6 (Nat.ne_of_lt k2) (Nat.ne_of_lt k3) k4 1 (.int .i64 (unzig m2))
          have hbk9 := hbk8.set_ 1 (.int .i64 (unzig m2))
          simp at hbk9
          generalize w8.setCell ⟨k, 1, none⟩ (.int .i64 (unzig m2)) = W9 at h9 hbk9 ⊢
          clear h8 hbk8 kf kc t0 hv0
          generalize unzig m2 = z at hbk9 HVD ⊢
          have e0 := hbk9.cell 0
          have e1 := hbk9.cell 1
          have g1 := h9.cell 1
          have gf := h9.main.frozen 1
          simp at e0 e1 g1
          have h10 := h9.alloc (.cells #[.int .u64 (hv : Int), .int .i64 z] 68)
          have hrd := Reads.ofBlk (size := 2) (n := 1) (cs := [.int .u64 (hv : Int), .int .i64 z]) (Blk.new W9 68 #[.int .u64 (hv : Int), .int .i64 z]) rfl
          have gf2 := h10.main.frozen 1
          go_wp2_with (at_builtin; refine wpList_appE rfl _ _ _ rfl w.heap.size 68 _ 2 16 info68 Try.underlying51 rfl (by decide) _ _ _ rfl h10.own _ _ _ _ _ rfl hrd (by simp [Value.oneCell']) (by simp only [maxLen]; omega) (by omega) h10.below.size ?_; intro V2 w11 hown11 happ11; obtain ⟨A2, c2, rfl⟩ := own_form hown11; have h11 := h10.app (by decide) (by decide) happ11 hown11; have gf3 := h11.main.frozen 1; have g3 := h11.cell 1; simp at g3)
          go_roundw
          case rel =>
            refine ⟨j + 1, m - 1, by omega, by go_num, us ++ [(hv, z)], l3, b3, .slice A2 (j + 1) c2, by simp [HUS.out], ?_, ?_⟩
            · have h12 := h11.setMain (by decide) (by decide) 1 (.slice A2 (j + 1) c2)
              rw [vcells_one us (hv, z)] at h12
              simpa using h12
            · obtain ⟨f, hf⟩ : ∃ f, nv - j = f + 1 := ⟨nv - j - 1, by omega⟩
              rw [HREL.out, hf, show nv - (j + 1) = f from by omega, valsD, if_neg (by decide), HVD.out]
              simp
          case measure => simp [intOf]; omega

        · have t0 : ((hv : Int) == 0) = false := by rw [beq_eq_false_iff_ne]; omega
          have HVD : Hid (valD l false = ((hv, 0), l2, b2)) := Lib.hid (by unfold valD; rw [HCN.out]; dsimp only; rw [if_neg hv0])
          have h9 := h7
          have hbk9 := hbk
          clear h7 hbk hv0
          go_upto_region 9 with fail
          obtain ⟨l3, HL3⟩ : ∃ r, Hid (l2 = r) := ⟨_, rfl⟩
          obtain ⟨b3, HB3⟩ : ∃ r, Hid (b2 = r) := ⟨_, rfl⟩
          rw [HL3.out, HB3.out] at h9 HVD
          clear e0
          generalize W7 = W9 at h9 hbk9 ⊢
          have e0 := hbk9.cell 0
          have e1 := hbk9.cell 1
          have g1 := h9.cell 1
          have gf := h9.main.frozen 1
          simp at e0 e1 g1
          have h10 := h9.alloc (.cells #[.int .u64 (hv : Int), .int .i64 0] 68)
          have hrd := Reads.ofBlk (size := 2) (n := 1) (cs := [.int .u64 (hv : Int), .int .i64 0]) (Blk.new W9 68 #[.int .u64 (hv : Int), .int .i64 0]) rfl
          have gf2 := h10.main.frozen 1
          go_wp2_with (at_builtin; refine wpList_appE rfl _ _ _ rfl w.heap.size 68 _ 2 16 info68 Try.underlying51 rfl (by decide) _ _ _ rfl h10.own _ _ _ _ _ rfl hrd (by simp [Value.oneCell']) (by simp only [maxLen]; omega) (by omega) h10.below.size ?_; intro V2 w11 hown11 happ11; obtain ⟨A2, c2, rfl⟩ := own_form hown11; have h11 := h10.app (by decide) (by decide) happ11 hown11; have gf3 := h11.main.frozen 1; have g3 := h11.cell 1; simp at g3)
          go_roundw
          case rel =>
            refine ⟨j + 1, m - 1, by omega, by go_num, us ++ [(hv, 0)], l3, b3, .slice A2 (j + 1) c2, by simp [HUS.out], ?_, ?_⟩
            · have h12 := h11.setMain (by decide) (by decide) 1 (.slice A2 (j + 1) c2)
              rw [vcells_one us (hv, 0)] at h12
              simpa using h12
            · obtain ⟨f, hf⟩ : ∃ f, nv - j = f + 1 := ⟨nv - j - 1, by omega⟩
              rw [HREL.out, hf, show nv - (j + 1) = f from by omega, valsD, if_neg (by decide), HVD.out]
              simp
          case measure => simp [intOf]; omega
      · have HV : Hid (valsD nv l0 b0 = (us, l, true)) := Lib.hid (by rw [HREL.out, valsD_bad]; simp)
        have hrange : ∀ v ∈ us, v.1 < 18446744073709551616 ∧ I64 v.2 := fun v hv => valsD_range nv l0 b0 v (by rw [HV.out]; exact hv)
        have HRG := Lib.hid hrange
        clear hrange
        go_wp2_with fail
        have HT := Lib.hid (rtxt_any _ _ _ _ _ h5.part)
        refine HT.out.mono ?_
        rintro e w6 ⟨rfl, hp6, hg6⟩
        have h6 := h5.call (by decide) (by decide) hp6 hg6
        obtain ⟨⟨tx, l6, b6⟩, HTT⟩ : ∃ r, Hid (txtD l true = r) := ⟨_, rfl⟩
        rw [HTT.out] at h6 ⊢
        try dsimp only at h6 ⊢
        have m2 := h6.cell 2
        have mf := h6.main.frozen 2
        simp at m2
        clear h5 hp6 hg6 HT cb
        have HF : Hid (vs = us ∧ text = tx ∧ (good = (b6 = false ∧ l6 = [] ∧ n ≤ 1024 ∧ us.length ≤ 32))) := Lib.hid (by
          have e1 : repV bs = (us, l, true) := by rw [HREP.out, HV.out]
          have e2 : repTD bs = (tx, l6, b6) := by unfold repTD; rw [e1]; exact HTT.out
          refine ⟨by rw [← HVS.out, e1], by rw [← HTX.out, e2], by rw [← HGOOD.out, e1, e2]⟩)
        go_upto_region 11 with fail
        have h7 := h6.setMain (by decide) (by decide) 2 (.string ⟨tx.toArray⟩)
        simp at h7
        generalize w6.setCell ⟨G, 2, none⟩ (.string ⟨tx.toArray⟩) = w7 at h7 ⊢
        clear h6 m2 mf
        obtain ⟨A5, c5, rfl⟩ := own_form h7.own
        have q0 := h7.cell 0
        have q1 := h7.cell 1
        have q2 := h7.cell 2
        have r0 := h7.res.cell 0
        have r1 := h7.res.cell 1
        have r2 := h7.res.cell 2
        have s0 := h7.res.frozen 0
        have s1 := h7.res.frozen 1
        have s2 := h7.res.frozen 2
        obtain ⟨_, hl6, A6, c6, hp6, _, _⟩ := id h7.part
        have p0 := hp6.cell 0
        have p1 := hp6.cell 1
        simp at q0 q1 q2 r0 r1 r2 p0 p1
        obtain ⟨L6, HL6⟩ : ∃ r, Hid (l6.length = r) := ⟨_, rfl⟩
        rw [HL6.out] at p0 hl6
        clear hp6
        cases b6
        · exact absurd (congrArg (fun r => r.2.2) HTT.out) (by rw [txtD_bad]; simp)
        · have HZ : Hid (¬ good) := Lib.hid (by rw [HF.out.2.2]; rintro ⟨h, -⟩; exact absurd h (by decide))
          have hF := ((h7.setRes (by decide) (by decide) 0 (.int .i64 0)).setRes (by decide) (by decide) 1 (.slice none 0 0)).setRes (by decide) (by decide) 2 (.string ⟨#[]⟩)
          have HFF := Lib.hid hF
          clear hF h7
          go_wp2
          have hF := HFF.out
          have t0 := hF.res.cell 0
          have t1 := hF.res.cell 1
          have t2 := hF.res.cell 2
          simp at t0 t1 t2
          refine bodyPost_ret (v := .tuple #[.agg #[.int .i64 0, .slice none 0 0, .string ByteArray.empty], .bool false]) (by simp [results, Try.results31, go_sem, t0, t1, t2]; rfl) rfl ⟨hF.below, .inr ⟨HZ.out, rfl⟩⟩
    · have d : decide ((0 : Int) < (m : Int)) = false := by simp; omega
      have HV : Hid (valsD nv l0 b0 = (us, l, b)) := Lib.hid (by rw [HREL.out, show nv - j = 0 from by omega, valsD]; simp)
      have hrange : ∀ v ∈ us, v.1 < 18446744073709551616 ∧ I64 v.2 := fun v hv => valsD_range nv l0 b0 v (by rw [HV.out]; exact hv)
      have HRG := Lib.hid hrange
      clear hrange
      go_wp2_with fail
      have HT := Lib.hid (rtxt_any _ _ _ _ _ h5.part)
      refine HT.out.mono ?_
      rintro e w6 ⟨rfl, hp6, hg6⟩
      have h6 := h5.call (by decide) (by decide) hp6 hg6
      obtain ⟨⟨tx, l6, b6⟩, HTT⟩ : ∃ r, Hid (txtD l b = r) := ⟨_, rfl⟩
      rw [HTT.out] at h6 ⊢
      try dsimp only at h6 ⊢
      have m2 := h6.cell 2
      have mf := h6.main.frozen 2
      simp at m2
      clear h5 hp6 hg6 HT cb
      have HF : Hid (vs = us ∧ text = tx ∧ (good = (b6 = false ∧ l6 = [] ∧ n ≤ 1024 ∧ us.length ≤ 32))) := Lib.hid (by
        have e1 : repV bs = (us, l, b) := by rw [HREP.out, HV.out]
        have e2 : repTD bs = (tx, l6, b6) := by unfold repTD; rw [e1]; exact HTT.out
        refine ⟨by rw [← HVS.out, e1], by rw [← HTX.out, e2], by rw [← HGOOD.out, e1, e2]⟩)
      go_upto_region 11 with fail
      have h7 := h6.setMain (by decide) (by decide) 2 (.string ⟨tx.toArray⟩)
      simp at h7
      generalize w6.setCell ⟨G, 2, none⟩ (.string ⟨tx.toArray⟩) = w7 at h7 ⊢
      clear h6 m2 mf
      obtain ⟨A5, c5, rfl⟩ := own_form h7.own
      have q0 := h7.cell 0
      have q1 := h7.cell 1
      have q2 := h7.cell 2
      have r0 := h7.res.cell 0
      have r1 := h7.res.cell 1
      have r2 := h7.res.cell 2
      have s0 := h7.res.frozen 0
      have s1 := h7.res.frozen 1
      have s2 := h7.res.frozen 2
      obtain ⟨_, hl6, A6, c6, hp6, _, _⟩ := id h7.part
      have p0 := hp6.cell 0
      have p1 := hp6.cell 1
      simp at q0 q1 q2 r0 r1 r2 p0 p1
      obtain ⟨L6, HL6⟩ : ∃ r, Hid (l6.length = r) := ⟨_, rfl⟩
      rw [HL6.out] at p0 hl6
      clear hp6
      cases b6
      · by_cases z1 : l6 = []
        · have z0 : L6 = 0 := by rw [← HL6.out, z1]; rfl
          subst z0
          by_cases z2 : n ≤ 1024
          · have d2 : decide ((1024 : Int) < (n : Int)) = false := by simp; omega
            by_cases z3 : j ≤ 32
            · have d3 : decide ((32 : Int) < (j : Int)) = false := by simp; omega
              have HZ : Hid good := Lib.hid (by rw [HF.out.2.2]; exact ⟨rfl, z1, z2, by rw [HUS.out]; exact z3⟩)
              clear z1 z2 z3
              have hF := ((h7.setRes (by decide) (by decide) 0 (.int .i64 err)).setRes (by decide) (by decide) 1 (.slice A5 j c5)).setRes (by decide) (by decide) 2 (.string ⟨tx.toArray⟩)
              have HFF := Lib.hid hF
              clear hF h7
              go_wp2
              have hF := HFF.out
              have t0 := hF.res.cell 0
              have t1 := hF.res.cell 1
              have t2 := hF.res.cell 2
              simp at t0 t1 t2
              refine bodyPost_ret (v := .tuple #[.agg #[.int .i64 err, .slice A5 j c5, .string ⟨tx.toArray⟩], .bool true]) (by simp [results, Try.results31, go_sem, t0, t1, t2]) rfl ⟨hF.below, .inl ⟨HZ.out, A5, j, c5, by rw [HF.out.2.1], by rw [HF.out.1]; exact hF.own⟩⟩
            · have d3 : decide ((32 : Int) < (j : Int)) = true := by simp; omega
              have HZ : Hid (¬ good) := Lib.hid (by rw [HF.out.2.2]; rintro ⟨-, -, -, h⟩; rw [HUS.out] at h; omega)
              clear z1 z2 z3 hx hj hlt d HNM hl6
              have hF := ((h7.setRes (by decide) (by decide) 0 (.int .i64 0)).setRes (by decide) (by decide) 1 (.slice none 0 0)).setRes (by decide) (by decide) 2 (.string ⟨#[]⟩)
              have HFF := Lib.hid hF
              clear hF h7
              go_wp2
              have hF := HFF.out
              have t0 := hF.res.cell 0
              have t1 := hF.res.cell 1
              have t2 := hF.res.cell 2
              simp at t0 t1 t2
              refine bodyPost_ret (v := .tuple #[.agg #[.int .i64 0, .slice none 0 0, .string ByteArray.empty], .bool false]) (by simp [results, Try.results31, go_sem, t0, t1, t2]; rfl) rfl ⟨hF.below, .inr ⟨HZ.out, rfl⟩⟩
          · have d2 : decide ((1024 : Int) < (n : Int)) = true := by simp; omega
            have HZ : Hid (¬ good) := Lib.hid (by rw [HF.out.2.2]; rintro ⟨-, -, h, -⟩; omega)
            clear z1 z2
            have hF := ((h7.setRes (by decide) (by decide) 0 (.int .i64 0)).setRes (by decide) (by decide) 1 (.slice none 0 0)).setRes (by decide) (by decide) 2 (.string ⟨#[]⟩)
            have HFF := Lib.hid hF
            clear hF h7
            go_wp2
            have hF := HFF.out
            have t0 := hF.res.cell 0
            have t1 := hF.res.cell 1
            have t2 := hF.res.cell 2
            simp at t0 t1 t2
            refine bodyPost_ret (v := .tuple #[.agg #[.int .i64 0, .slice none 0 0, .string ByteArray.empty], .bool false]) (by simp [results, Try.results31, go_sem, t0, t1, t2]; rfl) rfl ⟨hF.below, .inr ⟨HZ.out, rfl⟩⟩
        · have d1n : 0 < L6 := by rw [← HL6.out]; exact List.length_pos_iff.2 z1
          have d1 : decide ((0 : Int) < (L6 : Int)) = true := by simp; omega
          have HZ : Hid (¬ good) := Lib.hid (by rw [HF.out.2.2]; rintro ⟨-, h, -⟩; exact z1 h)
          clear z1
          have hF := ((h7.setRes (by decide) (by decide) 0 (.int .i64 0)).setRes (by decide) (by decide) 1 (.slice none 0 0)).setRes (by decide) (by decide) 2 (.string ⟨#[]⟩)
          have HFF := Lib.hid hF
          clear hF h7
          go_wp2
          have hF := HFF.out
          have t0 := hF.res.cell 0
          have t1 := hF.res.cell 1
          have t2 := hF.res.cell 2
          simp at t0 t1 t2
          refine bodyPost_ret (v := .tuple #[.agg #[.int .i64 0, .slice none 0 0, .string ByteArray.empty], .bool false]) (by simp [results, Try.results31, go_sem, t0, t1, t2]; rfl) rfl ⟨hF.below, .inr ⟨HZ.out, rfl⟩⟩
      · have HZ : Hid (¬ good) := Lib.hid (by rw [HF.out.2.2]; rintro ⟨h, -⟩; exact absurd h (by decide))
        have hF := ((h7.setRes (by decide) (by decide) 0 (.int .i64 0)).setRes (by decide) (by decide) 1 (.slice none 0 0)).setRes (by decide) (by decide) 2 (.string ⟨#[]⟩)
        have HFF := Lib.hid hF
        clear hF h7
        go_wp2
        have hF := HFF.out
        have t0 := hF.res.cell 0
        have t1 := hF.res.cell 1
        have t2 := hF.res.cell 2
        simp at t0 t1 t2
        refine bodyPost_ret (v := .tuple #[.agg #[.int .i64 0, .slice none 0 0, .string ByteArray.empty], .bool false]) (by simp [results, Try.results31, go_sem, t0, t1, t2]; rfl) rfl ⟨hF.below, .inr ⟨HZ.out, rfl⟩⟩
end Go.Proofs.Ytjhkfpemcplaaaa
