/-
  The walk of WireFinds: it returns true, and writes nothing that was there.
-/
import Derived.Test.YtijcnefomgfocaaFindsL
import Derived.Deep.CutBlock
namespace Go.Proofs.Ytijcnefomgfocaa
open Go.RowKit

set_option maxRecDepth 100000 in
set_option maxHeartbeats 8000000 in
theorem finds_any (haw : ∀ w : World, Calls Try.prog 17 #[] w fun e w' => e = .returned (.bool true) ∧ Below w.heap.size w w') (A : Option Addr) (c : Nat) (zs : List AP) (An : Option Addr) (cn : Nat) (ns : List UInt8) (Ar : Option Addr) (cr : Nat) (raw : List UInt8) (w : World)
    (hz : ARd w A zs) (hn : RdB w w.heap.size An ns.length ns) (hr : RdB w w.heap.size Ar raw.length raw) (h50 : zs.length ≤ 50) (hnl : ns.length ≤ 1048576) :
    Calls Try.prog 7 #[.slice A zs.length c, .slice An ns.length cn, .slice Ar raw.length cr] w fun e w' => e = .returned (.bool true) ∧ Below w.heap.size w w' := by
  have HAW := Lib.hid haw
  have HZ := Lib.hid hz
  have HNS := Lib.hid hn
  have HRW := Lib.hid hr
  clear haw hz hn hr
  go_enter Try.func7, Try.ntmps7
  go_wp2_with fail
  refine (HAW.out w).mono ?_
  rintro e w1 ⟨rfl, hb1⟩
  have HB1 := Lib.hid hb1
  clear hb1
  obtain ⟨qs, HQS⟩ : ∃ qs, Hid (ns.map fixq = qs) := ⟨_, rfl⟩
  have HQN := Lib.hid (fixq_ne ns)
  have HQL : Hid ((ns.map fixq).length = ns.length) := Lib.hid (List.length_map _)
  rw [HQS.out] at HQN HQL
  have hq20 : qs.length ≤ 1048576 := by rw [HQL.out]; exact hnl
  go_upto_block 0 with fail
  go_cut [7] (fun v wx => ∃ wz Aq cq, wz = wx ∧ v = .slice Aq qs.length cq ∧ RdB wz wz.heap.size Aq qs.length qs ∧ Below w.heap.size w wz)
  case first =>
    go_wp2_with fail
    go_loopw [7, 43] (fun v i wr => ∃ k : Nat, k ≤ ns.length ∧ i = .int .i64 k ∧ OwnB 5 wr w.heap.size v ((ns.take k).map fixq) ∧ Below w.heap.size w wr) (fun _ i _ => ns.length - (intOf i).toNat)
    case atStart => exact ⟨0, Nat.zero_le _, rfl, OwnB.nil 5 w1 _, HB1.out⟩
    case round =>
      obtain ⟨k, hk, rfl, hown, hb⟩ := hrel
      by_cases hlt : k < ns.length
      · obtain ⟨ad, x, rfl, hb2, hx, hc⟩ := (HNS.out.below hb).byte hlt
        have l1 : (0 : Int) ≤ (k : Int) := by omega
        have l2 : (k : Int) < (ns.length : Int) := by omega
        have HT : Hid ((ns.take (k + 1)).map fixq = (ns.take k).map fixq ++ [fixq x]) := Lib.hid (by rw [List.take_add_one, hx]; simp)
        have HL : Hid (((ns.take k).map fixq).length + 1 ≤ 140737488355328) := Lib.hid (by rw [List.length_map, List.length_take]; omega)
        have HB := Lib.hid hb
        have HO := Lib.hid hown
        clear hx hb2 hb hown
        go_upto_if 48 with fail
        go_cut [9] (fun s wx => s = .int .u8 ((fixq x).toNat : Int) ∧ wr = wx)
        case first =>
          by_cases h239 : x = 239
          · have d : ((x.toNat : Int) == 239) = true := by rw [h239]; rfl
            have e : fixq x = 238 := if_pos h239
            have E := Lib.hid e
            clear e h239
            go_wp2_with fail
            go_meet
            exact ⟨by rw [E.out]; rfl, rfl⟩
          · have d : ((x.toNat : Int) == 239) = false := by
              have : x.toNat ≠ 239 := fun h => h239 (UInt8.toNat_inj.1 (by rw [h]; rfl))
              have : (x.toNat : Int) ≠ 239 := by omega
              simpa using this
            have e : fixq x = x := if_neg h239
            have E := Lib.hid e
            clear e h239
            go_wp2_with fail
            go_meet
            exact ⟨by rw [E.out], rfl⟩
        case rest =>
        obtain ⟨rfl, rfl⟩ := hcut
        generalize fixq x = y at HT ⊢
        go_wp2_with (at_builtin; refine wpList_app rfl (.tmp 49) (.tmp 51) 24 rfl w.heap.size 5 info5 Try.underlying24 _ ((ns.take k).map fixq) rfl (HO.out.alloc _) _ _ _ _ [y] rfl (Reads.built _ _ [bv y]) HL.out (by have := HB.out.size; simp; omega) ?_; intro v1 w2 hown1 happ1; have HO1 := Lib.hid hown1; have HB2 := Lib.hid ((HB.out.alloc HB.out.size _).trans (happ1.below (base := w.heap.size) (by have := HB.out.size; simp; omega) (fun k' hk' => (HO.out.lt k' hk').1))); clear hown1 happ1)
        go_roundw
        case rel => exact ⟨k + 1, by omega, by go_num, by rw [HT.out]; exact HO1.out, HB2.out⟩
        case measure => simp [intOf]; omega
      · obtain rfl : k = ns.length := by omega
        have HE : Hid ((ns.take ns.length).map fixq = qs) := Lib.hid (by rw [List.take_length, HQS.out])
        rw [HE.out] at hown
        obtain ⟨Aq, cq, rfl, -⟩ := OwnB.form hown
        have HR := Lib.hid (OwnB.reads hown rfl)
        have HB := Lib.hid hb
        clear hown hb hlt hk
        go_wp2_with fail
        go_meet
        exact ⟨_, _, _, rfl, rfl, HR.out, HB.out⟩
  case rest =>
  obtain ⟨w2, Aq, cq, rfl, rfl, hqr, hb2⟩ := hcut
  have HQR := Lib.hid hqr
  have HB2 := Lib.hid hb2
  clear hqr hb2 HB1 HNS HQS HQL hnl
  go_wp2_with fail
  refine (newr_any w2).mono ?_
  rintro e w3 ⟨rfl, hw3⟩
  have hblk := Blk.new w2 74 #[.bool true, .slice none 0 0, .int .i64 0]
  have HB3 : Hid (Below w.heap.size w w3) := Lib.hid (by rw [← hw3]; exact HB2.out.alloc HB2.out.size _)
  have HQR3 : Hid (RdB w3 w2.heap.size Aq qs.length qs) := Lib.hid (by rw [← hw3]; exact HQR.out.alloc (Nat.le_refl _) _)
  rw [hw3] at hblk
  have HGL := Lib.hid hblk.lt
  have HBLK := Lib.hid hblk
  have HGB : Hid (w.heap.size ≤ w2.heap.size) := Lib.hid HB2.out.size
  clear hw3 hblk HB2 HQR
  obtain ⟨g, HG⟩ : ∃ g, Hid (w2.heap.size = g) := ⟨_, rfl⟩
  rw [HG.out] at HQR3 HGL HBLK HGB ⊢
  clear HG
  have h0 : FB w3 g [] (.slice none 0 0) (.slice none 0 0) (.slice none 0 0) [] [] w3.heap.size w3 :=
    ⟨⟨World.grownBy.refl _ _, by simpa [feed_nil] using HBLK.out, OwnB.nil 5 w3 _, Nat.le_refl _, Nat.le_refl _, PkRow.nil _ _, (fun q hq => by cases hq), rfl⟩, World.ownsRow_nil _ _ _ _, fun k hk => by cases hk⟩
  have HF0 := Lib.hid h0
  clear h0 HBLK
  go_upto_block 2 with fail
  go_cut [11, 12] (fun vs v wx => ∃ wz A11 n11 c11 A12 n12 c12 x K ps ss M, wz = wx ∧ vs = .slice A11 n11 c11 ∧ v = .slice A12 n12 c12 ∧ n11 = ss.length ∧ n12 = ps.length ∧ FB w3 g x (.slice A12 n12 c12) K (.slice A11 n11 c11) ps ss M wz ∧ (feed x).2.1 = [] ∧ (feed x).2.2 = ss.length * qs.length ∧ (feed x).1 = ss.map (·.1) ∧ ss.length ≤ 50 ∧ (∀ q ∈ ss, okPk q.1 ∧ RdB w w.heap.size q.2.1 q.1.body.length q.1.body))
  case first =>
    go_wp2_with fail
    go_loopw [11, 12, 59] (fun vs v i wr => ∃ j : Nat, j ≤ zs.length ∧ i = .int .i64 j ∧ ∃ A11 n11 c11 A12 n12 c12 x K ps ss M, vs = .slice A11 n11 c11 ∧ v = .slice A12 n12 c12 ∧ n11 = ss.length ∧ n12 = ps.length ∧ FB w3 g x (.slice A12 n12 c12) K (.slice A11 n11 c11) ps ss M wr ∧ (feed x).2.1 = [] ∧ (feed x).2.2 = ss.length * qs.length ∧ (feed x).1 = ss.map (·.1) ∧ ss.length ≤ j ∧ (∀ q ∈ ss, okPk q.1 ∧ RdB w w.heap.size q.2.1 q.1.body.length q.1.body)) (fun _ _ i _ => zs.length - (intOf i).toNat)
    case atStart => exact ⟨0, Nat.zero_le _, rfl, _, _, _, _, _, _, _, _, [], [], _, rfl, rfl, rfl, rfl, HF0.out, rfl, by simp [feed_nil], rfl, Nat.le_refl _, fun q hq => by cases hq⟩
    case round =>
      obtain ⟨j, hj, rfl, A11, n11, c11, A12, n12, c12, x, K, ps, ss, M, rfl, rfl, rfl, rfl, hfb, hx1, hx2, hx3, hsj, hss⟩ := hrel
      by_cases hlt : j < zs.length
      · have hbel := hfb.1.bel HB3.out HGB.out
        have har := HZ.out.below hbel
        obtain ⟨bb, off, z, hA, hzj, e0, e1, e2, e3, e4⟩ := har.at5 hlt
        subst hA
        obtain ⟨hzr, hz1, hz2, hz3⟩ := har.2 z (List.mem_of_getElem? hzj)
        have hzw := (HZ.out.2 z (List.mem_of_getElem? hzj)).1
        obtain ⟨zk, zt, zq, za, zb, zA, zc⟩ := z
        dsimp only at e0 e1 e2 e3 e4 hzr hz1 hz2 hz3 hzw
        have HFB := Lib.hid hfb
        have HX := Lib.hid (And.intro hx1 (And.intro hx2 hx3))
        have HSS := Lib.hid hss
        have l1 : (0 : Int) ≤ (j : Int) := by omega
        have l2 : (j : Int) < (zs.length : Int) := by omega
        have HZR := Lib.hid hzr
        have HZW := Lib.hid hzw
        have HZ3 := Lib.hid (And.intro hz1 (And.intro hz2 hz3))
        clear hfb hx1 hx2 hx3 hss hbel har hzj hzr hz1 hz2 hz3 hzw
        cases hmay : mayB zk zb.length
        · have HBAD := Lib.hid fun w => pack_bad zk zt zq za zA zb.length zc w hmay
          clear hmay
          go_upto_region 18 with fail
          go_wp2_with fail
          refine (HBAD.out _).mono ?_
          rintro e w' ⟨rfl, o1, o2, rfl⟩
          go_wp2_with fail
          go_roundw
          case rel => exact ⟨j + 1, by omega, by go_num, _, _, _, _, _, _, x, K, ps, ss, M, rfl, rfl, rfl, rfl, HFB.out.grown0 (only_alloc (only_alloc (only_alloc (World.grownBy.refl _ none) _) _) _), HX.out.1, HX.out.2.1, HX.out.2.2, by omega, HSS.out⟩
          case measure => simp [intOf]; omega
        · obtain ⟨k1, k7, hbl⟩ := mayB_no hmay
          obtain ⟨kn, rfl⟩ : ∃ kn : Nat, zk = kn := ⟨zk.toNat, by omega⟩
          have HOK : Hid (okPk ⟨kn, zt, zq, za, zb⟩) := Lib.hid ⟨hmay, HZ3.out⟩
          have hzb := HZ3.out
          have hX := Blk.new wr 26 #[.int .i64 kn, .int .u64 zt, .int .u64 zq, .int .u64 za, .slice zA zb.length zc]
          have HFB1 := Lib.hid (HFB.out.grown0 (only_alloc (World.grownBy.refl wr none) (.cells #[.int .i64 kn, .int .u64 zt, .int .u64 zq, .int .u64 za, .slice zA zb.length zc] 26)))
          have HPACK := Lib.hid (pack_ok (kn : Int) zt zq za zA zb.length zc zb (wr.alloc (.cells #[.int .i64 kn, .int .u64 zt, .int .u64 zq, .int .u64 za, .slice zA zb.length zc] 26)) ((HZR.out.alloc (Nat.le_refl _) _).more (by simp)) hmay hzb.1 hzb.2.1 hzb.2.2)
          clear hmay hzb HFB
          go_upto_region 18 with fail
          generalize wr.alloc (.cells #[.int .i64 kn, .int .u64 zt, .int .u64 zq, .int .u64 za, .slice zA zb.length zc] 26) = wy at hX HFB1 HPACK ⊢
          generalize wr.heap.size = gy at hX ⊢
          clear e0 e1 e2 e3 e4 HZR wr
          have x0 := hX.cell 0
          have x1 := hX.cell 1
          have x2 := hX.cell 2
          have x3 := hX.cell 3
          have x4 := hX.cell 4
          simp at x0 x1 x2 x3 x4
          go_wp2_with fail
          refine HPACK.out.mono ?_
          rintro e wx ⟨v, rfl, hov, hbx⟩
          obtain ⟨A8, c8, rfl, -⟩ := OwnB.form hov
          have hXx := hX.below hbx hX.lt
          have HFB2 := Lib.hid (HFB1.out.grown0 (only_of_below hbx none))
          have HSEP : Hid (∀ k, (Value.slice A8 (packB kn zt zq za zb).length c8).ownBlock = some k → K.ownBlock ≠ some k) := Lib.hid fun k hk e => by
            have h1 := (hov.lt k hk).1
            have h2 := (HFB1.out.1.2.2.1.lt k e).2
            omega
          have HOV := Lib.hid hov
          have HXX := Lib.hid hXx
          clear hbx hov hX HPACK x0 x1 x2 x3 x4 HFB1 hXx
          have x0 := HXX.out.cell 0
          have x1 := HXX.out.cell 1
          have x2 := HXX.out.cell 2
          have x3 := HXX.out.cell 3
          have x4 := HXX.out.cell 4
          simp at x0 x1 x2 x3 x4
          have hs50' : ss.length ≤ 50 := by omega
          have HRR := Lib.hid (row_room (p := ss.length) (q := 1) (by omega) (by omega))
          go_upto_region 21 with (at_builtin; refine wpList_appF rfl (.tmp 70) (.tmp 72) 67 rfl w3.heap.size 26 _ 5 56 info26 Try.underlying67 rfl (by decide) (.slice A11 ss.length c11) ss.length _ rfl (HFB2.out.2.1.alloc _) _ _ 1 _ (pqCells (⟨kn, zt, zq, za, zb⟩, zA, zc)) rfl (Reads.of_blkN (size := 5) (n := 1) (Blk.new wx 26 #[.int .i64 kn, .int .u64 zt, .int .u64 zq, .int .u64 za, .slice zA zb.length zc]) rfl) pack_row HRR.out.1 HRR.out.2 (by have := HFB2.out.1.1.size; simp; omega) ?_; intro V5 w5 hown5 happ5; obtain ⟨A9, c9, rfl⟩ := own_form hown5)
          have HFB5 := Lib.hid ((HFB2.out.grown0 (only_alloc (World.grownBy.refl wx none) (.cells #[.int .i64 kn, .int .u64 zt, .int .u64 zq, .int .u64 za, .slice zA zb.length zc] 26))).sent (q := (⟨kn, zt, zq, za, zb⟩, zA, zc)) happ5 hown5)
          have HOV5 : Hid (OwnB 5 w5 wy.heap.size (.slice A8 (packB kn zt zq za zb).length c8) (packB kn zt zq za zb)) := Lib.hid (World.ownsRow.kept (HOV.out.alloc (.cells #[.int .i64 kn, .int .u64 zt, .int .u64 zq, .int .u64 za, .slice zA zb.length zc] 26)) happ5.1 (own_own_ne (HOV.out.alloc (.cells #[.int .i64 kn, .int .u64 zt, .int .u64 zq, .int .u64 za, .slice zA zb.length zc] 26)) (HFB2.out.2.1.alloc (.cells #[.int .i64 kn, .int .u64 zt, .int .u64 zq, .int .u64 za, .slice zA zb.length zc] 26)) (by decide)))
          clear hown5 happ5 HFB2 HOV HXX x0 x1 x2 x3 x4 HRR
          have hd := HX.out.2.1
          have hd2 : (feed x).2.2 ≤ 52428800 := by rw [hd]; exact Nat.le_trans (Nat.mul_le_mul hs50' hq20) (by decide)
          have HD2 := Lib.hid hd2
          have hpl : ps.length ≤ 50 := by rw [HFB5.out.plen, HX.out.2.2, List.length_map]; exact hs50'
          have HFL : Hid ((packB kn zt zq za zb).length ≤ 1088) := Lib.hid (packB_len HOK.out)
          have HF := Lib.hid (HFB5.out.call (c := cq) HX.out.1 (by omega) (rd_keepB HQR3.out (Nat.le_of_lt HGL.out) HFB5.out.1.1) (by omega))
          clear hd hd2
          go_wp2_with fail
          refine HF.out.mono ?_
          rintro e w6 ⟨V6, qs6, K6, M6, rfl, hq6, hp6, hb6, ho6, hM6, hM61, hqM6, hG6⟩
          have hfd := HFB5.out.1.fed hG6
          obtain ⟨A6, n6, rfl, hn6⟩ := hp6.len
          have hr6 := hp6.prd.2.1
          have hs6 := hfd.1.size
          have hl6 : qs6.length ≤ 0 := by rw [len_of_map hq6, feed_quiet qs HQN.out]; exact Nat.le_refl _
          have HRR := Lib.hid (row_room (p := ps.length) (q := qs6.length) (by omega) (by omega))
          have HP6 := Lib.hid (And.intro hq6 (And.intro hp6 (And.intro hb6 (And.intro ho6 (And.intro hM6 (And.intro hM61 (And.intro hqM6 hG6)))))))
          have HFD := Lib.hid hfd
          have HR6 := Lib.hid hr6
          have HS6 := Lib.hid hs6
          clear HF hq6 hp6 hb6 ho6 hM6 hM61 hqM6 hG6 hfd hr6 hs6 hn6 hl6
          go_upto_region 22 with (at_builtin; refine wpList_appF rfl (.tmp 74) (.tmp 77) 67 rfl w3.heap.size 26 _ 5 56 info26 Try.underlying67 rfl (by decide) (.slice A12 ps.length c12) ps.length _ rfl HFD.out.2.1 _ A6 qs6.length n6 _ rfl HR6.out (pq_one _) HRR.out.1 HRR.out.2 HS6.out ?_; intro V7 w7 hown7 happ7; obtain ⟨A7, c7, rfl⟩ := own_form hown7)
          obtain ⟨hq6, hp6, hb6, ho6, hM6, hM61, hqM6, hG6⟩ := HP6.out
          have HFB7 := Lib.hid (HFB5.out.told0 (y := qs) HX.out.1 hG6 hq6 hp6 hb6 ho6 hM6 hM61 hqM6 happ7 hown7)
          have HOV7 := Lib.hid (OwnB.fed HFB5.out HOV5.out HSEP.out hG6 happ7)
          obtain ⟨ps7, HPS7⟩ : ∃ ps7, Hid (ps ++ qs6 = ps7) := ⟨_, rfl⟩
          have hpl76 : ps.length + qs6.length = ps7.length := by rw [← HPS7.out, List.length_append]
          rw [HPS7.out, hpl76] at HFB7
          rw [hpl76]
          clear hpl76
          have HX7 := Lib.hid (feed_quiet2 HX.out.1 HQN.out)
          have hl6 : qs6.length = 0 := by rw [len_of_map hq6, feed_quiet qs HQN.out]; rfl
          have hx71 : (feed (x ++ qs)).2.1 = [] := by rw [HX7.out]
          have hx72 : (feed (x ++ qs)).2.2 ≤ 53477376 := by rw [HX7.out]; have := HD2.out; show (feed x).2.2 + qs.length ≤ _; omega
          have HF := Lib.hid (HFB7.out.call (c := c8) hx71 (by omega) (OwnB.reads HOV7.out rfl) (by have := HFL.out; omega))
          have HX71 := Lib.hid hx71
          clear hown7 happ7 hq6 hp6 hb6 ho6 hM6 hM61 hqM6 hG6 hx71 hx72 HFB5 HOV5 HP6 HFD HR6 HS6 HRR HSEP hl6
          go_wp2_with fail
          refine HF.out.mono ?_
          rintro e w8 ⟨V8, qs8, K8, M8, rfl, hq8, hp8, hb8, ho8, hM8, hM81, hqM8, hG8⟩
          have hfd := HFB7.out.1.fed hG8
          obtain ⟨A10, n8, rfl, hn8⟩ := hp8.len
          have hr8 := hp8.prd.2.1
          have hs8 := hfd.1.size
          have hff : feed (packB kn zt zq za zb) = ([⟨kn, zt, zq, za, zb⟩], [], 0) := packB_feed HOK.out
          have hl8 : qs8.length ≤ 1 := by rw [len_of_map hq8, hff]; exact Nat.le_refl _
          have hpl7 : ps7.length ≤ 50 := by rw [HFB7.out.plen, HX7.out, HX.out.2.2, List.length_map]; exact hs50'
          have HRR := Lib.hid (row_room (p := ps7.length) (q := qs8.length) (by omega) (by omega))
          have HP8 := Lib.hid (And.intro hq8 (And.intro hp8 (And.intro hb8 (And.intro ho8 (And.intro hM8 (And.intro hM81 (And.intro hqM8 hG8)))))))
          have HFD := Lib.hid hfd
          have HR8 := Lib.hid hr8
          have HS8 := Lib.hid hs8
          clear HF hq8 hp8 hb8 ho8 hM8 hM81 hqM8 hG8 hfd hr8 hs8 hn8 hl8 hff hpl7
          go_upto_region 23 with (at_builtin; refine wpList_appF rfl (.tmp 79) (.tmp 82) 67 rfl w3.heap.size 26 _ 5 56 info26 Try.underlying67 rfl (by decide) (.slice A7 ps7.length c7) ps7.length _ rfl HFD.out.2.1 _ A10 qs8.length n8 _ rfl HR8.out (pq_one _) HRR.out.1 HRR.out.2 HS8.out ?_; intro V9 w9 hown9 happ9; obtain ⟨A13, c13, rfl⟩ := own_form hown9)
          obtain ⟨hq8, hp8, hb8, ho8, hM8, hM81, hqM8, hG8⟩ := HP8.out
          have HFB9 := Lib.hid (HFB7.out.told0 (y := packB kn zt zq za zb) HX71.out hG8 hq8 hp8 hb8 ho8 hM8 hM81 hqM8 happ9 hown9)
          have HX9 : Hid (feed (x ++ qs ++ packB kn zt zq za zb) = ((feed x).1 ++ [⟨kn, zt, zq, za, zb⟩], [], (feed x).2.2 + qs.length)) := Lib.hid (packB_round HX.out.1 HQN.out HOK.out)
          clear hown9 happ9 hq8 hp8 hb8 ho8 hM8 hM81 hqM8 hG8 HFB7 HP8 HFD HR8 HS8 HRR
          go_wp2_with fail
          go_roundw
          case rel => exact ⟨j + 1, by omega, by go_num, _, _, _, _, _, _, x ++ qs ++ packB kn zt zq za zb, K8, ps7 ++ qs8, ss ++ [(⟨kn, zt, zq, za, zb⟩, zA, zc)], M8, rfl, rfl, by simp, by simp, HFB9.out, by rw [HX9.out], by rw [HX9.out, List.length_append, Nat.add_mul, ← HX.out.2.1]; simp, by rw [HX9.out, HX.out.2.2, List.map_append]; rfl, by simp; omega, fun q hq => by
            rcases List.mem_append.1 hq with hq | hq
            · exact HSS.out q hq
            · obtain rfl := List.mem_singleton.1 hq
              exact ⟨HOK.out, HZW.out⟩⟩
          case measure => simp [intOf]; omega
      · have HFB := Lib.hid hfb
        have HX := Lib.hid (And.intro hx1 (And.intro hx2 hx3))
        have HSS := Lib.hid hss
        have h50' : ss.length ≤ 50 := by omega
        clear hfb hx1 hx2 hx3 hss
        go_wp2_with fail
        go_meet
        exact ⟨_, _, _, _, _, _, _, x, K, ps, ss, M, rfl, rfl, rfl, rfl, rfl, HFB.out, HX.out.1, HX.out.2.1, HX.out.2.2, h50', HSS.out⟩
  case rest =>
  obtain ⟨w4, A11, n11, c11, A12, n12, c12, x, K, ps, ss, M, rfl, rfl, rfl, rfl, rfl, hfb, hx1, hx2, hx3, hs50, hss⟩ := hcut
  have hbel := hfb.1.bel HB3.out HGB.out
  have HBEL := Lib.hid hbel
  have hr11 : PRd w4 A11 ss := ⟨Reads.of_own hfb.2.1, fun q hq => (((hss q hq).2.below hbel).more hbel.size)⟩
  have hr12 : PRd w4 A12 ps := hfb.1.2.2.2.2.2.1.prd.2
  have hmap : ss.map (·.1) = ps.map (·.1) := hx3.symm.trans hfb.1.2.2.2.2.2.2.2.symm
  have hpl : ps.length = ss.length := by have := congrArg List.length hmap; simpa using this.symm
  have HSAME := Lib.hid (samep_any A11 A12 ss.length ps.length c11 c12 ss ps w4 hr11 hr12 rfl rfl hmap (by omega))
  have hK := hfb.1.2.2.1
  rw [hx1] at hK
  obtain ⟨AK, ck, rfl, -⟩ := OwnB.form hK
  have hblk := hfb.1.2.1
  obtain ⟨P, HP⟩ : ∃ P, Hid (ss.length * qs.length = P) := ⟨_, rfl⟩
  rw [hx2, HP.out] at hblk
  have hP : P ≤ 52428800 := by rw [← HP.out]; exact Nat.le_trans (Nat.mul_le_mul hs50 hq20) (by decide)
  have HBLK := Lib.hid hblk
  have HR11 := Lib.hid hr11
  have HSS := Lib.hid hss
  clear hfb hx1 hx2 hx3 hbel hr11 hr12 hmap hK hblk hss HF0 hpl
  go_wp2_with fail
  refine HSAME.out.mono ?_
  rintro e w5 ⟨rfl, hb5⟩
  have HR0 := Lib.hid (HR11.out.below hb5)
  have HBE := Lib.hid (HBEL.out.trans (hb5.mono HBEL.out.size))
  have hblk5 := HBLK.out.below hb5 HBLK.out.lt
  have HD := Lib.hid (dropped_any g _ _ _ w5 hblk5)
  have HW := Lib.hid (waiting_any g _ AK _ ck _ w5 hblk5)
  clear hb5 hblk5 HSAME HR11 HBEL HBLK HQR3 HGL HB3 HQN
  go_wp2_with fail
  refine HD.out.mono ?_
  rintro e w6 ⟨rfl, rfl⟩
  have hmul : (ss.length : Int) * (qs.length : Int) = (P : Int) := by rw [← HP.out, Int.natCast_mul]
  go_wp2_with fail
  refine HW.out.mono ?_
  rintro e w6 ⟨rfl, rfl⟩
  clear hmul HD HW HP hP
  by_cases hss0 : ss.length = 0
  · have d : ((ss.length : Int) == 0) = true := by rw [hss0]; rfl
    clear hss0
    go_wp2_with fail
    go_ret
    exact ⟨rfl, HBE.out⟩
  · have d : ((ss.length : Int) == 0) = false := by
      have : (ss.length : Int) ≠ 0 := by omega
      simpa using this
    by_cases hr5 : 5000 < raw.length
    · have d5 : decide ((5000 : Int) < (raw.length : Int)) = true := by rw [decide_eq_true_iff]; omega
      clear hss0
      go_wp2_with fail
      go_ret
      exact ⟨rfl, HBE.out⟩
    · have HS0 : Hid (0 < ss.length) := Lib.hid (by omega)
      clear hss0
      go_upto_region 28 with fail
      clear d hs50
      obtain ⟨bb, off, q0, hA, hq0, e0, e1, e2, e3, e4⟩ := HR0.out.at5 HS0.out
      subst hA
      have hrq := HR0.out.2 q0 (List.mem_of_getElem? hq0)
      have hok := (HSS.out q0 (List.mem_of_getElem? hq0)).1
      obtain ⟨⟨qk, qt, qq, qa, qb⟩, qA, qc⟩ := q0
      dsimp only at e0 e1 e2 e3 e4 hrq hok
      simp only [Nat.zero_mul, Nat.add_zero] at e0 e1 e2 e3 e4
      have l0 : (0 : Int) < (ss.length : Int) := by have := HS0.out; omega
      have l0' : 0 < ss.length := HS0.out
      have HPK := Lib.hid (pack_ok (qk : Int) qt qq qa qA qb.length qc qb w5 hrq hok.1 hok.2.1 hok.2.2.1 hok.2.2.2)
      have HOK : Hid (okPk ⟨qk, qt, qq, qa, qb⟩) := Lib.hid hok
      have HRQ := Lib.hid hrq
      have HE := Lib.hid (And.intro e0 (And.intro e1 (And.intro e2 (And.intro e3 e4))))
      clear hq0 hok hrq
      go_wp2_with fail
      refine HPK.out.mono ?_
      rintro e w6 ⟨v, rfl, hov, hb6⟩
      obtain ⟨Af, cf, rfl, -⟩ := OwnB.form hov
      have HFL : Hid ((packB qk qt qq qa qb).length ≤ 1088) := Lib.hid (packB_len HOK.out)
      have HFM : Hid (packB (qk : Int) qt qq qa qb = frm ⟨qk, qt, qq, qa, qb⟩) := Lib.hid (frm_mk _ _ _ _ _)
      obtain ⟨fB, HFB⟩ : ∃ fB, Hid (packB (qk : Int) qt qq qa qb = fB) := ⟨_, rfl⟩
      rw [HFB.out] at hov HFL HFM
      rw [HFB.out]
      have HFR : Hid (RdB w6 w6.heap.size Af fB.length fB) := Lib.hid (OwnB.reads hov rfl)
      have HB6 := Lib.hid hb6
      have HBW6 := Lib.hid (HBE.out.trans (hb6.mono HBE.out.size))
      clear hov hb6 e0 e1 e2 e3 e4 HPK l0 l0' HFB
      go_upto_region 29 with fail
      go_wp2_with fail
      refine (newr_any w6).mono ?_
      rintro e w7 ⟨rfl, hw7⟩
      have hblk7 := Blk.new w6 74 #[.bool true, .slice none 0 0, .int .i64 0]
      have HBW7 : Hid (Below w.heap.size w w7) := Lib.hid (by rw [← hw7]; exact HBW6.out.alloc HBW6.out.size _)
      have HFR7 : Hid (RdB w7 w6.heap.size Af fB.length fB) := Lib.hid (by rw [← hw7]; exact HFR.out.alloc (Nat.le_refl _) _)
      have HB57 : Hid (Below w5.heap.size w5 w7) := Lib.hid (by rw [← hw7]; exact HB6.out.alloc HB6.out.size _)
      rw [hw7] at hblk7
      have HGL7 := Lib.hid hblk7.lt
      have HG5 : Hid (w5.heap.size ≤ w6.heap.size) := Lib.hid HB6.out.size
      obtain ⟨g2, HG2⟩ : ∃ g2, Hid (w6.heap.size = g2) := ⟨_, rfl⟩
      rw [HG2.out] at hblk7 HFR7 HGL7 HG5 ⊢
      have HBL7 := Lib.hid hblk7
      clear hblk7 hw7 HB6 HFR HBW6 HG2
      have hrl : raw.length ≤ 5000 := by omega
      have HF := Lib.hid (feeds_any g2 w7.heap.size w7.heap.size (.slice none 0 0) [] 0 Ar raw.length cr raw w7 HBL7.out (OwnB.nil 5 w7 _) (Nat.le_refl _) ((HRW.out.below HBW7.out).more HBW7.out.size) (by simp; omega) (by omega) (by omega))
      go_wp2_with fail
      refine HF.out.mono ?_
      rintro e w8 ⟨V8, qs8, K8, M8, rfl, hq8, hp8, hb8, ho8, hM8, hM81, hqM8, hG8⟩
      rw [List.nil_append] at hq8 hb8 ho8
      obtain ⟨A8, n8, rfl, hn8⟩ := hp8.len
      have HFB8 := Lib.hid (FB.start hG8 hq8 hp8 hb8 ho8 hM8 hM81 hqM8)
      have HPR8 := Lib.hid hp8.prd.2
      have HQ8 := Lib.hid hq8
      clear hq8 hp8 hb8 ho8 hM8 hM81 hqM8 hG8 hn8 HF HBL7
      obtain ⟨T1, HT1⟩ : ∃ T1, Hid (((feed raw).1.map packLen).sum = T1) := ⟨_, rfl⟩
      have hq8l : qs8.length ≤ 5000 := by rw [len_of_map HQ8.out]; exact Nat.le_trans (feed_num raw) hrl
      go_upto_block 4 with fail
      go_cut [21] (fun v wx => ∃ wz, wz = wx ∧ v = .int .i64 (T1 : Int) ∧ Below w8.heap.size w8 wz)
      case first =>
        go_wp2_with fail
        go_loopw [21, 125] (fun nn i wr => ∃ j T : Nat, j ≤ qs8.length ∧ i = .int .i64 j ∧ nn = .int .i64 (T : Int) ∧ T = ((qs8.take j).map fun q => packLen q.1).sum ∧ Below w8.heap.size w8 wr) (fun _ i _ => qs8.length - (intOf i).toNat)
        case atStart => exact ⟨0, 0, Nat.zero_le _, rfl, rfl, by simp, Below.refl _ _⟩
        case round =>
          obtain ⟨jj, T, hj, rfl, rfl, hT, hbz⟩ := hrel
          have HT := Lib.hid hT
          clear hT
          by_cases hlt : jj < qs8.length
          · have hpr := HPR8.out.below hbz
            obtain ⟨bb1, off1, q, hA, hq, e0, e1, e2, e3, e4⟩ := hpr.at5 hlt
            subst hA
            have hrq := (hpr.2 q (List.mem_of_getElem? hq))
            have HSUM : Hid (((qs8.take (jj + 1)).map fun q => packLen q.1).sum = ((qs8.take jj).map fun q => packLen q.1).sum + packLen q.1) := Lib.hid (by rw [List.take_add_one, hq]; simp)
            have hok := (feed_all raw).2 q.1 (by rw [← HQ8.out]; exact List.mem_map_of_mem (List.mem_of_getElem? hq))
            have hle : T + packLen q.1 ≤ 5000 := Nat.le_trans (sum_le HQ8.out (feed_tot raw) HT.out HSUM.out) hrl
            obtain ⟨⟨qk1, qt1, qsq1, qa1, qb1⟩, qA1, qc1⟩ := q
            dsimp only at e0 e1 e2 e3 e4 hrq hok
            obtain ⟨hok0, hok1, hok2, hok3⟩ := hok
            dsimp only at hok0 hok1 hok2 hok3
            have hpk : packLen ⟨qk1, qt1, qsq1, qa1, qb1⟩ = (packB qk1 qt1 qsq1 qa1 qb1).length := rfl
            rw [hpk] at hle HSUM
            have l1 : (0 : Int) ≤ (jj : Int) := by omega
            have l2 : (jj : Int) < (qs8.length : Int) := by omega
            have hX := Blk.new wr 26 #[.int .i64 qk1, .int .u64 qt1, .int .u64 qsq1, .int .u64 qa1, .slice qA1 qb1.length qc1]
            have hbz2 := hbz.alloc hbz.size (.cells #[.int .i64 qk1, .int .u64 qt1, .int .u64 qsq1, .int .u64 qa1, .slice qA1 qb1.length qc1] 26)
            have hrq2 := (hrq.alloc (Nat.le_refl _) (.cells #[.int .i64 qk1, .int .u64 qt1, .int .u64 qsq1, .int .u64 qa1, .slice qA1 qb1.length qc1] 26)).more (B' := (wr.alloc (.cells #[.int .i64 qk1, .int .u64 qt1, .int .u64 qsq1, .int .u64 qa1, .slice qA1 qb1.length qc1] 26)).heap.size) (by simp)
            have HPACK := Lib.hid (pack_ok (qk1 : Int) qt1 qsq1 qa1 qA1 qb1.length qc1 qb1 (wr.alloc (.cells #[.int .i64 qk1, .int .u64 qt1, .int .u64 qsq1, .int .u64 qa1, .slice qA1 qb1.length qc1] 26)) hrq2 hok0 hok1 hok2 hok3)
            clear hpr hrq hrq2 hq hok0 hok1 hok2 hok3 hpk
            go_upto_region 35 with fail
            generalize wr.alloc (.cells #[.int .i64 qk1, .int .u64 qt1, .int .u64 qsq1, .int .u64 qa1, .slice qA1 qb1.length qc1] 26) = wy at hX hbz2 HPACK ⊢
            generalize wr.heap.size = gy at hX ⊢
            clear e0 e1 e2 e3 e4 hbz wr
            have x0 := hX.cell 0
            have x1 := hX.cell 1
            have x2 := hX.cell 2
            have x3 := hX.cell 3
            have x4 := hX.cell 4
            simp at x0 x1 x2 x3 x4
            go_wp2_with fail
            refine HPACK.out.mono ?_
            rintro e wx8 ⟨v, rfl, hov, hbx⟩
            obtain ⟨A81, c81, rfl, -⟩ := OwnB.form hov
            have hbz3 := hbz2.trans (hbx.mono hbz2.size)
            generalize (packB qk1 qt1 qsq1 qa1 qb1).length = L8 at HSUM hle ⊢
            have HBZ := Lib.hid hbz3
            clear hov hbx hbz2 hX HPACK x0 x1 x2 x3 x4 hbz3
            go_wp2_with fail
            go_roundw
            case rel => exact ⟨jj + 1, T + L8, hlt, by go_num, by go_num, by rw [HSUM.out, HT.out], HBZ.out⟩
            case measure =>
              simp [intOf]
              exact meas3 hlt
          · obtain rfl : jj = qs8.length := by omega
            have HTT : Hid (T = T1) := Lib.hid (by rw [HT.out, sum_all HQ8.out]; exact HT1.out)
            rw [HTT.out]
            have HBZ := Lib.hid hbz
            clear hbz hlt hj
            go_wp2_with fail
            go_meet
            exact ⟨_, rfl, rfl, HBZ.out⟩
      case rest =>
      obtain ⟨w9, rfl, rfl, hb9⟩ := hcut
      have HFB9 := Lib.hid (HFB8.out.grown0 (only_of_below hb9 none))
      clear hb9 HFB8 HPR8
      have HF := Lib.hid (HFB9.out.call1 (c := cf) (by omega) (rd_keepB HFR7.out (Nat.le_of_lt HGL7.out) HFB9.out.1.1) (by have := HFL.out; omega))
      go_wp2_with fail
      refine HF.out.mono ?_
      rintro e w10 ⟨V10, qs10, K10, M10, rfl, hq10, hp10, hb10, ho10, hM10, hM101, hqM10, hG10⟩
      have hfd := HFB9.out.1.fed hG10
      obtain ⟨A10, n10, rfl, hn10⟩ := hp10.len
      have hr10 := hp10.prd.2.1
      have hs10 := hfd.1.size
      have hl10 : qs10.length ≤ 100000 := by
        have h1 := len_of_map hq10
        have h2 := feed_num ((feed raw).2.1 ++ fB)
        have h3 := (feed_all raw).1
        have h4 := HFL.out
        rw [List.length_append] at h2
        omega
      have HRR := Lib.hid (row_room (p := qs8.length) (q := qs10.length) (by omega) (by omega))
      have HP10 := Lib.hid (And.intro hq10 (And.intro hp10 (And.intro hb10 (And.intro ho10 (And.intro hM10 (And.intro hM101 (And.intro hqM10 hG10)))))))
      have HFD := Lib.hid hfd
      have HR10 := Lib.hid hr10
      have HS10 := Lib.hid hs10
      clear HF hq10 hp10 hb10 ho10 hM10 hM101 hqM10 hG10 hfd hr10 hs10 hn10 hl10
      go_upto_region 39 with (at_builtin; refine wpList_appF rfl (.tmp 139) (.tmp 142) 67 rfl w7.heap.size 26 _ 5 56 info26 Try.underlying67 rfl (by decide) (.slice A8 qs8.length n8) qs8.length _ rfl HFD.out.2.1 _ A10 qs10.length n10 _ rfl HR10.out (pq_one _) HRR.out.1 HRR.out.2 HS10.out ?_; intro V11 w11 hown11 happ11; obtain ⟨A11', c11', rfl⟩ := own_form hown11)
      obtain ⟨hq10, hp10, hb10, ho10, hM10, hM101, hqM10, hG10⟩ := HP10.out
      have HFB11 := Lib.hid (HFB9.out.told (y := fB) hG10 hq10 hp10 hb10 ho10 hM10 hM101 hqM10 happ11 hown11)
      obtain ⟨ps11, HPS11⟩ : ∃ ps11, Hid (qs8 ++ qs10 = ps11) := ⟨_, rfl⟩
      have hpl11 : qs8.length + qs10.length = ps11.length := by rw [← HPS11.out, List.length_append]
      rw [HPS11.out, hpl11] at HFB11
      rw [hpl11]
      clear hpl11 hq10 hp10 hb10 ho10 hM10 hM101 hqM10 hG10 hown11 happ11 HFB9 HP10 HFD HR10 HS10 HRR HPS11 hq8l
      obtain ⟨oz, Z, hZl, hmk, hzr⟩ := make_zeros
      have HZL := Lib.hid hZl
      have HZR := Lib.hid hzr
      have HFB12 := Lib.hid (HFB11.out.grown0 (only_alloc (World.grownBy.refl w11 none) (.cells oz 5)))
      have hpl12 : ps11.length ≤ 10000 := by have h1 := HFB11.out.plen1; have h2 := HFL.out; rw [List.length_append] at h1; omega
      have HPL12 := Lib.hid hpl12
      have hxl : (raw ++ fB).length ≤ 10000 := by have h2 := HFL.out; rw [List.length_append]; omega
      have HXL := Lib.hid hxl
      have HF := Lib.hid (HFB12.out.call1 (c := 1088) (by omega) ((HZR.out w11).more (by simp)) (by omega))
      clear hZl hzr hpl12 hxl HFB11
      go_wp2_with fail
      clear hmk
      refine HF.out.mono ?_
      rintro e w13 ⟨V13, qs13, K13, M13, rfl, hq13, hp13, hb13, ho13, hM13, hM131, hqM13, hG13⟩
      have hfd := HFB12.out.1.fed hG13
      obtain ⟨A13, n13, rfl, hn13⟩ := hp13.len
      have hr13 := hp13.prd.2.1
      have hs13 := hfd.1.size
      have hl13 : qs13.length ≤ 100000 := by
        have h1 := len_of_map hq13
        have h2 := feed_num ((feed (raw ++ fB)).2.1 ++ Z)
        have h3 := (feed_all (raw ++ fB)).1
        have h4 := HZL.out
        have h5 := HXL.out
        rw [List.length_append] at h2
        omega
      have HRR := Lib.hid (row_room (p := ps11.length) (q := qs13.length) (by have := HPL12.out; omega) (by omega))
      have HP13 := Lib.hid (And.intro hq13 (And.intro hp13 (And.intro hb13 (And.intro ho13 (And.intro hM13 (And.intro hM131 (And.intro hqM13 hG13)))))))
      have HFD := Lib.hid hfd
      have HR13 := Lib.hid hr13
      have HS13 := Lib.hid hs13
      clear HF hq13 hp13 hb13 ho13 hM13 hM131 hqM13 hG13 hfd hr13 hs13 hn13 hl13
      go_upto_region 40 with (at_builtin; refine wpList_appF rfl (.tmp 144) (.tmp 147) 67 rfl w7.heap.size 26 _ 5 56 info26 Try.underlying67 rfl (by decide) (.slice A11' ps11.length c11') ps11.length _ rfl HFD.out.2.1 _ A13 qs13.length n13 _ rfl HR13.out (pq_one _) HRR.out.1 HRR.out.2 HS13.out ?_; intro V14 w14 hown14 happ14; obtain ⟨A14, c14, rfl⟩ := own_form hown14)
      obtain ⟨hq13, hp13, hb13, ho13, hM13, hM131, hqM13, hG13⟩ := HP13.out
      have hfb14 := HFB12.out.told (y := Z) hG13 hq13 hp13 hb13 ho13 hM13 hM131 hqM13 happ14 hown14
      obtain ⟨ps14, HPS14⟩ : ∃ ps14, Hid (ps11 ++ qs13 = ps14) := ⟨_, rfl⟩
      have hpl14 : ps11.length + qs13.length = ps14.length := by rw [← HPS14.out, List.length_append]
      rw [HPS14.out, hpl14] at hfb14
      rw [hpl14]
      obtain ⟨X, HX⟩ : ∃ X, Hid (raw ++ fB ++ Z = X) := ⟨_, rfl⟩
      have HXX : Hid (X.length ≤ 20000) := Lib.hid (by rw [← HX.out, List.length_append]; have := HXL.out; have := HZL.out; omega)
      have HMORE : Hid (T1 < ((feed X).1.map packLen).sum) := Lib.hid (by rw [← HT1.out, ← HX.out, HFM.out]; exact finds_more HOK.out (by have := HZL.out; omega))
      rw [HX.out] at hfb14
      have HQ14 : Hid (ps14.map (·.1) = (feed X).1) := Lib.hid hfb14.1.2.2.2.2.2.2.2
      have HPR14 : Hid (PRd w14 A14 ps14) := Lib.hid hfb14.1.2.2.2.2.2.1.prd.2
      have HB514 : Hid (Below w5.heap.size w5 w14) := Lib.hid (hfb14.1.bel HB57.out HG5.out)
      have HBW14 : Hid (Below w.heap.size w w14) := Lib.hid (HBE.out.trans (HB514.out.mono HBE.out.size))
      have hp14l : ps14.length ≤ 20000 := by rw [len_of_map HQ14.out]; exact Nat.le_trans (feed_num X) HXX.out
      obtain ⟨T2, HT2⟩ : ∃ T2, Hid (((feed X).1.map packLen).sum = T2) := ⟨_, rfl⟩
      rw [HT2.out] at HMORE
      clear hpl14 hq13 hp13 hb13 ho13 hM13 hM131 hqM13 hG13 hown14 happ14 hfb14 HFB12 HP13 HFD HR13 HS13 HRR HPS14 HXL HZL HZR HPL12 HX HFL HFM HFR7 HGL7 HT1 hrl HBW7 HB57 HG5 HRW
      go_upto_block 6 with fail
      go_cut [151] (fun s wx => ∃ wz s', wz = wx ∧ s' = s ∧ Below w14.heap.size w14 wz)
      case first =>
        go_wp2_with fail
        go_loopw [151] (fun i wr => ∃ j : Nat, j ≤ ps14.length ∧ i = .int .i64 j ∧ Below w14.heap.size w14 wr) (fun i _ => ps14.length - (intOf i).toNat)
        case atStart => exact ⟨0, Nat.zero_le _, rfl, Below.refl _ _⟩
        case round =>
          obtain ⟨jj, hj, rfl, hbz⟩ := hrel
          by_cases hlt : jj < ps14.length
          · have hpr := HPR14.out.below hbz
            obtain ⟨bb1, off1, q, hA, hq, e0, e1, e2, e3, e4⟩ := hpr.at5 hlt
            subst hA
            have hrq := hpr.2 q (List.mem_of_getElem? hq)
            have hb5r : Below w5.heap.size w5 wr := HB514.out.trans (hbz.mono HB514.out.size)
            obtain ⟨d0, d1, d2, d3, d4⟩ := HE.out
            have hlt5 := World.block_lt_of_cell? _ _ d0
            have hlt0 := hlt5
            obtain ⟨⟨qk1, qt1, qsq1, qa1, qb1⟩, qA1, qc1⟩ := q
            dsimp only at e0 e1 e2 e3 e4 hrq
            have l0 : (0 : Int) < (ss.length : Int) := by have := HS0.out; omega
            have l0' : 0 < ss.length := HS0.out
            have l1 : (0 : Int) ≤ (jj : Int) := by omega
            have l2 : (jj : Int) < (ps14.length : Int) := by omega
            have hwy5 := hb5r.alloc hb5r.size (.cells #[.int .i64 qk1, .int .u64 qt1, .int .u64 qsq1, .int .u64 qa1, .slice qA1 qb1.length qc1] 26)
            have hX := Blk.new wr 26 #[.int .i64 qk1, .int .u64 qt1, .int .u64 qsq1, .int .u64 qa1, .slice qA1 qb1.length qc1]
            have HBX := Lib.hid (hbz.alloc hbz.size (.cells #[.int .i64 qk1, .int .u64 qt1, .int .u64 qsq1, .int .u64 qa1, .slice qA1 qb1.length qc1] 26))
            have HRA : Hid (RdB (wr.alloc (.cells #[.int .i64 qk1, .int .u64 qt1, .int .u64 qsq1, .int .u64 qa1, .slice qA1 qb1.length qc1] 26)) (wr.alloc (.cells #[.int .i64 qk1, .int .u64 qt1, .int .u64 qsq1, .int .u64 qa1, .slice qA1 qb1.length qc1] 26)).heap.size qA1 qb1.length qb1) := Lib.hid ((hrq.alloc (Nat.le_refl _) _).more (by simp))
            clear hpr hq hrq hbz
            go_upto_region 43 with fail
            generalize wr.alloc (.cells #[.int .i64 qk1, .int .u64 qt1, .int .u64 qsq1, .int .u64 qa1, .slice qA1 qb1.length qc1] 26) = wy at hX hwy5 HBX HRA ⊢
            generalize wr.heap.size = gy at hX ⊢
            clear e0 e1 e2 e3 e4 hb5r wr
            have HRB := Lib.hid ((HRQ.out.below hwy5).more hwy5.size)
            have f0 := (hwy5.cell (p := ⟨bb, off, none⟩) hlt5).trans d0
            have f1 := (hwy5.cell (p := ⟨bb, off + 1, none⟩) hlt5).trans d1
            have f2 := (hwy5.cell (p := ⟨bb, off + 2, none⟩) hlt5).trans d2
            have f3 := (hwy5.cell (p := ⟨bb, off + 3, none⟩) hlt5).trans d3
            have f4 := (hwy5.cell (p := ⟨bb, off + 4, none⟩) hlt5).trans d4
            have x0 := hX.cell 0
            have x1 := hX.cell 1
            have x2 := hX.cell 2
            have x3 := hX.cell 3
            have x4 := hX.cell 4
            simp at x0 x1 x2 x3 x4
            have HSAME := Lib.hid (same_any (qk1 : Int) qk qt1 qt qsq1 qq qa1 qa qA1 qA qb1.length qb.length qc1 qc wy.heap.size wy.heap.size qb1 qb wy.drew HRA.out.drew HRB.out.drew (by simp) (by simp))
            clear d0 d1 d2 d3 d4 hlt5 hlt0 hX hwy5
            go_still_tail 4, (by kernel_rfl)
            change wpList _ _ _ _ _ wy.drew
            generalize hwz : wy.drew = wz at HSAME ⊢
            have HBZ : Hid (Below w14.heap.size w14 wz) := Lib.hid (by rw [← hwz]; exact HBX.out.drew)
            clear hwz f0 f1 f2 f3 f4 x0 x1 x2 x3 x4 HBX HRA HRB wy
            cases hsb : sameB (qk1 : Int) qk qt1 qt qsq1 qq qa1 qa qb1 qb
            · rw [hsb] at HSAME
              clear hsb
              go_wp2_with fail
              refine HSAME.out.mono ?_
              rintro e wq ⟨rfl, hwq⟩
              have HBQ : Hid (Below w14.heap.size w14 wq) := Lib.hid (by rw [← hwq]; exact (HBZ.out.alloc HBZ.out.size _).alloc (by have := HBZ.out.size; simp; omega) _)
              clear hwq HSAME HBZ
              go_wp2_with fail
              go_roundw
              case rel => exact ⟨jj + 1, by omega, by go_num, HBQ.out⟩
              case measure => simp [intOf]; omega
            · rw [hsb] at HSAME
              clear hsb
              go_wp2_with fail
              refine HSAME.out.mono ?_
              rintro e wq ⟨rfl, hwq⟩
              have HBQ : Hid (Below w14.heap.size w14 wq) := Lib.hid (by rw [← hwq]; exact (HBZ.out.alloc HBZ.out.size _).alloc (by have := HBZ.out.size; simp; omega) _)
              have HEND := Lib.hid (HBW14.out.trans (HBQ.out.mono HBW14.out.size))
              clear hwq HSAME HBZ
              go_wp2_with fail
              go_ret
              exact ⟨rfl, HEND.out⟩
          · have HBZ := Lib.hid hbz
            clear hbz
            go_wp2_with fail
            go_meet
            exact ⟨_, _, rfl, rfl, HBZ.out⟩
      case rest =>
      obtain ⟨w15, s151, rfl, rfl, hb15⟩ := hcut
      have HPR15 := Lib.hid (HPR14.out.below hb15)
      have HBW15 := Lib.hid (HBW14.out.trans (hb15.mono HBW14.out.size))
      clear hb15 HPR14 HB514 HBW14 HE HRQ
      go_upto_block 8 with fail
      go_cut [28] (fun v wx => ∃ wz, wz = wx ∧ v = .int .i64 (T2 : Int) ∧ Below w15.heap.size w15 wz)
      case first =>
        go_wp2_with fail
        go_loopw [28, 163] (fun nn i wr => ∃ j T : Nat, j ≤ ps14.length ∧ i = .int .i64 j ∧ nn = .int .i64 (T : Int) ∧ T = ((ps14.take j).map fun q => packLen q.1).sum ∧ Below w15.heap.size w15 wr) (fun _ i _ => ps14.length - (intOf i).toNat)
        case atStart => exact ⟨0, 0, Nat.zero_le _, rfl, rfl, by simp, Below.refl _ _⟩
        case round =>
          obtain ⟨jj, T, hj, rfl, rfl, hT, hbz⟩ := hrel
          have HT := Lib.hid hT
          clear hT
          by_cases hlt : jj < ps14.length
          · have hpr := HPR15.out.below hbz
            obtain ⟨bb1, off1, q, hA, hq, e0, e1, e2, e3, e4⟩ := hpr.at5 hlt
            subst hA
            have hrq := (hpr.2 q (List.mem_of_getElem? hq))
            have HSUM : Hid (((ps14.take (jj + 1)).map fun q => packLen q.1).sum = ((ps14.take jj).map fun q => packLen q.1).sum + packLen q.1) := Lib.hid (by rw [List.take_add_one, hq]; simp)
            have hok := (feed_all X).2 q.1 (by rw [← HQ14.out]; exact List.mem_map_of_mem (List.mem_of_getElem? hq))
            have hle : T + packLen q.1 ≤ 20000 := Nat.le_trans (sum_le HQ14.out (feed_tot X) HT.out HSUM.out) HXX.out
            obtain ⟨⟨qk1, qt1, qsq1, qa1, qb1⟩, qA1, qc1⟩ := q
            dsimp only at e0 e1 e2 e3 e4 hrq hok
            obtain ⟨hok0, hok1, hok2, hok3⟩ := hok
            dsimp only at hok0 hok1 hok2 hok3
            have hpk : packLen ⟨qk1, qt1, qsq1, qa1, qb1⟩ = (packB qk1 qt1 qsq1 qa1 qb1).length := rfl
            rw [hpk] at hle HSUM
            have l1 : (0 : Int) ≤ (jj : Int) := by omega
            have l2 : (jj : Int) < (ps14.length : Int) := by omega
            have hX := Blk.new wr 26 #[.int .i64 qk1, .int .u64 qt1, .int .u64 qsq1, .int .u64 qa1, .slice qA1 qb1.length qc1]
            have hbz2 := hbz.alloc hbz.size (.cells #[.int .i64 qk1, .int .u64 qt1, .int .u64 qsq1, .int .u64 qa1, .slice qA1 qb1.length qc1] 26)
            have hrq2 := (hrq.alloc (Nat.le_refl _) (.cells #[.int .i64 qk1, .int .u64 qt1, .int .u64 qsq1, .int .u64 qa1, .slice qA1 qb1.length qc1] 26)).more (B' := (wr.alloc (.cells #[.int .i64 qk1, .int .u64 qt1, .int .u64 qsq1, .int .u64 qa1, .slice qA1 qb1.length qc1] 26)).heap.size) (by simp)
            have HPACK := Lib.hid (pack_ok (qk1 : Int) qt1 qsq1 qa1 qA1 qb1.length qc1 qb1 (wr.alloc (.cells #[.int .i64 qk1, .int .u64 qt1, .int .u64 qsq1, .int .u64 qa1, .slice qA1 qb1.length qc1] 26)) hrq2 hok0 hok1 hok2 hok3)
            clear hpr hrq hrq2 hq hok0 hok1 hok2 hok3 hpk
            go_upto_region 50 with fail
            generalize wr.alloc (.cells #[.int .i64 qk1, .int .u64 qt1, .int .u64 qsq1, .int .u64 qa1, .slice qA1 qb1.length qc1] 26) = wy at hX hbz2 HPACK ⊢
            generalize wr.heap.size = gy at hX ⊢
            clear e0 e1 e2 e3 e4 hbz wr
            have x0 := hX.cell 0
            have x1 := hX.cell 1
            have x2 := hX.cell 2
            have x3 := hX.cell 3
            have x4 := hX.cell 4
            simp at x0 x1 x2 x3 x4
            go_wp2_with fail
            refine HPACK.out.mono ?_
            rintro e wx8 ⟨v, rfl, hov, hbx⟩
            obtain ⟨A81, c81, rfl, -⟩ := OwnB.form hov
            have hbz3 := hbz2.trans (hbx.mono hbz2.size)
            generalize (packB qk1 qt1 qsq1 qa1 qb1).length = L8 at HSUM hle ⊢
            have HBZ := Lib.hid hbz3
            clear hov hbx hbz2 hX HPACK x0 x1 x2 x3 x4 hbz3
            go_wp2_with fail
            go_roundw
            case rel => exact ⟨jj + 1, T + L8, hlt, by go_num, by go_num, by rw [HSUM.out, HT.out], HBZ.out⟩
            case measure =>
              simp [intOf]
              exact meas3 hlt
          · obtain rfl : jj = ps14.length := by omega
            have HTT : Hid (T = T2) := Lib.hid (by rw [HT.out, sum_all HQ14.out]; exact HT2.out)
            rw [HTT.out]
            have HBZ := Lib.hid hbz
            clear hbz hlt hj
            go_wp2_with fail
            go_meet
            exact ⟨_, rfl, rfl, HBZ.out⟩
      case rest =>
      obtain ⟨w16, rfl, rfl, hb16⟩ := hcut
      have HEND := Lib.hid (HBW15.out.trans (hb16.mono HBW15.out.size))
      have d2 : T1 < T2 := HMORE.out
      have D2 := Lib.hid d2
      clear hb16 HPR15 HBW15 d2
      go_wp2_with fail
      go_ret
      refine ⟨?_, HEND.out⟩
      show Ending.returned (.bool (decide (T1 < T2))) = _
      rw [decide_eq_true D2.out]
set_option maxRecDepth 100000 in
set_option maxHeartbeats 2000000 in
theorem finds_long (haw : ∀ w : World, Calls Try.prog 17 #[] w fun e w' => e = .returned (.bool true) ∧ Below w.heap.size w w') (A : Option Addr) (n c : Nat) (N : Value) (R : Value) (w : World) (hn : 50 < n) (hN : ∃ A n c, N = .slice A n c) (hR : ∃ A n c, R = .slice A n c) :
    Calls Try.prog 7 #[.slice A n c, N, R] w fun e w' => e = .returned (.bool true) ∧ Below w.heap.size w w' := by
  obtain ⟨An, nn, cn, rfl⟩ := hN
  obtain ⟨Ar, nr, cr, rfl⟩ := hR
  have HAW := Lib.hid haw
  clear haw
  have l1 : (50 : Int) < (n : Int) := by omega
  go_enter Try.func7, Try.ntmps7
  go_wp2_with fail
  refine (HAW.out w).mono ?_
  rintro e w1 ⟨rfl, hb1⟩
  go_wp2_with fail
  go_ret
  exact ⟨rfl, hb1⟩
end Go.Proofs.Ytijcnefomgfocaa
