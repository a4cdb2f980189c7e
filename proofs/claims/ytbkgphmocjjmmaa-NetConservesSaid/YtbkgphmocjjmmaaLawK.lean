/-
  The walk of the law NetConserves f8.
-/
import Derived.Test.YtbkgphmocjjmmaaNwF
namespace Go.Proofs.Ytbkgphmocjjmmaa
open Go.RowKit

set_option maxRecDepth 100000 in
set_option maxHeartbeats 16000000 in
theorem cons_any (limit : Int) (A : Option Addr) (n c : Nat) (ac : List Ac) (w : World) (h1 : 1 ≤ limit) (h2 : limit ≤ 64) (ha : ActsAt w w.heap.size A n ac) (hn : n ≤ 2199023255488) (hbl : ∀ a ∈ ac, a.b.length ≤ 140737488351232) :
    Calls Try.prog 8 #[.int .i64 limit, .slice A n c] w (AwP w) := by
  have hlen := ha.1
  have HN := Lib.hid (new_ok limit w h1 h2)
  have HA := Lib.hid ha
  have HBL := Lib.hid hbl
  have HOK := Lib.hid (Ns.new_ok h1 h2 0 (by omega))
  have l1 : ¬ limit < 1 := by omega
  have l2 : ¬ 64 < limit := by omega
  clear ha hbl h1 h2
  subst hlen
  have hmm := @run_makeMap Try.prog
  go_enter Try.func8, Try.ntmps8
  go_wp2_with fail
  refine HN.out.mono ?_
  intro e w1 hn1
  obtain ⟨rfl, -⟩ := frn_first hn1
  have HN1 := Lib.hid hn1
  clear hn1 HN
  go_wp2_with fail
  refine (num_any _ _).mono ?_
  rintro e w' ⟨rfl, rfl⟩
  go_wp2_with fail
  refine (awake_any _).mono ?_
  rintro e w2 ⟨rfl, hb2⟩
  have HS := Lib.hid (cs_start HN1.out hb2)
  clear hb2 HN1
  have HMM : ∃ gg, Hid (w.heap.size = gg) := ⟨_, rfl⟩
  obtain ⟨g, HG⟩ := HMM
  rw [HG.out] at HS
  rw [HG.out]
  go_wp2_with fail
  generalize w2.alloc (.map #[] 0) = w3 at HS ⊢
  generalize w2.heap.size = mb at HS ⊢
  clear hmm
  go_loopg [8, 9, 10] ac.length (fun f s8 s9 s10 wr => ∃ (k : Nat) (S : Ns) (v : Bool → Value) (l : Bool → List LP) (ms : List Wm), k + f = ac.length ∧ s10 = .int .i64 k ∧ s8 = .int .i64 S.epoch ∧ s9 = .int .i64 S.number ∧ CsX w g S v l mb ms wr ∧ Book S (ms.map Wm.p) ∧ S.ok (128 * (k : Int)) ∧ S.sm ∧ ms.length ≤ k)
  case atStart => exact ⟨0, Ns.new limit, _, _, [], by omega, rfl, rfl, rfl, HS.out, Book.new limit, by simpa using HOK.out, Ns.new_sm limit, by simp⟩
  case round =>
    obtain ⟨k, S, v, l, ms, hkf, rfl, rfl, rfl, hcs, hbk, hok, hsm, hml⟩ := hrel
    have HKF := Lib.hid hkf
    have HCS := Lib.hid hcs
    have HBK := Lib.hid hbk
    have HK := Lib.hid hok
    have HSM := Lib.hid hsm
    have HML := Lib.hid hml
    clear hcs hbk hok hsm hml HS HOK
    by_cases hkn : k < ac.length
    · obtain ⟨a, ha⟩ : ∃ a, ac[k]? = some a := ⟨_, List.getElem?_eq_getElem hkn⟩
      obtain ⟨b, o, Ai, ci, hA, hb, hc, hr⟩ := HA.out.2 k a ha
      have hbw : Below w.heap.size w wr := HCS.out.net.old
      have HRD := Lib.hid (hr.below hbw)
      have HLE : Hid (w.heap.size ≤ wr.heap.size) := Lib.hid hbw.size
      have HAB := Lib.hid (HBL.out a (List.mem_of_getElem? ha))
      have u0 : wr.cell? ⟨b, o + k * 6, none⟩ = some (.int .i64 a.k) := (hbw.cell (p := ⟨b, o + k * 6, none⟩) hb).trans (hc 0 _ rfl)
      have u1 : wr.cell? ⟨b, o + k * 6 + 1, none⟩ = some (.int .i64 a.z) := (hbw.cell (p := ⟨b, o + k * 6 + 1, none⟩) hb).trans (hc 1 _ rfl)
      have u2' : wr.cell? ⟨b, o + k * 6 + 2, none⟩ = some (.int .i64 a.i) := (hbw.cell (p := ⟨b, o + k * 6 + 2, none⟩) hb).trans (hc 2 _ rfl)
      have u3' : wr.cell? ⟨b, o + k * 6 + 3, none⟩ = some (.int .i64 a.j) := (hbw.cell (p := ⟨b, o + k * 6 + 3, none⟩) hb).trans (hc 3 _ rfl)
      have u4' : wr.cell? ⟨b, o + k * 6 + 4, none⟩ = some (.int .u8 (a.m.toNat : Int)) := (hbw.cell (p := ⟨b, o + k * 6 + 4, none⟩) hb).trans (hc 4 _ rfl)
      have u5' : wr.cell? ⟨b, o + k * 6 + 5, none⟩ = some (.slice Ai a.b.length ci) := (hbw.cell (p := ⟨b, o + k * 6 + 5, none⟩) hb).trans (hc 5 _ rfl)
      have l3 : (0 : Int) ≤ (k : Int) := by omega
      have l4 : (k : Int) < (ac.length : Int) := by omega
      have HKN := Lib.hid hkn
      clear ha hb hc hr hbw hkf
      subst hA
      go_upto_region 13 with fail
      have HX1 := Lib.hid (HCS.out.below (al1 wr (.cells (a.cs Ai a.b.length ci) 55)))
      have HX0 : Hid (Blk (wr.alloc (.cells (a.cs Ai a.b.length ci) 55)) wr.heap.size 55 (a.cs Ai a.b.length ci)) := Lib.hid (Blk.new _ _ _)
      have HR1 := Lib.hid (HRD.out.alloc HLE.out (.cells (a.cs Ai a.b.length ci) 55))
      have HNS : Hid (¬ NetF g v l wr.heap.size) := Lib.hid (fun e => by have := HCS.out.net.net.lt e; omega)
      clear u0 u1 u2' u3' u4' u5' HCS HRD HLE
      unfold Ac.cs at HX1 HX0 HR1
      generalize wr.alloc (.cells #[.int .i64 a.k, .int .i64 a.z, .int .i64 a.i, .int .i64 a.j, .int .u8 (a.m.toNat : Int), .slice Ai a.b.length ci] 55) = w4 at *
      generalize wr.heap.size = sb at *
      have x0 := HX0.out.cell 0
      have x1 := HX0.out.cell 1
      have x2 := HX0.out.cell 2
      have hsb := HX0.out.lt
      simp only [List.getElem?_toArray, List.getElem?_cons_zero, List.getElem?_cons_succ] at x0 x1 x2
      go_upto_region 15 with fail
      go_cut [68] (fun s68 wx => wx = w4 ∧ s68 = .bool (inK a))
      case first => as_aux_lemma =>
        by_cases q1 : 4 ≤ a.k
        · by_cases q2 : a.k ≤ 8
          · by_cases q3 : 0 ≤ a.i
            · have HV : Hid (inK a = true) := Lib.hid (by simp [inK, q1, q2, q3])
              go_wp2_with fail
              go_meet
              exact ⟨rfl, by rw [HV.out]⟩
            · have HV : Hid (inK a = false) := Lib.hid (by simp [inK, q1, q2, q3])
              go_wp2_with fail
              go_meet
              exact ⟨rfl, by rw [HV.out]⟩
          · have HV : Hid (inK a = false) := Lib.hid (by simp [inK, q1, q2])
            go_wp2_with fail
            go_meet
            exact ⟨rfl, by rw [HV.out]⟩
        · have HV : Hid (inK a = false) := Lib.hid (by simp [inK, q1])
          go_wp2_with fail
          go_meet
          exact ⟨rfl, by rw [HV.out]⟩
      case rest =>
        obtain ⟨rfl, rfl⟩ := hcut
        go_upto_if 68 with fail
        go_cut [13] (fun s13 wx => ∃ wz z, wz = wx ∧ s13 = .int .i64 z ∧ FromP S a z ∧ Below wc.heap.size wc wz)
        case first => as_aux_lemma =>
          cases hin : inK a with
          | false =>
            have HF : Hid (FromP S a 0) := Lib.hid (FromP.off hin)
            clear hin
            go_wp2_with fail
            go_meet
            exact ⟨_, 0, rfl, rfl, HF.out, Below.refl _ _⟩
          | true =>
            have hin2 : 4 ≤ a.k ∧ a.k ≤ 8 ∧ 0 ≤ a.i := by simpa [inK] using hin
            clear hin
            obtain ⟨_, _, q3⟩ := hin2
            have q4 : ¬ a.i < 0 := by omega
            cases hz : sideB a.z with
            | false =>
              have HF : Hid (FromP S a 0) := Lib.hid (fun s i q _ _ h5 _ _ => by rw [h5, sideN_ok] at hz; cases hz)
              have HU := Lib.hid (under_no (some ⟨g, 0, none⟩) a.z wc (.inl hz))
              clear hz
              go_wp2_with fail
              refine HU.out.mono ?_
              rintro e w' ⟨rfl, rfl⟩
              go_wp2_with fail
              go_meet
              exact ⟨_, 0, rfl, rfl, HF.out, Below.refl _ _⟩
            | true =>
              obtain ⟨s, hs⟩ := sideB_of _ hz
              have HU := Lib.hid ((under_any g S v l (128 * (k : Int)) s wc HX1.out.net.net HK.out (fun p hp => by have := HSM.out s p hp; omega)).mono fun _ _ h => UnP.lk h)
              rw [← hs] at HU
              obtain ⟨ii, hii⟩ : ∃ ii : Nat, a.i = ii := ⟨a.i.toNat, by omega⟩
              rw [hii] at x2
              have HSS := Lib.hid hs
              have HII := Lib.hid hii
              clear hz q4 hs hii q3
              go_wp2_with fail
              refine HU.out.mono ?_
              rintro e w5 ⟨A5, c5, rfl, hb5, hp5⟩
              have HB5 := Lib.hid hb5
              have HP5 := Lib.hid hp5
              have y2 : w5.cell? ⟨sb, 2, none⟩ = some (.int .i64 (ii : Int)) := (hb5.cell (p := ⟨sb, 2, none⟩) hsb).trans x2
              have hsb5 : sb < w5.heap.size := by have := hb5.size; omega
              clear hb5 hp5 HU
              by_cases hlt : ii < (S.u s).length
              · obtain ⟨q, hq⟩ : ∃ q, (S.u s)[ii]? = some q := ⟨_, List.getElem?_eq_getElem hlt⟩
                obtain ⟨gb, B1, d1, rfl, lgb, z0, _, _⟩ := HP5.out.at_ hq
                have HF : Hid (FromP S a q.num) := Lib.hid (fun s' i' q' _ _ h5 h6 h7 => by
                  have hs := HSS.out
                  have hii := HII.out
                  have e1 : s' = s := by
                    rw [hs] at h5; cases s <;> cases s' <;> simp [sideN] at h5 <;> rfl
                  subst e1
                  have e2 : i' = ii := by omega
                  subst e2
                  rw [hq] at h7; injection h7 with h7; rw [h7])
                have hlt2 : (ii : Int) < ((S.u s).length : Int) := by omega
                have hl0 : (0 : Int) ≤ (ii : Int) := by omega
                clear hq
                go_wp2_with fail
                go_meet
                exact ⟨_, q.num, rfl, rfl, HF.out, HB5.out⟩
              · have HF : Hid (FromP S a 0) := Lib.hid (fun s' i' q' _ _ h5 h6 h7 => by
                  have hs := HSS.out
                  have hii := HII.out
                  have e1 : s' = s := by
                    rw [hs] at h5; cases s <;> cases s' <;> simp [sideN] at h5 <;> rfl
                  subst e1
                  have := (List.getElem?_eq_some_iff.1 h7).1
                  omega)
                have hlt2 : ¬ (ii : Int) < ((S.u s).length : Int) := by omega
                go_wp2_with fail
                go_meet
                exact ⟨_, 0, rfl, rfl, HF.out, HB5.out⟩
        case rest =>
          obtain ⟨w5, z, rfl, rfl, hfp, hb5⟩ := hcut
          have HFP := Lib.hid hfp
          have HX5 := Lib.hid (HX1.out.below hb5)
          have HAB5 := Lib.hid (HX0.out.below hb5 hsb)
          have HRD5 := Lib.hid (HR1.out.below (hb5.mono HX1.out.net.old.size))
          have hsb5 : sb < w5.heap.size := by have := hb5.size; omega
          clear hfp hb5 HX1 HX0 HR1 x0 x1 x2 hsb
          obtain ⟨S', num, bb, er, hA⟩ := ActC.any HK.out a
          have HA' := Lib.hid hA
          have HOK' := Lib.hid (hA.ok HK.out HSM.out)
          clear hA
          have x0 : w5.cell? ⟨sb, 0, none⟩ = some (.int .i64 a.k) := HAB5.out.cell 0
          have x1 : w5.cell? ⟨sb, 1, none⟩ = some (.int .i64 a.z) := HAB5.out.cell 1
          have x2 : w5.cell? ⟨sb, 2, none⟩ = some (.int .i64 a.i) := HAB5.out.cell 2
          have x3 : w5.cell? ⟨sb, 3, none⟩ = some (.int .i64 a.j) := HAB5.out.cell 3
          have x4 : w5.cell? ⟨sb, 4, none⟩ = some (.int .u8 (a.m.toNat : Int)) := HAB5.out.cell 4
          have x5 : w5.cell? ⟨sb, 5, none⟩ = some (.slice Ai a.b.length ci) := HAB5.out.cell 5
          have HT := Lib.hid (twinr_any (some ⟨w5.heap.size, 0, none⟩) 1 1 [a] _ (one_act (c := ci) HRD5.out HX5.out.net.old.size) (by omega) (fun a' ha' => by rw [List.mem_singleton] at ha'; subst ha'; exact HAB.out))
          unfold Ac.cs at HT
          go_wp2_with fail
          refine HT.out.mono ?_
          rintro e w6 ⟨v6, rfl, htw⟩
          obtain ⟨g6, c6, A6, d6, rfl, lg6, hc6, ho6, hb6⟩ := TwR.one htw
          have HX6 := Lib.hid (HX5.out.below (bt (al1 w5 _) hb6))
          have HAB6 := Lib.hid (HAB5.out.below (bt (al1 w5 _) hb6) hsb5)
          have HRD6 := Lib.hid (HRD5.out.below ((bt (al1 w5 _) hb6).mono HX5.out.net.old.size))
          have HACT := Lib.hid (act_net g S v l (128 * (k : Int)) a A6 a.b.length d6 w6.heap.size w6 HX6.out.net.net HK.out (by omega) HSM.out (OwnB.reads ho6 rfl) (Nat.le_refl _) (fun hn ad e hf => by
            have h1 := (World.ownsRow.lt ho6 ad.block (by rw [e]; rfl)).1
            have h2 := HX5.out.net.net.lt hf
            simp at h1
            omega) HA'.out)
          have y0 : w6.cell? ⟨g6, 0, none⟩ = some (.int .i64 a.k) := hc6 0 _ rfl
          have y1 : w6.cell? ⟨g6, 1, none⟩ = some (.int .i64 a.z) := hc6 1 _ rfl
          have y2 : w6.cell? ⟨g6, 2, none⟩ = some (.int .i64 a.i) := hc6 2 _ rfl
          have y3 : w6.cell? ⟨g6, 3, none⟩ = some (.int .i64 a.j) := hc6 3 _ rfl
          have y4 : w6.cell? ⟨g6, 4, none⟩ = some (.int .u8 (a.m.toNat : Int)) := hc6 4 _ rfl
          have y5 : w6.cell? ⟨g6, 5, none⟩ = some (.slice A6 a.b.length d6) := hc6 5 _ rfl
          have hsb6 : sb < w6.heap.size := HAB6.out.lt
          clear htw hc6 ho6 hb6 HX5 HAB5 HRD5 HT x0 x1 x2 x3 x4 x5 hsb5
          unfold actV at HACT
          go_wp2_with fail
          refine HACT.out.mono ?_
          rintro e w7 ⟨v7, l7, At, ct, rfl, hn7, hsub7, hc7, ho7, hf7⟩
          have HX8 := Lib.hid ((HX6.out.step hn7 hsub7 hc7).below (al1 w7 (.cells #[.int .i64 er, .int .i64 num, .slice At bb.length ct] 57)))
          have HTB : Hid (Blk (w7.alloc (.cells #[.int .i64 er, .int .i64 num, .slice At bb.length ct] 57)) w7.heap.size 57 #[.int .i64 er, .int .i64 num, .slice At bb.length ct]) := Lib.hid (Blk.new _ _ _)
          have HAB8 := Lib.hid ((hc7.blk HAB6.out HNS.out).alloc (.cells #[.int .i64 er, .int .i64 num, .slice At bb.length ct] 57))
          have HRD8 : Hid (RdB (w7.alloc (.cells #[.int .i64 er, .int .i64 num, .slice At bb.length ct] 57)) w.heap.size Ai a.b.length a.b) := Lib.hid ((HRD6.out.below (hc7.below HX6.out.net.old.size fun q hq e => by have := HX6.out.net.new q e; omega)).alloc (by have := hc7.size; have := HX6.out.net.old.size; omega) _)
          have HO8 : Hid (OwnB 5 (w7.alloc (.cells #[.int .i64 er, .int .i64 num, .slice At bb.length ct] 57)) 0 (.slice At bb.length ct) bb) := Lib.hid (World.ownsRow.alloc ho7 _)
          clear hn7 hsub7 hc7 ho7 hf7 HX6 HAB6 HRD6 HACT y0 y1 y2 y3 y4 y5 hsb6 lg6 HNS
          unfold toldV
          go_upto_region 20 with fail
          generalize w7.alloc (.cells #[.int .i64 er, .int .i64 num, .slice At bb.length ct] 57) = w8 at *
          generalize w7.heap.size = tb at *
          have t0 : w8.cell? ⟨tb, 0, none⟩ = some (.int .i64 er) := HTB.out.cell 0
          have htb := HTB.out.lt
          by_cases he : er = 0
          · subst he
            go_wp2_with fail
            refine (num_any _ _).mono ?_
            rintro e w' ⟨rfl, rfl⟩
            clear t0
            obtain ⟨wv, hl, hwv⟩ := HX8.out.lookup z
            have HWV := Lib.hid hwv
            clear hwv
            have hep := HK.out.ep
            have hnu := HK.out.nu
            have hep0 := hep.1
            have hep1 := hep.2
            have hnu0 := hnu.1
            have hnu1 := hnu.2
            clear hep hnu
            have HAZ := HA'.out.zero rfl
            clear HA'
            cases HAZ with
            | conn k0 hu => as_aux_lemma =>
              have e1 : (a.k == 1) = true := by rw [beq_iff_eq]; exact k0
              have e2 : (a.k == 2) = false := by rw [k0]; rfl
              have e3 : (a.k == 3) = false := by rw [k0]; rfl
              have e6 : (a.k == 6) = false := by rw [k0]; rfl
              have e4 : (a.k == 4) = false := by rw [k0]; rfl
              have e5 : (a.k == 5) = false := by rw [k0]; rfl
              have e8 : (a.k == 8) = false := by rw [k0]; rfl
              have q1 : decide (4 ≤ a.k) = false := by rw [k0]; rfl
              have HB9 := Lib.hid (HBK.out.conn hu)
              clear k0 hu
              go_upto_region 22 with fail
              go_quiet (fail)
              have HX9 := Lib.hid (HX8.out.below (below_drewN (Below.refl _ _) nq))
              generalize w8.drewN nq = w9 at HX9 ⊢
              go_wp2_with fail
              go_roundg (gk - 1)
              case measure => have := HKF.out; have := HKN.out; omega
              case rel => exact ⟨k + 1, S.conn, v7, l7, ms, by have := HKF.out; have := HKN.out; omega, by go_num, rfl, rfl, HX9.out, HB9.out, Ns.ok_mono HOK'.out.1 (by push_cast; omega), HOK'.out.2.1, by have := HML.out; omega⟩
            | cut k0 => as_aux_lemma =>
              have e1 : (a.k == 1) = false := by rw [k0]; rfl
              have e2 : (a.k == 2) = true := by rw [beq_iff_eq]; exact k0
              have e3 : (a.k == 3) = false := by rw [k0]; rfl
              have e6 : (a.k == 6) = false := by rw [k0]; rfl
              have e4 : (a.k == 4) = false := by rw [k0]; rfl
              have e5 : (a.k == 5) = false := by rw [k0]; rfl
              have e8 : (a.k == 8) = false := by rw [k0]; rfl
              have q1 : decide (4 ≤ a.k) = false := by rw [k0]; rfl
              have HB9 := Lib.hid HBK.out.cut
              clear k0
              go_upto_region 22 with fail
              go_quiet (fail)
              have HX9 := Lib.hid (HX8.out.below (below_drewN (Below.refl _ _) nq))
              generalize w8.drewN nq = w9 at HX9 ⊢
              have hrg := HX9.out.range
              have HRS := Lib.hid (RgX.start HX9.out).2
              have HRF := Lib.hid (RgX.start HX9.out).1
              clear hl htb HX8 HAB8 HTB HRD8 HO8
              go_wp2_with fail
              generalize w9.alloc (.mapIter (some mb) ms.length #[] ms.length) = w10 at HRS ⊢
              generalize w9.heap.size = N at HRS HRF ⊢
              clear hrg
              go_loopg [18] ms.length (fun f s18 wr => RgX w g S.cut v7 l7 mb ms N f wr)
              case atStart => exact HRS.out
              case round =>
                rcases RgX.next 0 HRF.out hrel with ⟨hn, hx⟩ | ⟨y, key, u, W1, hn, hen, c3, f3, hyl, hf, hnx⟩
                · obtain ⟨ms', hx1, hx2, hx3⟩ := hx
                  have HX1' := Lib.hid hx1
                  have HX2 := Lib.hid hx2
                  have HX3 := Lib.hid hx3
                  clear hx1 hx2 hx3 hrel HRS
                  go_wp2_with fail
                  go_roundg (ac.length - k - 1)
                  case measure => have := HKF.out; have := HKN.out; omega
                  case rel => exact ⟨k + 1, S.cut, v7, l7, ms', by have := HKF.out; have := HKN.out; omega, by go_num, rfl, rfl, HX1'.out, by rw [HX2.out]; exact HB9.out, Ns.ok_mono HOK'.out.1 (by push_cast; omega), HOK'.out.2.1, by have := HML.out; have := HX3.out; omega⟩
                · have HNX := Lib.hid hnx
                  clear hnx hrel HRS
                  go_wp2_with fail
                  go_roundg (gk - 1)
                  case measure => omega
                  case rel => exact HNX.out
            | send s k0 hs hu => as_aux_lemma =>
              have e1 : (a.k == 1) = false := by rw [k0]; rfl
              have e2 : (a.k == 2) = false := by rw [k0]; rfl
              have e3 : (a.k == 3) = true := by rw [beq_iff_eq]; exact k0
              have e6 : (a.k == 6) = false := by rw [k0]; rfl
              have e4 : (a.k == 4) = false := by rw [k0]; rfl
              have e5 : (a.k == 5) = false := by rw [k0]; rfl
              have e8 : (a.k == 8) = false := by rw [k0]; rfl
              have q1 : decide (4 ≤ a.k) = false := by rw [k0]; rfl
              have HB9 := Lib.hid (HBK.out.put s a.b 0 (.inl rfl) hu)
              have HSI := Lib.hid hs
              have HLBB : Hid (a.b.length ≤ 140737488351232) := HAB
              clear k0 hs hu
              go_upto_region 22 with fail
              go_quiet (fail)
              have HX9 := Lib.hid (HX8.out.below (below_drewN (Below.refl _ _) nq))
              have HAB9 := Lib.hid (HAB8.out.drewN nq)
              have HTB9 := Lib.hid (HTB.out.drewN nq)
              have HRD9 := Lib.hid (HRD8.out.drewN nq)
              have HO9 : Hid (OwnB 5 (w8.drewN nq) 0 (.slice At a.b.length ct) a.b) := HO8
              clear HX8 HAB8 HTB HRD8 HO8 hl htb
              generalize w8.drewN nq = w9 at HX9 HAB9 HTB9 HRD9 HO9 ⊢
              have t1 : w9.cell? ⟨tb, 1, none⟩ = some (.int .i64 (S.number + 1)) := HTB9.out.cell 1
              have htb9 := HTB9.out.lt
              have x1 : w9.cell? ⟨sb, 1, none⟩ = some (.int .i64 a.z) := HAB9.out.cell 1
              have x5 : w9.cell? ⟨sb, 5, none⟩ = some (.slice Ai a.b.length ci) := HAB9.out.cell 5
              have hsb9 := HAB9.out.lt
              have HRB : Hid (RdB (w9.drew.alloc (.cells #[] 5)) w.heap.size Ai a.b.length a.b) := Lib.hid (HRD9.out.drew.alloc HX9.out.net.old.size _)
              have HEM : Hid (OwnB 5 (w9.drew.alloc (.cells #[] 5)) w9.heap.size (.slice (some ⟨w9.heap.size, 0, none⟩) 0 0) []) := Lib.hid (OwnB.built 5 w9.drew w9.heap.size #[] [] (Nat.le_refl _) (by simp) rfl)
              have HNL : Hid (S.number + 1 = (ms.length : Int) + 1) := Lib.hid (by rw [HBK.out.len, List.length_map])
              have HLB : Hid (a.b.length ≤ 140737488351232) := Lib.hid HLBB.out
              go_upto_region 40 with fail
              go_region_law (first
                | (refine step_app rfl (.tmp 168) (.tmp 169) 23 rfl w9.heap.size 5 info5 Try.underlying23 (.slice (some ⟨w9.heap.size, 0, none⟩) 0 0) [] (by simp [Act.eval]) HEM.out w.heap.size Ai a.b.length ci a.b (by simp [Act.eval]) HRB.out (by have := HLB.out; simp; omega) (by simp) ?_; intro v1 w10 hown happ; rw [List.nil_append] at hown; have HO10 := Lib.hid hown; obtain ⟨A1, c1, rfl, _, _⟩ := own_form hown; have HB10 : Hid (Below w9.heap.size w9 w10) := Lib.hid (((Below.refl _ w9).drew).trans (below_lit (w := w9.drew) happ)); have HP := Lib.hid (HX9.out.put HB10.out HO10.out a.z S.epoch); have hup : (Instr.mapUpdate 75 (.map (some mb)) (.int .i64 (S.number + 1)) (.pointer (some ⟨w10.heap.size, 0, none⟩))).run Try.prog (w10.alloc (.cells #[.slice A1 a.b.length c1, .int .i64 a.z, .int .i64 S.epoch, .bool false] 78)) = .ok () (putW w10 mb ms a.b a.z S.epoch A1 c1) := (by rw [HNL.out]; exact run_updateI Try.underlying75 Try.underlying3 HP.out.1 _ _ (getI_book_none _ _ _ (by omega))); have x1' : w10.cell? ⟨sb, 1, none⟩ = some (.int .i64 a.z) := (HB10.out.cell (p := ⟨sb, 1, none⟩) hsb9).trans x1; clear hown happ))
              all_goals
                have HX11 := Lib.hid HP.out.2.1
                have HC11 := Lib.hid HP.out.2.2
                clear hup x1'
                generalize hw11 : putW w10 mb ms a.b a.z S.epoch A1 c1 = w11 at HX11 HC11 ⊢
                clear hw11
                have t2 : w11.cell? ⟨tb, 1 + 1, none⟩ = some (.slice At a.b.length ct) := (HC11.out.blk HTB9.out (fun e => map_ne HX9.out.bk.map HTB9.out e)).cell 2
                have s1 := run_string_of (P := Try.prog) (c := ct) w11 23 9 5 (OwnB.reads (own_chg HO9.out HC11.out (fun k hk e => by subst e; exact map_own HX9.out.bk.map HO9.out hk)) rfl) Try.underlying23 Try.underlying5 Try.underlying9
                have s2 := run_string_of (P := Try.prog) (c := ci) w11 23 9 5 (HRD9.out.below (HC11.out.below HX9.out.net.old.size (fun q hq e => by have := HX9.out.bk.ge; omega))) Try.underlying23 Try.underlying5 Try.underlying9
                generalize (⟨a.b.toArray⟩ : ByteArray) = tt at s1 s2
                have s4 : ∀ W : World, (binOp .neq 9 (.string tt) (.string tt)).run Try.prog W = .ok (.bool false) W := fun W => by simp [go_sem]
                go_wp2_with fail
                go_roundg (gk - 1)
                case measure => have := HKF.out; have := HKN.out; omega
                case rel => exact ⟨k + 1, (S.add s 0 1).put s a.b, v7, l7, ms ++ [newWay w10 a.b a.z S.epoch A1 c1], by have := HKF.out; have := HKN.out; omega, by go_num, rfl, rfl, HX11.out, by rw [map_put, HSI.out]; exact HB9.out, Ns.ok_mono HOK'.out.1 (by push_cast; omega), HOK'.out.2.1, by simp; have := HML.out; omega⟩
            | take s i q cc k0 hs hu hi hq =>
              rcases k0 with ⟨k0, rfl⟩ | ⟨k0, rfl⟩
              · as_aux_lemma =>
                have e1 : (a.k == 1) = false := by rw [k0]; rfl
                have e2 : (a.k == 2) = false := by rw [k0]; rfl
                have e3 : (a.k == 3) = false := by rw [k0]; rfl
                have e6 : (a.k == 6) = false := by rw [k0]; rfl
                have e4 : (a.k == 4) = true := by rw [beq_iff_eq]; exact k0
                have e5 : (a.k == 5) = false := by rw [k0]; rfl
                have e8 : (a.k == 8) = false := by rw [k0]; rfl
                have q1 : decide (4 ≤ a.k) = true := by rw [k0]; rfl
                have q2 : decide (a.k ≤ 8) = true := by rw [k0]; rfl
                obtain ⟨kk, y, hqn, hy, hyp⟩ := HBK.out.way hq
                have hz : z = q.num := HFP.out s i q (by rw [k0]; decide) (by rw [k0]; decide) hs hi hq
                subst hz
                obtain rfl := HWV.out kk y hqn hy
                have HPF := Lib.hid (PlcF.mk' (g := g) (mb := mb) (S := S) HX8.out HAB8.out HTB.out HO8.out hy hyp hs)
                have HYY := Lib.hid hy
                have HQN := Lib.hid hqn
                have HYP := Lib.hid hyp
                have HQQ := Lib.hid hq
                have HUU := Lib.hid hu
                have HSI := Lib.hid hs
                clear hqn hy hyp hs hi hq hu k0
                have x1 : w8.cell? ⟨sb, 1, none⟩ = some (.int .i64 a.z) := HPF.out.ab.cell 1
                have g0 := HPF.out.g0
                have g1 := HPF.out.g1
                have g2 := HPF.out.g2
                have g3 := HPF.out.g3
                go_upto_region 22 with fail
                go_quiet (fail)
                have HPF9 := Lib.hid (HPF.out.drewN nq)
                clear x1 g0 g1 g2 g3 HPF HX8 HAB8 HTB HRD8 HO8 hl htb
                generalize w8.drewN nq = w9 at HPF9 ⊢
                have HB9 := Lib.hid (HBK.out.take 2 (by exact .inl rfl) HQQ.out HQN.out y.p HUU.out)
                have t1 : w9.cell? ⟨tb, 1, none⟩ = some (.int .i64 q.num) := HPF9.out.tk.cell 1
                have t2 : w9.cell? ⟨tb, 1 + 1, none⟩ = some (.slice At q.bytes.length ct) := HPF9.out.tk.cell 2
                have g0 := HPF9.out.g0
                have s1 := fun nn : Nat => run_string_of (P := Try.prog) (c := ct) (w9.drewN nn) 23 9 5 (HPF9.out.ow.drewN nn) Try.underlying23 Try.underlying5 Try.underlying9
                have s2 := fun nn : Nat => run_string_of (P := Try.prog) (c := y.c) (w9.drewN nn) 23 9 5 (HPF9.out.ry.drewN nn) Try.underlying23 Try.underlying5 Try.underlying9
                generalize (⟨q.bytes.toArray⟩ : ByteArray) = tt at s1 s2
                have s4 : ∀ W : World, (binOp .neq 9 (.string tt) (.string tt)).run Try.prog W = .ok (.bool false) W := fun W => by simp [go_sem]
                go_upto_region 45 with fail
                go_quiet (fail)
                have HPF10 := Lib.hid (HPF9.out.drewN nq)
                have HC10 := Lib.hid (HPF10.out.cs.off HYY.out)
                clear t1 t2 g0 s1 s2 s4 HPF9
                generalize w9.drewN nq = w10 at HPF10 HC10 ⊢
                have g3 := HPF10.out.g3
                have f3 := (HPF10.out.cs.bk.wy y (List.mem_of_getElem? HYY.out)).blk.frozen 3
                have hyl := (HPF10.out.cs.bk.wy y (List.mem_of_getElem? HYY.out)).blk.lt
                go_wp2_with fail
                go_roundg (gk - 1)
                case measure => have := HKF.out; have := HKN.out; omega
                case rel => exact ⟨k + 1, (S.take s i).add s 2 1, v7, l7, ms.set kk y.off, by have := HKF.out; have := HKN.out; omega, by go_num, rfl, rfl, HC10.out, by rw [map_off]; exact HB9.out, Ns.ok_mono HOK'.out.1 (by push_cast; omega), HOK'.out.2.1, by rw [List.length_set]; have := HML.out; omega⟩
              · as_aux_lemma =>
                have e1 : (a.k == 1) = false := by rw [k0]; rfl
                have e2 : (a.k == 2) = false := by rw [k0]; rfl
                have e3 : (a.k == 3) = false := by rw [k0]; rfl
                have e6 : (a.k == 6) = false := by rw [k0]; rfl
                have e4 : (a.k == 4) = false := by rw [k0]; rfl
                have e5 : (a.k == 5) = true := by rw [beq_iff_eq]; exact k0
                have e8 : (a.k == 8) = false := by rw [k0]; rfl
                have q1 : decide (4 ≤ a.k) = true := by rw [k0]; rfl
                have q2 : decide (a.k ≤ 8) = true := by rw [k0]; rfl
                obtain ⟨kk, y, hqn, hy, hyp⟩ := HBK.out.way hq
                have hz : z = q.num := HFP.out s i q (by rw [k0]; decide) (by rw [k0]; decide) hs hi hq
                subst hz
                obtain rfl := HWV.out kk y hqn hy
                have HPF := Lib.hid (PlcF.mk' (g := g) (mb := mb) (S := S) HX8.out HAB8.out HTB.out HO8.out hy hyp hs)
                have HYY := Lib.hid hy
                have HQN := Lib.hid hqn
                have HYP := Lib.hid hyp
                have HQQ := Lib.hid hq
                have HUU := Lib.hid hu
                have HSI := Lib.hid hs
                clear hqn hy hyp hs hi hq hu k0
                have x1 : w8.cell? ⟨sb, 1, none⟩ = some (.int .i64 a.z) := HPF.out.ab.cell 1
                have g0 := HPF.out.g0
                have g1 := HPF.out.g1
                have g2 := HPF.out.g2
                have g3 := HPF.out.g3
                go_upto_region 22 with fail
                go_quiet (fail)
                have HPF9 := Lib.hid (HPF.out.drewN nq)
                clear x1 g0 g1 g2 g3 HPF HX8 HAB8 HTB HRD8 HO8 hl htb
                generalize w8.drewN nq = w9 at HPF9 ⊢
                have HB9 := Lib.hid (HBK.out.take 3 (by exact .inr rfl) HQQ.out HQN.out y.p HUU.out)
                have t1 : w9.cell? ⟨tb, 1, none⟩ = some (.int .i64 q.num) := HPF9.out.tk.cell 1
                have t2 : w9.cell? ⟨tb, 1 + 1, none⟩ = some (.slice At q.bytes.length ct) := HPF9.out.tk.cell 2
                have g0 := HPF9.out.g0
                have s1 := fun nn : Nat => run_string_of (P := Try.prog) (c := ct) (w9.drewN nn) 23 9 5 (HPF9.out.ow.drewN nn) Try.underlying23 Try.underlying5 Try.underlying9
                have s2 := fun nn : Nat => run_string_of (P := Try.prog) (c := y.c) (w9.drewN nn) 23 9 5 (HPF9.out.ry.drewN nn) Try.underlying23 Try.underlying5 Try.underlying9
                generalize (⟨q.bytes.toArray⟩ : ByteArray) = tt at s1 s2
                have s4 : ∀ W : World, (binOp .neq 9 (.string tt) (.string tt)).run Try.prog W = .ok (.bool false) W := fun W => by simp [go_sem]
                go_upto_region 45 with fail
                go_quiet (fail)
                have HPF10 := Lib.hid (HPF9.out.drewN nq)
                have HC10 := Lib.hid (HPF10.out.cs.off HYY.out)
                clear t1 t2 g0 s1 s2 s4 HPF9
                generalize w9.drewN nq = w10 at HPF10 HC10 ⊢
                have g3 := HPF10.out.g3
                have f3 := (HPF10.out.cs.bk.wy y (List.mem_of_getElem? HYY.out)).blk.frozen 3
                have hyl := (HPF10.out.cs.bk.wy y (List.mem_of_getElem? HYY.out)).blk.lt
                go_wp2_with fail
                go_roundg (gk - 1)
                case measure => have := HKF.out; have := HKN.out; omega
                case rel => exact ⟨k + 1, (S.take s i).add s 3 1, v7, l7, ms.set kk y.off, by have := HKF.out; have := HKN.out; omega, by go_num, rfl, rfl, HC10.out, by rw [map_off]; exact HB9.out, Ns.ok_mono HOK'.out.1 (by push_cast; omega), HOK'.out.2.1, by rw [List.length_set]; have := HML.out; omega⟩
            | double s i q k0 hs hu hi hq => as_aux_lemma =>
              have e1 : (a.k == 1) = false := by rw [k0]; rfl
              have e2 : (a.k == 2) = false := by rw [k0]; rfl
              have e3 : (a.k == 3) = false := by rw [k0]; rfl
              have e6 : (a.k == 6) = true := by rw [beq_iff_eq]; exact k0
              have e4 : (a.k == 4) = false := by rw [k0]; rfl
              have e5 : (a.k == 5) = false := by rw [k0]; rfl
              have e8 : (a.k == 8) = false := by rw [k0]; rfl
              have q1 : decide (4 ≤ a.k) = true := by rw [k0]; rfl
              have q2 : decide (a.k ≤ 8) = true := by rw [k0]; rfl
              obtain ⟨kk, y, hqn, hy, hyp⟩ := HBK.out.way hq
              have hz : z = q.num := HFP.out s i q (by rw [k0]; decide) (by rw [k0]; decide) hs hi hq
              subst hz
              obtain rfl := HWV.out kk y hqn hy
              have HPF := Lib.hid (PlcF.mk' (g := g) (mb := mb) (S := S) HX8.out HAB8.out HTB.out HO8.out hy hyp hs)
              have HYY := Lib.hid hy
              have HQN := Lib.hid hqn
              have HYP := Lib.hid hyp
              have HQQ := Lib.hid hq
              have HUU := Lib.hid hu
              have HSI := Lib.hid hs
              clear hqn hy hyp hs hi hq hu k0
              have x1 : w8.cell? ⟨sb, 1, none⟩ = some (.int .i64 a.z) := HPF.out.ab.cell 1
              have g0 := HPF.out.g0
              have g1 := HPF.out.g1
              have g2 := HPF.out.g2
              have g3 := HPF.out.g3
              go_upto_region 22 with fail
              go_quiet (fail)
              have HPF9 := Lib.hid (HPF.out.drewN nq)
              have HO9 : Hid (OwnB 5 (w8.drewN nq) 0 (.slice At q.bytes.length ct) q.bytes) := HO8
              clear x1 g0 g1 g2 g3 HPF HX8 HAB8 HTB HRD8 HO8 hl htb
              generalize w8.drewN nq = w9 at HPF9 HO9 ⊢
              have HB9 := Lib.hid (HBK.out.put s q.bytes 1 (.inr rfl) HUU.out)
              have HLBB : Hid (q.bytes.length ≤ 1048576) := Lib.hid (by have := HOK'.out.2.2; omega)
              have HX9 := Lib.hid HPF9.out.cs
              have HTB9 := Lib.hid HPF9.out.tk
              have t1 : w9.cell? ⟨tb, 1, none⟩ = some (.int .i64 (S.number + 1)) := HTB9.out.cell 1
              have htb9 := HTB9.out.lt
              have x1 : w9.cell? ⟨sb, 1, none⟩ = some (.int .i64 a.z) := HPF9.out.ab.cell 1
              have x5 : w9.cell? ⟨sb, 5, none⟩ = some (.slice Ai a.b.length ci) := HPF9.out.ab.cell 5
              have g0 := HPF9.out.g0
              have hsb9 := HPF9.out.ab.lt
              have HRB : Hid (RdB (w9.drew.alloc (.cells #[] 5)) w9.heap.size y.A q.bytes.length q.bytes) := Lib.hid (HPF9.out.ry.drew.alloc (Nat.le_refl _) _)
              have HEM : Hid (OwnB 5 (w9.drew.alloc (.cells #[] 5)) w9.heap.size (.slice (some ⟨w9.heap.size, 0, none⟩) 0 0) []) := Lib.hid (OwnB.built 5 w9.drew w9.heap.size #[] [] (Nat.le_refl _) (by simp) rfl)
              have HNL : Hid (S.number + 1 = (ms.length : Int) + 1) := Lib.hid (by rw [HBK.out.len, List.length_map])
              have HLB : Hid (q.bytes.length ≤ 1048576) := Lib.hid HLBB.out
              go_upto_region 40 with fail
              go_region_law (first
                | (refine step_app rfl (.tmp 168) (.tmp 169) 23 rfl w9.heap.size 5 info5 Try.underlying23 (.slice (some ⟨w9.heap.size, 0, none⟩) 0 0) [] (by simp [Act.eval]) HEM.out w9.heap.size y.A q.bytes.length y.c q.bytes (by simp [Act.eval]) HRB.out (by have := HLB.out; simp; omega) (by simp) ?_; intro v1 w10 hown happ; rw [List.nil_append] at hown; have HO10 := Lib.hid hown; obtain ⟨A1, c1, rfl, _, _⟩ := own_form hown; have HB10 : Hid (Below w9.heap.size w9 w10) := Lib.hid (((Below.refl _ w9).drew).trans (below_lit (w := w9.drew) happ)); have HP := Lib.hid (HX9.out.put HB10.out HO10.out a.z S.epoch); have hup : (Instr.mapUpdate 75 (.map (some mb)) (.int .i64 (S.number + 1)) (.pointer (some ⟨w10.heap.size, 0, none⟩))).run Try.prog (w10.alloc (.cells #[.slice A1 q.bytes.length c1, .int .i64 a.z, .int .i64 S.epoch, .bool false] 78)) = .ok () (putW w10 mb ms q.bytes a.z S.epoch A1 c1) := (by rw [HNL.out]; exact run_updateI Try.underlying75 Try.underlying3 HP.out.1 _ _ (getI_book_none _ _ _ (by omega))); have x1' : w10.cell? ⟨sb, 1, none⟩ = some (.int .i64 a.z) := (HB10.out.cell (p := ⟨sb, 1, none⟩) hsb9).trans x1; clear hown happ))
              all_goals
                have HX11 := Lib.hid HP.out.2.1
                have HC11 := Lib.hid HP.out.2.2
                clear hup x1'
                generalize hw11 : putW w10 mb ms q.bytes a.z S.epoch A1 c1 = w11 at HX11 HC11 ⊢
                clear hw11
                have t2 : w11.cell? ⟨tb, 1 + 1, none⟩ = some (.slice At q.bytes.length ct) := (HC11.out.blk HTB9.out (fun e => map_ne HX9.out.bk.map HTB9.out e)).cell 2
                have s1 := run_string_of (P := Try.prog) (c := ct) w11 23 9 5 (OwnB.reads (own_chg HO9.out HC11.out (fun k hk e => by subst e; exact map_own HX9.out.bk.map HO9.out hk)) rfl) Try.underlying23 Try.underlying5 Try.underlying9
                have s2 := run_string_of (P := Try.prog) (c := y.c) w11 23 9 5 (way_reads HX9.out HYY.out HYP.out HC11.out) Try.underlying23 Try.underlying5 Try.underlying9
                generalize (⟨q.bytes.toArray⟩ : ByteArray) = tt at s1 s2
                have s4 : ∀ W : World, (binOp .neq 9 (.string tt) (.string tt)).run Try.prog W = .ok (.bool false) W := fun W => by simp [go_sem]
                go_wp2_with fail
                go_roundg (gk - 1)
                case measure => have := HKF.out; have := HKN.out; omega
                case rel => exact ⟨k + 1, (S.add s 1 1).put s q.bytes, v7, l7, ms ++ [newWay w10 q.bytes a.z S.epoch A1 c1], by have := HKF.out; have := HKN.out; omega, by go_num, rfl, rfl, HX11.out, by rw [map_put, HSI.out]; exact HB9.out, Ns.ok_mono HOK'.out.1 (by push_cast; omega), HOK'.out.2.1, by simp; have := HML.out; omega⟩
            | move s i j q k0 hs hu hi hq => as_aux_lemma =>
              have e1 : (a.k == 1) = false := by rw [k0]; rfl
              have e2 : (a.k == 2) = false := by rw [k0]; rfl
              have e3 : (a.k == 3) = false := by rw [k0]; rfl
              have e6 : (a.k == 6) = false := by rw [k0]; rfl
              have e4 : (a.k == 4) = false := by rw [k0]; rfl
              have e5 : (a.k == 5) = false := by rw [k0]; rfl
              have e8 : (a.k == 8) = false := by rw [k0]; rfl
              have q1 : decide (4 ≤ a.k) = true := by rw [k0]; rfl
              have q2 : decide (a.k ≤ 8) = true := by rw [k0]; rfl
              obtain ⟨kk, y, hqn, hy, hyp⟩ := HBK.out.way hq
              have hz : z = q.num := HFP.out s i q (by rw [k0]; decide) (by rw [k0]; decide) hs hi hq
              subst hz
              obtain rfl := HWV.out kk y hqn hy
              have HPF := Lib.hid (PlcF.mk' (g := g) (mb := mb) (S := S) HX8.out HAB8.out HTB.out HO8.out hy hyp hs)
              have HYY := Lib.hid hy
              have HQN := Lib.hid hqn
              have HYP := Lib.hid hyp
              have HQQ := Lib.hid hq
              have HUU := Lib.hid hu
              have HSI := Lib.hid hs
              clear hqn hy hyp hs hi hq hu k0
              have x1 : w8.cell? ⟨sb, 1, none⟩ = some (.int .i64 a.z) := HPF.out.ab.cell 1
              have g0 := HPF.out.g0
              have g1 := HPF.out.g1
              have g2 := HPF.out.g2
              have g3 := HPF.out.g3
              go_upto_region 22 with fail
              go_quiet (fail)
              have HPF9 := Lib.hid (HPF.out.drewN nq)
              clear x1 g0 g1 g2 g3 HPF HX8 HAB8 HTB HRD8 HO8 hl htb
              generalize w8.drewN nq = w9 at HPF9 ⊢
              have HB9 := Lib.hid (HBK.out.move (j := j) HQQ.out HUU.out)
              go_wp2_with fail
              go_roundg (gk - 1)
              case measure => have := HKF.out; have := HKN.out; omega
              case rel => exact ⟨k + 1, (S.move s i j q).add s 5 1, v7, l7, ms, by have := HKF.out; have := HKN.out; omega, by go_num, rfl, rfl, HPF9.out.cs, HB9.out, Ns.ok_mono HOK'.out.1 (by push_cast; omega), HOK'.out.2.1, by have := HML.out; omega⟩
            | flip s i j q x k0 hs hu hi hq hj hx hm => as_aux_lemma =>
              have e1 : (a.k == 1) = false := by rw [k0]; rfl
              have e2 : (a.k == 2) = false := by rw [k0]; rfl
              have e3 : (a.k == 3) = false := by rw [k0]; rfl
              have e6 : (a.k == 6) = false := by rw [k0]; rfl
              have e4 : (a.k == 4) = false := by rw [k0]; rfl
              have e5 : (a.k == 5) = false := by rw [k0]; rfl
              have e8 : (a.k == 8) = true := by rw [beq_iff_eq]; exact k0
              have q1 : decide (4 ≤ a.k) = true := by rw [k0]; rfl
              have q2 : decide (a.k ≤ 8) = true := by rw [k0]; rfl
              obtain ⟨kk, y, hqn, hy, hyp⟩ := HBK.out.way hq
              have hz : z = q.num := HFP.out s i q (by rw [k0]; decide) (by rw [k0]; decide) hs hi hq
              subst hz
              obtain rfl := HWV.out kk y hqn hy
              have HPF := Lib.hid (PlcF.mk' (g := g) (mb := mb) (S := S) HX8.out HAB8.out HTB.out HO8.out hy hyp hs)
              have HYY := Lib.hid hy
              have HQN := Lib.hid hqn
              have HYP := Lib.hid hyp
              have HQQ := Lib.hid hq
              have HUU := Lib.hid hu
              have HSI := Lib.hid hs
              have HJJ := Lib.hid hj
              have HXX := Lib.hid hx
              have HMM : Hid (((a.m.toNat : Int) == 0) = false) := Lib.hid (by
                rw [beq_eq_false_iff_ne]
                intro e
                exact hm (UInt8.toNat_inj.1 (by have : a.m.toNat = 0 := by omega
                                                rw [this]; rfl)))
              have HJL : Hid (j < q.bytes.length) := Lib.hid (List.getElem?_eq_some_iff.1 hx).1
              clear hj hx hm
              clear hqn hy hyp hs hi hq hu k0
              have x1 : w8.cell? ⟨sb, 1, none⟩ = some (.int .i64 a.z) := HPF.out.ab.cell 1
              have g0 := HPF.out.g0
              have g1 := HPF.out.g1
              have g2 := HPF.out.g2
              have g3 := HPF.out.g3
              go_upto_region 22 with fail
              go_quiet (fail)
              have HPF9 := Lib.hid (HPF.out.drewN nq)
              clear x1 g0 g1 g2 g3 HPF HX8 HAB8 HTB HRD8 HO8 hl htb
              generalize w8.drewN nq = w9 at HPF9 ⊢
              have HB9 := Lib.hid (HBK.out.flip (j := j) (x ^^^ a.m) HQQ.out HQN.out (by rw [List.getElem?_map, HYY.out]; simp [HYP.out]) HUU.out)
              have x3 : w9.cell? ⟨sb, 3, none⟩ = some (.int .i64 (j : Int)) := by rw [← HJJ.out]; exact HPF9.out.ab.cell 3
              have x4 : w9.cell? ⟨sb, 4, none⟩ = some (.int .u8 (a.m.toNat : Int)) := HPF9.out.ab.cell 4
              have g0 := HPF9.out.g0
              have m1 : decide ((j : Int) < 0) = false := decide_eq_false (by omega)
              have m2 : decide ((q.bytes.length : Int) ≤ (j : Int)) = false := decide_eq_false (by have := HJL.out; omega)
              have m2' : decide (q.bytes.length ≤ j) = false := decide_eq_false (by have := HJL.out; omega)
              have m3 := HMM.out
              go_upto_region 49 with fail
              go_quiet (fail)
              have HPF10 := Lib.hid (HPF9.out.drewN nq)
              have HX3 : Hid ((w9.drewN nq).cell? ⟨sb, 3, none⟩ = some (.int .i64 (j : Int))) := Lib.hid x3
              clear g0 x3 x4 m1 m2 m2' m3 HPF9
              generalize w9.drewN nq = w10 at HPF10 HX3 ⊢
              obtain ⟨gb, hgA, hgo, c0, f0, hgl⟩ := HPF10.out.cs.way_byte HYY.out (j := j) (x := x) (by rw [HYP.out]; exact HXX.out)
              have g0 := HPF10.out.g0
              rw [hgA] at g0
              have x3 := HX3.out
              have x4 : w10.cell? ⟨sb, 4, none⟩ = some (.int .u8 (a.m.toNat : Int)) := HPF10.out.ab.cell 4
              have HC10 := Lib.hid (HPF10.out.cs.turn HYY.out (j := j) hgo (x ^^^ a.m))
              have hj0 : (0 : Int) ≤ (j : Int) := by omega
              have hj1 : (j : Int) < (q.bytes.length : Int) := by have := HJL.out; omega
              clear hgA hgo
              unfold bv at HC10
              go_upto_region 51 with fail
              go_region
              all_goals
                rw [xor_u8 x a.m]
                have HC11 := Lib.hid (HC10.out.below (Below.refl _ _).drew)
                generalize (w10.setCell _ _).drew = w11 at HC11 ⊢
                clear c0 f0 g0 x3 x4
                go_wp2_with fail
                go_roundg (gk - 1)
                case measure => have := HKF.out; have := HKN.out; omega
                case rel => exact ⟨k + 1, (S.flip s i (q.flip j (x ^^^ a.m))).add s 6 1, v7, l7, ms.set kk (y.turn j (x ^^^ a.m)), by have := HKF.out; have := HKN.out; omega, by go_num, rfl, rfl, HC11.out, by rw [map_turn HYP.out]; exact HB9.out, Ns.ok_mono HOK'.out.1 (by push_cast; omega), HOK'.out.2.1, by rw [List.length_set]; have := HML.out; omega⟩
          · as_aux_lemma =>
            have e0 : (er != 0) = true := by simp [he]
            have HSS := Lib.hid (HA'.out.same he)
            clear he
            go_wp2_with fail
            refine (num_any _ _).mono ?_
            rintro e w' ⟨rfl, rfl⟩
            go_wp2_with fail
            go_roundg (gk - 1)
            case measure => have := HKF.out; have := HKN.out; omega
            case rel => exact ⟨k + 1, S, v7, l7, ms, by have := HKF.out; have := HKN.out; omega, by go_num, rfl, rfl, by rw [← HSS.out]; exact HX8.out, HBK.out, Ns.ok_mono HK.out (by push_cast; omega), HSM.out, by have := HML.out; omega⟩
    · as_aux_lemma =>
      have hkn' : ¬ (k : Int) < (ac.length : Int) := by omega
      have HE := Lib.hid (epoch_at g S.limit S.epoch wr (HCS.out.net.net.blk.cell 0) (HCS.out.net.net.blk.cell 2) (by have := HK.out.lo; omega))
      have HU := Lib.hid fun s W (h : FrN w g S v l W) => (under_any g S v l (128 * (k : Int)) s W h.net HK.out (fun p hp => by have := HSM.out s p hp; omega)).mono fun _ _ h => UnP.lk h
      have HCN := Lib.hid fun s W (h : FrN w g S v l W) => counts_any g S v l s W h.net HK.out.lo
      have HB0 := Lib.hid (HBK.out.cntB HK.out (by omega) false)
      have HB1 := Lib.hid (HBK.out.cntB HK.out (by omega) true)
      have HN0 := Lib.hid HCS.out.net
      clear hkf
      go_wp2_with fail
      refine HE.out.mono ?_
      rintro e w' ⟨rfl, rfl⟩
      go_wp2_with fail
      go_loopw [20] (fun i wr => ∃ z : Int, i = .int .i64 z ∧ (z = 1 ∨ z = 2 ∨ z = 3) ∧ FrN w g S v l wr) (fun i _ => 3 - (intOf i).toNat)
      case atStart => exact ⟨1, rfl, .inl rfl, HN0.out⟩
      case round =>
        obtain ⟨z, rfl, hz, hf⟩ := hrel
        have HF := Lib.hid hf
        clear hf HN0 HE HCS
        rcases hz with rfl | rfl | rfl
        · go_wp2_with fail
          refine (HCN.out false _ HF.out).mono ?_
          rintro e w1 ⟨rfl, hb1⟩
          have HF1 := Lib.hid (HF.out.below hb1)
          have HBX : Hid (LcX w (w1.alloc (.cells (S.c false).vals.toArray 63)) g S v l w1.heap.size (S.c false) (w1.alloc (.cells (S.c false).vals.toArray 63))) := Lib.hid ⟨HF1.out.below (al1 _ _), Blk.new _ _ _, Below.refl _ _⟩
          clear hb1 HF
          unfold Cn.vals at HBX ⊢
          go_upto_region 58 with fail
          generalize w1.alloc (.cells (List.toArray _) 63) = w2 at HBX ⊢
          generalize w1.heap.size = bx at HBX ⊢
          have sa0 := HBX.out.next (Below.refl _ _).drew
          have HSA := Lib.hid fun W (h : LcX w w2 g S v l bx (S.c false) W) => h.cells
          have HUU := Lib.hid fun W (h : LcX w w2 g S v l bx (S.c false) W) => (show Calls Try.prog 15 #[.pointer (some ⟨g, 0, none⟩), .int .i64 1] W fun e w' => ∃ A c, e = .returned (.slice A (S.u false).length c) ∧ Below W.heap.size W w' ∧ PksX w' (.slice A (S.u false).length c) (S.u false) from HU.out false W h.net)
          have w1' := HB0.out.w1
          have w2' := HB0.out.w2
          have w3' := HB0.out.w3
          have w4' := HB0.out.w4
          have e4' := HB0.out.e
          have ca0 := HSA.out _ HBX.out
          go_region_held3 (fun W => W.cell? ⟨bx, 0, none⟩ = some (.int .i64 (S.c false).sent) ∧ W.cell? ⟨bx, 1, none⟩ = some (.int .i64 (S.c false).doubled) ∧ W.cell? ⟨bx, 2, none⟩ = some (.int .i64 (S.c false).delivered) ∧ W.cell? ⟨bx, 3, none⟩ = some (.int .i64 (S.c false).dropped) ∧ W.cell? ⟨bx, 4, none⟩ = some (.int .i64 (S.c false).lost))
            (first | go_keep | exact HSA.out _ sa1)
            ((go_at_call 15; ((with_reducible refine (HUU.out _ sa0).mono ?_); rintro e w3 ⟨A3, c3, rfl, hb3, -⟩; have sa1 := sa0.next hb3)))
          all_goals
            go_wp2_with fail
            go_roundw
            case rel => exact ⟨2, rfl, .inr (.inl rfl), sa1.net⟩
            case measure => simp [intOf]
        · go_wp2_with fail
          refine (HCN.out true _ HF.out).mono ?_
          rintro e w1 ⟨rfl, hb1⟩
          have HF1 := Lib.hid (HF.out.below hb1)
          have HBX : Hid (LcX w (w1.alloc (.cells (S.c true).vals.toArray 63)) g S v l w1.heap.size (S.c true) (w1.alloc (.cells (S.c true).vals.toArray 63))) := Lib.hid ⟨HF1.out.below (al1 _ _), Blk.new _ _ _, Below.refl _ _⟩
          clear hb1 HF
          unfold Cn.vals at HBX ⊢
          go_upto_region 58 with fail
          generalize w1.alloc (.cells (List.toArray _) 63) = w2 at HBX ⊢
          generalize w1.heap.size = bx at HBX ⊢
          have sa0 := HBX.out.next (Below.refl _ _).drew
          have HSA := Lib.hid fun W (h : LcX w w2 g S v l bx (S.c true) W) => h.cells
          have HUU := Lib.hid fun W (h : LcX w w2 g S v l bx (S.c true) W) => (show Calls Try.prog 15 #[.pointer (some ⟨g, 0, none⟩), .int .i64 2] W fun e w' => ∃ A c, e = .returned (.slice A (S.u true).length c) ∧ Below W.heap.size W w' ∧ PksX w' (.slice A (S.u true).length c) (S.u true) from HU.out true W h.net)
          have w1' := HB1.out.w1
          have w2' := HB1.out.w2
          have w3' := HB1.out.w3
          have w4' := HB1.out.w4
          have e4' := HB1.out.e
          have ca0 := HSA.out _ HBX.out
          go_region_held3 (fun W => W.cell? ⟨bx, 0, none⟩ = some (.int .i64 (S.c true).sent) ∧ W.cell? ⟨bx, 1, none⟩ = some (.int .i64 (S.c true).doubled) ∧ W.cell? ⟨bx, 2, none⟩ = some (.int .i64 (S.c true).delivered) ∧ W.cell? ⟨bx, 3, none⟩ = some (.int .i64 (S.c true).dropped) ∧ W.cell? ⟨bx, 4, none⟩ = some (.int .i64 (S.c true).lost))
            (first | go_keep | exact HSA.out _ sa1)
            ((go_at_call 15; ((with_reducible refine (HUU.out _ sa0).mono ?_); rintro e w3 ⟨A3, c3, rfl, hb3, -⟩; have sa1 := sa0.next hb3)))
          all_goals
            go_wp2_with fail
            go_roundw
            case rel => exact ⟨3, rfl, .inr (.inr rfl), sa1.net⟩
            case measure => simp [intOf]
        · go_wp2_with fail
          go_ret
          exact ⟨rfl, HF.out.old⟩
end Go.Proofs.Ytbkgphmocjjmmaa
