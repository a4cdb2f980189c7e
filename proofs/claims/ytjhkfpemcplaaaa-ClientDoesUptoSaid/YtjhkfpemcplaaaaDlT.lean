/-
  The walk of ClientDoes' do. No statement of the seat is proved here.
-/
import Derived.Test.YtjhkfpemcplaaaaDlS
import Derived.Test.YtjhkfpemcplaaaaFrameW
namespace Go.Proofs.Ytjhkfpemcplaaaa
open Go.RowKit

set_option maxRecDepth 20000 in
set_option maxHeartbeats 8000000 in
theorem do_any {w0 w : World} {g gd m N : Nat} {p q : Pa} {c : Cl} (d : Dd) (h : TwX w0 g gd c c m m p q w) (ok : c.Ok N) (hN : N ≤ 274877906944) (hd : d.In w0) (hnb : d.nb ≤ 1048576) (hxn : d.xn ≤ 1048576) (hm : m ≤ 1152921504606840000) :
    Calls Try.prog 35 #[.pointer (some ⟨g, 0, none⟩), .pointer (some ⟨gd, 0, none⟩), .agg d.v] w (DoP w0 g gd (doF c d) (m + (d.bb.length + 4000))) := by
  have hc := d.chunk_len
  have hbl : d.bb.length = d.nb := by have := hd.rb.1; simpa using this
  have hact : doF c d = doF c d := rfl
  conv at hact => rhs; unfold doF actF
  have hgd := d.good_iff
  have hchk : d.chunk = chunkB d.K d.k d.t d.s d.a d.body d.bb := rfl
  have hbc : d.bodyC = cmdB d.xk d.xh d.ns d.xs.data.toList := rfl
  obtain ⟨w1, hw1⟩ : ∃ w1, w.alloc (.cells d.v 41) = w1 := ⟨_, rfl⟩
  have hb1 : Below w.heap.size w w1 := hw1 ▸ (Below.refl _ _).alloc (Nat.le_refl _) _
  have hX : Blk w1 w.heap.size 41 d.v := hw1 ▸ Blk.new w 41 _
  have ht1 := h.below hb1
  have hgp := h.gp
  have hgq := h.gq
  generalize doF c d = F at *
  generalize d.chunk = ck at *
  generalize d.bodyC = bc at *
  generalize d.good = gd' at *
  obtain ⟨K, xk, xh, xA, xn, xc, xs, k, t, s, a, A, n, cc, B, nb, cb, Z, ns, body, bb⟩ := d
  unfold Dd.v ddV at *
  dsimp only at hc hbl hact hgd hchk hbc hw1 hX hnb hxn
  unfold Dd.In at hd
  dsimp only at hd ⊢
  have HT := Lib.hid h
  have HT1 := Lib.hid ht1
  have HOK := Lib.hid ok
  have HD := Lib.hid hd
  have HB1 := Lib.hid hb1
  have HX := Lib.hid hX
  have HCK := Lib.hid hc
  have HBL := Lib.hid hbl
  have HNB := Lib.hid hnb
  have HN := Lib.hid hN
  have HP := Lib.hid hm
  have HXN := Lib.hid hxn
  have HGD := Lib.hid hgd
  have HCH := Lib.hid hchk
  have HBC := Lib.hid hbc
  subst hgp hgq
  have HNX : Hid (¬ CF p w.heap.size) := Lib.hid fun e => by have := (h.ca.lt e).2; omega
  have y0 : w1.cell? ⟨w.heap.size, 0, none⟩ = some (.int .i64 K) := hX.cell 0
  have y1 : w1.cell? ⟨w.heap.size, 1, none⟩ = some (.int .i64 xk) := hX.cell 1
  have y2 : w1.cell? ⟨w.heap.size, 2, none⟩ = some (.int .u64 (xh : Int)) := hX.cell 2
  have y3 : w1.cell? ⟨w.heap.size, 3, none⟩ = some (.slice xA xn xc) := hX.cell 3
  have y4 : w1.cell? ⟨w.heap.size, 4, none⟩ = some (.string xs) := hX.cell 4
  have y11 : w1.cell? ⟨w.heap.size, 11, none⟩ = some (.int .i64 Z) := hX.cell 11
  clear h ok hN hd hm hc hbl hgd hchk hbc hb1 hX ht1 hnb hxn
  have hK : K.tmod 10 = 0 ∨ K.tmod 10 = 1 ∨ K.tmod 10 = 2 ∨ K.tmod 10 = 3 ∨ K.tmod 10 = 4 ∨ K.tmod 10 = 5 ∨ K.tmod 10 = 6 ∨ K.tmod 10 = 7 ∨ K.tmod 10 = 8 ∨ (K.tmod 10 ≠ 0 ∧ K.tmod 10 ≠ 1 ∧ K.tmod 10 ≠ 2 ∧ K.tmod 10 ≠ 3 ∧ K.tmod 10 ≠ 4 ∧ K.tmod 10 ≠ 5 ∧ K.tmod 10 ≠ 6 ∧ K.tmod 10 ≠ 7 ∧ K.tmod 10 ≠ 8 ∧ ¬ (0 ≤ K.tmod 10 ∧ K.tmod 10 ≤ 8)) := by omega
  rcases hK with eK | eK | eK | eK | eK | eK | eK | eK | eK | eK
  · have HA : Hid (F = (issueF c gd' bc).2.2.2) := Lib.hid (by rw [hact, eK]; simp)
    clear hact
    rw [HA.out]
    have HTW := Lib.hid (twin_any xk xh xA xn xc ns xs w1 ((HD.out.rx.below HT1.out.old).more HT1.out.old.size) (by have := HXN.out; omega))
    go_enter Try.func35, Try.ntmps35
    go_upto_region 1 with fail
    clear hw1
    go_wp2_with (first
      | (go_at_call 19; refine HTW.out.mono ?_; rintro e w2 ⟨A2, c2, rfl, ho2, hb2⟩; have HO2 := Lib.hid ho2; have HB2 := Lib.hid hb2; have HT2 := Lib.hid (HT1.out.below hb2); have HX2 := Lib.hid ((hb2.block _ HX.out.lt).trans HX.out); clear ho2 hb2)
      | (go_at_call 21; refine (issue_any xk xh A2 ns.length c2 ns xs gd' HT2.out.ca HOK.out (by have := HN.out; omega) (by have := HN.out; omega) HD.out.xh (Reads.of_own HO2.out) HD.out.u HGD.out).mono ?_; rw [← HBC.out]; rintro e w3 ⟨v3, l3, p3, rfl, hs, hf⟩; have HT3 := Lib.hid (HT2.out.stepP hs); have HF3 := Lib.hid hf.row; have HL3 := Lib.hid hf.is; have hx3 : Blk w3 w.heap.size 41 _ := hs.chg.blk HX2.out HNX.out; have z1 : w3.cell? ⟨w.heap.size, 1, none⟩ = some (.int .i64 xk) := hx3.cell 1; have z2 : w3.cell? ⟨w.heap.size, 2, none⟩ = some (.int .u64 (xh : Int)) := hx3.cell 2; have z3 : w3.cell? ⟨w.heap.size, 3, none⟩ = some (.slice xA xn xc) := hx3.cell 3; have z4 : w3.cell? ⟨w.heap.size, 4, none⟩ = some (.string xs) := hx3.cell 4; have HSZ : Hid (w.heap.size ≤ w2.heap.size) := Lib.hid (by have h1 := HB1.out.size; have h2 := HB2.out.size; omega); obtain ⟨A3, c3, rfl, _, _⟩ := hf.row.form; clear hs hf hx3)
      | (go_at_call 64; refine (rissue_any xk xh xA xn xc ns xs gd' HT3.out.cd HOK.out (by have := HN.out; omega) (by have := HN.out; omega) HD.out.xh ((HD.out.rx.below HT3.out.old).more HT3.out.old.size) HD.out.u HGD.out).mono ?_; rw [← HBC.out]; rintro e w4 ⟨v4, l4, q4, rfl, hs, hf⟩; have HT4 := Lib.hid (HT3.out.stepD hs); have R4 := Lib.hid (HT.out.row (w1 := w3) HF3.out HSZ.out hs.chg); have R5 := Lib.hid hf.row; have HL4 := Lib.hid hf.is; obtain ⟨A4, c4, rfl, _, _⟩ := hf.row.form; clear hs hf)
      | (go_at_call 65; refine (sameF_any R4.out R5.out (HL3.out.trans HL4.out.symm)).mono ?_; rintro e w5 ⟨rfl, hb5⟩; have HB5 := Lib.hid hb5; clear hb5)
      | (go_at_call 13; refine (num_any _ _).mono ?_; rintro e w6 ⟨rfl, rfl⟩))
    go_ret
    exact ⟨_, _, rfl, (HT4.out.below HB5.out).more (by omega) (by omega)⟩
  · have HA : Hid (F = (issueF c gd' bc).2.2.2) := Lib.hid (by rw [hact, eK]; simp)
    clear hact
    rw [HA.out]
    have HTW := Lib.hid (twin_any xk xh xA xn xc ns xs w1 ((HD.out.rx.below HT1.out.old).more HT1.out.old.size) (by have := HXN.out; omega))
    go_enter Try.func35, Try.ntmps35
    go_upto_region 1 with fail
    clear hw1
    go_wp2_with (first
      | (go_at_call 19; refine HTW.out.mono ?_; rintro e w2 ⟨A2, c2, rfl, ho2, hb2⟩; have HO2 := Lib.hid ho2; have HB2 := Lib.hid hb2; have HT2 := Lib.hid (HT1.out.below hb2); have HX2 := Lib.hid ((hb2.block _ HX.out.lt).trans HX.out); clear ho2 hb2)
      | (go_at_call 21; refine (issue_any xk xh A2 ns.length c2 ns xs gd' HT2.out.ca HOK.out (by have := HN.out; omega) (by have := HN.out; omega) HD.out.xh (Reads.of_own HO2.out) HD.out.u HGD.out).mono ?_; rw [← HBC.out]; rintro e w3 ⟨v3, l3, p3, rfl, hs, hf⟩; have HT3 := Lib.hid (HT2.out.stepP hs); have HF3 := Lib.hid hf.row; have HL3 := Lib.hid hf.is; have hx3 : Blk w3 w.heap.size 41 _ := hs.chg.blk HX2.out HNX.out; have z1 : w3.cell? ⟨w.heap.size, 1, none⟩ = some (.int .i64 xk) := hx3.cell 1; have z2 : w3.cell? ⟨w.heap.size, 2, none⟩ = some (.int .u64 (xh : Int)) := hx3.cell 2; have z3 : w3.cell? ⟨w.heap.size, 3, none⟩ = some (.slice xA xn xc) := hx3.cell 3; have z4 : w3.cell? ⟨w.heap.size, 4, none⟩ = some (.string xs) := hx3.cell 4; have HSZ : Hid (w.heap.size ≤ w2.heap.size) := Lib.hid (by have h1 := HB1.out.size; have h2 := HB2.out.size; omega); obtain ⟨A3, c3, rfl, _, _⟩ := hf.row.form; clear hs hf hx3)
      | (go_at_call 64; refine (rissue_any xk xh xA xn xc ns xs gd' HT3.out.cd HOK.out (by have := HN.out; omega) (by have := HN.out; omega) HD.out.xh ((HD.out.rx.below HT3.out.old).more HT3.out.old.size) HD.out.u HGD.out).mono ?_; rw [← HBC.out]; rintro e w4 ⟨v4, l4, q4, rfl, hs, hf⟩; have HT4 := Lib.hid (HT3.out.stepD hs); have R4 := Lib.hid (HT.out.row (w1 := w3) HF3.out HSZ.out hs.chg); have R5 := Lib.hid hf.row; have HL4 := Lib.hid hf.is; obtain ⟨A4, c4, rfl, _, _⟩ := hf.row.form; clear hs hf)
      | (go_at_call 65; refine (sameF_any R4.out R5.out (HL3.out.trans HL4.out.symm)).mono ?_; rintro e w5 ⟨rfl, hb5⟩; have HB5 := Lib.hid hb5; clear hb5)
      | (go_at_call 13; refine (num_any _ _).mono ?_; rintro e w6 ⟨rfl, rfl⟩))
    go_ret
    exact ⟨_, _, rfl, (HT4.out.below HB5.out).more (by omega) (by omega)⟩
  · have HA : Hid (F = (connF c).2.2) := Lib.hid (by rw [hact, eK]; simp)
    clear hact
    rw [HA.out]
    go_enter Try.func35, Try.ntmps35
    go_upto_region 1 with fail
    clear hw1
    go_wp2_with (first
      | (go_at_call 20; refine (connect_any HT1.out.ca HOK.out).mono ?_; rintro e w3 ⟨v3, l3, p3, rfl, hs, hf⟩; have HT3 := Lib.hid (HT1.out.stepP hs); have HF3 := Lib.hid hf.row; have HL3 := Lib.hid hf.is; have HSZ : Hid (w.heap.size ≤ w1.heap.size) := Lib.hid HB1.out.size; obtain ⟨A3, c3, rfl, _, _⟩ := hf.row.form; clear hs hf)
      | (go_at_call 66; refine (rconnect_any HT3.out.cd HOK.out).mono ?_; intro e w4 hq; obtain ⟨v4, l4, q4, rfl, hs, hf⟩ := AnsD.toE (m := 0) HT3.out.cd hq; have HT4 := Lib.hid (HT3.out.stepD hs); have R4 := Lib.hid (HT.out.row (w1 := w3) HF3.out HSZ.out hs.chg); have R5 := Lib.hid hf.row; have HL4 := Lib.hid hf.is; obtain ⟨A4, c4, rfl, _, _⟩ := hf.row.form; clear hs hf hq)
      | (go_at_call 65; refine (sameF_any R4.out R5.out (HL3.out.trans HL4.out.symm)).mono ?_; rintro e w5 ⟨rfl, hb5⟩; have HB5 := Lib.hid hb5; clear hb5)
      | (go_at_call 13; refine (num_any _ _).mono ?_; rintro e w6 ⟨rfl, rfl⟩))
    go_ret
    exact ⟨_, _, rfl, (HT4.out.below HB5.out).more (by omega) (by omega)⟩
  · have HA : Hid (F = (cutF c).2) := Lib.hid (by rw [hact, eK]; simp)
    clear hact
    rw [HA.out]
    go_enter Try.func35, Try.ntmps35
    go_upto_region 1 with fail
    clear hw1
    go_wp2_with (first
      | (go_at_call 38; refine (cut_any HT1.out.ca HOK.out (by have := HT1.out.d; have := HP.out; omega)).mono ?_; rintro e w3 ⟨p3, rfl, hs⟩; have HT3 := Lib.hid (HT1.out.stepP hs); clear hs)
      | (go_at_call 67; refine (rcut_any HT3.out.cd).mono ?_; rintro e w4 ⟨q4, rfl, hs⟩; have HT4 := Lib.hid (HT3.out.stepD hs); clear hs)
      | (go_at_call 13; refine (num_any _ _).mono ?_; rintro e w6 ⟨rfl, rfl⟩))
    go_ret
    exact ⟨_, _, rfl, HT4.out.more (by omega) (by omega)⟩
  · have HA : Hid (F = (recvF c ck).2) := Lib.hid (by rw [hact, eK]; simp)
    clear hact
    rw [HA.out]
    obtain ⟨i0, hi, hz0, hz1, hz2⟩ := info_parts info5
    have HT2 := Lib.hid (HT1.out.below ((Below.refl w1.heap.size w1).alloc (Nat.le_refl _) (.cells #[] 5)))
    have HX2 := Lib.hid (HX.out.alloc (.cells #[] 5))
    have u0 : (w1.alloc (.cells #[] 5)).cell? ⟨w.heap.size, 0, none⟩ = some (.int .i64 K) := HX2.out.cell 0
    have u1 : (w1.alloc (.cells #[] 5)).cell? ⟨w.heap.size, 1, none⟩ = some (.int .i64 xk) := HX2.out.cell 1
    have u2 : (w1.alloc (.cells #[] 5)).cell? ⟨w.heap.size, 2, none⟩ = some (.int .u64 (xh : Int)) := HX2.out.cell 2
    have u3 : (w1.alloc (.cells #[] 5)).cell? ⟨w.heap.size, 3, none⟩ = some (.slice xA xn xc) := HX2.out.cell 3
    have u4 : (w1.alloc (.cells #[] 5)).cell? ⟨w.heap.size, 4, none⟩ = some (.string xs) := HX2.out.cell 4
    have u5 : (w1.alloc (.cells #[] 5)).cell? ⟨w.heap.size, 5, none⟩ = some (.int .i64 k) := HX2.out.cell 5
    have u6 : (w1.alloc (.cells #[] 5)).cell? ⟨w.heap.size, 6, none⟩ = some (.int .u64 (t : Int)) := HX2.out.cell 6
    have u7 : (w1.alloc (.cells #[] 5)).cell? ⟨w.heap.size, 7, none⟩ = some (.int .u64 (s : Int)) := HX2.out.cell 7
    have u8 : (w1.alloc (.cells #[] 5)).cell? ⟨w.heap.size, 8, none⟩ = some (.int .u64 (a : Int)) := HX2.out.cell 8
    have u9 : (w1.alloc (.cells #[] 5)).cell? ⟨w.heap.size, 9, none⟩ = some (.slice A n cc) := HX2.out.cell 9
    have u10 : (w1.alloc (.cells #[] 5)).cell? ⟨w.heap.size, 10, none⟩ = some (.slice B nb cb) := HX2.out.cell 10
    have u11 : (w1.alloc (.cells #[] 5)).cell? ⟨w.heap.size, 11, none⟩ = some (.int .i64 Z) := HX2.out.cell 11
    have HOE : Hid ((w1.alloc (.cells #[] 5)).ownsRow w1.heap.size 5 1 (.slice (some ⟨w1.heap.size, 0, none⟩) 0 0) 0 []) := Lib.hid (own_empty w1 5 1 _ (Nat.le_refl _))
    go_enter Try.func35, Try.ntmps35
    go_upto_region 1 with fail
    clear hw1
    go_upto_region 18 with (first
      | (go_at_call 39; refine (chunk_any K xk xh xA xn xc xs k t s a A n cc B nb cb Z body bb (w1.alloc (.cells #[] 5)) ((HD.out.r.below HT2.out.old).more HT2.out.old.size) ((HD.out.rb.below HT2.out.old).more HT2.out.old.size) HD.out.t HD.out.s HD.out.a (by have := HNB.out; omega)).mono ?_; rw [← HCH.out]; rintro e w3 ⟨A3, n3, c3, rfl, hn3, hr3, hb3⟩; have HN3 := Lib.hid hn3; have HR3 := Lib.hid hr3; have HB3 := Lib.hid hb3; have HO3 : Hid (w3.ownsRow w1.heap.size 5 1 (.slice (some ⟨w1.heap.size, 0, none⟩) 0 0) 0 []) := Lib.hid (own_same HOE.out fun k hk => hb3.block k (World.ownsRow.lt HOE.out k hk).2); have hl3 : n3 ≤ 1050000 := (by have := HCK.out; have := HBL.out; have := HNB.out; omega); have hz3 : w1.heap.size ≤ w3.heap.size := (by have := hb3.size; simp at this; omega); clear hn3 hr3 hb3)
      | (at_builtin; refine wpList_append_any _ rfl (.tmp 95) (.tmp 97) 37 rfl w1.heap.size 5 i0 _ 1 1 Try.underlying37 hi hz0 hz1 hz2 rfl (by decide) (.slice (some ⟨w1.heap.size, 0, none⟩) 0 0) 0 [] rfl HO3.out _ A3 n3 c3 (ck.map bv) rfl HR3.out (by simp [bv, Value.oneCell']) (by simp only [maxLen]; omega) (by omega) hz3 ?_; intro v4 w4 hr4 hg4 hv4; rw [Nat.zero_add, List.nil_append] at hr4; have HB4 : Hid (Below w1.heap.size w1 w4) := Lib.hid (((((Below.refl w1.heap.size w1).alloc (Nat.le_refl _) (.cells #[] 5)).trans (HB3.out.mono (by simp)))).trans_grown HO3.out hg4); obtain ⟨A4, c4, rfl, _, _⟩ := own_formL hr4; have HO4 := Lib.hid (World.ownsRow.alloc hr4 (.cells #[.int .u8 77] 5)); have HR4 := Lib.hid (Reads.ofBlk (size := 1) (n := 1) (cs := [.int .u8 77]) (Blk.new w4 5 #[.int .u8 77]) rfl); have hz4 : w1.heap.size ≤ (w4.alloc (.cells #[.int .u8 77] 5)).heap.size := (by have := HB4.out.size; simp; omega); clear hr4 hg4 hv4)
      | (at_builtin; refine wpList_append_any _ rfl (.tmp 98) (.tmp 99) 37 rfl w1.heap.size 5 i0 _ 1 1 Try.underlying37 hi hz0 hz1 hz2 rfl (by decide) (.slice A4 n3 c4) n3 (ck.map bv) rfl HO4.out _ _ 1 1 [.int .u8 77] rfl HR4.out (by simp [Value.oneCell']) (by simp only [maxLen]; omega) (by omega) hz4 ?_; intro v6 w6 hr6 hg6 hv6; have HB6 : Hid (Below w1.heap.size w1 w6) := Lib.hid ((HB4.out.alloc HB4.out.size (.cells #[.int .u8 77] 5)).trans_grown HO4.out hg6); obtain ⟨A6, c6, rfl, hc6, _⟩ := own_formL hr6; have HO6 := Lib.hid hr6; clear hr6 hg6 hv6))
    have HT6 := Lib.hid (HT1.out.below HB6.out)
    have HR6 := Lib.hid (chunk_first HO6.out HN3.out)
    have l3 : wrap64 (((n3 + 1 : Nat) : Int) - 1) = (n3 : Int) := by unfold wrap64; omega
    have l4 : (0 : Int) ≤ (n3 : Int) := by omega
    have l5 : (n3 : Int) ≤ (c6 : Int) := by omega
    clear HO3 HR3 HB3 HO4 HR4 HOE HT2 HX2 hz3 hz4 u0 u1 u2 u3 u4 u5 u6 u7 u8 u9 u10 u11
    go_upto_region 19 with (go_at_call 22; refine (receive_any A6 n3 c6 ck HT6.out.ca HOK.out (by have := HN.out; omega) HR6.out (by omega) (by have := HT6.out.d; have := HP.out; omega)).mono ?_; rintro e w7 ⟨v7, l7, p7, rfl, hs, hf⟩; have HF0 := Lib.hid (flS_start HT.out HB1.out HX.out (Nat.le_refl _) HB6.out HO6.out HN3.out hs hf.row); have HL7 := Lib.hid hf.is; obtain ⟨A7, c7, rfl, _, _⟩ := hf.row.form; clear hs hf)
    clear HO6 HR6 y0 y1 y2 y3 y4 y11
    go_wp2_with fail
    go_loopw [19] (fun v wr => ∃ (j : Nat) (zs : List Value), j ≤ n3 ∧ v = .int .i64 (j : Int) ∧ FlS w0 p.g q.g (recvF c ck).2 c (m + (n3 + 1088)) m p7 q w6.heap.size (.slice A7 l7.length c7) l7 w.heap.size #[.int .i64 K, .int .i64 xk, .int .u64 (xh : Int), .slice xA xn xc, .string xs, .int .i64 k, .int .u64 (t : Int), .int .u64 (s : Int), .int .u64 (a : Int), .slice A n cc, .slice B nb cb, .int .i64 Z] w1.heap.size A6 n3 c6 zs wr) (fun v _ => n3 - (intOf v).toNat)
    case atStart => exact ⟨0, _, Nat.zero_le _, rfl, HF0.out⟩
    case round =>
      obtain ⟨j, zs, hj, rfl, hfl⟩ := hrel
      have HFL := Lib.hid hfl
      by_cases hlt : j < n3
      · obtain ⟨gp, u, rfl, hgp, hu, hcell, hfz, _⟩ := own_at hfl.own (show j < n3 + 1 by omega)
        obtain ⟨z, hz⟩ := hfl.el j hlt
        rw [hu] at hz
        injection hz with hz
        subst hz
        have m6 : (0 : Int) ≤ (j : Int) := by omega
        have m7 : (j : Int) < (n3 : Int) := by omega
        have m8 : (j : Int) < ((n3 + 1 : Nat) : Int) := by omega
        have HQ := Lib.hid fun y : Int => HFL.out.set hlt rfl y
        clear hfl hu HF0
        go_wp2
        go_roundw
        case rel => exact ⟨j + 1, _, by omega, by go_num, HQ.out _⟩
        case measure => simp [intOf]; omega
      · obtain rfl : j = n3 := by omega
        clear HF0
        have u0 : wr.cell? ⟨w.heap.size, 0, none⟩ = some (.int .i64 K) := hfl.box.cell 0
        have u1 : wr.cell? ⟨w.heap.size, 1, none⟩ = some (.int .i64 xk) := hfl.box.cell 1
        have u2 : wr.cell? ⟨w.heap.size, 2, none⟩ = some (.int .u64 (xh : Int)) := hfl.box.cell 2
        have u3 : wr.cell? ⟨w.heap.size, 3, none⟩ = some (.slice xA xn xc) := hfl.box.cell 3
        have u4 : wr.cell? ⟨w.heap.size, 4, none⟩ = some (.string xs) := hfl.box.cell 4
        have u5 : wr.cell? ⟨w.heap.size, 5, none⟩ = some (.int .i64 k) := hfl.box.cell 5
        have u6 : wr.cell? ⟨w.heap.size, 6, none⟩ = some (.int .u64 (t : Int)) := hfl.box.cell 6
        have u7 : wr.cell? ⟨w.heap.size, 7, none⟩ = some (.int .u64 (s : Int)) := hfl.box.cell 7
        have u8 : wr.cell? ⟨w.heap.size, 8, none⟩ = some (.int .u64 (a : Int)) := hfl.box.cell 8
        have u9 : wr.cell? ⟨w.heap.size, 9, none⟩ = some (.slice A n cc) := hfl.box.cell 9
        have u10 : wr.cell? ⟨w.heap.size, 10, none⟩ = some (.slice B nb cb) := hfl.box.cell 10
        have u11 : wr.cell? ⟨w.heap.size, 11, none⟩ = some (.int .i64 Z) := hfl.box.cell 11
        have m6 : ¬ (j : Int) < (j : Int) := by omega
        have m7 : (j : Int) < ((j + 1 : Nat) : Int) := by omega
        clear hfl
        go_wp2_with (first
          | (go_at_call 39; refine (chunk_any K xk xh xA xn xc xs k t s a A n cc B nb cb Z body bb wr ((HD.out.r.below HFL.out.tw.old).more HFL.out.tw.old.size) ((HD.out.rb.below HFL.out.tw.old).more HFL.out.tw.old.size) HD.out.t HD.out.s HD.out.a (by have := HNB.out; omega)).mono ?_; rw [← HCH.out]; rintro e w9 ⟨A9, n9, c9, rfl, hn9, hr9, hb9⟩; have HT9 := Lib.hid (HFL.out.tw.below hb9); have HR9 := Lib.hid hr9; have HW9 : Hid (RowK kB w6.heap.size w9 (.slice A7 l7.length c7) l7) := Lib.hid (HFL.out.row.below hb9); have HO9 : Hid (w9.ownsRow w1.heap.size 5 1 (.slice A6 (j + 1) c6) (j + 1) zs) := Lib.hid (own_same HFL.out.own fun k hk => hb9.block k (World.ownsRow.lt HFL.out.own k hk).2); have HN9 := Lib.hid hn9; have hl9 : n9 ≤ 1050000 := (by have := HN3.out; omega); clear hn9 hr9 hb9 u0 u1 u2 u3 u4 u5 u6 u7 u8 u9 u10 u11)
          | (go_at_call 68; refine (rreceive_any A9 n9 c9 ck HT9.out.cd HOK.out (by have := HN.out; omega) HR9.out (by omega) (by have := HT9.out.dq; have := HP.out; omega)).mono ?_; rintro e w10 ⟨v10, l10, q10, rfl, hs, hf⟩; have HT10 := Lib.hid (HT9.out.stepD hs); have HW10 : Hid (RowK kB w6.heap.size w10 (.slice A7 l7.length c7) l7) := Lib.hid (HT.out.row HW9.out (by have h1 := HB1.out.size; have h2 := HB6.out.size; omega) hs.chg); have HV10 := Lib.hid hf.row; have HL10 := Lib.hid hf.is; have HO10 := Lib.hid (own_chg HO9.out hs.chg fun k hk e => (HFL.out.ap k hk).2.2.1 (.inl e)); obtain ⟨A10, c10, rfl, _, _⟩ := hf.row.form; clear hs hf)
          | (go_at_call 65; refine (sameF_any HW10.out HV10.out (HL7.out.trans HL10.out.symm)).mono ?_; rintro e w11 ⟨rfl, hb11⟩; have HT11 := Lib.hid (HT10.out.below hb11); obtain ⟨gp, u, rfl, hgp, hu, hcell, hfz, hle⟩ := own_at (own_same HO10.out fun k hk => hb11.block k (World.ownsRow.lt HO10.out k hk).2) (show j < j + 1 by omega); rw [HFL.out.la] at hu; injection hu with hu; subst hu; clear hb11))
        go_ret
        exact ⟨_, _, rfl, HT11.out.more (by have := HCK.out; have := HBL.out; have := HN3.out; omega) (by have := HCK.out; have := HBL.out; have := HN9.out; omega)⟩
  · have HA : Hid (F = (recvF c ck).2) := Lib.hid (by rw [hact, eK]; simp)
    clear hact
    rw [HA.out]
    obtain ⟨i0, hi, hz0, hz1, hz2⟩ := info_parts info5
    have HT2 := Lib.hid (HT1.out.below ((Below.refl w1.heap.size w1).alloc (Nat.le_refl _) (.cells #[] 5)))
    have HX2 := Lib.hid (HX.out.alloc (.cells #[] 5))
    have u0 : (w1.alloc (.cells #[] 5)).cell? ⟨w.heap.size, 0, none⟩ = some (.int .i64 K) := HX2.out.cell 0
    have u1 : (w1.alloc (.cells #[] 5)).cell? ⟨w.heap.size, 1, none⟩ = some (.int .i64 xk) := HX2.out.cell 1
    have u2 : (w1.alloc (.cells #[] 5)).cell? ⟨w.heap.size, 2, none⟩ = some (.int .u64 (xh : Int)) := HX2.out.cell 2
    have u3 : (w1.alloc (.cells #[] 5)).cell? ⟨w.heap.size, 3, none⟩ = some (.slice xA xn xc) := HX2.out.cell 3
    have u4 : (w1.alloc (.cells #[] 5)).cell? ⟨w.heap.size, 4, none⟩ = some (.string xs) := HX2.out.cell 4
    have u5 : (w1.alloc (.cells #[] 5)).cell? ⟨w.heap.size, 5, none⟩ = some (.int .i64 k) := HX2.out.cell 5
    have u6 : (w1.alloc (.cells #[] 5)).cell? ⟨w.heap.size, 6, none⟩ = some (.int .u64 (t : Int)) := HX2.out.cell 6
    have u7 : (w1.alloc (.cells #[] 5)).cell? ⟨w.heap.size, 7, none⟩ = some (.int .u64 (s : Int)) := HX2.out.cell 7
    have u8 : (w1.alloc (.cells #[] 5)).cell? ⟨w.heap.size, 8, none⟩ = some (.int .u64 (a : Int)) := HX2.out.cell 8
    have u9 : (w1.alloc (.cells #[] 5)).cell? ⟨w.heap.size, 9, none⟩ = some (.slice A n cc) := HX2.out.cell 9
    have u10 : (w1.alloc (.cells #[] 5)).cell? ⟨w.heap.size, 10, none⟩ = some (.slice B nb cb) := HX2.out.cell 10
    have u11 : (w1.alloc (.cells #[] 5)).cell? ⟨w.heap.size, 11, none⟩ = some (.int .i64 Z) := HX2.out.cell 11
    have HOE : Hid ((w1.alloc (.cells #[] 5)).ownsRow w1.heap.size 5 1 (.slice (some ⟨w1.heap.size, 0, none⟩) 0 0) 0 []) := Lib.hid (own_empty w1 5 1 _ (Nat.le_refl _))
    go_enter Try.func35, Try.ntmps35
    go_upto_region 1 with fail
    clear hw1
    go_upto_region 18 with (first
      | (go_at_call 39; refine (chunk_any K xk xh xA xn xc xs k t s a A n cc B nb cb Z body bb (w1.alloc (.cells #[] 5)) ((HD.out.r.below HT2.out.old).more HT2.out.old.size) ((HD.out.rb.below HT2.out.old).more HT2.out.old.size) HD.out.t HD.out.s HD.out.a (by have := HNB.out; omega)).mono ?_; rw [← HCH.out]; rintro e w3 ⟨A3, n3, c3, rfl, hn3, hr3, hb3⟩; have HN3 := Lib.hid hn3; have HR3 := Lib.hid hr3; have HB3 := Lib.hid hb3; have HO3 : Hid (w3.ownsRow w1.heap.size 5 1 (.slice (some ⟨w1.heap.size, 0, none⟩) 0 0) 0 []) := Lib.hid (own_same HOE.out fun k hk => hb3.block k (World.ownsRow.lt HOE.out k hk).2); have hl3 : n3 ≤ 1050000 := (by have := HCK.out; have := HBL.out; have := HNB.out; omega); have hz3 : w1.heap.size ≤ w3.heap.size := (by have := hb3.size; simp at this; omega); clear hn3 hr3 hb3)
      | (at_builtin; refine wpList_append_any _ rfl (.tmp 95) (.tmp 97) 37 rfl w1.heap.size 5 i0 _ 1 1 Try.underlying37 hi hz0 hz1 hz2 rfl (by decide) (.slice (some ⟨w1.heap.size, 0, none⟩) 0 0) 0 [] rfl HO3.out _ A3 n3 c3 (ck.map bv) rfl HR3.out (by simp [bv, Value.oneCell']) (by simp only [maxLen]; omega) (by omega) hz3 ?_; intro v4 w4 hr4 hg4 hv4; rw [Nat.zero_add, List.nil_append] at hr4; have HB4 : Hid (Below w1.heap.size w1 w4) := Lib.hid (((((Below.refl w1.heap.size w1).alloc (Nat.le_refl _) (.cells #[] 5)).trans (HB3.out.mono (by simp)))).trans_grown HO3.out hg4); obtain ⟨A4, c4, rfl, _, _⟩ := own_formL hr4; have HO4 := Lib.hid (World.ownsRow.alloc hr4 (.cells #[.int .u8 77] 5)); have HR4 := Lib.hid (Reads.ofBlk (size := 1) (n := 1) (cs := [.int .u8 77]) (Blk.new w4 5 #[.int .u8 77]) rfl); have hz4 : w1.heap.size ≤ (w4.alloc (.cells #[.int .u8 77] 5)).heap.size := (by have := HB4.out.size; simp; omega); clear hr4 hg4 hv4)
      | (at_builtin; refine wpList_append_any _ rfl (.tmp 98) (.tmp 99) 37 rfl w1.heap.size 5 i0 _ 1 1 Try.underlying37 hi hz0 hz1 hz2 rfl (by decide) (.slice A4 n3 c4) n3 (ck.map bv) rfl HO4.out _ _ 1 1 [.int .u8 77] rfl HR4.out (by simp [Value.oneCell']) (by simp only [maxLen]; omega) (by omega) hz4 ?_; intro v6 w6 hr6 hg6 hv6; have HB6 : Hid (Below w1.heap.size w1 w6) := Lib.hid ((HB4.out.alloc HB4.out.size (.cells #[.int .u8 77] 5)).trans_grown HO4.out hg6); obtain ⟨A6, c6, rfl, hc6, _⟩ := own_formL hr6; have HO6 := Lib.hid hr6; clear hr6 hg6 hv6))
    have HT6 := Lib.hid (HT1.out.below HB6.out)
    have HR6 := Lib.hid (chunk_first HO6.out HN3.out)
    have l3 : wrap64 (((n3 + 1 : Nat) : Int) - 1) = (n3 : Int) := by unfold wrap64; omega
    have l4 : (0 : Int) ≤ (n3 : Int) := by omega
    have l5 : (n3 : Int) ≤ (c6 : Int) := by omega
    clear HO3 HR3 HB3 HO4 HR4 HOE HT2 HX2 hz3 hz4 u0 u1 u2 u3 u4 u5 u6 u7 u8 u9 u10 u11
    go_upto_region 19 with (go_at_call 22; refine (receive_any A6 n3 c6 ck HT6.out.ca HOK.out (by have := HN.out; omega) HR6.out (by omega) (by have := HT6.out.d; have := HP.out; omega)).mono ?_; rintro e w7 ⟨v7, l7, p7, rfl, hs, hf⟩; have HF0 := Lib.hid (flS_start HT.out HB1.out HX.out (Nat.le_refl _) HB6.out HO6.out HN3.out hs hf.row); have HL7 := Lib.hid hf.is; obtain ⟨A7, c7, rfl, _, _⟩ := hf.row.form; clear hs hf)
    clear HO6 HR6 y0 y1 y2 y3 y4 y11
    go_wp2_with fail
    go_loopw [19] (fun v wr => ∃ (j : Nat) (zs : List Value), j ≤ n3 ∧ v = .int .i64 (j : Int) ∧ FlS w0 p.g q.g (recvF c ck).2 c (m + (n3 + 1088)) m p7 q w6.heap.size (.slice A7 l7.length c7) l7 w.heap.size #[.int .i64 K, .int .i64 xk, .int .u64 (xh : Int), .slice xA xn xc, .string xs, .int .i64 k, .int .u64 (t : Int), .int .u64 (s : Int), .int .u64 (a : Int), .slice A n cc, .slice B nb cb, .int .i64 Z] w1.heap.size A6 n3 c6 zs wr) (fun v _ => n3 - (intOf v).toNat)
    case atStart => exact ⟨0, _, Nat.zero_le _, rfl, HF0.out⟩
    case round =>
      obtain ⟨j, zs, hj, rfl, hfl⟩ := hrel
      have HFL := Lib.hid hfl
      by_cases hlt : j < n3
      · obtain ⟨gp, u, rfl, hgp, hu, hcell, hfz, _⟩ := own_at hfl.own (show j < n3 + 1 by omega)
        obtain ⟨z, hz⟩ := hfl.el j hlt
        rw [hu] at hz
        injection hz with hz
        subst hz
        have m6 : (0 : Int) ≤ (j : Int) := by omega
        have m7 : (j : Int) < (n3 : Int) := by omega
        have m8 : (j : Int) < ((n3 + 1 : Nat) : Int) := by omega
        have HQ := Lib.hid fun y : Int => HFL.out.set hlt rfl y
        clear hfl hu HF0
        go_wp2
        go_roundw
        case rel => exact ⟨j + 1, _, by omega, by go_num, HQ.out _⟩
        case measure => simp [intOf]; omega
      · obtain rfl : j = n3 := by omega
        clear HF0
        have u0 : wr.cell? ⟨w.heap.size, 0, none⟩ = some (.int .i64 K) := hfl.box.cell 0
        have u1 : wr.cell? ⟨w.heap.size, 1, none⟩ = some (.int .i64 xk) := hfl.box.cell 1
        have u2 : wr.cell? ⟨w.heap.size, 2, none⟩ = some (.int .u64 (xh : Int)) := hfl.box.cell 2
        have u3 : wr.cell? ⟨w.heap.size, 3, none⟩ = some (.slice xA xn xc) := hfl.box.cell 3
        have u4 : wr.cell? ⟨w.heap.size, 4, none⟩ = some (.string xs) := hfl.box.cell 4
        have u5 : wr.cell? ⟨w.heap.size, 5, none⟩ = some (.int .i64 k) := hfl.box.cell 5
        have u6 : wr.cell? ⟨w.heap.size, 6, none⟩ = some (.int .u64 (t : Int)) := hfl.box.cell 6
        have u7 : wr.cell? ⟨w.heap.size, 7, none⟩ = some (.int .u64 (s : Int)) := hfl.box.cell 7
        have u8 : wr.cell? ⟨w.heap.size, 8, none⟩ = some (.int .u64 (a : Int)) := hfl.box.cell 8
        have u9 : wr.cell? ⟨w.heap.size, 9, none⟩ = some (.slice A n cc) := hfl.box.cell 9
        have u10 : wr.cell? ⟨w.heap.size, 10, none⟩ = some (.slice B nb cb) := hfl.box.cell 10
        have u11 : wr.cell? ⟨w.heap.size, 11, none⟩ = some (.int .i64 Z) := hfl.box.cell 11
        have m6 : ¬ (j : Int) < (j : Int) := by omega
        have m7 : (j : Int) < ((j + 1 : Nat) : Int) := by omega
        clear hfl
        go_wp2_with (first
          | (go_at_call 39; refine (chunk_any K xk xh xA xn xc xs k t s a A n cc B nb cb Z body bb wr ((HD.out.r.below HFL.out.tw.old).more HFL.out.tw.old.size) ((HD.out.rb.below HFL.out.tw.old).more HFL.out.tw.old.size) HD.out.t HD.out.s HD.out.a (by have := HNB.out; omega)).mono ?_; rw [← HCH.out]; rintro e w9 ⟨A9, n9, c9, rfl, hn9, hr9, hb9⟩; have HT9 := Lib.hid (HFL.out.tw.below hb9); have HR9 := Lib.hid hr9; have HW9 : Hid (RowK kB w6.heap.size w9 (.slice A7 l7.length c7) l7) := Lib.hid (HFL.out.row.below hb9); have HO9 : Hid (w9.ownsRow w1.heap.size 5 1 (.slice A6 (j + 1) c6) (j + 1) zs) := Lib.hid (own_same HFL.out.own fun k hk => hb9.block k (World.ownsRow.lt HFL.out.own k hk).2); have HN9 := Lib.hid hn9; have hl9 : n9 ≤ 1050000 := (by have := HN3.out; omega); clear hn9 hr9 hb9 u0 u1 u2 u3 u4 u5 u6 u7 u8 u9 u10 u11)
          | (go_at_call 68; refine (rreceive_any A9 n9 c9 ck HT9.out.cd HOK.out (by have := HN.out; omega) HR9.out (by omega) (by have := HT9.out.dq; have := HP.out; omega)).mono ?_; rintro e w10 ⟨v10, l10, q10, rfl, hs, hf⟩; have HT10 := Lib.hid (HT9.out.stepD hs); have HW10 : Hid (RowK kB w6.heap.size w10 (.slice A7 l7.length c7) l7) := Lib.hid (HT.out.row HW9.out (by have h1 := HB1.out.size; have h2 := HB6.out.size; omega) hs.chg); have HV10 := Lib.hid hf.row; have HL10 := Lib.hid hf.is; have HO10 := Lib.hid (own_chg HO9.out hs.chg fun k hk e => (HFL.out.ap k hk).2.2.1 (.inl e)); obtain ⟨A10, c10, rfl, _, _⟩ := hf.row.form; clear hs hf)
          | (go_at_call 65; refine (sameF_any HW10.out HV10.out (HL7.out.trans HL10.out.symm)).mono ?_; rintro e w11 ⟨rfl, hb11⟩; have HT11 := Lib.hid (HT10.out.below hb11); obtain ⟨gp, u, rfl, hgp, hu, hcell, hfz, hle⟩ := own_at (own_same HO10.out fun k hk => hb11.block k (World.ownsRow.lt HO10.out k hk).2) (show j < j + 1 by omega); rw [HFL.out.la] at hu; injection hu with hu; subst hu; clear hb11))
        go_ret
        exact ⟨_, _, rfl, HT11.out.more (by have := HCK.out; have := HBL.out; have := HN3.out; omega) (by have := HCK.out; have := HBL.out; have := HN9.out; omega)⟩
  · have HA : Hid (F = (recvF c ck).2) := Lib.hid (by rw [hact, eK]; simp)
    clear hact
    rw [HA.out]
    obtain ⟨i0, hi, hz0, hz1, hz2⟩ := info_parts info5
    have HT2 := Lib.hid (HT1.out.below ((Below.refl w1.heap.size w1).alloc (Nat.le_refl _) (.cells #[] 5)))
    have HX2 := Lib.hid (HX.out.alloc (.cells #[] 5))
    have u0 : (w1.alloc (.cells #[] 5)).cell? ⟨w.heap.size, 0, none⟩ = some (.int .i64 K) := HX2.out.cell 0
    have u1 : (w1.alloc (.cells #[] 5)).cell? ⟨w.heap.size, 1, none⟩ = some (.int .i64 xk) := HX2.out.cell 1
    have u2 : (w1.alloc (.cells #[] 5)).cell? ⟨w.heap.size, 2, none⟩ = some (.int .u64 (xh : Int)) := HX2.out.cell 2
    have u3 : (w1.alloc (.cells #[] 5)).cell? ⟨w.heap.size, 3, none⟩ = some (.slice xA xn xc) := HX2.out.cell 3
    have u4 : (w1.alloc (.cells #[] 5)).cell? ⟨w.heap.size, 4, none⟩ = some (.string xs) := HX2.out.cell 4
    have u5 : (w1.alloc (.cells #[] 5)).cell? ⟨w.heap.size, 5, none⟩ = some (.int .i64 k) := HX2.out.cell 5
    have u6 : (w1.alloc (.cells #[] 5)).cell? ⟨w.heap.size, 6, none⟩ = some (.int .u64 (t : Int)) := HX2.out.cell 6
    have u7 : (w1.alloc (.cells #[] 5)).cell? ⟨w.heap.size, 7, none⟩ = some (.int .u64 (s : Int)) := HX2.out.cell 7
    have u8 : (w1.alloc (.cells #[] 5)).cell? ⟨w.heap.size, 8, none⟩ = some (.int .u64 (a : Int)) := HX2.out.cell 8
    have u9 : (w1.alloc (.cells #[] 5)).cell? ⟨w.heap.size, 9, none⟩ = some (.slice A n cc) := HX2.out.cell 9
    have u10 : (w1.alloc (.cells #[] 5)).cell? ⟨w.heap.size, 10, none⟩ = some (.slice B nb cb) := HX2.out.cell 10
    have u11 : (w1.alloc (.cells #[] 5)).cell? ⟨w.heap.size, 11, none⟩ = some (.int .i64 Z) := HX2.out.cell 11
    have HOE : Hid ((w1.alloc (.cells #[] 5)).ownsRow w1.heap.size 5 1 (.slice (some ⟨w1.heap.size, 0, none⟩) 0 0) 0 []) := Lib.hid (own_empty w1 5 1 _ (Nat.le_refl _))
    go_enter Try.func35, Try.ntmps35
    go_upto_region 1 with fail
    clear hw1
    go_upto_region 18 with (first
      | (go_at_call 39; refine (chunk_any K xk xh xA xn xc xs k t s a A n cc B nb cb Z body bb (w1.alloc (.cells #[] 5)) ((HD.out.r.below HT2.out.old).more HT2.out.old.size) ((HD.out.rb.below HT2.out.old).more HT2.out.old.size) HD.out.t HD.out.s HD.out.a (by have := HNB.out; omega)).mono ?_; rw [← HCH.out]; rintro e w3 ⟨A3, n3, c3, rfl, hn3, hr3, hb3⟩; have HN3 := Lib.hid hn3; have HR3 := Lib.hid hr3; have HB3 := Lib.hid hb3; have HO3 : Hid (w3.ownsRow w1.heap.size 5 1 (.slice (some ⟨w1.heap.size, 0, none⟩) 0 0) 0 []) := Lib.hid (own_same HOE.out fun k hk => hb3.block k (World.ownsRow.lt HOE.out k hk).2); have hl3 : n3 ≤ 1050000 := (by have := HCK.out; have := HBL.out; have := HNB.out; omega); have hz3 : w1.heap.size ≤ w3.heap.size := (by have := hb3.size; simp at this; omega); clear hn3 hr3 hb3)
      | (at_builtin; refine wpList_append_any _ rfl (.tmp 95) (.tmp 97) 37 rfl w1.heap.size 5 i0 _ 1 1 Try.underlying37 hi hz0 hz1 hz2 rfl (by decide) (.slice (some ⟨w1.heap.size, 0, none⟩) 0 0) 0 [] rfl HO3.out _ A3 n3 c3 (ck.map bv) rfl HR3.out (by simp [bv, Value.oneCell']) (by simp only [maxLen]; omega) (by omega) hz3 ?_; intro v4 w4 hr4 hg4 hv4; rw [Nat.zero_add, List.nil_append] at hr4; have HB4 : Hid (Below w1.heap.size w1 w4) := Lib.hid (((((Below.refl w1.heap.size w1).alloc (Nat.le_refl _) (.cells #[] 5)).trans (HB3.out.mono (by simp)))).trans_grown HO3.out hg4); obtain ⟨A4, c4, rfl, _, _⟩ := own_formL hr4; have HO4 := Lib.hid (World.ownsRow.alloc hr4 (.cells #[.int .u8 77] 5)); have HR4 := Lib.hid (Reads.ofBlk (size := 1) (n := 1) (cs := [.int .u8 77]) (Blk.new w4 5 #[.int .u8 77]) rfl); have hz4 : w1.heap.size ≤ (w4.alloc (.cells #[.int .u8 77] 5)).heap.size := (by have := HB4.out.size; simp; omega); clear hr4 hg4 hv4)
      | (at_builtin; refine wpList_append_any _ rfl (.tmp 98) (.tmp 99) 37 rfl w1.heap.size 5 i0 _ 1 1 Try.underlying37 hi hz0 hz1 hz2 rfl (by decide) (.slice A4 n3 c4) n3 (ck.map bv) rfl HO4.out _ _ 1 1 [.int .u8 77] rfl HR4.out (by simp [Value.oneCell']) (by simp only [maxLen]; omega) (by omega) hz4 ?_; intro v6 w6 hr6 hg6 hv6; have HB6 : Hid (Below w1.heap.size w1 w6) := Lib.hid ((HB4.out.alloc HB4.out.size (.cells #[.int .u8 77] 5)).trans_grown HO4.out hg6); obtain ⟨A6, c6, rfl, hc6, _⟩ := own_formL hr6; have HO6 := Lib.hid hr6; clear hr6 hg6 hv6))
    have HT6 := Lib.hid (HT1.out.below HB6.out)
    have HR6 := Lib.hid (chunk_first HO6.out HN3.out)
    have l3 : wrap64 (((n3 + 1 : Nat) : Int) - 1) = (n3 : Int) := by unfold wrap64; omega
    have l4 : (0 : Int) ≤ (n3 : Int) := by omega
    have l5 : (n3 : Int) ≤ (c6 : Int) := by omega
    clear HO3 HR3 HB3 HO4 HR4 HOE HT2 HX2 hz3 hz4 u0 u1 u2 u3 u4 u5 u6 u7 u8 u9 u10 u11
    go_upto_region 19 with (go_at_call 22; refine (receive_any A6 n3 c6 ck HT6.out.ca HOK.out (by have := HN.out; omega) HR6.out (by omega) (by have := HT6.out.d; have := HP.out; omega)).mono ?_; rintro e w7 ⟨v7, l7, p7, rfl, hs, hf⟩; have HF0 := Lib.hid (flS_start HT.out HB1.out HX.out (Nat.le_refl _) HB6.out HO6.out HN3.out hs hf.row); have HL7 := Lib.hid hf.is; obtain ⟨A7, c7, rfl, _, _⟩ := hf.row.form; clear hs hf)
    clear HO6 HR6 y0 y1 y2 y3 y4 y11
    go_wp2_with fail
    go_loopw [19] (fun v wr => ∃ (j : Nat) (zs : List Value), j ≤ n3 ∧ v = .int .i64 (j : Int) ∧ FlS w0 p.g q.g (recvF c ck).2 c (m + (n3 + 1088)) m p7 q w6.heap.size (.slice A7 l7.length c7) l7 w.heap.size #[.int .i64 K, .int .i64 xk, .int .u64 (xh : Int), .slice xA xn xc, .string xs, .int .i64 k, .int .u64 (t : Int), .int .u64 (s : Int), .int .u64 (a : Int), .slice A n cc, .slice B nb cb, .int .i64 Z] w1.heap.size A6 n3 c6 zs wr) (fun v _ => n3 - (intOf v).toNat)
    case atStart => exact ⟨0, _, Nat.zero_le _, rfl, HF0.out⟩
    case round =>
      obtain ⟨j, zs, hj, rfl, hfl⟩ := hrel
      have HFL := Lib.hid hfl
      by_cases hlt : j < n3
      · obtain ⟨gp, u, rfl, hgp, hu, hcell, hfz, _⟩ := own_at hfl.own (show j < n3 + 1 by omega)
        obtain ⟨z, hz⟩ := hfl.el j hlt
        rw [hu] at hz
        injection hz with hz
        subst hz
        have m6 : (0 : Int) ≤ (j : Int) := by omega
        have m7 : (j : Int) < (n3 : Int) := by omega
        have m8 : (j : Int) < ((n3 + 1 : Nat) : Int) := by omega
        have HQ := Lib.hid fun y : Int => HFL.out.set hlt rfl y
        clear hfl hu HF0
        go_wp2
        go_roundw
        case rel => exact ⟨j + 1, _, by omega, by go_num, HQ.out _⟩
        case measure => simp [intOf]; omega
      · obtain rfl : j = n3 := by omega
        clear HF0
        have u0 : wr.cell? ⟨w.heap.size, 0, none⟩ = some (.int .i64 K) := hfl.box.cell 0
        have u1 : wr.cell? ⟨w.heap.size, 1, none⟩ = some (.int .i64 xk) := hfl.box.cell 1
        have u2 : wr.cell? ⟨w.heap.size, 2, none⟩ = some (.int .u64 (xh : Int)) := hfl.box.cell 2
        have u3 : wr.cell? ⟨w.heap.size, 3, none⟩ = some (.slice xA xn xc) := hfl.box.cell 3
        have u4 : wr.cell? ⟨w.heap.size, 4, none⟩ = some (.string xs) := hfl.box.cell 4
        have u5 : wr.cell? ⟨w.heap.size, 5, none⟩ = some (.int .i64 k) := hfl.box.cell 5
        have u6 : wr.cell? ⟨w.heap.size, 6, none⟩ = some (.int .u64 (t : Int)) := hfl.box.cell 6
        have u7 : wr.cell? ⟨w.heap.size, 7, none⟩ = some (.int .u64 (s : Int)) := hfl.box.cell 7
        have u8 : wr.cell? ⟨w.heap.size, 8, none⟩ = some (.int .u64 (a : Int)) := hfl.box.cell 8
        have u9 : wr.cell? ⟨w.heap.size, 9, none⟩ = some (.slice A n cc) := hfl.box.cell 9
        have u10 : wr.cell? ⟨w.heap.size, 10, none⟩ = some (.slice B nb cb) := hfl.box.cell 10
        have u11 : wr.cell? ⟨w.heap.size, 11, none⟩ = some (.int .i64 Z) := hfl.box.cell 11
        have m6 : ¬ (j : Int) < (j : Int) := by omega
        have m7 : (j : Int) < ((j + 1 : Nat) : Int) := by omega
        clear hfl
        go_wp2_with (first
          | (go_at_call 39; refine (chunk_any K xk xh xA xn xc xs k t s a A n cc B nb cb Z body bb wr ((HD.out.r.below HFL.out.tw.old).more HFL.out.tw.old.size) ((HD.out.rb.below HFL.out.tw.old).more HFL.out.tw.old.size) HD.out.t HD.out.s HD.out.a (by have := HNB.out; omega)).mono ?_; rw [← HCH.out]; rintro e w9 ⟨A9, n9, c9, rfl, hn9, hr9, hb9⟩; have HT9 := Lib.hid (HFL.out.tw.below hb9); have HR9 := Lib.hid hr9; have HW9 : Hid (RowK kB w6.heap.size w9 (.slice A7 l7.length c7) l7) := Lib.hid (HFL.out.row.below hb9); have HO9 : Hid (w9.ownsRow w1.heap.size 5 1 (.slice A6 (j + 1) c6) (j + 1) zs) := Lib.hid (own_same HFL.out.own fun k hk => hb9.block k (World.ownsRow.lt HFL.out.own k hk).2); have HN9 := Lib.hid hn9; have hl9 : n9 ≤ 1050000 := (by have := HN3.out; omega); clear hn9 hr9 hb9 u0 u1 u2 u3 u4 u5 u6 u7 u8 u9 u10 u11)
          | (go_at_call 68; refine (rreceive_any A9 n9 c9 ck HT9.out.cd HOK.out (by have := HN.out; omega) HR9.out (by omega) (by have := HT9.out.dq; have := HP.out; omega)).mono ?_; rintro e w10 ⟨v10, l10, q10, rfl, hs, hf⟩; have HT10 := Lib.hid (HT9.out.stepD hs); have HW10 : Hid (RowK kB w6.heap.size w10 (.slice A7 l7.length c7) l7) := Lib.hid (HT.out.row HW9.out (by have h1 := HB1.out.size; have h2 := HB6.out.size; omega) hs.chg); have HV10 := Lib.hid hf.row; have HL10 := Lib.hid hf.is; have HO10 := Lib.hid (own_chg HO9.out hs.chg fun k hk e => (HFL.out.ap k hk).2.2.1 (.inl e)); obtain ⟨A10, c10, rfl, _, _⟩ := hf.row.form; clear hs hf)
          | (go_at_call 65; refine (sameF_any HW10.out HV10.out (HL7.out.trans HL10.out.symm)).mono ?_; rintro e w11 ⟨rfl, hb11⟩; have HT11 := Lib.hid (HT10.out.below hb11); obtain ⟨gp, u, rfl, hgp, hu, hcell, hfz, hle⟩ := own_at (own_same HO10.out fun k hk => hb11.block k (World.ownsRow.lt HO10.out k hk).2) (show j < j + 1 by omega); rw [HFL.out.la] at hu; injection hu with hu; subst hu; clear hb11))
        go_ret
        exact ⟨_, _, rfl, HT11.out.more (by have := HCK.out; have := HBL.out; have := HN3.out; omega) (by have := HCK.out; have := HBL.out; have := HN9.out; omega)⟩
  · have HA : Hid (F = (recvF c ck).2) := Lib.hid (by rw [hact, eK]; simp)
    clear hact
    rw [HA.out]
    obtain ⟨i0, hi, hz0, hz1, hz2⟩ := info_parts info5
    have HT2 := Lib.hid (HT1.out.below ((Below.refl w1.heap.size w1).alloc (Nat.le_refl _) (.cells #[] 5)))
    have HX2 := Lib.hid (HX.out.alloc (.cells #[] 5))
    have u0 : (w1.alloc (.cells #[] 5)).cell? ⟨w.heap.size, 0, none⟩ = some (.int .i64 K) := HX2.out.cell 0
    have u1 : (w1.alloc (.cells #[] 5)).cell? ⟨w.heap.size, 1, none⟩ = some (.int .i64 xk) := HX2.out.cell 1
    have u2 : (w1.alloc (.cells #[] 5)).cell? ⟨w.heap.size, 2, none⟩ = some (.int .u64 (xh : Int)) := HX2.out.cell 2
    have u3 : (w1.alloc (.cells #[] 5)).cell? ⟨w.heap.size, 3, none⟩ = some (.slice xA xn xc) := HX2.out.cell 3
    have u4 : (w1.alloc (.cells #[] 5)).cell? ⟨w.heap.size, 4, none⟩ = some (.string xs) := HX2.out.cell 4
    have u5 : (w1.alloc (.cells #[] 5)).cell? ⟨w.heap.size, 5, none⟩ = some (.int .i64 k) := HX2.out.cell 5
    have u6 : (w1.alloc (.cells #[] 5)).cell? ⟨w.heap.size, 6, none⟩ = some (.int .u64 (t : Int)) := HX2.out.cell 6
    have u7 : (w1.alloc (.cells #[] 5)).cell? ⟨w.heap.size, 7, none⟩ = some (.int .u64 (s : Int)) := HX2.out.cell 7
    have u8 : (w1.alloc (.cells #[] 5)).cell? ⟨w.heap.size, 8, none⟩ = some (.int .u64 (a : Int)) := HX2.out.cell 8
    have u9 : (w1.alloc (.cells #[] 5)).cell? ⟨w.heap.size, 9, none⟩ = some (.slice A n cc) := HX2.out.cell 9
    have u10 : (w1.alloc (.cells #[] 5)).cell? ⟨w.heap.size, 10, none⟩ = some (.slice B nb cb) := HX2.out.cell 10
    have u11 : (w1.alloc (.cells #[] 5)).cell? ⟨w.heap.size, 11, none⟩ = some (.int .i64 Z) := HX2.out.cell 11
    have HOE : Hid ((w1.alloc (.cells #[] 5)).ownsRow w1.heap.size 5 1 (.slice (some ⟨w1.heap.size, 0, none⟩) 0 0) 0 []) := Lib.hid (own_empty w1 5 1 _ (Nat.le_refl _))
    go_enter Try.func35, Try.ntmps35
    go_upto_region 1 with fail
    clear hw1
    go_upto_region 18 with (first
      | (go_at_call 39; refine (chunk_any K xk xh xA xn xc xs k t s a A n cc B nb cb Z body bb (w1.alloc (.cells #[] 5)) ((HD.out.r.below HT2.out.old).more HT2.out.old.size) ((HD.out.rb.below HT2.out.old).more HT2.out.old.size) HD.out.t HD.out.s HD.out.a (by have := HNB.out; omega)).mono ?_; rw [← HCH.out]; rintro e w3 ⟨A3, n3, c3, rfl, hn3, hr3, hb3⟩; have HN3 := Lib.hid hn3; have HR3 := Lib.hid hr3; have HB3 := Lib.hid hb3; have HO3 : Hid (w3.ownsRow w1.heap.size 5 1 (.slice (some ⟨w1.heap.size, 0, none⟩) 0 0) 0 []) := Lib.hid (own_same HOE.out fun k hk => hb3.block k (World.ownsRow.lt HOE.out k hk).2); have hl3 : n3 ≤ 1050000 := (by have := HCK.out; have := HBL.out; have := HNB.out; omega); have hz3 : w1.heap.size ≤ w3.heap.size := (by have := hb3.size; simp at this; omega); clear hn3 hr3 hb3)
      | (at_builtin; refine wpList_append_any _ rfl (.tmp 95) (.tmp 97) 37 rfl w1.heap.size 5 i0 _ 1 1 Try.underlying37 hi hz0 hz1 hz2 rfl (by decide) (.slice (some ⟨w1.heap.size, 0, none⟩) 0 0) 0 [] rfl HO3.out _ A3 n3 c3 (ck.map bv) rfl HR3.out (by simp [bv, Value.oneCell']) (by simp only [maxLen]; omega) (by omega) hz3 ?_; intro v4 w4 hr4 hg4 hv4; rw [Nat.zero_add, List.nil_append] at hr4; have HB4 : Hid (Below w1.heap.size w1 w4) := Lib.hid (((((Below.refl w1.heap.size w1).alloc (Nat.le_refl _) (.cells #[] 5)).trans (HB3.out.mono (by simp)))).trans_grown HO3.out hg4); obtain ⟨A4, c4, rfl, _, _⟩ := own_formL hr4; have HO4 := Lib.hid (World.ownsRow.alloc hr4 (.cells #[.int .u8 77] 5)); have HR4 := Lib.hid (Reads.ofBlk (size := 1) (n := 1) (cs := [.int .u8 77]) (Blk.new w4 5 #[.int .u8 77]) rfl); have hz4 : w1.heap.size ≤ (w4.alloc (.cells #[.int .u8 77] 5)).heap.size := (by have := HB4.out.size; simp; omega); clear hr4 hg4 hv4)
      | (at_builtin; refine wpList_append_any _ rfl (.tmp 98) (.tmp 99) 37 rfl w1.heap.size 5 i0 _ 1 1 Try.underlying37 hi hz0 hz1 hz2 rfl (by decide) (.slice A4 n3 c4) n3 (ck.map bv) rfl HO4.out _ _ 1 1 [.int .u8 77] rfl HR4.out (by simp [Value.oneCell']) (by simp only [maxLen]; omega) (by omega) hz4 ?_; intro v6 w6 hr6 hg6 hv6; have HB6 : Hid (Below w1.heap.size w1 w6) := Lib.hid ((HB4.out.alloc HB4.out.size (.cells #[.int .u8 77] 5)).trans_grown HO4.out hg6); obtain ⟨A6, c6, rfl, hc6, _⟩ := own_formL hr6; have HO6 := Lib.hid hr6; clear hr6 hg6 hv6))
    have HT6 := Lib.hid (HT1.out.below HB6.out)
    have HR6 := Lib.hid (chunk_first HO6.out HN3.out)
    have l3 : wrap64 (((n3 + 1 : Nat) : Int) - 1) = (n3 : Int) := by unfold wrap64; omega
    have l4 : (0 : Int) ≤ (n3 : Int) := by omega
    have l5 : (n3 : Int) ≤ (c6 : Int) := by omega
    clear HO3 HR3 HB3 HO4 HR4 HOE HT2 HX2 hz3 hz4 u0 u1 u2 u3 u4 u5 u6 u7 u8 u9 u10 u11
    go_upto_region 19 with (go_at_call 22; refine (receive_any A6 n3 c6 ck HT6.out.ca HOK.out (by have := HN.out; omega) HR6.out (by omega) (by have := HT6.out.d; have := HP.out; omega)).mono ?_; rintro e w7 ⟨v7, l7, p7, rfl, hs, hf⟩; have HF0 := Lib.hid (flS_start HT.out HB1.out HX.out (Nat.le_refl _) HB6.out HO6.out HN3.out hs hf.row); have HL7 := Lib.hid hf.is; obtain ⟨A7, c7, rfl, _, _⟩ := hf.row.form; clear hs hf)
    clear HO6 HR6 y0 y1 y2 y3 y4 y11
    go_wp2_with fail
    go_loopw [19] (fun v wr => ∃ (j : Nat) (zs : List Value), j ≤ n3 ∧ v = .int .i64 (j : Int) ∧ FlS w0 p.g q.g (recvF c ck).2 c (m + (n3 + 1088)) m p7 q w6.heap.size (.slice A7 l7.length c7) l7 w.heap.size #[.int .i64 K, .int .i64 xk, .int .u64 (xh : Int), .slice xA xn xc, .string xs, .int .i64 k, .int .u64 (t : Int), .int .u64 (s : Int), .int .u64 (a : Int), .slice A n cc, .slice B nb cb, .int .i64 Z] w1.heap.size A6 n3 c6 zs wr) (fun v _ => n3 - (intOf v).toNat)
    case atStart => exact ⟨0, _, Nat.zero_le _, rfl, HF0.out⟩
    case round =>
      obtain ⟨j, zs, hj, rfl, hfl⟩ := hrel
      have HFL := Lib.hid hfl
      by_cases hlt : j < n3
      · obtain ⟨gp, u, rfl, hgp, hu, hcell, hfz, _⟩ := own_at hfl.own (show j < n3 + 1 by omega)
        obtain ⟨z, hz⟩ := hfl.el j hlt
        rw [hu] at hz
        injection hz with hz
        subst hz
        have m6 : (0 : Int) ≤ (j : Int) := by omega
        have m7 : (j : Int) < (n3 : Int) := by omega
        have m8 : (j : Int) < ((n3 + 1 : Nat) : Int) := by omega
        have HQ := Lib.hid fun y : Int => HFL.out.set hlt rfl y
        clear hfl hu HF0
        go_wp2
        go_roundw
        case rel => exact ⟨j + 1, _, by omega, by go_num, HQ.out _⟩
        case measure => simp [intOf]; omega
      · obtain rfl : j = n3 := by omega
        clear HF0
        have u0 : wr.cell? ⟨w.heap.size, 0, none⟩ = some (.int .i64 K) := hfl.box.cell 0
        have u1 : wr.cell? ⟨w.heap.size, 1, none⟩ = some (.int .i64 xk) := hfl.box.cell 1
        have u2 : wr.cell? ⟨w.heap.size, 2, none⟩ = some (.int .u64 (xh : Int)) := hfl.box.cell 2
        have u3 : wr.cell? ⟨w.heap.size, 3, none⟩ = some (.slice xA xn xc) := hfl.box.cell 3
        have u4 : wr.cell? ⟨w.heap.size, 4, none⟩ = some (.string xs) := hfl.box.cell 4
        have u5 : wr.cell? ⟨w.heap.size, 5, none⟩ = some (.int .i64 k) := hfl.box.cell 5
        have u6 : wr.cell? ⟨w.heap.size, 6, none⟩ = some (.int .u64 (t : Int)) := hfl.box.cell 6
        have u7 : wr.cell? ⟨w.heap.size, 7, none⟩ = some (.int .u64 (s : Int)) := hfl.box.cell 7
        have u8 : wr.cell? ⟨w.heap.size, 8, none⟩ = some (.int .u64 (a : Int)) := hfl.box.cell 8
        have u9 : wr.cell? ⟨w.heap.size, 9, none⟩ = some (.slice A n cc) := hfl.box.cell 9
        have u10 : wr.cell? ⟨w.heap.size, 10, none⟩ = some (.slice B nb cb) := hfl.box.cell 10
        have u11 : wr.cell? ⟨w.heap.size, 11, none⟩ = some (.int .i64 Z) := hfl.box.cell 11
        have m6 : ¬ (j : Int) < (j : Int) := by omega
        have m7 : (j : Int) < ((j + 1 : Nat) : Int) := by omega
        clear hfl
        go_wp2_with (first
          | (go_at_call 39; refine (chunk_any K xk xh xA xn xc xs k t s a A n cc B nb cb Z body bb wr ((HD.out.r.below HFL.out.tw.old).more HFL.out.tw.old.size) ((HD.out.rb.below HFL.out.tw.old).more HFL.out.tw.old.size) HD.out.t HD.out.s HD.out.a (by have := HNB.out; omega)).mono ?_; rw [← HCH.out]; rintro e w9 ⟨A9, n9, c9, rfl, hn9, hr9, hb9⟩; have HT9 := Lib.hid (HFL.out.tw.below hb9); have HR9 := Lib.hid hr9; have HW9 : Hid (RowK kB w6.heap.size w9 (.slice A7 l7.length c7) l7) := Lib.hid (HFL.out.row.below hb9); have HO9 : Hid (w9.ownsRow w1.heap.size 5 1 (.slice A6 (j + 1) c6) (j + 1) zs) := Lib.hid (own_same HFL.out.own fun k hk => hb9.block k (World.ownsRow.lt HFL.out.own k hk).2); have HN9 := Lib.hid hn9; have hl9 : n9 ≤ 1050000 := (by have := HN3.out; omega); clear hn9 hr9 hb9 u0 u1 u2 u3 u4 u5 u6 u7 u8 u9 u10 u11)
          | (go_at_call 68; refine (rreceive_any A9 n9 c9 ck HT9.out.cd HOK.out (by have := HN.out; omega) HR9.out (by omega) (by have := HT9.out.dq; have := HP.out; omega)).mono ?_; rintro e w10 ⟨v10, l10, q10, rfl, hs, hf⟩; have HT10 := Lib.hid (HT9.out.stepD hs); have HW10 : Hid (RowK kB w6.heap.size w10 (.slice A7 l7.length c7) l7) := Lib.hid (HT.out.row HW9.out (by have h1 := HB1.out.size; have h2 := HB6.out.size; omega) hs.chg); have HV10 := Lib.hid hf.row; have HL10 := Lib.hid hf.is; have HO10 := Lib.hid (own_chg HO9.out hs.chg fun k hk e => (HFL.out.ap k hk).2.2.1 (.inl e)); obtain ⟨A10, c10, rfl, _, _⟩ := hf.row.form; clear hs hf)
          | (go_at_call 65; refine (sameF_any HW10.out HV10.out (HL7.out.trans HL10.out.symm)).mono ?_; rintro e w11 ⟨rfl, hb11⟩; have HT11 := Lib.hid (HT10.out.below hb11); obtain ⟨gp, u, rfl, hgp, hu, hcell, hfz, hle⟩ := own_at (own_same HO10.out fun k hk => hb11.block k (World.ownsRow.lt HO10.out k hk).2) (show j < j + 1 by omega); rw [HFL.out.la] at hu; injection hu with hu; subst hu; clear hb11))
        go_ret
        exact ⟨_, _, rfl, HT11.out.more (by have := HCK.out; have := HBL.out; have := HN3.out; omega) (by have := HCK.out; have := HBL.out; have := HN9.out; omega)⟩
  · have HA : Hid (F = (tickF c Z).2) := Lib.hid (by rw [hact, eK]; simp)
    clear hact
    rw [HA.out]
    have HTd : Hid (TwX w0 p.g q.g c c m m p q w1.drew) := Lib.hid (HT1.out.below ⟨rfl, rfl, rfl, Nat.le_refl _, fun _ _ => rfl⟩)
    have HSZ : Hid (w.heap.size ≤ w1.drew.heap.size) := Lib.hid HB1.out.size
    go_enter Try.func35, Try.ntmps35
    go_upto_region 1 with fail
    clear hw1
    go_upto_region 25 with fail
    go_region_held3 (fun W => W.cell? ⟨w.heap.size, 11, none⟩ = some (.int .i64 Z)) (first | go_keep | exact hk3 | exact hk4 | exact hk5)
      (first
      | (go_at_call 24; refine (tick_any Z HTd.out.ca HOK.out (by have := HN.out; omega)).mono ?_; rintro e w3 ⟨v3, l3, p3, rfl, hs, hf⟩; have HT3 := Lib.hid (HTd.out.stepP hs); have HF3 := Lib.hid hf.row; have HL3 := Lib.hid hf.is; have hx3 : Blk w3 w.heap.size 41 _ := hs.chg.blk (w := w1.drew) HX.out HNX.out; have HX3 := Lib.hid hx3; have hk3 : w3.cell? ⟨w.heap.size, 11, none⟩ = some (.int .i64 Z) := hx3.cell 11; obtain ⟨A3, c3, rfl, _, _⟩ := hf.row.form; clear hs hf hx3)
      | (go_at_call 69; refine (rtick_any Z HT3.out.cd HOK.out (by have := HN.out; omega)).mono ?_; intro e w4 hq; obtain ⟨v4, l4, q4, rfl, hs, hf⟩ := AnsD.toE (m := 0) HT3.out.cd hq; have HT4 := Lib.hid (HT3.out.stepD hs); have R4 := Lib.hid (HT.out.row (w1 := w3) HF3.out HSZ.out hs.chg); have R5 := Lib.hid hf.row; have HL4 := Lib.hid hf.is; have hx4 : Blk w4 w.heap.size 41 _ := hs.chg.blk HX3.out (fun e => by have := (HT.out.cd.cfd e).2; omega); have HX4 := Lib.hid hx4; have hk4 : w4.cell? ⟨w.heap.size, 11, none⟩ = some (.int .i64 Z) := hx4.cell 11; obtain ⟨A4, c4, rfl, _, _⟩ := hf.row.form; clear hs hf hq hx4)
      | (go_at_call 65; refine (sameF_any R4.out R5.out (HL3.out.trans HL4.out.symm)).mono ?_; rintro e w5 ⟨rfl, hb5⟩; have HB5 := Lib.hid hb5; have hk5 : w5.cell? ⟨w.heap.size, 11, none⟩ = some (.int .i64 Z) := Blk.cell (t := 41) ((hb5.block _ HX4.out.lt).trans HX4.out) 11; clear hb5))
    go_wp2
    go_ret
    exact ⟨_, _, rfl, (HT4.out.below HB5.out).more (by omega) (by omega)⟩
  · obtain ⟨e0, e1, e2, e3, e4, e5, e6, e7, e8, e9⟩ := eK
    by_cases hz : Z.tmod 7 = 0
    · have HA : Hid (F = (byeF c).2.2) := Lib.hid (by rw [hact, if_neg e9, if_pos hz])
      clear hact e9
      rw [HA.out]
      go_enter Try.func35, Try.ntmps35
      go_upto_region 1 with fail
      clear hw1
      go_wp2_with (first
        | (go_at_call 37; refine (bye_any HT1.out.ca HOK.out (by have := HN.out; omega)).mono ?_; rintro e w3 ⟨v3, l3, p3, rfl, hs, hf⟩; have HT3 := Lib.hid (HT1.out.stepP hs); have HF3 := Lib.hid hf.row; have HL3 := Lib.hid hf.is; have HSZ : Hid (w.heap.size ≤ w1.heap.size) := Lib.hid HB1.out.size; obtain ⟨A3, c3, rfl, _, _⟩ := hf.row.form; clear hs hf)
        | (go_at_call 70; refine (rbye_any HT3.out.cd HOK.out (by have := HN.out; omega)).mono ?_; intro e w4 hq; obtain ⟨v4, l4, q4, rfl, hs, hf⟩ := AnsD.toE (m := 0) HT3.out.cd hq; have HT4 := Lib.hid (HT3.out.stepD hs); have R4 := Lib.hid (HT.out.row (w1 := w3) HF3.out HSZ.out hs.chg); have R5 := Lib.hid hf.row; have HL4 := Lib.hid hf.is; obtain ⟨A4, c4, rfl, _, _⟩ := hf.row.form; clear hs hf hq)
        | (go_at_call 65; refine (sameF_any R4.out R5.out (HL3.out.trans HL4.out.symm)).mono ?_; rintro e w5 ⟨rfl, hb5⟩; have HB5 := Lib.hid hb5; clear hb5)
        | (go_at_call 13; refine (num_any _ _).mono ?_; rintro e w6 ⟨rfl, rfl⟩))
      go_ret
      exact ⟨_, _, rfl, (HT4.out.below HB5.out).more (by omega) (by omega)⟩
    · have HA : Hid (F = c) := Lib.hid (by rw [hact, if_neg e9, if_neg hz])
      clear hact e9
      rw [HA.out]
      go_enter Try.func35, Try.ntmps35
      go_upto_region 1 with fail
      clear hw1
      go_wp2
      go_ret
      exact ⟨_, _, rfl, HT1.out.more (by omega) (by omega)⟩
end Go.Proofs.Ytjhkfpemcplaaaa
