/-
  The walk of the document's Same.
-/
import Derived.Test.YtaigfelpecdajaaAskB
import Derived.StillTailTactics
namespace Go.Proofs.Ytaigfelpecdajaa
open Go.RowKit

def SameRSaid (f : Nat) : Prop := ∀ (a b : TrF f) (csA csB : List Value) (B : Nat) (w : World), NodeAt f w B csA a → NodeAt f w B csB b → B ≤ w.heap.size → wtT f a ≤ 1048576 → wtT f b ≤ 1048576 →
  Calls Try.prog 6 #[.agg csA.toArray, .agg csB.toArray] w fun e w' => e = .returned (.bool (sameT f a b)) ∧ Below w.heap.size w w'
set_option maxRecDepth 20000 in
set_option maxHeartbeats 4000000 in
theorem sameR_step (f : Nat) (ih : SameRSaid f) : SameRSaid (f + 1) := by
  intro a b csA csB B w hA hB hw ha hb
  obtain ⟨A1, c1, A2, c2, A3, c3, css, rfl, p1, p2, p3, p4, p5⟩ := hA
  obtain ⟨B1, e1, B2, e2, B3, e3, cst, rfl, q1, q2, q3, q4, q5⟩ := hB
  have ha : 1 + a.names.length + a.temps.length + (a.nodes.map (wtT f)).sum ≤ 1048576 := ha
  have hb : 1 + b.names.length + b.temps.length + (b.nodes.map (wtT f)).sum ≤ 1048576 := hb
  have P1 := Lib.hid p1
  have P2 := Lib.hid p2
  have P3 : Hid (NodesAt f w B A3 a.nodes) := Lib.hid ⟨css, p3, p4, p5⟩
  have Q1 := Lib.hid q1
  have Q2 := Lib.hid q2
  have Q3 : Hid (NodesAt f w B B3 b.nodes) := Lib.hid ⟨cst, q3, q4, q5⟩
  have HSE := Lib.hid (same_eq f a b)
  have IH := Lib.hid ih
  clear p1 p2 p3 p4 p5 q1 q2 q3 q4 q5 ih
  generalize sameT (f + 1) a b = R at *
  obtain ⟨ka, na, nsa, tsa, xsa, pa, pla⟩ := a
  obtain ⟨kb, nb, nsb, tsb, xsb, pb, plb⟩ := b
  dsimp only at *
  by_cases d0 : ka = kb
  · by_cases d1 : na = nb
    · by_cases d2 : pa = pb
      · subst d0 d1 d2
        have HR : Hid (R = (sameS nsa nsb && sameS tsa tsb && all2 (sameT f) xsa xsb)) := Lib.hid (by rw [HSE.out]; simp [eqS])
        have l1 : nsa.length ≤ 1000000000 := by omega
        have l2 : tsa.length ≤ 1000000000 := by omega
        have l3 : (xsa.map (wtT f)).sum ≤ 1048576 := by omega
        have l4 : (xsb.map (wtT f)).sum ≤ 1048576 := by omega
        have L3 := Lib.hid l3
        have L4 := Lib.hid l4
        have hl2 : xsa.length ≤ 1048576 := Nat.le_trans (wt_nodes f xsa) l3
        have hm2 : xsb.length ≤ 1048576 := Nat.le_trans (wt_nodes f xsb) l4
        clear ha hb l3 l4 HSE
        go_enter Try.func6, Try.ntmps6
        go_wp2_with fail
        refine (rNames_any A1 B1 c1 e1 B nsa nsb _ (P1.out.below (alloc2_below hw _ _)) (Q1.out.below (alloc2_below hw _ _)) l1).mono ?_
        rintro e w3 ⟨rfl, nq, hw3⟩
        have HBB : Hid (Below B w w3) := Lib.hid (by rw [hw3]; exact below_drewN (alloc2_below hw _ _) nq)
        have HBW : Hid (Below w.heap.size w w3) := Lib.hid (by rw [hw3]; exact below_drewN (alloc2_below (Nat.le_refl _) _ _) nq)
        have HA : Hid (Blk w3 w.heap.size 26 #[.int .i64 ka, .string na, .slice A1 nsa.length c1, .slice A2 tsa.length c2, .slice A3 xsa.length c3, .int .i64 pa, .int .i64 pla]) := Lib.hid (by rw [hw3]; exact ((Blk.new w 26 _).alloc _).drewN nq)
        have HB : Hid (Blk w3 (w.heap.size + 1) 26 #[.int .i64 ka, .string na, .slice B1 nsb.length e1, .slice B2 tsb.length e2, .slice B3 xsb.length e3, .int .i64 pa, .int .i64 plb]) := Lib.hid (by rw [hw3]; exact (Blk.new' _ 26 (w.heap.size + 1) _ (by simp)).drewN nq)
        clear hw3
        have k0 : w3.cell? ⟨w.heap.size, 3, none⟩ = some (.slice A2 tsa.length c2) := HA.out.cell 3
        have k1 : w3.cell? ⟨w.heap.size + 1, 3, none⟩ = some (.slice B2 tsb.length e2) := HB.out.cell 3
        cases hs1 : sameS nsa nsb with
        | false =>
          have HE : Hid (R = false) := Lib.hid (by rw [HR.out, hs1]; rfl)
          clear hs1
          go_wp2
          go_ret
          exact ⟨ret_bool (by rw [HE.out]), HBW.out⟩
        | true =>
          have HR1 : Hid (R = (sameS tsa tsb && all2 (sameT f) xsa xsb)) := Lib.hid (by rw [HR.out, hs1, Bool.true_and])
          clear hs1
          go_wp2_with fail
          refine (rNames_any A2 B2 c2 e2 B tsa tsb _ (P2.out.below HBB.out) (Q2.out.below HBB.out) l2).mono ?_
          rintro e w4 ⟨rfl, nq2, hw4⟩
          have HBB4 : Hid (Below B w w4) := Lib.hid (by rw [hw4]; exact below_drewN HBB.out nq2)
          have HBW4 : Hid (Below w.heap.size w w4) := Lib.hid (by rw [hw4]; exact below_drewN HBW.out nq2)
          have HA4 : Hid (Blk w4 w.heap.size 26 #[.int .i64 ka, .string na, .slice A1 nsa.length c1, .slice A2 tsa.length c2, .slice A3 xsa.length c3, .int .i64 pa, .int .i64 pla]) := Lib.hid (by rw [hw4]; exact HA.out.drewN nq2)
          have HB4 : Hid (Blk w4 (w.heap.size + 1) 26 #[.int .i64 ka, .string na, .slice B1 nsb.length e1, .slice B2 tsb.length e2, .slice B3 xsb.length e3, .int .i64 pa, .int .i64 plb]) := Lib.hid (by rw [hw4]; exact HB.out.drewN nq2)
          have k4 : w4.cell? ⟨w.heap.size, 4, none⟩ = some (.slice A3 xsa.length c3) := HA4.out.cell 4
          have k5 : w4.cell? ⟨w.heap.size + 1, 4, none⟩ = some (.slice B3 xsb.length e3) := HB4.out.cell 4
          clear hw4 k0 k1
          cases hs2 : sameS tsa tsb with
          | false =>
            have HE : Hid (R = false) := Lib.hid (by rw [HR1.out, hs2]; rfl)
            clear hs2
            go_wp2
            go_ret
            exact ⟨ret_bool (by rw [HE.out]), HBW4.out⟩
          | true =>
            have HE : Hid (R = all2 (sameT f) xsa xsb) := Lib.hid (by rw [HR1.out, hs2, Bool.true_and])
            clear hs2 HA HB HR HR1 P1 P2 Q1 Q2 HBB HBW
            by_cases hlen : xsa.length = xsb.length
            · have HLEN := Lib.hid hlen
              have dl : ((xsa.length : Int) != (xsb.length : Int)) = false := by rw [hlen]; simp
              clear hlen
              go_wp2
              clear k4 k5
              have HZ : Hid (Below w.heap.size w w4 ∧ w.heap.size + 2 ≤ w4.heap.size) := Lib.hid ⟨HBW4.out, by have := HB4.out.lt; omega⟩
              go_loopw [5] (fun e wr => ∃ k : Nat, k ≤ xsa.length ∧ e = .int .i64 k ∧ all2 (sameT f) (xsa.drop k) (xsb.drop k) = all2 (sameT f) xsa xsb ∧ Below w4.heap.size w4 wr) (fun e _ => xsa.length - (intOf e).toNat)
              case atStart => exact ⟨0, Nat.zero_le _, rfl, rfl, Below.refl _ _⟩
              case round =>
                obtain ⟨k, hk, rfl, hall, hbr⟩ := hrel
                have HALL := Lib.hid hall
                have HBr := Lib.hid hbr
                have k4 : wr.cell? ⟨w.heap.size, 4, none⟩ = some (.slice A3 xsa.length c3) := by
                  rw [hbr.cell (p := ⟨w.heap.size, 4, none⟩) (by have := HZ.out.2; show w.heap.size < _; omega)]; exact HA4.out.cell 4
                have k5 : wr.cell? ⟨w.heap.size + 1, 4, none⟩ = some (.slice B3 xsb.length e3) := by
                  rw [hbr.cell (p := ⟨w.heap.size + 1, 4, none⟩) (by have := HZ.out.2; show w.heap.size + 1 < _; omega)]; exact HB4.out.cell 4
                have HBB5 : Hid (Below B w wr) := Lib.hid (HBB4.out.trans (hbr.mono (Nat.le_trans hw HBW4.out.size)))
                obtain ⟨css1, p1, p2, p3⟩ := P3.out.below HBB5.out
                obtain ⟨css2, q1, q2, q3⟩ := Q3.out.below HBB5.out
                clear hall hbr
                by_cases hkl : k < xsa.length
                · have hkm : k < xsb.length := by have := HLEN.out; omega
                  obtain ⟨b1, o1, x0, x1, x2, x3, x4, x5, x6, rfl, hbk1, n1, a0, a1, a2, a3, a4, a5, a6⟩ := NodeAt.sub p1 p2 p3 hkl
                  obtain ⟨b2, o2, y0, y1, y2, y3, y4, y5, y6, rfl, hbk2, n2, z0, z1, z2, z3, z4, z5, z6⟩ := NodeAt.sub q1 q2 q3 hkm
                  obtain ⟨ka', na', Aa1, na1, ca1, Aa2, na2, ca2, Aa3, na3, ca3, pa', pla', rfl, rfl, rfl, rfl, rfl, rfl, rfl⟩ := n1.forms
                  obtain ⟨kb', nb', Ab1, nb1, cb1, Ab2, nb2, cb2, Ab3, nb3, cb3, pb', plb', rfl, rfl, rfl, rfl, rfl, rfl, rfl⟩ := n2.forms
                  have N1 := Lib.hid n1
                  have N2 := Lib.hid n2
                  clear p1 p2 p3 q1 q2 q3 n1 n2
                  have l1 : (0 : Int) ≤ (k : Int) := by omega
                  have l2 : (k : Int) < (xsa.length : Int) := by omega
                  have l3 : (k : Int) < (xsb.length : Int) := by omega
                  have HDR := Lib.hid (all2_drop (p := sameT f) (List.getElem?_eq_getElem hkl) (List.getElem?_eq_getElem hkm))
                  have W1 : wtT f xsa[k] ≤ 1048576 := Nat.le_trans (wt_sub (List.getElem_mem hkl)) L3.out
                  have W2 : wtT f xsb[k] ≤ 1048576 := Nat.le_trans (wt_sub (List.getElem_mem hkm)) L4.out
                  have hbB : B ≤ wr.heap.size := Nat.le_trans hw HBB5.out.size
                  have HIH := Lib.hid (IH.out xsa[k] xsb[k] _ _ B wr.drew (N1.out.below (below_drewN (Below.refl _ _) 1)) (N2.out.below (below_drewN (Below.refl _ _) 1)) hbB W1 W2)
                  clear W1 W2
                  go_wp2
                  go_still_tail 10, (by kernel_rfl)
                  change wpList _ _ _ _ _ wr.drew
                  go_wp2_with fail
                  refine HIH.out.mono ?_
                  rintro e w5 ⟨rfl, hb5⟩
                  have HB5 : Hid (Below w4.heap.size w4 w5) := Lib.hid (HBr.out.trans ((show Below w4.heap.size wr w5 from (below_drewN (Below.refl _ _) 1).trans (hb5.mono HBr.out.size))))
                  clear hb5 HIH
                  cases hs : sameT f xsa[k] xsb[k] with
                  | true =>
                    have HE : Hid (all2 (sameT f) (xsa.drop (k + 1)) (xsb.drop (k + 1)) = all2 (sameT f) xsa xsb) := Lib.hid (by rw [← HALL.out, HDR.out, hs]; rfl)
                    clear hs
                    go_wp2
                    go_roundw
                    case rel => exact ⟨k + 1, hkl, by go_num, HE.out, HB5.out⟩
                    case measure => simp [intOf]; omega
                  | false =>
                    have HE : Hid (R = false) := Lib.hid (by rw [HE.out, ← HALL.out, HDR.out, hs]; rfl)
                    clear hs
                    go_wp2
                    go_ret
                    exact ⟨ret_bool (by rw [HE.out]), bnext0 HBW4.out HB5.out⟩
                · have HE : Hid (R = true) := Lib.hid (by rw [HE.out, ← HALL.out]; exact all2_end (by omega) (by have := HLEN.out; omega))
                  clear p1 p2 p3 q1 q2 q3
                  go_wp2
                  go_ret
                  exact ⟨ret_bool (by rw [HE.out]), bnext0 HBW4.out HBr.out⟩
            · have HE : Hid (R = false) := Lib.hid (by rw [HE.out]; exact all2_len hlen)
              have dl : ((xsa.length : Int) != (xsb.length : Int)) = true := by rw [bne_iff_ne]; omega
              clear hlen
              go_wp2
              go_ret
              exact ⟨ret_bool (by rw [HE.out]), HBW4.out⟩
      · have HE : Hid (R = false) := Lib.hid (by rw [HSE.out]; simp [eqS, d2])
        have t0 : (ka != kb) = false := by rw [bne, int_beq]; simpa using d0
        have t1 : (na.toList == nb.toList) = true := by rw [toList_eq]; simpa [eqS] using d1
        have t2 : (pa != pb) = true := by rw [bne, int_beq]; simpa using d2
        clear d0 d1 d2
        go_enter Try.func6, Try.ntmps6
        go_wp2
        go_ret
        exact ⟨ret_bool (by rw [HE.out]), alloc2_below (Nat.le_refl _) _ _⟩
    · have HE : Hid (R = false) := Lib.hid (by rw [HSE.out]; simp [eqS, d1])
      have t0 : (ka != kb) = false := by rw [bne, int_beq]; simpa using d0
      have t1 : (na.toList == nb.toList) = false := by rw [toList_eq]; simpa [eqS] using d1
      clear d0 d1
      go_enter Try.func6, Try.ntmps6
      go_wp2
      go_ret
      exact ⟨ret_bool (by rw [HE.out]), alloc2_below (Nat.le_refl _) _ _⟩
  · have HE : Hid (R = false) := Lib.hid (by rw [HSE.out]; simp [d0])
    have t0 : (ka != kb) = true := by rw [bne, int_beq]; simpa using d0
    clear d0
    go_enter Try.func6, Try.ntmps6
    go_wp2
    go_ret
    exact ⟨ret_bool (by rw [HE.out]), alloc2_below (Nat.le_refl _) _ _⟩
theorem sameR_any : ∀ f, SameRSaid f
  | 0 => fun a _ _ _ _ _ _ _ _ _ _ => a.elim
  | f + 1 => sameR_step f (sameR_any f)
end Go.Proofs.Ytaigfelpecdajaa
