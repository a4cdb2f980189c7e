/-
  What an act answers that has no net; SamePacket.
-/
import Derived.Test.YtbkgphmocjjmmaaNtL
namespace Go.Proofs.Ytbkgphmocjjmmaa
open Go.RowKit

set_option maxRecDepth 20000 in
set_option maxHeartbeats 2000000 in
theorem act_other (p : Option Addr) (k z i j m : Int) (A : Option Addr) (n c : Nat) (w : World) (h : k < 1 ∨ 8 < k) : Calls Try.prog 28 #[.pointer p, actV k z i j m A n c] w (ActP w.heap.size fun num A n c er W => num = 0 ∧ A = none ∧ n = 0 ∧ c = 0 ∧ er = 184 ∧ Below w.heap.size w W) := by
  have d1 : (k == 1) = false := by rw [beq_eq_false_iff_ne]; omega
  have d2 : (k == 2) = false := by rw [beq_eq_false_iff_ne]; omega
  have d3 : (k == 3) = false := by rw [beq_eq_false_iff_ne]; omega
  have d4 : (k == 4) = false := by rw [beq_eq_false_iff_ne]; omega
  have d5 : (k == 5) = false := by rw [beq_eq_false_iff_ne]; omega
  have d6 : (k == 6) = false := by rw [beq_eq_false_iff_ne]; omega
  have d7 : (k == 7) = false := by rw [beq_eq_false_iff_ne]; omega
  have d8 : (k == 8) = false := by rw [beq_eq_false_iff_ne]; omega
  clear h
  unfold actV
  go_enter Try.func28, Try.ntmps28
  go_upto_region 3 with fail
  generalize hw0 : ((w.alloc _).alloc _).alloc _ = w0
  have hb0 : Below w.heap.size w w0 := by rw [← hw0]; exact (((Below.refl _ _).alloc (Nat.le_refl _) _).alloc (by simp) _).alloc (by simp; omega) _
  have B1 : Blk w0 (w.heap.size + 1) 57 #[.int .i64 0, .int .i64 0, .slice none 0 0] := by rw [← hw0]; exact (Blk.new' _ 57 _ _ (by simp)).alloc _
  have B2 : Blk w0 (w.heap.size + 1 + 1) 57 #[.int .i64 0, .int .i64 0, .slice none 0 0] := by rw [← hw0]; exact Blk.new' _ 57 _ _ (by simp)
  clear hw0 d1 d2 d3 d4 d5 d6 d7 d8
  have HB := Lib.hid hb0
  clear hb0
  have lt1 : w.heap.size + 1 < w0.heap.size := B1.lt
  have lt2 : w.heap.size + 1 + 1 < w0.heap.size := B2.lt
  have f10 := B1.frozen 0
  have f11 := B1.frozen 1
  have f12 := B1.frozen 2
  have f20 := B2.frozen 0
  have f21 := B2.frozen 1
  have f22 := B2.frozen 2
  have c10 := B1.cell 0
  have c11 := B1.cell 1
  have c12 := B1.cell 2
  have c20 := B2.cell 0
  have c21 := B2.cell 1
  have c22 := B2.cell 2
  generalize hs : w.heap.size = s at *
  go_wp2
  clear f10 f11 f12 f20 f21 f22 c10 c11 c12 c20 c21 c22
  have hse := act_set0 B1 184
  obtain ⟨hb, hc⟩ := act_end (F := fun k => s ≤ k ∧ k < s + 3) ⟨by omega, by omega⟩ hse.1 hse.2 184 0 none 0 0
  have t0 := hb.cell 0
  have t1 := hb.cell 1
  have t2 := hb.cell 2
  subst hs
  exact bodyPost_ret (v := toldV 184 0 (.slice none 0 0)) (by simp [results, Try.results28, go_sem, t0, t1, t2, toldV]) rfl ⟨0, none, 0, 0, 184, w0, rfl, ⟨rfl, rfl, rfl, rfl, rfl, HB.out⟩, hc⟩
/-- an answer without a packet, behind which all old blocks are as they were -/
def NoQ (w : World) (er : Int) (num : Int) (A : Option Addr) (n c : Nat) (er' : Int) (W : World) : Prop := num = 0 ∧ A = none ∧ n = 0 ∧ c = 0 ∧ er' = er ∧ Below w.heap.size w W
theorem actP_no {w W' : World} {k z er : Int} {n : Nat} {e : Ending} (h : ActP w.heap.size (NoQ w er) e W') (he : wantN k z n = er) : ActNo w k z n e W' := by
  obtain ⟨num, A, m, c, er', W, rfl, ⟨rfl, rfl, rfl, rfl, rfl, hb⟩, hc⟩ := h
  subst he
  exact ⟨rfl, hb.trans (hc.below hb.size fun k hk hF => by omega)⟩
theorem NoP.pk {w W W' : World} {er : Int} {e : Ending} (hb : Below w.heap.size w W) (hs : W.heap.size = w.heap.size + 3) (h : NoP W er e W') : PkP w.heap.size (NoQ w er) W e W' := by
  obtain ⟨rfl, h1⟩ := h
  exact ⟨0, none, 0, 0, er, rfl, fun k _ hk => h1.block k (by omega), rfl, rfl, rfl, rfl, rfl, hb.trans (h1.mono hb.size)⟩
theorem take_no (p : Option Addr) (z i : Int) (w : World) (h : NoNet w p) : Calls Try.prog 35 #[.pointer p, .int .i64 z, .int .i64 i] w (NoPk w (erN z)) :=
  take_err p z i (erN z) w (by unfold erN; split <;> rfl) fun W hb => at_no p z _ 1 1 W (h.below hb)
theorem erN_ne (z : Int) : (erN z != 0) = true := by unfold erN; split <;> rfl
theorem erN_eq (z : Int) : (erN z == 0) = false := by unfold erN; split <;> rfl
theorem erN_is (z : Int) : erN z = if z < 1 ∨ 2 < z then 182 else 181 := by
  unfold erN sideB
  by_cases h : z = 1 ∨ z = 2
  · rw [if_pos (by simpa using h), if_neg (by omega)]
  · rw [if_neg (by simpa using h), if_pos (by omega)]
theorem act_no (p : Option Addr) (k z i j m : Int) (A : Option Addr) (n c : Nat) (w : World) (h : NoNet w p) : Calls Try.prog 28 #[.pointer p, actV k z i j m A n c] w (ActNo w k z n) := by
  have hw4 : ∀ k, 3 < k → k ≤ 8 → wantN k z n = erN z := fun k h1 h2 => by
    rw [erN_is]; unfold wantN
    rw [if_neg (by omega), if_neg (by omega)]
    by_cases hz : z < 1 ∨ 2 < z
    · rw [if_pos ⟨by omega, hz⟩, if_pos hz]
    · rw [if_neg (fun h => hz h.2), if_neg (fun h => by omega), if_neg hz]
  by_cases k0 : k < 1 ∨ 8 < k
  · refine (act_other p k z i j m A n c w k0).mono fun e W' h => actP_no h ?_
    unfold wantN
    rw [if_neg (by omega), if_pos k0]
  have hk : k = 1 ∨ k = 2 ∨ k = 3 ∨ k = 4 ∨ k = 5 ∨ k = 6 ∨ k = 7 ∨ k = 8 := by omega
  clear k0
  rcases hk with rfl | rfl | rfl | rfl | rfl | rfl | rfl | rfl
  · refine (act1 p z i j m A n c w (NoQ w 1) fun W hb hs => (connect_no p W (h.below hb)).mono ?_).mono fun e W' h => actP_no h rfl
    rintro e W' ⟨rfl, rfl⟩
    exact ⟨1, rfl, fun _ _ _ => rfl, rfl, rfl, rfl, rfl, rfl, hb⟩
  · refine (act2 p z i j m A n c w (NoQ w 181) fun W hb hs => (cut_no p W (up_no p W (h.below hb))).mono ?_).mono fun e W' h => actP_no h rfl
    rintro e W' ⟨rfl, rfl⟩
    exact ⟨0, 181, rfl, fun _ _ _ => rfl, rfl, rfl, rfl, rfl, rfl, hb⟩
  · by_cases hz : sideB z = true
    · have hz' : ¬ (z < 1 ∨ 2 < z) := by simp [sideB] at hz; omega
      by_cases hn : 8192 < n
      · refine (act3e p z i j m A n c w (NoQ w 2) fun W hb hs => (send_long p z A n c W hz hn).mono ?_).mono fun e W' h => actP_no h (by
          unfold wantN
          rw [if_neg (by omega), if_neg (by omega), if_neg (fun h => hz' h.2), if_pos ⟨rfl, hn⟩])
        rintro e W' ⟨rfl, rfl⟩
        exact ⟨0, 2, rfl, rfl, fun _ _ _ => rfl, rfl, rfl, rfl, rfl, rfl, hb⟩
      · refine (act3e p z i j m A n c w (NoQ w 181) fun W hb hs => (send_down p z A n c W hz (by omega) (way_down p z W hz (up_no p W (h.below hb)))).mono ?_).mono fun e W' h => actP_no h (by
          unfold wantN
          rw [if_neg (by omega), if_neg (by omega), if_neg (fun h => hz' h.2), if_neg (fun h => hn h.2)])
        rintro e W' ⟨rfl, rfl⟩
        exact ⟨0, 181, rfl, rfl, fun _ _ _ => rfl, rfl, rfl, rfl, rfl, rfl, hb⟩
    · have hz0 : sideB z = false := by simpa using hz
      have hz' : z < 1 ∨ 2 < z := by simp [sideB] at hz; omega
      refine (act3e p z i j m A n c w (NoQ w 182) fun W hb hs => (send_noside p z A n c W hz0).mono ?_).mono fun e W' h => actP_no h (by
          unfold wantN
          rw [if_neg (by omega), if_neg (by omega), if_pos ⟨by omega, hz'⟩])
      rintro e W' ⟨rfl, rfl⟩
      exact ⟨0, 182, rfl, rfl, fun _ _ _ => rfl, rfl, rfl, rfl, rfl, rfl, hb⟩
  · exact (act4 p z i j m A n c w (NoQ w (erN z)) fun W hb hs => (deliver_err p z i (erN z) W (erN_eq z) fun W' hb' => take_no p z i W' ((h.below hb).below hb')).mono fun e W' h => NoP.pk hb hs h).mono fun e W' h => actP_no h (hw4 4 (by omega) (by omega))
  · exact (act5 p z i j m A n c w (NoQ w (erN z)) fun W hb hs => (drop_err p z i (erN z) W (erN_eq z) fun W' hb' => take_no p z i W' ((h.below hb).below hb')).mono fun e W' h => NoP.pk hb hs h).mono fun e W' h => actP_no h (hw4 5 (by omega) (by omega))
  · exact (act6 p z i j m A n c w (NoQ w (erN z)) fun W hb hs => (double_err p z i (erN z) W (erN_ne z) fun W' hb' => at_no p z _ 1 1 W' ((h.below hb).below hb')).mono fun e W' h => NoP.pk hb hs h).mono fun e W' h => actP_no h (hw4 6 (by omega) (by omega))
  · refine (act7 p z i j m A n c w (NoQ w (erN z)) fun W hb hs => (move_err p z i j (erN z) W (erN_ne z) fun W' hb' => at_no p z _ 2 2 W' ((h.below hb).below hb')).mono ?_).mono fun e W' h => actP_no h (hw4 7 (by omega) (by omega))
    rintro e W' ⟨rfl, h1⟩
    exact ⟨erN z, rfl, fun k _ hk => h1.block k (by omega), rfl, rfl, rfl, rfl, rfl, hb.trans (h1.mono hb.size)⟩
  · exact (act8 p z i j m A n c w (NoQ w (erN z)) fun W hb hs => (flip_err p z i j m (erN z) W (erN_ne z) fun W' hb' => at_no p z _ 1 1 W' ((h.below hb).below hb')).mono fun e W' h => NoP.pk hb hs h).mono fun e W' h => actP_no h (hw4 8 (by omega) (by omega))
/-- are two packets the same? -/
def SpW (w : World) (x : Int) (A B : Option Addr) (n c d K L : Nat) (a b : List UInt8) (W : World) : Prop :=
  RdB W K A n a ∧ RdB W L B n b ∧ Blk W w.heap.size 36 #[.int .i64 x, .slice A n c] ∧ Blk W (w.heap.size + 1) 36 #[.int .i64 x, .slice B n d] ∧ Below w.heap.size w W
theorem SpW.drewN {w : World} {x : Int} {A B : Option Addr} {n c d K L : Nat} {a b : List UInt8} {W : World} (h : SpW w x A B n c d K L a b W) (q : Nat) : SpW w x A B n c d K L a b (W.drewN q) :=
  ⟨h.1.drewN q, h.2.1.drewN q, h.2.2.1.drewN q, h.2.2.2.1.drewN q, let b := h.2.2.2.2; ⟨b.os, b.tape, b.output, b.size, b.block⟩⟩
def SamePP (w : World) (x y : Int) (a b : List UInt8) (e : Ending) (w' : World) : Prop := e = .returned (.bool (x == y && a == b)) ∧ Below w.heap.size w w'
set_option maxRecDepth 20000 in
set_option maxHeartbeats 2000000 in
theorem samep_any (x y : Int) (A B : Option Addr) (n m c d K L : Nat) (a b : List UInt8) (w : World) (h1 : RdB w K A n a) (h2 : RdB w L B m b) (hK : K ≤ w.heap.size) (hL : L ≤ w.heap.size) (hN : n ≤ 140737488355328) :
    Calls Try.prog 22 #[.agg #[.int .i64 x, .slice A n c], .agg #[.int .i64 y, .slice B m d]] w (SamePP w x y a b) := by
  have hla := Reads.len1 h1
  have hlb := Reads.len1 h2
  by_cases hx : x = y
  · by_cases hn : n = m
    · subst hx hn
      have H1 := Lib.hid (fun o o' => (h1.alloc hK o).alloc (by simp; omega) o')
      have H2 := Lib.hid (fun o o' => (h2.alloc hL o).alloc (by simp; omega) o')
      have HLA := Lib.hid hla
      have HLB := Lib.hid hlb
      clear h1 h2 hK hL hla hlb
      have hb0 : ∀ o o', Below w.heap.size w ((w.alloc o).alloc o') := fun o o' => ((Below.refl _ _).alloc (Nat.le_refl _) _).alloc (by simp) _
      have HB := Lib.hid hb0
      clear hb0
      go_enter Try.func22, Try.ntmps22
      go_wp2_with fail
      have G1 := Lib.hid (H1.out (.cells #[.int .i64 x, .slice A n c] 36) (.cells #[.int .i64 x, .slice B n d] 36))
      have G2 := Lib.hid (H2.out (.cells #[.int .i64 x, .slice A n c] 36) (.cells #[.int .i64 x, .slice B n d] 36))
      have B1 : Hid (Blk ((w.alloc (.cells #[.int .i64 x, .slice A n c] 36)).alloc (.cells #[.int .i64 x, .slice B n d] 36)) w.heap.size 36 #[.int .i64 x, .slice A n c]) := Lib.hid ((Blk.new w 36 _).alloc _)
      have B2 : Hid (Blk ((w.alloc (.cells #[.int .i64 x, .slice A n c] 36)).alloc (.cells #[.int .i64 x, .slice B n d] 36)) (w.heap.size + 1) 36 #[.int .i64 x, .slice B n d]) := Lib.hid (Blk.new' _ 36 _ _ (by simp))
      have HBB := Lib.hid (HB.out (.cells #[.int .i64 x, .slice A n c] 36) (.cells #[.int .i64 x, .slice B n d] 36))
      clear H1 H2 HB
      generalize (w.alloc (.cells #[.int .i64 x, .slice A n c] 36)).alloc (.cells #[.int .i64 x, .slice B n d] 36) = w2 at *
      have HW : Hid (SpW w x A B n c d K L a b w2) := Lib.hid ⟨G1.out, G2.out, B1.out, B2.out, HBB.out⟩
      clear G1 G2 B1 B2 HBB
      go_loopw [5] (fun i wr => ∃ k : Nat, k ≤ n ∧ i = .int .i64 k ∧ a.take k = b.take k ∧ SpW w x A B n c d K L a b wr) (fun i _ => n - (intOf i).toNat)
      case atStart => exact ⟨0, Nat.zero_le _, rfl, by simp, HW.out⟩
      case round =>
        obtain ⟨k, hk, rfl, hab, hw3⟩ := hrel
        have HAB := Lib.hid hab
        have HW3 := Lib.hid hw3
        have G1 := Lib.hid hw3.1
        have G2 := Lib.hid hw3.2.1
        have B1 := Lib.hid hw3.2.2.1
        have B2 := Lib.hid hw3.2.2.2.1
        have HBB := Lib.hid hw3.2.2.2.2
        clear hab hw3 HW
        have u1 := B1.out.cell 1
        have u2 := B2.out.cell 1
        by_cases hkn : k < n
        · obtain ⟨ad, u, rfl, _, hu, cu⟩ := Reads.byte G1.out hkn
          obtain ⟨bd, v, rfl, _, hv, cv⟩ := Reads.byte G2.out hkn
          have l1 : (0 : Int) ≤ (k : Int) := by omega
          have l2 : (k : Int) < (n : Int) := by omega
          cases huv : u == v with
          | true =>
            have d : (((u.toNat : Int)) == (v.toNat : Int)) = true := by rw [beq_iff_eq] at huv ⊢; rw [huv]
            have HT : Hid (a.take (k + 1) = b.take (k + 1)) := Lib.hid (by rw [List.take_add_one, List.take_add_one, HAB.out, hu, hv, beq_iff_eq.1 huv])
            clear hu hv huv
            go_upto_region 6 with fail
            go_quiet (fail)
            go_wp2
            go_roundw
            case rel => exact ⟨k + 1, hkn, by go_num, HT.out, HW3.out.drewN _⟩
            case measure => simp [intOf]; omega
          | false =>
            have hne : u ≠ v := by simpa using huv
            have d : (((u.toNat : Int)) == (v.toNat : Int)) = false := by
              rw [beq_eq_false_iff_ne]; intro h
              exact hne (UInt8.toNat_inj.1 (by omega))
            have HF : Hid ((x == x && a == b) = false) := Lib.hid (by
              rw [Bool.and_eq_false_iff]; right; rw [beq_eq_false_iff_ne]; intro h
              rw [h, hv] at hu; exact hne (Option.some.inj hu).symm)
            clear hu hv huv hne
            go_upto_region 6 with fail
            go_quiet (fail)
            go_wp2
            go_ret
            exact ⟨ret_bool (by rw [HF.out]), (HW3.out.drewN _).2.2.2.2⟩
        · have l2 : ¬ (k : Int) < (n : Int) := by omega
          have HF : Hid ((x == x && a == b) = true) := Lib.hid (by
            have h3 := HAB.out
            rw [List.take_of_length_le (by rw [HLA.out]; omega), List.take_of_length_le (by rw [HLB.out]; omega)] at h3
            simp [h3])
          go_wp2
          go_ret
          exact ⟨ret_bool (by rw [HF.out]), HBB.out⟩
    · have d : ((n : Int) == (m : Int)) = false := by rw [beq_eq_false_iff_ne]; omega
      have HF : Hid ((x == y && a == b) = false) := Lib.hid (by
        rw [Bool.and_eq_false_iff]; right; rw [beq_eq_false_iff_ne]; intro h
        rw [h] at hla; omega)
      subst hx
      clear h1 h2 hK hL hla hlb hn
      go_enter Try.func22, Try.ntmps22
      go_wp2
      go_ret
      exact ⟨ret_bool (by rw [HF.out]), ((Below.refl _ _).alloc (Nat.le_refl _) _).alloc (by simp) _⟩
  · have d : (x == y) = false := by rw [beq_eq_false_iff_ne]; exact hx
    have HF : Hid ((x == y && a == b) = false) := Lib.hid (by rw [d]; rfl)
    clear h1 h2 hK hL hla hlb hx
    go_enter Try.func22, Try.ntmps22
    go_wp2
    go_ret
    exact ⟨ret_bool (by rw [HF.out]), ((Below.refl _ _).alloc (Nat.le_refl _) _).alloc (by simp) _⟩
end Go.Proofs.Ytbkgphmocjjmmaa
