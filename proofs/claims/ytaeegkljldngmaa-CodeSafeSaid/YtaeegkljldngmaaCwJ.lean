/-
  The law CodeDecodes f8. No statement of the seat is proved here.
-/
import Derived.Test.YtaeegkljldngmaaCwI
namespace Go.Proofs.Ytaeegkljldngmaa
open Go.RowKit

theorem size3_ (w : World) : (sizeOf 3).run Try.prog w = .ok 1 w := by kernel_rfl
theorem part2 (w : World) (x0 x1 : Int) (i : Nat) (hi : i < 2) : (part 3 #[.int .i64 x0, .int .i64 x1] (i * 1)).run Try.prog w = .ok (.int .i64 ([x0, x1].getD i 0)) w := by
  obtain rfl | rfl : i = 0 ∨ i = 1 := by omega
  all_goals simp [part, isAgg, run_underlying Try.underlying3]
theorem run_neq68 (w : World) (a b a' b' : Int) : (binOp .neq 68 (.agg #[.int .i64 a, .int .i64 b]) (.agg #[.int .i64 a', .int .i64 b'])).run Try.prog w = .ok (.bool (!(a == a' && b == b'))) w := by
  rw [run_neq_struct, show (10000 : Nat) = 9998 + 2 from rfl, Op.equalIn]
  simp only [Sem.run_bind, run_underlying Try.underlying68, Result.andThen_ok, size3_, Std.Legacy.Range.forIn_eq_forIn_range', Std.Legacy.Range.size, Nat.sub_zero, Nat.add_sub_cancel, Nat.div_one]
  rw [show List.range' 0 2 1 = [0, 1] from rfl]
  have pe : ∀ (w : World) (x y : Int), (Op.equalIn 9999 3 (.int .i64 x) (.int .i64 y)).run Try.prog w = .ok (x == y) w := fun w x y => run_equalIn_int w 9998 3 .i64 .i64 x y Try.underlying3
  have p0 := fun w => part2 w a b 0 (by decide)
  have p1 := fun w => part2 w a b 1 (by decide)
  have q0 := fun w => part2 w a' b' 0 (by decide)
  have q1 := fun w => part2 w a' b' 1 (by decide)
  simp at p0 p1 q0 q1
  simp [p0, p1, q0, q1, pe]
  cases h0 : (a == a') <;> cases h1 : (b == b') <;> simp_all
theorem own_pair {w : World} {base : Nat} {v : Value} {bl : List (Int × Int)} (h : OwnP w base v bl) {i : Nat} (hi : i < bl.length) : ∃ b c, v = .slice (some ⟨b, 0, none⟩) bl.length c ∧ b < w.heap.size ∧ w.cell? ⟨b, i * 2, none⟩ = some (.int .i64 (bl.getD i (0, 0)).1) ∧ w.cell? ⟨b, i * 2 + 1, none⟩ = some (.int .i64 (bl.getD i (0, 0)).2) := by
  obtain ⟨b, c, hv, _, hlt, _, _, _, hc⟩ := own_at h hi
  obtain ⟨p, hp⟩ : ∃ p, bl[i]? = some p := ⟨_, List.getElem?_eq_getElem hi⟩
  have e : bl.getD i (0, 0) = p := by rw [List.getD_eq_getElem?_getD, hp]; rfl
  have h0 := flat_at (f := fun p : Int × Int => [Value.int .i64 p.1, .int .i64 p.2]) (n := 2) (fun _ => rfl) hp (j := 0) rfl
  have h1 := flat_at (f := fun p : Int × Int => [Value.int .i64 p.1, .int .i64 p.2]) (n := 2) (fun _ => rfl) hp (j := 1) rfl
  rw [e]
  exact ⟨b, c, hv, hlt, (hc 0 (by decide)).1.trans h0, (hc 1 (by decide)).1.trans h1⟩
theorem own_to {w w' : World} {base size n : Nat} {e : TypeId} {v : Value} {xs : List Value} (h : w.ownsRow base e size v n xs) (hb : Below w.heap.size w w') : w'.ownsRow base e size v n xs :=
  own_same h fun k hk => hb.block k (World.ownsRow.lt h k hk).2
theorem ins_letter {w : World} {base : Nat} {v : Value} {l : List Ins} (h : OwnIn w base v l) : ∃ A c, v = .slice A l.length c ∧ RdI w w.heap.size A l.length l := by
  obtain ⟨A, c, rfl, _, _⟩ := own_form h
  exact ⟨A, c, rfl, RdI.of_own h⟩
theorem int_letter {w : World} {base : Nat} {v : Value} {l : List Int} (h : OwnZ w base v l) : ∃ A c, v = .slice A l.length c ∧ Reads w w.heap.size 1 A l.length (l.map iv) := by
  obtain ⟨A, c, rfl, _, _⟩ := own_form h
  exact ⟨A, c, rfl, Reads.of_own h⟩
set_option maxRecDepth 100000 in
set_option maxHeartbeats 8000000 in
theorem decodes_any (A : Option Addr) (n c : Nat) (bs : List UInt8) (w : World) (hr : RdB w w.heap.size A n bs) (hn : n ≤ 140737488351232) : Calls Try.prog 8 #[.slice A n c] w (AwP w) := by
  have H14 := Lib.hid awake_any
  have HRD := Lib.hid hr
  have hlen := hr.len1
  have H24 := Lib.hid fun w h => Decode_any A n c bs w h
  have H25 := Lib.hid fun w h => Rdecode_any A n c bs w h
  have H26 := Lib.hid fun w h => Blocks_any A n c bs w h
  have HC := Lib.hid (decL_cases bs)
  unfold BlkP at H26
  obtain ⟨l, ps, at_, er, hD⟩ : ∃ l ps at_ er, decL bs = (l, ps, at_, er) := ⟨_, _, _, _, rfl⟩
  rw [hD] at H24 H25 H26 HC
  have HLN := Lib.hid hlen
  have hll : l.length ≤ 32767 ∧ ps.length ≤ 32767 := by
    rcases HC.out with ⟨_, h⟩ | ⟨h0, ⟨l', ps', h, hw⟩ | ⟨_, h, _⟩⟩
    · simp only [Prod.mk.injEq] at h; rw [h.1, h.2.1]; simp
    · simp only [Prod.mk.injEq] at h; rw [h.1, h.2.1, hw.len]; have := whole_len hw; omega
    · simp only [Prod.mk.injEq] at h; rw [h.1, h.2.1]; simp
  clear hr hlen hD
  go_enter Try.func8, Try.ntmps8
  go_upto_region 2 with (at_builtin; refine wpList_app rfl _ _ _ rfl w.heap.size 5 info5 Try.underlying23 (.slice none 0 0) [] rfl (OwnB.nil 5 _ _) _ A n c bs rfl HRD.out (by have := HLN.out; simp; omega) (Nat.le_refl _) ?_; intro v1 w1 ho ha; have HO := Lib.hid ho; have HB1 := Lib.hid (ha.below (Nat.le_refl _) fun k hk => by simp [Value.ownBlock] at hk); clear ho ha)
  rw [List.nil_append] at HO
  have HR1 := Lib.hid ((HRD.out.below HB1.out).more HB1.out.size)
  go_upto_region 3 with (go_at_call 24; refine (H24.out _ HR1.out).mono ?_; rintro e w2 ⟨hb2, lv, pv, rfl, hi2, hp2⟩; have HBA := Lib.hid hb2; have HI := Lib.hid hi2; have HP := Lib.hid hp2; clear hb2 hi2 hp2)
  have HB2 := Lib.hid (HB1.out.trans (HBA.out.mono HB1.out.size))
  have HR2 := Lib.hid ((HRD.out.below HB2.out).more HB2.out.size)
  go_upto_region 4 with (go_at_call 25; refine (H25.out _ HR2.out).mono ?_; rintro e w3 ⟨hb3, lv2, pv2, rfl, hi3, hp3⟩; have HBB := Lib.hid hb3; have HI2 := Lib.hid hi3; have HP2 := Lib.hid hp3; clear hb3 hi3 hp3)
  have HB3 := Lib.hid (HB2.out.trans (HBB.out.mono HB2.out.size))
  have HR3 := Lib.hid ((HRD.out.below HB3.out).more HB3.out.size)
  go_upto_region 5 with (go_at_call 26; refine (H26.out _ HR3.out).mono ?_; rintro e w4 ⟨bv, rfl, hk4, hb4⟩; have HBC := Lib.hid hb4; have HK := Lib.hid hk4; clear hk4 hb4)
  have HB4 := Lib.hid (HB3.out.trans (HBC.out.mono HB3.out.size))
  have HR4 := Lib.hid ((HRD.out.below HB4.out).more HB4.out.size)
  have HO4 := Lib.hid (own_to (own_to (own_to HO.out HBA.out) HBB.out) HBC.out)
  have HI4 := Lib.hid (own_to (own_to HI.out HBB.out) HBC.out)
  have HP4 := Lib.hid (own_to (own_to HP.out HBB.out) HBC.out)
  have HI5 := Lib.hid (own_to HI2.out HBC.out)
  have HP5 := Lib.hid (own_to HP2.out HBC.out)
  clear HO HI HP HI2 HP2 HBA HBB HBC HR1 HR2 HR3 H24 H25 H26 HB1 HB2 HB3
  obtain ⟨Ak, ck, rfl, _, _⟩ := OwnB.form (e := 5) (bs := bs) HO4.out
  obtain ⟨Al, cl, rfl, hrl⟩ := ins_letter HI4.out
  obtain ⟨Al2, cl2, rfl, hrl2⟩ := ins_letter HI5.out
  obtain ⟨Ap, cp, rfl, hrp⟩ := int_letter HP4.out
  obtain ⟨Ap2, cp2, rfl, hrp2⟩ := int_letter HP5.out
  have hnz : (natZ ps).length = ps.length := by simp [natZ]
  have HRL2 := Lib.hid hrl2
  have HRP2 := Lib.hid hrp2
  have H13 := Lib.hid (instrs_any Al Al2 l.length l.length cl cl2 _ _ l l w4 hrl hrl2 (by omega))
  have H27 := Lib.hid fun m => ints_any Ap Ap2 (natZ ps).length (natZ ps).length cp cp2 _ _ (natZ ps) (natZ ps) (w4.drewN m) (hrp.drewN m) (hrp2.drewN m) (by omega)
  have H12 := Lib.hid fun m => same_any A Ak n bs.length c ck _ _ bs bs (w4.drewN m) (HR4.out.drewN m) ((OwnB.reads (e := 5) HO4.out rfl).drewN m) (by omega)
  rw [insL_refl] at H13
  rw [show decide (natZ ps = natZ ps) = true by simp] at H27
  rw [show decide (bs = bs) = true by simp] at H12
  have HBP := Lib.hid fun m => HB4.out.trans ((below_drewN (Below.refl w4.heap.size w4) m).mono HB4.out.size)
  have HK4 := Lib.hid HK.out
  have HBQ := Lib.hid fun m => below_drewN (Below.refl w4.heap.size w4) m
  have d1 : (er != er) = false := by simp
  have d2 : ((at_ : Int) != (at_ : Int)) = false := by simp
  clear hrl hrl2 hrp hrp2 hnz HR4 HO4 HI4 HP4 HRD HK
  go_upto_region 7 with (first
    | (go_at_call 13; refine H13.out.mono ?_; rintro e w5 ⟨rfl, m, rfl⟩)
    | (go_at_call 27; refine (H27.out _).mono ?_; rintro e w6 ⟨rfl, m6, rfl⟩)
    | (go_at_call 12; refine (H12.out _).mono ?_; rintro e w7 ⟨rfl, m7, rfl⟩)
    | (go_at_call 14; refine (H14.out _).mono ?_; rintro e w8 ⟨rfl, hb8⟩; have HB8 := Lib.hid ((HBP.out _).trans (hb8.mono (HBP.out _).size)); have HB9 := Lib.hid ((HBQ.out _).trans (hb8.mono (HBQ.out _).size)); clear hb8))
  clear H13 H27 H12 H14 HBP HBQ d1 d2
  have HI8 := Lib.hid (own_to HI5.out HB9.out)
  have HP8 := Lib.hid (own_to HP5.out HB9.out)
  have HK8 := Lib.hid (own_to HK4.out HB9.out)
  clear HI5 HP5 HK4 HB9
  rcases HC.out with ⟨_, h⟩ | ⟨h0, ⟨l', ps', h, hw⟩ | ⟨_, h, _⟩⟩
  · simp only [Prod.mk.injEq] at h
    obtain ⟨rfl, rfl, rfl, rfl⟩ := h
    have hk : OwnP w8 w3.heap.size bv [] := HK8.out
    obtain ⟨Ab, cb, rfl, _, _⟩ := own_form hk
    clear hk HC HI8 HP8 HK8 HRL2 HRP2
    go_wp2
    go_ret
    exact ⟨rfl, HB8.out⟩
  rotate_left
  · simp only [Prod.mk.injEq] at h
    obtain ⟨rfl, rfl, rfl, rfl⟩ := h
    have hk : OwnP w8 w3.heap.size bv [] := HK8.out
    obtain ⟨Ab, cb, rfl, _, _⟩ := own_form hk
    clear hk HC HI8 HP8 HK8 HRL2 HRP2
    go_wp2
    go_ret
    exact ⟨rfl, HB8.out⟩
  simp only [Prod.mk.injEq] at h
  obtain ⟨rfl, rfl, rfl, rfl⟩ := h
  have hk : OwnP w8 w3.heap.size bv (blkN l l.length) := HK8.out
  have HK9 := Lib.hid hk
  have HWP := Lib.hid (whole_ps hw)
  have hpl : ∀ k, k < l.length → pl l k ≤ 32767 := fun k hk => by
    have h1 := pl_mono l l.length k (by omega)
    have h2 := hw.fin
    omega
  have H28 := Lib.hid (Rblocks_any Al2 Ap2 l.length cl2 (natZ ps).length cp2 l w8 (RdI.of_own HI8.out) (by rw [← HWP.out]; exact Reads.of_own HP8.out) (by omega) hpl hw.ok)
  have hbl := blkN_len l l.length
  generalize blkN l l.length = bl at *
  clear hk hpl hw HC HI8 HP8 HK8 HRL2 HRP2 HWP h0
  go_upto_region 10 with (go_at_call 28; refine H28.out.mono ?_; rintro e w9 ⟨rv, rfl, ho9, hb9⟩; have HO9 := Lib.hid ho9; have HK10 := Lib.hid (own_to HK9.out hb9); have HB10 := Lib.hid (HB8.out.trans (hb9.mono HB8.out.size)); clear ho9 hb9)
  obtain ⟨Ar, cr, rfl, _, _⟩ := own_form HO9.out
  obtain ⟨Ab, cb, rfl, _, _⟩ := own_form HK10.out
  have d1 : ((bl.length : Int) != (bl.length : Int)) = false := by simp
  clear H28 HK9 HB8
  go_wp2
  clear d1
  go_loopw [15] (fun i wx => ∃ k m : Nat, k ≤ bl.length ∧ i = .int .i64 k ∧ wx = w9.drewN m) (fun i _ => bl.length - (intOf i).toNat)
  case atStart => exact ⟨0, 0, Nat.zero_le _, rfl, rfl⟩
  case round =>
    obtain ⟨k, m, hk, rfl, rfl⟩ := hrel
    by_cases hlt : k < bl.length
    · obtain ⟨b1, c1, h1, hb1, e1, e2⟩ := own_pair HO9.out hlt
      obtain ⟨b2, c2, h2, hb2, e3, e4⟩ := own_pair HK10.out hlt
      obtain ⟨rfl, rfl⟩ : Ar = some ⟨b1, 0, none⟩ ∧ cr = c1 := by injection h1 with a b c; exact ⟨a, c⟩
      obtain ⟨rfl, rfl⟩ : Ab = some ⟨b2, 0, none⟩ ∧ cb = c2 := by injection h2 with a b c; exact ⟨a, c⟩
      have l1 : (0 : Int) ≤ (k : Int) := by omega
      have l2 : (k : Int) < (bl.length : Int) := by omega
      generalize bl.getD k (0, 0) = p at *
      obtain ⟨p1, p2⟩ := p
      dsimp only at e1 e2 e3 e4
      have hcmp := fun w => run_neq68 w p1 p2 p1 p2
      simp only [beq_self_eq_true, Bool.and_self, Bool.not_true] at hcmp
      clear h1 h2
      go_wp2
      go_quiet (fail)
      go_wp2
      go_roundw
      case rel => exact ⟨k + 1, _, by omega, by go_num, by simp [World.drewN]; rfl⟩
      case measure => simp [intOf]; omega
    · go_wp2
      go_ret
      exact ⟨rfl, below_drewN HB10.out m⟩
end Go.Proofs.Ytaeegkljldngmaa
