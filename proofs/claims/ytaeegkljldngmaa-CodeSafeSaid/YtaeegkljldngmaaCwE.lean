/-
  The document's Lay f34. No statement of the seat is proved here.
-/
import Derived.Test.YtaeegkljldngmaaCdM
import Derived.Test.YtaeegkljldngmaaPlD
namespace Go.Proofs.Ytaeegkljldngmaa
open Go.RowKit

/-- the first bytes of an instruction -/
theorem layK_next (h : Int) (x : Ins) (k : Nat) : layK h x (k + 1) = layK h x k ++ (if has3 h k then [by8 (sel3 x k)] else []) := rfl
theorem by8_hi {z : Int} (h1 : -32768 ≤ z) (h2 : z ≤ 32767) : by8 ((if z < 0 then z + 65536 else z) / 256) = by8 (z / 256) ∧ by8 ((if z < 0 then z + 65536 else z) % 256) = by8 z := by
  constructor
  · apply UInt8.toNat_inj.1
    have a := by8_nat ((if z < 0 then z + 65536 else z) / 256)
    have b := by8_nat (z / 256)
    split at a <;> split <;> omega
  · apply UInt8.toNat_inj.1
    have a := by8_nat ((if z < 0 then z + 65536 else z) % 256)
    have b := by8_nat z
    split at a <;> split <;> omega
/-- the bytes ahead of the jump's -/
def preB (x : Ins) (k : Nat) : List UInt8 := by8 x.op :: ([x.a, x.b, x.c].take k).map by8
theorem preB_len (x : Ins) (k : Nat) : (preB x k).length ≤ 4 := by
  have h : ([x.a, x.b, x.c].take k).length ≤ 3 := by rw [List.length_take]; exact Nat.min_le_right _ _
  simp only [preB, List.length_cons, List.length_map]
  omega
theorem preB_next (x : Ins) {k : Nat} (h : k < 3) : preB x k ++ [by8 (sel3 x k)] = preB x (k + 1) := by
  obtain rfl | rfl | rfl : k = 0 ∨ k = 1 ∨ k = 2 := by omega
  all_goals rfl
theorem lay_pre {h : Int} (hh : HasOk h) : ∃ (N : Nat) (tz : Bool), N ≤ 3 ∧ opnH h = ((N : Int), tz) ∧ tz = hT h ∧ ∀ x, layH h x = preB x N ++ (if tz then [by8 (x.z / 256), by8 x.z] else []) := by
  rcases hh with rfl | rfl | rfl | rfl | rfl
  · exact ⟨0, false, by decide, rfl, rfl, fun _ => rfl⟩
  · exact ⟨1, false, by decide, rfl, rfl, fun _ => rfl⟩
  · exact ⟨2, false, by decide, rfl, rfl, fun _ => rfl⟩
  · exact ⟨0, true, by decide, rfl, rfl, fun _ => rfl⟩
  · exact ⟨3, true, by decide, rfl, rfl, fun _ => rfl⟩
/-- while an instruction is laid -/
structure LayR (w : World) (bx g : Nat) (xc lc : Array Value) (ys : List UInt8) (v : Value) (W : World) : Prop where
  own : OwnB 5 W w.heap.size v ys
  xb : Blk W bx 43 xc
  lb : Blk W g 3 lc
  old : Below w.heap.size w W
theorem LayR.step {w : World} {bx g : Nat} {xc lc : Array Value} {ys zs : List UInt8} {v v' : Value} {W w' : World} (h : LayR w bx g xc lc ys v W) {o : Obj} (ho : OwnB 5 w' w.heap.size v' zs) (ha : App (W.alloc o) v w' v') : LayR w bx g xc lc zs v' w' :=
  ⟨ho, ha.blk (h.xb.alloc o) (own_blk_ne (h.own.alloc o) (h.xb.alloc o) (by decide)), ha.blk (h.lb.alloc o) (own_blk_ne (h.own.alloc o) (h.lb.alloc o) (by decide)),
    (h.old.alloc h.old.size o).trans (ha.below (Nat.le_trans h.old.size (by simp)) fun k hk => (World.ownsRow.lt h.own k hk).1)⟩
set_option maxRecDepth 100000 in
set_option maxHeartbeats 8000000 in
theorem Lay_any (x : Ins) (w : World) (hm : mayE x = 0) : Calls Try.prog 34 #[x.val] w fun e w' => ∃ v, e = .returned v ∧ OwnB 5 w' w.heap.size v (layI x) ∧ Below w.heap.size w w' := by
  obtain ⟨ho, hf⟩ := mayE_ok hm
  have H42 := Lib.hid (Operands_any x.op)
  obtain ⟨N, tz, hN, hn, ht, hlay⟩ := lay_pre (hasOk_O x.op)
  rw [opn_has, hn] at H42
  have HLY : Hid (layI x = preB x N ++ (if tz then [by8 (x.z / 256), by8 x.z] else [])) := Lib.hid (hlay x)
  have hz : tz = true → -32768 ≤ x.z ∧ x.z ≤ 32767 := fun h => by
    unfold fitH at hf
    simp only [Bool.and_eq_true] at hf
    have := hf.2.2.2
    rw [← ht, h] at this
    simpa using this
  have HZ := Lib.hid hz
  clear hn ht hlay hz hf hm ho
  have HPN := Lib.hid fun k (h : k < 3) => preB_next x h
  have HPL := Lib.hid (preB_len x)
  have HP0 : Hid (preB x 0 = [by8 x.op]) := Lib.hid rfl
  have HS : Hid (∀ k, k < 3 → (#[Value.int .i64 x.a, .int .i64 x.b, .int .i64 x.c] : Array Value)[k]? = some (.int .i64 (sel3 x k))) := Lib.hid fun k hk => by
    obtain rfl | rfl | rfl : k = 0 ∨ k = 1 ∨ k = 2 := by omega
    all_goals rfl
  generalize preB x = pb at *
  generalize sel3 x = sx at *
  generalize layI x = L at *
  simp only [Ins.val]
  obtain ⟨op, xa, xb, xc, xz⟩ := x
  dsimp only at H42 HZ HLY HP0 HS ⊢
  have HX := Lib.hid (Blk.new w 43 #[.int .i64 op, .int .i64 xa, .int .i64 xb, .int .i64 xc, .int .i64 xz])
  have hw8 := wrap8 op
  generalize by8 op = bo at *
  have HR0 : Hid (LayR w w.heap.size (w.heap.size + 1 + 1) #[.int .i64 op, .int .i64 xa, .int .i64 xb, .int .i64 xc, .int .i64 xz] #[.int .i64 xa, .int .i64 xb, .int .i64 xc] [bo] (.slice (some ⟨w.heap.size + 1, 0, none⟩) 1 1) (((w.alloc (.cells #[.int .i64 op, .int .i64 xa, .int .i64 xb, .int .i64 xc, .int .i64 xz] 43)).alloc (.cells #[.int .u8 (bo.toNat : Int)] 5)).alloc (.cells #[.int .i64 xa, .int .i64 xb, .int .i64 xc] 3))) :=
    Lib.hid ⟨(OwnB.built' 5 (w.alloc (.cells #[.int .i64 op, .int .i64 xa, .int .i64 xb, .int .i64 xc, .int .i64 xz] 43)) w.heap.size (w.heap.size + 1) #[.int .u8 (bo.toNat : Int)] [bo] (by simp) (by simp) (by simp) rfl).alloc _, (HX.out.alloc _).alloc _, Blk.new' _ 3 _ _ (by simp), (((Below.refl _ _).alloc (Nat.le_refl _) _).alloc (by simp) _).alloc (by simp; omega) _⟩
  clear HX
  go_enter Try.func34, Try.ntmps34
  go_upto_region 4 with (go_at_call 42; refine (H42.out _).mono ?_; rintro e w1 ⟨rfl, rfl⟩)
  clear hw8 H42
  generalize w.heap.size + 1 + 1 = g at *
  generalize ((w.alloc (.cells #[.int .i64 op, .int .i64 xa, .int .i64 xb, .int .i64 xc, .int .i64 xz] 43)).alloc (.cells #[.int .u8 (bo.toNat : Int)] 5)).alloc (.cells #[.int .i64 xa, .int .i64 xb, .int .i64 xc] 3) = w0 at *
  rw [← HP0.out] at HR0
  go_wp2_with fail
  go_loopw [5, 7] (fun v i wr => ∃ k : Nat, k ≤ N ∧ i = .int .i64 k ∧ LayR w w.heap.size g #[.int .i64 op, .int .i64 xa, .int .i64 xb, .int .i64 xc, .int .i64 xz] #[.int .i64 xa, .int .i64 xb, .int .i64 xc] (pb k) v wr) (fun _ i _ => N - (intOf i).toNat)
  case atStart => exact ⟨0, Nat.zero_le _, rfl, HR0.out⟩
  case round =>
    obtain ⟨k, hk, rfl, hR⟩ := hrel
    have HR := Lib.hid hR
    obtain ⟨A1, c1, rfl, _, _⟩ := hR.own.form
    have hB := hR.old.size
    have HLN := Lib.hid (HPL.out k)
    clear HR0
    by_cases hlt : k < N
    · have hc : wr.cell? ⟨g, k, none⟩ = some (.int .i64 (sx k)) := by
        rw [hR.lb.cell k]
        exact HS.out k (by omega)
      have hw8 := wrap8 (sx k)
      have HNX := Lib.hid (HPN.out k (by omega))
      have l1 : (0 : Int) ≤ (k : Int) := by omega
      have l2 : (k : Int) < 3 := by omega
      have l3 : (k : Int) < (N : Int) := by omega
      clear hR
      generalize by8 (sx k) = b1 at *
      generalize sx k = s1 at *
      generalize hpk : pb k = ys at *
      go_wp2_with (at_builtin; refine wpList_app rfl _ _ _ rfl w.heap.size 5 info5 Try.underlying23 _ ys rfl (HR.out.own.alloc _) _ _ _ _ [b1] rfl (Reads.built _ _ [bv b1]) (by have := HLN.out; simp; omega) (by simp; omega) ?_; intro v1 w1 ho ha; have HR2 := Lib.hid (HR.out.step ho ha); clear ho ha)
      go_roundw
      case rel => exact ⟨k + 1, by omega, by go_num, by rw [← HNX.out]; exact HR2.out⟩
      case measure => simp [intOf]; omega
    · obtain rfl : k = N := by omega
      have hc : wr.cell? ⟨w.heap.size, 4, none⟩ = some (.int .i64 xz) := hR.xb.cell 4
      clear hR
      cases tz with
      | false =>
        have HF : Hid (L = pb k) := Lib.hid (by rw [HLY.out, if_neg (by simp), List.append_nil])
        go_wp2
        go_ret
        rw [HF.out]
        exact ⟨_, rfl, HR.out.own, HR.out.old⟩
      | true =>
        obtain ⟨z1, z2⟩ := HZ.out rfl
        have HF : Hid (L = pb k ++ [by8 (xz / 256), by8 xz]) := Lib.hid (by rw [HLY.out, if_pos rfl])
        have HBY := Lib.hid (by8_hi z1 z2)
        clear HLY HPN HPL HP0 HS
        by_cases hneg : xz < 0
        · have hw1 := wrap8 ((xz + 65536) / 256)
          have hw2 := wrap8 ((xz + 65536) % 256)
          have HB1 : Hid (by8 ((xz + 65536) / 256) = by8 (xz / 256) ∧ by8 ((xz + 65536) % 256) = by8 xz) := Lib.hid (by have := HBY.out; rw [if_pos hneg] at this; exact this)
          rw [HB1.out.1] at hw1
          rw [HB1.out.2] at hw2
          clear HBY
          generalize by8 (xz / 256) = b1 at *
          generalize by8 xz = b2 at *
          generalize hpk : pb k = ys at *
          go_wp2_with (at_builtin; refine wpList_app rfl _ _ _ rfl w.heap.size 5 info5 Try.underlying23 _ ys rfl (HR.out.own.alloc _) _ _ _ _ [b1, b2] rfl (Reads.built _ _ [bv b1, bv b2]) (by have := HLN.out; simp; omega) (by simp; omega) ?_; intro v1 w1 ho ha; have HR2 := Lib.hid (HR.out.step ho ha); clear ho ha)
          go_ret
          rw [HF.out]
          exact ⟨_, rfl, HR2.out.own, HR2.out.old⟩
        · have hw1 := wrap8 (xz / 256)
          have hw2 := wrap8 (xz % 256)
          have HB1 : Hid (by8 (xz % 256) = by8 xz) := Lib.hid (by have := HBY.out.2; rw [if_neg hneg] at this; exact this)
          rw [HB1.out] at hw2
          clear HBY
          generalize by8 (xz / 256) = b1 at *
          generalize by8 xz = b2 at *
          generalize hpk : pb k = ys at *
          go_wp2_with (at_builtin; refine wpList_app rfl _ _ _ rfl w.heap.size 5 info5 Try.underlying23 _ ys rfl (HR.out.own.alloc _) _ _ _ _ [b1, b2] rfl (Reads.built _ _ [bv b1, bv b2]) (by have := HLN.out; simp; omega) (by simp; omega) ?_; intro v1 w1 ho ha; have HR2 := Lib.hid (HR.out.step ho ha); clear ho ha)
          go_ret
          rw [HF.out]
          exact ⟨_, rfl, HR2.out.own, HR2.out.old⟩
end Go.Proofs.Ytaeegkljldngmaa
