/-
  The walk of the law's like f23 at equal nets.
-/
import Derived.Test.YtbkgphmocjjmmaaNvA
namespace Go.Proofs.Ytbkgphmocjjmmaa
open Go.RowKit

/-- both nets at one state -/
structure Two (w : World) (g : Nat) (S : Ns) (v : Bool → Value) (l : Bool → List LP) (gr : Nat) (vr : Bool → Value) (lr : Bool → List LP) (W : World) : Prop where
  a : NetA W g S v l
  r : NetR W gr S vr lr
  old : Below w.heap.size w W
section
variable {w W W' : World} {g gr : Nat} {S : Ns} {v vr : Bool → Value} {l lr : Bool → List LP}
theorem Two.below (h : Two w g S v l gr vr lr W) (hb : Below W.heap.size W W') : Two w g S v l gr vr lr W' := ⟨h.a.below hb, h.r.below hb, bt h.old hb⟩
theorem Two.drew (h : Two w g S v l gr vr lr W) : Two w g S v l gr vr lr W.drew := h.below (Below.refl _ _).drew
end
def LkN (w : World) (v : Value) (us : List Pk) (W : World) : Prop := Below w.heap.size w W ∧ PksX W v us
theorem UnP.lk {w W : World} {us : List Pk} {e : Ending} (h : UnP w us e W) : ∃ A c, e = .returned (.slice A us.length c) ∧ Below w.heap.size w W ∧ PksX W (.slice A us.length c) us := by
  obtain ⟨v, l, rfl, hx, rfl⟩ := h
  have hp := hx.toP
  obtain ⟨A, c, rfl⟩ := hp.form
  exact ⟨A, c, rfl, hx.old, hp⟩
set_option maxRecDepth 20000 in
set_option maxHeartbeats 8000000 in
theorem like_any (g : Nat) (S : Ns) (v : Bool → Value) (l : Bool → List LP) (gr : Nat) (vr : Bool → Value) (lr : Bool → List LP) (K : Int) (w : World) (ha : NetA w g S v l) (hr : NetR w gr S vr lr) (hk : S.ok K) (hs : S.sm) :
    Calls Try.prog 23 #[.pointer (some ⟨g, 0, none⟩), .pointer (some ⟨gr, 0, none⟩)] w (AwP w) := by
  have hlo := hk.lo
  have hl64 : ∀ s, (S.u s).length ≤ 64 := fun s => by have := hk.len s; have := hk.hi; omega
  have hbb : ∀ s, ∀ p ∈ S.u s, p.bytes.length ≤ 140737488355328 := fun s p hp => by have := hs s p hp; omega
  have U := Lib.hid fun s W (h : Two w g S v l gr vr lr W) => (under_any g S v l K s W h.a hk (hbb s)).mono fun _ _ h => UnP.lk h
  have UR := Lib.hid fun s W (h : Two w g S v l gr vr lr W) => (runder_any gr S vr lr K s W h.r hk (hbb s)).mono fun _ _ h => UnP.lk h
  have SM := Lib.hid fun s A1 A2 c1 c2 W (h1 : PksX W (.slice A1 (S.u s).length c1) (S.u s)) (h2 : PksX W (.slice A2 (S.u s).length c2) (S.u s)) => same_any A1 A2 c1 c2 (S.u s) W h1 h2 (hl64 s) (hbb s)
  have SM0 := Lib.hid fun W => same_any none none 0 0 [] W (PksX.nil W) (PksX.nil W) (by simp) (fun p h => by cases h)
  have CN := Lib.hid fun s W (h : Two w g S v l gr vr lr W) => counts_any g S v l s W h.a hlo
  have CR := Lib.hid fun s W (h : Two w g S v l gr vr lr W) => rcounts_any gr S vr lr s W h.r
  have UP := Lib.hid fun W (h : Two w g S v l gr vr lr W) => up_net h.a hlo
  have EP := Lib.hid fun W (h : Two w g S v l gr vr lr W) => epoch_at g S.limit S.epoch W (h.a.blk.cell 0) (h.a.blk.cell 2) (by omega)
  have HC := Lib.hid fun W (h : Two w g S v l gr vr lr W) => (show W.cell? ⟨gr, 1, none⟩ = some (.bool S.up) ∧ W.cell? ⟨gr, 2, none⟩ = some (.int .i64 S.epoch) from ⟨h.r.blk.cell 1, h.r.blk.cell 2⟩)
  have HT0 : Hid (Two w g S v l gr vr lr w) := Lib.hid ⟨ha, hr, Below.refl _ _⟩
  have hgr : gr < w.heap.size := hr.blk.lt
  have HLT := Lib.hid fun W (h : Two w g S v l gr vr lr W) => h.r.blk.lt
  clear ha hr hk hs hl64 hbb hlo
  go_enter Try.func23, Try.ntmps23
  go_wp2_with fail
  go_loopw [5] (fun i wr => ∃ k : Int, i = .int .i64 k ∧ (k = 0 ∨ k = 1 ∨ k = 2 ∨ k = 3 ∨ k = 4) ∧ Two w g S v l gr vr lr wr) (fun i _ => 4 - (intOf i).toNat)
  case atStart => exact ⟨0, rfl, .inl rfl, HT0.out⟩
  case round =>
    obtain ⟨k, rfl, hk, ht⟩ := hrel
    have HT := Lib.hid ht
    clear ht HT0
    rcases hk with rfl | rfl | rfl | rfl | rfl
    · go_wp2_with fail
      refine (under_no _ 0 _ (.inl rfl)).mono ?_
      rintro e w' ⟨rfl, rfl⟩
      go_wp2_with fail
      refine (runder_no _ 0 _ rfl).mono ?_
      rintro e w' ⟨rfl, rfl⟩
      go_wp2_with fail
      refine (SM0.out _).mono ?_
      rintro e w1 ⟨rfl, hb⟩
      have HT1 := Lib.hid (HT.out.below hb)
      clear hb HT
      go_wp2_with fail
      refine (counts_no _ 0 _ (.inl rfl)).mono ?_
      rintro e w2 ⟨rfl, hb⟩
      have HT2 := Lib.hid (HT1.out.below hb)
      clear hb HT1
      go_wp2_with fail
      refine (rcounts_no _ 0 _ rfl).mono ?_
      rintro e w3 ⟨rfl, hb⟩
      have HT3 := Lib.hid (HT2.out.below hb)
      clear hb HT2
      unfold cnt0
      go_wp2_with fail
      go_roundw
      case rel => exact ⟨1, rfl, .inr (.inl rfl), HT3.out⟩
      case measure => simp [intOf]
    · have HCC : Hid (∃ c, c = S.c false) := Lib.hid ⟨_, rfl⟩
      go_wp2_with fail
      refine (U.out false _ HT.out).mono ?_
      rintro e w1 ⟨A1, c1, rfl, hb1, hp1⟩
      have HT1 := Lib.hid (HT.out.below hb1)
      have HP1 := Lib.hid hp1
      clear hb1 hp1 HT
      go_wp2_with fail
      refine (UR.out false _ HT1.out).mono ?_
      rintro e w2 ⟨A2, c2, rfl, hb2, hp2⟩
      have HT2 := Lib.hid (HT1.out.below hb2)
      have HP2 := Lib.hid hp2
      have HP3 := Lib.hid (HP1.out.below hb2)
      clear hb2 hp2 HT1 HP1
      go_wp2_with fail
      refine (SM.out false _ _ _ _ _ HP3.out HP2.out).mono ?_
      rintro e w3 ⟨rfl, hb⟩
      have HT3 := Lib.hid (HT2.out.below hb)
      clear hb HT2 HP2 HP3
      go_wp2_with fail
      refine (CN.out false _ HT3.out).mono ?_
      rintro e w4 ⟨rfl, hb⟩
      have HT4 := Lib.hid (HT3.out.below hb)
      clear hb HT3
      unfold Cn.vals
      go_wp2_with fail
      refine (CR.out false _ HT4.out).mono ?_
      rintro e w5 ⟨rfl, hb⟩
      have HT5 := Lib.hid (HT4.out.below hb)
      clear hb HT4
      unfold Cn.vals
      go_wp2_with fail
      go_roundw
      case rel => exact ⟨2, rfl, .inr (.inr (.inl rfl)), HT5.out⟩
      case measure => simp [intOf]
    · have HCC : Hid (∃ c, c = S.c true) := Lib.hid ⟨_, rfl⟩
      go_wp2_with fail
      refine (U.out true _ HT.out).mono ?_
      rintro e w1 ⟨A1, c1, rfl, hb1, hp1⟩
      have HT1 := Lib.hid (HT.out.below hb1)
      have HP1 := Lib.hid hp1
      clear hb1 hp1 HT
      go_wp2_with fail
      refine (UR.out true _ HT1.out).mono ?_
      rintro e w2 ⟨A2, c2, rfl, hb2, hp2⟩
      have HT2 := Lib.hid (HT1.out.below hb2)
      have HP2 := Lib.hid hp2
      have HP3 := Lib.hid (HP1.out.below hb2)
      clear hb2 hp2 HT1 HP1
      go_wp2_with fail
      refine (SM.out true _ _ _ _ _ HP3.out HP2.out).mono ?_
      rintro e w3 ⟨rfl, hb⟩
      have HT3 := Lib.hid (HT2.out.below hb)
      clear hb HT2 HP2 HP3
      go_wp2_with fail
      refine (CN.out true _ HT3.out).mono ?_
      rintro e w4 ⟨rfl, hb⟩
      have HT4 := Lib.hid (HT3.out.below hb)
      clear hb HT3
      unfold Cn.vals
      go_wp2_with fail
      refine (CR.out true _ HT4.out).mono ?_
      rintro e w5 ⟨rfl, hb⟩
      have HT5 := Lib.hid (HT4.out.below hb)
      clear hb HT4
      unfold Cn.vals
      go_wp2_with fail
      go_roundw
      case rel => exact ⟨3, rfl, .inr (.inr (.inr (.inl rfl))), HT5.out⟩
      case measure => simp [intOf]
    · go_wp2_with fail
      refine (under_no _ 3 _ (.inl rfl)).mono ?_
      rintro e w' ⟨rfl, rfl⟩
      go_wp2_with fail
      refine (runder_no _ 3 _ rfl).mono ?_
      rintro e w' ⟨rfl, rfl⟩
      go_wp2_with fail
      refine (SM0.out _).mono ?_
      rintro e w1 ⟨rfl, hb⟩
      have HT1 := Lib.hid (HT.out.below hb)
      clear hb HT
      go_wp2_with fail
      refine (counts_no _ 3 _ (.inl rfl)).mono ?_
      rintro e w2 ⟨rfl, hb⟩
      have HT2 := Lib.hid (HT1.out.below hb)
      clear hb HT1
      go_wp2_with fail
      refine (rcounts_no _ 3 _ rfl).mono ?_
      rintro e w3 ⟨rfl, hb⟩
      have HT3 := Lib.hid (HT2.out.below hb)
      clear hb HT2
      unfold cnt0
      go_wp2_with fail
      go_roundw
      case rel => exact ⟨4, rfl, .inr (.inr (.inr (.inr rfl))), HT3.out⟩
      case measure => simp [intOf]
    · have hc := HC.out _ HT.out
      have c1 := hc.1
      have c2 := hc.2
      have hgw := HLT.out _ HT.out
      go_upto_region 6 with fail
      have sa0 := HT.out.drew
      have HSA := Lib.hid fun W (h : Two w g S v l gr vr lr W) => HC.out W h
      clear hc
      go_region_held3 (fun W => W.cell? ⟨gr, 1, none⟩ = some (.bool S.up) ∧ W.cell? ⟨gr, 2, none⟩ = some (.int .i64 S.epoch))
        (first | go_keep)
        (first
          | (go_at_call 25; ((with_reducible refine (UP.out _ sa0).mono ?_); rintro e w6 ⟨rfl, rfl⟩))
          | (go_at_call 26; ((with_reducible refine (EP.out _ sa0).mono ?_); rintro e w6 ⟨rfl, rfl⟩)))
      all_goals
        go_wp2_with fail
        go_ret
        exact ⟨rfl, sa0.old⟩
end Go.Proofs.Ytbkgphmocjjmmaa
