/-
  What the walk of WireCuts needs beside the code.
-/
import Derived.Test.YtijcnefomgfocaaCuts
import Derived.Test.YtijcnefomgfocaaPks
import Derived.Test.YtijcnefomgfocaaPutc
import Derived.Deep.DeepCutAuto
import Derived.LoopTactic
import Derived.WalkLawsBesides
namespace Go.Proofs.Ytijcnefomgfocaa
open Go.RowKit

theorem own_keep {w w' : World} {base : Nat} {e : TypeId} {size n : Nat} {v : Value} {xs : List Value} (h : w.ownsRow base e size v n xs) (hk : ∀ k, v.ownBlock = some k → w'.heap[k]? = w.heap[k]?) : w'.ownsRow base e size v n xs := by
  refine ⟨h.1, ?_⟩
  rcases h.2 with h | ⟨g, cap, cur, rfl, h2, h3, h4⟩
  · exact .inl h
  · exact .inr ⟨g, cap, cur, rfl, h2, (hk g rfl).trans h3, h4⟩
theorem PkRow.append {w w' : World} {base : Nat} {V V' : Value} {ps qs : List (Pk × Option Addr × Nat)} (h : PkRow w base V ps) (hq : ∀ q ∈ qs, OwnB 5 w base (.slice q.2.1 q.1.body.length q.2.2) q.1.body) (hg : w.grownBy w' V.ownBlock)
    (ho : w'.ownsRow base 26 5 V' (ps.length + qs.length) (ps.flatMap pqCells ++ qs.flatMap pqCells)) : PkRow w' base V' (ps ++ qs) := by
  refine ⟨by simpa using ho, fun x hx => ?_⟩
  have key : OwnB 5 w base (.slice x.2.1 x.1.body.length x.2.2) x.1.body := by
    rcases List.mem_append.1 hx with hx | hx
    · exact h.2 x hx
    · exact hq x hx
  exact World.ownsRow.kept key hg (own_own_ne key h.1 (by decide))
theorem pq_one (qs : List (Pk × Option Addr × Nat)) : ∀ u ∈ qs.flatMap pqCells, u.oneCell' = true := by
  intro u hu
  obtain ⟨q, _, hq⟩ := List.mem_flatMap.1 hu
  simp [pqCells] at hq
  rcases hq with rfl | rfl | rfl | rfl | rfl <;> rfl
/-- the reader that is fed in parts: what it has told, what it keeps; everything that was there at w0 is as it was, but block g -/
def CW (w0 : World) (g : Nat) (x : List UInt8) (V K : Value) (ps : List (Pk × Option Addr × Nat)) (M : Nat) (wr : World) : Prop :=
  w0.grownBy wr (some g) ∧ Blk wr g 74 #[.bool true, K, .int .i64 ((feed x).2.2 : Nat)] ∧ OwnB 5 wr M K (feed x).2.1 ∧ w0.heap.size ≤ M ∧ M ≤ wr.heap.size ∧ PkRow wr w0.heap.size V ps ∧
    (∀ q ∈ ps, ∀ k, (Value.slice q.2.1 q.1.body.length q.2.2).ownBlock = some k → k < M) ∧ ps.map (·.1) = (feed x).1
section
variable {w0 wr w1 w2 : World} {g M : Nat} {x y : List UInt8} {V K : Value} {ps : List (Pk × Option Addr × Nat)}
theorem CW.grown0 (h : CW w0 g x V K ps M wr) (hg : wr.grownBy w1 none) : CW w0 g x V K ps M w1 :=
  ⟨grown_two h.1 hg, h.2.1.grown hg (by simp), World.ownsRow.kept h.2.2.1 hg (by cases K.ownBlock <;> simp), h.2.2.2.1, Nat.le_trans h.2.2.2.2.1 hg.size, h.2.2.2.2.2.1.kept hg, h.2.2.2.2.2.2⟩
/-- it has been fed: the row of what was told as it was -/
theorem CW.fed (h : CW w0 g x V K ps M wr) (hG : Grown2 wr w1 g K) : w0.grownBy w1 (some g) ∧ PkRow w1 w0.heap.size V ps := by
  obtain ⟨h1, h2, h3, h4, h5, h6, h7, h8⟩ := h
  obtain ⟨g1, g2, g3, g4, g5⟩ := hG
  refine ⟨⟨g1.trans h1.os, g2.trans h1.tape, g3.trans h1.output, Nat.le_trans h1.size g4, fun k hk hr => ?_⟩, own_keep h6.1 fun k hk => ?_, fun q hq => own_keep (h6.2 q hq) fun k hk => ?_⟩
  · have hs := h1.size
    rw [g5 k (by omega) (fun e => hr (by rw [e])) (fun e => by have := (h3.lt k e).1; omega)]
    exact h1.block k hk hr
  · refine g5 k (h6.1.lt k hk).2 (fun e => own_blk_ne h6.1 h2 (by decide) (by rw [hk, e])) (fun e => ?_)
    rcases own_own_ne h6.1 h3 (by decide) with e2 | e2
    · rw [e2] at hk; cases hk
    · exact e2 (by rw [hk, e])
  · exact g5 k ((h6.2 q hq).lt k hk).2 (fun e => own_blk_ne (h6.2 q hq) h2 (by decide) (by rw [hk, e])) (fun e => by have := (h3.lt k e).1; have := h7 q hq k hk; omega)
/-- and what it told now stands behind -/
theorem CW.told {V1 V' K' : Value} {qs : List (Pk × Option Addr × Nat)} {M' : Nat} (h : CW w0 g x V K ps M wr) (hG : Grown2 wr w1 g K) (hq : qs.map (·.1) = (feed ((feed x).2.1 ++ y)).1) (hp : PkRow w1 wr.heap.size V1 qs)
    (hb : Blk w1 g 74 #[.bool true, K', .int .i64 (((feed x).2.2 : Nat) + ((feed ((feed x).2.1 ++ y)).2.2 : Nat))]) (ho : OwnB 5 w1 M' K' (feed ((feed x).2.1 ++ y)).2.1) (hM : wr.heap.size ≤ M') (hM1 : M' ≤ w1.heap.size)
    (hqM : ∀ q ∈ qs, ∀ k, (Value.slice q.2.1 q.1.body.length q.2.2).ownBlock = some k → k < M') (hg : w1.grownBy w2 V.ownBlock) (hoV : w2.ownsRow w0.heap.size 26 5 V' (ps.length + qs.length) (ps.flatMap pqCells ++ qs.flatMap pqCells)) :
    CW w0 g (x ++ y) V' K' (ps ++ qs) M' w2 := by
  obtain ⟨hg1, hpk⟩ := h.fed hG
  obtain ⟨h1, h2, h3, h4, h5, h6, h7, h8⟩ := h
  have hs := h1.size
  have hcut := feed_cut x y
  have hpb := hp.base (base' := w0.heap.size) (by omega)
  refine ⟨?_, ?_, ?_, by omega, Nat.le_trans hM1 hg.size, hpk.append hpb.2 hg hoV, fun q hq' k hk => ?_, ?_⟩
  · refine ⟨hg.os.trans hg1.os, hg.tape.trans hg1.tape, hg.output.trans hg1.output, Nat.le_trans hg1.size hg.size, fun k hk hr => ?_⟩
    have hs1 := hg1.size
    rw [hg.block k (by omega) (fun e => by have := (hpk.1.lt k e.symm).1; omega)]
    exact hg1.block k hk hr
  · rw [hcut]
    have := hb.grown hg (fun e => own_blk_ne hpk.1 hb (by decide) e.symm)
    rw [Int.natCast_add]
    exact this
  · rw [hcut]
    refine World.ownsRow.kept ho hg ?_
    rcases own_own_ne ho hpk.1 (by decide) with e | e
    · exact .inl e
    · exact .inr e
  · rcases List.mem_append.1 hq' with hq' | hq'
    · have := h7 q hq' k hk; omega
    · exact hqM q hq' k hk
  · rw [hcut, List.map_append, h8, hq]
end
theorem rd_mid {w : World} {B n c at_ m : Nat} {A : Option Addr} {b : List UInt8} (h : RdB w B A n b) (hc : n ≤ c) (ha : at_ + m ≤ n) : RdB w B (if c = at_ then A else A.map (·.add at_)) m ((b.drop at_).take m) := by
  have h1 := cut_rd h (cb := c) (k := at_) (by omega) hc
  exact h1.first (by omega)
theorem take_mid (b : List UInt8) (at_ m : Nat) : b.take (at_ + m) = b.take at_ ++ (b.drop at_).take m := by rw [List.take_add]
theorem CW.bel {w w0 wr : World} {g M : Nat} {x : List UInt8} {V K : Value} {ps : List (Pk × Option Addr × Nat)} (h : CW w0 g x V K ps M wr) (hb : Below w.heap.size w w0) (hg : w.heap.size ≤ g) : Below w.heap.size w wr := by
  have h1 := h.1
  have hs := hb.size
  refine ⟨h1.os.trans hb.os, h1.tape.trans hb.tape, h1.output.trans hb.output, Nat.le_trans hb.size h1.size, fun k hk => ?_⟩
  rw [h1.block k (by omega) (fun e => by injection e with e; omega)]
  exact hb.block k hk
theorem fed_room {p at_ n q : Nat} (hp : p ≤ at_) (ha : at_ ≤ n) (hn : n ≤ 1073741824) (hq : q ≤ 1073741824 + 1088) : p + q ≤ maxLen ∧ (p + q) * 56 ≤ 140737488355328 := by
  refine ⟨by simp only [maxLen]; omega, by omega⟩
theorem take_rest0 (b : List UInt8) (at_ : Nat) (h : b.length ≤ at_) : b.take at_ ++ (b.drop at_).take 0 = b := by
  rw [List.take_zero, List.append_nil, List.take_of_length_le h]
theorem take_rest (b : List UInt8) (at_ : Nat) : b.take at_ ++ (b.drop at_).take (b.length - at_) = b := by
  rw [show (b.drop at_).take (b.length - at_) = b.drop at_ from List.take_of_length_le (by rw [List.length_drop]; exact Nat.le_refl _), List.take_append_drop]
theorem feed_num (b : List UInt8) : (feed b).1.length ≤ b.length := by
  have h1 := (feed_all b).1
  have key : ∀ l : List Pk, l.length ≤ (l.map packLen).sum := by
    intro l
    induction l with
    | nil => simp
    | cons p l ih =>
      have : 1 ≤ packLen p := by unfold packLen packB; rw [frame_len]; omega
      simp only [List.length_cons, List.map_cons, List.sum_cons]
      omega
  have := key (feed b).1
  omega
theorem cut_wrap {a d n : Nat} (h : a + d ≤ n) (hn : n ≤ 1073741824) : wrap64 ((a : Int) + (d : Int)) = (a : Int) + (d : Int) := by unfold wrap64; omega
theorem cut_wrap2 {a d n : Nat} (h : a + d ≤ n) (hn : n ≤ 1073741824) : wrap64 (((a : Nat) : Int) + (d : Int)) = (a : Int) + (d : Int) := by unfold wrap64; omega
theorem sum_take_le (l : List Nat) (j : Nat) : (l.take j).sum ≤ l.sum := by
  conv => rhs; rw [← List.take_append_drop j l]
  rw [List.sum_append]
  omega
theorem pack_sum {qs : List (Pk × Option Addr × Nat)} {l : List Pk} {s n : Nat} (h : qs.map (·.1) = l) (hs : s + (l.map packLen).sum ≤ n) (j : Nat) : s + ((qs.take j).map fun q => packLen q.1).sum ≤ n := by
  subst h
  have h1 := sum_take_le ((qs.map (·.1)).map packLen) j
  rw [← List.map_take, ← List.map_take, List.map_map] at h1
  exact Nat.le_trans (Nat.add_le_add_left h1 s) hs
theorem pack_all {qs : List (Pk × Option Addr × Nat)} {l : List Pk} {s n : Nat} (h : qs.map (·.1) = l) (hs : s + (l.map packLen).sum = n) : s + ((qs.take qs.length).map fun q => packLen q.1).sum = n := by
  subst h
  rw [List.take_length, ← hs, List.map_map]
  rfl
theorem num_le {qs : List (Pk × Option Addr × Nat)} {b : List UInt8} (h : qs.map (·.1) = (feed b).1) (hn : b.length ≤ 1073741824) : qs.length ≤ 4611686018427387904 := by
  have h1 := congrArg List.length h
  have h2 := feed_num b
  rw [List.length_map] at h1
  omega
theorem cut_sum {k d S S1 L n : Nat} (h : S1 = S + L) (hle : k + d + S1 ≤ n) (hn : n ≤ 1073741824) : wrap64 (((k + d + S : Nat) : Int) + (L : Int)) = ((k + d + S1 : Nat) : Int) := by unfold wrap64; omega
theorem cut_sum2 {k d S S1 L n : Nat} (h : S1 = S + L) (hle : k + d + S1 ≤ n) (hn : n ≤ 1073741824) : wrap64 ((k : Int) + (d : Int) + (S : Int) + (L : Int)) = (k : Int) + (d : Int) + (S1 : Int) := by unfold wrap64; omega
theorem meas {j n : Nat} (h : j < n) : n - (intOf (.int .i64 ((j : Int) + 1))).toNat < n - (intOf (.int .i64 (j : Int))).toNat := by simp only [intOf]; omega
theorem meas3 {j n : Nat} (h : j < n) : n - (j + 1) < n - j := by omega
theorem num_le2 {qs : List (Pk × Option Addr × Nat)} {b : List UInt8} (h : qs.map (·.1) = (feed b).1) (hn : b.length ≤ 1073741824) : qs.length ≤ 1073741824 := by
  have h1 := congrArg List.length h
  have h2 := feed_num b
  rw [List.length_map] at h1
  omega
theorem cut_sum3 {k d S S1 L n : Nat} (h : S1 = S + L) (hle : k + d + S1 ≤ n) (hn : n ≤ 1073741824) : k + d + S + L ≤ 1073741824 := by omega
theorem cut_sum4 {k d S L : Nat} (h : k + d + S + L ≤ 1073741824) : (k : Int) + (d : Int) + (S : Int) + (L : Int) ≤ 1073741824 := by omega
theorem cut_wrap1 {j k d n : Nat} {qs : List (Pk × Option Addr × Nat)} {l : List Pk} (hj : j < qs.length) (hs : (l.map packLen).sum + k + d = n) (h : qs.map (·.1) = l) (hn : n ≤ 1073741824) : wrap64 ((j : Int) + 1) = (j : Int) + 1 := by
  have h1 : l.length = qs.length := by rw [← h, List.length_map]
  have key : ∀ l : List Pk, l.length ≤ (l.map packLen).sum := by
    intro l
    induction l with
    | nil => simp
    | cons p l ih =>
      have : 1 ≤ packLen p := by unfold packLen packB; rw [frame_len]; omega
      simp only [List.length_cons, List.map_cons, List.sum_cons]
      omega
  have h2 := key l
  unfold wrap64
  omega
theorem fed_len {k y : List UInt8} {m : Nat} {qs : List (Pk × Option Addr × Nat)} (hq : qs.map (·.1) = (feed (k ++ y.take m)).1) (hk : k.length < 1088) (hm : m ≤ 1073741824) : qs.length ≤ 1073741824 + 1088 := by
  have h1 := congrArg List.length hq
  have h2 := feed_num (k ++ y.take m)
  rw [List.length_map] at h1
  rw [List.length_append, List.length_take] at h2
  omega

end Go.Proofs.Ytijcnefomgfocaa
