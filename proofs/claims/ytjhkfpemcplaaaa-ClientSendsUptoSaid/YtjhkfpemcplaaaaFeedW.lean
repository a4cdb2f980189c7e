/-
  Contract of the program's Feed.
-/
import Derived.Test.YtjhkfpemcplaaaaFeed
import Derived.Test.YtjhkfpemcplaaaaGetr
import Derived.WalkMore
namespace Go.Proofs.Ytjhkfpemcplaaaa
open Go.RowKit

/-- as w, but for block g, the block of K and what is new -/
def Grown2 (w w' : World) (g : Nat) (K : Value) : Prop := w'.os = w.os ∧ w'.tape = w.tape ∧ w'.output = w.output ∧ w.heap.size ≤ w'.heap.size ∧ ∀ k, k < w.heap.size → k ≠ g → K.ownBlock ≠ some k → w'.heap[k]? = w.heap[k]?
def FeedPost (w : World) (g : Nat) (K : Value) (d : Int) (r : List Pk × List UInt8 × Nat) (e : Ending) (w' : World) : Prop :=
  ∃ V qs K', e = .returned V ∧ qs.map (·.1) = r.1 ∧ PkRow w' w.heap.size V qs ∧ Blk w' g 136 #[.bool true, K', .int .i64 (d + (r.2.2 : Nat))] ∧ OwnB 5 w' w.heap.size K' r.2.1 ∧ Grown2 w w' g K
/-- the same, and where what is kept lies: behind the bodies -/
def FeedPostS (w : World) (g : Nat) (K : Value) (d : Int) (r : List Pk × List UInt8 × Nat) (e : Ending) (w' : World) : Prop :=
  ∃ V qs K' M, e = .returned V ∧ qs.map (·.1) = r.1 ∧ PkRow w' w.heap.size V qs ∧ Blk w' g 136 #[.bool true, K', .int .i64 (d + (r.2.2 : Nat))] ∧ OwnB 5 w' M K' r.2.1 ∧ w.heap.size ≤ M ∧ M ≤ w'.heap.size ∧
    (∀ q ∈ qs, ∀ k, (Value.slice q.2.1 q.1.body.length q.2.2).ownBlock = some k → k < M) ∧ Grown2 w w' g K
theorem rd_keep {w wr : World} {B g n : Nat} {A : Option Addr} {b : List UInt8} (hr : RdB w B A n b) (hne : ∀ ad, A = some ad → ad.block ≠ g) (hB : B ≤ w.heap.size) (hg : w.grownBy wr (some g)) : RdB wr wr.heap.size A n b := by
  refine ⟨hr.1, fun hn => ?_⟩
  obtain ⟨ad, e, hlt, hc⟩ := hr.2 hn
  have hs := hg.size
  exact ⟨ad, e, by omega, fun j u hu => by rw [← hc j u hu]; exact World.cell?_of_block (hg.block _ (by rw [block_of_add]; omega) (fun h => hne ad e (by injection h with h; rw [← h, block_of_add])))⟩
theorem grown_two {a b c : World} {row : Option Nat} (h : a.grownBy b row) (k : b.grownBy c none) : a.grownBy c row :=
  ⟨k.os.trans h.os, k.tape.trans h.tape, k.output.trans h.output, Nat.le_trans h.size k.size, fun i hi hr => (k.block i (Nat.lt_of_lt_of_le hi h.size) (by simp)).trans (h.block i hi hr)⟩
theorem own_base {w : World} {base base' : Nat} {e : TypeId} {size n : Nat} {v : Value} {xs : List Value} (h : w.ownsRow base e size v n xs) (hb : base' ≤ base) : w.ownsRow base' e size v n xs := by
  refine ⟨h.1, ?_⟩
  rcases h.2 with h | ⟨g, cap, cur, h1, h2, h3⟩
  · exact .inl h
  · exact .inr ⟨g, cap, cur, h1, by omega, h3⟩
theorem PkRow.base {w : World} {base base' : Nat} {V : Value} {qs : List (Pk × Option Addr × Nat)} (h : PkRow w base V qs) (hb : base' ≤ base) : PkRow w base' V qs := ⟨own_base h.1 hb, fun q hq => own_base (h.2 q hq) hb⟩

/-- between two jumps: w1 the world behind the append, b what is left, qs what is told, m how many were dropped -/
def LK (w1 : World) (g : Nat) (K : Value) (d : Int) (all : List UInt8) (Ab : Option Addr) (cb : Nat) (qs : List (Pk × Option Addr × Nat)) (m : Nat) (b : List UInt8) (V : Value) (wr : World) : Prop :=
  b.length ≤ cb ∧ RdB w1 w1.heap.size Ab b.length b ∧ (∀ ad, Ab = some ad → ad.block ≠ g) ∧ w1.grownBy wr (some g) ∧ Blk wr g 136 #[.bool true, K, .int .i64 (d + (m : Nat))] ∧ PkRow wr w1.heap.size V qs ∧
    feed all = (qs.map (·.1) ++ (feed b).1, (feed b).2.1, m + (feed b).2.2) ∧ 8 * qs.length + b.length + m ≤ all.length
section
variable {w1 wr w' : World} {g : Nat} {K V : Value} {d : Int} {all b : List UInt8} {Ab : Option Addr} {cb m : Nat} {qs : List (Pk × Option Addr × Nat)}
theorem LK.rd (h : LK w1 g K d all Ab cb qs m b V wr) : RdB wr wr.heap.size Ab b.length b := rd_keep h.2.1 h.2.2.1 (Nat.le_refl _) h.2.2.2.1
theorem LK.grown0 (h : LK w1 g K d all Ab cb qs m b V wr) (hg : wr.grownBy w' none) : LK w1 g K d all Ab cb qs m b V w' :=
  ⟨h.1, h.2.1, h.2.2.1, grown_two h.2.2.2.1 hg, h.2.2.2.2.1.grown hg (by simp), h.2.2.2.2.2.1.kept hg, h.2.2.2.2.2.2⟩
theorem LK.drewN (h : LK w1 g K d all Ab cb qs m b V wr) (k : Nat) : LK w1 g K d all Ab cb qs m b V (wr.drewN k) := h.grown0 (only_drewN (World.grownBy.refl wr none) k)
theorem cut_ne {k : Nat} (h : ∀ ad, Ab = some ad → ad.block ≠ g) : ∀ ad, (if cb = k then Ab else Ab.map (·.add k)) = some ad → ad.block ≠ g := by
  intro ad e
  split at e
  · exact h ad e
  · cases Ab with
    | none => cases e
    | some a =>
      simp only [Option.map_some, Option.some.injEq] at e
      rw [← e, block_of_add]
      exact h a rfl
theorem cut_rd {w : World} {B n k : Nat} (h : RdB w B Ab n b) (hk : k ≤ n) (hc : n ≤ cb) : RdB w B (if cb = k then Ab else Ab.map (·.add k)) (n - k) (b.drop k) := by
  have := Reads.cut h (cap := cb) hk hc
  show Reads w B 1 _ _ ((b.drop k).map bv)
  rw [List.map_drop]
  simpa using this
/-- one byte dropped -/
theorem LK.dropped (h : LK w1 g K d all Ab cb qs m b V wr) (hs : stepB b = .drop) (A' : Option Addr) (c' : Nat) (v : Int) (hA : A' = if cb = 1 then Ab else Ab.map (·.add 1)) (hc : c' = cb - 1) (hv : v = d + (m : Int) + 1) :
    LK w1 g K d all A' c' qs (m + 1) b.tail V (wr.setCell ⟨g, 2, none⟩ (.int .i64 v)) := by
  subst hA hc hv
  obtain ⟨h1, h2, h3, h4, h5, h6, h7, h8⟩ := h
  have h0 : 0 < b.length := by
    rcases Nat.eq_zero_or_pos b.length with h0 | h0
    · rw [stepB_nil h0] at hs; cases hs
    · exact h0
  have hgc : wr.grownBy (wr.setCell ⟨g, 2, none⟩ (.int .i64 (d + (m : Int) + 1))) (some g) := only_setCell (p := ⟨g, 2, none⟩) (World.grownBy.refl wr (some g)) (.inl rfl) _
  have hset := h5.set_ 2 (.int .i64 (d + (m : Int) + 1))
  have hcut := cut_rd h2 (k := 1) (by omega) h1
  refine ⟨by rw [List.length_tail]; omega, by rw [List.length_tail, ← List.drop_one]; exact hcut, cut_ne h3, h4.trans hgc, ?_, h6.far h5 (by decide) (by decide) hgc, ?_, by rw [List.length_tail]; omega⟩
  · simp at hset
    rw [show d + ((m + 1 : Nat) : Int) = d + (m : Int) + 1 from by omega]
    exact hset
  · rw [h7, feed_drop hs]
    simp only [Prod.mk.injEq, true_and]
    omega
theorem LK.rd_app {w2 w3 : World} (h : LK w1 g K d all Ab cb qs m b V wr) (hg : wr.grownBy w2 none) (hg3 : w2.grownBy w3 V.ownBlock) : RdB w3 w3.heap.size Ab b.length b := by
  obtain ⟨h1, h2, h3, h4, h5, h6, h7, h8⟩ := h
  have hlt := (h6.kept hg).1.lt
  refine rd_keep h2 h3 (Nat.le_refl _) ?_
  have h42 := grown_two h4 hg
  refine ⟨hg3.os.trans h42.os, hg3.tape.trans h42.tape, hg3.output.trans h42.output, Nat.le_trans h42.size hg3.size, fun i hi hr => (hg3.block i (Nat.lt_of_lt_of_le hi h42.size) (fun e => ?_)).trans (h42.block i hi hr)⟩
  have := (hlt i e.symm).1
  omega
/-- the end -/
theorem LK.done {w2 : World} {A3 : Option Addr} {n3 c3 : Nat} (h : LK w1 g K d all Ab cb qs m b V wr) (ha : App (wr.alloc (.cells #[] 5)) (.slice (some ⟨wr.heap.size, 0, none⟩) 0 0) w2 (.slice A3 n3 c3)) :
    w1.grownBy w2 (some g) ∧ Blk w2 g 136 #[.bool true, K, .int .i64 (d + (m : Nat))] ∧ PkRow w2 w1.heap.size V qs := by
  have hs := h.2.2.2.1.size
  have hg : wr.grownBy w2 none := by
    have h1 := ha.1
    exact ⟨h1.os, h1.tape, h1.output, by have := h1.size; simp at this; omega, fun k hk _ => by
      rw [h1.block k (by simp; omega) (by simp [Value.ownBlock]; omega)]
      exact Below.heap_alloc wr _ k hk⟩
  have h2 := h.grown0 hg
  exact ⟨h2.2.2.2.1, h2.2.2.2.2.1, h2.2.2.2.2.2.1⟩
/-- a frame taken -/
theorem LK.taken {w2 w3 : World} {p : Pk} {k : Nat} (h : LK w1 g K d all Ab cb qs m b V wr) (hs : stepB b = .take p k) {A2 : Option Addr} {c2 : Nat} (hg : wr.grownBy w2 none) (hq : OwnB 5 w2 w1.heap.size (.slice A2 p.body.length c2) p.body)
    (hg3 : w2.grownBy w3 V.ownBlock) {V' : Value} (ho : w3.ownsRow w1.heap.size 39 5 V' (qs.length + 1) (qs.flatMap pqCells ++ pqCells (p, A2, c2))) (A' : Option Addr) (c' : Nat) (hA : A' = if cb = k then Ab else Ab.map (·.add k)) (hc : c' = cb - k) :
    LK w1 g K d all A' c' (qs ++ [(p, A2, c2)]) m (b.drop k) V' w3 := by
  subst hA hc
  obtain ⟨h1, h2, h3, h4, h5, h6, h7, h8⟩ := h
  obtain ⟨k8, kl, _, _, _, _⟩ := stepB_take hs
  have hcut := cut_rd h2 (k := k) (by omega) h1
  have h6' := h6.kept hg
  have hlt := h6'.1.lt
  have hb2 := h5.grown hg (by simp)
  have hgg : w1.grownBy w3 (some g) := by
    have h42 := grown_two h4 hg
    refine ⟨hg3.os.trans h42.os, hg3.tape.trans h42.tape, hg3.output.trans h42.output, Nat.le_trans h42.size hg3.size, fun i hi hr => (hg3.block i (Nat.lt_of_lt_of_le hi h42.size) (fun e => ?_)).trans (h42.block i hi hr)⟩
    have := (hlt i e.symm).1
    omega
  refine ⟨by rw [List.length_drop]; omega, by rw [List.length_drop]; exact hcut, cut_ne h3, hgg, hb2.grown hg3 (fun e => own_blk_ne h6'.1 hb2 (by decide) e.symm), h6'.snoc hq hg3 ho, ?_, by rw [List.length_drop, List.length_append, List.length_singleton]; omega⟩
  rw [h7, feed_take hs]
  simp
end
theorem len_draw {w : World} {B n c : Nat} {A : Option Addr} {b : List UInt8} (h : RdB w B A n b) (hn : 4 ≤ n) (k : Nat) :
    Calls Try.prog 75 #[.slice A n c] (w.drewN k) fun e w' => e = .returned (.int .i64 (lenOf b : Nat)) ∧ ∃ k', w.drewN k' = w' :=
  (length_any A n c B b (w.drewN k) (h.drewN k) hn).mono fun _ _ ⟨he, k', hw⟩ => ⟨he, k + k', by rw [hw, World.drewN_drewN]⟩
theorem len_draw0 {w : World} {B n c : Nat} {A : Option Addr} {b : List UInt8} (h : RdB w B A n b) (hn : 4 ≤ n) :
    Calls Try.prog 75 #[.slice A n c] w fun e w' => e = .returned (.int .i64 (lenOf b : Nat)) ∧ ∃ k', w.drewN k' = w' :=
  (length_any A n c B b w h hn).mono fun _ _ ⟨he, k', hw⟩ => ⟨he, k', hw.symm⟩
theorem unp_draw {w : World} {n c : Nat} {A : Option Addr} {b : List UInt8} {er : Nat} {p : Pk} (h : RdB w w.heap.size A n b) (hc : n ≤ c) (hu : unp b = (er, p)) (k : Nat) :
    Calls Try.prog 76 #[.slice A n c] (w.drewN k) (UnpPost w (er, p)) := by
  have := unp_any A n c b (w.drewN k) (h.drewN k) hc
  rw [hu] at this
  exact this.mono fun e w' ⟨A2, c2, he, ho, hb⟩ => ⟨A2, c2, he, ho, ⟨hb.os, hb.tape, hb.output, hb.size, hb.block⟩⟩
theorem feed_room {n m q a : Nat} (h : 8 * q + n + m ≤ a) (ha : a ≤ 1099511627776) : q + 1 ≤ 9223372036854775807 ∧ (q + 1) * 56 ≤ 140737488355328 ∧ m ≤ 1099511627776 ∧ n ≤ 1099511627776 := by omega
theorem feed_end {w w1 wr w2 : World} {g : Nat} {K V : Value} {d : Int} {all b : List UInt8} {Ab : Option Addr} {cb m : Nat} {qs : List (Pk × Option Addr × Nat)} {A3 : Option Addr} {c3 : Nat}
    (hsz : w.heap.size ≤ w1.heap.size) (hg2 : Grown2 w w1 g K) (h : LK w1 g K d all Ab cb qs m b V wr) (hs : stepB b = .done) (h1 : w1.grownBy w2 (some g)) (h2 : Blk w2 g 136 #[.bool true, K, .int .i64 (d + (m : Nat))]) (h3 : PkRow w2 w1.heap.size V qs)
    (ho : OwnB 5 w2 wr.heap.size (.slice A3 b.length c3) b) (hs2 : wr.heap.size ≤ w2.heap.size) : FeedPostS w g K d (feed all) (.returned V) (w2.setCell ⟨g, 1, none⟩ (.slice A3 b.length c3)) := by
  have hf := h.2.2.2.2.2.2.1
  rw [feed_done hs] at hf
  rw [hf]
  have hgc : w2.grownBy (w2.setCell ⟨g, 1, none⟩ (.slice A3 b.length c3)) (some g) := only_setCell (p := ⟨g, 1, none⟩) (World.grownBy.refl w2 (some g)) (.inl rfl) _
  have hset := h2.set_ 1 (.slice A3 b.length c3)
  have h12 := h1.trans hgc
  obtain ⟨g1, g2, g3, g4, g5⟩ := hg2
  have hs1 := h.2.2.2.1.size
  refine ⟨V, qs, .slice A3 b.length c3, wr.heap.size, rfl, by simp, (h3.far h2 (by decide) (by decide) hgc).base hsz, by simpa using hset, OwnB.far ho h2 (by decide) 1 _, by omega, by simpa using hs2, fun q hq k hk => ((h.2.2.2.2.2.1.2 q hq).lt k hk).2, h12.os.trans g1, h12.tape.trans g2, h12.output.trans g3, Nat.le_trans g4 h12.size, fun k hk hne hK => ?_⟩
  rw [h12.block k (by omega) (fun e => hne (by injection e with e)), g5 k hk hne hK]
theorem Exit.jumps_ret {J : Nat → Act → World → Prop} {Q : Exit → Act → World → Prop} {a : Act} {w : World} : Exit.jumps J Q .ret a w = Q .ret a w := rfl
def slLen : Value → Nat
  | .slice _ n _ => n
  | _ => 0
theorem drop_wrap {d : Int} {m n : Nat} (h0 : 0 ≤ d) (h1 : d ≤ 1152921504606846976) (hm : m ≤ n) (hn : n ≤ 1099511627776) : wrap64 (d + (m : Int) + 1) = d + (m : Int) + 1 := by unfold wrap64; omega
theorem info39 : (Try.prog.info? 39).map (fun i => (i.zero, i.size, i.bytes)) = some (some (.agg #[.int .i64 0, .int .u64 0, .int .u64 0, .int .u64 0, .slice none 0 0]), 5, 56) := by kernel_rfl
def FJ (w1 : World) (g : Nat) (K : Value) (d : Int) (all : List UInt8) (A : Option Addr) (nc c : Nat) (l : Nat) (a : Act) (wr : World) : Prop :=
  ∃ (Ab : Option Addr) (cb : Nat) (qs : List (Pk × Option Addr × Nat)) (m : Nat) (b : List UInt8) (V : Value) (u7 u8 u9 u10 u11 u12 u13 u14 u15 u16 u17 u18 u19 u20 u21 u22 u23 u24 u25 u26 u27 u28 u29 u30 u31 u32 u33 u34 u35 u36 u37 u38 u39 u40 u41 u42 u43 u44 u45 u46 u47 u48 u49 u50 u51 u52 u53 u54 u55 u56 u57 u58 u59 u60 u61 u62 u63 u64 u65 u66 u67 u68 u69 u70 u71 u72 u73 u74 u75 u76 u77 u78 u79 u80 u81 u82 u83 u84 u85 u86 u87 u88 u89 u90 u91 u92 u93 u94 u95 u96 u97 : Value),
    (l = 2 ∨ (l = 1 ∧ stepB b = .drop) ∨ (l = 0 ∧ stepB b = .done)) ∧ a = ⟨#[.pointer (some ⟨g, 0, none⟩), .slice A nc c, undef, undef, .slice none 0 0, .slice Ab b.length cb, V, u7, u8, u9, u10, u11, u12, u13, u14, u15, u16, u17, u18, u19, u20, u21, u22, u23, u24, u25, u26, u27, u28, u29, u30, u31, u32, u33, u34, u35, u36, u37, u38, u39, u40, u41, u42, u43, u44, u45, u46, u47, u48, u49, u50, u51, u52, u53, u54, u55, u56, u57, u58, u59, u60, u61, u62, u63, u64, u65, u66, u67, u68, u69, u70, u71, u72, u73, u74, u75, u76, u77, u78, u79, u80, u81, u82, u83, u84, u85, u86, u87, u88, u89, u90, u91, u92, u93, u94, u95, u96, u97], []⟩ ∧ LK w1 g K d all Ab cb qs m b V wr
theorem feed_start {base g cb : Nat} {K : Value} {d : Int} {all : List UInt8} {Ab : Option Addr} {w1 : World} (hown : w1.ownsRow base 5 1 (.slice Ab all.length cb) all.length (all.map bv)) (hb : Blk w1 g 136 #[.bool true, K, .int .i64 d]) (hcb : all.length ≤ cb) :
    LK w1 g K d all Ab cb [] 0 all (.slice none 0 0) w1 := by
  refine ⟨hcb, Reads.of_own hown, fun ad e he => ?_, World.grownBy.refl w1 _, by simpa using hb, PkRow.nil _ _, by simp, by simp⟩
  subst e
  exact own_blk_ne hown hb (by decide) (by simp [Value.ownBlock, he])
section
variable {b : List UInt8}
theorem stepB_head (h0 : ¬ b.length = 0) (h : b.getD 0 0 ≠ 239 ∨ (1 < b.length ∧ b.getD 1 0 ≠ 30)) : stepB b = .drop := by unfold stepB; rw [if_neg h0, if_pos h]
theorem stepB_short (h0 : ¬ b.length = 0) (h1 : b.getD 0 0 = 239) (h2 : ¬ 1 < b.length ∨ b.getD 1 0 = 30) (h4 : b.length < 4) : stepB b = .done := by
  unfold stepB
  rw [if_neg h0, if_neg (by rintro (h | ⟨h, h'⟩) <;> rcases h2 with h2 | h2 <;> first | exact h h1 | exact h2 h | exact h' h2), if_pos h4]
theorem stepB_long (h0 : ¬ b.length = 0) (h1 : b.getD 0 0 = 239) (h2 : ¬ 1 < b.length ∨ b.getD 1 0 = 30) (h4 : ¬ b.length < 4) (h5 : 1080 < lenOf b) : stepB b = .drop := by
  unfold stepB
  rw [if_neg h0, if_neg (by rintro (h | ⟨h, h'⟩) <;> rcases h2 with h2 | h2 <;> first | exact h h1 | exact h2 h | exact h' h2), if_neg h4, if_pos h5]
theorem stepB_wait (h0 : ¬ b.length = 0) (h1 : b.getD 0 0 = 239) (h2 : ¬ 1 < b.length ∨ b.getD 1 0 = 30) (h4 : ¬ b.length < 4) (h5 : ¬ 1080 < lenOf b) (h6 : b.length < lenOf b + 8) : stepB b = .done := by
  unfold stepB
  rw [if_neg h0, if_neg (by rintro (h | ⟨h, h'⟩) <;> rcases h2 with h2 | h2 <;> first | exact h h1 | exact h2 h | exact h' h2), if_neg h4, if_neg h5, if_pos h6]
theorem stepB_whole {er : Nat} {p : Pk} (h0 : ¬ b.length = 0) (h1 : b.getD 0 0 = 239) (h2 : ¬ 1 < b.length ∨ b.getD 1 0 = 30) (h4 : ¬ b.length < 4) (h5 : ¬ 1080 < lenOf b) (h6 : ¬ b.length < lenOf b + 8) (hu : unp (b.take (lenOf b + 8)) = (er, p)) :
    stepB b = if er = 0 then .take p (lenOf b + 8) else .drop := by
  unfold stepB
  rw [if_neg h0, if_neg (by rintro (h | ⟨h, h'⟩) <;> rcases h2 with h2 | h2 <;> first | exact h h1 | exact h2 h | exact h' h2), if_neg h4, if_neg h5, if_neg h6, hu]
end
def FM (l : Nat) (a : Act) (_ : World) : Nat := 3 * slLen (a.tmps.getD 5 undef) + l

set_option maxRecDepth 20000 in
set_option maxHeartbeats 4000000 in
theorem feeds_any (g base B : Nat) (K : Value) (kept : List UInt8) (d : Int) (A : Option Addr) (nc c : Nat) (chunk : List UInt8) (w : World) (hb : Blk w g 136 #[.bool true, K, .int .i64 d]) (hK : OwnB 5 w base K kept) (hbase : base ≤ w.heap.size)
    (hr : RdB w B A nc chunk) (hlen : kept.length + nc ≤ 1099511627776) (hd0 : 0 ≤ d) (hd1 : d ≤ 1152921504606846976) :
    Calls Try.prog 53 #[.pointer (some ⟨g, 0, none⟩), .slice A nc c] w (FeedPostS w g K d (feed (kept ++ chunk))) := by
  have c0 := hb.cell 0
  have c1 := hb.cell 1
  have c2 := hb.cell 2
  simp at c0 c1 c2
  have hcl := hr.len1
  have HB := Lib.hid hb
  have HK := Lib.hid hK
  have HR := Lib.hid hr
  have HCL := Lib.hid hcl
  have HALL : Hid ((kept ++ chunk).length ≤ 1099511627776) := Lib.hid (by rw [List.length_append]; omega)
  have HAP : Hid (kept.length + chunk.length ≤ 140737488355328) := Lib.hid (by omega)
  clear hb hK hr hcl hlen
  go_enter Try.func53, Try.ntmps53
  go_wp2
  obtain ⟨all, HAL⟩ : ∃ all, Hid (kept ++ chunk = all) := ⟨_, rfl⟩
  rw [HAL.out] at HALL
  have HPOST : Hid (∀ e w', FeedPostS w g K d (feed all) e w' → FeedPostS w g K d (feed (kept ++ chunk)) e w') := Lib.hid fun e w' h => by rw [HAL.out]; exact h
  refine wp_scope_labels (fun l a' w' => ∃ w1 : World, FJ w1 g K d all A nc c l a' w' ∧ w.heap.size ≤ w1.heap.size ∧ Grown2 w w1 g K) FM ?_ ?_
  · go_wp2_with (at_builtin; refine wpList_app rfl _ _ _ rfl base 5 info5 Try.underlying37 K kept rfl HK.out B A nc c chunk rfl HR.out HAP.out hbase ?_; intro v' w1 hown happ)
    obtain ⟨Ab, cb, rfl, hcb, hcm⟩ := OwnB.form hown
    rw [HAL.out] at hown hcb ⊢
    have hnb := own_blk_ne HK.out HB.out (by decide)
    have hblk1 : Blk w1 g 136 #[.bool true, K, .int .i64 d] := happ.blk HB.out hnb
    have HSZ := Lib.hid happ.1.size
    have HG2 : Hid (Grown2 w w1 g K) := Lib.hid ⟨happ.1.os, happ.1.tape, happ.1.output, happ.1.size, fun k hk _ hne => happ.1.block k hk (fun e => hne e.symm)⟩
    obtain ⟨qs, m, b, hLK, hbe⟩ : ∃ qs m b, LK w1 g K d all Ab cb qs m b (.slice none 0 0) w1 ∧ all.length = b.length :=
      ⟨[], 0, all, feed_start hown hblk1 hcb, rfl⟩
    rw [hbe]
    clear hown happ hnb hblk1 hcb hcm c0 c1 c2 hbe
    go_step3
    have hrd := hLK.rd
    have hbl := hLK.2.2.2.2.2.2.2
    have hbc := hLK.1
    have hblk := hLK.2.2.2.2.1
    have HLK := Lib.hid hLK
    clear hLK
    by_cases h0 : b.length = 0
    · have HS := Lib.hid (stepB_nil h0)
      have e0 : ((b.length : Int) == 0) = true := by rw [beq_iff_eq]; omega
      clear h0 hblk hrd
      go_wp2_with fail
      go_step3
      exact ⟨w1, ⟨_, _, _, _, _, _, _, _, _, _, _, _, _, _, _, _, _, _, _, _, _, _, _, _, _, _, _, _, _, _, _, _, _, _, _, _, _, _, _, _, _, _, _, _, _, _, _, _, _, _, _, _, _, _, _, _, _, _, _, _, _, _, _, _, _, _, _, _, _, _, _, _, _, _, _, _, _, _, _, _, _, _, _, _, _, _, _, _, _, _, _, _, _, _, _, _, _, .inr (.inr ⟨rfl, HS.out⟩), rfl, HLK.out⟩, HSZ.out, HG2.out⟩
    · have e0 : ((b.length : Int) == 0) = false := by rw [beq_eq_false_iff_ne]; omega
      have HPOS : Hid (0 < b.length) := Lib.hid (by omega)
      have hi0 : 0 < b.length := by omega
      have H0 := Lib.hid h0
      clear h0
      obtain ⟨bk, off, rfl, k0⟩ := byte_getD hrd (k := 0) (by have := HPOS.out; omega)
      by_cases h1 : b.getD 0 0 = 239
      · rw [h1] at k0
        have q0 : w1.cell? ⟨bk, off, none⟩ = some (.int .u8 239) := by simpa using k0
        clear k0
        by_cases h2 : 1 < b.length
        · have d2 : decide ((1 : Int) < (b.length : Int)) = true := by simp; omega
          have hi1 : (1 : Int) < (b.length : Int) := by omega
          obtain ⟨bk', off', e', k1⟩ := byte_getD hrd (k := 1) h2
          injection e' with e'
          injection e' with e1 e2
          subst e1 e2
          by_cases h3 : b.getD 1 0 = 30
          · rw [h3] at k1
            have q1 : w1.cell? ⟨bk, off + 1, none⟩ = some (.int .u8 30) := by simpa using k1
            clear k1
            by_cases h4 : b.length < 4
            · have d4 : decide ((b.length : Int) < 4) = true := by simp; omega
              have HS : Hid (stepB b = .done) := Lib.hid (stepB_short H0.out h1 (.inr h3) h4)
              clear h1 h2 h3 h4 hblk hrd
              go_wp2_with fail
              go_step3
              exact ⟨w1, ⟨_, _, _, _, _, _, _, _, _, _, _, _, _, _, _, _, _, _, _, _, _, _, _, _, _, _, _, _, _, _, _, _, _, _, _, _, _, _, _, _, _, _, _, _, _, _, _, _, _, _, _, _, _, _, _, _, _, _, _, _, _, _, _, _, _, _, _, _, _, _, _, _, _, _, _, _, _, _, _, _, _, _, _, _, _, _, _, _, _, _, _, _, _, _, _, _, _, .inr (.inr ⟨rfl, HS.out⟩), rfl, HLK.out⟩, HSZ.out, HG2.out⟩
            · have d4 : decide ((b.length : Int) < 4) = false := by simp; omega
              have HL0 := Lib.hid (len_draw0 (c := cb) hrd (by omega : 4 ≤ b.length))
              have HL := Lib.hid fun k => len_draw (c := cb) hrd (by omega : 4 ≤ b.length) k
              have hL := lenOf_lt b
              by_cases h5 : 1080 < lenOf b
              · have d5 : decide ((1080 : Int) < (lenOf b : Int)) = true := by simp; omega
                have HS : Hid (stepB b = .drop) := Lib.hid (stepB_long H0.out h1 (.inr h3) h4 h5)
                clear h1 h2 h3 h4 h5 hblk hrd
                go_wp2_with fail
                refine HL0.out.mono ?_
                rintro e wx ⟨rfl, kx, rfl⟩
                have HLK := Lib.hid (HLK.out.drewN kx)
                go_wp2_with fail
                go_step3
                exact ⟨w1, ⟨_, _, _, _, _, _, _, _, _, _, _, _, _, _, _, _, _, _, _, _, _, _, _, _, _, _, _, _, _, _, _, _, _, _, _, _, _, _, _, _, _, _, _, _, _, _, _, _, _, _, _, _, _, _, _, _, _, _, _, _, _, _, _, _, _, _, _, _, _, _, _, _, _, _, _, _, _, _, _, _, _, _, _, _, _, _, _, _, _, _, _, _, _, _, _, _, _, .inr (.inl ⟨rfl, HS.out⟩), rfl, HLK.out⟩, HSZ.out, HG2.out⟩
              · have d5 : decide ((1080 : Int) < (lenOf b : Int)) = false := by simp; omega
                by_cases h6 : b.length < lenOf b + 8
                · have d6 : decide ((b.length : Int) < (lenOf b : Int) + 4 + 4) = true := by simp; omega
                  have HS : Hid (stepB b = .done) := Lib.hid (stepB_wait H0.out h1 (.inr h3) h4 h5 h6)
                  clear h1 h2 h3 h4 h5 h6 hblk hrd
                  go_wp2_with fail
                  refine HL0.out.mono ?_
                  rintro e wx ⟨rfl, kx, rfl⟩
                  go_wp2_with fail
                  refine (HL.out kx).mono ?_
                  rintro e wx ⟨rfl, ky, rfl⟩
                  have HLK := Lib.hid (HLK.out.drewN ky)
                  go_wp2_with fail
                  go_step3
                  exact ⟨w1, ⟨_, _, _, _, _, _, _, _, _, _, _, _, _, _, _, _, _, _, _, _, _, _, _, _, _, _, _, _, _, _, _, _, _, _, _, _, _, _, _, _, _, _, _, _, _, _, _, _, _, _, _, _, _, _, _, _, _, _, _, _, _, _, _, _, _, _, _, _, _, _, _, _, _, _, _, _, _, _, _, _, _, _, _, _, _, _, _, _, _, _, _, _, _, _, _, _, _, .inr (.inr ⟨rfl, HS.out⟩), rfl, HLK.out⟩, HSZ.out, HG2.out⟩
                · have d6 : decide ((b.length : Int) < (lenOf b : Int) + 4 + 4) = false := by simp; omega
                  obtain ⟨⟨er, p⟩, hu⟩ : ∃ r, unp (b.take (lenOf b + 8)) = r := ⟨_, rfl⟩
                  have HU := Lib.hid fun k => unp_draw (c := cb) (hrd.first (by omega : lenOf b + 8 ≤ b.length)) (by omega) hu k
                  have HS := Lib.hid (stepB_whole H0.out h1 (.inr h3) h4 h5 h6 hu)
                  have HB6 := Lib.hid (by omega : lenOf b + 8 ≤ b.length)
                  have HBC := Lib.hid hbc
                  have l6 : (0 : Int) ≤ (lenOf b : Int) + 4 + 4 := by omega
                  have l7 : (lenOf b : Int) + 4 + 4 ≤ (cb : Int) := by omega
                  have l9 : (lenOf b : Int) + 4 + 4 ≤ (b.length : Int) := by omega
                  have l8 : ((lenOf b : Int) + 4 + 4).toNat = lenOf b + 8 := by omega
                  clear h1 h2 h3 h4 h5 h6 hblk hu hbc
                  generalize hLb : lenOf b = L at *
                  have HLB := Lib.hid hLb
                  clear hLb
                  go_wp2_with fail
                  refine HL0.out.mono ?_
                  rintro e wx ⟨rfl, kx, rfl⟩
                  go_wp2_with fail
                  refine (HL.out kx).mono ?_
                  rintro e wx ⟨rfl, ky, rfl⟩
                  go_wp2_with fail
                  refine (HL.out ky).mono ?_
                  rintro e wx ⟨rfl, kz, rfl⟩
                  go_wp2_with fail
                  refine (HU.out kz).mono ?_
                  rintro e w2 ⟨A2, c2, rfl, ho2, hb2⟩
                  dsimp only at ho2 ⊢
                  have HS0 := HS
                  go_upto_region 11 with fail
                  have hbx := Blk.new w2 39 #[.int .i64 p.kind, .int .u64 p.tok, .int .u64 p.seq, .int .u64 p.ack, .slice A2 p.body.length c2]
                  have hgx : w1.grownBy (w2.alloc (.cells #[.int .i64 p.kind, .int .u64 p.tok, .int .u64 p.seq, .int .u64 p.ack, .slice A2 p.body.length c2] 39)) none := only_alloc (only_of_below hb2 none) _
                  have ho3 := World.ownsRow.alloc ho2 (.cells #[.int .i64 p.kind, .int .u64 p.tok, .int .u64 p.seq, .int .u64 p.ack, .slice A2 p.body.length c2] 39)
                  have HLKd := Lib.hid (HLK.out.grown0 hgx)
                  generalize w2.alloc (.cells #[.int .i64 p.kind, .int .u64 p.tok, .int .u64 p.seq, .int .u64 p.ack, .slice A2 p.body.length c2] 39) = w3 at hbx hgx ho3 HLKd ⊢
                  generalize w2.heap.size = gx at hbx ⊢
                  clear ho2 hb2 w2 HU HL HL0
                  by_cases he : er = 0
                  · subst he
                    have HST : Hid (stepB b = .take p (L + 8)) := Lib.hid (by have := HS.out; rwa [if_pos rfl] at this)
                    clear HS HS0
                    have x0 := hbx.cell 0
                    have x1 := hbx.cell 1
                    have x2 := hbx.cell 2
                    have x3 := hbx.cell 3
                    have x4 := hbx.cell 4
                    simp at x0 x1 x2 x3 x4
                    have hpk := (World.ownsRow.alloc HLKd.out.2.2.2.2.2.1.1 (.cells #[.int .i64 p.kind, .int .u64 p.tok, .int .u64 p.seq, .int .u64 p.ack, .slice A2 p.body.length c2] 39))
                    have hr5 := Reads.ofBlk (size := 5) (n := 1) (cs := [.int .i64 p.kind, .int .u64 p.tok, .int .u64 p.seq, .int .u64 p.ack, .slice A2 p.body.length c2]) (Blk.new w3 39 #[.int .i64 p.kind, .int .u64 p.tok, .int .u64 p.seq, .int .u64 p.ack, .slice A2 p.body.length c2]) rfl
                    have HRM := Lib.hid (feed_room HLKd.out.2.2.2.2.2.2.2 HALL.out)
                    have hs13 := HLKd.out.2.2.2.1.size
                    have hbs : w1.heap.size ≤ (w3.alloc (.cells #[.int .i64 p.kind, .int .u64 p.tok, .int .u64 p.seq, .int .u64 p.ack, .slice A2 p.body.length c2] 39)).heap.size := by simp; omega
                    have HOQ := Lib.hid (own_base (World.ownsRow.alloc ho3 (.cells #[.int .i64 p.kind, .int .u64 p.tok, .int .u64 p.seq, .int .u64 p.ack, .slice A2 p.body.length c2] 39)) (HLK.out.2.2.2.1.size))
                    clear hbx ho3 hs13
                    go_wp2_with (at_builtin; refine wpList_appE rfl _ _ _ rfl w1.heap.size 39 _ 5 56 info39 Try.underlying119 rfl (by decide) _ _ _ rfl hpk _ _ _ _ _ rfl hr5 (by simp [Value.oneCell']) (by have := HRM.out.1; simp only [maxLen]; omega) (by have := HRM.out.2.1; omega) hbs ?_; intro V2 w5 hown5 hg5; obtain ⟨A5, c5, rfl⟩ := own_form hown5)
                    have hg35 := (World.grownBy_alloc w3 (.cells #[.int .i64 p.kind, .int .u64 p.tok, .int .u64 p.seq, .int .u64 p.ack, .slice A2 p.body.length c2] 39) none)
                    have HTK := Lib.hid fun A' c' hA hc => HLK.out.taken HST.out (grown_two hgx hg35) HOQ.out hg5 hown5 A' c' hA hc
                    have hrd5 := HLK.out.rd_app (grown_two hgx hg35) hg5
                    have HL5 := Lib.hid (len_draw0 (c := cb) hrd5 (by have := HB6.out; omega : 4 ≤ b.length))
                    rw [HLB.out] at HL5
                    clear hrd5 hown5 hg5 hg35 hgx hpk hr5 x0 x1 x2 x3 x4 hbs q0 q1 HLKd HLK HOQ
                    go_wp2_with fail
                    refine HL5.out.mono ?_
                    rintro e w6 ⟨rfl, kw, rfl⟩
                    by_cases hcb : cb = L + 8
                    · subst hcb
                      have HD := Lib.hid ((HTK.out _ 0 (by rw [if_pos rfl]) (by omega)).drewN kw)
                      clear HTK HL5
                      go_wp2_with fail
                      rw [show b.length - (L + 8) = (b.drop (L + 8)).length from (List.length_drop ..).symm]
                      go_step3
                      exact ⟨w1, ⟨_, _, _, _, _, _, _, _, _, _, _, _, _, _, _, _, _, _, _, _, _, _, _, _, _, _, _, _, _, _, _, _, _, _, _, _, _, _, _, _, _, _, _, _, _, _, _, _, _, _, _, _, _, _, _, _, _, _, _, _, _, _, _, _, _, _, _, _, _, _, _, _, _, _, _, _, _, _, _, _, _, _, _, _, _, _, _, _, _, _, _, _, _, _, _, _, _, .inl rfl, rfl, HD.out⟩, HSZ.out, HG2.out⟩
                    · have HD := Lib.hid ((HTK.out _ (cb - (L + 8)) (by rw [if_neg hcb]) rfl).drewN kw)
                      clear HTK HL5
                      go_wp2_with fail
                      rw [show b.length - (L + 8) = (b.drop (L + 8)).length from (List.length_drop ..).symm]
                      go_step3
                      exact ⟨w1, ⟨_, _, _, _, _, _, _, _, _, _, _, _, _, _, _, _, _, _, _, _, _, _, _, _, _, _, _, _, _, _, _, _, _, _, _, _, _, _, _, _, _, _, _, _, _, _, _, _, _, _, _, _, _, _, _, _, _, _, _, _, _, _, _, _, _, _, _, _, _, _, _, _, _, _, _, _, _, _, _, _, _, _, _, _, _, _, _, _, _, _, _, _, _, _, _, _, _, .inl rfl, rfl, HD.out⟩, HSZ.out, HG2.out⟩
                  · have t3 : ((er : Int) == 0) = false := by rw [beq_eq_false_iff_ne]; omega
                    have HS : Hid (stepB b = .drop) := Lib.hid (by have := HS0.out; rwa [if_neg he] at this)
                    have hcb : ¬ cb = 1 := by omega
                    clear HS0 he hbx hgx ho3
                    go_wp2_with fail
                    go_step3
                    have hblk2 := HLKd.out.2.2.2.2.1
                    have g2 := hblk2.cell 2
                    have gf2 := hblk2.frozen 2
                    simp at g2
                    have l1 : wrap64 (d + (m : Int) + 1) = d + (m : Int) + 1 := drop_wrap hd0 hd1 (feed_room HLKd.out.2.2.2.2.2.2.2 HALL.out).2.2.1 (Nat.le_refl _)
                    clear hblk2
                    have HD := Lib.hid (HLKd.out.dropped HS.out _ (cb - 1) _ (by rw [if_neg hcb]) rfl rfl)
                    go_wp2_with fail
                    rw [show b.length - 1 = b.tail.length from (List.length_tail ..).symm]
                    go_step3
                    exact ⟨w1, ⟨_, _, _, _, _, _, _, _, _, _, _, _, _, _, _, _, _, _, _, _, _, _, _, _, _, _, _, _, _, _, _, _, _, _, _, _, _, _, _, _, _, _, _, _, _, _, _, _, _, _, _, _, _, _, _, _, _, _, _, _, _, _, _, _, _, _, _, _, _, _, _, _, _, _, _, _, _, _, _, _, _, _, _, _, _, _, _, _, _, _, _, _, _, _, _, _, _, .inl rfl, rfl, HD.out⟩, HSZ.out, HG2.out⟩
          · have t1 : (((b.getD 1 0).toNat : Int) == 30) = false := getD_ne h3
            have HS : Hid (stepB b = .drop) := Lib.hid (stepB_head H0.out (.inr ⟨h2, h3⟩))
            clear h1 h2 h3 hblk hrd
            have t2 : (((b.getD 1 0).toNat : Int) != 30) = true := by rw [bne, t1]; rfl
            generalize b.getD 1 0 = x1 at k1 t1 t2
            go_wp2_with fail
            go_step3
            exact ⟨w1, ⟨_, _, _, _, _, _, _, _, _, _, _, _, _, _, _, _, _, _, _, _, _, _, _, _, _, _, _, _, _, _, _, _, _, _, _, _, _, _, _, _, _, _, _, _, _, _, _, _, _, _, _, _, _, _, _, _, _, _, _, _, _, _, _, _, _, _, _, _, _, _, _, _, _, _, _, _, _, _, _, _, _, _, _, _, _, _, _, _, _, _, _, _, _, _, _, _, _, .inr (.inl ⟨rfl, HS.out⟩), rfl, HLK.out⟩, HSZ.out, HG2.out⟩
        · have d2 : decide ((1 : Int) < (b.length : Int)) = false := by simp; omega
          have d4 : decide ((b.length : Int) < 4) = true := by simp; omega
          have HS : Hid (stepB b = .done) := Lib.hid (stepB_short H0.out h1 (.inl h2) (by omega))
          clear h1 h2 hblk hrd
          go_wp2_with fail
          go_step3
          exact ⟨w1, ⟨_, _, _, _, _, _, _, _, _, _, _, _, _, _, _, _, _, _, _, _, _, _, _, _, _, _, _, _, _, _, _, _, _, _, _, _, _, _, _, _, _, _, _, _, _, _, _, _, _, _, _, _, _, _, _, _, _, _, _, _, _, _, _, _, _, _, _, _, _, _, _, _, _, _, _, _, _, _, _, _, _, _, _, _, _, _, _, _, _, _, _, _, _, _, _, _, _, .inr (.inr ⟨rfl, HS.out⟩), rfl, HLK.out⟩, HSZ.out, HG2.out⟩
      · have t0 : (((b.getD 0 0).toNat : Int) == 239) = false := getD_ne h1
        have q0 : w1.cell? ⟨bk, off, none⟩ = some (.int .u8 ((b.getD 0 0).toNat : Int)) := by simpa using k0
        have HS : Hid (stepB b = .drop) := Lib.hid (stepB_head H0.out (.inl h1))
        have t2 : (((b.getD 0 0).toNat : Int) != 239) = true := by rw [bne, t0]; rfl
        clear h1 hblk hrd k0
        generalize b.getD 0 0 = x1 at q0 t0 t2
        go_wp2_with fail
        go_step3
        exact ⟨w1, ⟨_, _, _, _, _, _, _, _, _, _, _, _, _, _, _, _, _, _, _, _, _, _, _, _, _, _, _, _, _, _, _, _, _, _, _, _, _, _, _, _, _, _, _, _, _, _, _, _, _, _, _, _, _, _, _, _, _, _, _, _, _, _, _, _, _, _, _, _, _, _, _, _, _, _, _, _, _, _, _, _, _, _, _, _, _, _, _, _, _, _, _, _, _, _, _, _, _, .inr (.inl ⟨rfl, HS.out⟩), rfl, HLK.out⟩, HSZ.out, HG2.out⟩
  · rintro l a wr ⟨w1, hJ, hsz, hg2⟩
    have HSZ := Lib.hid hsz
    have HG2 := Lib.hid hg2
    clear hsz hg2 c0 c1 c2
    obtain ⟨Ab, hJ⟩ := hJ
    obtain ⟨cb, hJ⟩ := hJ
    obtain ⟨qs, hJ⟩ := hJ
    obtain ⟨m, hJ⟩ := hJ
    obtain ⟨b, hJ⟩ := hJ
    obtain ⟨V, hJ⟩ := hJ
    obtain ⟨u7, hJ⟩ := hJ
    obtain ⟨u8, hJ⟩ := hJ
    obtain ⟨u9, hJ⟩ := hJ
    obtain ⟨u10, hJ⟩ := hJ
    obtain ⟨u11, hJ⟩ := hJ
    obtain ⟨u12, hJ⟩ := hJ
    obtain ⟨u13, hJ⟩ := hJ
    obtain ⟨u14, hJ⟩ := hJ
    obtain ⟨u15, hJ⟩ := hJ
    obtain ⟨u16, hJ⟩ := hJ
    obtain ⟨u17, hJ⟩ := hJ
    obtain ⟨u18, hJ⟩ := hJ
    obtain ⟨u19, hJ⟩ := hJ
    obtain ⟨u20, hJ⟩ := hJ
    obtain ⟨u21, hJ⟩ := hJ
    obtain ⟨u22, hJ⟩ := hJ
    obtain ⟨u23, hJ⟩ := hJ
    obtain ⟨u24, hJ⟩ := hJ
    obtain ⟨u25, hJ⟩ := hJ
    obtain ⟨u26, hJ⟩ := hJ
    obtain ⟨u27, hJ⟩ := hJ
    obtain ⟨u28, hJ⟩ := hJ
    obtain ⟨u29, hJ⟩ := hJ
    obtain ⟨u30, hJ⟩ := hJ
    obtain ⟨u31, hJ⟩ := hJ
    obtain ⟨u32, hJ⟩ := hJ
    obtain ⟨u33, hJ⟩ := hJ
    obtain ⟨u34, hJ⟩ := hJ
    obtain ⟨u35, hJ⟩ := hJ
    obtain ⟨u36, hJ⟩ := hJ
    obtain ⟨u37, hJ⟩ := hJ
    obtain ⟨u38, hJ⟩ := hJ
    obtain ⟨u39, hJ⟩ := hJ
    obtain ⟨u40, hJ⟩ := hJ
    obtain ⟨u41, hJ⟩ := hJ
    obtain ⟨u42, hJ⟩ := hJ
    obtain ⟨u43, hJ⟩ := hJ
    obtain ⟨u44, hJ⟩ := hJ
    obtain ⟨u45, hJ⟩ := hJ
    obtain ⟨u46, hJ⟩ := hJ
    obtain ⟨u47, hJ⟩ := hJ
    obtain ⟨u48, hJ⟩ := hJ
    obtain ⟨u49, hJ⟩ := hJ
    obtain ⟨u50, hJ⟩ := hJ
    obtain ⟨u51, hJ⟩ := hJ
    obtain ⟨u52, hJ⟩ := hJ
    obtain ⟨u53, hJ⟩ := hJ
    obtain ⟨u54, hJ⟩ := hJ
    obtain ⟨u55, hJ⟩ := hJ
    obtain ⟨u56, hJ⟩ := hJ
    obtain ⟨u57, hJ⟩ := hJ
    obtain ⟨u58, hJ⟩ := hJ
    obtain ⟨u59, hJ⟩ := hJ
    obtain ⟨u60, hJ⟩ := hJ
    obtain ⟨u61, hJ⟩ := hJ
    obtain ⟨u62, hJ⟩ := hJ
    obtain ⟨u63, hJ⟩ := hJ
    obtain ⟨u64, hJ⟩ := hJ
    obtain ⟨u65, hJ⟩ := hJ
    obtain ⟨u66, hJ⟩ := hJ
    obtain ⟨u67, hJ⟩ := hJ
    obtain ⟨u68, hJ⟩ := hJ
    obtain ⟨u69, hJ⟩ := hJ
    obtain ⟨u70, hJ⟩ := hJ
    obtain ⟨u71, hJ⟩ := hJ
    obtain ⟨u72, hJ⟩ := hJ
    obtain ⟨u73, hJ⟩ := hJ
    obtain ⟨u74, hJ⟩ := hJ
    obtain ⟨u75, hJ⟩ := hJ
    obtain ⟨u76, hJ⟩ := hJ
    obtain ⟨u77, hJ⟩ := hJ
    obtain ⟨u78, hJ⟩ := hJ
    obtain ⟨u79, hJ⟩ := hJ
    obtain ⟨u80, hJ⟩ := hJ
    obtain ⟨u81, hJ⟩ := hJ
    obtain ⟨u82, hJ⟩ := hJ
    obtain ⟨u83, hJ⟩ := hJ
    obtain ⟨u84, hJ⟩ := hJ
    obtain ⟨u85, hJ⟩ := hJ
    obtain ⟨u86, hJ⟩ := hJ
    obtain ⟨u87, hJ⟩ := hJ
    obtain ⟨u88, hJ⟩ := hJ
    obtain ⟨u89, hJ⟩ := hJ
    obtain ⟨u90, hJ⟩ := hJ
    obtain ⟨u91, hJ⟩ := hJ
    obtain ⟨u92, hJ⟩ := hJ
    obtain ⟨u93, hJ⟩ := hJ
    obtain ⟨u94, hJ⟩ := hJ
    obtain ⟨u95, hJ⟩ := hJ
    obtain ⟨u96, hJ⟩ := hJ
    obtain ⟨u97, hJ⟩ := hJ
    obtain ⟨hl, rfl, hLK⟩ := hJ
    rcases hl with rfl | ⟨rfl, hs⟩ | ⟨rfl, hs⟩
    · refine ⟨_, rfl, ?_⟩
      have hrd := hLK.rd
      have hbl := hLK.2.2.2.2.2.2.2
      have hbc := hLK.1
      have hblk := hLK.2.2.2.2.1
      have HLK := Lib.hid hLK
      clear hLK
      by_cases h0 : b.length = 0
      · have HS := Lib.hid (stepB_nil h0)
        have e0 : ((b.length : Int) == 0) = true := by rw [beq_iff_eq]; omega
        clear h0 hblk hrd
        go_wp2_with fail
        go_step3
        exact ⟨⟨w1, ⟨_, _, _, _, _, _, _, _, _, _, _, _, _, _, _, _, _, _, _, _, _, _, _, _, _, _, _, _, _, _, _, _, _, _, _, _, _, _, _, _, _, _, _, _, _, _, _, _, _, _, _, _, _, _, _, _, _, _, _, _, _, _, _, _, _, _, _, _, _, _, _, _, _, _, _, _, _, _, _, _, _, _, _, _, _, _, _, _, _, _, _, _, _, _, _, _, _, .inr (.inr ⟨rfl, HS.out⟩), rfl, HLK.out⟩, HSZ.out, HG2.out⟩, by show 3 * b.length + 0 < 3 * b.length + 2; omega⟩
      · have e0 : ((b.length : Int) == 0) = false := by rw [beq_eq_false_iff_ne]; omega
        have HPOS : Hid (0 < b.length) := Lib.hid (by omega)
        have hi0 : 0 < b.length := by omega
        have H0 := Lib.hid h0
        clear h0
        obtain ⟨bk, off, rfl, k0⟩ := byte_getD hrd (k := 0) (by have := HPOS.out; omega)
        by_cases h1 : b.getD 0 0 = 239
        · rw [h1] at k0
          have q0 : wr.cell? ⟨bk, off, none⟩ = some (.int .u8 239) := by simpa using k0
          clear k0
          by_cases h2 : 1 < b.length
          · have d2 : decide ((1 : Int) < (b.length : Int)) = true := by simp; omega
            have hi1 : (1 : Int) < (b.length : Int) := by omega
            obtain ⟨bk', off', e', k1⟩ := byte_getD hrd (k := 1) h2
            injection e' with e'
            injection e' with e1 e2
            subst e1 e2
            by_cases h3 : b.getD 1 0 = 30
            · rw [h3] at k1
              have q1 : wr.cell? ⟨bk, off + 1, none⟩ = some (.int .u8 30) := by simpa using k1
              clear k1
              by_cases h4 : b.length < 4
              · have d4 : decide ((b.length : Int) < 4) = true := by simp; omega
                have HS : Hid (stepB b = .done) := Lib.hid (stepB_short H0.out h1 (.inr h3) h4)
                clear h1 h2 h3 h4 hblk hrd
                go_wp2_with fail
                go_step3
                exact ⟨⟨w1, ⟨_, _, _, _, _, _, _, _, _, _, _, _, _, _, _, _, _, _, _, _, _, _, _, _, _, _, _, _, _, _, _, _, _, _, _, _, _, _, _, _, _, _, _, _, _, _, _, _, _, _, _, _, _, _, _, _, _, _, _, _, _, _, _, _, _, _, _, _, _, _, _, _, _, _, _, _, _, _, _, _, _, _, _, _, _, _, _, _, _, _, _, _, _, _, _, _, _, .inr (.inr ⟨rfl, HS.out⟩), rfl, HLK.out⟩, HSZ.out, HG2.out⟩, by show 3 * b.length + 0 < 3 * b.length + 2; omega⟩
              · have d4 : decide ((b.length : Int) < 4) = false := by simp; omega
                have HL0 := Lib.hid (len_draw0 (c := cb) hrd (by omega : 4 ≤ b.length))
                have HL := Lib.hid fun k => len_draw (c := cb) hrd (by omega : 4 ≤ b.length) k
                have hL := lenOf_lt b
                by_cases h5 : 1080 < lenOf b
                · have d5 : decide ((1080 : Int) < (lenOf b : Int)) = true := by simp; omega
                  have HS : Hid (stepB b = .drop) := Lib.hid (stepB_long H0.out h1 (.inr h3) h4 h5)
                  clear h1 h2 h3 h4 h5 hblk hrd
                  go_wp2_with fail
                  refine HL0.out.mono ?_
                  rintro e wx ⟨rfl, kx, rfl⟩
                  have HLK := Lib.hid (HLK.out.drewN kx)
                  go_wp2_with fail
                  go_step3
                  exact ⟨⟨w1, ⟨_, _, _, _, _, _, _, _, _, _, _, _, _, _, _, _, _, _, _, _, _, _, _, _, _, _, _, _, _, _, _, _, _, _, _, _, _, _, _, _, _, _, _, _, _, _, _, _, _, _, _, _, _, _, _, _, _, _, _, _, _, _, _, _, _, _, _, _, _, _, _, _, _, _, _, _, _, _, _, _, _, _, _, _, _, _, _, _, _, _, _, _, _, _, _, _, _, .inr (.inl ⟨rfl, HS.out⟩), rfl, HLK.out⟩, HSZ.out, HG2.out⟩, by show 3 * b.length + 1 < 3 * b.length + 2; omega⟩
                · have d5 : decide ((1080 : Int) < (lenOf b : Int)) = false := by simp; omega
                  by_cases h6 : b.length < lenOf b + 8
                  · have d6 : decide ((b.length : Int) < (lenOf b : Int) + 4 + 4) = true := by simp; omega
                    have HS : Hid (stepB b = .done) := Lib.hid (stepB_wait H0.out h1 (.inr h3) h4 h5 h6)
                    clear h1 h2 h3 h4 h5 h6 hblk hrd
                    go_wp2_with fail
                    refine HL0.out.mono ?_
                    rintro e wx ⟨rfl, kx, rfl⟩
                    go_wp2_with fail
                    refine (HL.out kx).mono ?_
                    rintro e wx ⟨rfl, ky, rfl⟩
                    have HLK := Lib.hid (HLK.out.drewN ky)
                    go_wp2_with fail
                    go_step3
                    exact ⟨⟨w1, ⟨_, _, _, _, _, _, _, _, _, _, _, _, _, _, _, _, _, _, _, _, _, _, _, _, _, _, _, _, _, _, _, _, _, _, _, _, _, _, _, _, _, _, _, _, _, _, _, _, _, _, _, _, _, _, _, _, _, _, _, _, _, _, _, _, _, _, _, _, _, _, _, _, _, _, _, _, _, _, _, _, _, _, _, _, _, _, _, _, _, _, _, _, _, _, _, _, _, .inr (.inr ⟨rfl, HS.out⟩), rfl, HLK.out⟩, HSZ.out, HG2.out⟩, by show 3 * b.length + 0 < 3 * b.length + 2; omega⟩
                  · have d6 : decide ((b.length : Int) < (lenOf b : Int) + 4 + 4) = false := by simp; omega
                    obtain ⟨⟨er, p⟩, hu⟩ : ∃ r, unp (b.take (lenOf b + 8)) = r := ⟨_, rfl⟩
                    have HU := Lib.hid fun k => unp_draw (c := cb) (hrd.first (by omega : lenOf b + 8 ≤ b.length)) (by omega) hu k
                    have HS := Lib.hid (stepB_whole H0.out h1 (.inr h3) h4 h5 h6 hu)
                    have HB6 := Lib.hid (by omega : lenOf b + 8 ≤ b.length)
                    have HBC := Lib.hid hbc
                    have l6 : (0 : Int) ≤ (lenOf b : Int) + 4 + 4 := by omega
                    have l7 : (lenOf b : Int) + 4 + 4 ≤ (cb : Int) := by omega
                    have l9 : (lenOf b : Int) + 4 + 4 ≤ (b.length : Int) := by omega
                    have l8 : ((lenOf b : Int) + 4 + 4).toNat = lenOf b + 8 := by omega
                    clear h1 h2 h3 h4 h5 h6 hblk hu hbc
                    generalize hLb : lenOf b = L at *
                    have HLB := Lib.hid hLb
                    clear hLb
                    go_wp2_with fail
                    refine HL0.out.mono ?_
                    rintro e wx ⟨rfl, kx, rfl⟩
                    go_wp2_with fail
                    refine (HL.out kx).mono ?_
                    rintro e wx ⟨rfl, ky, rfl⟩
                    go_wp2_with fail
                    refine (HL.out ky).mono ?_
                    rintro e wx ⟨rfl, kz, rfl⟩
                    go_wp2_with fail
                    refine (HU.out kz).mono ?_
                    rintro e w2 ⟨A2, c2, rfl, ho2, hb2⟩
                    dsimp only at ho2 ⊢
                    have HS0 := HS
                    go_upto_region 11 with fail
                    have hbx := Blk.new w2 39 #[.int .i64 p.kind, .int .u64 p.tok, .int .u64 p.seq, .int .u64 p.ack, .slice A2 p.body.length c2]
                    have hgx : wr.grownBy (w2.alloc (.cells #[.int .i64 p.kind, .int .u64 p.tok, .int .u64 p.seq, .int .u64 p.ack, .slice A2 p.body.length c2] 39)) none := only_alloc (only_of_below hb2 none) _
                    have ho3 := World.ownsRow.alloc ho2 (.cells #[.int .i64 p.kind, .int .u64 p.tok, .int .u64 p.seq, .int .u64 p.ack, .slice A2 p.body.length c2] 39)
                    have HLKd := Lib.hid (HLK.out.grown0 hgx)
                    generalize w2.alloc (.cells #[.int .i64 p.kind, .int .u64 p.tok, .int .u64 p.seq, .int .u64 p.ack, .slice A2 p.body.length c2] 39) = w3 at hbx hgx ho3 HLKd ⊢
                    generalize w2.heap.size = gx at hbx ⊢
                    clear ho2 hb2 w2 HU HL HL0
                    by_cases he : er = 0
                    · subst he
                      have HST : Hid (stepB b = .take p (L + 8)) := Lib.hid (by have := HS.out; rwa [if_pos rfl] at this)
                      clear HS HS0
                      have x0 := hbx.cell 0
                      have x1 := hbx.cell 1
                      have x2 := hbx.cell 2
                      have x3 := hbx.cell 3
                      have x4 := hbx.cell 4
                      simp at x0 x1 x2 x3 x4
                      have hpk := (World.ownsRow.alloc HLKd.out.2.2.2.2.2.1.1 (.cells #[.int .i64 p.kind, .int .u64 p.tok, .int .u64 p.seq, .int .u64 p.ack, .slice A2 p.body.length c2] 39))
                      have hr5 := Reads.ofBlk (size := 5) (n := 1) (cs := [.int .i64 p.kind, .int .u64 p.tok, .int .u64 p.seq, .int .u64 p.ack, .slice A2 p.body.length c2]) (Blk.new w3 39 #[.int .i64 p.kind, .int .u64 p.tok, .int .u64 p.seq, .int .u64 p.ack, .slice A2 p.body.length c2]) rfl
                      have HRM := Lib.hid (feed_room HLKd.out.2.2.2.2.2.2.2 HALL.out)
                      have hs13 := HLKd.out.2.2.2.1.size
                      have hbs : w1.heap.size ≤ (w3.alloc (.cells #[.int .i64 p.kind, .int .u64 p.tok, .int .u64 p.seq, .int .u64 p.ack, .slice A2 p.body.length c2] 39)).heap.size := by simp; omega
                      have HOQ := Lib.hid (own_base (World.ownsRow.alloc ho3 (.cells #[.int .i64 p.kind, .int .u64 p.tok, .int .u64 p.seq, .int .u64 p.ack, .slice A2 p.body.length c2] 39)) (HLK.out.2.2.2.1.size))
                      clear hbx ho3 hs13
                      go_wp2_with (at_builtin; refine wpList_appE rfl _ _ _ rfl w1.heap.size 39 _ 5 56 info39 Try.underlying119 rfl (by decide) _ _ _ rfl hpk _ _ _ _ _ rfl hr5 (by simp [Value.oneCell']) (by have := HRM.out.1; simp only [maxLen]; omega) (by have := HRM.out.2.1; omega) hbs ?_; intro V2 w5 hown5 hg5; obtain ⟨A5, c5, rfl⟩ := own_form hown5)
                      have hg35 := (World.grownBy_alloc w3 (.cells #[.int .i64 p.kind, .int .u64 p.tok, .int .u64 p.seq, .int .u64 p.ack, .slice A2 p.body.length c2] 39) none)
                      have HTK := Lib.hid fun A' c' hA hc => HLK.out.taken HST.out (grown_two hgx hg35) HOQ.out hg5 hown5 A' c' hA hc
                      have hrd5 := HLK.out.rd_app (grown_two hgx hg35) hg5
                      have HL5 := Lib.hid (len_draw0 (c := cb) hrd5 (by have := HB6.out; omega : 4 ≤ b.length))
                      rw [HLB.out] at HL5
                      clear hrd5 hown5 hg5 hg35 hgx hpk hr5 x0 x1 x2 x3 x4 hbs q0 q1 HLKd HLK HOQ
                      go_wp2_with fail
                      refine HL5.out.mono ?_
                      rintro e w6 ⟨rfl, kw, rfl⟩
                      by_cases hcb : cb = L + 8
                      · subst hcb
                        have HD := Lib.hid ((HTK.out _ 0 (by rw [if_pos rfl]) (by omega)).drewN kw)
                        clear HTK HL5
                        go_wp2_with fail
                        rw [show b.length - (L + 8) = (b.drop (L + 8)).length from (List.length_drop ..).symm]
                        go_step3
                        exact ⟨⟨w1, ⟨_, _, _, _, _, _, _, _, _, _, _, _, _, _, _, _, _, _, _, _, _, _, _, _, _, _, _, _, _, _, _, _, _, _, _, _, _, _, _, _, _, _, _, _, _, _, _, _, _, _, _, _, _, _, _, _, _, _, _, _, _, _, _, _, _, _, _, _, _, _, _, _, _, _, _, _, _, _, _, _, _, _, _, _, _, _, _, _, _, _, _, _, _, _, _, _, _, .inl rfl, rfl, HD.out⟩, HSZ.out, HG2.out⟩, by show 3 * (b.drop (L + 8)).length + 2 < 3 * b.length + 2; rw [List.length_drop]; have := HPOS.out; omega⟩
                      · have HD := Lib.hid ((HTK.out _ (cb - (L + 8)) (by rw [if_neg hcb]) rfl).drewN kw)
                        clear HTK HL5
                        go_wp2_with fail
                        rw [show b.length - (L + 8) = (b.drop (L + 8)).length from (List.length_drop ..).symm]
                        go_step3
                        exact ⟨⟨w1, ⟨_, _, _, _, _, _, _, _, _, _, _, _, _, _, _, _, _, _, _, _, _, _, _, _, _, _, _, _, _, _, _, _, _, _, _, _, _, _, _, _, _, _, _, _, _, _, _, _, _, _, _, _, _, _, _, _, _, _, _, _, _, _, _, _, _, _, _, _, _, _, _, _, _, _, _, _, _, _, _, _, _, _, _, _, _, _, _, _, _, _, _, _, _, _, _, _, _, .inl rfl, rfl, HD.out⟩, HSZ.out, HG2.out⟩, by show 3 * (b.drop (L + 8)).length + 2 < 3 * b.length + 2; rw [List.length_drop]; have := HPOS.out; omega⟩
                    · have t3 : ((er : Int) == 0) = false := by rw [beq_eq_false_iff_ne]; omega
                      have HS : Hid (stepB b = .drop) := Lib.hid (by have := HS0.out; rwa [if_neg he] at this)
                      have hcb : ¬ cb = 1 := by omega
                      clear HS0 he hbx hgx ho3
                      go_wp2_with fail
                      go_step3
                      have hblk2 := HLKd.out.2.2.2.2.1
                      have g2 := hblk2.cell 2
                      have gf2 := hblk2.frozen 2
                      simp at g2
                      have l1 : wrap64 (d + (m : Int) + 1) = d + (m : Int) + 1 := drop_wrap hd0 hd1 (feed_room HLKd.out.2.2.2.2.2.2.2 HALL.out).2.2.1 (Nat.le_refl _)
                      clear hblk2
                      have HD := Lib.hid (HLKd.out.dropped HS.out _ (cb - 1) _ (by rw [if_neg hcb]) rfl rfl)
                      go_wp2_with fail
                      rw [show b.length - 1 = b.tail.length from (List.length_tail ..).symm]
                      go_step3
                      exact ⟨⟨w1, ⟨_, _, _, _, _, _, _, _, _, _, _, _, _, _, _, _, _, _, _, _, _, _, _, _, _, _, _, _, _, _, _, _, _, _, _, _, _, _, _, _, _, _, _, _, _, _, _, _, _, _, _, _, _, _, _, _, _, _, _, _, _, _, _, _, _, _, _, _, _, _, _, _, _, _, _, _, _, _, _, _, _, _, _, _, _, _, _, _, _, _, _, _, _, _, _, _, _, .inl rfl, rfl, HD.out⟩, HSZ.out, HG2.out⟩, by show 3 * b.tail.length + 2 < 3 * b.length + 2; rw [List.length_tail]; have := HPOS.out; omega⟩
            · have t1 : (((b.getD 1 0).toNat : Int) == 30) = false := getD_ne h3
              have HS : Hid (stepB b = .drop) := Lib.hid (stepB_head H0.out (.inr ⟨h2, h3⟩))
              clear h1 h2 h3 hblk hrd
              have t2 : (((b.getD 1 0).toNat : Int) != 30) = true := by rw [bne, t1]; rfl
              generalize b.getD 1 0 = x1 at k1 t1 t2
              go_wp2_with fail
              go_step3
              exact ⟨⟨w1, ⟨_, _, _, _, _, _, _, _, _, _, _, _, _, _, _, _, _, _, _, _, _, _, _, _, _, _, _, _, _, _, _, _, _, _, _, _, _, _, _, _, _, _, _, _, _, _, _, _, _, _, _, _, _, _, _, _, _, _, _, _, _, _, _, _, _, _, _, _, _, _, _, _, _, _, _, _, _, _, _, _, _, _, _, _, _, _, _, _, _, _, _, _, _, _, _, _, _, .inr (.inl ⟨rfl, HS.out⟩), rfl, HLK.out⟩, HSZ.out, HG2.out⟩, by show 3 * b.length + 1 < 3 * b.length + 2; omega⟩
          · have d2 : decide ((1 : Int) < (b.length : Int)) = false := by simp; omega
            have d4 : decide ((b.length : Int) < 4) = true := by simp; omega
            have HS : Hid (stepB b = .done) := Lib.hid (stepB_short H0.out h1 (.inl h2) (by omega))
            clear h1 h2 hblk hrd
            go_wp2_with fail
            go_step3
            exact ⟨⟨w1, ⟨_, _, _, _, _, _, _, _, _, _, _, _, _, _, _, _, _, _, _, _, _, _, _, _, _, _, _, _, _, _, _, _, _, _, _, _, _, _, _, _, _, _, _, _, _, _, _, _, _, _, _, _, _, _, _, _, _, _, _, _, _, _, _, _, _, _, _, _, _, _, _, _, _, _, _, _, _, _, _, _, _, _, _, _, _, _, _, _, _, _, _, _, _, _, _, _, _, .inr (.inr ⟨rfl, HS.out⟩), rfl, HLK.out⟩, HSZ.out, HG2.out⟩, by show 3 * b.length + 0 < 3 * b.length + 2; omega⟩
        · have t0 : (((b.getD 0 0).toNat : Int) == 239) = false := getD_ne h1
          have q0 : wr.cell? ⟨bk, off, none⟩ = some (.int .u8 ((b.getD 0 0).toNat : Int)) := by simpa using k0
          have HS : Hid (stepB b = .drop) := Lib.hid (stepB_head H0.out (.inl h1))
          have t2 : (((b.getD 0 0).toNat : Int) != 239) = true := by rw [bne, t0]; rfl
          clear h1 hblk hrd k0
          generalize b.getD 0 0 = x1 at q0 t0 t2
          go_wp2_with fail
          go_step3
          exact ⟨⟨w1, ⟨_, _, _, _, _, _, _, _, _, _, _, _, _, _, _, _, _, _, _, _, _, _, _, _, _, _, _, _, _, _, _, _, _, _, _, _, _, _, _, _, _, _, _, _, _, _, _, _, _, _, _, _, _, _, _, _, _, _, _, _, _, _, _, _, _, _, _, _, _, _, _, _, _, _, _, _, _, _, _, _, _, _, _, _, _, _, _, _, _, _, _, _, _, _, _, _, _, .inr (.inl ⟨rfl, HS.out⟩), rfl, HLK.out⟩, HSZ.out, HG2.out⟩, by show 3 * b.length + 1 < 3 * b.length + 2; omega⟩
    · refine ⟨_, rfl, ?_⟩
      have HS := Lib.hid hs
      have HPOS : Hid (0 < b.length) := Lib.hid (Nat.pos_of_ne_zero fun h0 => by rw [stepB_nil h0] at hs; cases hs)
      obtain ⟨bk, off, rfl, k0⟩ := byte_getD hLK.rd (k := 0) (by have := HPOS.out; omega)
      have hi0 : (1 : Int) ≤ (b.length : Int) := by have := HPOS.out; omega
      have HLKd := Lib.hid hLK
      clear hs k0 hLK
      have hblk2 := HLKd.out.2.2.2.2.1
      have g2 := hblk2.cell 2
      have gf2 := hblk2.frozen 2
      simp at g2
      have l1 : wrap64 (d + (m : Int) + 1) = d + (m : Int) + 1 := drop_wrap hd0 hd1 (feed_room HLKd.out.2.2.2.2.2.2.2 HALL.out).2.2.1 (Nat.le_refl _)
      clear hblk2
      by_cases hcb : cb = 1
      · subst hcb
        have HD := Lib.hid (HLKd.out.dropped HS.out _ 0 _ (by rw [if_pos rfl]) rfl rfl)
        go_wp2_with fail
        rw [show b.length - 1 = b.tail.length from (List.length_tail ..).symm]
        go_step3
        exact ⟨⟨w1, ⟨_, _, _, _, _, _, _, _, _, _, _, _, _, _, _, _, _, _, _, _, _, _, _, _, _, _, _, _, _, _, _, _, _, _, _, _, _, _, _, _, _, _, _, _, _, _, _, _, _, _, _, _, _, _, _, _, _, _, _, _, _, _, _, _, _, _, _, _, _, _, _, _, _, _, _, _, _, _, _, _, _, _, _, _, _, _, _, _, _, _, _, _, _, _, _, _, _, .inl rfl, rfl, HD.out⟩, HSZ.out, HG2.out⟩, by show 3 * b.tail.length + 2 < 3 * b.length + 1; rw [List.length_tail]; have := HPOS.out; omega⟩
      · have HD := Lib.hid (HLKd.out.dropped HS.out _ (cb - 1) _ (by rw [if_neg hcb]) rfl rfl)
        go_wp2_with fail
        rw [show b.length - 1 = b.tail.length from (List.length_tail ..).symm]
        go_step3
        exact ⟨⟨w1, ⟨_, _, _, _, _, _, _, _, _, _, _, _, _, _, _, _, _, _, _, _, _, _, _, _, _, _, _, _, _, _, _, _, _, _, _, _, _, _, _, _, _, _, _, _, _, _, _, _, _, _, _, _, _, _, _, _, _, _, _, _, _, _, _, _, _, _, _, _, _, _, _, _, _, _, _, _, _, _, _, _, _, _, _, _, _, _, _, _, _, _, _, _, _, _, _, _, _, .inl rfl, rfl, HD.out⟩, HSZ.out, HG2.out⟩, by show 3 * b.tail.length + 2 < 3 * b.length + 1; rw [List.length_tail]; have := HPOS.out; omega⟩
    · refine ⟨_, rfl, ?_⟩
      have hs13 := hLK.2.2.2.1.size
      have hrd := hLK.rd.alloc (Nat.le_refl _) (.cells #[] 5)
      have hown0 := OwnB.built 5 wr wr.heap.size #[] [] (Nat.le_refl _) (by simp) rfl
      have hfr := hLK.2.2.2.2.1.frozen 1
      have HLK := Lib.hid hLK
      have HS := Lib.hid hs
      have HAPB : Hid (([] : List UInt8).length + b.length ≤ 140737488355328) := Lib.hid (by have := (feed_room hLK.2.2.2.2.2.2.2 HALL.out).2.2.2; simp; omega)
      clear hLK hs hs13
      have hbw2 : wr.heap.size ≤ (wr.alloc (.cells #[] 5)).heap.size := by simp
      go_wp2_with (at_builtin; refine wpList_app rfl _ _ _ rfl wr.heap.size 5 info5 Try.underlying37 _ [] rfl hown0 _ _ _ _ b rfl hrd HAPB.out hbw2 ?_; intro v' w2 hown happ; rw [List.nil_append] at hown; obtain ⟨A3, c3, rfl, -⟩ := OwnB.form hown; have hlk2 := LK.done HLK.out happ; have HOWN := Lib.hid hown; have HSI : Hid (wr.heap.size ≤ w2.heap.size) := Lib.hid (by have := happ.size; simp at this; omega); have hf2 := hlk2.2.1.frozen 1; have hc2 := hlk2.2.1.cell 1; simp at hc2; have HL2 := Lib.hid hlk2; clear hlk2 hown happ)
      have HEND := Lib.hid (feed_end HSZ.out HG2.out HLK.out HS.out HL2.out.1 HL2.out.2.1 HL2.out.2.2 HOWN.out HSI.out)
      rw [Exit.jumps_ret]
      go_ret
      exact HPOST.out _ _ HEND.out
theorem FeedPostS.weak {w w' : World} {g : Nat} {K : Value} {d : Int} {r : List Pk × List UInt8 × Nat} {e : Ending} (h : FeedPostS w g K d r e w') : FeedPost w g K d r e w' := by
  obtain ⟨V, qs, K', M, h1, h2, h3, h4, h5, h6, _, _, h8⟩ := h
  exact ⟨V, qs, K', h1, h2, h3, h4, own_base h5 h6, h8⟩
theorem feedw_any (g base B : Nat) (K : Value) (kept : List UInt8) (d : Int) (A : Option Addr) (nc c : Nat) (chunk : List UInt8) (w : World) (hb : Blk w g 136 #[.bool true, K, .int .i64 d]) (hK : OwnB 5 w base K kept) (hbase : base ≤ w.heap.size)
    (hr : RdB w B A nc chunk) (hlen : kept.length + nc ≤ 1099511627776) (hd0 : 0 ≤ d) (hd1 : d ≤ 1152921504606846976) :
    Calls Try.prog 53 #[.pointer (some ⟨g, 0, none⟩), .slice A nc c] w (FeedPost w g K d (feed (kept ++ chunk))) :=
  (feeds_any g base B K kept d A nc c chunk w hb hK hbase hr hlen hd0 hd1).mono fun _ _ h => h.weak
end Go.Proofs.Ytjhkfpemcplaaaa
