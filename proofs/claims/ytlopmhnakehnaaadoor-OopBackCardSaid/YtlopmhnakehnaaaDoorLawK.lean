/-
  The walk of OopBack: it returns true, and writes nothing that was there.
-/
import Derived.Test.YtlopmhnakehnaaaDoorHdr3
import Derived.Test.YtlopmhnakehnaaaDoorHdr4
import Derived.Test.YtlopmhnakehnaaaDoorSame
import Derived.Test.YtlopmhnakehnaaaDoorUnq
import Derived.Test.YtlopmhnakehnaaaDoorAppD
import Derived.Test.YtlopmhnakehnaaaDoorBackL
import Derived.Test.YtlopmhnakehnaaaDoorRead
import Derived.Deep.DeepCutAuto
import Derived.Deep.CutBlock
namespace Go.Proofs.YtlopmhnakehnaaaDoor
open Go.RowKit

attribute [local go_sem] run_equal3
theorem Spares.belowK {w w' : World} (h : Spares w) (hb : Below w.heap.size w w') (hz : 0 < w.heap.size) : Spares w' := fun i hi => by rw [hb.cell (p := ⟨0, i, none⟩) hz]; exact h i hi
def Tab (w : World) : Prop := Lib.TabIs Tryd.prog w "internal/strconv.uint64pow10" .u64 Lib.pow10Tab
/-- block g holds these cells -/
def HeldK (w : World) (g : Nat) (cs : List Value) : Prop := g < w.heap.size ∧ ∀ i v, cs[i]? = some v → w.cell? ⟨g, i, none⟩ = some v
/-- the world of the walk: the bytes that came in, blocks of the call's own that are known, the variables -/
def SK (w0 : World) (A : Option Addr) (bs : List UInt8) (hs : List (Nat × List Value)) (W : World) : Prop :=
  RdB W W.heap.size A bs.length bs ∧ (∀ b ∈ hs, HeldK W b.1 b.2) ∧ Spares W ∧ Tab W ∧ 0 < W.heap.size ∧ Below w0.heap.size w0 W
section
variable {w w' w0 W W' : World} {g : Nat} {cs : List Value} {A : Option Addr} {bs : List UInt8} {hs : List (Nat × List Value)}
theorem HeldK.below (h : HeldK w g cs) (hb : Below w.heap.size w w') : HeldK w' g cs :=
  ⟨Nat.lt_of_lt_of_le h.1 hb.size, fun i v hv => by rw [hb.cell (p := ⟨g, i, none⟩) h.1]; exact h.2 i v hv⟩
theorem HeldK.new (w : World) (cs : List Value) (t : TypeId) : HeldK (w.alloc (.cells cs.toArray t)) w.heap.size cs :=
  ⟨by simp, fun i v hv => by rw [World.cell?_alloc_new]; simpa using hv⟩
theorem HeldK.five {a b c d e : Value} (h : HeldK w g [a, b, c, d, e]) : w.cell? ⟨g, 0, none⟩ = some a ∧ w.cell? ⟨g, 1, none⟩ = some b ∧ w.cell? ⟨g, 2, none⟩ = some c ∧ w.cell? ⟨g, 3, none⟩ = some d ∧ w.cell? ⟨g, 4, none⟩ = some e ∧ g < w.heap.size ∧ g < w.heap.size + 1 ∧ g < w.heap.size + 1 + 1 :=
  ⟨h.2 0 _ rfl, h.2 1 _ rfl, h.2 2 _ rfl, h.2 3 _ rfl, h.2 4 _ rfl, h.1, Nat.lt_succ_of_lt h.1, Nat.lt_succ_of_lt (Nat.lt_succ_of_lt h.1)⟩
theorem HeldK.three {a b c : Value} (h : HeldK w g [a, b, c]) : w.cell? ⟨g, 0, none⟩ = some a ∧ w.cell? ⟨g, 1, none⟩ = some b ∧ w.cell? ⟨g, 2, none⟩ = some c ∧ g < w.heap.size ∧ g < w.heap.size + 1 ∧ g < w.heap.size + 1 + 1 :=
  ⟨h.2 0 _ rfl, h.2 1 _ rfl, h.2 2 _ rfl, h.1, Nat.lt_succ_of_lt h.1, Nat.lt_succ_of_lt (Nat.lt_succ_of_lt h.1)⟩
theorem SK.below (h : SK w0 A bs hs W) (hb : Below W.heap.size W W') : SK w0 A bs hs W' :=
  ⟨(h.1.below hb).more hb.size, fun b hb' => (h.2.1 b hb').below hb, h.2.2.1.belowK hb h.2.2.2.2.1, Joins.tab_stays pow10_named h.2.2.2.1 hb (Nat.le_refl _), Nat.lt_of_lt_of_le h.2.2.2.2.1 hb.size, h.2.2.2.2.2.trans (hb.mono h.2.2.2.2.2.size)⟩
theorem SK.alloc (h : SK w0 A bs hs W) (o : Obj) : SK w0 A bs hs (W.alloc o) := h.below ((Below.refl _ _).alloc (Nat.le_refl _) o)
theorem SK.drew (h : SK w0 A bs hs W) : SK w0 A bs hs W.drew := h.below (Below.refl _ _).drew
theorem SK.push (h : SK w0 A bs hs W) (cs : List Value) (t : TypeId) : SK w0 A bs ((W.heap.size, cs) :: hs) (W.alloc (.cells cs.toArray t)) :=
  ⟨(h.alloc _).1, fun b hb => by
    rcases List.mem_cons.1 hb with rfl | hb
    · exact HeldK.new W cs t
    · exact (h.alloc _).2.1 b hb, (h.alloc _).2.2⟩
end
def PackRel (w0 : World) (A : Option Addr) (bs : List UInt8) (gX : Nat) (sz f sp cl se : Int) (s17 s18 : Value) (W : World) : Prop :=
  ∃ (gP : Nat) (e a b c : Int), s17 = .pointer (some ⟨gP, 0, none⟩) ∧ s18 = .int .i64 e ∧ SK w0 A bs [(gP, [.int .u32 a, .int .u32 b, .int .u32 c]), (gX, [.int .i64 sz, .int .i64 f, .int .i64 sp, .int .u32 cl, .int .u32 se])] W ∧
    ((mayB sz f sp = true ∧ e = 0 ∧ word0 sz f sp = a ∧ cl = b ∧ se = c) ∨ (mayB sz f sp = false ∧ e = 1))
theorem SK.drop {w0 W : World} {A : Option Addr} {bs : List UInt8} {hs : List (Nat × List Value)} (h : SK w0 A bs hs W) : SK w0 A bs [] W := ⟨h.1, (fun b hb => by cases hb), h.2.2⟩
/-- the world of the loops: the words laid a second time and the bytes taken apart a second time, each in a block of its own -/
def XW (WB : World) (B8 g2 F : Nat) (A6 : Option Addr) (n : Nat) (W : World) : Prop :=
  Below WB.heap.size WB W ∧ (∃ f, W.rowIs g2 22 F f) ∧ OwnD W B8 A6 n ∧ g2 < B8 ∧ WB.heap.size ≤ g2
theorem XW.setX {WB W : World} {B8 g2 F n : Nat} {A6 : Option Addr} (h : XW WB B8 g2 F A6 n W) (k : Nat) (v : Value) : XW WB B8 g2 F A6 n (W.setCell ⟨g2, k, none⟩ v) := by
  obtain ⟨h1, ⟨f, h2⟩, h3, h4, h5⟩ := h
  refine ⟨h1.setCell h5 v, ⟨_, h2.set k v⟩, ?_, h4, h5⟩
  rcases h3 with h3 | ⟨g, cur, e, hg, hb, hm⟩
  · exact .inl h3
  · exact .inr ⟨g, cur, e, hg, hb.far (by show g ≠ g2; omega) v, hm⟩
theorem XW.setD {WB W : World} {B8 g2 F n g : Nat} (h : XW WB B8 g2 F (some ⟨g, 0, none⟩) n W) (k : Nat) (v : Value) : XW WB B8 g2 F (some ⟨g, 0, none⟩) n (W.setCell ⟨g, k, none⟩ v) := by
  obtain ⟨h1, ⟨f, h2⟩, h3, h4, h5⟩ := h
  rcases h3 with ⟨h3, _⟩ | ⟨g', cur, e, hg, hb, hm⟩
  · cases h3
  · injection e with e
    injection e with e
    subst e
    exact ⟨h1.setCell (by show WB.heap.size ≤ g; omega) v, ⟨f, h2.setOther (by show g2 ≠ g; omega) v⟩, .inr ⟨g, _, rfl, hg, hb.set_ k v, by simpa using hm⟩, h4, h5⟩
theorem XW.cellX {WB W : World} {B8 g2 F n : Nat} {A6 : Option Addr} (h : XW WB B8 g2 F A6 n W) {k : Nat} (hk : k < F) : ∃ u, W.cell? ⟨g2, k, none⟩ = some u ∧ W.frozen? ⟨g2, k, none⟩ = false := by
  obtain ⟨h1, ⟨f, h2⟩, h3, h4, h5⟩ := h
  exact ⟨_, h2.cell hk, h2.frozen k⟩
theorem XW.cellD {WB W : World} {B8 g2 F n : Nat} {A6 : Option Addr} (h : XW WB B8 g2 F A6 n W) {k : Nat} (hk : k < n) : ∃ g u, A6 = some ⟨g, 0, none⟩ ∧ W.cell? ⟨g, k, none⟩ = some u ∧ W.frozen? ⟨g, k, none⟩ = false := by
  obtain ⟨h1, ⟨f, h2⟩, h3, h4, h5⟩ := h
  rcases h3 with ⟨h3, h0⟩ | ⟨g', cur, e, hg, hb, hm⟩
  · omega
  · refine ⟨g', cur[k]'(by omega), e, ?_, hb.frozen k⟩
    rw [hb.cell]
    exact Array.getElem?_eq_getElem _
theorem own_ne {w : World} {b b' s s' n n' : Nat} {e e' : TypeId} {v v' : Value} {xs xs' : List Value} (h : w.ownsRow b e s v n xs) (h' : w.ownsRow b' e' s' v' n' xs') (hne : e ≠ e') : v.ownBlock = none ∨ v.ownBlock ≠ v'.ownBlock := by
  rcases h.2 with ⟨rfl, _⟩ | ⟨g, cap, cur, rfl, _, hb, _⟩
  · exact .inl rfl
  · rcases h'.2 with ⟨rfl, _⟩ | ⟨g', cap', cur', rfl, _, hb', _⟩
    · exact .inr (by simp [Value.ownBlock])
    · refine .inr fun e2 => ?_
      have e3 : g = g' := by simpa [Value.ownBlock] using e2
      subst e3
      rw [hb] at hb'
      injection hb' with h1
      injection h1 with h1 h2 h3
      exact hne h2
/-- the world of the third loop: two rows of the call's own that grow -/
def GR (WB : World) (v m : Value) (n1 n2 : Nat) (W : World) : Prop := (∃ xs, W.ownsRow WB.heap.size 22 1 v n1 xs) ∧ (∃ ys, W.ownsRow WB.heap.size 5 1 m n2 ys) ∧ Below WB.heap.size WB W
theorem GR.stepV {WB W W1 : World} {v m v1 : Value} {n1 n2 n3 : Nat} {xs : List Value} {o : Obj} (h : GR WB v m n1 n2 W) (h2 : W1.ownsRow WB.heap.size 22 1 v1 n3 xs) (hg : (W.alloc o).grownBy W1 v.ownBlock) : GR WB v1 m n3 n2 W1 := by
  obtain ⟨⟨xs, hx⟩, ⟨ys, hy⟩, hb⟩ := h
  refine ⟨⟨_, h2⟩, ⟨ys, (hy.alloc o).kept hg (own_ne (hy.alloc o) (hx.alloc o) (by decide))⟩, ?_⟩
  exact (hb.alloc hb.size o).grown hg (by have := hb.size; simp; omega) (fun k hk => (hx.lt k hk).1)
theorem GR.stepM {WB W W1 : World} {v m m1 : Value} {n1 n2 n3 : Nat} {xs : List Value} {o : Obj} (h : GR WB v m n1 n2 W) (h2 : W1.ownsRow WB.heap.size 5 1 m1 n3 xs) (hg : (W.alloc o).grownBy W1 m.ownBlock) : GR WB v m1 n1 n3 W1 := by
  obtain ⟨⟨xs, hx⟩, ⟨ys, hy⟩, hb⟩ := h
  refine ⟨⟨xs, (hx.alloc o).kept hg (own_ne (hx.alloc o) (hy.alloc o) (by decide))⟩, ⟨_, h2⟩, ?_⟩
  exact (hb.alloc hb.size o).grown hg (by have := hb.size; simp; omega) (fun k hk => (hy.lt k hk).1)
theorem XW.ownX {WB W : World} {B8 g2 F n : Nat} {A6 : Option Addr} (h : XW WB B8 g2 F A6 n W) (hF : F ≤ 65535) : ∃ xs, W.ownsRow WB.heap.size 22 1 (.slice (some ⟨g2, 0, none⟩) F F) F xs := by
  obtain ⟨h1, ⟨f, h2⟩, h3, h4, h5⟩ := h
  obtain ⟨cs, e1, e2, e3⟩ := h2
  exact ⟨cs.toList.take (F * 1), by simp; omega, .inr ⟨g2, F, cs, rfl, h5, e1, Nat.le_refl _, by simp only [maxLen]; omega, by omega, rfl⟩⟩
theorem XW.d_kept {WB W W1 : World} {B8 g2 F n : Nat} {A6 : Option Addr} {o : Obj} (h : XW WB B8 g2 F A6 n W) (hg : (W.alloc o).grownBy W1 (some g2)) : OwnD W1 B8 A6 n := by
  obtain ⟨h1, ⟨f, h2⟩, h3, h4, h5⟩ := h
  rcases h3 with h3 | ⟨g', cur, e, hg', hb, hm⟩
  · exact .inl h3
  · exact .inr ⟨g', cur, e, hg', (hb.alloc o).grown hg (by intro e; injection e with e; omega), hm⟩
theorem OwnD.alloc {w : World} {B8 n : Nat} {A6 : Option Addr} (h : OwnD w B8 A6 n) (o : Obj) : OwnD (w.alloc o) B8 A6 n := by
  rcases h with h | ⟨g, cur, e, hg, hb, hm⟩
  · exact .inl h
  · exact .inr ⟨g, cur, e, hg, hb.alloc o, hm⟩
theorem own_below {w w' : World} {b s n : Nat} {e : TypeId} {v : Value} {xs : List Value} (h : w.ownsRow b e s v n xs) (hb : Below w.heap.size w w') : w'.ownsRow b e s v n xs := by
  obtain ⟨h1, h2 | ⟨g, cap, cur, e1, e2, e3, r⟩⟩ := h
  · exact ⟨h1, .inl h2⟩
  · exact ⟨h1, .inr ⟨g, cap, cur, e1, e2, by rw [hb.block g (Blk.lt (show Blk w g e cur from e3))]; exact e3, r⟩⟩
theorem own_base {w : World} {b b' s n : Nat} {e : TypeId} {v : Value} {xs : List Value} (h : w.ownsRow b e s v n xs) (hb : b' ≤ b) : w.ownsRow b' e s v n xs := by
  obtain ⟨h1, h2 | ⟨g, cap, cur, e1, e2, r⟩⟩ := h
  · exact ⟨h1, .inl h2⟩
  · exact ⟨h1, .inr ⟨g, cap, cur, e1, by omega, r⟩⟩
theorem GR.first {WB w8 w9 : World} {v1 m1 : Value} {n1 n2 : Nat} {xs ys : List Value} {o : Obj} (h : w8.ownsRow WB.heap.size 22 1 v1 n1 xs) (hb : Below WB.heap.size WB w8) (h2 : w9.ownsRow (w8.alloc o).heap.size 5 1 m1 n2 ys) (hb9 : Below (w8.alloc o).heap.size (w8.alloc o) w9) : GR WB v1 m1 n1 n2 w9 := by
  have hb1 := hb.alloc hb.size o
  exact ⟨⟨_, own_below (h.alloc o) hb9⟩, ⟨_, own_base h2 hb1.size⟩, hb1.trans (hb9.mono hb1.size)⟩
theorem stoodK42 : Tryd.prog.stoodInHeld 42 = false := by kernel_rfl
set_option maxRecDepth 100000 in
set_option maxHeartbeats 16000000 in
theorem lawk (o sz f sp cl se : Int) (A : Option Addr) (c : Nat) (bs : List UInt8) (w : World) (hs : Spares w) (ht : Tab w) (hz : 0 < w.heap.size) (h : RdB w w.heap.size A bs.length bs) (hm : bs.length ≤ 140737488355328) (o1 : 0 ≤ o) (o2 : o ≤ 4294967295) :
    Calls Tryd.prog 8 #[.int .u32 o, .agg #[.int .i64 sz, .int .i64 f, .int .i64 sp, .int .u32 cl, .int .u32 se], .slice A bs.length c] w fun e w' => e = .returned (.bool true) ∧ Below w.heap.size w w' := by
  have H0 : SK w A bs [] w := ⟨h, (fun b hb => by cases hb), hs, ht, hz, Below.refl _ _⟩
  have HST := Lib.hid (H0.push [.int .i64 sz, .int .i64 f, .int .i64 sp, .int .u32 cl, .int .u32 se] 42)
  clear hs ht hz h H0
  go_enter Tryd.func8, Tryd.ntmps8
  go_upto_region 1 with fail
  generalize hW0 : w.alloc (.cells #[.int .i64 sz, .int .i64 f, .int .i64 sp, .int .u32 cl, .int .u32 se] 42) = W0 at HST ⊢
  clear hW0
  obtain ⟨gX, hgx⟩ : ∃ gX, gX = w.heap.size := ⟨_, rfl⟩
  rw [← hgx] at HST
  simp only [← hgx]
  clear hgx
  go_wp2_with fail
  refine (awake_any _ HST.out.2.2.1 HST.out.2.2.2.2.1).mono ?_
  rintro e W1 ⟨rfl, hb1⟩
  have HST := Lib.hid (HST.out.below hb1)
  clear hb1
  go_wp2_with fail
  refine (kind_any o _ o1 o2).mono ?_
  rintro e W2 ⟨rfl, rfl⟩
  obtain ⟨K, hK⟩ : ∃ K, K = kindN o := ⟨_, rfl⟩
  rw [← hK]
  have HKK := Lib.hid hK
  clear hK
  go_upto_block 0 with fail
  go_cut [7, 8, 9, 10, 11, 12, 13, 14] (fun _ _ _ _ _ _ _ _ wx => W1 = wx)
  case first =>
    by_cases h0 : o = 0
    · subst h0
      obtain rfl : K = 0 := HKK.out
      clear HKK
      go_wp2
      go_meet
      rfl
    · by_cases h3 : o % 2 = 1
      · obtain ⟨v1, v2, v3⟩ := val_bounds o o1 o2 h3
        have hk : kindN o = 1 := by unfold kindN; rw [if_neg h0, if_pos h3]
        obtain rfl : K = 1 := HKK.out.trans hk
        clear HKK
        have HK := Lib.hid hk
        have HV := Lib.hid v3
        have hoo : (o == o) = true := by simp
        clear hk v3 h3 h0
        go_wp2_with (first
          | (go_at_call 14; refine (value_yes o _ o1 o2 HK.out).mono ?_; rintro e w' ⟨rfl, rfl⟩)
          | (go_at_call 9; refine (small_in (valN o) _ v1 v2).mono ?_; rintro e w' ⟨rfl, rfl⟩; rw [HV.out])
          | (go_at_call 11; refine (fits_yes (valN o) _ v1 v2).mono ?_; rintro e w' ⟨rfl, rfl⟩))
        go_meet
        rfl
      · have hk : kindN o = 2 := by unfold kindN; rw [if_neg h0, if_neg h3]
        obtain rfl : K = 2 := HKK.out.trans hk
        clear HKK
        have HK := Lib.hid hk
        have v1 : 1 ≤ o / 2 := by omega
        have v2 : o / 2 ≤ 2147483647 := by omega
        have HV := Lib.hid (show 2 * (o / 2) = o by omega)
        have hoo : (o == o) = true := by simp
        clear hk h3 h0
        go_wp2_with (first
          | (go_at_call 21; refine (index_yes o _ o1 o2 HK.out).mono ?_; rintro e w' ⟨rfl, rfl⟩)
          | (go_at_call 19; refine (at_in (o / 2) _ v1 v2).mono ?_; rintro e w' ⟨rfl, rfl⟩; rw [HV.out]))
        go_meet
        rfl
  case rest =>
  subst hcut
  clear HKK
  go_wp2_with fail
  refine (show_any o _ o1 o2 HST.out.2.2.2.1).mono ?_
  rintro e W2 ⟨rfl, hb2⟩
  have HST := Lib.hid (HST.out.below hb2)
  clear hb2
  go_wp2_with fail
  refine (read_show o _ o1 o2 HST.out.2.2.2.1).mono ?_
  rintro e W3 ⟨rfl, hb3⟩
  have HST := Lib.hid (HST.out.below hb3)
  clear hb3
  go_upto_region 21 with fail
  go_cut [17, 18] (fun s17 s18 wx => ∃ wz, wz = wx ∧ PackRel w A bs gX sz f sp cl se s17 s18 wz)
  case first =>
    obtain ⟨x0, x1, x2, x3, x4, x5, x6, x7⟩ := (HST.out.2.1 (gX, [.int .i64 sz, .int .i64 f, .int .i64 sp, .int .u32 cl, .int .u32 se]) (by simp)).five
    cases hmb : mayB sz f sp with
    | true =>
      have HM := Lib.hid hmb
      clear hmb
      go_wp2_with fail
      refine (hpack_yes sz f sp cl se _ HST.out.2.2.1 HST.out.2.2.2.2.1 HM.out).mono ?_
      rintro e W4 ⟨rfl, hb4⟩
      have HST := Lib.hid ((HST.out.below hb4).push [.int .u32 (word0 sz f sp), .int .u32 cl, .int .u32 se] 43)
      clear hb4 x0 x1 x2 x3 x4 x5 x6 x7
      go_wp2_with fail
      go_meet
      exact ⟨_, rfl, _, _, _, _, _, rfl, rfl, HST.out, .inl ⟨HM.out, rfl, rfl, rfl, rfl⟩⟩
    | false =>
      have HM := Lib.hid hmb
      clear hmb
      go_wp2_with fail
      refine (hpack_no sz f sp cl se _ HST.out.2.2.1 HST.out.2.2.2.2.1 HM.out).mono ?_
      rintro e W4 ⟨rfl, hb4⟩
      have HST := Lib.hid ((HST.out.below hb4).push [.int .u32 0, .int .u32 0, .int .u32 0] 43)
      clear hb4 x0 x1 x2 x3 x4 x5 x6 x7
      go_wp2_with fail
      go_meet
      exact ⟨_, rfl, _, _, _, _, _, rfl, rfl, HST.out, .inr ⟨HM.out, rfl⟩⟩
  case rest =>
  obtain ⟨wz, rfl, hcut⟩ := hcut
  go_step
  go_cut [19, 20] (fun _ _ wx => ∃ wz, wz = wx ∧ SK w A bs [] wz)
  case first =>
    obtain ⟨gP, e, a, b, cc, rfl, rfl, hsk, h2⟩ := hcut
    have HST := Lib.hid hsk
    clear hsk
    obtain ⟨x0, x1, x2, x3, x4, x5, x6, x7⟩ := (HST.out.2.1 (gX, [.int .i64 sz, .int .i64 f, .int .i64 sp, .int .u32 cl, .int .u32 se]) (by simp)).five
    obtain ⟨p0, p1, p2, p5, p6, p7⟩ := (HST.out.2.1 (gP, [.int .u32 a, .int .u32 b, .int .u32 cc]) (by simp)).three
    rcases h2 with ⟨hmb, rfl, rfl, rfl, rfl⟩ | ⟨hmb, rfl⟩
    · have HM := Lib.hid hmb
      clear hmb
      clear x0 x1 x2 x3 x4 x5 x6 x7
      go_wp2_with fail
      obtain ⟨m1, m2, m3, m4, m5, m6⟩ := mayB_out HM.out
      refine (unpack_yes (word0 sz f sp) cl se sz f sp (by unfold word0; omega) (by unfold word0; omega) (by unfold word0; omega) _ HST.out.2.2.1 HST.out.2.2.2.2.1 (by unfold word0; omega) (by unfold word0; omega) HM.out (by unfold word0; omega)).mono ?_
      rintro e W4 ⟨rfl, hb4⟩
      have HST := Lib.hid ((HST.out.below hb4).push [.int .i64 sz, .int .i64 f, .int .i64 sp, .int .u32 cl, .int .u32 se] 42)
      clear hb4 p0 p1 p2 p5 p6 p7 m1 m2 m3 m4 m5 m6
      go_upto_region 24 with fail
      generalize hW5 : W4.alloc (.cells #[.int .i64 sz, .int .i64 f, .int .i64 sp, .int .u32 cl, .int .u32 se] 42) = W5 at HST ⊢
      clear hW5
      generalize W4.heap.size = gT at HST ⊢
      obtain ⟨x0, x1, x2, x3, x4, x5, x6, x7⟩ := (HST.out.2.1 (gX, [.int .i64 sz, .int .i64 f, .int .i64 sp, .int .u32 cl, .int .u32 se]) (by simp)).five
      obtain ⟨y0, y1, y2, y3, y4, y5, y6, y7⟩ := (HST.out.2.1 (gT, [.int .i64 sz, .int .i64 f, .int .i64 sp, .int .u32 cl, .int .u32 se]) (by simp)).five
      go_wp2_with fail
      go_meet
      exact ⟨_, rfl, HST.out.drop⟩
    · clear x0 x1 x2 x3 x4 x5 x6 x7 p0 p1 p2 p5 p6 p7
      go_wp2_with fail
      go_meet
      exact ⟨_, rfl, HST.out.drop⟩
  case rest =>
  obtain ⟨wz2, rfl, hcut2⟩ := hcut
  clear HST
  have HST := Lib.hid hcut2
  clear hcut2
  by_cases hl : bs.length ≤ 262140
  case neg =>
    have hl' : 262140 < bs.length := by omega
    clear hl
    go_step
    go_wp2_with fail
    go_ret
    exact ⟨rfl, HST.out.2.2.2.2.2⟩
  case pos =>
  go_step
  go_wp2_with fail
  refine (packb_any A c bs wz2 HST.out.1 hl).mono ?_
  rintro e w3 ⟨g, F, hF, rfl, hb3, hrow, hg⟩
  obtain ⟨pws, HPW⟩ : ∃ pws, Hid (pws = (List.range F).map (pk bs bs.length)) := ⟨_, rfl⟩
  have hP : RdW w3 w3.heap.size (some ⟨g, 0, none⟩) F pws := by rw [HPW.out]; exact Reads.of_rowIs hrow
  have HSB := Lib.hid (HST.out.below hb3)
  clear HST
  have HST := HSB
  clear HSB
  have HP := Lib.hid hP
  have HF := Lib.hid hF
  have hX : ∀ y ∈ pws, y < 4294967296 := by
    rw [HPW.out]
    intro y hy
    obtain ⟨t, _, rfl⟩ := List.mem_map.1 hy
    exact pk_lt32 _ _ _
  have HX32 := Lib.hid hX
  have hFl : F ≤ 65535 := by omega
  obtain ⟨S, hS⟩ : ∃ S : Nat, 4 * (F : Int) - (bs.length : Int) = (S : Int) := ⟨4 * F - bs.length, by omega⟩
  have hS2 : S = 4 * F - bs.length := by omega
  have HU : Hid (unpR pws (S : Int) = (bs, 0)) := Lib.hid (by rw [HPW.out, hS2]; exact unp_packW bs F hF.symm hl)
  rw [hS]
  have HS := Lib.hid hS
  clear hb3 hrow hg hP hF hX hS hS2
  go_wp2_with fail
  refine (length_in (bs.length : Int) _ (by omega) (by omega)).mono ?_
  rintro e w4 ⟨rfl, rfl⟩
  have hcd : ((bs.length : Int) + 3) / 4 = (F : Int) := by have := HF.out; omega
  rw [hcd, HS.out]
  clear hcd
  go_wp2_with fail
  refine (unpackq_any (some ⟨g, 0, none⟩) F F pws (S : Int) w3 HP.out HX32.out (by omega)).mono ?_
  rintro e w4 ⟨hb4, A5, rfl, hr5, hd5⟩
  rw [HU.out] at hr5 hd5
  rw [HU.out]
  have HST := Lib.hid (HST.out.below hb4)
  have HP := Lib.hid ((HP.out.below hb4).more hb4.size)
  have HC := Lib.hid hr5
  clear hb4 hr5 hd5
  go_wp2_with fail
  refine (bytes_any A A5 bs.length c bs.length bs _ HST.out.1 HC.out (by omega)).mono ?_
  rintro e w5 ⟨rfl, hb5⟩
  have HST := Lib.hid (HST.out.below hb5)
  have HP := Lib.hid ((HP.out.below hb5).more hb5.size)
  have HC := Lib.hid ((HC.out.below hb5).more hb5.size)
  clear hb5
  go_wp2_with fail
  refine (packb_any A c bs w5 HST.out.1 hl).mono ?_
  rintro e w6 ⟨g2, F', hF', rfl, hb6, hrow2, hg2⟩
  obtain rfl : F' = F := hF'.trans HF.out.symm
  rw [HS.out]
  have HB := Lib.hid hb6
  have HROW := Lib.hid hrow2
  have HG2 := Lib.hid hg2
  clear hF' hb6 hrow2 hg2
  go_wp2_with fail
  refine (unpackq_any (some ⟨g, 0, none⟩) F' F' pws (S : Int) w6 ((HP.out.below HB.out).more HB.out.size) HX32.out (by omega)).mono ?_
  rintro e w7 ⟨hb7, A6, rfl, -, hd6⟩
  rw [HU.out] at hd6
  rw [HU.out]
  have HD := Lib.hid hd6
  have HLT := Lib.hid HROW.out.lt
  have HROW := Lib.hid (HROW.out.of_block (hb7.block g2 HROW.out.lt))
  have HB := Lib.hid (HB.out.trans (hb7.mono HB.out.size))
  have HX0 : Hid (XW w5 w6.heap.size g2 F' A6 bs.length w7) := Lib.hid ⟨HB.out, ⟨_, HROW.out⟩, HD.out, HLT.out, HG2.out⟩
  clear hb7 hd6 HD HB HROW HLT HG2
  generalize w6.heap.size = B8 at HX0
  go_upto_region 37 with fail
  go_wp2_with fail
  go_loopw [32] (fun i wx => ∃ k : Nat, k ≤ F' ∧ i = .int .i64 k ∧ XW w5 B8 g2 F' A6 bs.length wx) (fun i _ => F' - (intOf i).toNat)
  case atStart => exact ⟨0, Nat.zero_le _, rfl, HX0.out⟩
  case round =>
    obtain ⟨k, hk, rfl, hx⟩ := hrel
    have HX := Lib.hid hx
    clear hx
    by_cases hlt : k < F'
    · obtain ⟨u, hc1, hc2⟩ := HX.out.cellX hlt
      have l1 : (0 : Int) ≤ (k : Int) := by omega
      have l2 : (k : Int) < (F' : Int) := by omega
      have HX1 := Lib.hid (HX.out.setX k (.int .u32 7))
      clear HX
      go_wp2_with fail
      go_roundw
      case rel => exact ⟨k + 1, by omega, by go_num, HX1.out⟩
      case measure => simp [intOf]; omega
    · have hlt2 : ¬ (k : Int) < (F' : Int) := by omega
      clear hlt hk
      go_wp2_with fail
      go_loopw [33] (fun i wx => ∃ k : Nat, k ≤ bs.length ∧ i = .int .i64 k ∧ XW w5 B8 g2 F' A6 bs.length wx) (fun i _ => bs.length - (intOf i).toNat)
      case atStart => exact ⟨0, Nat.zero_le _, rfl, HX.out⟩
      case round =>
        obtain ⟨j, hj, rfl, hx⟩ := hrel
        have HY := Lib.hid hx
        clear hx HX hlt2
        by_cases hlt : j < bs.length
        · obtain ⟨g6, u, rfl, hc1, hc2⟩ := HY.out.cellD hlt
          have l1 : (0 : Int) ≤ (j : Int) := by omega
          have l2 : (j : Int) < (bs.length : Int) := by omega
          have HX1 := Lib.hid (HY.out.setD j (.int .u8 7))
          clear HY
          go_wp2_with fail
          go_roundw
          case rel => exact ⟨j + 1, by omega, by go_num, HX1.out⟩
          case measure => simp [intOf]; omega
        · have hlt2 : ¬ (j : Int) < (bs.length : Int) := by omega
          clear hlt hj
          go_upto_region 45 with fail
          clear hlt2
          obtain ⟨xs0, hox⟩ := HY.out.ownX hFl
          have HOX := Lib.hid hox
          clear hox
          have HR8 := Lib.hid (Reads.built wr 22 [.int .u32 8])
          go_upto_region 46 with (at_builtin; refine wpList_appE rfl (.tmp 207) (.tmp 208) 54 rfl w5.heap.size 22 (.int .u32 0) 1 4 info22 Tryd.underlying54 rfl (by omega) _ F' xs0 rfl (HOX.out.alloc _) _ _ 1 1 [.int .u32 8] rfl HR8.out (by intro u hu; simp at hu; subst hu; rfl) (by simp only [maxLen]; omega) (by omega) (by have := HY.out.1.size; simp; omega) ?_; intro v1 w8 hown1 hg1)
          have hg2 : (wr.alloc (.cells #[.int .u32 8] 22)).grownBy w8 (some g2) := hg1
          have HD8 := Lib.hid (HY.out.d_kept hg2)
          have HB8 := Lib.hid ((HY.out.1.alloc HY.out.1.size _).grown hg2 (by have := HY.out.1.size; simp; omega) (fun k' hk' => by injection hk' with hk'; subst hk'; exact HY.out.2.2.2.2))
          have HO8 := Lib.hid hown1
          clear hown1 hg1 hg2 HOX HR8 HY
          have HU8 := Lib.hid (show (w8.alloc (.cells #[.int .u8 8] 5)).cell? ⟨w8.heap.size, 0, none⟩ = some (.int .u8 8) by rw [World.cell?_alloc_new]; rfl)
          go_upto_region 47 with (at_builtin; refine wpList_appD rfl (.tmp 210) (.tmp 211) rfl A6 bs.length B8 rfl (OwnD.alloc HD8.out _) hl _ 1 rfl (.int .u8 8) HU8.out ?_; intro m1 w9 ys1 hown2 hb9)
          have HG9 := Lib.hid (GR.first HO8.out HB8.out hown2 hb9)
          clear hown2 hb9 HO8 HB8 HU8 HD8
          go_wp2_with fail
          go_loopw [34, 35, 36] (fun v m i wx => ∃ k : Nat, k ≤ 70 ∧ i = .int .i64 k ∧ GR w5 v m (F' + 1 + k) (bs.length + 1 + k) wx) (fun _ _ i _ => 70 - (intOf i).toNat)
          case atStart => exact ⟨0, Nat.zero_le _, rfl, HG9.out⟩
          case round =>
            obtain ⟨k3, hk3, rfl, hx3⟩ := hrel
            have HG := Lib.hid hx3
            clear hx3 HG9
            by_cases hlt : k3 < 70
            · have l1 : (0 : Int) ≤ (k3 : Int) := by omega
              have l2 : (k3 : Int) < 70 := by omega
              obtain ⟨⟨xs3, hx3⟩, -, hb3⟩ := HG.out
              have HX3 := Lib.hid hx3
              have HB3 := Lib.hid hb3
              clear hx3 hb3
              have HR9 := Lib.hid (Reads.built wr 22 [.int .u32 9])
              go_upto_region 51 with (at_builtin; refine wpList_appE rfl (.tmp 217) (.tmp 218) 54 rfl w5.heap.size 22 (.int .u32 0) 1 4 info22 Tryd.underlying54 rfl (by omega) _ (F' + 1 + k3) xs3 rfl (HX3.out.alloc _) _ _ 1 1 [.int .u32 9] rfl HR9.out (by intro u hu; simp at hu; subst hu; rfl) (by simp only [maxLen]; omega) (by omega) (by have := HB3.out.size; simp; omega) ?_; intro v2 w10 hown1 hg1)
              have HG2 := Lib.hid (HG.out.stepV (o := .cells #[.int .u32 9] 22) hown1 hg1)
              clear hown1 hg1 HX3 HB3 HR9 HG
              obtain ⟨-, ⟨ys3, hy3⟩, hb3⟩ := HG2.out
              have HY3 := Lib.hid hy3
              have HB3 := Lib.hid hb3
              clear hy3 hb3
              have HR9 := Lib.hid (Reads.built w10 5 [.int .u8 9])
              go_upto_region 49 with (at_builtin; refine wpList_appE rfl (.tmp 220) (.tmp 221) 53 rfl w5.heap.size 5 (.int .u8 0) 1 1 info5 Tryd.underlying53 rfl (by omega) _ (bs.length + 1 + k3) ys3 rfl (HY3.out.alloc _) _ _ 1 1 [.int .u8 9] rfl HR9.out (by intro u hu; simp at hu; subst hu; rfl) (by simp only [maxLen]; omega) (by omega) (by have := HB3.out.size; simp; omega) ?_; intro m2 w11 hown1 hg1)
              have HG3 := Lib.hid (HG2.out.stepM (o := .cells #[.int .u8 9] 5) hown1 hg1)
              clear hown1 hg1 HY3 HB3 HR9 HG2
              go_wp2_with fail
              go_roundw
              case rel => exact ⟨k3 + 1, by omega, by go_num, HG3.out⟩
              case measure => simp [intOf]; omega
            · have hlt2 : ¬ (k3 : Int) < 70 := by omega
              clear hlt hk3
              have HBW := Lib.hid HG.out.2.2
              go_wp2_with fail
              have HST := Lib.hid (HST.out.below HBW.out)
              have HP := Lib.hid ((HP.out.below HBW.out).more HBW.out.size)
              have HC := Lib.hid ((HC.out.below HBW.out).more HBW.out.size)
              refine (packb_any A c bs _ HST.out.1 hl).mono ?_
              rintro e w12 ⟨g9, F9, hF9, rfl, hb12, hrow9, hg9⟩
              obtain rfl : F9 = F' := hF9.trans HF.out.symm
              have hP9 : RdW w12 w12.heap.size (some ⟨g9, 0, none⟩) F9 pws := by rw [HPW.out]; exact Reads.of_rowIs hrow9
              have HP9 := Lib.hid hP9
              have HST := Lib.hid (HST.out.below hb12)
              have HP := Lib.hid ((HP.out.below hb12).more hb12.size)
              have HC := Lib.hid ((HC.out.below hb12).more hb12.size)
              clear hF9 hb12 hrow9 hg9 hP9
              go_wp2_with fail
              refine (words_any _ _ F9 F9 F9 pws _ HP.out HP9.out (by omega)).mono ?_
              rintro e w13 ⟨rfl, hb13⟩
              have HST := Lib.hid (HST.out.below hb13)
              have HC := Lib.hid ((HC.out.below hb13).more hb13.size)
              clear hb13
              go_wp2_with fail
              refine (bytes_any A A5 bs.length c bs.length bs _ HST.out.1 HC.out (by omega)).mono ?_
              rintro e w14 ⟨rfl, hb14⟩
              have HST := Lib.hid (HST.out.below hb14)
              clear hb14
              go_wp2_with fail
              go_ret
              exact ⟨rfl, HST.out.2.2.2.2.2⟩
end Go.Proofs.YtlopmhnakehnaaaDoor
