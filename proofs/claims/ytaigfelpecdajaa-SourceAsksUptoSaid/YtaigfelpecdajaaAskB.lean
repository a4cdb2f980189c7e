/-
  The walks that hold trees against each other: the program's Same and the document's.
-/
import Derived.Test.YtaigfelpecdajaaAskA
import Derived.Deep.CutBlock
namespace Go.Proofs.Ytaigfelpecdajaa
open Go.RowKit

theorem NodeAt.forms : {f : Nat} → {w : World} → {B : Nat} → {x0 x1 x2 x3 x4 x5 x6 : Value} → {t : TrF f} → NodeAt f w B [x0, x1, x2, x3, x4, x5, x6] t →
    ∃ (k : Int) (nm : ByteArray) (A1 : Option Addr) (n1 c1 : Nat) (A2 : Option Addr) (n2 c2 : Nat) (A3 : Option Addr) (n3 c3 : Nat) (p pl : Int), x0 = .int .i64 k ∧ x1 = .string nm ∧ x2 = .slice A1 n1 c1 ∧ x3 = .slice A2 n2 c2 ∧ x4 = .slice A3 n3 c3 ∧ x5 = .int .i64 p ∧ x6 = .int .i64 pl
  | 0, _, _, _, _, _, _, _, _, _, _, h => h.elim
  | _ + 1, _, _, _, _, _, _, _, _, _, _, ⟨A1, c1, A2, c2, A3, c3, _, h, _⟩ => by
    simp only [List.cons.injEq, and_true] at h
    obtain ⟨h0, h1, h2, h3, h4, h5, h6⟩ := h
    exact ⟨_, _, A1, _, c1, A2, _, c2, A3, _, c3, _, _, h0, h1, h2, h3, h4, h5, h6⟩
/-- how much a tree holds -/
def wtT : (f : Nat) → TrF f → Nat
  | 0, _ => 0
  | f + 1, (t : Nd (TrF f)) => 1 + t.names.length + t.temps.length + (t.nodes.map (wtT f)).sum
theorem wt_pos : ∀ (f : Nat) (t : TrF f), 1 ≤ wtT f t
  | 0, t => t.elim
  | f + 1, (t : Nd (TrF f)) => by
    show 1 ≤ 1 + t.names.length + t.temps.length + (t.nodes.map (wtT f)).sum
    omega
theorem sum_ge : ∀ (l : List Nat), (∀ x ∈ l, 1 ≤ x) → l.length ≤ l.sum
  | [], _ => Nat.le_refl _
  | a :: l, h => by
    have := sum_ge l (fun x hx => h x (List.mem_cons_of_mem _ hx))
    have := h a (by simp)
    simp; omega
theorem wt_nodes (f : Nat) (l : List (TrF f)) : l.length ≤ (l.map (wtT f)).sum := by
  have := sum_ge (l.map (wtT f)) (fun x hx => by
    obtain ⟨t, _, rfl⟩ := List.mem_map.1 hx
    exact wt_pos f t)
  simpa using this
theorem mem_sum : ∀ {l : List Nat} {x : Nat}, x ∈ l → x ≤ l.sum
  | a :: l, x, h => by
    rcases List.mem_cons.1 h with rfl | h
    · simp
    · have := mem_sum h; simp; omega
theorem wt_sub {f : Nat} {l : List (TrF f)} {t : TrF f} (h : t ∈ l) : wtT f t ≤ (l.map (wtT f)).sum := mem_sum (List.mem_map_of_mem h)
/-- a list of trees in a slice -/
def NodesAt (f : Nat) (w : World) (B : Nat) (A : Option Addr) (l : List (TrF f)) : Prop :=
  ∃ css : List (List Value), css.length = l.length ∧ ReadsX w B 7 A l.length css.flatten ∧ ∀ (i : Nat) (cs' : List Value) (t' : TrF f), css[i]? = some cs' → l[i]? = some t' → NodeAt f w B cs' t'
theorem NodesAt.below {f : Nat} {w w' : World} {B : Nat} {A : Option Addr} {l : List (TrF f)} (h : NodesAt f w B A l) (hb : Below B w w') : NodesAt f w' B A l := by
  obtain ⟨css, h1, h2, h3⟩ := h
  exact ⟨css, h1, h2.below hb, fun i cs' t' a b => (h3 i cs' t' a b).below hb⟩
def SameSaid (f : Nat) : Prop := ∀ (a b : TrF f) (csA csB : List Value) (B : Nat) (w : World), NodeAt f w B csA a → NodeAt f w B csB b → B ≤ w.heap.size → wtT f a ≤ 1048576 → wtT f b ≤ 1048576 →
  Calls Try.prog 5 #[.agg csA.toArray, .agg csB.toArray] w fun e w' => e = .returned (.bool (sameT f a b)) ∧ Below w.heap.size w w'
set_option maxRecDepth 20000 in
set_option maxHeartbeats 4000000 in
theorem eqf_any (f : Nat) (ih : SameSaid f) (A1 A2 : Option Addr) (c1 c2 B : Nat) (l m : List (TrF f)) (w : World) (h1 : NodesAt f w B A1 l) (h2 : NodesAt f w B A2 m) (hB : B ≤ w.heap.size) (hl : (l.map (wtT f)).sum ≤ 1048576) (hm : (m.map (wtT f)).sum ≤ 1048576) :
    Calls Try.prog 19 #[.slice A1 l.length c1, .slice A2 m.length c2, .func (.func 5) #[] #[]] w fun e w' => e = .returned (.bool (all2 (sameT f) l m)) ∧ Below w.heap.size w w' := by
  have H1 := Lib.hid h1
  have H2 := Lib.hid h2
  have IH := Lib.hid ih
  have hl1 := wt_nodes f l
  have hm1 := wt_nodes f m
  have HL := Lib.hid hl
  have HM := Lib.hid hm
  have hl2 : l.length ≤ 1048576 := by omega
  have hm2 : m.length ≤ 1048576 := by omega
  clear h1 h2 ih hl1 hm1 hl hm
  by_cases hlen : l.length = m.length
  · have HLEN := Lib.hid hlen
    have d0 : ((l.length : Int) != (m.length : Int)) = false := by rw [hlen]; simp
    clear hlen
    go_enter Try.func19, Try.ntmps19
    go_wp2
    go_loopw [17] (fun e wr => ∃ k : Nat, k ≤ l.length ∧ e = .int .i64 k ∧ all2 (sameT f) (l.drop k) (m.drop k) = all2 (sameT f) l m ∧ Below w.heap.size w wr) (fun e _ => l.length - (intOf e).toNat)
    case atStart => exact ⟨0, Nat.zero_le _, rfl, rfl, Below.refl _ _⟩
    case round =>
      obtain ⟨k, hk, rfl, hall, hb⟩ := hrel
      have HALL := Lib.hid hall
      have HB := Lib.hid hb
      obtain ⟨css1, p1, p2, p3⟩ := H1.out.below (hb.mono hB)
      obtain ⟨css2, q1, q2, q3⟩ := H2.out.below (hb.mono hB)
      clear hall hb
      by_cases hkl : k < l.length
      · have hkm : k < m.length := by have := HLEN.out; omega
        obtain ⟨b1, o1, x0, x1, x2, x3, x4, x5, x6, rfl, hbk1, n1, a0, a1, a2, a3, a4, a5, a6⟩ := NodeAt.sub p1 p2 p3 hkl
        obtain ⟨b2, o2, y0, y1, y2, y3, y4, y5, y6, rfl, hbk2, n2, e0, e1, e2, e3, e4, e5, e6⟩ := NodeAt.sub q1 q2 q3 hkm
        obtain ⟨ka, na, Aa1, na1, ca1, Aa2, na2, ca2, Aa3, na3, ca3, pa, pla, rfl, rfl, rfl, rfl, rfl, rfl, rfl⟩ := n1.forms
        obtain ⟨kb, nb, Ab1, nb1, cb1, Ab2, nb2, cb2, Ab3, nb3, cb3, pb, plb, rfl, rfl, rfl, rfl, rfl, rfl, rfl⟩ := n2.forms
        have N1 := Lib.hid n1
        have N2 := Lib.hid n2
        have z1 : b1 < wr.heap.size := by have := HB.out.size; omega
        have z2 : b2 < wr.heap.size := by have := HB.out.size; omega
        clear p1 p2 p3 q1 q2 q3 n1 n2
        have l1 : (0 : Int) ≤ (k : Int) := by omega
        have l2 : (k : Int) < (l.length : Int) := by omega
        have l3 : (k : Int) < (m.length : Int) := by omega
        have HDR := Lib.hid (all2_drop (p := sameT f) (List.getElem?_eq_getElem hkl) (List.getElem?_eq_getElem hkm))
        have W1 : wtT f l[k] ≤ 1048576 := Nat.le_trans (wt_sub (List.getElem_mem hkl)) HL.out
        have W2 : wtT f m[k] ≤ 1048576 := Nat.le_trans (wt_sub (List.getElem_mem hkm)) HM.out
        have hbB : B ≤ wr.heap.size := Nat.le_trans hB HB.out.size
        have HIH := Lib.hid fun (o o' : Obj) => IH.out l[k] m[k] _ _ B ((wr.alloc o).alloc o') (N1.out.below (((Below.refl _ _).alloc hbB o).alloc (by simp; omega) o')) (N2.out.below (((Below.refl _ _).alloc hbB o).alloc (by simp; omega) o')) (by simp; omega) W1 W2
        clear W1 W2
        go_wp2_with fail
        refine (HIH.out _ _).mono ?_
        rintro e w3 ⟨rfl, hb3⟩
        have HB3 : Hid (Below w.heap.size w w3) := Lib.hid (by
          have hA := HB.out.size
          refine ((HB.out.alloc hA _).alloc (by simp; omega) _).trans (hb3.mono (by simp; omega)))
        clear hb3 HIH
        cases hs : sameT f l[k] m[k] with
        | true =>
          have HE : Hid (all2 (sameT f) (l.drop (k + 1)) (m.drop (k + 1)) = all2 (sameT f) l m) := Lib.hid (by rw [← HALL.out, HDR.out, hs]; rfl)
          clear hs
          go_wp2
          go_roundw
          case rel => exact ⟨k + 1, hkl, by go_num, HE.out, HB3.out⟩
          case measure => simp [intOf]; omega
        | false =>
          have HE : Hid (all2 (sameT f) l m = false) := Lib.hid (by rw [← HALL.out, HDR.out, hs]; rfl)
          clear hs
          go_wp2
          go_ret
          exact ⟨ret_bool (by rw [HE.out]), HB3.out⟩
      · have HE : Hid (all2 (sameT f) l m = true) := Lib.hid (by rw [← HALL.out]; exact all2_end (by omega) (by have := HLEN.out; omega))
        go_wp2
        go_ret
        exact ⟨ret_bool (by rw [HE.out]), HB.out⟩
  · have HE : Hid (all2 (sameT f) l m = false) := Lib.hid (all2_len hlen)
    have d0 : ((l.length : Int) != (m.length : Int)) = true := by rw [bne_iff_ne]; omega
    clear hlen
    go_enter Try.func19, Try.ntmps19
    go_wp2
    go_ret
    exact ⟨ret_bool (by rw [HE.out]), Below.refl _ _⟩
theorem bnext0 {w w1 w2 : World} (h : Below w.heap.size w w1) (h2 : Below w1.heap.size w1 w2) : Below w.heap.size w w2 := h.trans (h2.mono h.size)
theorem same_eq (f : Nat) (a b : Nd (TrF f)) : sameT (f + 1) a b = (decide (a.kind = b.kind) && eqS a.name b.name && decide (a.prim = b.prim) && sameS a.names b.names && sameS a.temps b.temps && all2 (sameT f) a.nodes b.nodes) := rfl
theorem alloc2_below {w : World} {B : Nat} (hB : B ≤ w.heap.size) (o o' : Obj) : Below B w ((w.alloc o).alloc o') := ((Below.refl _ _).alloc hB o).alloc (by simp; omega) o'
theorem int_beq (a b : Int) : (a == b) = decide (a = b) := by rw [Bool.eq_iff_iff]; simp
set_option maxRecDepth 20000 in
set_option maxHeartbeats 4000000 in
theorem same_step (f : Nat) (ih : SameSaid f) : SameSaid (f + 1) := by
  intro a b csA csB B w hA hB hw ha hb
  obtain ⟨A1, c1, A2, c2, A3, c3, css, rfl, p1, p2, p3, p4, p5⟩ := hA
  obtain ⟨B1, e1, B2, e2, B3, e3, cst, rfl, q1, q2, q3, q4, q5⟩ := hB
  have ha : 1 + a.names.length + a.temps.length + (a.nodes.map (wtT f)).sum ≤ 1048576 := ha
  have hb : 1 + b.names.length + b.temps.length + (b.nodes.map (wtT f)).sum ≤ 1048576 := hb
  have P1 := Lib.hid p1
  have P2 := Lib.hid p2
  have P3 : Hid (NodesAt f w B A3 a.nodes) := Lib.hid ⟨css, p3, p4, p5⟩
  have Q1 := Lib.hid q1
  have Q2 := Lib.hid q2
  have Q3 : Hid (NodesAt f w B B3 b.nodes) := Lib.hid ⟨cst, q3, q4, q5⟩
  have HSE := Lib.hid (same_eq f a b)
  have IH := Lib.hid ih
  clear p1 p2 p3 p4 p5 q1 q2 q3 q4 q5 ih
  generalize sameT (f + 1) a b = R at *
  obtain ⟨ka, na, nsa, tsa, xsa, pa, pla⟩ := a
  obtain ⟨kb, nb, nsb, tsb, xsb, pb, plb⟩ := b
  dsimp only at *
  by_cases d0 : ka = kb
  · by_cases d1 : na = nb
    · by_cases d2 : pa = pb
      · subst d0 d1 d2
        have HR : Hid (R = (sameS nsa nsb && sameS tsa tsb && all2 (sameT f) xsa xsb)) := Lib.hid (by rw [HSE.out]; simp [eqS])
        have l1 : nsa.length ≤ 1000000000 := by omega
        have l2 : tsa.length ≤ 1000000000 := by omega
        have l3 : (xsa.map (wtT f)).sum ≤ 1048576 := by omega
        have l4 : (xsb.map (wtT f)).sum ≤ 1048576 := by omega
        have L3 := Lib.hid l3
        have L4 := Lib.hid l4
        clear ha hb l3 l4 HSE
        go_enter Try.func5, Try.ntmps5
        go_wp2_with fail
        refine (sEqual_any A1 B1 c1 e1 B nsa nsb _ (P1.out.below (alloc2_below hw _ _)) (Q1.out.below (alloc2_below hw _ _)) l1).mono ?_
        rintro e w3 ⟨rfl, nq, hw3⟩
        have HBB : Hid (Below B w w3) := Lib.hid (by rw [hw3]; exact below_drewN (alloc2_below hw _ _) nq)
        have HBW : Hid (Below w.heap.size w w3) := Lib.hid (by rw [hw3]; exact below_drewN (alloc2_below (Nat.le_refl _) _ _) nq)
        have HA : Hid (Blk w3 w.heap.size 26 #[.int .i64 ka, .string na, .slice A1 nsa.length c1, .slice A2 tsa.length c2, .slice A3 xsa.length c3, .int .i64 pa, .int .i64 pla]) := Lib.hid (by rw [hw3]; exact ((Blk.new w 26 _).alloc _).drewN nq)
        have HB : Hid (Blk w3 (w.heap.size + 1) 26 #[.int .i64 ka, .string na, .slice B1 nsb.length e1, .slice B2 tsb.length e2, .slice B3 xsb.length e3, .int .i64 pa, .int .i64 plb]) := Lib.hid (by rw [hw3]; exact (Blk.new' _ 26 (w.heap.size + 1) _ (by simp)).drewN nq)
        clear hw3
        have k0 : w3.cell? ⟨w.heap.size, 3, none⟩ = some (.slice A2 tsa.length c2) := HA.out.cell 3
        have k1 : w3.cell? ⟨w.heap.size + 1, 3, none⟩ = some (.slice B2 tsb.length e2) := HB.out.cell 3
        cases hs1 : sameS nsa nsb with
        | false =>
          have HE : Hid (R = false) := Lib.hid (by rw [HR.out, hs1]; rfl)
          clear hs1
          go_wp2
          go_ret
          exact ⟨ret_bool (by rw [HE.out]), HBW.out⟩
        | true =>
          have HR1 : Hid (R = (sameS tsa tsb && all2 (sameT f) xsa xsb)) := Lib.hid (by rw [HR.out, hs1, Bool.true_and])
          clear hs1
          go_wp2_with fail
          refine (sEqual_any A2 B2 c2 e2 B tsa tsb _ (P2.out.below HBB.out) (Q2.out.below HBB.out) l2).mono ?_
          rintro e w4 ⟨rfl, nq2, hw4⟩
          have HBB4 : Hid (Below B w w4) := Lib.hid (by rw [hw4]; exact below_drewN HBB.out nq2)
          have HBW4 : Hid (Below w.heap.size w w4) := Lib.hid (by rw [hw4]; exact below_drewN HBW.out nq2)
          have k4 : w4.cell? ⟨w.heap.size, 4, none⟩ = some (.slice A3 xsa.length c3) := by rw [hw4]; exact HA.out.cell 4
          have k5 : w4.cell? ⟨w.heap.size + 1, 4, none⟩ = some (.slice B3 xsb.length e3) := by rw [hw4]; exact HB.out.cell 4
          clear hw4 k0 k1
          cases hs2 : sameS tsa tsb with
          | false =>
            have HE : Hid (R = false) := Lib.hid (by rw [HR1.out, hs2]; rfl)
            clear hs2
            go_wp2
            go_ret
            exact ⟨ret_bool (by rw [HE.out]), HBW4.out⟩
          | true =>
            have HE : Hid (R = all2 (sameT f) xsa xsb) := Lib.hid (by rw [HR1.out, hs2, Bool.true_and])
            clear hs2
            go_wp2_with fail
            refine (eqf_any f IH.out A3 B3 c3 e3 B xsa xsb _ (P3.out.below HBB4.out) (Q3.out.below HBB4.out) (Nat.le_trans hw HBW4.out.size) L3.out L4.out).mono ?_
            rintro e w5 ⟨rfl, hb5⟩
            go_wp2
            go_ret
            exact ⟨ret_bool (by rw [HE.out]), bnext0 HBW4.out hb5⟩
      · have HE : Hid (R = false) := Lib.hid (by rw [HSE.out]; simp [eqS, d2])
        have t0 : (ka == kb) = true := by rw [int_beq]; simpa using d0
        have t1 : (na.toList == nb.toList) = true := by rw [toList_eq]; simpa [eqS] using d1
        have t2 : (pa == pb) = false := by rw [int_beq]; simpa using d2
        clear d0 d1 d2
        go_enter Try.func5, Try.ntmps5
        go_wp2
        go_ret
        exact ⟨ret_bool (by rw [HE.out]), alloc2_below (Nat.le_refl _) _ _⟩
    · have HE : Hid (R = false) := Lib.hid (by rw [HSE.out]; simp [eqS, d1])
      have t0 : (ka == kb) = true := by rw [int_beq]; simpa using d0
      have t1 : (na.toList == nb.toList) = false := by rw [toList_eq]; simpa [eqS] using d1
      clear d0 d1
      go_enter Try.func5, Try.ntmps5
      go_wp2
      go_ret
      exact ⟨ret_bool (by rw [HE.out]), alloc2_below (Nat.le_refl _) _ _⟩
  · have HE : Hid (R = false) := Lib.hid (by rw [HSE.out]; simp [d0])
    have t0 : (ka == kb) = false := by rw [int_beq]; simpa using d0
    clear d0
    go_enter Try.func5, Try.ntmps5
    go_wp2
    go_ret
    exact ⟨ret_bool (by rw [HE.out]), alloc2_below (Nat.le_refl _) _ _⟩
theorem same_any : ∀ f, SameSaid f
  | 0 => fun a _ _ _ _ _ _ _ _ _ _ => a.elim
  | f + 1 => same_step f (same_any f)
end Go.Proofs.Ytaigfelpecdajaa
