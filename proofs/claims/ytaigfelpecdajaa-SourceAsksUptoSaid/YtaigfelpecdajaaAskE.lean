/-
  The document's once; both Selectors.
-/
import Derived.Test.YtaigfelpecdajaaAskD
namespace Go.Proofs.Ytaigfelpecdajaa
open Go.RowKit

set_option maxRecDepth 20000 in
set_option maxHeartbeats 1000000 in
theorem rOnce_any (base : Nat) (v : Value) (l : List ByteArray) (s : ByteArray) (w : World) (h : OwnS w base v l) (hl : l.length ≤ 100000000) (hb : base ≤ w.heap.size) :
    Calls Try.prog 27 #[v, .string s] w (OnceP w base v l s) := by
  have H := Lib.hid h
  obtain ⟨A, c, rfl, -, -⟩ := OwnS.form h
  clear h
  go_enter Try.func27, Try.ntmps27
  go_wp2
  go_loopw [5] (fun i wr => ∃ k : Nat, k ≤ l.length ∧ i = .int .i64 k ∧ hasS (l.drop k) s = hasS l s ∧ w = wr) (fun i _ => l.length - (intOf i).toNat)
  case atStart => exact ⟨0, Nat.zero_le _, rfl, rfl, rfl⟩
  case round =>
    obtain ⟨k, hk, rfl, hall, rfl⟩ := hrel
    have HALL := Lib.hid hall
    clear hall
    by_cases hlt : k < l.length
    · obtain ⟨ad, x, rfl, _, hx, hc⟩ := RdS.at_ (OwnS.reads H.out) hlt
      have HD := Lib.hid (hasS_drop (s := s) hx)
      have l1 : (0 : Int) ≤ (k : Int) := by omega
      have l2 : (k : Int) < (l.length : Int) := by omega
      clear hx
      cases he : eqS s x with
      | true =>
        have d : (x.toList == s.toList) = true := by rw [toList_eq, eqS_comm, he]
        have HE : Hid (onceS l s = l) := Lib.hid (by rw [onceS_eq, ← HALL.out, HD.out, he]; rfl)
        clear he
        go_wp2
        go_ret
        exact ⟨_, rfl, by rw [HE.out]; exact H.out, App.refl _ _, H.out⟩
      | false =>
        have d : (x.toList == s.toList) = false := by rw [toList_eq, eqS_comm, he]
        have HE : Hid (hasS (l.drop (k + 1)) s = hasS l s) := Lib.hid (by rw [← HALL.out, HD.out, he]; rfl)
        clear he
        go_wp2
        go_roundw
        case rel => exact ⟨k + 1, by omega, by go_num, HE.out, by first | rfl | trivial⟩
        case measure => simp [intOf]; omega
    · have HE : Hid (onceS l s = l ++ [s]) := Lib.hid (by rw [onceS_eq, ← HALL.out, hasS_end (by omega)]; rfl)
      go_wp2_with (at_builtin; refine wpList_snoc rfl (.tmp 19) (.tmp 21) 23 rfl info9 Try.underlying23 base _ l s _ _ rfl rfl (World.ownsRow.alloc H.out _) ((Blk.new _ _ _).cell 0) (by omega) (by simp; omega) ?_; intro v1 w1 hsn; have HS := Lib.hid hsn; clear hsn)
      go_ret
      exact ⟨_, rfl, by rw [HE.out]; exact HS.out.1, HS.out.2.1.from, HS.out.2.2⟩

/-! ## Selectors -/
theorem once_len (l : List ByteArray) (s : ByteArray) : (onceS l s).length ≤ l.length + 1 := by
  rw [onceS_eq]
  split <;> simp
theorem fold_len {α : Type} (f : List ByteArray → α → List ByteArray) (g : α → Nat) (h : ∀ l t, (f l t).length ≤ l.length + g t) : ∀ (ts : List α) (l : List ByteArray), (ts.foldl f l).length ≤ l.length + (ts.map g).sum
  | [], l => by simp
  | t :: ts, l => by
    have h1 := fold_len f g h ts (f l t)
    have h2 := h l t
    simp only [List.foldl_cons, List.map_cons, List.sum_cons]
    omega
theorem selT_eq (f : Nat) (l : List ByteArray) (t : Nd (TrF f)) : selT (f + 1) l t = if t.kind = 5 ∨ t.kind = 7 then onceS (t.nodes.foldl (selT f) l) t.name else t.nodes.foldl (selT f) l := rfl
theorem selT_len : ∀ (f : Nat) (l : List ByteArray) (t : TrF f), (selT f l t).length ≤ l.length + wtT f t
  | 0, _, t => t.elim
  | f + 1, l, (t : Nd (TrF f)) => by
    have h1 := fold_len (selT f) (wtT f) (selT_len f) t.nodes l
    have h2 := once_len (t.nodes.foldl (selT f) l) t.name
    have h3 : wtT (f + 1) t = 1 + t.names.length + t.temps.length + (t.nodes.map (wtT f)).sum := rfl
    rw [selT_eq, h3]
    split <;> omega
/-- what is left of a fold behind its first k -/
theorem fold_drop {α β : Type} (f : β → α → β) {ts : List α} {k : Nat} (h : k < ts.length) (b : β) : (ts.drop k).foldl f b = (ts.drop (k + 1)).foldl f (f b ts[k]) := by
  rw [List.drop_eq_getElem_cons h]; rfl
theorem sum_drop {α : Type} (g : α → Nat) {ts : List α} {k : Nat} (h : k < ts.length) : ((ts.drop k).map g).sum = g ts[k] + ((ts.drop (k + 1)).map g).sum := by
  rw [List.drop_eq_getElem_cons h, List.map_cons, List.sum_cons]
/-- a list that grew: its value, its text -/
def SelP (w : World) (base : Nat) (v : Value) (l' : List ByteArray) (e : Ending) (w' : World) : Prop := ∃ v', e = .returned v' ∧ OwnS w' base v' l' ∧ App w v w' v'
def SelSaid (f : Nat) : Prop := ∀ (t : TrF f) (cs : List Value) (B base : Nat) (v : Value) (l : List ByteArray) (w : World), NodeAt f w B cs t → OwnS w base v l → B ≤ base → base ≤ w.heap.size → l.length + wtT f t ≤ 4000000 →
  Calls Try.prog 26 #[v, .agg cs.toArray] w (SelP w base v (selT f l t))
def SelRSaid (f : Nat) : Prop := ∀ (t : TrF f) (cs : List Value) (B base : Nat) (v : Value) (l : List ByteArray) (w : World), NodeAt f w B cs t → OwnS w base v l → B ≤ base → base ≤ w.heap.size → l.length + wtT f t ≤ 4000000 →
  Calls Try.prog 12 #[.agg cs.toArray, v] w (SelP w base v (selT f l t))
theorem int_eqb {a b : Int} (h : a = b) : (a == b) = true := by rw [int_beq]; simpa using h
theorem int_neb {a b : Int} (h : ¬ a = b) : (a == b) = false := by rw [int_beq]; simpa using h
/-- a round's way: what a round of a loop over a tree's nodes knows -/
structure SelAt (f : Nat) (w1 : World) (base : Nat) (v : Value) (l : List ByteArray) (ts : List (TrF f)) (k : Nat) (v' : Value) (wr : World) : Prop where
  k_le : k ≤ ts.length
  holds : ∃ l', OwnS wr base v' l' ∧ App w1 v wr v' ∧ (ts.drop k).foldl (selT f) l' = ts.foldl (selT f) l ∧ l'.length + ((ts.drop k).map (wtT f)).sum ≤ 4000000
set_option maxRecDepth 20000 in
set_option maxHeartbeats 4000000 in
theorem sel_step (f : Nat) (ih : SelSaid f) : SelSaid (f + 1) := by
  intro t cs B base v l w hT hO hBb hbw hlen
  obtain ⟨A1, c1, A2, c2, A3, c3, css, rfl, p1, p2, p3, p4, p5⟩ := hT
  have hlen : l.length + (1 + t.names.length + t.temps.length + (t.nodes.map (wtT f)).sum) ≤ 4000000 := hlen
  have P3 : Hid (NodesAt f w B A3 t.nodes) := Lib.hid ⟨css, p3, p4, p5⟩
  have HSE := Lib.hid (selT_eq f l t)
  have IH := Lib.hid ih
  have HO := Lib.hid hO
  clear p1 p2 p3 p4 p5 ih hO
  generalize selT (f + 1) l t = R at *
  obtain ⟨kd, nm, ns, ts, xs, pr, pl⟩ := t
  dsimp only at *
  have hx2 : xs.length ≤ 4000000 := Nat.le_trans (wt_nodes f xs) (by omega)
  have HW : Hid (l.length + (xs.map (wtT f)).sum ≤ 4000000) := Lib.hid (by omega)
  clear hlen
  obtain ⟨A, c, rfl, -, -⟩ := OwnS.form HO.out
  go_enter Try.func26, Try.ntmps26
  go_wp2
  generalize hw1 : w.alloc (.cells #[.int .i64 kd, .string nm, .slice A1 ns.length c1, .slice A2 ts.length c2, .slice A3 xs.length c3, .int .i64 pr, .int .i64 pl] 26) = w1
  have HA : Hid (Blk w1 w.heap.size 26 #[.int .i64 kd, .string nm, .slice A1 ns.length c1, .slice A2 ts.length c2, .slice A3 xs.length c3, .int .i64 pr, .int .i64 pl]) := Lib.hid (by rw [← hw1]; exact Blk.new w 26 _)
  have HO1 : Hid (OwnS w1 base (.slice A l.length c) l) := Lib.hid (by rw [← hw1]; exact World.ownsRow.alloc HO.out _)
  have P1 : Hid (NodesAt f w1 B A3 xs) := Lib.hid (by rw [← hw1]; exact P3.out.below ((Below.refl _ _).alloc (Nat.le_trans hBb hbw) _))
  have hbw1 : base ≤ w1.heap.size := by rw [← hw1]; simp; omega
  have HBK : Hid ((Value.slice A l.length c).ownBlock ≠ some w.heap.size) := Lib.hid (own_blk_ne HO1.out HA.out (by decide))
  have HAP : Hid (∀ v' w', App w1 (.slice A l.length c) w' v' → App w (.slice A l.length c) w' v') := Lib.hid (by intro v' w' h; rw [← hw1] at h; exact h.from)
  clear hw1
  go_loopw [0, 10] (fun u i wr => ∃ k : Nat, i = .int .i64 k ∧ SelAt f w1 base (.slice A l.length c) l xs k u wr) (fun u i _ => xs.length - (intOf i).toNat)
  case atStart => exact ⟨0, rfl, Nat.zero_le _, l, HO1.out, App.refl _ _, rfl, by simpa using HW.out⟩
  case round =>
    obtain ⟨k, rfl, hk, l', ho, ha, hf, hs⟩ := hrel
    have HOr := Lib.hid ho
    have HAr := Lib.hid ha
    have HF := Lib.hid hf
    have HS := Lib.hid hs
    obtain ⟨Ar, cr, rfl, -, -⟩ := OwnS.form ho
    have k0 : wr.cell? ⟨w.heap.size, 0, none⟩ = some (.int .i64 kd) := (ha.blk HA.out HBK.out).cell 0
    have k1 : wr.cell? ⟨w.heap.size, 1, none⟩ = some (.string nm) := (ha.blk HA.out HBK.out).cell 1
    have k4 : wr.cell? ⟨w.heap.size, 4, none⟩ = some (.slice A3 xs.length c3) := (ha.blk HA.out HBK.out).cell 4
    have hbr : base ≤ wr.heap.size := Nat.le_trans hbw1 ha.size
    have HB : Hid (Below B w1 wr) := Lib.hid ((ha.below hbw1 fun k hk => OwnS.base HO1.out hk).mono hBb)
    obtain ⟨css1, q1, q2, q3⟩ := P1.out.below HB.out
    clear ho ha hf hs
    by_cases hkl : k < xs.length
    · obtain ⟨b1, o1, x0, x1, x2, x3, x4, x5, x6, rfl, hbk1, n1, a0, a1, a2, a3, a4, a5, a6⟩ := NodeAt.sub q1 q2 q3 hkl
      obtain ⟨ka', na', Aa1, na1, ca1, Aa2, na2, ca2, Aa3, na3, ca3, pa', pla', rfl, rfl, rfl, rfl, rfl, rfl, rfl⟩ := n1.forms
      have N1 := Lib.hid n1
      clear q1 q2 q3 n1
      have z1 : b1 < wr.heap.size := by omega
      have l1 : (0 : Int) ≤ (k : Int) := by omega
      have l2 : (k : Int) < (xs.length : Int) := by omega
      have HFD : Hid ((xs.drop (k + 1)).foldl (selT f) (selT f l' xs[k]) = xs.foldl (selT f) l) := Lib.hid (by rw [← HF.out, fold_drop _ hkl])
      have HSD : Hid (l'.length + (wtT f xs[k] + ((xs.drop (k + 1)).map (wtT f)).sum) ≤ 4000000) := Lib.hid (by rw [← sum_drop (wtT f) hkl]; exact HS.out)
      have HLT := Lib.hid (selT_len f l' xs[k])
      have HIH := Lib.hid fun (o : Obj) => IH.out xs[k] _ B base _ l' (wr.alloc o) (N1.out.below ((Below.refl _ _).alloc (by omega) o)) (World.ownsRow.alloc HOr.out o) hBb (by simp; omega) (by have := HSD.out; omega)
      clear k0 k1
      go_wp2_with fail
      refine (HIH.out _).mono ?_
      rintro e w5 ⟨v5, rfl, ho5, ha5⟩
      have HO5 := Lib.hid ho5
      have HA5 : Hid (App w1 (.slice A l.length c) w5 v5) := Lib.hid (HAr.out.trans ha5.from)
      clear ho5 ha5 HIH
      go_wp2
      go_roundw
      case rel => exact ⟨k + 1, by go_num, hkl, selT f l' xs[k], HO5.out, HA5.out, HFD.out, by have := HSD.out; have := HLT.out; omega⟩
      case measure => simp [intOf]; omega
    · have HF2 : Hid (l' = xs.foldl (selT f) l) := Lib.hid (by have h := HF.out; rw [List.drop_eq_nil_of_le (by omega)] at h; exact h)
      have hl8 : l'.length ≤ 100000000 := by have := HS.out; omega
      have HON := Lib.hid (sOnce_any base _ l' nm wr HOr.out hl8 hbr)
      clear q1 q2 q3 hl8
      by_cases e5 : kd = 5
      · have HR : Hid (R = onceS l' nm) := Lib.hid (by rw [HSE.out, if_pos (.inl e5), HF2.out])
        have t5 : (kd == 5) = true := int_eqb e5
        clear e5
        go_wp2_with fail
        refine HON.out.mono ?_
        rintro e w5 ⟨v5, rfl, ho5, ha5, -⟩
        go_wp2
        go_ret
        exact ⟨_, rfl, by rw [HR.out]; exact ho5, HAP.out _ _ (HAr.out.trans ha5)⟩
      · have t5 : (kd == 5) = false := int_neb e5
        by_cases e7 : kd = 7
        · have HR : Hid (R = onceS l' nm) := Lib.hid (by rw [HSE.out, if_pos (.inr e7), HF2.out])
          have t7 : (kd == 7) = true := int_eqb e7
          clear e5 e7
          go_wp2_with fail
          refine HON.out.mono ?_
          rintro e w5 ⟨v5, rfl, ho5, ha5, -⟩
          go_wp2
          go_ret
          exact ⟨_, rfl, by rw [HR.out]; exact ho5, HAP.out _ _ (HAr.out.trans ha5)⟩
        · have HR : Hid (R = l') := Lib.hid (by rw [HSE.out, if_neg (by rintro (h | h) <;> contradiction), HF2.out])
          have t7 : (kd == 7) = false := int_neb e7
          clear e5 e7
          go_wp2
          go_ret
          exact ⟨_, rfl, by rw [HR.out]; exact HOr.out, HAP.out _ _ HAr.out⟩
theorem sel_any : ∀ f, SelSaid f
  | 0 => fun t => t.elim
  | f + 1 => sel_step f (sel_any f)
set_option maxRecDepth 20000 in
set_option maxHeartbeats 4000000 in
theorem selR_step (f : Nat) (ih : SelRSaid f) : SelRSaid (f + 1) := by
  intro t cs B base v l w hT hO hBb hbw hlen
  obtain ⟨A1, c1, A2, c2, A3, c3, css, rfl, p1, p2, p3, p4, p5⟩ := hT
  have hlen : l.length + (1 + t.names.length + t.temps.length + (t.nodes.map (wtT f)).sum) ≤ 4000000 := hlen
  have P3 : Hid (NodesAt f w B A3 t.nodes) := Lib.hid ⟨css, p3, p4, p5⟩
  have HSE := Lib.hid (selT_eq f l t)
  have IH := Lib.hid ih
  have HO := Lib.hid hO
  clear p1 p2 p3 p4 p5 ih hO
  generalize selT (f + 1) l t = R at *
  obtain ⟨kd, nm, ns, ts, xs, pr, pl⟩ := t
  dsimp only at *
  have hx2 : xs.length ≤ 4000000 := Nat.le_trans (wt_nodes f xs) (by omega)
  have HW : Hid (l.length + (xs.map (wtT f)).sum ≤ 4000000) := Lib.hid (by omega)
  clear hlen
  obtain ⟨A, c, rfl, -, -⟩ := OwnS.form HO.out
  go_enter Try.func12, Try.ntmps12
  go_wp2
  generalize hw1 : w.alloc (.cells #[.int .i64 kd, .string nm, .slice A1 ns.length c1, .slice A2 ts.length c2, .slice A3 xs.length c3, .int .i64 pr, .int .i64 pl] 26) = w1
  have HA : Hid (Blk w1 w.heap.size 26 #[.int .i64 kd, .string nm, .slice A1 ns.length c1, .slice A2 ts.length c2, .slice A3 xs.length c3, .int .i64 pr, .int .i64 pl]) := Lib.hid (by rw [← hw1]; exact Blk.new w 26 _)
  have HO1 : Hid (OwnS w1 base (.slice A l.length c) l) := Lib.hid (by rw [← hw1]; exact World.ownsRow.alloc HO.out _)
  have P1 : Hid (NodesAt f w1 B A3 xs) := Lib.hid (by rw [← hw1]; exact P3.out.below ((Below.refl _ _).alloc (Nat.le_trans hBb hbw) _))
  have hbw1 : base ≤ w1.heap.size := by rw [← hw1]; simp; omega
  have HBK : Hid ((Value.slice A l.length c).ownBlock ≠ some w.heap.size) := Lib.hid (own_blk_ne HO1.out HA.out (by decide))
  have HAP : Hid (∀ v' w', App w1 (.slice A l.length c) w' v' → App w (.slice A l.length c) w' v') := Lib.hid (by intro v' w' h; rw [← hw1] at h; exact h.from)
  clear hw1
  go_loopw [1, 5] (fun u i wr => ∃ k : Nat, i = .int .i64 k ∧ SelAt f w1 base (.slice A l.length c) l xs k u wr) (fun u i _ => xs.length - (intOf i).toNat)
  case atStart => exact ⟨0, rfl, Nat.zero_le _, l, HO1.out, App.refl _ _, rfl, by simpa using HW.out⟩
  case round =>
    obtain ⟨k, rfl, hk, l', ho, ha, hf, hs⟩ := hrel
    have HOr := Lib.hid ho
    have HAr := Lib.hid ha
    have HF := Lib.hid hf
    have HS := Lib.hid hs
    obtain ⟨Ar, cr, rfl, -, -⟩ := OwnS.form ho
    have k0 : wr.cell? ⟨w.heap.size, 0, none⟩ = some (.int .i64 kd) := (ha.blk HA.out HBK.out).cell 0
    have k1 : wr.cell? ⟨w.heap.size, 1, none⟩ = some (.string nm) := (ha.blk HA.out HBK.out).cell 1
    have k4 : wr.cell? ⟨w.heap.size, 4, none⟩ = some (.slice A3 xs.length c3) := (ha.blk HA.out HBK.out).cell 4
    have hbr : base ≤ wr.heap.size := Nat.le_trans hbw1 ha.size
    have HB : Hid (Below B w1 wr) := Lib.hid ((ha.below hbw1 fun k hk => OwnS.base HO1.out hk).mono hBb)
    obtain ⟨css1, q1, q2, q3⟩ := P1.out.below HB.out
    clear ho ha hf hs
    by_cases hkl : k < xs.length
    · obtain ⟨b1, o1, x0, x1, x2, x3, x4, x5, x6, rfl, hbk1, n1, a0, a1, a2, a3, a4, a5, a6⟩ := NodeAt.sub q1 q2 q3 hkl
      obtain ⟨ka', na', Aa1, na1, ca1, Aa2, na2, ca2, Aa3, na3, ca3, pa', pla', rfl, rfl, rfl, rfl, rfl, rfl, rfl⟩ := n1.forms
      have N1 := Lib.hid n1
      clear q1 q2 q3 n1
      have z1 : b1 < wr.heap.size := by omega
      have l1 : (0 : Int) ≤ (k : Int) := by omega
      have l2 : (k : Int) < (xs.length : Int) := by omega
      have HFD : Hid ((xs.drop (k + 1)).foldl (selT f) (selT f l' xs[k]) = xs.foldl (selT f) l) := Lib.hid (by rw [← HF.out, fold_drop _ hkl])
      have HSD : Hid (l'.length + (wtT f xs[k] + ((xs.drop (k + 1)).map (wtT f)).sum) ≤ 4000000) := Lib.hid (by rw [← sum_drop (wtT f) hkl]; exact HS.out)
      have HLT := Lib.hid (selT_len f l' xs[k])
      have HIH := Lib.hid (IH.out xs[k] _ B base _ l' wr N1.out HOr.out hBb hbr (by have := HSD.out; omega))
      clear k0 k1
      go_wp2_with fail
      refine HIH.out.mono ?_
      rintro e w5 ⟨v5, rfl, ho5, ha5⟩
      have HO5 := Lib.hid ho5
      have HA5 : Hid (App w1 (.slice A l.length c) w5 v5) := Lib.hid (HAr.out.trans ha5)
      clear ho5 ha5 HIH
      go_wp2
      go_roundw
      case rel => exact ⟨k + 1, by go_num, hkl, selT f l' xs[k], HO5.out, HA5.out, HFD.out, by have := HSD.out; have := HLT.out; omega⟩
      case measure => simp [intOf]; omega
    · have HF2 : Hid (l' = xs.foldl (selT f) l) := Lib.hid (by have h := HF.out; rw [List.drop_eq_nil_of_le (by omega)] at h; exact h)
      have hl8 : l'.length ≤ 100000000 := by have := HS.out; omega
      have HON := Lib.hid (rOnce_any base _ l' nm wr HOr.out hl8 hbr)
      clear q1 q2 q3 hl8
      by_cases e5 : kd = 5
      · have HR : Hid (R = onceS l' nm) := Lib.hid (by rw [HSE.out, if_pos (.inl e5), HF2.out])
        have t5 : (kd == 5) = true := int_eqb e5
        clear e5
        go_wp2_with fail
        refine HON.out.mono ?_
        rintro e w5 ⟨v5, rfl, ho5, ha5, -⟩
        go_wp2
        go_ret
        exact ⟨_, rfl, by rw [HR.out]; exact ho5, HAP.out _ _ (HAr.out.trans ha5)⟩
      · have t5 : (kd == 5) = false := int_neb e5
        by_cases e7 : kd = 7
        · have HR : Hid (R = onceS l' nm) := Lib.hid (by rw [HSE.out, if_pos (.inr e7), HF2.out])
          have t7 : (kd == 7) = true := int_eqb e7
          clear e5 e7
          go_wp2_with fail
          refine HON.out.mono ?_
          rintro e w5 ⟨v5, rfl, ho5, ha5, -⟩
          go_wp2
          go_ret
          exact ⟨_, rfl, by rw [HR.out]; exact ho5, HAP.out _ _ (HAr.out.trans ha5)⟩
        · have HR : Hid (R = l') := Lib.hid (by rw [HSE.out, if_neg (by rintro (h | h) <;> contradiction), HF2.out])
          have t7 : (kd == 7) = false := int_neb e7
          clear e5 e7
          go_wp2
          go_ret
          exact ⟨_, rfl, by rw [HR.out]; exact HOr.out, HAP.out _ _ HAr.out⟩
theorem selR_any : ∀ f, SelRSaid f
  | 0 => fun t => t.elim
  | f + 1 => selR_step f (selR_any f)
end Go.Proofs.Ytaigfelpecdajaa
