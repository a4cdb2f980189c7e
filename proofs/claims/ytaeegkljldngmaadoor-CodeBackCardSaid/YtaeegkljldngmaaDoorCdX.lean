/-
  The program's Encode f10 once more, at greater lengths. No statement of the seat is proved here.
-/
import Derived.Test.YtaeegkljldngmaaDoorCdH
namespace Go.Proofs.YtaeegkljldngmaaDoor
open Go.RowKit
namespace Big
set_option maxRecDepth 20000 in
set_option maxHeartbeats 1000000 in
theorem lay_any (base : Nat) (v : Value) (xs : List UInt8) (lb m c : Nat) (zs : List Int) (w : World) (hv : OwnB 5 w base v xs) (hb : base ≤ w.heap.size)
    (hl : Blk w lb 3 (zs.map iv).toArray) (hm : m = zs.length) (hns : zs.length ≤ 1000) (hsz : xs.length ≤ 70368744177664) :
    Calls Tryd.prog 34 #[v, .slice (some ⟨lb, 0, none⟩) m c] w fun e w' => ∃ v', e = .returned v' ∧ OwnB 5 w' base v' (xs ++ zs.map by8) ∧ App w v w' v' := by
  subst hm
  have hne : v.ownBlock ≠ some lb := own_blk_ne hv hl (by decide)
  go_enter Tryd.func34, Tryd.ntmps34
  go_wp2
  go_loopw [0, 9] (fun u i wr => ∃ k : Nat, k ≤ zs.length ∧ i = .int .i64 k ∧ OwnB 5 wr base u (xs ++ (zs.take k).map by8) ∧ App w v wr u) (fun _ i _ => zs.length - (intOf i).toNat)
  case atStart => exact ⟨0, Nat.zero_le _, rfl, by simpa using hv, App.refl _ _⟩
  case round =>
    obtain ⟨k, hk, rfl, hown, happ⟩ := hrel
    by_cases hlt : k < zs.length
    · obtain ⟨n, hx⟩ : ∃ n, zs[k]? = some n := ⟨_, List.getElem?_eq_getElem hlt⟩
      have hcell : wr.cell? ⟨lb, k, none⟩ = some (.int .i64 n) := by
        rw [(happ.blk hl hne).cell k]
        simp [iv, hx]
      have HT : Hid ((xs ++ (zs.take k).map by8) ++ [by8 n] = xs ++ (zs.take (k + 1)).map by8) := Lib.hid (by
        have := List.take_succ_eq_append_getElem hlt
        rw [List.getElem?_eq_getElem hlt] at hx
        injection hx with hx
        rw [this, hx]
        simp)
      have hlen : (xs ++ (zs.take k).map by8).length ≤ 70368744178664 := by simp; omega
      have HL := Lib.hid hlen
      have hw8 := wrap8 n
      have hba := Nat.le_trans hb happ.size
      clear hlen hx
      generalize by8 n = x at hw8 HT
      generalize hys : xs ++ (zs.take k).map by8 = ys at hown HT HL
      have HY := Lib.hid hys
      clear hys
      go_wp2_with (at_builtin; refine wpList_app rfl _ _ _ rfl base 5 info5 Tryd.underlying24 _ ys rfl (hown.alloc _) _ _ _ _ [x] rfl (Reads.built _ _ [bv x]) (by have := HL.out; simp; omega) (by simp; omega) ?_; intro v1 w1 hown3 happ3)
      go_roundw
      case rel => exact ⟨k + 1, by omega, by go_num, by rw [← HT.out]; exact hown3, happ.trans happ3.from⟩
      case measure => simp [intOf]; omega
    · have HE := Lib.hid (List.take_of_length_le (by omega) : zs.take k = zs)
      go_wp2
      go_ret
      exact ⟨_, rfl, by rw [HE.out] at hown; exact hown, happ⟩

set_option maxRecDepth 20000 in
/-- one lay behind another -/
theorem lay_enc {w wr : World} {base b0 b1 : Nat} {v u : Value} {ec xc : Array Value} {ys : List UInt8} (h : EncR w base v b0 b1 ec xc u ys wr) (hb : base ≤ wr.heap.size) (zs : List Int) (m lb : Nat) (hm : m = zs.length) (hlb : lb = wr.heap.size) (hl : zs.length ≤ 1000) (hy : ys.length ≤ 70368744177664) :
    Calls Tryd.prog 34 #[u, .slice (some ⟨lb, 0, none⟩) m m] (wr.alloc (.cells (zs.map iv).toArray 3)) fun e w' => ∃ u', e = .returned u' ∧ EncR w base v b0 b1 ec xc u' (ys ++ zs.map by8) w' := by
  subst hlb
  exact (lay_any base u ys wr.heap.size m m zs _ (h.own.alloc _) (by simp; omega) (Blk.new wr 3 _) hm hl hy).mono fun e w' ⟨u', he, ho, ha⟩ => ⟨u', he, (h.alloc _).step ho ha⟩
set_option maxRecDepth 100000 in
set_option maxHeartbeats 8000000 in
theorem encode_any (base : Nat) (v : Value) (xs : List UInt8) (e : En) (x : Ins) (w : World) (hv : OwnB 5 w base v xs) (hb : base ≤ w.heap.size) (h : HasOk e.has) (hsz : xs.length ≤ 35184372088832) :
    Calls Tryd.prog 16 #[v, e.val, x.val] w fun r w' => ∃ v', r = .returned v' ∧ OwnB 5 w' base v' (xs ++ layH e.has x) ∧ App w v w' v' := by
  obtain ⟨nm, has, take, put, ends⟩ := e
  dsimp only at h
  simp only [En.val, Ins.val]
  have HL3 : Hid (layH has x = layK has x 3 ++ (if hT has then [by8 (x.z / 256), by8 x.z] else [])) := Lib.hid rfl
  have HL : Hid (∀ k, layK has x (k + 1) = layK has x k ++ (if has3 has k then [by8 (sel3 x k)] else [])) := Lib.hid fun k => rfl
  have HLL := Lib.hid fun k => layK_len has x k
  have HL0 : Hid (layK has x 0 = [by8 x.op]) := Lib.hid rfl
  generalize hX : sel3 x = sx at *
  have s0 : sx 0 = x.a := by rw [← hX]; rfl
  have s1 : sx 1 = x.b := by rw [← hX]; rfl
  have s2 : sx 2 = x.c := by rw [← hX]; rfl
  rw [← s0, ← s1, ← s2]
  clear hX s0 s1 s2
  have h0 : EncR w base v w.heap.size (w.heap.size + 1) #[.string nm, .int .i64 has, .int .i64 take, .int .i64 put, .bool ends] #[.int .i64 x.op, .int .i64 (sx 0), .int .i64 (sx 1), .int .i64 (sx 2), .int .i64 x.z] v xs ((w.alloc (.cells #[.string nm, .int .i64 has, .int .i64 take, .int .i64 put, .bool ends] 50)).alloc (.cells #[.int .i64 x.op, .int .i64 (sx 0), .int .i64 (sx 1), .int .i64 (sx 2), .int .i64 x.z] 34)) :=
    ⟨(hv.alloc _).alloc _, ((App.refl w v).alloc _).alloc _, (Blk.new w _ _).alloc _, Blk.new' _ _ _ _ (by simp)⟩
  have H1 := Lib.hid (lay_enc h0 (by simp; omega) [x.op] 1 (w.heap.size + 2) rfl (by simp) (by simp) (by omega))
  have HSZ := Lib.hid hsz
  have HV := Lib.hid hv
  clear hsz h0 hv
  go_enter Tryd.func16, Tryd.ntmps16
  go_wp2_with fail
  refine H1.out.mono ?_
  rintro r w1 ⟨v1, rfl, hr1⟩
  have HR1 : Hid (EncR w base v w.heap.size (w.heap.size + 1) #[.string nm, .int .i64 has, .int .i64 take, .int .i64 put, .bool ends] #[.int .i64 x.op, .int .i64 (sx 0), .int .i64 (sx 1), .int .i64 (sx 2), .int .i64 x.z] v1 (xs ++ layK has x 0) w1) := Lib.hid (by rw [HL0.out]; exact hr1)
  have c1 : w1.cell? ⟨w.heap.size + 1, 1, none⟩ = some (.int .i64 (sx 0)) := hr1.xb.cell 1
  have c2 : w1.cell? ⟨w.heap.size + 1, 2, none⟩ = some (.int .i64 (sx 1)) := hr1.xb.cell 2
  have c3 : w1.cell? ⟨w.heap.size + 1, 3, none⟩ = some (.int .i64 (sx 2)) := hr1.xb.cell 3
  clear hr1 H1
  go_wp2
  clear c1 c2 c3
  go_loopw [0, 21] (fun u i wr => ∃ k : Nat, k ≤ 3 ∧ i = .int .i64 k ∧ EncR w base v w.heap.size (w.heap.size + 1) #[.string nm, .int .i64 has, .int .i64 take, .int .i64 put, .bool ends] #[.int .i64 x.op, .int .i64 (sx 0), .int .i64 (sx 1), .int .i64 (sx 2), .int .i64 x.z] u (xs ++ layK has x k) wr) (fun _ i _ => 3 - (intOf i).toNat)
  case atStart => exact ⟨0, by omega, rfl, HR1.out⟩
  case round =>
    obtain ⟨k, hk, rfl, hR⟩ := hrel
    have HR := Lib.hid hR
    have c74 : wr.cell? ⟨w.heap.size, 1, none⟩ = some (.int .i64 has) := hR.eb.cell 1
    have hws := hR.app.size
    by_cases hk3 : k = 3
    · subst hk3
      have c4 : wr.cell? ⟨w.heap.size + 1, 4, none⟩ = some (.int .i64 x.z) := hR.xb.cell 4
      clear hR
      simp only [show ((3 : Nat) : Int) = 3 from rfl]
      have H2 := Lib.hid (lay_enc HR.out (by omega) [x.z / 256, x.z] 2 wr.heap.size rfl rfl (by simp) (by have := HSZ.out; have := (HLL.out 3).1; simp; omega))
      obtain rfl | rfl | rfl | rfl | rfl := h
      all_goals go_wp2_with fail
      all_goals first
        | (go_ret; exact ⟨_, rfl, by have := HR.out.own; rw [show layH _ x = _ from HL3.out]; simpa [hT] using this, HR.out.app⟩)
        | (refine H2.out.mono ?_; rintro r w2 ⟨v2, rfl, hr2⟩; have HR2 := Lib.hid hr2; clear hr2; go_wp2; go_ret; exact ⟨_, rfl, by have := HR2.out.own; rw [show layH _ x = _ from HL3.out]; simpa [hT] using this, HR2.out.app⟩)
    · have hkk : k < 3 := by omega
      clear hR
      have HLk := Lib.hid (HL.out k)
      have H2 := Lib.hid fun n => lay_enc (HR.out.drewN n) (by simp; omega) [sx k] 1 wr.heap.size rfl rfl (by simp) (by have := HSZ.out; have := (HLL.out k).1; simp; omega)
      have x0 := idx0
      have x1 := idx1
      have x2 := idx2
      obtain rfl | rfl | rfl : k = 0 ∨ k = 1 ∨ k = 2 := by omega
      all_goals obtain rfl | rfl | rfl | rfl | rfl := h
      all_goals simp only [show ((0 : Nat) : Int) = 0 from rfl, show ((1 : Nat) : Int) = 1 from rfl, show ((2 : Nat) : Int) = 2 from rfl]
      all_goals go_wp2
      all_goals go_quiet (fail)
      all_goals go_wp2_with (go_at_call 34; refine (H2.out _).mono ?_; rintro r w2 ⟨v2, rfl, hr2⟩)
      all_goals first
        | (go_roundw; (case rel => exact ⟨1, by omega, rfl, by first | (rw [show layK _ x 1 = _ from HLk.out, ← List.append_assoc]; exact hr2) | (rw [show layK _ x 1 = _ from HLk.out]; simpa [has3, hA, hB, hC] using HR.out.drewN _)⟩); (case measure => decide))
        | (go_roundw; (case rel => exact ⟨2, by omega, rfl, by first | (rw [show layK _ x 2 = _ from HLk.out, ← List.append_assoc]; exact hr2) | (rw [show layK _ x 2 = _ from HLk.out]; simpa [has3, hA, hB, hC] using HR.out.drewN _)⟩); (case measure => decide))
        | (go_roundw; (case rel => exact ⟨3, by omega, rfl, by first | (rw [show layK _ x 3 = _ from HLk.out, ← List.append_assoc]; exact hr2) | (rw [show layK _ x 3 = _ from HLk.out]; simpa [has3, hA, hB, hC] using HR.out.drewN _)⟩); (case measure => decide))

set_option maxRecDepth 100000 in
set_option maxHeartbeats 4000000 in
theorem Encode_any (A : Option Addr) (n c : Nat) (l : List Ins) (w : World) (hl : RdI w w.heap.size A n l) (hn : n ≤ 3518437208883) : Calls Tryd.prog 5 #[.slice A n c] w (EncP (encF [] l) w) := by
  obtain ⟨R, hR⟩ : ∃ R, encF [] l = R := ⟨_, rfl⟩
  rw [hR]
  have HR := Lib.hid hR
  have HL := Lib.hid hl
  have hln := hl.1
  have z74 := zero50
  have z43 := zero34
  subst hln
  clear hR hl
  go_enter Tryd.func5, Tryd.ntmps5
  go_wp2
  go_loopw [4, 11] (fun u i wr => ∃ (k : Nat) (acc : List UInt8), k ≤ l.length ∧ i = .int .i64 k ∧ OwnB 5 wr w.heap.size u acc ∧ Below w.heap.size w wr ∧ acc.length ≤ 6 * k ∧ encF acc (l.drop k) = R) (fun _ i _ => l.length - (intOf i).toNat)
  case atStart => exact ⟨0, [], by omega, rfl, OwnB.nil 5 _ _, Below.refl _ _, by simp, HR.out⟩
  case round =>
    obtain ⟨k, acc, hk, rfl, hown, hbel, hacc, hrest⟩ := hrel
    have HB := Lib.hid hbel
    have HO := Lib.hid hown
    have hws := hbel.size
    obtain ⟨Au, cu, rfl, hc1, hc2⟩ := hown.form
    clear hbel hown
    by_cases hlt : k < l.length
    · obtain ⟨x, hx⟩ : ∃ x, l[k]? = some x := ⟨_, List.getElem?_eq_getElem hlt⟩
      have hd : l.drop k = x :: l.drop (k + 1) := by
        rw [List.drop_eq_getElem_cons hlt]
        rw [List.getElem?_eq_getElem hlt] at hx
        injection hx with hx
        rw [hx]
      rw [hd] at hrest
      have HE := Lib.hid hrest
      obtain ⟨b, o, rfl, hb, hcs⟩ := (HL.out.below HB.out).2 k x hx
      obtain ⟨e0, e1, e2, e3, e4⟩ := cs43 hcs
      clear hrest hd hx hcs
      obtain ⟨op, a1, a2, a3, a4⟩ := x
      dsimp only at e0 e1 e2 e3 e4
      have l1 : (0 : Int) ≤ (k : Int) := by omega
      have l2 : (k : Int) < (l.length : Int) := by omega
      have hbw : b < wr.heap.size := by omega
      cases ho : inO op with
      | false =>
        have HM : Hid ((50, []) = R) := Lib.hid (by
          have := HE.out
          unfold encF at this
          rw [if_neg (by simp [mayE, ho])] at this
          simpa [mayE, ho] using this)
        have H30 := Lib.hid (show ∀ w, Calls Tryd.prog 14 #[.int .i64 op] w (fun e w' => e = .returned (.tuple #[.agg #[.string ⟨#[]⟩, .int .i64 0, .int .i64 0, .int .i64 0, .bool false], .bool false]) ∧ Below w.heap.size w w') from fun w => ops_no op w (inO_no ho))
        clear HE ho
        go_wp2_with fail
        refine (H30.out _).mono ?_
        rintro e w1 ⟨rfl, hb1⟩
        have HB1 : Hid (Below w.heap.size w w1) := Lib.hid ((HB.out.alloc HB.out.size _).trans (hb1.mono (by simp; omega)))
        clear hb1
        go_wp2
        go_ret2
        exact EncP.bad_ HM.out (HB1.out.alloc HB1.out.size _)
      | true =>
        have HOK := Lib.hid (hasOk_ent op ho)
        have HH := Lib.hid (hasO_ent ho)
        have h30 := (show ∀ w, Calls Tryd.prog 14 #[.int .i64 op] w (fun e w' => e = .returned (.tuple #[.agg #[.string (ent op).nm, .int .i64 (ent op).has, .int .i64 (ent op).take, .int .i64 (ent op).put, .bool (ent op).ends], .bool true]) ∧ Below w.heap.size w w') from fun w => by
          have h := ops_any op w
          rw [ho] at h
          exact h)
        have HE2 : Hid ((if fitH (ent op).has ⟨op, a1, a2, a3, a4⟩ = true then encF (acc ++ layH (ent op).has ⟨op, a1, a2, a3, a4⟩) (l.drop (k + 1)) else (51, [])) = R) := Lib.hid (by
          have := HE.out
          unfold encF at this
          simp only [mayE, ho, layI, HH.out] at this
          by_cases hf : fitH (ent op).has ⟨op, a1, a2, a3, a4⟩ = true
          · rw [if_pos hf]; simpa [hf] using this
          · rw [if_neg hf]; simpa [hf] using this)
        generalize ent op = en at *
        have h31 := fun w => fits_ok en ⟨op, a1, a2, a3, a4⟩ w HOK.out
        have h32 := fun v xs w hv hb hsz => encode_any w.heap.size v xs en ⟨op, a1, a2, a3, a4⟩ w hv hb HOK.out hsz
        obtain ⟨nm, has, take, put, ends⟩ := en
        dsimp only [Ins.val, En.val] at h30 h31 h32
        dsimp only at HE2
        have H30 := Lib.hid h30
        have H31 := Lib.hid h31
        have H32 := Lib.hid h32
        clear h30 h31 h32 HE ho HH
        have HC : Hid (acc.length ≤ 6 * k) := Lib.hid hacc
        clear hacc
        go_wp2_with fail
        refine (H30.out _).mono ?_
        rintro e w1 ⟨rfl, hb1⟩
        have HX1 := Lib.hid ((Blk.new wr 34 #[.int .i64 op, .int .i64 a1, .int .i64 a2, .int .i64 a3, .int .i64 a4]).below hb1 (by simp))
        have HB1 : Hid (Below w.heap.size w w1) := Lib.hid ((HB.out.alloc HB.out.size _).trans (hb1.mono (by simp; omega)))
        have HO1 : Hid (Below wr.heap.size wr w1) := Lib.hid (((Below.refl _ _).alloc (Nat.le_refl _) _).trans (hb1.mono (by simp)))
        have hz1 : wr.heap.size < w1.heap.size := HX1.out.lt
        have f0 : w1.cell? ⟨wr.heap.size, 0, none⟩ = some (.int .i64 op) := HX1.out.cell 0
        have f1 : w1.cell? ⟨wr.heap.size, 1, none⟩ = some (.int .i64 a1) := HX1.out.cell 1
        have f2 : w1.cell? ⟨wr.heap.size, 2, none⟩ = some (.int .i64 a2) := HX1.out.cell 2
        have f3 : w1.cell? ⟨wr.heap.size, 3, none⟩ = some (.int .i64 a3) := HX1.out.cell 3
        have f4 : w1.cell? ⟨wr.heap.size, 4, none⟩ = some (.int .i64 a4) := HX1.out.cell 4
        clear hb1
        go_wp2_with fail
        refine (H31.out _).mono ?_
        rintro e w2 ⟨rfl, hb2⟩
        clear f0 f1 f2 f3 f4
        have HX2 := Lib.hid ((HX1.out.alloc (.cells #[.string nm, .int .i64 has, .int .i64 take, .int .i64 put, .bool ends] 50)).below hb2 (by simp; omega))
        have HY2 := Lib.hid ((Blk.new w1 50 #[.string nm, .int .i64 has, .int .i64 take, .int .i64 put, .bool ends]).below hb2 (by simp))
        have HB2 : Hid (Below w.heap.size w w2) := Lib.hid ((HB1.out.alloc HB1.out.size _).trans (hb2.mono (by have := HB1.out.size; simp; omega)))
        have HO2 : Hid (Below wr.heap.size wr w2) := Lib.hid ((HO1.out.alloc HO1.out.size _).trans (hb2.mono (by have := HO1.out.size; simp; omega)))
        clear hb2
        cases hf : fitH has ⟨op, a1, a2, a3, a4⟩ with
        | false =>
          have HM : Hid ((51, []) = R) := Lib.hid (by have := HE2.out; rwa [if_neg (by rw [hf]; simp)] at this)
          clear hf
          go_wp2
          go_ret2
          exact EncP.bad_ HM.out HB2.out
        | true =>
          have HM := Lib.hid (show encF (acc ++ layH has ⟨op, a1, a2, a3, a4⟩) (l.drop (k + 1)) = R by have := HE2.out; rwa [if_pos hf] at this)
          clear hf
          have f0 : w2.cell? ⟨wr.heap.size, 0, none⟩ = some (.int .i64 op) := HX2.out.cell 0
          have f1 : w2.cell? ⟨wr.heap.size, 1, none⟩ = some (.int .i64 a1) := HX2.out.cell 1
          have f2 : w2.cell? ⟨wr.heap.size, 2, none⟩ = some (.int .i64 a2) := HX2.out.cell 2
          have f3 : w2.cell? ⟨wr.heap.size, 3, none⟩ = some (.int .i64 a3) := HX2.out.cell 3
          have f4 : w2.cell? ⟨wr.heap.size, 4, none⟩ = some (.int .i64 a4) := HX2.out.cell 4
          have g0 : w2.cell? ⟨w1.heap.size, 0, none⟩ = some (.string nm) := HY2.out.cell 0
          have g1 : w2.cell? ⟨w1.heap.size, 1, none⟩ = some (.int .i64 has) := HY2.out.cell 1
          have g2 : w2.cell? ⟨w1.heap.size, 2, none⟩ = some (.int .i64 take) := HY2.out.cell 2
          have g3 : w2.cell? ⟨w1.heap.size, 3, none⟩ = some (.int .i64 put) := HY2.out.cell 3
          have g4 : w2.cell? ⟨w1.heap.size, 4, none⟩ = some (.bool ends) := HY2.out.cell 4
          have HOW : Hid (OwnB 5 w2 w.heap.size (.slice Au acc.length cu) acc) := Lib.hid (World.ownsRow.kept HO.out (only_of_below HO2.out none) (by cases (Value.slice Au acc.length cu).ownBlock <;> simp))
          have H32b := Lib.hid (encode_any w.heap.size (.slice Au acc.length cu) acc ⟨nm, has, take, put, ends⟩ ⟨op, a1, a2, a3, a4⟩ w2 HOW.out HB2.out.size HOK.out (by have := HC.out; omega))
          go_wp2_with fail
          refine H32b.out.mono ?_
          rintro e w3 ⟨v3, rfl, ho3, ha3⟩
          have HO3 := Lib.hid ho3
          have HB3 := Lib.hid (HB2.out.trans (ha3.below HB2.out.size fun k hk => (World.ownsRow.lt HOW.out k hk).1))
          have HLE := layH_len has ⟨op, a1, a2, a3, a4⟩
          clear ho3 ha3 f0 f1 f2 f3 f4 g0 g1 g2 g3 g4 hbw hb
          go_wp2
          go_roundw
          case rel => exact ⟨k + 1, _, by omega, by go_num, HO3.out, HB3.out, by have := HC.out; simp; omega, HM.out⟩
          case measure => simp [intOf]; omega
    · have hke : l.drop k = [] := List.drop_eq_nil_of_le (by omega)
      rw [hke] at hrest
      unfold encF at hrest
      by_cases h32 : 32767 < acc.length
      · rw [if_pos h32] at hrest
        have HM := Lib.hid hrest
        clear hrest
        go_wp2
        go_ret2
        exact EncP.bad_ HM.out HB.out
      · rw [if_neg h32] at hrest
        have HM := Lib.hid hrest
        clear hrest
        go_wp2
        go_ret2
        exact EncP.ok_ HM.out HO.out HB.out
end Big
end Go.Proofs.YtaeegkljldngmaaDoor
