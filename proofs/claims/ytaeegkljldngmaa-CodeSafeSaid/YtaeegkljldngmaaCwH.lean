/-
  The document's Decode f25. No statement of the seat is proved here.
-/
import Derived.Test.YtaeegkljldngmaaCwE
namespace Go.Proofs.Ytaeegkljldngmaa
open Go.RowKit

def z16 (x y : Int) : Int := if 32768 ≤ x * 256 + y then x * 256 + y - 65536 else x * 256 + y
theorem insAt_cases (bs : List UInt8) (i : Nat) : (hasO (bAt bs i) = 0 ∧ insAt bs i = ⟨bAt bs i, 0, 0, 0, 0⟩) ∨ (hasO (bAt bs i) = 1 ∧ insAt bs i = ⟨bAt bs i, bAt bs (i + 1), 0, 0, 0⟩) ∨ (hasO (bAt bs i) = 3 ∧ insAt bs i = ⟨bAt bs i, bAt bs (i + 1), bAt bs (i + 2), 0, 0⟩) ∨ (hasO (bAt bs i) = 8 ∧ insAt bs i = ⟨bAt bs i, 0, 0, 0, z16 (bAt bs (i + 1)) (bAt bs (i + 2))⟩) ∨ (hasO (bAt bs i) = 15 ∧ insAt bs i = ⟨bAt bs i, bAt bs (i + 1), bAt bs (i + 2), bAt bs (i + 3), z16 (bAt bs (i + 4)) (bAt bs (i + 5))⟩) := by
  rcases hasOk_O (bAt bs i) with e | e | e | e | e
  · exact .inl ⟨e, by unfold insAt; rw [e]; rfl⟩
  · exact .inr (.inl ⟨e, by unfold insAt; rw [e]; rfl⟩)
  · exact .inr (.inr (.inl ⟨e, by unfold insAt; rw [e]; rfl⟩))
  · exact .inr (.inr (.inr (.inl ⟨e, by unfold insAt; rw [e]; rfl⟩)))
  · exact .inr (.inr (.inr (.inr ⟨e, by unfold insAt; rw [e]; rfl⟩)))
theorem set_lit (w : World) (n : Nat) (cs ds : Array Value) (t : TypeId) (v : Value) (h : cs.setIfInBounds 4 v = ds) : ((w.alloc (.cells cs t)).drewN n).setCell ⟨w.heap.size, 4, none⟩ v = (w.alloc (.cells ds t)).drewN n := by
  subst h
  rw [← World.setCell_alloc_new]
  rfl
set_option maxRecDepth 100000 in
set_option maxHeartbeats 8000000 in
theorem Rdecode_any (A : Option Addr) (n c : Nat) (bs : List UInt8) (w : World) (hr : RdB w w.heap.size A n bs) : Calls Try.prog 25 #[.slice A n c] w (DcP (decL bs) w) := by
  have hlen := hr.len1
  by_cases hbig : 32767 < n
  · have HF : Hid (decL bs = ([], [], 0, 2)) := Lib.hid (by unfold decL; rw [if_pos (by omega)])
    have hb1 : (32767 : Int) < (n : Int) := by omega
    clear hr hlen hbig
    go_enter Try.func25, Try.ntmps25
    go_wp2
    exact dc_end Try.results25 rfl rfl rfl rfl (DcP.bad_ (p := 0) HF.out (Below.refl _ _))
  · have hn : n ≤ 32767 := by omega
    obtain ⟨R, hR⟩ : ∃ R, decF bs (bs.length + 1) 0 [] [] = R := ⟨_, rfl⟩
    have HT : Hid (decL bs = R) := Lib.hid (by unfold decL; rw [if_neg (by omega)]; exact hR)
    have HR := Lib.hid hR
    have HRD := Lib.hid hr
    have HLN := Lib.hid hlen
    have z43 := zero43
    clear hR hbig hr hlen
    go_enter Try.func25, Try.ntmps25
    go_wp2
    go_loopg [6, 7, 8] (bs.length + 1) (fun f s6 s7 s8 wr => ∃ (i : Nat) (l : List Ins) (ps : List Nat), s8 = .int .i64 (i : Int) ∧ n < i + f ∧ i ≤ n ∧ l.length ≤ i ∧ ps.length = l.length ∧ OwnIn wr w.heap.size s6 l ∧ OwnZ wr w.heap.size s7 (natZ ps) ∧ Below w.heap.size w wr ∧ decF bs f i l ps = R)
    case atStart => exact ⟨0, [], [], rfl, by have := HLN.out; omega, Nat.zero_le _, Nat.le_refl _, rfl, World.ownsRow_nil _ _ _ _, World.ownsRow_nil _ _ _ _, Below.refl _ _, HR.out⟩
    case round =>
      obtain ⟨i, l, ps, rfl, hif, hin, hli, hpl, hol, hop, hB, hdec⟩ := hrel
      obtain ⟨A1, c1, rfl, hx1, hx2⟩ := own_form hol
      obtain ⟨A2, c2, rfl, hx3, hx4⟩ := own_form hop
      have HOL := Lib.hid hol
      have HOP := Lib.hid hop
      have HB := Lib.hid hB
      have HL := Lib.hid hdec
      have HPL := Lib.hid hpl
      have hws := hB.size
      have hpn : (natZ ps).length ≤ n := by simp [natZ]; omega
      clear hol hop hB hdec hpl hx1 hx2 hx3 hx4
      by_cases hlt : i < n
      · obtain ⟨f, rfl⟩ : ∃ f, gk = f + 1 := ⟨gk - 1, by omega⟩
        have HNEXT : Hid (okAt bs i = true → decF bs f (i + (insAt bs i).size) (l ++ [insAt bs i]) (ps ++ [i]) = R) := Lib.hid fun h => by
          have := HL.out
          unfold decF at this
          rw [if_neg (by rw [HLN.out]; omega), if_pos h] at this
          exact this
        have HBAD : Hid (okAt bs i = false → R = ([], [], i, 50)) := Lib.hid fun h => by
          have := HL.out
          unfold decF at this
          rw [if_neg (by rw [HLN.out]; omega), h] at this
          exact this.symm
        have HBY : Hid (∀ k, i + k < n → ∃ b o, A = some ⟨b, o, none⟩ ∧ b < wr.heap.size ∧ wr.cell? ⟨b, o + (i + k), none⟩ = some (.int .u8 (bAt bs (i + k)))) := Lib.hid fun k hk => by
          obtain ⟨b, o, e, hb, hc⟩ := byte_at (HRD.out.below HB.out) hk
          exact ⟨b, o, e, by omega, hc⟩
        obtain ⟨b, o, rfl, hbw, q0⟩ := HBY.out 0 (by omega)
        simp only [Nat.add_zero] at q0
        have hbb := bAt_le bs i
        have H20 := Lib.hid (Rsize_any (bAt bs i))
        have l1 : (0 : Int) ≤ (i : Int) := by omega
        have l2 : (i : Int) < (n : Int) := by omega
        by_cases hok : okAt bs i = true
        · have h1 : inO (bAt bs i) = true ∧ (i : Int) + szO (bAt bs i) ≤ (bs.length : Int) := by
            have h := hok
            unfold okAt at h
            simpa using h
          have HN := Lib.hid (HNEXT.out hok)
          have H42 := Lib.hid (Operands_any (bAt bs i))
          rw [opn_has] at H42
          have hsz := size_cast (x := insAt bs i) h1.1
          have e : (insAt bs i).op = bAt bs i := rfl
          rw [e] at hsz
          have hso := szO_in h1.1
          rw [hso] at hsz H20
          have hlst := h1.2
          rw [hso, HLN.out] at hlst
          have HQ : Hid (∀ k, i + k < n → wr.cell? ⟨b, o + (i + k), none⟩ = some (.int .u8 (bAt bs (i + k)))) := Lib.hid fun k hk => by
            obtain ⟨b', o', e', _, hc⟩ := HBY.out k hk
            injection e' with e'
            injection e' with e1 e2
            subst e1 e2
            exact hc
          have HBL := Lib.hid (bAt_le bs)
          have HZ16 : Hid (∀ x y, z16 x y = if 32768 ≤ x * 256 + y then x * 256 + y - 65536 else x * 256 + y) := Lib.hid fun _ _ => rfl
          clear hok HNEXT HBAD h1 e hso HBY
          rcases insAt_cases bs i with ⟨eh, ex⟩ | ⟨eh, ex⟩ | ⟨eh, ex⟩ | ⟨eh, ex⟩ | ⟨eh, ex⟩
          · rw [eh] at H42 H20 hsz hlst
            rw [show szH 0 = 1 from rfl] at H20 hsz hlst
            have hs : (insAt bs i).size = 1 := by omega
            rw [hs, ex] at HN
            have hop42 : opnH 0 = (0, false) := rfl
            rw [hop42] at H42
            clear eh ex hs hsz hop42
            clear HQ HBL
            generalize bAt bs i = y0 at *
            go_upto_region 24 with (first | (go_at_call 20; refine (H20.out _).mono ?_; rintro e w1 ⟨rfl, rfl⟩) | (go_at_call 42; refine (H42.out _).mono ?_; rintro e w1 ⟨rfl, rfl⟩))
            have HX : Hid (Blk (w1.alloc (.cells #[.int .i64 y0, .int .i64 0, .int .i64 0, .int .i64 0, .int .i64 0] 43)) w1.heap.size 43 #[.int .i64 y0, .int .i64 0, .int .i64 0, .int .i64 0, .int .i64 0]) := Lib.hid (Blk.new w1 43 _)
            have HO5 : Hid (OwnIn (w1.alloc (.cells #[.int .i64 y0, .int .i64 0, .int .i64 0, .int .i64 0, .int .i64 0] 43)) w.heap.size (.slice A1 l.length c1) l) := Lib.hid (own_same HOL.out fun k hk => Below.heap_alloc w1 _ k (World.ownsRow.lt HOL.out k hk).2)
            have HP5 : Hid (OwnZ (w1.alloc (.cells #[.int .i64 y0, .int .i64 0, .int .i64 0, .int .i64 0, .int .i64 0] 43)) w.heap.size (.slice A2 (natZ ps).length c2) (natZ ps)) := Lib.hid (own_same HOP.out fun k hk => Below.heap_alloc w1 _ k (World.ownsRow.lt HOP.out k hk).2)
            have HB5 : Hid (Below w.heap.size w (w1.alloc (.cells #[.int .i64 y0, .int .i64 0, .int .i64 0, .int .i64 0, .int .i64 0] 43))) := Lib.hid (HB.out.alloc HB.out.size _)
            generalize w1.alloc (.cells #[.int .i64 y0, .int .i64 0, .int .i64 0, .int .i64 0, .int .i64 0] 43) = w5 at *
            generalize w1.heap.size = bx at *
            have c0 : w5.cell? ⟨bx, 0, none⟩ = some (.int .i64 (y0)) := HX.out.cell 0
            have c1' : w5.cell? ⟨bx, 1, none⟩ = some (.int .i64 (0)) := HX.out.cell 1
            have c2' : w5.cell? ⟨bx, 2, none⟩ = some (.int .i64 (0)) := HX.out.cell 2
            have c3 : w5.cell? ⟨bx, 3, none⟩ = some (.int .i64 (0)) := HX.out.cell 3
            have c4 : w5.cell? ⟨bx, 4, none⟩ = some (.int .i64 (0)) := HX.out.cell 4
            have hw5 := HB5.out.size
            clear HOL HOP HB HX
            go_wp2_with (first
              | (at_builtin; refine app_ins rfl (.tmp 99) (.tmp 101) rfl w.heap.size _ l rfl (HO5.out.alloc _) _ _ 1 1 [⟨y0, 0, 0, 0, 0⟩] rfl (Reads.builtN' _ 43 _ (insC [⟨y0, 0, 0, 0, 0⟩]) 1 5 rfl rfl) (by omega) (by simp; omega) ?_; intro v2 w2 ho2 ha2; have HO2 := Lib.hid ho2; have HP2 := Lib.hid (two_app ha2 (HO5.out.alloc _) (HP5.out.alloc _) (by decide)); have HB2 := Lib.hid (below_app (Nat.le_refl _) (HB5.out.alloc HB5.out.size _) ha2 (HO5.out.alloc _)); have hw2 := HB2.out.size; clear ho2 ha2)
              | (at_builtin; refine app_z rfl (.tmp 103) (.tmp 105) rfl w.heap.size _ (natZ ps) rfl (HP2.out.alloc _) _ _ 1 1 [(i : Int)] rfl (Reads.builtN' _ 3 _ ([(i : Int)].map iv) 1 1 rfl rfl) (by omega) (by simp; omega) ?_; intro v3 w3 ho3 ha3; have HP3 := Lib.hid ho3; have HO3 := Lib.hid (two_app ha3 (HP2.out.alloc _) (HO2.out.alloc _) (by decide)); have HB3 := Lib.hid (below_app (Nat.le_refl _) (HB2.out.alloc HB2.out.size _) ha3 (HP2.out.alloc _)); clear ho3 ha3))
            go_roundg f
            case measure => omega
            case rel => exact ⟨i + 1, _, _, by first | rfl | go_num | simp, by omega, by omega, by simp; omega, by simp [HPL.out], HO3.out, by have := HP3.out; simpa [natZ] using this, HB3.out, HN.out⟩
          · rw [eh] at H42 H20 hsz hlst
            rw [show szH 1 = 2 from rfl] at H20 hsz hlst
            have hs : (insAt bs i).size = 2 := by omega
            rw [hs, ex] at HN
            have hop42 : opnH 1 = (1, false) := rfl
            rw [hop42] at H42
            clear eh ex hs hsz hop42
            have q1 := HQ.out 1 (by omega)
            have t1 := HBL.out (i + 1)
            clear HQ HBL
            generalize bAt bs (i + 1) = y1 at *
            generalize bAt bs i = y0 at *
            go_upto_region 24 with (first | (go_at_call 20; refine (H20.out _).mono ?_; rintro e w1 ⟨rfl, rfl⟩) | (go_at_call 42; refine (H42.out _).mono ?_; rintro e w1 ⟨rfl, rfl⟩))
            have HX : Hid (Blk (w1.alloc (.cells #[.int .i64 y0, .int .i64 y1, .int .i64 0, .int .i64 0, .int .i64 0] 43)) w1.heap.size 43 #[.int .i64 y0, .int .i64 y1, .int .i64 0, .int .i64 0, .int .i64 0]) := Lib.hid (Blk.new w1 43 _)
            have HO5 : Hid (OwnIn (w1.alloc (.cells #[.int .i64 y0, .int .i64 y1, .int .i64 0, .int .i64 0, .int .i64 0] 43)) w.heap.size (.slice A1 l.length c1) l) := Lib.hid (own_same HOL.out fun k hk => Below.heap_alloc w1 _ k (World.ownsRow.lt HOL.out k hk).2)
            have HP5 : Hid (OwnZ (w1.alloc (.cells #[.int .i64 y0, .int .i64 y1, .int .i64 0, .int .i64 0, .int .i64 0] 43)) w.heap.size (.slice A2 (natZ ps).length c2) (natZ ps)) := Lib.hid (own_same HOP.out fun k hk => Below.heap_alloc w1 _ k (World.ownsRow.lt HOP.out k hk).2)
            have HB5 : Hid (Below w.heap.size w (w1.alloc (.cells #[.int .i64 y0, .int .i64 y1, .int .i64 0, .int .i64 0, .int .i64 0] 43))) := Lib.hid (HB.out.alloc HB.out.size _)
            generalize w1.alloc (.cells #[.int .i64 y0, .int .i64 y1, .int .i64 0, .int .i64 0, .int .i64 0] 43) = w5 at *
            generalize w1.heap.size = bx at *
            have c0 : w5.cell? ⟨bx, 0, none⟩ = some (.int .i64 (y0)) := HX.out.cell 0
            have c1' : w5.cell? ⟨bx, 1, none⟩ = some (.int .i64 (y1)) := HX.out.cell 1
            have c2' : w5.cell? ⟨bx, 2, none⟩ = some (.int .i64 (0)) := HX.out.cell 2
            have c3 : w5.cell? ⟨bx, 3, none⟩ = some (.int .i64 (0)) := HX.out.cell 3
            have c4 : w5.cell? ⟨bx, 4, none⟩ = some (.int .i64 (0)) := HX.out.cell 4
            have hw5 := HB5.out.size
            clear HOL HOP HB HX
            go_wp2_with (first
              | (at_builtin; refine app_ins rfl (.tmp 99) (.tmp 101) rfl w.heap.size _ l rfl (HO5.out.alloc _) _ _ 1 1 [⟨y0, y1, 0, 0, 0⟩] rfl (Reads.builtN' _ 43 _ (insC [⟨y0, y1, 0, 0, 0⟩]) 1 5 rfl rfl) (by omega) (by simp; omega) ?_; intro v2 w2 ho2 ha2; have HO2 := Lib.hid ho2; have HP2 := Lib.hid (two_app ha2 (HO5.out.alloc _) (HP5.out.alloc _) (by decide)); have HB2 := Lib.hid (below_app (Nat.le_refl _) (HB5.out.alloc HB5.out.size _) ha2 (HO5.out.alloc _)); have hw2 := HB2.out.size; clear ho2 ha2)
              | (at_builtin; refine app_z rfl (.tmp 103) (.tmp 105) rfl w.heap.size _ (natZ ps) rfl (HP2.out.alloc _) _ _ 1 1 [(i : Int)] rfl (Reads.builtN' _ 3 _ ([(i : Int)].map iv) 1 1 rfl rfl) (by omega) (by simp; omega) ?_; intro v3 w3 ho3 ha3; have HP3 := Lib.hid ho3; have HO3 := Lib.hid (two_app ha3 (HP2.out.alloc _) (HO2.out.alloc _) (by decide)); have HB3 := Lib.hid (below_app (Nat.le_refl _) (HB2.out.alloc HB2.out.size _) ha3 (HP2.out.alloc _)); clear ho3 ha3))
            go_roundg f
            case measure => omega
            case rel => exact ⟨i + 2, _, _, by first | rfl | go_num | simp, by omega, by omega, by simp; omega, by simp [HPL.out], HO3.out, by have := HP3.out; simpa [natZ] using this, HB3.out, HN.out⟩
          · rw [eh] at H42 H20 hsz hlst
            rw [show szH 3 = 3 from rfl] at H20 hsz hlst
            have hs : (insAt bs i).size = 3 := by omega
            rw [hs, ex] at HN
            have hop42 : opnH 3 = (2, false) := rfl
            rw [hop42] at H42
            clear eh ex hs hsz hop42
            have q1 := HQ.out 1 (by omega)
            have t1 := HBL.out (i + 1)
            have q2 := HQ.out 2 (by omega)
            have t2 := HBL.out (i + 2)
            clear HQ HBL
            generalize bAt bs (i + 1) = y1 at *
            generalize bAt bs (i + 2) = y2 at *
            generalize bAt bs i = y0 at *
            go_upto_region 24 with (first | (go_at_call 20; refine (H20.out _).mono ?_; rintro e w1 ⟨rfl, rfl⟩) | (go_at_call 42; refine (H42.out _).mono ?_; rintro e w1 ⟨rfl, rfl⟩))
            have HX : Hid (Blk (w1.alloc (.cells #[.int .i64 y0, .int .i64 y1, .int .i64 y2, .int .i64 0, .int .i64 0] 43)) w1.heap.size 43 #[.int .i64 y0, .int .i64 y1, .int .i64 y2, .int .i64 0, .int .i64 0]) := Lib.hid (Blk.new w1 43 _)
            have HO5 : Hid (OwnIn (w1.alloc (.cells #[.int .i64 y0, .int .i64 y1, .int .i64 y2, .int .i64 0, .int .i64 0] 43)) w.heap.size (.slice A1 l.length c1) l) := Lib.hid (own_same HOL.out fun k hk => Below.heap_alloc w1 _ k (World.ownsRow.lt HOL.out k hk).2)
            have HP5 : Hid (OwnZ (w1.alloc (.cells #[.int .i64 y0, .int .i64 y1, .int .i64 y2, .int .i64 0, .int .i64 0] 43)) w.heap.size (.slice A2 (natZ ps).length c2) (natZ ps)) := Lib.hid (own_same HOP.out fun k hk => Below.heap_alloc w1 _ k (World.ownsRow.lt HOP.out k hk).2)
            have HB5 : Hid (Below w.heap.size w (w1.alloc (.cells #[.int .i64 y0, .int .i64 y1, .int .i64 y2, .int .i64 0, .int .i64 0] 43))) := Lib.hid (HB.out.alloc HB.out.size _)
            generalize w1.alloc (.cells #[.int .i64 y0, .int .i64 y1, .int .i64 y2, .int .i64 0, .int .i64 0] 43) = w5 at *
            generalize w1.heap.size = bx at *
            have c0 : w5.cell? ⟨bx, 0, none⟩ = some (.int .i64 (y0)) := HX.out.cell 0
            have c1' : w5.cell? ⟨bx, 1, none⟩ = some (.int .i64 (y1)) := HX.out.cell 1
            have c2' : w5.cell? ⟨bx, 2, none⟩ = some (.int .i64 (y2)) := HX.out.cell 2
            have c3 : w5.cell? ⟨bx, 3, none⟩ = some (.int .i64 (0)) := HX.out.cell 3
            have c4 : w5.cell? ⟨bx, 4, none⟩ = some (.int .i64 (0)) := HX.out.cell 4
            have hw5 := HB5.out.size
            clear HOL HOP HB HX
            go_wp2_with (first
              | (at_builtin; refine app_ins rfl (.tmp 99) (.tmp 101) rfl w.heap.size _ l rfl (HO5.out.alloc _) _ _ 1 1 [⟨y0, y1, y2, 0, 0⟩] rfl (Reads.builtN' _ 43 _ (insC [⟨y0, y1, y2, 0, 0⟩]) 1 5 rfl rfl) (by omega) (by simp; omega) ?_; intro v2 w2 ho2 ha2; have HO2 := Lib.hid ho2; have HP2 := Lib.hid (two_app ha2 (HO5.out.alloc _) (HP5.out.alloc _) (by decide)); have HB2 := Lib.hid (below_app (Nat.le_refl _) (HB5.out.alloc HB5.out.size _) ha2 (HO5.out.alloc _)); have hw2 := HB2.out.size; clear ho2 ha2)
              | (at_builtin; refine app_z rfl (.tmp 103) (.tmp 105) rfl w.heap.size _ (natZ ps) rfl (HP2.out.alloc _) _ _ 1 1 [(i : Int)] rfl (Reads.builtN' _ 3 _ ([(i : Int)].map iv) 1 1 rfl rfl) (by omega) (by simp; omega) ?_; intro v3 w3 ho3 ha3; have HP3 := Lib.hid ho3; have HO3 := Lib.hid (two_app ha3 (HP2.out.alloc _) (HO2.out.alloc _) (by decide)); have HB3 := Lib.hid (below_app (Nat.le_refl _) (HB2.out.alloc HB2.out.size _) ha3 (HP2.out.alloc _)); clear ho3 ha3))
            go_roundg f
            case measure => omega
            case rel => exact ⟨i + 3, _, _, by first | rfl | go_num | simp, by omega, by omega, by simp; omega, by simp [HPL.out], HO3.out, by have := HP3.out; simpa [natZ] using this, HB3.out, HN.out⟩
          · rw [eh] at H42 H20 hsz hlst
            rw [show szH 8 = 3 from rfl] at H20 hsz hlst
            have hs : (insAt bs i).size = 3 := by omega
            rw [hs, ex] at HN
            have hop42 : opnH 8 = (0, true) := rfl
            rw [hop42] at H42
            clear eh ex hs hsz hop42
            have q1 := HQ.out 1 (by omega)
            have t1 := HBL.out (i + 1)
            have q2 := HQ.out 2 (by omega)
            have t2 := HBL.out (i + 2)
            clear HQ HBL
            generalize bAt bs (i + 1) = y1 at *
            generalize bAt bs (i + 2) = y2 at *
            generalize bAt bs i = y0 at *
            obtain ⟨z, hzz⟩ : ∃ z, z16 y1 y2 = z := ⟨_, rfl⟩
            have HZZ : Hid ((if 32768 ≤ y1 * 256 + y2 then y1 * 256 + y2 - 65536 else y1 * 256 + y2) = z) := Lib.hid hzz
            rw [hzz] at HN
            clear hzz
            go_upto_if 74 with (first | (go_at_call 20; refine (H20.out _).mono ?_; rintro e w1 ⟨rfl, rfl⟩) | (go_at_call 42; refine (H42.out _).mono ?_; rintro e w1 ⟨rfl, rfl⟩))
            go_cut [14] (fun _ wx => ∃ m, wx = (w1.alloc (.cells #[.int .i64 y0, .int .i64 0, .int .i64 0, .int .i64 0, .int .i64 z] 43)).drewN m)
            case first =>
              by_cases h32 : 32768 ≤ y1 * 256 + y2
              · have hz2 : y1 * 256 + y2 - 65536 = z := by have := HZZ.out; rw [if_pos h32] at this; exact this
                go_wp2
                go_quiet (fail)
                go_wp2
                go_meet
                exact ⟨_, set_lit _ _ _ _ _ _ rfl⟩
              · have hz2 : y1 * 256 + y2 = z := by have := HZZ.out; rw [if_neg h32] at this; exact this
                go_wp2
                go_quiet (fail)
                go_wp2
                go_meet
                exact ⟨_, set_lit _ _ _ _ _ _ rfl⟩
            case rest =>
              obtain ⟨m, rfl⟩ := hcut
              have HX : Hid (Blk ((w1.alloc (.cells #[.int .i64 y0, .int .i64 0, .int .i64 0, .int .i64 0, .int .i64 z] 43)).drewN m) w1.heap.size 43 #[.int .i64 y0, .int .i64 0, .int .i64 0, .int .i64 0, .int .i64 z]) := Lib.hid (Blk.new w1 43 _)
              have HO5 : Hid (OwnIn ((w1.alloc (.cells #[.int .i64 y0, .int .i64 0, .int .i64 0, .int .i64 0, .int .i64 z] 43)).drewN m) w.heap.size (.slice A1 l.length c1) l) := Lib.hid (own_same HOL.out fun k hk => Below.heap_alloc w1 _ k (World.ownsRow.lt HOL.out k hk).2)
              have HP5 : Hid (OwnZ ((w1.alloc (.cells #[.int .i64 y0, .int .i64 0, .int .i64 0, .int .i64 0, .int .i64 z] 43)).drewN m) w.heap.size (.slice A2 (natZ ps).length c2) (natZ ps)) := Lib.hid (own_same HOP.out fun k hk => Below.heap_alloc w1 _ k (World.ownsRow.lt HOP.out k hk).2)
              have HB5 : Hid (Below w.heap.size w ((w1.alloc (.cells #[.int .i64 y0, .int .i64 0, .int .i64 0, .int .i64 0, .int .i64 z] 43)).drewN m)) := Lib.hid (below_drewN (HB.out.alloc HB.out.size _) m)
              generalize (w1.alloc (.cells #[.int .i64 y0, .int .i64 0, .int .i64 0, .int .i64 0, .int .i64 z] 43)).drewN m = w5 at *
              generalize w1.heap.size = bx at *
              have c0 : w5.cell? ⟨bx, 0, none⟩ = some (.int .i64 (y0)) := HX.out.cell 0
              have c1' : w5.cell? ⟨bx, 1, none⟩ = some (.int .i64 (0)) := HX.out.cell 1
              have c2' : w5.cell? ⟨bx, 2, none⟩ = some (.int .i64 (0)) := HX.out.cell 2
              have c3 : w5.cell? ⟨bx, 3, none⟩ = some (.int .i64 (0)) := HX.out.cell 3
              have c4 : w5.cell? ⟨bx, 4, none⟩ = some (.int .i64 (z)) := HX.out.cell 4
              have hw5 := HB5.out.size
              clear HOL HOP HB HX
              go_wp2_with (first
                | (at_builtin; refine app_ins rfl (.tmp 99) (.tmp 101) rfl w.heap.size _ l rfl (HO5.out.alloc _) _ _ 1 1 [⟨y0, 0, 0, 0, z⟩] rfl (Reads.builtN' _ 43 _ (insC [⟨y0, 0, 0, 0, z⟩]) 1 5 rfl rfl) (by omega) (by simp; omega) ?_; intro v2 w2 ho2 ha2; have HO2 := Lib.hid ho2; have HP2 := Lib.hid (two_app ha2 (HO5.out.alloc _) (HP5.out.alloc _) (by decide)); have HB2 := Lib.hid (below_app (Nat.le_refl _) (HB5.out.alloc HB5.out.size _) ha2 (HO5.out.alloc _)); have hw2 := HB2.out.size; clear ho2 ha2)
                | (at_builtin; refine app_z rfl (.tmp 103) (.tmp 105) rfl w.heap.size _ (natZ ps) rfl (HP2.out.alloc _) _ _ 1 1 [(i : Int)] rfl (Reads.builtN' _ 3 _ ([(i : Int)].map iv) 1 1 rfl rfl) (by omega) (by simp; omega) ?_; intro v3 w3 ho3 ha3; have HP3 := Lib.hid ho3; have HO3 := Lib.hid (two_app ha3 (HP2.out.alloc _) (HO2.out.alloc _) (by decide)); have HB3 := Lib.hid (below_app (Nat.le_refl _) (HB2.out.alloc HB2.out.size _) ha3 (HP2.out.alloc _)); clear ho3 ha3))
              go_roundg f
              case measure => omega
              case rel => exact ⟨i + 3, _, _, by first | rfl | go_num | simp, by omega, by omega, by simp; omega, by simp [HPL.out], HO3.out, by have := HP3.out; simpa [natZ] using this, HB3.out, HN.out⟩
          · rw [eh] at H42 H20 hsz hlst
            rw [show szH 15 = 6 from rfl] at H20 hsz hlst
            have hs : (insAt bs i).size = 6 := by omega
            rw [hs, ex] at HN
            have hop42 : opnH 15 = (3, true) := rfl
            rw [hop42] at H42
            clear eh ex hs hsz hop42
            have q1 := HQ.out 1 (by omega)
            have t1 := HBL.out (i + 1)
            have q2 := HQ.out 2 (by omega)
            have t2 := HBL.out (i + 2)
            have q3 := HQ.out 3 (by omega)
            have t3 := HBL.out (i + 3)
            have q4 := HQ.out 4 (by omega)
            have t4 := HBL.out (i + 4)
            have q5 := HQ.out 5 (by omega)
            have t5 := HBL.out (i + 5)
            clear HQ HBL
            generalize bAt bs (i + 1) = y1 at *
            generalize bAt bs (i + 2) = y2 at *
            generalize bAt bs (i + 3) = y3 at *
            generalize bAt bs (i + 4) = y4 at *
            generalize bAt bs (i + 5) = y5 at *
            generalize bAt bs i = y0 at *
            obtain ⟨z, hzz⟩ : ∃ z, z16 y4 y5 = z := ⟨_, rfl⟩
            have HZZ : Hid ((if 32768 ≤ y4 * 256 + y5 then y4 * 256 + y5 - 65536 else y4 * 256 + y5) = z) := Lib.hid hzz
            rw [hzz] at HN
            clear hzz
            go_upto_if 74 with (first | (go_at_call 20; refine (H20.out _).mono ?_; rintro e w1 ⟨rfl, rfl⟩) | (go_at_call 42; refine (H42.out _).mono ?_; rintro e w1 ⟨rfl, rfl⟩))
            go_cut [14] (fun _ wx => ∃ m, wx = (w1.alloc (.cells #[.int .i64 y0, .int .i64 y1, .int .i64 y2, .int .i64 y3, .int .i64 z] 43)).drewN m)
            case first =>
              by_cases h32 : 32768 ≤ y4 * 256 + y5
              · have hz2 : y4 * 256 + y5 - 65536 = z := by have := HZZ.out; rw [if_pos h32] at this; exact this
                go_wp2
                go_quiet (fail)
                go_wp2
                go_meet
                exact ⟨_, set_lit _ _ _ _ _ _ rfl⟩
              · have hz2 : y4 * 256 + y5 = z := by have := HZZ.out; rw [if_neg h32] at this; exact this
                go_wp2
                go_quiet (fail)
                go_wp2
                go_meet
                exact ⟨_, set_lit _ _ _ _ _ _ rfl⟩
            case rest =>
              obtain ⟨m, rfl⟩ := hcut
              have HX : Hid (Blk ((w1.alloc (.cells #[.int .i64 y0, .int .i64 y1, .int .i64 y2, .int .i64 y3, .int .i64 z] 43)).drewN m) w1.heap.size 43 #[.int .i64 y0, .int .i64 y1, .int .i64 y2, .int .i64 y3, .int .i64 z]) := Lib.hid (Blk.new w1 43 _)
              have HO5 : Hid (OwnIn ((w1.alloc (.cells #[.int .i64 y0, .int .i64 y1, .int .i64 y2, .int .i64 y3, .int .i64 z] 43)).drewN m) w.heap.size (.slice A1 l.length c1) l) := Lib.hid (own_same HOL.out fun k hk => Below.heap_alloc w1 _ k (World.ownsRow.lt HOL.out k hk).2)
              have HP5 : Hid (OwnZ ((w1.alloc (.cells #[.int .i64 y0, .int .i64 y1, .int .i64 y2, .int .i64 y3, .int .i64 z] 43)).drewN m) w.heap.size (.slice A2 (natZ ps).length c2) (natZ ps)) := Lib.hid (own_same HOP.out fun k hk => Below.heap_alloc w1 _ k (World.ownsRow.lt HOP.out k hk).2)
              have HB5 : Hid (Below w.heap.size w ((w1.alloc (.cells #[.int .i64 y0, .int .i64 y1, .int .i64 y2, .int .i64 y3, .int .i64 z] 43)).drewN m)) := Lib.hid (below_drewN (HB.out.alloc HB.out.size _) m)
              generalize (w1.alloc (.cells #[.int .i64 y0, .int .i64 y1, .int .i64 y2, .int .i64 y3, .int .i64 z] 43)).drewN m = w5 at *
              generalize w1.heap.size = bx at *
              have c0 : w5.cell? ⟨bx, 0, none⟩ = some (.int .i64 (y0)) := HX.out.cell 0
              have c1' : w5.cell? ⟨bx, 1, none⟩ = some (.int .i64 (y1)) := HX.out.cell 1
              have c2' : w5.cell? ⟨bx, 2, none⟩ = some (.int .i64 (y2)) := HX.out.cell 2
              have c3 : w5.cell? ⟨bx, 3, none⟩ = some (.int .i64 (y3)) := HX.out.cell 3
              have c4 : w5.cell? ⟨bx, 4, none⟩ = some (.int .i64 (z)) := HX.out.cell 4
              have hw5 := HB5.out.size
              clear HOL HOP HB HX
              go_wp2_with (first
                | (at_builtin; refine app_ins rfl (.tmp 99) (.tmp 101) rfl w.heap.size _ l rfl (HO5.out.alloc _) _ _ 1 1 [⟨y0, y1, y2, y3, z⟩] rfl (Reads.builtN' _ 43 _ (insC [⟨y0, y1, y2, y3, z⟩]) 1 5 rfl rfl) (by omega) (by simp; omega) ?_; intro v2 w2 ho2 ha2; have HO2 := Lib.hid ho2; have HP2 := Lib.hid (two_app ha2 (HO5.out.alloc _) (HP5.out.alloc _) (by decide)); have HB2 := Lib.hid (below_app (Nat.le_refl _) (HB5.out.alloc HB5.out.size _) ha2 (HO5.out.alloc _)); have hw2 := HB2.out.size; clear ho2 ha2)
                | (at_builtin; refine app_z rfl (.tmp 103) (.tmp 105) rfl w.heap.size _ (natZ ps) rfl (HP2.out.alloc _) _ _ 1 1 [(i : Int)] rfl (Reads.builtN' _ 3 _ ([(i : Int)].map iv) 1 1 rfl rfl) (by omega) (by simp; omega) ?_; intro v3 w3 ho3 ha3; have HP3 := Lib.hid ho3; have HO3 := Lib.hid (two_app ha3 (HP2.out.alloc _) (HO2.out.alloc _) (by decide)); have HB3 := Lib.hid (below_app (Nat.le_refl _) (HB2.out.alloc HB2.out.size _) ha3 (HP2.out.alloc _)); clear ho3 ha3))
              go_roundg f
              case measure => omega
              case rel => exact ⟨i + 6, _, _, by first | rfl | go_num | simp, by omega, by omega, by simp; omega, by simp [HPL.out], HO3.out, by have := HP3.out; simpa [natZ] using this, HB3.out, HN.out⟩
        · have hb0 : okAt bs i = false := by simpa using hok
          have HF := Lib.hid (HBAD.out hb0)
          have hz0 : szO (bAt bs i) = 0 ∨ (1 ≤ szO (bAt bs i) ∧ szO (bAt bs i) ≤ 6 ∧ (n : Int) < (i : Int) + szO (bAt bs i)) := by
            cases hi : inO (bAt bs i) with
            | false => exact .inl (szO_none hi)
            | true =>
              have h1 := szO_pos hi
              have h2 := hb0
              unfold okAt at h2
              rw [hi] at h2
              simp only [Bool.true_and, decide_eq_false_iff_not, HLN.out] at h2
              exact .inr ⟨h1.1, h1.2, by omega⟩
          clear hok hb0 HNEXT HBAD HBY
          generalize szO (bAt bs i) = z at *
          rcases hz0 with rfl | ⟨z1, z2, z3⟩
          · go_wp2_with (go_at_call 20; refine (H20.out _).mono ?_; rintro e w1 ⟨rfl, rfl⟩)
            exact dc_end Try.results25 rfl rfl rfl rfl (DcP.bad_ (p := i) (by rw [HT.out]; exact HF.out) HB.out)
          · have d0 : (z == 0) = false := by rw [beq_eq_false_iff_ne]; omega
            go_wp2_with (go_at_call 20; refine (H20.out _).mono ?_; rintro e w1 ⟨rfl, rfl⟩)
            exact dc_end Try.results25 rfl rfl rfl rfl (DcP.bad_ (p := i) (by rw [HT.out]; exact HF.out) HB.out)
      · have HE : Hid (R = (l, ps, 0, 0)) := Lib.hid (by
          have := HL.out
          obtain ⟨f, rfl⟩ : ∃ f, gk = f + 1 := ⟨gk - 1, by omega⟩
          unfold decF at this
          rw [if_pos (by rw [HLN.out]; omega)] at this
          exact this.symm)
        go_wp2
        refine dc_end Try.results25 rfl rfl rfl rfl ?_
        rw [HT.out, HE.out]
        exact ⟨HB.out, _, _, rfl, HOL.out, HOP.out⟩
end Go.Proofs.Ytaeegkljldngmaa
