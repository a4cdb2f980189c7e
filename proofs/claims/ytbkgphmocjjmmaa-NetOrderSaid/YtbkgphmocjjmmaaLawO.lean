/-
  The walk of the law NetOrder f3.
-/
import Derived.Test.YtbkgphmocjjmmaaNtR
import Derived.Test.YtbkgphmocjjmmaaNtS
import Derived.BigQuiet
import Derived.Deep.CutBlock
namespace Go.Proofs.Ytbkgphmocjjmmaa
open Go.RowKit

theorem info23 : (Try.prog.info? 23).map (fun i => (i.zero, i.size, i.bytes)) = some (some (.slice none 0 0), 1, 24) := by kernel_rfl
def abF (a : Nat) : Bool → Nat
  | false => a
  | true => a + 1
theorem read_one1 (w : World) (x : Value) (t : TypeId) : Reads (w.alloc (.cells #[x] t)) (w.heap.size + 1) 1 (some ⟨w.heap.size, 0, none⟩) 1 [x] := ⟨rfl, fun _ => (Reads.built w t [x]).2 (by simp)⟩
theorem one_one (A : Option Addr) (m c : Nat) : ∀ u ∈ [(.slice A m c : Value)], u.oneCell' = true := by
  intro u hu
  rw [List.mem_singleton] at hu
  subst hu
  rfl
theorem OrdM.a6 {w W W1 W6 : World} {g : Nat} {ab : Bool → Nat} {S : Ns} {v : Bool → Value} {l : Bool → List LP} {x : Bool → Bool → Value} {y : Bool → Bool → List Value} (h : OrdM w W g ab S v l x y) (r s : Bool) (hb : Below W.heap.size W W1) (hg : W1.grownBy W6 (x r s).ownBlock) :
    W6.cell? ⟨ab r, sideO s, none⟩ = some (x r s) ∧ W6.frozen? ⟨ab r, sideO s, none⟩ = false :=
  have h1 : Blk W6 (ab r) 31 (arrV (x r)) := ((h.arr r).1.below hb (h.arr r).1.lt).grown hg (fun e => own_blk_ne (h.row r s) (h.arr r).1 (by decide) e.symm)
  ⟨(h1.cell _).trans (arrV_at _ _), h1.frozen _⟩
theorem OrdS.cells {w W : World} {g j q : Nat} {ab : Bool → Nat} {S : Ns} {v : Bool → Value} {l : Bool → List LP} {x : Bool → Bool → Value} {y : Bool → Bool → List Value} {ts gs : Bool → List (List UInt8)} (h : OrdS w g ab j q S v l x y ts gs W) (s : Bool) :
    W.cell? ⟨ab false, sideO s, none⟩ = some (x false s) ∧ W.cell? ⟨ab true, sideO s, none⟩ = some (x true s) :=
  ⟨((h.mem.arr false).1.cell _).trans (arrV_at _ _), ((h.mem.arr true).1.cell _).trans (arrV_at _ _)⟩
theorem OrdS.under {w W : World} {g j q : Nat} {ab : Bool → Nat} {S : Ns} {v : Bool → Value} {l : Bool → List LP} {x : Bool → Bool → Value} {y : Bool → Bool → List Value} {ts gs : Bool → List (List UInt8)} (h : OrdS w g ab j q S v l x y ts gs W) (s : Bool) :
    Calls Try.prog 15 #[.pointer (some ⟨g, 0, none⟩), .int .i64 (sideN s)] W (UnP W (S.u s)) :=
  under_any g S v l _ s W h.mem.net h.ok (fun p hp => by
    have := h.sz s p.bytes (by rw [← h.law s]; exact List.mem_append_right _ (List.mem_map_of_mem hp))
    omega)
theorem OrdS.lens {w W : World} {g j q : Nat} {ab : Bool → Nat} {S : Ns} {v : Bool → Value} {l : Bool → List LP} {x : Bool → Bool → Value} {y : Bool → Bool → List Value} {ts gs : Bool → List (List UInt8)} (h : OrdS w g ab j q S v l x y ts gs W) (s : Bool) :
    (y true s).length + (S.u s).length = (y false s).length ∧ (y false s).length ≤ q := by
  have h1 := (h.got s).1
  have h2 := (h.sent s).1
  have h3 := congrArg List.length (h.law s)
  have h4 := h.len s
  rw [List.length_append, List.length_map] at h3
  omega
theorem OrdS.elems {w W : World} {g j q i : Nat} {ab : Bool → Nat} {S : Ns} {v : Bool → Value} {l : Bool → List LP} {x : Bool → Bool → Value} {y : Bool → Bool → List Value} {ts gs : Bool → List (List UInt8)} (h : OrdS w g ab j q S v l x y ts gs W) (s : Bool) (hi : i < (y true s).length) {A1 A2 : Option Addr} {c1 c2 n1 n2 : Nat} (h1 : x false s = .slice A1 n1 c1) (h2 : x true s = .slice A2 n2 c2) :
    ∃ (ad1 ad2 : Addr) (B1 : Option Addr) (d1 : Nat) (B2 : Option Addr) (d2 : Nat) (bs : List UInt8), A1 = some ad1 ∧ A2 = some ad2 ∧ W.cell? (ad1.add i) = some (.slice B1 bs.length d1) ∧ W.cell? (ad2.add i) = some (.slice B2 bs.length d2) ∧ RdB W W.heap.size B1 bs.length bs ∧ RdB W W.heap.size B2 bs.length bs := by
  have hl := h.lens s
  have r1 := h.mem.row false s
  have r2 := h.mem.row true s
  rw [h1] at r1
  rw [h2] at r2
  obtain ⟨A1', c1', e1, _, _⟩ := own_form r1
  obtain ⟨A2', c2', e2, _, _⟩ := own_form r2
  injection e1 with e1 e1n e1c
  injection e2 with e2 e2n e2c
  subst e1 e2 e1n e2n
  obtain ⟨ad1, u1, rfl, _, hu1, k1⟩ := Reads.at_ (Reads.of_own r1) (k := i) (by omega)
  obtain ⟨ad2, u2, rfl, _, hu2, k2⟩ := Reads.at_ (Reads.of_own r2) (k := i) hi
  obtain ⟨b, hb⟩ : ∃ b, (gs s)[i]? = some b := ⟨_, List.getElem?_eq_getElem (by rw [← (h.got s).1]; exact hi)⟩
  have hb2 : (ts s)[i]? = some b := by
    rw [← h.law s, List.getElem?_append_left (by rw [← (h.got s).1]; exact hi)]
    exact hb
  obtain ⟨B1, d1, rfl, q1⟩ := (h.sent s).2 i u1 b hu1 hb2
  obtain ⟨B2, d2, rfl, q2, _⟩ := (h.got s).2 i u2 b hu2 hb
  exact ⟨ad1, ad2, B1, d1, B2, d2, b, rfl, rfl, k1, k2, (q1.below h.mem.old).more h.mem.old.size, OwnB.reads q2 rfl⟩
theorem wrap_sum (x y z : Nat) (hx : x ≤ 5864062014634) (hy : y ≤ 5864062014634) (h : x + y = z) : (IntKind.i64.wrap ((x : Int) + (y : Int)) != (z : Int)) = false := by
  have e0 : IntKind.i64.wrap ((x : Int) + (y : Int)) = (z : Int) := by simp [IntKind.wrap, IntKind.bits, IntKind.signed]; omega
  rw [e0]
  simp
/-- texts that came in -/
def TX (w : World) (A : Option Addr) (n : Nat) (ts : List (List UInt8)) : Prop :=
  ts.length = n ∧ ∀ i b, ts[i]? = some b → ∃ ad, A = some ad ∧ ad.block < w.heap.size ∧ ∃ (Ai : Option Addr) (ci : Nat), w.cell? (ad.add i) = some (.slice Ai b.length ci) ∧ RdB w w.heap.size Ai b.length b
set_option maxRecDepth 20000 in
theorem order_bad (L : Int) (A P : Option Addr) (n c m pc : Nat) (w : World) (h : L < 1 ∨ 64 < L) : Calls Try.prog 3 #[.int .i64 L, .slice A n c, .slice P m pc] w (AwP w) := by
  by_cases t1 : L < 1
  · have H := Lib.hid (new_bad L w h)
    clear h
    go_enter Try.func3, Try.ntmps3
    go_wp2_with fail
    refine H.out.mono ?_
    rintro e w' ⟨rfl, rfl⟩
    go_wp2_with fail
    refine (awake_any _).mono ?_
    rintro e w2 ⟨rfl, hb⟩
    have HB := Lib.hid hb
    clear hb
    go_wp2
    go_ret
    exact ⟨rfl, HB.out⟩
  · have t2 : 64 < L := h.resolve_left t1
    have H := Lib.hid (new_bad L w h)
    clear h
    go_enter Try.func3, Try.ntmps3
    go_wp2_with fail
    refine H.out.mono ?_
    rintro e w' ⟨rfl, rfl⟩
    go_wp2_with fail
    refine (awake_any _).mono ?_
    rintro e w2 ⟨rfl, hb⟩
    have HB := Lib.hid hb
    clear hb
    go_wp2
    go_ret
    exact ⟨rfl, HB.out⟩
set_option maxRecDepth 20000 in
set_option maxHeartbeats 4000000 in
theorem order_any (L : Int) (A P : Option Addr) (n c m pc : Nat) (ts : List (List UInt8)) (pk : List UInt8) (w : World) (h1 : 1 ≤ L) (h2 : L ≤ 64) (ht : TX w A n ts) (hp : RdB w w.heap.size P m pk) (hn : n ≤ 5864062014634) (hm : m ≤ 140737488351232) :
    Calls Try.prog 3 #[.int .i64 L, .slice A n c, .slice P m pc] w (AwP w) := by
  have HT := Lib.hid ht
  have HP := Lib.hid hp
  have H := Lib.hid ((new_ok L w h1 h2).mono fun _ _ h => NewP.w h)
  have HK := Lib.hid (Ns.new_ok h1 h2 99 (by omega))
  have HU := Lib.hid (show (Ns.new L).up = false from rfl)
  have HNU := Lib.hid (show ∀ s, (Ns.new L).conn.u s = [] from fun _ => rfl)
  clear ht hp
  go_enter Try.func3, Try.ntmps3
  go_wp2_with fail
  refine H.out.mono ?_
  rintro e w1 ⟨rfl, hw1⟩
  have H1 := Lib.hid hw1
  clear hw1 H
  have HG := Lib.hid (Eq.refl w.heap.size)
  go_wp2_with fail
  refine (num_any _ _).mono ?_
  rintro e w' ⟨rfl, rfl⟩
  go_wp2_with fail
  refine (awake_any _).mono ?_
  rintro e w2 ⟨rfl, hb⟩
  have H2 := Lib.hid (H1.out.below hb)
  clear hb H1
  go_wp2_with fail
  refine (connect_w w _ _ 99 w2 H2.out HK.out (by omega) HU.out).mono ?_
  rintro e w3 ⟨rfl, hw3⟩
  have H3 := Lib.hid hw3
  have HK3 := Lib.hid (Ns.conn_ok HK.out)
  have HU3 := Lib.hid (show (Ns.new L).conn.up = true from rfl)
  clear hw3 H2 HK HU
  go_wp2_with fail
  refine (num_any _ _).mono ?_
  rintro e w' ⟨rfl, rfl⟩
  go_upto_region 9 with fail
  have hb3 : Below w3.heap.size w3 ((w3.alloc (.cells #[.slice none 0 0, .slice none 0 0, .slice none 0 0] 31)).alloc (.cells #[.slice none 0 0, .slice none 0 0, .slice none 0 0] 31)) := ((Below.refl _ _).alloc (Nat.le_refl _) _).alloc (by simp) _
  have hge : w.heap.size ≤ w3.heap.size := by obtain ⟨_, _, _, _, h⟩ := H3.out; exact h.size
  have hx0 : OrdX w w.heap.size (abF w3.heap.size) 0 0 ((w3.alloc (.cells #[.slice none 0 0, .slice none 0 0, .slice none 0 0] 31)).alloc (.cells #[.slice none 0 0, .slice none 0 0, .slice none 0 0] 31)) :=
    OrdS.start (H3.out.below hb3) HK3.out HU3.out HNU.out (fun r => by
      cases r with
      | false => exact ⟨(Blk.new w3 31 _).alloc _, hge⟩
      | true => exact ⟨Blk.new' _ 31 _ _ (by simp [abF]), by simp only [abF]; omega⟩) (by simp [abF])
  have HX0 := Lib.hid hx0
  generalize w3.heap.size = a at *
  clear hx0 hb3 H3 HK3 HU3 HNU hge HG
  go_loopw [11, 12, 13, 14, 15, 16, 17] (fun nx i _ _ _ _ _ wr => ∃ (k j : Nat), k ≤ n ∧ j ≤ m ∧ nx = .int .i64 k ∧ i = .int .i64 j ∧ OrdX w w.heap.size (abF a) j k wr) (fun _ i _ _ _ _ _ _ => m - (intOf i).toNat)
  case atStart => exact ⟨0, 0, Nat.zero_le _, Nat.zero_le _, rfl, rfl, HX0.out⟩
  case round =>
    obtain ⟨k, j, hk, hj, rfl, rfl, hx⟩ := hrel
    have HX := Lib.hid hx
    clear hx HX0
    by_cases hjm : j < m
    · obtain ⟨ad, xb, rfl, _, hxb, cx⟩ := Reads.byte HP.out hjm
      have l1 : (0 : Int) ≤ (j : Int) := by omega
      have l2 : (j : Int) < (m : Int) := by omega
      obtain ⟨S, v, l, x, y, tl, gl, hs⟩ := HX.out
      have HS := Lib.hid hs
      have u0 : wr.cell? (ad.add j) = some (.int .u8 (xb.toNat : Int)) := (hs.mem.old.cell (p := ad.add j) (by rw [block_of_add]; assumption)).trans cx
      have hx256 : xb.toNat < 256 := UInt8.toNat_lt xb
      have HXB := Lib.hid hx256
      clear hs HX cx hxb
      go_upto_region 11 with fail
      go_cut [13] (fun s13 wx => ∃ s, s13 = .int .i64 (sideN s) ∧ wr = wx)
      case first =>
        have e0 : IntKind.i64.wrap (xb.toNat : Int) = xb.toNat := by simp [IntKind.wrap, IntKind.bits, IntKind.signed]; omega
        by_cases hpar : xb.toNat % 2 = 0
        · have e1 : (xb.toNat : Int).tmod 2 = 0 := by rw [Int.tmod_eq_emod_of_nonneg (by omega)]; omega
          clear hpar
          go_wp2_with fail
          go_meet
          exact ⟨false, rfl, rfl⟩
        · have e1 : (xb.toNat : Int).tmod 2 = 1 := by rw [Int.tmod_eq_emod_of_nonneg (by omega)]; omega
          clear hpar
          go_wp2_with fail
          go_meet
          exact ⟨true, rfl, rfl⟩
      case rest =>
        obtain ⟨s, rfl, rfl⟩ := hcut
        have hdel : Hid True := Lib.hid trivial
        by_cases hsend : xb.toNat % 4 < 2 ∧ k < n
        · have e4 : (xb.toNat : Int) % 4 < 2 := by omega
          have l3 : (0 : Int) ≤ (k : Int) := by omega
          have l4 : (k : Int) < (n : Int) := by omega
          have hkn := hsend.2
          obtain ⟨b, hb⟩ : ∃ b, ts[k]? = some b := ⟨_, List.getElem?_eq_getElem (by rw [HT.out.1]; exact hkn)⟩
          obtain ⟨ad2, rfl, had2, Ai, ci, cb, rb⟩ := HT.out.2 k b hb
          have u1 : wr.cell? (ad2.add k) = some (.slice Ai b.length ci) := (HS.out.mem.old.cell (p := ad2.add k) (by rw [block_of_add]; exact had2)).trans cb
          have HRB := Lib.hid rb
          have HCB := Lib.hid cb
          clear cb rb hb
          go_upto_region 13 with fail
          by_cases hbl : 8192 < b.length
          · go_wp2_with fail
            refine (send_long _ (sideN s) Ai b.length ci _ (sideN_ok s) hbl).mono ?_
            rintro e w5 ⟨rfl, rfl⟩
            go_wp2_with fail
            refine (num_any _ _).mono ?_
            rintro e w' ⟨rfl, rfl⟩
            go_wp2
            go_roundw
            case rel => exact ⟨k + 1, j + 1, hkn, hjm, by go_num, by go_num, HS.out.next (by omega)⟩
            case measure => simp [intOf]; omega
          · by_cases hfull : ((S.u s).length : Int) = S.limit
            · go_wp2_with fail
              refine (send_full _ S v l s Ai b.length ci _ HS.out.mem.net HS.out.ok.lo HS.out.up (by omega) hfull).mono ?_
              rintro e w5 ⟨rfl, hb5⟩
              have HS5 := Lib.hid (HS.out.below hb5)
              clear hb5
              go_wp2_with fail
              refine (num_any _ _).mono ?_
              rintro e w' ⟨rfl, rfl⟩
              go_wp2
              go_roundw
              case rel => exact ⟨k + 1, j + 1, hkn, hjm, by go_num, by go_num, HS5.out.next (by omega)⟩
              case measure => simp [intOf]; omega
            · have HF : Hid (((S.u s).length : Int) < S.limit) := Lib.hid (by have := HS.out.ok.len s; omega)
              have HBL : Hid (b.length ≤ 8192) := Lib.hid (by omega)
              clear hfull
              go_wp2_with fail
              refine (send_any w.heap.size S v l (100 + 2 * j) s Ai b.length ci w.heap.size b _ HS.out.mem.net HS.out.ok (by omega) HS.out.up HBL.out HF.out (HRB.out.below HS.out.mem.old) HS.out.mem.old.size).mono ?_
              rintro e w5 ⟨v5, l5, hn5, hsub5, hc5, rfl⟩
              have HM5 := Lib.hid (HS.out.mem.step hn5 hsub5 hc5)
              have HN5 := Lib.hid hn5
              have HSUB5 := Lib.hid hsub5
              have HC5 := Lib.hid hc5
              clear hn5 hsub5 hc5 u0 u1
              go_wp2_with fail
              refine (num_any _ _).mono ?_
              rintro e w' ⟨rfl, rfl⟩
              go_upto_region 15 with fail
              have u5 : w5.cell? (ad2.add k) = some (.slice Ai b.length ci) := (HM5.out.old.cell (p := ad2.add k) (by rw [block_of_add]; exact had2)).trans HCB.out
              have a5 : w5.cell? ⟨a, sideO s, none⟩ = some (x false s) := ((HM5.out.arr false).1.cell _).trans (arrV_at _ _)
              have fa5 : w5.frozen? ⟨a, sideO s, none⟩ = false := (HM5.out.arr false).1.frozen (sideO s)
              have ha5 : a < w5.heap.size := (HM5.out.arr false).1.lt
              have HLEN : Hid ((y false s).length ≤ 5864062014634) := Lib.hid (by have h1 := (HS.out.sent s).1; have h2 := HS.out.len s; omega)
              obtain ⟨Av, cv, hv, _, _⟩ := own_form (HM5.out.row false s)
              rw [hv] at a5
              have HV := Lib.hid hv
              have HOK : Hid (((S.add s 0 1).put s b).ok (100 + 2 * (j : Int) + 2)) := Lib.hid (Ns.ok_mono (Ns.put_ok (Ns.add_ok HS.out.ok s 0 (by omega) 1 (by omega)) s b HF.out) (by omega))
              have HUP : Hid (((S.add s 0 1).put s b).up = true) := Lib.hid HS.out.up
              have HU : Hid (∃ (A : Option Addr) (c : Nat), (Value.slice Ai b.length ci) = .slice A b.length c ∧ RdB w w.heap.size A b.length b) := Lib.hid ⟨Ai, ci, rfl, HRB.out⟩
              have hb5 : Below w5.heap.size w5 ((w5.alloc (.cells #[.slice Ai b.length ci] 23)).drew) := ((Below.refl _ _).alloc (Nat.le_refl _) _).drew
              have HB5 := Lib.hid hb5
              have HW5 : Hid (w.heap.size ≤ w5.heap.size) := Lib.hid HM5.out.old.size
              have HRW := Lib.hid (HM5.out.row false s)
              clear hv hsend hb5
              obtain ⟨i0, hi, hz0, hz1, hz2⟩ := info_parts info23
              cases s
              all_goals
                simp only [sideN, sideO] at *
                go_region_law (first
                  | (refine step_append_any _ rfl (.tmp 90) (.tmp 95) 22 rfl w.heap.size 23 i0 _ 1 24 Try.underlying22 hi hz0 hz1 hz2 rfl (by decide) (x false _) _ _ (by simp [Act.eval, HV.out]; try rfl) (World.ownsRow.alloc HRW.out _) (w5.heap.size + 1) (some ⟨w5.heap.size, 0, none⟩) 1 1 _ (by simp [Act.eval]) (read_one1 _ _ _) (one_one _ _ _) (by have := HLEN.out; simp only [maxLen]; omega) (by have := HLEN.out; omega) (by have := HW5.out; simp; omega) ?_; intro z6 w6 hown6 hgrow6 hv6; have hnx := OrdS.send (b := b) (num := S.number + 1) HS.out HN5.out HSUB5.out HC5.out rfl HOK.out HUP.out HB5.out hown6 hgrow6 hv6 HU.out HBL.out; have HNX := Lib.hid hnx; have hg6 := HM5.out.a6 false _ HB5.out hgrow6; have u6 := hg6.1; have f6 := hg6.2; simp only [abF, sideO] at u6 f6; obtain ⟨A6, c6, rfl, _, _⟩ := own_form hown6; clear hown6 hgrow6 hv6 hg6 hnx))
                all_goals
                  have HNX2 : Hid (OrdX w w.heap.size (abF a) (j + 1) (k + 1) _) := HNX
                  go_wp2
                  go_roundw
                  case rel => exact ⟨k + 1, j + 1, hkn, hjm, by go_num, by go_num, HNX2.out⟩
                  case measure => simp [intOf]; omega
        · go_upto_region 12 with fail
          go_cut [73] (fun s73 wx => s73 = .bool false ∧ wr = wx)
          case first =>
            by_cases q4 : xb.toNat % 4 < 2
            · have e4 : (xb.toNat : Int) % 4 < 2 := by omega
              have q5 : ¬ (k : Int) < (n : Int) := by omega
              go_wp2_with fail
              go_meet
              exact ⟨rfl, rfl⟩
            · have e4 : ¬ (xb.toNat : Int) % 4 < 2 := by omega
              go_wp2_with fail
              go_meet
              exact ⟨rfl, rfl⟩
          case rest =>
            obtain ⟨rfl, rfl⟩ := hcut
            clear hsend u0
            cases hus : S.u s with
            | nil =>
              have HUS : Hid (((S.u s).length : Int) ≤ 0) := Lib.hid (by rw [hus]; simp)
              clear hus
              go_wp2_with fail
              refine (deliver_none w.heap.size S v l s 0 _ HS.out.mem.net HS.out.ok.lo HS.out.up (.inr HUS.out)).mono ?_
              rintro e w5 ⟨rfl, hb5⟩
              have HS5 := Lib.hid (HS.out.below (hb5.alloc hb5.size (.cells #[.int .i64 0, .slice none 0 0] 36)))
              clear hb5
              go_wp2_with fail
              refine (num_any _ _).mono ?_
              rintro e w' ⟨rfl, rfl⟩
              go_wp2
              go_roundw
              case rel => exact ⟨k, j + 1, hk, hjm, by go_num, by go_num, HS5.out.next (Nat.le_refl _)⟩
              case measure => simp [intOf]; omega
            | cons p r =>
              obtain ⟨q, hq, hpk⟩ := is_at HS.out.mem.net (s := s) (i := 0) (p := p) (by rw [hus]; rfl)
              subst hpk
              have HUS := Lib.hid hus
              clear hus
              go_wp2_with fail
              refine (deliver_any w.heap.size S v l (100 + 2 * j) s 0 q _ HS.out.mem.net HS.out.ok (by omega) HS.out.up hq).mono ?_
              rintro e w5 ⟨v5, l5, hn5, hsub5, hc5, A5, c5, rfl, ho5, hf5⟩
              have HM5 := Lib.hid (HS.out.mem.step hn5 hsub5 hc5)
              have HN5 := Lib.hid hn5
              have HSUB5 := Lib.hid hsub5
              have HC5 := Lib.hid hc5
              have HU : Hid (∃ (A : Option Addr) (c : Nat), (Value.slice A5 q.pk.bytes.length c5) = .slice A q.pk.bytes.length c ∧ OwnB 5 w5 0 (.slice A q.pk.bytes.length c) q.pk.bytes ∧ ∀ k, (Value.slice A q.pk.bytes.length c).ownBlock = some k → ¬ NetF w.heap.size v5 l5 k) := Lib.hid ⟨A5, c5, rfl, ho5, fun k hk => (hf5 k hk).1⟩
              clear hn5 hsub5 hc5 ho5 hf5 hq
              go_wp2_with fail
              refine (num_any _ _).mono ?_
              rintro e w' ⟨rfl, rfl⟩
              have hb6 : Below w5.heap.size w5 (w5.alloc (.cells #[.int .i64 q.pk.num, .slice A5 q.pk.bytes.length c5] 36)) := (Below.refl _ _).alloc (Nat.le_refl _) _
              have hp6 : Blk (w5.alloc (.cells #[.int .i64 q.pk.num, .slice A5 q.pk.bytes.length c5] 36)) w5.heap.size 36 #[.int .i64 q.pk.num, .slice A5 q.pk.bytes.length c5] := Blk.new w5 36 _
              generalize w5.alloc (.cells #[.int .i64 q.pk.num, .slice A5 q.pk.bytes.length c5] 36) = w6 at *
              have HM6 := Lib.hid (HM5.out.below hb6)
              have p6 : w6.cell? ⟨w5.heap.size, 1, none⟩ = some (.slice A5 q.pk.bytes.length c5) := hp6.cell 1
              have HB6 := Lib.hid hb6
              clear hb6 hp6
              generalize hs5 : w5.heap.size = s5 at p6 ⊢
              go_upto_region 19 with fail
              have a6 : w6.cell? ⟨a + 1, sideO s, none⟩ = some (x true s) := ((HM6.out.arr true).1.cell _).trans (arrV_at _ _)
              have fa6 : w6.frozen? ⟨a + 1, sideO s, none⟩ = false := (HM6.out.arr true).1.frozen (sideO s)
              have ha6 : a + 1 < w6.heap.size := (HM6.out.arr true).1.lt
              have HLEN : Hid ((y true s).length ≤ 5864062014634) := Lib.hid (by
                have h1 := (HS.out.got s).1
                have h2 := HS.out.len s
                have h3 := congrArg List.length (HS.out.law s)
                rw [List.length_append] at h3
                omega)
              obtain ⟨Av, cv, hv, _, _⟩ := own_form (HM6.out.row true s)
              rw [hv] at a6
              have HV := Lib.hid hv
              have HOK : Hid (((S.take s 0).add s 2 1).ok (100 + 2 * (j : Int) + 2)) := Lib.hid (Ns.ok_mono (Ns.add_ok (Ns.take_ok HS.out.ok s 0) s 2 (by omega) 1 (by omega)) (by omega))
              have HUP : Hid (((S.take s 0).add s 2 1).up = true) := Lib.hid HS.out.up
              have HSU : Hid (((S.take s 0).add s 2 1).u = upd S.u s r) := Lib.hid (by show upd S.u s ((S.u s).eraseIdx 0) = _; rw [HUS.out]; rfl)
              have hb7 : Below w6.heap.size w6 ((w6.alloc (.cells #[.slice A5 q.pk.bytes.length c5] 23)).drew) := ((Below.refl _ _).alloc (Nat.le_refl _) _).drew
              have HB7 := Lib.hid hb7
              have HB8 : Hid (Below w5.heap.size w5 ((w6.alloc (.cells #[.slice A5 q.pk.bytes.length c5] 23)).drew)) := Lib.hid (HB6.out.trans (hb7.mono HB6.out.size))
              have HW6 : Hid (w.heap.size ≤ w6.heap.size) := Lib.hid HM6.out.old.size
              have HRW := Lib.hid (HM6.out.row true s)
              clear hv hb7 hs5
              obtain ⟨i0, hi, hz0, hz1, hz2⟩ := info_parts info23
              cases s
              all_goals
                simp only [sideN, sideO] at *
                go_region_law (first
                  | (refine step_append_any _ rfl (.tmp 112) (.tmp 115) 22 rfl w.heap.size 23 i0 _ 1 24 Try.underlying22 hi hz0 hz1 hz2 rfl (by decide) (x true _) _ _ (by simp [Act.eval, HV.out]; try rfl) (World.ownsRow.alloc HRW.out _) (w6.heap.size + 1) (some ⟨w6.heap.size, 0, none⟩) 1 1 _ (by simp [Act.eval]) (read_one1 _ _ _) (one_one _ _ _) (by have := HLEN.out; simp only [maxLen]; omega) (by have := HLEN.out; omega) (by have := HW6.out; simp; omega) ?_; intro z7 w7 hown7 hgrow7 hv7; have hnx := OrdS.dele HS.out HN5.out HSUB5.out HC5.out HUS.out HSU.out HOK.out HUP.out HB8.out hown7 hgrow7 hv7 HU.out; have HNX := Lib.hid hnx; have hg7 := HM6.out.a6 true _ HB7.out hgrow7; have u7 := hg7.1; have f7 := hg7.2; simp only [abF, sideO] at u7 f7; obtain ⟨A7, c7, rfl, _, _⟩ := own_form hown7; clear hown7 hgrow7 hv7 hg7 hnx))
                all_goals
                  have HNX2 : Hid (OrdX w w.heap.size (abF a) (j + 1) k _) := HNX
                  go_wp2
                  go_roundw
                  case rel => exact ⟨k, j + 1, hk, hjm, by go_num, by go_num, HNX2.out⟩
                  case measure => simp [intOf]; omega
    · have l2 : ¬ (j : Int) < (m : Int) := by omega
      obtain ⟨S, v, l, x, y, tl, gl, hs⟩ := HX.out
      have HS := Lib.hid hs
      have hw := hs.len
      clear HX HT HP hs
      go_upto_region 21 with fail
      go_loopw [18, 19] (fun q _ wr => ∃ t : Nat, 1 ≤ t ∧ t ≤ 3 ∧ q = .int .i64 t ∧ OrdS w w.heap.size (abF a) j k S v l x y tl gl wr) (fun q _ _ => 3 - (intOf q).toNat)
      case atStart => exact ⟨1, Nat.le_refl _, by omega, rfl, HS.out⟩
      case round =>
        obtain ⟨t, ht1, ht2, rfl, hs2⟩ := hrel
        have HS2 := Lib.hid hs2
        clear hs2 HS
        have ht : t = 1 ∨ t = 2 ∨ t = 3 := by omega
        clear ht1 ht2
        rcases ht with rfl | rfl | rfl
        · have HC := Lib.hid fun (W : World) (h : OrdS w w.heap.size (abF a) j k S v l x y tl gl W) => h.cells false
          simp only [abF, sideO] at HC
          obtain ⟨A1, c1, hv1, _, _⟩ := own_form (HS2.out.mem.row false false)
          obtain ⟨A2, c2, hv2, _, _⟩ := own_form (HS2.out.mem.row true false)
          rw [hv1, hv2] at HC
          have HUN := Lib.hid fun (W : World) (h : OrdS w w.heap.size (abF a) j k S v l x y tl gl W) => h.under false
          simp only [sideN] at HUN
          have hl1 := HS2.out.lens false
          have n1b : (y false false).length ≤ 5864062014634 := by omega
          have n2b : (y true false).length ≤ 5864062014634 := by omega
          have HL1 := Lib.hid hl1
          have HELE := Lib.hid fun (W : World) (h : OrdS w w.heap.size (abF a) j k S v l x y tl gl W) (i : Nat) (hi : i < (y true false).length) => h.elems false hi hv1 hv2
          have HWR := Lib.hid hw
          clear hl1 hv1 hv2
          go_upto_region 23 with fail
          have sa0 := HS2.out.below (Below.refl wr.heap.size wr).drew
          have c0 := HC.out _ HS2.out
          go_cut [135] (fun q wx => q = .bool false ∧ OrdS w w.heap.size (abF a) j k S v l x y tl gl wx)
          case first =>
            go_region_held3 (fun W => W.cell? ⟨a, 1, none⟩ = some (.slice A1 (y false false).length c1) ∧ W.cell? ⟨a + 1, 1, none⟩ = some (.slice A2 (y true false).length c2))
              (first | go_keep | exact HC.out _ sa1)
              (first | (go_at_call 15; ((with_reducible refine (HUN.out _ sa0).mono ?_); rintro e w5 ⟨uv, ul, rfl, hux, hul⟩; have sa1 := sa0.below hux.old; obtain ⟨Au, cu, rfl, _, _⟩ := own_form hux.row; have hlu := congrArg List.length hul; rw [List.length_map] at hlu; have hl1 := HL1.out; have e1 := Lib.hid (wrap_sum (y true false).length ul.length (y false false).length (by omega) (by omega) (by omega)); clear hlu hul hux hl1)))
            all_goals (go_wp2_with fail; go_meet; exact ⟨by rw [e1.out], sa1⟩)
          case rest =>
            obtain ⟨rfl, hs3⟩ := hcut
            have HS3 := Lib.hid hs3
            clear hs3 sa0 c0 HS2
            go_upto_region 26 with fail
            go_loopw [19] (fun q wr => ∃ i : Nat, i ≤ (y true false).length ∧ q = .int .i64 i ∧ OrdS w w.heap.size (abF a) j k S v l x y tl gl wr) (fun q _ => (y true false).length - (intOf q).toNat)
            case atStart => exact ⟨0, Nat.zero_le _, rfl, HS3.out⟩
            case round =>
              obtain ⟨i, hi, rfl, hs4⟩ := hrel
              have HS4 := Lib.hid hs4
              have c4 := HC.out _ hs4
              obtain ⟨c41, c42⟩ := c4
              clear hs4 HS3
              by_cases hin : i < (y true false).length
              · obtain ⟨ad1, ad2, B1, d1, B2, d2, bs, rfl, rfl, e1, e2, r1, r2⟩ := HELE.out _ HS4.out i hin
                have g1 := fun nn : Nat => run_string_of (P := Try.prog) (c := d1) (wr.drewN nn) 23 9 5 (r1.drewN nn) Try.underlying23 Try.underlying5 Try.underlying9
                have g2 := fun nn : Nat => run_string_of (P := Try.prog) (c := d2) (wr.drewN nn) 23 9 5 (r2.drewN nn) Try.underlying23 Try.underlying5 Try.underlying9
                have HIN := Lib.hid hin
                have l6 : (0 : Int) ≤ (i : Int) := by omega
                have l7 : (i : Int) < ((y true false).length : Int) := by omega
                have l8 : (i : Int) < ((y false false).length : Int) := by have := HL1.out; omega
                clear r1 r2 hin
                generalize (⟨bs.toArray⟩ : ByteArray) = tt at g1 g2
                have g3 : ∀ W : World, (binOp .neq 9 (.string tt) (.string tt)).run Try.prog W = .ok (.bool false) W := fun W => by simp [go_sem]
                go_upto_region 28 with fail
                go_quiet (fail)
                go_wp2
                go_roundw
                case rel => exact ⟨i + 1, HIN.out, by go_num, HS4.out.below (below_drewN (Below.refl _ _) _)⟩
                case measure => simp [intOf]; omega
              · have l7 : ¬ (i : Int) < ((y true false).length : Int) := by omega
                clear hin
                go_wp2
                go_roundw
                case rel => exact ⟨2, by omega, by omega, rfl, HS4.out⟩
                case measure => simp [intOf]
        · have HC := Lib.hid fun (W : World) (h : OrdS w w.heap.size (abF a) j k S v l x y tl gl W) => h.cells true
          simp only [abF, sideO] at HC
          obtain ⟨A1, c1, hv1, _, _⟩ := own_form (HS2.out.mem.row false true)
          obtain ⟨A2, c2, hv2, _, _⟩ := own_form (HS2.out.mem.row true true)
          rw [hv1, hv2] at HC
          have HUN := Lib.hid fun (W : World) (h : OrdS w w.heap.size (abF a) j k S v l x y tl gl W) => h.under true
          simp only [sideN] at HUN
          have hl1 := HS2.out.lens true
          have n1b : (y false true).length ≤ 5864062014634 := by omega
          have n2b : (y true true).length ≤ 5864062014634 := by omega
          have HL1 := Lib.hid hl1
          have HELE := Lib.hid fun (W : World) (h : OrdS w w.heap.size (abF a) j k S v l x y tl gl W) (i : Nat) (hi : i < (y true true).length) => h.elems true hi hv1 hv2
          have HWR := Lib.hid hw
          clear hl1 hv1 hv2
          go_upto_region 23 with fail
          have sa0 := HS2.out.below (Below.refl wr.heap.size wr).drew
          have c0 := HC.out _ HS2.out
          go_cut [135] (fun q wx => q = .bool false ∧ OrdS w w.heap.size (abF a) j k S v l x y tl gl wx)
          case first =>
            go_region_held3 (fun W => W.cell? ⟨a, 2, none⟩ = some (.slice A1 (y false true).length c1) ∧ W.cell? ⟨a + 1, 2, none⟩ = some (.slice A2 (y true true).length c2))
              (first | go_keep | exact HC.out _ sa1)
              (first | (go_at_call 15; ((with_reducible refine (HUN.out _ sa0).mono ?_); rintro e w5 ⟨uv, ul, rfl, hux, hul⟩; have sa1 := sa0.below hux.old; obtain ⟨Au, cu, rfl, _, _⟩ := own_form hux.row; have hlu := congrArg List.length hul; rw [List.length_map] at hlu; have hl1 := HL1.out; have e1 := Lib.hid (wrap_sum (y true true).length ul.length (y false true).length (by omega) (by omega) (by omega)); clear hlu hul hux hl1)))
            all_goals (go_wp2_with fail; go_meet; exact ⟨by rw [e1.out], sa1⟩)
          case rest =>
            obtain ⟨rfl, hs3⟩ := hcut
            have HS3 := Lib.hid hs3
            clear hs3 sa0 c0 HS2
            go_upto_region 26 with fail
            go_loopw [19] (fun q wr => ∃ i : Nat, i ≤ (y true true).length ∧ q = .int .i64 i ∧ OrdS w w.heap.size (abF a) j k S v l x y tl gl wr) (fun q _ => (y true true).length - (intOf q).toNat)
            case atStart => exact ⟨0, Nat.zero_le _, rfl, HS3.out⟩
            case round =>
              obtain ⟨i, hi, rfl, hs4⟩ := hrel
              have HS4 := Lib.hid hs4
              have c4 := HC.out _ hs4
              obtain ⟨c41, c42⟩ := c4
              clear hs4 HS3
              by_cases hin : i < (y true true).length
              · obtain ⟨ad1, ad2, B1, d1, B2, d2, bs, rfl, rfl, e1, e2, r1, r2⟩ := HELE.out _ HS4.out i hin
                have g1 := fun nn : Nat => run_string_of (P := Try.prog) (c := d1) (wr.drewN nn) 23 9 5 (r1.drewN nn) Try.underlying23 Try.underlying5 Try.underlying9
                have g2 := fun nn : Nat => run_string_of (P := Try.prog) (c := d2) (wr.drewN nn) 23 9 5 (r2.drewN nn) Try.underlying23 Try.underlying5 Try.underlying9
                have HIN := Lib.hid hin
                have l6 : (0 : Int) ≤ (i : Int) := by omega
                have l7 : (i : Int) < ((y true true).length : Int) := by omega
                have l8 : (i : Int) < ((y false true).length : Int) := by have := HL1.out; omega
                clear r1 r2 hin
                generalize (⟨bs.toArray⟩ : ByteArray) = tt at g1 g2
                have g3 : ∀ W : World, (binOp .neq 9 (.string tt) (.string tt)).run Try.prog W = .ok (.bool false) W := fun W => by simp [go_sem]
                go_upto_region 28 with fail
                go_quiet (fail)
                go_wp2
                go_roundw
                case rel => exact ⟨i + 1, HIN.out, by go_num, HS4.out.below (below_drewN (Below.refl _ _) _)⟩
                case measure => simp [intOf]; omega
              · have l7 : ¬ (i : Int) < ((y true true).length : Int) := by omega
                clear hin
                go_wp2
                go_roundw
                case rel => exact ⟨3, by omega, by omega, rfl, HS4.out⟩
                case measure => simp [intOf]
        · go_wp2
          go_ret
          exact ⟨rfl, HS2.out.mem.old⟩
end Go.Proofs.Ytbkgphmocjjmmaa
