/-
  The walk of the law NetFresh f4.
-/
import Derived.Test.YtbkgphmocjjmmaaNtW
import Derived.BigQuiet
import Derived.Deep.CutBlock
namespace Go.Proofs.Ytbkgphmocjjmmaa
open Go.RowKit

theorem NetX.blocks {w : World} {g : Nat} {S : Ns} {v : Bool → Value} {l : Bool → List LP} (h : NetA w g S v l) (k : Nat) (hk : NetF g v l k) : k < w.heap.size := h.lt hk
theorem FrN.first {w W : World} {limit : Int} {e : Ending} (h : NewP w limit e W) : e = .returned (.tuple #[.pointer (some ⟨w.heap.size, 0, none⟩), .int .i64 0]) ∧ FrN w w.heap.size (Ns.new limit) (fun _ => .slice none 0 0) (fun _ => []) W := by
  obtain ⟨rfl, hn, hb⟩ := h
  refine ⟨rfl, hn, fun k hk => ?_, hb⟩
  rcases hk with rfl | ⟨s, hs⟩ | ⟨s, p, hp, _⟩
  · exact Nat.le_refl _
  · cases hs
  · cases hp
theorem FrN.conn {w W W' : World} {g : Nat} {S : Ns} {v : Bool → Value} {l : Bool → List LP} {e : Ending} (h : FrN w g S v l W) (hc : ConnP g S v l W e W') : e = .returned (.int .i64 0) ∧ FrN w g S.conn v l W' := by
  obtain ⟨he, h1, h2, _⟩ := hc
  exact ⟨he, h.step h1 (fun _ hk => .inl hk) (h2.mono (fun i _ e => .inl e))⟩
def fr1 : Ns := (Ns.new 4).conn
def fr2 (bs : List UInt8) : Ns := (fr1.add false 0 1).put false bs
def fr3 (bs : List UInt8) : Ns := ((fr2 bs).add false 1 1).put false bs
theorem fr_ok (bs : List UInt8) : (Ns.new 4).ok 100 ∧ fr1.ok 100 ∧ (fr2 bs).ok 100 ∧ (fr3 bs).ok 100 := by
  have h : ∀ S : Ns, S.limit = 4 → (0 ≤ S.epoch ∧ S.epoch ≤ 100) → (0 ≤ S.number ∧ S.number ≤ 100) → (∀ s, ((S.u s).length : Int) ≤ 4) → (∀ s, (S.c s).ok 100) → S.ok 100 := fun S h1 h2 h3 h4 h5 => ⟨by omega, by omega, h2, h3, fun s => by rw [h1]; exact h4 s, h5⟩
  refine ⟨Ns.new_ok (by omega) (by omega) _ (by omega), ?_, ?_, ?_⟩
  · exact h _ rfl (by decide) (by decide) (fun s => by cases s <;> simp [fr1, Ns.conn, Ns.new]) (fun s => by cases s <;> (unfold Cn.ok; decide))
  · exact h _ rfl (by constructor <;> simp [fr2, fr1, Ns.put, Ns.add, Ns.conn, Ns.new]) (by constructor <;> simp [fr2, fr1, Ns.put, Ns.add, Ns.conn, Ns.new]) (fun s => by cases s <;> simp [fr2, fr1, Ns.put, Ns.add, Ns.conn, Ns.new, upd]) (fun s => by cases s <;> simp [fr2, fr1, Ns.put, Ns.add, Ns.conn, Ns.new, upd, Cn.ok, Cn.put, Cn.get, Cn.zero])
  · exact h _ rfl (by constructor <;> simp [fr3, fr2, fr1, Ns.put, Ns.add, Ns.conn, Ns.new]) (by constructor <;> simp [fr3, fr2, fr1, Ns.put, Ns.add, Ns.conn, Ns.new]) (fun s => by cases s <;> simp [fr3, fr2, fr1, Ns.put, Ns.add, Ns.conn, Ns.new, upd]) (fun s => by cases s <;> simp [fr3, fr2, fr1, Ns.put, Ns.add, Ns.conn, Ns.new, upd, Cn.ok, Cn.put, Cn.get, Cn.zero])
theorem fr_facts (bs : List UInt8) : (Ns.new 4).up = false ∧ fr1.up = true ∧ (fr2 bs).up = true ∧ (fr3 bs).up = true ∧ ((fr1.u false).length : Int) < fr1.limit ∧ (fr2 bs).u false = [⟨1, bs⟩] ∧ (((fr2 bs).u false).length : Int) < (fr2 bs).limit ∧ (fr3 bs).u false = [⟨1, bs⟩, ⟨2, bs⟩] ∧ (fr2 bs).number = 1 := by
  refine ⟨rfl, rfl, rfl, rfl, by decide, ?_, ?_, ?_, ?_⟩ <;> simp [fr3, fr2, fr1, Ns.put, Ns.add, Ns.conn, Ns.new, upd]
set_option maxRecDepth 20000 in
set_option maxHeartbeats 4000000 in
theorem fresh_any (A : Option Addr) (n c : Nat) (at_ : Int) (bs : List UInt8) (w : World) (hr : RdB w w.heap.size A n bs) (hn : n ≤ 8192) :
    Calls Try.prog 4 #[.slice A n c, .int .i64 at_] w (AwP w) := by
  have hlb := hr.len1
  have HR := Lib.hid hr
  obtain ⟨o0, o1, o2, o3⟩ := fr_ok bs
  obtain ⟨e0, e1, e2, e3, e4, e5, e6, e7, e8⟩ := fr_facts bs
  have O0 := Lib.hid o0
  have O1 := Lib.hid o1
  have O2 := Lib.hid o2
  have O3 := Lib.hid o3
  have E0 := Lib.hid e0
  have E1 := Lib.hid e1
  have E2 := Lib.hid e2
  have E3 := Lib.hid e3
  have E4 := Lib.hid e4
  have E5 := Lib.hid e5
  have E6 := Lib.hid e6
  have E7 := Lib.hid e7
  have E8 := Lib.hid e8
  have HLB := Lib.hid hlb
  have HN := Lib.hid hn
  have t8 : ¬ (8192 : Int) < (n : Int) := by omega
  have H := Lib.hid ((new_ok 4 w (by omega) (by omega)).mono fun _ _ h => FrN.first h)
  clear hr o0 o1 o2 o3 e0 e1 e2 e3 e4 e5 e6 e7 e8 hlb hn
  go_enter Try.func4, Try.ntmps4
  go_wp2_with fail
  refine H.out.mono ?_
  rintro e w1 ⟨rfl, hw1⟩
  have H1 := Lib.hid hw1
  clear hw1 H
  generalize hgg : w.heap.size = g at H1 ⊢
  go_wp2_with fail
  refine (num_any _ _).mono ?_
  rintro e w' ⟨rfl, rfl⟩
  go_wp2_with fail
  refine ((connect_down g (Ns.new 4) _ _ 100 w1 H1.out.net O0.out (by omega) E0.out).mono fun _ _ h => H1.out.conn h).mono ?_
  rintro e w2 ⟨rfl, hw2⟩
  have H2 : Hid (FrN w g fr1 _ _ w2) := Lib.hid hw2
  clear hw2 H1
  go_wp2_with fail
  refine (num_any _ _).mono ?_
  rintro e w' ⟨rfl, rfl⟩
  go_wp2_with fail
  refine (awake_any _).mono ?_
  rintro e w3 ⟨rfl, hb⟩
  have H3 := Lib.hid (H2.out.below hb)
  clear hb H2
  have hge3 : w.heap.size ≤ w3.heap.size := H3.out.old.size
  have HRW := Lib.hid (HR.out.below H3.out.old)
  have HEM : Hid (OwnB 5 (w3.alloc (.cells #[] 5)) w3.heap.size (.slice (some ⟨w3.heap.size, 0, none⟩) 0 0) []) := Lib.hid (OwnB.built 5 w3 w3.heap.size #[] [] (Nat.le_refl _) (by simp) rfl)
  go_wp2_with (at_builtin; refine wpList_app rfl (.tmp 45) (.tmp 46) 23 rfl w3.heap.size 5 info5 Try.underlying23 _ [] rfl HEM.out _ _ _ _ bs rfl (HRW.out.alloc hge3 _) (by have := HLB.out; have := HN.out; simp; omega) (by simp) ?_; intro v4 w4 hown happ; rw [List.nil_append] at hown; have HO4 := Lib.hid hown; have HB4 := Lib.hid (below_lit happ); obtain ⟨A4, c4, rfl, _, _⟩ := own_form hown; clear hown happ)
  have hfr4 := H3.out.below HB4.out
  have H4 := Lib.hid hfr4
  have HG4 : Hid (OwnF w (NetF g (fun _ => .slice none 0 0) (fun _ => [])) w4 (.slice A4 bs.length c4) bs) := Lib.hid ⟨own_base HO4.out hge3, fun k hk hf => by have := H3.out.net.lt hf; have := (HO4.out.lt k hk).1; omega⟩
  clear hfr4 HEM HRW H3 HO4 HB4 hge3
  refine (send_any g fr1 _ _ 100 false A4 bs.length c4 w4.heap.size bs w4 H4.out.net O1.out (by omega) E1.out (by have := HLB.out; have := HN.out; omega) E4.out (OwnB.reads HG4.out.1 rfl) (Nat.le_refl _)).mono ?_
  rintro e w5 ⟨v5, l5, hn5, hsub5, hc5, rfl⟩
  have H5 : Hid (FrN w g (fr2 bs) v5 l5 w5) := Lib.hid (H4.out.step hn5 hsub5 hc5)
  have HG5 := Lib.hid (HG4.out.step hsub5 hc5)
  clear hn5 hsub5 hc5 H4 HG4
  go_wp2_with fail
  go_loopw [8] (fun i wr => ∃ k : Nat, k ≤ bs.length ∧ i = .int .i64 k ∧ FrN w g (fr2 bs) v5 l5 wr ∧ ∃ cs : List UInt8, cs.length = bs.length ∧ OwnF w (NetF g v5 l5) wr (.slice A4 bs.length c4) cs) (fun i _ => bs.length - (intOf i).toNat)
  case atStart => exact ⟨0, Nat.zero_le _, rfl, H5.out, bs, rfl, HG5.out⟩
  case round =>
    obtain ⟨k, hk, rfl, hfr, cs, hcs, hgv⟩ := hrel
    have HF := Lib.hid hfr
    have HGV := Lib.hid hgv
    clear hfr hgv H5 HG5
    by_cases hkn : k < bs.length
    · obtain ⟨gp, rfl, hgp, _⟩ := own_ptr HGV.out.1 (by omega)
      obtain ⟨b, hb, c0, f0⟩ := own_cell HGV.out.1 (j := k) (by omega)
      have HT := Lib.hid fun x => own_turn HGV.out (gp := gp) (by simp [Value.ownBlock]) k x
      have l1 : (0 : Int) ≤ (k : Int) := by omega
      have l2 : (k : Int) < (bs.length : Int) := by omega
      have HCS := Lib.hid hcs
      have hk8 : k < 8192 := by have := HLB.out; have := HN.out; omega
      clear hcs hb
      go_wp2_with fail
      have hx : bits .xor .u8 (b.toNat : Int) 255 = ((b ^^^ 255).toNat : Int) := xor_u8 b 255
      have HT2 := Lib.hid fun x => HF.out.turn HGV.out (gp := gp) (by simp [Value.ownBlock]) k x
      go_roundw
      case rel => exact ⟨k + 1, hkn, by go_num, by rw [hx]; exact HT2.out _, cs.set k (b ^^^ 255), by rw [List.length_set]; exact HCS.out, by rw [hx]; exact (HT.out _).1⟩
      case measure => simp [intOf]; omega
    · have l2 : ¬ (k : Int) < (bs.length : Int) := by omega
      clear hcs HGV
      obtain ⟨p1, hp1, hpk1⟩ := is_at HF.out.net (s := false) (i := 0) (p := ⟨1, bs⟩) (by rw [E5.out]; rfl)
      have HP1 := Lib.hid hp1
      have HPK1 := Lib.hid hpk1
      clear hp1 hpk1
      go_wp2_with fail
      refine (double_any g (fr2 bs) v5 l5 100 false 0 p1 wr HF.out.net O2.out (by omega) E2.out HP1.out E6.out (by rw [HPK1.out]; have := HLB.out; have := HN.out; show bs.length ≤ _; omega)).mono ?_
      rintro e w6 ⟨v6, l6, hn6, hsub6, hc6, A6, c6, rfl, ho6, hf6⟩
      rw [HPK1.out] at hn6 ho6 hf6
      have H6 : Hid (FrN w g (fr3 bs) v6 l6 w6) := Lib.hid (HF.out.step hn6 hsub6 hc6)
      have HC6 : Hid (OwnF w (NetF g v6 l6) w6 (.slice A6 bs.length c6) bs) := Lib.hid (OwnF.of HF.out ho6 hf6)
      clear hn6 hsub6 hc6 ho6 hf6 HF
      rw [HPK1.out, E8.out]
      go_wp2_with fail
      have hfr7 := H6.out.below (W' := w6.alloc (.cells #[.int .i64 2, .slice A6 bs.length c6] 36)) ((Below.refl _ _).alloc (Nat.le_refl _) _)
      have hc7 := HC6.out.below (W' := w6.alloc (.cells #[.int .i64 2, .slice A6 bs.length c6] 36)) ((Below.refl _ _).alloc (Nat.le_refl _) _)
      have hcb : Blk (w6.alloc (.cells #[.int .i64 2, .slice A6 bs.length c6] 36)) w6.heap.size 36 #[.int .i64 2, .slice A6 bs.length c6] := Blk.new w6 36 _
      generalize w6.alloc (.cells #[.int .i64 2, .slice A6 bs.length c6] 36) = wa at *
      generalize w6.heap.size = cb at *
      have HFA := Lib.hid hfr7
      have HCA := Lib.hid hc7
      have HCB := Lib.hid hcb
      have HBL : Hid (∀ p ∈ (fr3 bs).u false, p.bytes.length ≤ 140737488355328) := Lib.hid (by rw [E7.out]; intro p hp; have := HLB.out; have := HN.out; simp only [List.mem_cons, List.not_mem_nil, or_false] at hp; rcases hp with rfl | rfl <;> simp <;> omega)
      clear hfr7 hc7 hcb H6 HC6
      refine (under_any g (fr3 bs) v6 l6 100 false wa HFA.out.net O3.out HBL.out).mono ?_
      rintro e wb ⟨u, ul, rfl, hux, hul⟩
      rw [E7.out] at hul
      have HUX := Lib.hid hux
      have HUL := Lib.hid hul
      have HFB := Lib.hid (HFA.out.below hux.old)
      clear hux hul
      go_wp2_with fail
      refine (under_any g (fr3 bs) v6 l6 100 false wb HFB.out.net O3.out HBL.out).mono ?_
      rintro e wc ⟨vv, vl, rfl, hvx, hvl⟩
      rw [E7.out] at hvl
      obtain ⟨B1, d1, B2, d2, A1, c1, A2, c2, hV, hT, hG⟩ := two_told HFA.out HCA.out HCB.out HUX.out HUL.out hvx hvl
      have HV := Lib.hid hV
      have HT := Lib.hid hT
      have HGB := Lib.hid hG
      clear hvx hvl hV hT hG HUX HUL HFB HFA HCA HCB HBL
      obtain ⟨gu, cu, hu, hgu, _⟩ := HT.out.two.row.at_ (i := 0) (p := tp 1 bs B1 d1) rfl
      obtain ⟨gv, cv, hvv, hgv, _⟩ := HV.out.row.at_ (i := 0) (p := tp 1 bs A1 c1) rfl
      have hu : u = .slice (some ⟨gu, 0, none⟩) 2 cu := hu
      have hvv : vv = .slice (some ⟨gv, 0, none⟩) 2 cv := hvv
      subst hu hvv
      go_wp2_with fail
      refine (num_any _ _).mono ?_
      rintro e w' ⟨rfl, rfl⟩
      go_wp2_with fail
      go_loopw [12, 13, 14, 15] (fun a _ _ _ wr => ∃ i : Nat, i ≤ 2 ∧ a = .int .i64 i ∧ FrV w g (fr3 bs) v6 l6 bs wa.heap.size wb.heap.size wc.heap.size cb A6 c6 (.slice (some ⟨gv, 0, none⟩) 2 cv) A1 c1 A2 c2 wr ∧ TwoR w wc (fun _ => False) (.slice (some ⟨gu, 0, none⟩) 2 cu) (tp 1 bs B1 d1) (tp 2 bs B2 d2) i wr) (fun a _ _ _ _ => 2 - (intOf a).toNat)
      case atStart => exact ⟨0, by omega, rfl, HV.out, HT.out⟩
      case round =>
        obtain ⟨i, hi, rfl, hv3, ht3⟩ := hrel
        have HV3 := Lib.hid hv3
        have HT3 := Lib.hid ht3
        clear hv3 ht3 HV HT
        have hi3 : i = 0 ∨ i = 1 ∨ i = 2 := by omega
        clear hi
        rcases hi3 with rfl | rfl | rfl
        · have HC := Lib.hid fun (W : World) (h : TwoR w wc (fun _ => False) (.slice (some ⟨gu, 0, none⟩) 2 cu) (tp 1 bs B1 d1) (tp 2 bs B2 d2) 0 W) => (h.cells rfl).1
          go_wp2_with fail
          go_loopw [13] (fun j wx => ∃ k : Nat, k ≤ bs.length ∧ j = .int .i64 k ∧ FrV w g (fr3 bs) v6 l6 bs wa.heap.size wb.heap.size wc.heap.size cb A6 c6 (.slice (some ⟨gv, 0, none⟩) 2 cv) A1 c1 A2 c2 wx ∧ TwoR w wc (fun _ => False) (.slice (some ⟨gu, 0, none⟩) 2 cu) (tp 1 bs B1 d1) (tp 2 bs B2 d2) 0 wx) (fun j _ => bs.length - (intOf j).toNat)
          case atStart => exact ⟨0, Nat.zero_le _, rfl, HV3.out, HT3.out⟩
          case round =>
            obtain ⟨k, hk, rfl, hv4, ht4⟩ := hrel
            have HV4 := Lib.hid hv4
            have HT4 := Lib.hid ht4
            have c0 := HC.out _ ht4
            clear hv4 ht4 HV3 HT3
            have hgw : gu < wr.heap.size := by have := World.ownsRow.lt HT4.out.two.row gu (by simp [Value.ownBlock]); omega
            by_cases hkb : k < bs.length
            · obtain ⟨gp, hB, hgp, ⟨x0, b0⟩, fb0⟩ := HT4.out.ptr0 hkb
              have HBK : Hid ((tp 1 bs B1 d1).blk = some gp) := Lib.hid (by rw [hB]; simp [tp, LP.blk, LP.val, Value.ownBlock])
              rw [hB] at c0
              have HTN := Lib.hid (HT4.out.turn0 HBK.out k 7)
              have HVN := Lib.hid (HV4.out.chg ((Chg.refl (· = gp) wr).setCell (p := ⟨gp, k, none⟩) (fun _ => rfl) (bv 7)) (fun i _ e => by subst e; exact .inl (HGB.out _ (.inl HBK.out))))
              have l1 : (0 : Int) ≤ (k : Int) := by omega
              have l2 : (k : Int) < (bs.length : Int) := by omega
              have hk8 : k < 8192 := by have := HLB.out; have := HN.out; omega
              clear hB
              go_wp2
              go_roundw
              case rel => exact ⟨k + 1, hkb, by go_num, HVN.out, HTN.out⟩
              case measure => simp [intOf]; omega
            · have l2 : ¬ (k : Int) < (bs.length : Int) := by omega
              have hx0 : ∃ cs : List UInt8, cs.length = bs.length ∧ OwnF w (fun _ => False) wr (tp 1 bs B1 d1).val cs := HT4.out.two.one (Nat.le_refl _)
              obtain ⟨cs, hcs1, hcs2⟩ := hx0
              have HX0 := Lib.hid (AppX.start (W7 := wc) (tp 1 bs B1 d1) hcs1 hcs2)
              have HTN := Lib.hid HT4.out.next
              clear hcs1 hcs2
              go_wp2_with fail
              go_loopw [14, 15] (fun x j wr => ∃ k : Nat, k ≤ 20 ∧ j = .int .i64 k ∧ FrV w g (fr3 bs) v6 l6 bs wa.heap.size wb.heap.size wc.heap.size cb A6 c6 (.slice (some ⟨gv, 0, none⟩) 2 cv) A1 c1 A2 c2 wr ∧ TwoR w wc (fun _ => False) (.slice (some ⟨gu, 0, none⟩) 2 cu) (tp 1 bs B1 d1) (tp 2 bs B2 d2) 1 wr ∧ AppX w wc (tp 1 bs B1 d1) bs.length k x wr) (fun _ j _ => 20 - (intOf j).toNat)
              case atStart => exact ⟨0, by omega, rfl, HV4.out, HTN.out, HX0.out⟩
              case round =>
                obtain ⟨k, hk, rfl, hv5, ht5, hx5⟩ := hrel
                have HV5 := Lib.hid hv5
                have HT5 := Lib.hid ht5
                have HX5 := Lib.hid hx5
                clear hv5 ht5 hx5 HX0 HTN HT4 HV4
                by_cases hk20 : k < 20
                · obtain ⟨xs, hxs, hox⟩ := HX5.out.own
                  obtain ⟨Ax, cx, rfl, _, _⟩ := own_form hox
                  have HOX := Lib.hid hox
                  have HXS := Lib.hid hxs
                  have HW7 : Hid (wc.heap.size ≤ wr.heap.size) := Lib.hid HT5.out.chg.size
                  have HRD := Lib.hid (Reads.built wr 5 [bv 8])
                  clear hxs hox
                  go_wp2_with (at_builtin; refine wpList_app rfl (.tmp 117) (.tmp 118) 23 rfl w.heap.size 5 info5 Try.underlying23 _ xs rfl (World.ownsRow.alloc HOX.out _) _ _ 1 _ [8] rfl HRD.out (by have := HXS.out; have := HLB.out; have := HN.out; simp; omega) (by have := HT5.out.ge; have := HW7.out; simp; omega) ?_; intro v9 w9 hown happ; have HX9 := Lib.hid (HX5.out.step HW7.out HXS.out hown happ); have HT9 := Lib.hid (HT5.out.app HX5.out happ (r := (tp 1 bs B1 d1)) (.inl rfl) (by omega) (fun e => by cases e)); have HV9 := Lib.hid (HV5.out.chg (happ_chg HX5.out HT5.out happ (r := (tp 1 bs B1 d1)) (.inl rfl)) (fun i _ e => e.imp (HGB.out i) id)); clear hown happ)
                  go_roundw
                  case rel => exact ⟨k + 1, hk20, by go_num, HV9.out, HT9.out, HX9.out⟩
                  case measure => simp [intOf]; omega
                · have l2 : ¬ (k : Int) < 20 := by omega
                  clear HX5
                  go_wp2
                  go_roundw
                  case rel => exact ⟨1, by omega, rfl, HV5.out, HT5.out⟩
                  case measure => simp [intOf]
        · have HC := Lib.hid fun (W : World) (h : TwoR w wc (fun _ => False) (.slice (some ⟨gu, 0, none⟩) 2 cu) (tp 1 bs B1 d1) (tp 2 bs B2 d2) 1 W) => (h.cells rfl).2
          go_wp2_with fail
          go_loopw [13] (fun j wx => ∃ k : Nat, k ≤ bs.length ∧ j = .int .i64 k ∧ FrV w g (fr3 bs) v6 l6 bs wa.heap.size wb.heap.size wc.heap.size cb A6 c6 (.slice (some ⟨gv, 0, none⟩) 2 cv) A1 c1 A2 c2 wx ∧ TwoR w wc (fun _ => False) (.slice (some ⟨gu, 0, none⟩) 2 cu) (tp 1 bs B1 d1) (tp 2 bs B2 d2) 1 wx) (fun j _ => bs.length - (intOf j).toNat)
          case atStart => exact ⟨0, Nat.zero_le _, rfl, HV3.out, HT3.out⟩
          case round =>
            obtain ⟨k, hk, rfl, hv4, ht4⟩ := hrel
            have HV4 := Lib.hid hv4
            have HT4 := Lib.hid ht4
            have c0 := HC.out _ ht4
            clear hv4 ht4 HV3 HT3
            have hgw : gu < wr.heap.size := by have := World.ownsRow.lt HT4.out.two.row gu (by simp [Value.ownBlock]); omega
            by_cases hkb : k < bs.length
            · obtain ⟨gp, hB, hgp, ⟨x0, b0⟩, fb0⟩ := HT4.out.ptr1 hkb
              have HBK : Hid ((tp 2 bs B2 d2).blk = some gp) := Lib.hid (by rw [hB]; simp [tp, LP.blk, LP.val, Value.ownBlock])
              rw [hB] at c0
              have HTN := Lib.hid (HT4.out.turn1 HBK.out k 7)
              have HVN := Lib.hid (HV4.out.chg ((Chg.refl (· = gp) wr).setCell (p := ⟨gp, k, none⟩) (fun _ => rfl) (bv 7)) (fun i _ e => by subst e; exact .inl (HGB.out _ (.inr HBK.out))))
              have l1 : (0 : Int) ≤ (k : Int) := by omega
              have l2 : (k : Int) < (bs.length : Int) := by omega
              have hk8 : k < 8192 := by have := HLB.out; have := HN.out; omega
              clear hB
              go_wp2
              go_roundw
              case rel => exact ⟨k + 1, hkb, by go_num, HVN.out, HTN.out⟩
              case measure => simp [intOf]; omega
            · have l2 : ¬ (k : Int) < (bs.length : Int) := by omega
              have hx0 : ∃ cs : List UInt8, cs.length = bs.length ∧ OwnF w (fun _ => False) wr (tp 2 bs B2 d2).val cs := HT4.out.two.two (Nat.le_refl _)
              obtain ⟨cs, hcs1, hcs2⟩ := hx0
              have HX0 := Lib.hid (AppX.start (W7 := wc) (tp 2 bs B2 d2) hcs1 hcs2)
              have HTN := Lib.hid HT4.out.next
              clear hcs1 hcs2
              go_wp2_with fail
              go_loopw [14, 15] (fun x j wr => ∃ k : Nat, k ≤ 20 ∧ j = .int .i64 k ∧ FrV w g (fr3 bs) v6 l6 bs wa.heap.size wb.heap.size wc.heap.size cb A6 c6 (.slice (some ⟨gv, 0, none⟩) 2 cv) A1 c1 A2 c2 wr ∧ TwoR w wc (fun _ => False) (.slice (some ⟨gu, 0, none⟩) 2 cu) (tp 1 bs B1 d1) (tp 2 bs B2 d2) 2 wr ∧ AppX w wc (tp 2 bs B2 d2) bs.length k x wr) (fun _ j _ => 20 - (intOf j).toNat)
              case atStart => exact ⟨0, by omega, rfl, HV4.out, HTN.out, HX0.out⟩
              case round =>
                obtain ⟨k, hk, rfl, hv5, ht5, hx5⟩ := hrel
                have HV5 := Lib.hid hv5
                have HT5 := Lib.hid ht5
                have HX5 := Lib.hid hx5
                clear hv5 ht5 hx5 HX0 HTN HT4 HV4
                by_cases hk20 : k < 20
                · obtain ⟨xs, hxs, hox⟩ := HX5.out.own
                  obtain ⟨Ax, cx, rfl, _, _⟩ := own_form hox
                  have HOX := Lib.hid hox
                  have HXS := Lib.hid hxs
                  have HW7 : Hid (wc.heap.size ≤ wr.heap.size) := Lib.hid HT5.out.chg.size
                  have HRD := Lib.hid (Reads.built wr 5 [bv 8])
                  clear hxs hox
                  go_wp2_with (at_builtin; refine wpList_app rfl (.tmp 117) (.tmp 118) 23 rfl w.heap.size 5 info5 Try.underlying23 _ xs rfl (World.ownsRow.alloc HOX.out _) _ _ 1 _ [8] rfl HRD.out (by have := HXS.out; have := HLB.out; have := HN.out; simp; omega) (by have := HT5.out.ge; have := HW7.out; simp; omega) ?_; intro v9 w9 hown happ; have HX9 := Lib.hid (HX5.out.step HW7.out HXS.out hown happ); have HT9 := Lib.hid (HT5.out.app HX5.out happ (r := (tp 2 bs B2 d2)) (.inr rfl) (by omega) (fun _ => by omega)); have HV9 := Lib.hid (HV5.out.chg (happ_chg HX5.out HT5.out happ (r := (tp 2 bs B2 d2)) (.inr rfl)) (fun i _ e => e.imp (HGB.out i) id)); clear hown happ)
                  go_roundw
                  case rel => exact ⟨k + 1, hk20, by go_num, HV9.out, HT9.out, HX9.out⟩
                  case measure => simp [intOf]; omega
                · have l2 : ¬ (k : Int) < 20 := by omega
                  clear HX5
                  go_wp2
                  go_roundw
                  case rel => exact ⟨2, by omega, rfl, HV5.out, HT5.out⟩
                  case measure => simp [intOf]
        · go_wp2_with fail
          clear HT3 HGB
          go_loopw [16] (fun j wx => ∃ k : Nat, k ≤ bs.length ∧ j = .int .i64 k ∧ FrV w g (fr3 bs) v6 l6 bs wa.heap.size wb.heap.size wc.heap.size cb A6 c6 (.slice (some ⟨gv, 0, none⟩) 2 cv) A1 c1 A2 c2 wx) (fun j _ => bs.length - (intOf j).toNat)
          case atStart => exact ⟨0, Nat.zero_le _, rfl, HV3.out⟩
          case round =>
            obtain ⟨k, hk, rfl, hv4⟩ := hrel
            have HV4 := Lib.hid hv4
            have c0 := hv4.cblk.cell 1
            have hcl := hv4.cblk.lt
            clear hv4 HV3
            by_cases hkb : k < bs.length
            · obtain ⟨cs, hcs, hco⟩ := HV4.out.cown
              obtain ⟨gp, rfl, hgp, _⟩ := own_ptr hco.1 (by omega)
              obtain ⟨x0, _, b0, fb0⟩ := own_cell hco.1 (j := k) (by omega)
              have HVN := Lib.hid (HV4.out.turnc (gp := gp) (by simp [Value.ownBlock]) k 9)
              have l1 : (0 : Int) ≤ (k : Int) := by omega
              have l2 : (k : Int) < (bs.length : Int) := by omega
              have hk8 : k < 8192 := by have := HLB.out; have := HN.out; omega
              clear hco hcs
              go_wp2
              go_roundw
              case rel => exact ⟨k + 1, hkb, by go_num, HVN.out⟩
              case measure => simp [intOf]; omega
            · have l2 : ¬ (k : Int) < (bs.length : Int) := by omega
              obtain ⟨gb1, cb1, e1, _, _, v1⟩ := HV4.out.row.at_ (i := 0) (p := tp 1 bs A1 c1) rfl
              obtain ⟨gb2, cb2, e2, hgv2, _, v2⟩ := HV4.out.row.at_ (i := 1) (p := tp 2 bs A2 c2) rfl
              injection e1 with e1 _ _
              injection e1 with e1
              injection e1 with e1
              injection e2 with e2 _ _
              injection e2 with e2
              injection e2 with e2
              subst e1 e2
              replace v1 : wr.cell? ⟨gv, 1, none⟩ = some (.slice A1 bs.length c1) := v1
              replace v2 : wr.cell? ⟨gv, 3, none⟩ = some (.slice A2 bs.length c2) := v2
              have r1 : RdB wr wr.heap.size A1 bs.length bs := OwnB.reads (n := bs.length) (c := c1) HV4.out.own1 rfl
              have r2 : RdB wr wr.heap.size A2 bs.length bs := OwnB.reads (n := bs.length) (c := c2) HV4.out.own2 rfl
              have r3 : RdB wr w.heap.size A n bs := HR.out.below HV4.out.fr.old
              have g1 := fun nn : Nat => run_string_of (P := Try.prog) (c := c1) (wr.drewN nn) 23 9 5 (r1.drewN nn) Try.underlying23 Try.underlying5 Try.underlying9
              have g2 := fun nn : Nat => run_string_of (P := Try.prog) (c := c2) (wr.drewN nn) 23 9 5 (r2.drewN nn) Try.underlying23 Try.underlying5 Try.underlying9
              have g3 := fun nn : Nat => run_string_of (P := Try.prog) (c := c) (wr.drewN nn) 23 9 5 (r3.drewN nn) Try.underlying23 Try.underlying5 Try.underlying9
              clear r1 r2 r3
              have HTT : Hid ((⟨bs.toArray⟩ : ByteArray) = ⟨bs.toArray⟩) := Lib.hid rfl
              generalize (⟨bs.toArray⟩ : ByteArray) = tt at g1 g2 g3
              have g4 : ∀ W : World, (binOp .neq 9 (.string tt) (.string tt)).run Try.prog W = .ok (.bool false) W := fun W => by simp [go_sem]
              have HV5 := Lib.hid fun nn : Nat => HV4.out.below (below_drewN (Below.refl _ _) nn)
              go_upto_region 32 with fail
              clear c0
              go_quiet (fail)
              clear v1 v2 g1 g2 g3 g4
              have HV6 := Lib.hid (HV5.out nq)
              clear HV5 HV4
              generalize wr.drewN nq = w8 at *
              have hge8 : w.heap.size ≤ w8.heap.size := HV6.out.fr.old.size
              have HR8 := Lib.hid (HR.out.below HV6.out.fr.old)
              have HEM : Hid (OwnB 5 (w8.alloc (.cells #[] 5)) w8.heap.size (.slice (some ⟨w8.heap.size, 0, none⟩) 0 0) []) := Lib.hid (OwnB.built 5 w8 w8.heap.size #[] [] (Nat.le_refl _) (by simp) rfl)
              go_upto_region 35 with (at_builtin; refine wpList_app rfl (.tmp 149) (.tmp 150) 23 rfl w8.heap.size 5 info5 Try.underlying23 _ [] rfl HEM.out _ _ _ _ bs rfl (HR8.out.alloc hge8 _) (by have := HLB.out; have := HN.out; simp; omega) (by simp) ?_; intro v9 w9 hown happ; rw [List.nil_append] at hown; have HO9 := Lib.hid hown; have HB9 := Lib.hid (below_lit happ); obtain ⟨A9, c9, rfl, _, _⟩ := own_form hown; clear hown happ)
              have hfr9 := HV6.out.fr.below HB9.out
              have HF9 := Lib.hid hfr9
              have HG9 : Hid (OwnF w (NetF g v6 l6) w9 (.slice A9 bs.length c9) bs) := Lib.hid ⟨own_base HO9.out hge8, fun k hk hf => by have := HV6.out.fr.net.lt hf; have := (HO9.out.lt k hk).1; omega⟩
              clear hfr9 HEM HR8 HV6 HO9 HB9 hge8
              have HR9 := Lib.hid (HR.out.below HF9.out.old)
              go_cut [159] (fun q wx => ∃ t : Bool, q = .bool t ∧ Hid (t = true → 0 ≤ at_ ∧ at_ < (n : Int)) ∧ w9 = wx)
              case first =>
                by_cases ha1 : 0 ≤ at_
                · by_cases ha2 : at_ < (n : Int)
                  · have HA := Lib.hid (And.intro ha1 ha2)
                    go_wp2_with fail
                    go_meet
                    exact ⟨true, rfl, Lib.hid fun _ => HA.out, rfl⟩
                  · go_wp2_with fail
                    go_meet
                    exact ⟨false, rfl, Lib.hid fun e => absurd e (by decide), rfl⟩
                · go_wp2_with fail
                  go_meet
                  exact ⟨false, rfl, Lib.hid fun e => absurd e (by decide), rfl⟩
              case rest =>
              obtain ⟨t, rfl, ht, rfl⟩ := hcut
              go_upto_if 159 with fail
              go_cut [17] (fun q wx => q = .slice A9 bs.length c9 ∧ FrE w g bs A9 c9 wx)
              case first =>
                cases t with
                | true =>
                  obtain ⟨ha1, ha2⟩ := ht.out rfl
                  clear ht
                  obtain ⟨j, rfl⟩ : ∃ j : Nat, at_ = (j : Int) := ⟨at_.toNat, by omega⟩
                  have hjl : j < bs.length := by have := HLB.out; omega
                  obtain ⟨b, hb⟩ : ∃ b, bs[j]? = some b := ⟨_, List.getElem?_eq_getElem hjl⟩
                  obtain ⟨p2, hp2, hpk2⟩ := is_at HF9.out.net (s := false) (i := 1) (p := ⟨2, bs⟩) (by rw [E7.out]; rfl)
                  have HP2 := Lib.hid hp2
                  have HPK2 := Lib.hid hpk2
                  have HB := Lib.hid hb
                  have HFU := Lib.hid (flip_u E7.out j (b ^^^ 1))
                  have l1 : (0 : Int) ≤ (j : Int) := by omega
                  have l3 : (j : Int) < (bs.length : Int) := by omega
                  have hone : (((1 : UInt8).toNat : Nat) : Int) = 1 := by decide
                  have HFL := Lib.hid (flip_any g (fr3 bs) v6 l6 100 false 1 j b 1 p2 w9 HF9.out.net O3.out (by omega) E3.out HP2.out (by rw [HPK2.out]; exact HB.out) (by decide) (by rw [HPK2.out]; have := HLB.out; have := HN.out; show bs.length ≤ _; omega))
                  rw [hone, HPK2.out] at HFL
                  clear hp2 hpk2 hb hone ha2
                  go_wp2_with fail
                  refine HFL.out.mono ?_
                  rintro e w10 ⟨v10, l10, hn10, hsub10, hc10, A10, c10, rfl, ho10, hf10⟩
                  have HF10 := Lib.hid (HF9.out.step hn10 hsub10 hc10)
                  have HG10 := Lib.hid (HG9.out.step hsub10 hc10)
                  have HOK := Lib.hid (Ns.add_ok (Ns.flip_ok O3.out false 1 ((⟨2, bs⟩ : Pk).flip j (b ^^^ 1))) false 6 (by omega) 1 (by omega))
                  clear hn10 hsub10 hc10 ho10 hf10 HFL
                  obtain ⟨gp, rfl, hgp, _⟩ := own_ptr HG10.out.1 (by omega)
                  obtain ⟨b', hb', c0, f0⟩ := own_cell HG10.out.1 (j := j) hjl
                  have hbb : b' = b := by have := HB.out; rw [hb'] at this; exact Option.some.inj this
                  subst hbb
                  have HT1 := Lib.hid (HF10.out.turn HG10.out (gp := gp) (by simp [Value.ownBlock]) j (b' ^^^ 1))
                  have HT2 := Lib.hid (own_turn HG10.out (gp := gp) (by simp [Value.ownBlock]) j (b' ^^^ 1)).1
                  clear hb'
                  go_wp2_with fail
                  go_meet
                  have hx : bits .xor .u8 (b'.toNat : Int) 1 = ((b' ^^^ 1).toNat : Int) := xor_u8 b' 1
                  exact ⟨rfl, _, _, _, bs.set j (b' ^^^ 1), by rw [hx]; exact HT1.out, Ns.ok_mono HOK.out (by omega), E3.out, HFU.out, by rw [List.length_set], by rw [hx]; exact HT2.out⟩
                | false =>
                  have HE : Hid (FrE w g bs A9 c9 w9) := Lib.hid ⟨_, _, _, bs, HF9.out, Ns.ok_mono O3.out (by omega), E3.out, E7.out, rfl, HG9.out⟩
                  go_wp2_with fail
                  go_meet
                  exact ⟨rfl, HE.out⟩
              case rest =>
                obtain ⟨rfl, S, v, l, bs2, hfn, hok, hup, hus, hlen, hog⟩ := hcut
                clear ht HF9 HG9 HR9
                obtain ⟨p3, hp3, hpk3⟩ := is_at hfn.net (s := false) (i := 0) (p := ⟨1, bs⟩) (by rw [hus]; rfl)
                have HFN := Lib.hid hfn
                have HOK := Lib.hid hok
                have HUP := Lib.hid hup
                have HUS := Lib.hid hus
                have HOG := Lib.hid hog
                have HPK3 := Lib.hid hpk3
                have HP3 := Lib.hid hp3
                have HLEN := Lib.hid hlen
                clear hfn hok hup hus hog hpk3 hp3 hlen
                go_wp2_with fail
                refine (deliver_any g S v l 200 false 0 p3 _ HFN.out.net HOK.out (by omega) HUP.out HP3.out).mono ?_
                rintro e w11 ⟨v11, l11, hn11, hsub11, hc11, A11, c11, rfl, ho11, hf11⟩
                rw [HPK3.out] at ho11 hf11
                have HF11 := Lib.hid (HFN.out.step hn11 hsub11 hc11)
                have HG11 := Lib.hid (HOG.out.step hsub11 hc11)
                have HO11 : Hid (OwnF w (NetF g v11 l11) w11 (.slice A11 bs.length c11) bs) := Lib.hid (OwnF.of HFN.out ho11 hf11)
                have HOK11 := Lib.hid (Ns.add_ok (Ns.take_ok HOK.out false 0) false 2 (by omega) 1 (by omega))
                have HUS11 : Hid (((S.take false 0).add false 2 1).u false = [⟨2, bs2⟩]) := Lib.hid (by show upd S.u false ((S.u false).eraseIdx 0) false = _; rw [upd_at, HUS.out]; rfl)
                have HUP11 : Hid (((S.take false 0).add false 2 1).up = true) := Lib.hid HUP.out
                clear hn11 hsub11 hc11 ho11 hf11 HFN HOG
                rw [HPK3.out]
                obtain ⟨p4, hp4, hpk4⟩ := is_at HF11.out.net (s := false) (i := 0) (p := ⟨2, bs2⟩) (by rw [HUS11.out]; rfl)
                have HP4 := Lib.hid hp4
                have HPK4 := Lib.hid hpk4
                clear hp4 hpk4
                generalize (S.take false 0).add false 2 1 = S11 at *
                go_upto_region 39 with fail
                have hb12 : Below w11.heap.size w11 (w11.alloc (.cells #[.int .i64 1, .slice A11 bs.length c11] 36)) := (Below.refl _ _).alloc (Nat.le_refl _) _
                have hk12 : Blk (w11.alloc (.cells #[.int .i64 1, .slice A11 bs.length c11] 36)) w11.heap.size 36 #[.int .i64 1, .slice A11 bs.length c11] := Blk.new w11 36 _
                have HF12 := Lib.hid (HF11.out.below hb12)
                have HG12 := Lib.hid (HG11.out.below hb12)
                have HO12 := Lib.hid (HO11.out.below hb12)
                have HK12 := Lib.hid hk12
                have hbne : Hid (∀ k, NetF g v11 l11 k → k ≠ w11.heap.size) := Lib.hid (fun k hk e => by have := HF11.out.net.lt hk; omega)
                clear hb12 hk12 HF11 HG11 HO11
                generalize w11.alloc (.cells #[.int .i64 1, .slice A11 bs.length c11] 36) = w12 at *
                generalize w11.heap.size = b12 at *
                go_wp2_with fail
                refine (deliver_any g S11 v11 l11 201 false 0 p4 _ HF12.out.net (Ns.ok_mono HOK11.out (by omega)) (by omega) HUP11.out HP4.out).mono ?_
                rintro e w13 ⟨v13, l13, hn13, hsub13, hc13, A13, c13, rfl, ho13, hf13⟩
                rw [HPK4.out] at ho13 hf13
                have HF13 := Lib.hid (HF12.out.step hn13 hsub13 hc13)
                have HG13 := Lib.hid (HG12.out.step hsub13 hc13)
                have HO13 := Lib.hid (HO12.out.step hsub13 hc13)
                have HQ13 : Hid (OwnF w (NetF g v13 l13) w13 (.slice A13 bs2.length c13) bs2) := Lib.hid (OwnF.of HF12.out ho13 hf13)
                have HK13 := Lib.hid (hc13.blk HK12.out (fun e => hbne.out _ e rfl))
                clear hn13 hsub13 hc13 ho13 hf13 HF12 HG12 HO12 HK12 hbne
                rw [HPK4.out]
                go_upto_region 40 with fail
                have hb14 : Below w13.heap.size w13 (w13.alloc (.cells #[.int .i64 2, .slice A13 bs2.length c13] 36)) := (Below.refl _ _).alloc (Nat.le_refl _) _
                have q14 : Blk (w13.alloc (.cells #[.int .i64 2, .slice A13 bs2.length c13] 36)) w13.heap.size 36 #[.int .i64 2, .slice A13 bs2.length c13] := Blk.new w13 36 _
                have k14 := HK13.out.below hb14 HK13.out.lt
                have g14 := HG13.out.below hb14
                have o14 := HO13.out.below hb14
                have p14 := HQ13.out.below hb14
                have HOLD := Lib.hid (HF13.out.old.trans (hb14.mono HF13.out.old.size))
                have r3 := HR.out.below HOLD.out
                generalize w13.alloc (.cells #[.int .i64 2, .slice A13 bs2.length c13] 36) = w14 at *
                generalize w13.heap.size = b14 at *
                have c1 := k14.cell 1
                have c2 := q14.cell 1
                simp only [List.getElem?_toArray, List.getElem?_cons_succ, List.getElem?_cons_zero] at c1 c2
                have g1 := run_string_of (P := Try.prog) (c := c11) w14 23 9 5 (OwnB.reads (n := bs.length) o14.1 rfl) Try.underlying23 Try.underlying5 Try.underlying9
                have g2 := run_string_of (P := Try.prog) (c := c13) w14 23 9 5 (OwnB.reads (n := bs2.length) p14.1 rfl) Try.underlying23 Try.underlying5 Try.underlying9
                have g3 := run_string_of (P := Try.prog) (c := c) w14 23 9 5 r3 Try.underlying23 Try.underlying5 Try.underlying9
                have g4 := run_string_of (P := Try.prog) (c := c9) w14 23 9 5 (OwnB.reads (n := bs.length) g14.1 HLEN.out.symm) Try.underlying23 Try.underlying5 Try.underlying9
                clear k14 q14 g14 o14 p14 hb14 r3 HF13 HG13 HO13 HQ13 HK13
                generalize (⟨bs.toArray⟩ : ByteArray) = t1 at *
                generalize (⟨bs2.toArray⟩ : ByteArray) = t2 at *
                have g5 : ∀ (W : World) (t : ByteArray), (binOp .eql 9 (.string t) (.string t)).run Try.prog W = .ok (.bool true) W := fun W t => by simp [go_sem]
                go_wp2_with (go_at_call 11; refine (num_any _ _).mono ?_; rintro e w' ⟨rfl, rfl⟩)
                go_ret
                exact ⟨by simp, HOLD.out⟩
set_option maxRecDepth 20000 in
theorem fresh_long (A : Option Addr) (n c : Nat) (at_ : Int) (w : World) (hn : 8192 < n) : Calls Try.prog 4 #[.slice A n c, .int .i64 at_] w (AwP w) := by
  have t8 : (8192 : Int) < (n : Int) := by omega
  have H := Lib.hid ((new_ok 4 w (by omega) (by omega)).mono fun _ _ h => FrN.first h)
  have O0 := Lib.hid (fr_ok []).1
  have E0 := Lib.hid (fr_facts []).1
  clear hn
  go_enter Try.func4, Try.ntmps4
  go_wp2_with fail
  refine H.out.mono ?_
  rintro e w1 ⟨rfl, hw1⟩
  have H1 := Lib.hid hw1
  clear hw1 H
  generalize hgg : w.heap.size = g at H1 ⊢
  go_wp2_with fail
  refine (num_any _ _).mono ?_
  rintro e w' ⟨rfl, rfl⟩
  go_wp2_with fail
  refine ((connect_down g (Ns.new 4) _ _ 100 w1 H1.out.net O0.out (by omega) E0.out).mono fun _ _ h => H1.out.conn h).mono ?_
  rintro e w2 ⟨rfl, hw2⟩
  have H2 : Hid (FrN w g fr1 _ _ w2) := Lib.hid hw2
  clear hw2 H1
  go_wp2_with fail
  refine (num_any _ _).mono ?_
  rintro e w' ⟨rfl, rfl⟩
  go_wp2_with fail
  refine (awake_any _).mono ?_
  rintro e w3 ⟨rfl, hb⟩
  have H3 := Lib.hid (H2.out.below hb)
  clear hb H2
  go_wp2
  go_ret
  exact ⟨rfl, H3.out.old⟩
end Go.Proofs.Ytbkgphmocjjmmaa
