/-
  The walk of the law NetCalls f6.
-/
import Derived.Test.YtbkgphmocjjmmaaNvD
namespace Go.Proofs.Ytbkgphmocjjmmaa
open Go.RowKit

theorem PairX.first {w w1 w2 : World} {limit : Int} {e1 e2 : Ending} (h1 : NewP w limit e1 w1) (h2 : RNewP w1 limit e2 w2) : PairX w w.heap.size (Ns.new limit) (fun _ => .slice none 0 0) (fun _ => []) w1.heap.size (Ns.new limit) (fun _ => .slice none 0 0) (fun _ => []) w2 := by
  have ha := (frn_first h1).2
  obtain ⟨_, hn, hb⟩ := h2
  have hs := ha.old.size
  have hg := ha.net.blk.lt
  have hf : ∀ g k, NetF g (fun _ => Value.slice none 0 0) (fun _ => []) k → k = g := fun g k hk => by
    rcases hk with rfl | ⟨s, hs⟩ | ⟨s, p, hp, _⟩
    · rfl
    · cases hs
    · cases hp
  exact ⟨ha.below hb, ⟨hn, fun k hk => by have := hf _ _ hk; omega, bt ha.old hb⟩, fun k h1 h2 => by have := hf _ _ h1; have := hf _ _ h2; omega⟩
set_option maxRecDepth 20000 in
theorem calls_bad (limit : Int) (A : Option Addr) (n c : Nat) (w : World) (h : limit < 1 ∨ 64 < limit) : Calls Try.prog 6 #[.int .i64 limit, .slice A n c] w (AwP w) := by
  have HP := Lib.hid fun w => new_bad limit w h
  have HR := Lib.hid fun w => rnew_bad limit w h
  clear h
  go_enter Try.func6, Try.ntmps6
  go_wp2_with fail
  refine (HP.out _).mono ?_
  rintro e w2 ⟨rfl, rfl⟩
  go_wp2_with fail
  refine (HR.out _).mono ?_
  rintro e w2 ⟨rfl, rfl⟩
  go_wp2_with fail
  refine (num_any _ _).mono ?_
  rintro e w2 ⟨rfl, rfl⟩
  go_wp2_with fail
  refine (awake_any _).mono ?_
  rintro e w2 ⟨rfl, hb2⟩
  have HB2 := Lib.hid hb2
  clear hb2
  go_wp2
  go_ret
  exact ⟨rfl, HB2.out⟩
set_option maxRecDepth 20000 in
set_option maxHeartbeats 8000000 in
theorem calls_any (limit : Int) (A : Option Addr) (n c : Nat) (ac : List Ac) (w : World) (h1 : 1 ≤ limit) (h2 : limit ≤ 64) (ha : ActsAt w w.heap.size A n ac) (hn : n ≤ 2199023255488) (hbl : ∀ a ∈ ac, a.b.length ≤ 140737488351232) :
    Calls Try.prog 6 #[.int .i64 limit, .slice A n c] w (AwP w) := by
  obtain ⟨st, tl, hp⟩ := path_any (Ns.new limit) (Ns.new_ok h1 h2 0 (by omega)) (Ns.new_sm limit) ac
  have hlen := ha.1
  have HN := Lib.hid (new_ok limit w h1 h2)
  have HRN := Lib.hid fun w => rnew_ok limit w h1 h2
  have HA := Lib.hid ha
  have HP := Lib.hid hp
  have HBL := Lib.hid hbl
  clear ha hp hbl
  subst hlen
  have LK := Lib.hid fun g k v l gr vr lr W (hk : k ≤ ac.length) (h : PairX w g (st k) v l gr (st k) vr lr W) => like_any g (st k) v l gr vr lr (128 * (k : Int)) W h.a.net h.r.net (HP.out.ok k hk).1 (HP.out.ok k hk).2
  go_enter Try.func6, Try.ntmps6
  go_wp2_with fail
  refine HN.out.mono ?_
  intro e w1 hn1
  obtain ⟨rfl, -⟩ := frn_first hn1
  have HN1 := Lib.hid hn1
  clear hn1 HN
  go_wp2_with fail
  refine (HRN.out _).mono ?_
  intro e w2 hn2
  obtain ⟨rfl, -⟩ := frr_first hn2
  have HP2 : Hid (PairX w w.heap.size (st 0) (fun _ => .slice none 0 0) (fun _ => []) w1.heap.size (st 0) (fun _ => .slice none 0 0) (fun _ => []) w2) := Lib.hid (by rw [HP.out.at0]; exact PairX.first HN1.out hn2)
  clear hn2 HRN HN1
  generalize w.heap.size = g at HP2 ⊢
  generalize w1.heap.size = gr at HP2 ⊢
  go_wp2_with fail
  refine (num_any _ _).mono ?_
  rintro e w' ⟨rfl, rfl⟩
  go_wp2_with fail
  refine (LK.out _ 0 _ _ _ _ _ _ (Nat.zero_le _) HP2.out).mono ?_
  rintro e w3 ⟨rfl, hb3⟩
  have HP3 := Lib.hid (HP2.out.below hb3)
  clear hb3 HP2
  go_wp2_with fail
  go_loopw [8] (fun i wr => ∃ (k : Nat) (v : Bool → Value) (l : Bool → List LP) (vr : Bool → Value) (lr : Bool → List LP), k ≤ ac.length ∧ i = .int .i64 k ∧ PairX w g (st k) v l gr (st k) vr lr wr) (fun i _ => ac.length - (intOf i).toNat)
  case atStart => exact ⟨0, _, _, _, _, Nat.zero_le _, rfl, HP3.out⟩
  case round =>
    obtain ⟨k, v, l, vr, lr, hk, rfl, hpx⟩ := hrel
    have HPX := Lib.hid hpx
    clear hpx HP3
    by_cases hkn : k < ac.length
    · obtain ⟨a, ha⟩ : ∃ a, ac[k]? = some a := ⟨_, List.getElem?_eq_getElem hkn⟩
      obtain ⟨b, o, Ai, ci, hA, hb, hc, hr⟩ := HA.out.2 k a ha
      have hbw : Below w.heap.size w wr := HPX.out.a.old
      have hok := HP.out.ok k hk
      have HCALL := Lib.hid (call_any w g (st k) (st (k + 1)) v l gr vr lr (128 * (k : Int)) a Ai a.b.length ci w.heap.size (tl k).num (tl k).er (tl k).b wr HPX.out hok.1 (by omega) hok.2 (hr.below hbw) (Nat.le_refl _) (HBL.out a (List.mem_of_getElem? ha)) (HP.out.step k a ha))
      have u0 : wr.cell? ⟨b, o + k * 6, none⟩ = some (.int .i64 a.k) := (hbw.cell (p := ⟨b, o + k * 6, none⟩) hb).trans (hc 0 _ rfl)
      have u1 : wr.cell? ⟨b, o + k * 6 + 1, none⟩ = some (.int .i64 a.z) := (hbw.cell (p := ⟨b, o + k * 6 + 1, none⟩) hb).trans (hc 1 _ rfl)
      have u2' : wr.cell? ⟨b, o + k * 6 + 2, none⟩ = some (.int .i64 a.i) := (hbw.cell (p := ⟨b, o + k * 6 + 2, none⟩) hb).trans (hc 2 _ rfl)
      have u3' : wr.cell? ⟨b, o + k * 6 + 3, none⟩ = some (.int .i64 a.j) := (hbw.cell (p := ⟨b, o + k * 6 + 3, none⟩) hb).trans (hc 3 _ rfl)
      have u4' : wr.cell? ⟨b, o + k * 6 + 4, none⟩ = some (.int .u8 (a.m.toNat : Int)) := (hbw.cell (p := ⟨b, o + k * 6 + 4, none⟩) hb).trans (hc 4 _ rfl)
      have u5' : wr.cell? ⟨b, o + k * 6 + 5, none⟩ = some (.slice Ai a.b.length ci) := (hbw.cell (p := ⟨b, o + k * 6 + 5, none⟩) hb).trans (hc 5 _ rfl)
      have l1 : (0 : Int) ≤ (k : Int) := by omega
      have l2 : (k : Int) < (ac.length : Int) := by omega
      have HKN := Lib.hid hkn
      clear ha hok hb hc hr hk hbw
      subst hA
      unfold actV at HCALL
      go_wp2_with fail
      refine HCALL.out.mono ?_
      rintro e w4 ⟨rfl, v4, l4, vr4, lr4, hp4⟩
      have HP4 := Lib.hid hp4
      clear hp4 u0 u1 u2' u3' u4' u5' HCALL HPX
      go_wp2_with fail
      refine (LK.out _ (k + 1) _ _ _ _ _ _ HKN.out HP4.out).mono ?_
      rintro e w5 ⟨rfl, hb5⟩
      have HP5 := Lib.hid (HP4.out.below hb5)
      clear hb5 HP4
      go_wp2_with fail
      go_roundw
      case rel => exact ⟨k + 1, v4, l4, vr4, lr4, HKN.out, by go_num, HP5.out⟩
      case measure => simp [intOf]; omega
    · have hkn' : ¬ (k : Int) < (ac.length : Int) := by omega
      go_wp2
      go_ret
      exact ⟨rfl, HPX.out.a.old⟩
end Go.Proofs.Ytbkgphmocjjmmaa
