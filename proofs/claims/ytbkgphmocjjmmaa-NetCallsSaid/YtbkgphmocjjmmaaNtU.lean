/-
  The walks of Cut and Counts where there is a net.
-/
import Derived.Test.YtbkgphmocjjmmaaNtT
namespace Go.Proofs.Ytbkgphmocjjmmaa
open Go.RowKit

def Ns.down (S : Ns) : Ns := { S with up := false }
def Ns.lose (S : Ns) (s : Bool) : Ns := { S with c := upd S.c s ((S.c s).put ((S.c s).get 4 + (S.u s).length) 4), u := upd S.u s [] }
def Ns.cut (S : Ns) : Ns := (S.down.lose false).lose true
theorem Ns.lose_ok {K : Int} {S : Ns} (h : S.ok K) (s : Bool) : (S.lose s).ok (K + 64) := by
  have h' := Ns.ok_mono h (show K ≤ K + 64 by omega)
  have hl := h.len s
  have hh := h.hi
  refine ⟨h'.lo, h'.hi, h'.ep, h'.nu, fun t => ?_, fun t => ?_⟩
  · by_cases ht : t = s
    · subst ht
      simp only [Ns.lose, upd_at, List.length_nil]
      have := h.lo
      omega
    · have := h'.len t
      simpa [Ns.lose, upd, ht] using this
  · by_cases ht : t = s
    · subst ht
      simp only [Ns.lose, upd_at]
      have hg := Cn.get_ok (h.cn t) 4 (by omega)
      exact Cn.put_ok (h'.cn t) _ ⟨by omega, by omega⟩ 4
    · have := h'.cn t
      simpa [Ns.lose, upd, ht] using this
theorem Ns.cut_ok {K : Int} {S : Ns} (h : S.ok K) : S.cut.ok (K + 64 + 64) := Ns.lose_ok (Ns.lose_ok (show S.down.ok K from ⟨h.lo, h.hi, h.ep, h.nu, h.len, h.cn⟩) false) true
theorem layN_lose (S : Ns) (v : Bool → Value) (s : Bool) : ((layN S v).setIfInBounds (wayO s + 1 + 4) (.int .i64 ((S.c s).get 4 + (S.u s).length))).setIfInBounds (wayO s) (.slice none 0 0) = layN (S.lose s) (upd v s (.slice none 0 0)) := by
  cases s <;> simp [layN, wayO, upd, Ns.lose, Cn.put, Cn.get]
theorem NetX.lost {w : World} {g : Nat} {S : Ns} {v : Bool → Value} {l : Bool → List LP} (h : NetA w g S v l) (s : Bool) :
    NetA ((w.setCell ⟨g, wayO s + 1 + 4, none⟩ (.int .i64 ((S.c s).get 4 + (S.u s).length))).setCell ⟨g, wayO s, none⟩ (.slice none 0 0)) g (S.lose s) (Go.Proofs.Ytbkgphmocjjmmaa.upd v s (.slice none 0 0)) (Go.Proofs.Ytbkgphmocjjmmaa.upd l s []) ∧
    Chg (· = g) w ((w.setCell ⟨g, wayO s + 1 + 4, none⟩ (.int .i64 ((S.c s).get 4 + (S.u s).length))).setCell ⟨g, wayO s, none⟩ (.slice none 0 0)) := by
  have hc : Chg (· = g) w ((w.setCell ⟨g, wayO s + 1 + 4, none⟩ (.int .i64 ((S.c s).get 4 + (S.u s).length))).setCell ⟨g, wayO s, none⟩ (.slice none 0 0)) :=
    ((Chg.refl (· = g) w).setCell (p := ⟨g, wayO s + 1 + 4, none⟩) (fun _ => rfl) _).setCell (p := ⟨g, wayO s, none⟩) (fun _ => rfl) _
  refine ⟨h.upd s (S' := S.lose s) ?_ (World.ownsRow_nil _ 0 36 2) (fun p hp => by cases hp) rfl List.Pairwise.nil (.inl rfl) (fun p hp => by cases hp) (fun k hk => ?_), hc⟩
  · rw [← layN_lose]; exact (h.blk.set_ _ _).set_ _ _
  · obtain ⟨h1, _⟩ := h.other (by decide) (by decide) s hk
    refine hc.block k ?_ h1
    rcases hk with hk | ⟨p, hp, hk⟩
    · exact (World.ownsRow.lt (h.row _) k hk).2
    · exact (World.ownsRow.lt (h.pks _ p hp) k hk).2
/-- the rounds of Cut -/
def CutR (w : World) (g : Nat) (S : Ns) (v : Bool → Value) (l : Bool → List LP) (k : Nat) (lost : Int) (W : World) : Prop :=
  Chg (· = g) w W ∧ W.heap.size = w.heap.size ∧
  ((k = 0 ∧ lost = 0 ∧ NetA W g S.down v l) ∨ (k = 1 ∧ lost = (S.u false).length ∧ NetA W g (S.down.lose false) (upd v false (.slice none 0 0)) (upd l false [])) ∨
   (k = 2 ∧ lost = (S.u false).length + (S.u true).length ∧ NetA W g S.cut (upd (upd v false (.slice none 0 0)) true (.slice none 0 0)) (upd (upd l false []) true [])))
/-- what Cut leaves -/
def CutP (n : Int) (_ : Nat → Prop) (_ : World) (e : Ending) : Prop := e = .returned (.tuple #[.int .i64 n, .int .i64 0])
theorem CutR.start {w : World} {g : Nat} {S : Ns} {v : Bool → Value} {l : Bool → List LP} (h : NetA w g S v l) : CutR w g S v l 0 0 (w.setCell ⟨g, 1, none⟩ (.bool false)) := by
  refine ⟨(Chg.refl (· = g) w).setCell (p := ⟨g, 1, none⟩) (fun _ => rfl) _, by simp [World.setCell], .inl ⟨rfl, rfl, ?_⟩⟩
  exact h.head (h.blk.set_ 1 _) rfl (fun k _ hn => Below.heap_setCell _ _ _ _ hn) (by decide) (by decide)
theorem CutR.first {w W : World} {g : Nat} {S : Ns} {v : Bool → Value} {l : Bool → List LP} (hc : Chg (· = g) w W) (hs : W.heap.size = w.heap.size) (h : NetA W g S.down v l) :
    CutR w g S v l 1 ((S.u false).length) ((W.setCell ⟨g, wayO false + 1 + 4, none⟩ (.int .i64 ((S.c false).get 4 + (S.u false).length))).setCell ⟨g, wayO false, none⟩ (.slice none 0 0)) := by
  obtain ⟨h1, h2⟩ := h.lost false
  exact ⟨hc.trans h2 (fun _ _ e => e), by simp [World.setCell]; exact hs, .inr (.inl ⟨rfl, rfl, h1⟩)⟩
theorem CutR.second {w W : World} {g : Nat} {S : Ns} {v : Bool → Value} {l : Bool → List LP} (hc : Chg (· = g) w W) (hs : W.heap.size = w.heap.size) (h : NetA W g (S.down.lose false) (upd v false (.slice none 0 0)) (upd l false [])) :
    CutR w g S v l 2 ((S.u false).length + (S.u true).length) ((W.setCell ⟨g, wayO true + 1 + 4, none⟩ (.int .i64 ((S.c true).get 4 + (S.u true).length))).setCell ⟨g, wayO true, none⟩ (.slice none 0 0)) := by
  obtain ⟨h1, h2⟩ := h.lost true
  exact ⟨hc.trans h2 (fun _ _ e => e), by simp [World.setCell]; exact hs, .inr (.inr ⟨rfl, rfl, h1⟩)⟩
theorem CutR.drew {w W : World} {g k : Nat} {S : Ns} {v : Bool → Value} {l : Bool → List LP} {lost : Int} (h : CutR w g S v l k lost W) : CutR w g S v l k lost W.drew :=
  ⟨h.1.drew, h.2.1, h.2.2.imp (fun ⟨a, b, c⟩ => ⟨a, b, c.below (Below.refl _ _).drew⟩) (Or.imp (fun ⟨a, b, c⟩ => ⟨a, b, c.below (Below.refl _ _).drew⟩) (fun ⟨a, b, c⟩ => ⟨a, b, c.below (Below.refl _ _).drew⟩))⟩
theorem CutR.last {w W : World} {g : Nat} {S : Ns} {v : Bool → Value} {l : Bool → List LP} {lost : Int} (h : CutR w g S v l 2 lost W) : StepP w g v l S.cut (CutP ((S.u false).length + (S.u true).length)) (.returned (.tuple #[.int .i64 lost, .int .i64 0])) W := by
  obtain ⟨hc, hs, ⟨h0, _⟩ | ⟨h0, _⟩ | ⟨_, rfl, hn⟩⟩ := h
  · cases h0
  · cases h0
  · refine ⟨_, _, hn, fun k hk => .inl ?_, hc.mono (fun i _ e => .inl e), rfl⟩
    rcases hk with e | ⟨s, e⟩ | ⟨s, p, hp, e⟩
    · exact .inl e
    · cases s <;> simp [upd, Value.ownBlock] at e
    · cases s <;> simp [upd] at hp
set_option maxRecDepth 20000 in
set_option maxHeartbeats 2000000 in
theorem cut_any (g : Nat) (S : Ns) (v : Bool → Value) (l : Bool → List LP) (K : Int) (w : World) (h : NetA w g S v l) (hk : S.ok K) (hK : K ≤ 4611686018427387900) (hu : S.up = true) :
    Calls Try.prog 29 #[.pointer (some ⟨g, 0, none⟩)] w (StepP w g v l S.cut (CutP ((S.u false).length + (S.u true).length))) := by
  obtain ⟨c0, c1, -⟩ := h.heads hu false
  have HU := Lib.hid (up_at g S.limit true w c0 c1 (by have := hk.lo; omega))
  have hg : g < w.heap.size := h.blk.lt
  have HX := Lib.hid (CutR.start h)
  have f1 := h.blk.frozen 1
  have hl0 := hk.len false
  have hl1 := hk.len true
  have hh := hk.hi
  have g0 := Cn.get_ok (hk.cn false) 4 (by omega)
  have g1 := Cn.get_ok (hk.cn true) 4 (by omega)
  clear c0 h hu hk
  go_enter Try.func29, Try.ntmps29
  go_upto_region 6 with (go_at_call 25; refine HU.out.mono ?_; rintro e w' ⟨rfl, rfl⟩)
  clear c1 f1
  generalize w.setCell ⟨g, 1, none⟩ (.bool false) = w1 at *
  go_loopw [4, 5, 6, 13] (fun a _ _ d wr => ∃ (k : Nat) (lost : Int), a = .int .i64 lost ∧ d = .int .i64 k ∧ CutR w g S v l k lost wr) (fun _ _ _ d _ => 2 - (intOf d).toNat)
  case atStart => exact ⟨0, 0, rfl, rfl, HX.out⟩
  case round =>
    obtain ⟨k, lost, rfl, rfl, hr⟩ := hrel
    clear HX
    have HR := Lib.hid hr
    obtain ⟨hc, hs, ⟨rfl, rfl, hn⟩ | ⟨rfl, rfl, hn⟩ | ⟨rfl, rfl, hn⟩⟩ := hr
    · have hg1 := hn.blk.lt
      have u0 := hn.blk.cell 4
      have u1 : wr.cell? ⟨g, 9, none⟩ = some (.int .i64 ((S.c false).get 4)) := hn.blk.cell 9
      have f0 := hn.blk.frozen 4
      have f1 := hn.blk.frozen 9
      have HN := Lib.hid (CutR.first hc hs hn)
      have HLE : Hid ((l false).length = (S.u false).length) := Lib.hid (hn.len false)
      obtain ⟨A, c, hv, _, _⟩ := own_form (hn.row false)
      simp only [layN, List.getElem?_toArray, List.getElem?_cons_succ, List.getElem?_cons_zero] at u0
      rw [hv, HLE.out] at u0
      simp only [wayO] at HN
      have ha : IntKind.i64.wrap ((S.c false).get 4 + ((S.u false).length : Int)) = (S.c false).get 4 + ((S.u false).length : Int) := by simp [IntKind.wrap, IntKind.bits, IntKind.signed]; omega
      clear hn hc hs hv
      generalize (S.c false).get 4 = cc at *
      go_upto_region 10 with fail
      go_region
      all_goals
        go_wp2
        go_roundw
        case rel => exact ⟨1, _, rfl, rfl, HN.out.drew⟩
        case measure => simp [intOf]
    · have hg1 := hn.blk.lt
      have u0 := hn.blk.cell 12
      have u1 : wr.cell? ⟨g, 17, none⟩ = some (.int .i64 ((S.c true).get 4)) := hn.blk.cell 17
      have f0 := hn.blk.frozen 12
      have f1 := hn.blk.frozen 17
      have HN := Lib.hid (CutR.second hc hs hn)
      have HLE : Hid (((upd l false []) true).length = (S.u true).length) := Lib.hid (hn.len true)
      obtain ⟨A, c, hv, _, _⟩ := own_form (hn.row true)
      simp only [layN, List.getElem?_toArray, List.getElem?_cons_succ, List.getElem?_cons_zero] at u0
      rw [hv, HLE.out] at u0
      simp only [wayO] at HN
      have ha : IntKind.i64.wrap ((S.c true).get 4 + ((S.u true).length : Int)) = (S.c true).get 4 + ((S.u true).length : Int) := by simp [IntKind.wrap, IntKind.bits, IntKind.signed]; omega
      have ha2 : IntKind.i64.wrap (((S.u false).length : Int) + ((S.u true).length : Int)) = ((S.u false).length : Int) + ((S.u true).length : Int) := by simp [IntKind.wrap, IntKind.bits, IntKind.signed]; omega
      clear hn hc hs hv
      generalize (S.c true).get 4 = cc at *
      go_upto_region 10 with fail
      go_region
      all_goals
        go_wp2
        go_roundw
        case rel => exact ⟨2, _, rfl, rfl, HN.out.drew⟩
        case measure => simp [intOf]
    · have HL := Lib.hid HR.out.last
      clear hn hc hs
      go_wp2
      go_ret2
      exact HL.out
def CountsP (w : World) (c : Cn) (e : Ending) (w' : World) : Prop := e = .returned (.agg c.vals.toArray) ∧ Below w.heap.size w w'
set_option maxRecDepth 20000 in
set_option maxHeartbeats 2000000 in
theorem counts_any (g : Nat) (S : Ns) (v : Bool → Value) (l : Bool → List LP) (s : Bool) (w : World) (h : NetA w g S v l) (hl : 1 ≤ S.limit) :
    Calls Try.prog 27 #[.pointer (some ⟨g, 0, none⟩), .int .i64 (sideN s)] w (CountsP w (S.c s)) := by
  have hm : decide (0 < S.limit) = true := by simp; omega
  have hz : sideB (sideN s) = true := by cases s <;> rfl
  have hg := h.blk.lt
  have HM := Lib.hid (fun o : Obj => made_at g S.limit (w.alloc o) ((h.blk.alloc o).cell 0))
  have HS := Lib.hid (side_any (sideN s))
  rw [hm] at HM
  have c0 := fun (k : Nat) (hk : k < 7) => (h.blk.cell (wayO s + 1 + k)).trans (layN_get S v s k hk)
  have k0 := c0 0 (by omega)
  have k1 := c0 1 (by omega)
  have k2 := c0 2 (by omega)
  have k3 := c0 3 (by omega)
  have k4 := c0 4 (by omega)
  have k5 := c0 5 (by omega)
  have k6 := c0 6 (by omega)
  have HV : Hid ((S.c s).vals = [.int .i64 ((S.c s).get 0), .int .i64 ((S.c s).get 1), .int .i64 ((S.c s).get 2), .int .i64 ((S.c s).get 3), .int .i64 ((S.c s).get 4), .int .i64 ((S.c s).get 5), .int .i64 ((S.c s).get 6)]) := Lib.hid rfl
  generalize (S.c s).get 0 = x0 at *
  generalize (S.c s).get 1 = x1 at *
  generalize (S.c s).get 2 = x2 at *
  generalize (S.c s).get 3 = x3 at *
  generalize (S.c s).get 4 = x4 at *
  generalize (S.c s).get 5 = x5 at *
  generalize (S.c s).get 6 = x6 at *
  clear c0 h hm hl
  cases s
  all_goals
    simp only [sideN, wayO] at *
    simp only [Nat.reduceAdd] at *
    go_enter Try.func27, Try.ntmps27
    go_wp2_with (first | (go_at_call 32; refine (HS.out _).mono ?_; rw [hz]; rintro e w' ⟨rfl, rfl⟩) | (go_at_call 31; refine (HM.out _).mono ?_; rintro e w' ⟨rfl, rfl⟩))
    refine bodyPost_ret (v := .agg #[.int .i64 x0, .int .i64 x1, .int .i64 x2, .int .i64 x3, .int .i64 x4, .int .i64 x5, .int .i64 x6]) (by simp [results, Try.results27, go_sem]) rfl ⟨by rw [HV.out], ?_⟩
    exact (Below.refl _ _).alloc (Nat.le_refl _) _
end Go.Proofs.Ytbkgphmocjjmmaa
