/-
  The walk of the law's twin f18: acts in memory of their own.
-/
import Derived.Test.YtbkgphmocjjmmaaNuA
namespace Go.Proofs.Ytbkgphmocjjmmaa
open Go.RowKit

def TwinP (w : World) (ac : List Ac) (e : Ending) (w' : World) : Prop := ∃ A c, e = .returned (.slice A ac.length c) ∧ ActsAt w' w'.heap.size A ac.length ac ∧ Below w.heap.size w w'
theorem hd_len (a : Ac) (A : Option Addr) (c : Nat) : (a.ex A c).cells.length = 6 := rfl
theorem act_one (a : Ac) (A : Option Addr) (c : Nat) : ∀ u ∈ [(.int .i64 a.k : Value), .int .i64 a.z, .int .i64 a.i, .int .i64 a.j, .int .u8 (a.m.toNat : Int), .slice A a.b.length c], u.oneCell' = true := by
  intro u hu
  simp only [List.mem_cons, List.not_mem_nil, or_false] at hu
  rcases hu with rfl | rfl | rfl | rfl | rfl | rfl <;> rfl
/-- the twin's row -/
def TwR (w : World) (ac : List Ac) (k : Nat) (v : Value) (W : World) : Prop := ∃ l : List EX, RowX 55 6 w.heap.size W v l ∧ l.length = k ∧ (∀ (i : Nat) (a : Ac), i < k → ac[i]? = some a → ∃ A c, l[i]? = some (a.ex A c)) ∧ Below w.heap.size w W
theorem TwR.done {w W : World} {ac : List Ac} {v : Value} (h : TwR w ac ac.length v W) : TwinP w ac (.returned v) W := by
  obtain ⟨l, hx, hl, hi, hb⟩ := h
  obtain ⟨A, c, rfl, _, _⟩ := own_form hx.row
  have hn : ∀ e ∈ l, e.cells.length = 6 := fun e he => by
    obtain ⟨i, hi2⟩ := List.getElem?_of_mem he
    have hlt := (List.getElem?_eq_some_iff.1 hi2).1
    obtain ⟨A', c', h3⟩ := hi i _ (by omega) (List.getElem?_eq_getElem (by omega))
    rw [h3] at hi2; injection hi2 with hi2; subst hi2; rfl
  refine ⟨A, c, by rw [hl], ⟨rfl, fun i a ha => ?_⟩, hb⟩
  have hlt := (List.getElem?_eq_some_iff.1 ha).1
  obtain ⟨A', c', h3⟩ := hi i a hlt ha
  obtain ⟨g, c2, hv, hg, hcell⟩ := hx.at_ hn h3
  injection hv with hv _ _
  refine ⟨g, 0, A', c', hv, hg, fun j u hu => by rw [Nat.zero_add]; exact hcell j u hu, ?_⟩
  exact OwnB.reads (hx.bs _ (List.mem_of_getElem? h3)) rfl
def TwinR (w : World) (ac : List Ac) (e : Ending) (w' : World) : Prop := ∃ v, e = .returned v ∧ TwR w ac ac.length v w'
theorem TwinR.done {w W : World} {ac : List Ac} {e : Ending} (h : TwinR w ac e W) : TwinP w ac e W := by
  obtain ⟨v, rfl, h⟩ := h
  exact h.done
/-- the one act's twin -/
theorem TwR.one {w W : World} {a : Ac} {v : Value} (h : TwR w [a] 1 v W) : ∃ g c A' c', v = .slice (some ⟨g, 0, none⟩) 1 c ∧ g < W.heap.size ∧ (∀ j u, (a.hd ++ [.slice A' a.b.length c'])[j]? = some u → W.cell? ⟨g, j, none⟩ = some u) ∧ OwnB 5 W w.heap.size (.slice A' a.b.length c') a.b ∧ Below w.heap.size w W := by
  obtain ⟨l, hx, hl, hi, hb⟩ := h
  obtain ⟨A', c', h3⟩ := hi 0 a (by omega) rfl
  have hn : ∀ e ∈ l, e.cells.length = 6 := fun e he => by
    obtain ⟨i, hi2⟩ := List.getElem?_of_mem he
    have hlt := (List.getElem?_eq_some_iff.1 hi2).1
    obtain rfl : i = 0 := by omega
    rw [h3] at hi2; injection hi2 with hi2; subst hi2; rfl
  obtain ⟨g, c, hv, hg, hcell⟩ := hx.at_ hn h3
  rw [hl] at hv
  exact ⟨g, c, A', c', hv, hg, fun j u hu => by have := hcell j u hu; rwa [Nat.zero_mul, Nat.zero_add] at this, hx.bs _ (List.mem_of_getElem? h3), hb⟩
theorem TwR.next {w W W2 W4 : World} {ac : List Ac} {k : Nat} {l : List EX} {v v1 : Value} {a : Ac} {A : Option Addr} {c : Nat} {o : Obj} (hx : RowX 55 6 w.heap.size W v l) (hl : l.length = k) (hi : ∀ (i : Nat) (a : Ac), i < k → ac[i]? = some a → ∃ A c, l[i]? = some (a.ex A c)) (hb : Below w.heap.size w W) (ha : ac[k]? = some a)
    (hb2 : Below W.heap.size W W2) (ho : OwnB 5 W2 W.heap.size (.slice A a.b.length c) a.b) (hr : W4.ownsRow w.heap.size 55 6 v1 (l.length + 1) (exCells l ++ (a.ex A c).cells)) (hg : (W2.alloc o).grownBy W4 v.ownBlock) : TwR w ac (k + 1) v1 W4 := by
  refine ⟨l ++ [a.ex A c], (hx.below hb2).push (by decide) (own_base ho hb.size) hr hg, by simp [hl], fun i a' hi' ha' => ?_, ?_⟩
  · rcases Nat.lt_or_ge i k with h1 | h1
    · obtain ⟨A', c', h2⟩ := hi i a' h1 ha'
      exact ⟨A', c', by rw [List.getElem?_append_left (by omega)]; exact h2⟩
    · obtain rfl : i = k := by omega
      rw [ha] at ha'; injection ha' with ha'; subst ha'
      exact ⟨A, c, by rw [List.getElem?_append_right (by omega), hl]; simp⟩
  · have hs := hb.size
    have hs2 := hb2.size
    exact ((hb.trans (hb2.mono hs)).alloc (by omega) o).grown hg (by simp; omega) (fun k e => (World.ownsRow.lt hx.row k e).1)
set_option maxRecDepth 20000 in
set_option maxHeartbeats 4000000 in
theorem twinr_any (A : Option Addr) (n c : Nat) (ac : List Ac) (w : World) (h : ActsAt w w.heap.size A n ac) (hn : n ≤ 2199023255488) (hbl : ∀ a ∈ ac, a.b.length ≤ 140737488351232) : Calls Try.prog 18 #[.slice A n c] w (TwinR w ac) := by
  have hlen := h.1
  have H := Lib.hid h
  have HB := Lib.hid hbl
  have HL := Lib.hid hlen
  have HD := Lib.hid fun v W (h : TwR w ac ac.length v W) => (show TwinR w ac (.returned v) W from ⟨v, rfl, h⟩)
  have HS : Hid (TwR w ac 0 (.slice none 0 0) w) := Lib.hid ⟨[], RowX.start _ _ _ _, rfl, fun i a h => by omega, Below.refl _ _⟩
  obtain ⟨i0, hi, hz0, hz1, hz2⟩ := info_parts info55
  clear h hbl hlen
  go_enter Try.func18, Try.ntmps18
  go_wp2_with fail
  go_loopw [3, 4] (fun v i wr => ∃ k : Nat, k ≤ n ∧ i = .int .i64 k ∧ TwR w ac k v wr) (fun _ i _ => n - (intOf i).toNat)
  case atStart => exact ⟨0, Nat.zero_le _, rfl, HS.out⟩
  case round =>
    obtain ⟨k, hk, rfl, hx⟩ := hrel
    clear HS
    by_cases hkn : k < n
    · obtain ⟨l, hrow, hl, hpre, hbw⟩ := hx
      obtain ⟨a, ha⟩ : ∃ a, ac[k]? = some a := ⟨_, List.getElem?_eq_getElem (by rw [HL.out]; exact hkn)⟩
      obtain ⟨b, o, Ai, ci, hA, hb, hc, hr⟩ := H.out.2 k a ha
      have hs := hbw.size
      have HRD := Lib.hid (hr.below hbw)
      have u0 : wr.cell? ⟨b, o + k * 6, none⟩ = some (.int .i64 a.k) := (hbw.cell (p := ⟨b, o + k * 6, none⟩) hb).trans (hc 0 _ rfl)
      have u1 : wr.cell? ⟨b, o + k * 6 + 1, none⟩ = some (.int .i64 a.z) := (hbw.cell (p := ⟨b, o + k * 6 + 1, none⟩) hb).trans (hc 1 _ rfl)
      have u2 : wr.cell? ⟨b, o + k * 6 + 2, none⟩ = some (.int .i64 a.i) := (hbw.cell (p := ⟨b, o + k * 6 + 2, none⟩) hb).trans (hc 2 _ rfl)
      have u3 : wr.cell? ⟨b, o + k * 6 + 3, none⟩ = some (.int .i64 a.j) := (hbw.cell (p := ⟨b, o + k * 6 + 3, none⟩) hb).trans (hc 3 _ rfl)
      have u4 : wr.cell? ⟨b, o + k * 6 + 4, none⟩ = some (.int .u8 (a.m.toNat : Int)) := (hbw.cell (p := ⟨b, o + k * 6 + 4, none⟩) hb).trans (hc 4 _ rfl)
      have u5 : wr.cell? ⟨b, o + k * 6 + 5, none⟩ = some (.slice Ai a.b.length ci) := (hbw.cell (p := ⟨b, o + k * 6 + 5, none⟩) hb).trans (hc 5 _ rfl)
      have hbr : b < wr.heap.size := by omega
      have HLK : Hid (l.length = k) := Lib.hid hl
      have HX := Lib.hid hrow
      have HBL := Lib.hid (HB.out a (List.mem_of_getElem? ha))
      have HNX := Lib.hid fun W2 W4 v1 A2 c2 o2 => TwR.next (W2 := W2) (W4 := W4) (v1 := v1) (A := A2) (c := c2) (o := o2) hrow hl hpre hbw ha
      have HBW := Lib.hid hbw
      have HAA := Lib.hid hA
      have l1 : (0 : Int) ≤ (k : Int) := by omega
      have l2 : (k : Int) < (n : Int) := by omega
      have HNB := Lib.hid (show l.length + 1 ≤ 140737488355328 / 64 by omega)
      clear hrow hl hpre hbw ha hc hr hb hs hk
      subst hA
      have HEM : Hid (OwnB 5 ((wr.alloc (.cells #[.int .i64 a.k, .int .i64 a.z, .int .i64 a.i, .int .i64 a.j, .int .u8 (a.m.toNat : Int), .slice Ai a.b.length ci] 55)).alloc (.cells #[] 5)) wr.heap.size (.slice (some ⟨wr.heap.size + 1, 0, none⟩) 0 0) []) := Lib.hid (OwnB.built' 5 _ wr.heap.size (wr.heap.size + 1) #[] [] (by simp) (by simp) (by simp) rfl)
      have HBX0 : Hid (Blk ((wr.alloc (.cells #[.int .i64 a.k, .int .i64 a.z, .int .i64 a.i, .int .i64 a.j, .int .u8 (a.m.toNat : Int), .slice Ai a.b.length ci] 55)).alloc (.cells #[] 5)) wr.heap.size 55 #[.int .i64 a.k, .int .i64 a.z, .int .i64 a.i, .int .i64 a.j, .int .u8 (a.m.toNat : Int), .slice Ai a.b.length ci]) := Lib.hid ((Blk.new wr 55 _).alloc _)
      have HLE : Hid (w.heap.size ≤ wr.heap.size) := Lib.hid HBW.out.size
      go_upto_region 7 with (at_builtin; refine wpList_app rfl (.tmp 16) (.tmp 18) 23 rfl wr.heap.size 5 info5 Try.underlying23 _ [] rfl HEM.out _ _ _ _ a.b rfl ((HRD.out.alloc HLE.out _).alloc (by have := HLE.out; simp; omega) _) (by have := HBL.out; simp; omega) (by simp; omega) ?_; intro v1 w1 hown happ; rw [List.nil_append] at hown; have HO1 := Lib.hid hown; have HA1 := Lib.hid happ; obtain ⟨A1, c1, rfl, _, _⟩ := own_form hown; clear hown happ; have HB1 : Hid (Below wr.heap.size wr w1) := Lib.hid ((((Below.refl _ _).alloc (Nat.le_refl _) _).alloc (by simp) _).trans (HA1.out.below (by simp; omega) (fun q e => by have e2 : some (wr.heap.size + 1) = some q := e; injection e2; omega))); have HBX : Hid (Blk w1 wr.heap.size 55 #[.int .i64 a.k, .int .i64 a.z, .int .i64 a.i, .int .i64 a.j, .int .u8 (a.m.toNat : Int), .slice Ai a.b.length ci]) := Lib.hid (HA1.out.blk HBX0.out (fun e => by have e2 : some (wr.heap.size + 1) = some wr.heap.size := e; injection e2; omega)); clear HEM HBX0 HA1 HRD u0 u1 u2 u3 u4 u5; have x0 := HBX.out.cell 0; have x1 := HBX.out.cell 1; have x2 := HBX.out.cell 2; have x3 := HBX.out.cell 3; have x4 := HBX.out.cell 4; have x5 := HBX.out.cell 5; have f5 := HBX.out.frozen 5; have hbl1 := HBX.out.lt)
      have HBX2 : Hid (Blk (w1.setCell ⟨wr.heap.size, 5, none⟩ (.slice A1 a.b.length c1)) wr.heap.size 55 #[.int .i64 a.k, .int .i64 a.z, .int .i64 a.i, .int .i64 a.j, .int .u8 (a.m.toNat : Int), .slice A1 a.b.length c1]) := Lib.hid (HBX.out.set_ 5 _)
      have HO2 : Hid (OwnB 5 (w1.setCell ⟨wr.heap.size, 5, none⟩ (.slice A1 a.b.length c1)) wr.heap.size (.slice A1 a.b.length c1) a.b) := Lib.hid (HO1.out.far HBX.out (by decide) 5 _)
      have HB2 : Hid (Below wr.heap.size wr (w1.setCell ⟨wr.heap.size, 5, none⟩ (.slice A1 a.b.length c1))) := Lib.hid (HB1.out.setCell (p := ⟨wr.heap.size, 5, none⟩) (Nat.le_refl _) _)
      clear x0 x1 x2 x3 x4 x5 f5 hbl1 HBX HO1 HB1
      generalize w1.setCell ⟨wr.heap.size, 5, none⟩ (.slice A1 a.b.length c1) = w2 at HBX2 HO2 HB2 ⊢
      have x0 := HBX2.out.cell 0
      have x1 := HBX2.out.cell 1
      have x2 := HBX2.out.cell 2
      have x3 := HBX2.out.cell 3
      have x4 := HBX2.out.cell 4
      have x5 := HBX2.out.cell 5
      have hbl2 := HBX2.out.lt
      obtain ⟨Av, cv, rfl, _, _⟩ := own_form HX.out.row
      go_wp2_with (at_builtin; refine wpList_append_any _ rfl (.tmp 21) (.tmp 23) 44 rfl w.heap.size 55 i0 _ 6 64 Try.underlying44 hi hz0 hz1 hz2 rfl (by decide) _ l.length (exCells l) rfl (World.ownsRow.alloc (own_same HX.out.row fun k e => HB2.out.block k (World.ownsRow.lt HX.out.row k e).2) _) _ _ _ _ _ rfl (read_one _ _ _) (act_one _ _ _) (by have := HNB.out; simp only [maxLen]; omega) (by have := HNB.out; omega) (by have := HLE.out; have := HB2.out.size; simp; omega) ?_; intro v1 w4 hown hgrow hv1; have HN := Lib.hid (HNX.out _ _ _ _ _ _ HB2.out HO2.out hown hgrow); clear hown hgrow hv1)
      go_roundw
      case rel => exact ⟨k + 1, hkn, by go_num, HN.out⟩
      case measure => simp [intOf]; omega
    · obtain rfl : k = n := by omega
      have HE := Lib.hid (HD.out _ wr (by rw [HL.out]; exact hx))
      clear hx HD
      go_wp2
      go_ret
      exact HE.out
theorem twins_any (A : Option Addr) (n c : Nat) (ac : List Ac) (w : World) (h : ActsAt w w.heap.size A n ac) (hn : n ≤ 2199023255488) (hbl : ∀ a ∈ ac, a.b.length ≤ 140737488351232) : Calls Try.prog 18 #[.slice A n c] w (TwinP w ac) :=
  (twinr_any A n c ac w h hn hbl).mono fun _ _ h => h.done
end Go.Proofs.Ytbkgphmocjjmmaa
