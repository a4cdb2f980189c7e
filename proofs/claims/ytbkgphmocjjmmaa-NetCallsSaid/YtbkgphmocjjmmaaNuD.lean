/-
  The walk of the law NetPlays f5.
-/
import Derived.Test.YtbkgphmocjjmmaaNuC
import Derived.Test.YtbkgphmocjjmmaaRnK
import Derived.Deep.CutBlock
namespace Go.Proofs.Ytbkgphmocjjmmaa
open Go.RowKit

theorem samep_same (num : Int) (A B : Option Addr) (c d K L : Nat) (b : List UInt8) (w : World) (h1 : RdB w K A b.length b) (h2 : RdB w L B b.length b) (hK : K ≤ w.heap.size) (hL : L ≤ w.heap.size) (hN : b.length ≤ 140737488355328) :
    Calls Try.prog 22 #[.agg #[.int .i64 num, .slice A b.length c], .agg #[.int .i64 num, .slice B b.length d]] w fun e w' => e = .returned (.bool true) ∧ Below w.heap.size w w' :=
  (samep_any num num A B b.length b.length c d K L b b w h1 h2 hK hL hN).mono fun e w' h => by
    obtain ⟨rfl, hb⟩ := h
    exact ⟨by simp, hb⟩
/-- the document's net, all of whose blocks are new -/
structure FrR (w : World) (g : Nat) (S : Ns) (v : Bool → Value) (l : Bool → List LP) (W : World) : Prop where
  net : NetR W g S v l
  new : ∀ k, NetF g v l k → w.heap.size ≤ k
  old : Below w.heap.size w W
section
variable {w W W' : World} {g : Nat} {S S' : Ns} {v v' : Bool → Value} {l l' : Bool → List LP}
theorem FrR.below (h : FrR w g S v l W) (hb : Below W.heap.size W W') : FrR w g S v l W' := ⟨h.net.below hb, h.new, bt h.old hb⟩
theorem FrR.step (h : FrR w g S v l W) (hn : NetR W' g S' v' l') (hsub : ∀ k, NetF g v' l' k → NetF g v l k ∨ W.heap.size ≤ k) (hc : Chg (NetF g v l) W W') : FrR w g S' v' l' W' :=
  ⟨hn, fun k hk => by
    have := h.old.size
    rcases hsub k hk with e | e
    · exact h.new k e
    · omega, h.old.trans (hc.below h.old.size fun k hk e => by have := h.new k e; omega)⟩
theorem frr_first {limit : Int} {e : Ending} (h : RNewP w limit e W) : e = .returned (.pointer (some ⟨w.heap.size, 0, none⟩)) ∧ FrR w w.heap.size (Ns.new limit) (fun _ => .slice none 0 0) (fun _ => []) W := by
  obtain ⟨rfl, hn, hb⟩ := h
  refine ⟨rfl, hn, fun k hk => ?_, hb⟩
  rcases hk with rfl | ⟨s, hs⟩ | ⟨s, p, hp, _⟩
  · exact Nat.le_refl _
  · cases hs
  · cases hp
end
/-- what is told, and what the document tells, side by side -/
structure PlT (wc : World) (g2 i gb : Nat) (t : Tl) (A1 : Option Addr) (c1 : Nat) (A2 : Option Addr) (c2 : Nat) (W : World) : Prop where
  k0 : W.cell? ⟨g2, i * 3, none⟩ = some (.int .i64 t.er)
  k1 : W.cell? ⟨g2, i * 3 + 1, none⟩ = some (.int .i64 t.num)
  k2 : W.cell? ⟨g2, i * 3 + 1 + 1, none⟩ = some (.slice A1 t.b.length c1)
  b0 : W.cell? ⟨gb, 0, none⟩ = some (.int .i64 t.num)
  b1 : W.cell? ⟨gb, 1, none⟩ = some (.slice A2 t.b.length c2)
  r1 : RdB W wc.heap.size A1 t.b.length t.b
  r2 : RdB W wc.heap.size A2 t.b.length t.b
  lt : g2 < wc.heap.size ∧ gb < wc.heap.size
  old : Below wc.heap.size wc W
section
variable {wc W W' : World} {g2 i gb : Nat} {t : Tl} {A1 A2 : Option Addr} {c1 c2 : Nat}
theorem PlT.next (h : PlT wc g2 i gb t A1 c1 A2 c2 W) (hb : Below W.heap.size W W') : PlT wc g2 i gb t A1 c1 A2 c2 W' := by
  have hbc : Below wc.heap.size W W' := hb.mono h.old.size
  exact ⟨(hbc.cell (p := ⟨g2, _, none⟩) h.lt.1).trans h.k0, (hbc.cell (p := ⟨g2, _, none⟩) h.lt.1).trans h.k1, (hbc.cell (p := ⟨g2, _, none⟩) h.lt.1).trans h.k2, (hbc.cell (p := ⟨gb, _, none⟩) h.lt.2).trans h.b0, (hbc.cell (p := ⟨gb, _, none⟩) h.lt.2).trans h.b1, h.r1.below hbc, h.r2.below hbc, h.lt, h.old.trans hbc⟩
theorem PlT.drew (h : PlT wc g2 i gb t A1 c1 A2 c2 W) : PlT wc g2 i gb t A1 c1 A2 c2 W.drew := h.next (Below.refl _ _).drew
end
set_option maxRecDepth 20000 in
set_option maxHeartbeats 4000000 in
theorem plays_bad (limit : Int) (A : Option Addr) (n c : Nat) (ac : List Ac) (w : World) (h : limit < 1 ∨ 64 < limit) (ha : ActsAt w w.heap.size A n ac) (hn : n ≤ 2199023255488) (hbl : ∀ a ∈ ac, a.b.length ≤ 140737488351232) :
    Calls Try.prog 5 #[.int .i64 limit, .slice A n c] w (AwP w) := by
  have HT := Lib.hid (twins_any A n c ac w ha hn hbl)
  have HP := Lib.hid fun A n c w => play_bad limit A n c w h
  have HR := Lib.hid fun w => rnew_bad limit w h
  clear ha hbl h
  go_enter Try.func5, Try.ntmps5
  go_wp2_with fail
  refine HT.out.mono ?_
  rintro e w1 ⟨A1, c1, rfl, -, hb⟩
  have HB := Lib.hid hb
  clear hb HT
  go_wp2_with fail
  refine (HP.out _ _ _ _).mono ?_
  rintro e w2 ⟨rfl, rfl⟩
  go_wp2_with fail
  refine (HR.out _).mono ?_
  rintro e w2 ⟨rfl, rfl⟩
  go_wp2_with fail
  refine (num_any _ _).mono ?_
  rintro e w2 ⟨rfl, rfl⟩
  go_wp2_with fail
  refine (awake_any _).mono ?_
  rintro e w2 ⟨rfl, hb2⟩
  have HB2 := Lib.hid (bt HB.out hb2)
  clear hb2
  go_wp2
  go_ret
  exact ⟨rfl, HB2.out⟩
theorem ft_three (t : Tl) (A : Option Addr) (c : Nat) : (t.ex A c).cells.length = 3 := rfl
theorem TlR.cells3 {base : Nat} {F : Nat → Prop} {tl : Nat → Tl} {k : Nat} {v : Value} {l : List EX} {W : World} (h : TlR base F tl k v l W) : ∀ e ∈ l, e.cells.length = 3 := fun e he => by
  obtain ⟨i, hi⟩ := List.getElem?_of_mem he
  have hlt := (List.getElem?_eq_some_iff.1 hi).1
  obtain ⟨A, c, h3⟩ := h.at_ i (by rw [h.len] at hlt; exact hlt)
  rw [h3] at hi; injection hi with hi; subst hi; rfl
/-- the law's loop: the world behind Play is wb -/
structure PlL (w wb : World) (gr : Nat) (S : Ns) (vr : Bool → Value) (lr : Bool → List LP) (W : World) : Prop where
  net : FrR wb gr S vr lr W
  old : Below w.heap.size w wb
theorem PlL.start {w wb W : World} {limit : Int} {e : Ending} (hb : Below w.heap.size w wb) (h : RNewP wb limit e W) : e = .returned (.pointer (some ⟨wb.heap.size, 0, none⟩)) ∧ PlL w wb wb.heap.size (Ns.new limit) (fun _ => .slice none 0 0) (fun _ => []) W :=
  ⟨(frr_first h).1, (frr_first h).2, hb⟩
/-- the document has done its act, and its packet is laid into a box -/
theorem PlT.start {w wb W W2 : World} {gr gb i n : Nat} {S S' : Ns} {vr vr' : Bool → Value} {lr lr' : Bool → List LP} {tl : Nat → Tl} {v : Value} {l : List EX} {Ap : Option Addr} {cp : Nat} {b0 : Nat} (hL : PlL w wb gr S vr lr W) (hT : TlR b0 (fun _ => False) tl n v l wb) (hi : i < n) (hn2 : NetR W2 gr S' vr' lr') (hsub : ∀ k, NetF gr vr' lr' k → NetF gr vr lr k ∨ W.heap.size ≤ k) (hc : Chg (NetF gr vr lr) W W2)
    (ho : OwnB 5 W2 0 (.slice Ap (tl i).b.length cp) (tl i).b) (hgb : W2.heap.size = gb) :
    PlL w wb gr S' vr' lr' (W2.alloc (.cells #[.int .i64 (tl i).num, .slice Ap (tl i).b.length cp] 36)) ∧ ∃ g2 A1 c1 c2, v = .slice (some ⟨g2, 0, none⟩) n c2 ∧ PlT (W2.alloc (.cells #[.int .i64 (tl i).num, .slice Ap (tl i).b.length cp] 36)) g2 i gb (tl i) A1 c1 Ap cp (W2.alloc (.cells #[.int .i64 (tl i).num, .slice Ap (tl i).b.length cp] 36)) := by
  have hf2 := hL.net.step hn2 hsub hc
  have hf3 := hf2.below (al1 W2 (.cells #[.int .i64 (tl i).num, .slice Ap (tl i).b.length cp] 36))
  refine ⟨⟨hf3, hL.old⟩, ?_⟩
  obtain ⟨A1, c1, h3⟩ := hT.at_ i hi
  obtain ⟨g2, c2, hv, hg, hcell⟩ := hT.row.at_ hT.cells3 h3
  rw [hT.len] at hv
  have hbx := Blk.new' W2 36 gb #[.int .i64 (tl i).num, .slice Ap (tl i).b.length cp] hgb
  have hs := hf2.old.size
  refine ⟨g2, A1, c1, c2, hv, (hf3.old.cell (p := ⟨g2, _, none⟩) hg).trans (hcell 0 _ rfl), (hf3.old.cell (p := ⟨g2, _, none⟩) hg).trans (hcell 1 _ rfl), (hf3.old.cell (p := ⟨g2, _, none⟩) hg).trans (hcell 2 _ rfl), hbx.cell 0, hbx.cell 1, ?_, ?_, ⟨by simp; omega, by simp; omega⟩, Below.refl _ _⟩
  · have hbs := hT.row.bs _ (List.mem_of_getElem? h3)
    exact ((OwnB.reads (A := A1) (c := c1) hbs rfl).below hf3.old).more hf3.old.size
  · exact ((OwnB.reads ho rfl).alloc (Nat.le_refl _) _).more (by simp)
theorem PlL.next {w wb W W' : World} {gr : Nat} {S : Ns} {vr : Bool → Value} {lr : Bool → List LP} (h : PlL w wb gr S vr lr W) (hb : Below W.heap.size W W') : PlL w wb gr S vr lr W' := ⟨h.net.below hb, h.old⟩
set_option maxRecDepth 20000 in
set_option maxHeartbeats 8000000 in
theorem plays_any (limit : Int) (A : Option Addr) (n c : Nat) (ac : List Ac) (w : World) (h1 : 1 ≤ limit) (h2 : limit ≤ 64) (ha : ActsAt w w.heap.size A n ac) (hn : n ≤ 2199023255488) (hbl : ∀ a ∈ ac, a.b.length ≤ 140737488351232) :
    Calls Try.prog 5 #[.int .i64 limit, .slice A n c] w (AwP w) := by
  obtain ⟨st, tl, hp⟩ := path_any (Ns.new limit) (Ns.new_ok h1 h2 0 (by omega)) (Ns.new_sm limit) ac
  have hlen := ha.1
  have HT := Lib.hid (twins_any A n c ac w ha hn hbl)
  have HPL := Lib.hid fun A1 c1 w1 (h : ActsAt w1 w1.heap.size A1 ac.length ac) => play_any limit A1 ac.length c1 ac st tl w1 h1 h2 hp h (by omega)
  have HRN := Lib.hid fun w => rnew_ok limit w h1 h2
  have HA := Lib.hid ha
  have HP := Lib.hid hp
  have HL := Lib.hid hlen
  clear ha hbl hp
  subst hlen
  go_enter Try.func5, Try.ntmps5
  go_wp2_with fail
  refine HT.out.mono ?_
  rintro e w1 ⟨A1, c1, rfl, ha1, hb⟩
  have HB := Lib.hid hb
  have HPL1 := Lib.hid (HPL.out _ c1 _ ha1)
  clear hb HT ha1 HPL
  go_wp2_with fail
  refine HPL1.out.mono ?_
  rintro e wb ⟨A2, c2, l, rfl, htl, hb⟩
  have HB2 := Lib.hid (bt HB.out hb)
  have HTL := Lib.hid htl
  clear hb htl HPL1 HB
  go_wp2_with fail
  refine (HRN.out _).mono ?_
  intro e w3 hr3
  obtain ⟨rfl, hL3⟩ := PlL.start HB2.out hr3
  have HL3 : Hid (PlL w wb wb.heap.size (st 0) (fun _ => .slice none 0 0) (fun _ => []) w3) := Lib.hid (by rw [HP.out.at0]; exact hL3)
  clear hr3 hL3 HRN
  go_wp2_with fail
  refine (num_any _ _).mono ?_
  rintro e w' ⟨rfl, rfl⟩
  go_wp2_with fail
  go_loopw [9] (fun i wr => ∃ (k : Nat) (vr : Bool → Value) (lr : Bool → List LP), k ≤ ac.length ∧ i = .int .i64 k ∧ PlL w wb wb.heap.size (st k) vr lr wr) (fun i _ => ac.length - (intOf i).toNat)
  case atStart => exact ⟨0, _, _, Nat.zero_le _, rfl, HL3.out⟩
  case round =>
    obtain ⟨k, vr, lr, hk, rfl, hl⟩ := hrel
    have HLL := Lib.hid hl
    clear hl HL3
    by_cases hkn : k < ac.length
    · obtain ⟨a, ha⟩ : ∃ a, ac[k]? = some a := ⟨_, List.getElem?_eq_getElem hkn⟩
      obtain ⟨b, o, Ai, ci, hA, hb, hc, hr⟩ := HA.out.2 k a ha
      have hbw : Below w.heap.size w wr := bt HLL.out.old HLL.out.net.old
      have hs := hbw.size
      have hok := HP.out.ok k hk
      have HACT := Lib.hid (ract_net wb.heap.size (st k) vr lr (128 * (k : Int)) a Ai a.b.length ci w.heap.size wr HLL.out.net.net hok.1 (by omega) hok.2 (hr.below hbw) hs (HP.out.step k a ha))
      have HTB : Hid ((tl k).b.length ≤ 8192) := Lib.hid ((HP.out.step k a ha).ok hok.1 hok.2).2.2
      have u0 : wr.cell? ⟨b, o + k * 6, none⟩ = some (.int .i64 a.k) := (hbw.cell (p := ⟨b, o + k * 6, none⟩) hb).trans (hc 0 _ rfl)
      have u1 : wr.cell? ⟨b, o + k * 6 + 1, none⟩ = some (.int .i64 a.z) := (hbw.cell (p := ⟨b, o + k * 6 + 1, none⟩) hb).trans (hc 1 _ rfl)
      have u2' : wr.cell? ⟨b, o + k * 6 + 2, none⟩ = some (.int .i64 a.i) := (hbw.cell (p := ⟨b, o + k * 6 + 2, none⟩) hb).trans (hc 2 _ rfl)
      have u3' : wr.cell? ⟨b, o + k * 6 + 3, none⟩ = some (.int .i64 a.j) := (hbw.cell (p := ⟨b, o + k * 6 + 3, none⟩) hb).trans (hc 3 _ rfl)
      have u4' : wr.cell? ⟨b, o + k * 6 + 4, none⟩ = some (.int .u8 (a.m.toNat : Int)) := (hbw.cell (p := ⟨b, o + k * 6 + 4, none⟩) hb).trans (hc 4 _ rfl)
      have u5' : wr.cell? ⟨b, o + k * 6 + 5, none⟩ = some (.slice Ai a.b.length ci) := (hbw.cell (p := ⟨b, o + k * 6 + 5, none⟩) hb).trans (hc 5 _ rfl)
      have l1 : (0 : Int) ≤ (k : Int) := by omega
      have l2 : (k : Int) < (ac.length : Int) := by omega
      have HKN := Lib.hid hkn
      clear ha hok hb hc hr hs hk hbw
      subst hA
      unfold actV at HACT
      go_wp2_with fail
      refine HACT.out.mono ?_
      rintro e w4 ⟨vr', lr', Ap, cp, rfl, hn4, hsub4, hc4, ho4⟩
      obtain ⟨hl4, g2, At, ct, c2', hv, ht4⟩ := PlT.start HLL.out HTL.out HKN.out hn4 hsub4 hc4 ho4.1 rfl
      have HL4 := Lib.hid hl4
      have HT4 := Lib.hid ht4
      have HV := Lib.hid hv
      injection hv with hv1 _ hv3
      subst hv1
      subst hv3
      clear hn4 hsub4 hc4 ho4 u0 u1 u2' u3' u4' u5' HACT hl4 ht4
      go_upto_region 12 with fail
      generalize hgb : w4.heap.size = gb at *
      generalize w4.alloc (.cells #[.int .i64 (tl k).num, .slice Ap (tl k).b.length cp] 36) = w5 at *
      have sa0 := HT4.out.drew
      have HSP := Lib.hid fun W (h : PlT w5 g2 k gb (tl k) At ct Ap cp W) => samep_same (tl k).num At Ap ct cp w5.heap.size w5.heap.size (tl k).b W h.r1 h.r2 h.old.size h.old.size (by have := HTB.out; omega)
      have HSA := Lib.hid fun W (h : PlT w5 g2 k gb (tl k) At ct Ap cp W) => (show W.cell? ⟨g2, k * 3, none⟩ = some (.int .i64 (tl k).er) ∧ W.cell? ⟨g2, k * 3 + 1, none⟩ = some (.int .i64 (tl k).num) ∧ W.cell? ⟨g2, k * 3 + 1 + 1, none⟩ = some (.slice At (tl k).b.length ct) ∧ W.cell? ⟨gb, 0, none⟩ = some (.int .i64 (tl k).num) ∧ W.cell? ⟨gb, 1, none⟩ = some (.slice Ap (tl k).b.length cp) from ⟨h.k0, h.k1, h.k2, h.b0, h.b1⟩)
      have ca0 := HSA.out _ HT4.out
      clear hgb
      go_region_held3 (fun W => W.cell? ⟨g2, k * 3, none⟩ = some (.int .i64 (tl k).er) ∧ W.cell? ⟨g2, k * 3 + 1, none⟩ = some (.int .i64 (tl k).num) ∧ W.cell? ⟨g2, k * 3 + 1 + 1, none⟩ = some (.slice At (tl k).b.length ct) ∧ W.cell? ⟨gb, 0, none⟩ = some (.int .i64 (tl k).num) ∧ W.cell? ⟨gb, 1, none⟩ = some (.slice Ap (tl k).b.length cp))
        (first | go_keep | exact HSA.out _ sa1)
        (first
          | (go_at_call 11; ((with_reducible refine (num_any _ _).mono ?_); rintro e w6 ⟨rfl, rfl⟩))
          | (go_at_call 22; ((with_reducible refine (HSP.out _ sa0).mono ?_); rintro e w6 ⟨rfl, hb6⟩; have sa1 := sa0.next hb6; have HL6 := Lib.hid (HL4.out.next ((Below.refl _ _).drew.trans hb6)))))
      all_goals
        go_wp2_with fail
        go_roundw
        case rel => exact ⟨k + 1, vr', lr', HKN.out, by go_num, HL6.out⟩
        case measure => simp [intOf]; omega
    · have hkn' : ¬ (k : Int) < (ac.length : Int) := by omega
      have HE : Hid (Below w.heap.size w wr) := Lib.hid (bt HLL.out.old HLL.out.net.old)
      go_wp2
      go_ret
      exact ⟨rfl, HE.out⟩
end Go.Proofs.Ytbkgphmocjjmmaa
