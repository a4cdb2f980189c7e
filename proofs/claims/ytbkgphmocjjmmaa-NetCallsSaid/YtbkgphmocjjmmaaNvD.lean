/-
  The walk of the law's call f24: its beginning.
-/
import Derived.Test.YtbkgphmocjjmmaaNvC
import Derived.Deep.CutBlock
import Derived.StillTailTactics
namespace Go.Proofs.Ytbkgphmocjjmmaa
open Go.RowKit

def Ac.cs (a : Ac) (A : Option Addr) (n c : Nat) : Array Value := #[.int .i64 a.k, .int .i64 a.z, .int .i64 a.i, .int .i64 a.j, .int .u8 (a.m.toNat : Int), .slice A n c]
/-- behind the document's act, ahead of the program's -/
structure CallM (w0 : World) (s hp hq g gr : Nat) (S S' : Ns) (v : Bool → Value) (l : Bool → List LP) (vr : Bool → Value) (lr : Bool → List LP) (a : Ac) (A : Option Addr) (n c B : Nat) (num : Int) (b : List UInt8) (Ap : Option Addr) (cp : Nat) (W : World) : Prop where
  pr : PairX w0 g S v l gr S' vr lr W
  bx : Blk W s 55 (a.cs A n c)
  bp : Blk W hp 36 #[.int .i64 num, .slice Ap b.length cp]
  bq : Blk W hq 36 #[.int .i64 0, .slice none 0 0]
  ow : OwnB 5 W 0 (.slice Ap b.length cp) b
  fr : ∀ k, (Value.slice Ap b.length cp).ownBlock = some k → ¬ NetF g v l k
  rd : RdB W B A n a.b
  nx : ¬ NetF g v l s ∧ ¬ NetF g v l hp ∧ ¬ NetF g v l hq
  nr : ¬ NetF gr vr lr s ∧ ¬ NetF gr vr lr hp ∧ ¬ NetF gr vr lr hq
  ne : s < hp ∧ hp < hq ∧ w0.heap.size ≤ s
section
variable {w0 w W W' : World} {s hp hq g gr n c B : Nat} {S S' : Ns} {v : Bool → Value} {l : Bool → List LP} {vr : Bool → Value} {lr : Bool → List LP} {a : Ac} {A : Option Addr} {num : Int} {b : List UInt8} {Ap : Option Addr} {cp : Nat}
theorem CallM.start {vr0 : Bool → Value} {lr0 : Bool → List LP} {w1 w2 : World} (h : PairX w0 g S v l gr S vr0 lr0 w) (hr : RdB w B A n a.b) (hB : B ≤ w0.heap.size) (h1 : Below (w.alloc (.cells (a.cs A n c) 55)).heap.size (w.alloc (.cells (a.cs A n c) 55)) w1)
    (hn : NetR w2 gr S' vr lr) (hsub : ∀ k, NetF gr vr lr k → NetF gr vr0 lr0 k ∨ w1.heap.size ≤ k) (hc : Chg (NetF gr vr0 lr0) w1 w2) (ho : OwnQ (NetF gr vr0 lr0) w1.heap.size w2 (.slice Ap b.length cp) b) :
    CallM w0 w.heap.size w2.heap.size (w2.heap.size + 1) g gr S S' v l vr lr a A n c B num b Ap cp ((w2.alloc (.cells #[.int .i64 num, .slice Ap b.length cp] 36)).alloc (.cells #[.int .i64 0, .slice none 0 0] 36)) := by
  have b1 : Below w.heap.size w w1 := bt (al1 _ _) h1
  have hs1 : w.heap.size < w1.heap.size := by have := h1.size; simp at this; omega
  have hs2 := hc.size
  have hs0 := h.a.old.size
  have hp1 := (h.below b1).stepR hn hsub hc
  have hF : ∀ k, w.heap.size ≤ k → ¬ NetF g v l k := fun k hk e => by have := h.a.net.lt e; omega
  have hFr : ∀ k, w.heap.size ≤ k → ¬ NetF gr vr0 lr0 k := fun k hk e => by have := h.r.net.lt e; omega
  have hbx : Blk w1 w.heap.size 55 (a.cs A n c) := (Blk.new w 55 _).below h1 (by simp)
  refine ⟨hp1.below (al2 _ _ _), ((hc.blk hbx (hFr _ (Nat.le_refl _))).alloc _).alloc _, (Blk.new _ _ _).alloc _, Blk.new' _ _ _ _ (by simp), World.ownsRow.alloc (World.ownsRow.alloc ho.1 _) _, fun k hk e => ?_, ?_, ⟨hF _ (Nat.le_refl _), hF _ (by omega), hF _ (by omega)⟩, ⟨fun e => ?_, fun e => by have := hn.lt e; omega, fun e => by have := hn.lt e; omega⟩, by omega, by omega, by omega⟩
  · rcases ho.2 k hk with e1 | e1
    · exact h.dis k e e1
    · exact hF k (by omega) e
  · refine ((((hr.below (b1.mono (by omega))).below (hc.below (B := B) (by omega) fun k hk e => ?_)).alloc (by omega) _).alloc (by simp; omega) _)
    have := h.r.new k e; omega
  · rcases hsub _ e with e1 | e1
    · exact hFr _ (Nat.le_refl _) e1
    · omega
end
def CallP (w0 : World) (g gr : Nat) (S' : Ns) (e : Ending) (W : World) : Prop := e = .returned (.bool true) ∧ ∃ v l vr lr, PairX w0 g S' v l gr S' vr lr W
/-- behind the switch -/
structure CallE (w0 : World) (g gr hp hq : Nat) (S' : Ns) (num : Int) (b : List UInt8) (Ap : Option Addr) (cp : Nat) (W : World) : Prop where
  pr : ∃ v l vr lr, PairX w0 g S' v l gr S' vr lr W
  bp : Blk W hp 36 #[.int .i64 num, .slice Ap b.length cp]
  rp : RdB W W.heap.size Ap b.length b
  bq : ∃ Aq cq, Blk W hq 36 #[.int .i64 num, .slice Aq b.length cq] ∧ RdB W W.heap.size Aq b.length b
theorem rd_take {w : World} {B m k : Nat} {A : Option Addr} {bs cs : List UInt8} (h : RdB w B A m (bs ++ cs)) (hk : bs.length = k) : RdB w B A k bs := by
  have hl := h.len1
  rw [List.length_append] at hl
  refine ⟨by simp [hk], fun hn => ?_⟩
  obtain ⟨ad, e, hb, hc⟩ := h.2 (by omega)
  refine ⟨ad, e, hb, fun j u hu => hc j u ?_⟩
  rw [List.map_append, List.getElem?_append_left (List.getElem?_eq_some_iff.1 hu).1]
  exact hu
theorem CallM.below {w0 W W' : World} {s hp hq g gr n c B : Nat} {S S' : Ns} {v : Bool → Value} {l : Bool → List LP} {vr : Bool → Value} {lr : Bool → List LP} {a : Ac} {A : Option Addr} {num : Int} {b : List UInt8} {Ap : Option Addr} {cp : Nat} (h : CallM w0 s hp hq g gr S S' v l vr lr a A n c B num b Ap cp W) (hB : B ≤ w0.heap.size) (hb : Below W.heap.size W W') : CallM w0 s hp hq g gr S S' v l vr lr a A n c B num b Ap cp W' :=
  ⟨h.pr.below hb, h.bx.below hb h.bx.lt, h.bp.below hb h.bp.lt, h.bq.below hb h.bq.lt, own_same h.ow fun k e => hb.block k (World.ownsRow.lt h.ow k e).2, h.fr, h.rd.below (hb.mono (by have := h.pr.a.old.size; omega)), h.nx, h.nr, h.ne⟩
/-- behind the program's Send: the bytes that were handed in are the law's own -/
structure CallB (w0 : World) (s hp g gr : Nat) (S' : Ns) (v : Bool → Value) (l : Bool → List LP) (vr : Bool → Value) (lr : Bool → List LP) (a : Ac) (A : Option Addr) (n c : Nat) (num : Int) (b : List UInt8) (Ap : Option Addr) (cp gb : Nat) (bs : List UInt8) (c2 : Nat) (W : World) : Prop where
  pr : PairX w0 g S' v l gr S' vr lr W
  bx : Blk W s 55 (a.cs A n c)
  bp : Blk W hp 36 #[.int .i64 num, .slice Ap b.length cp]
  ob : OwnB 5 W 0 (.slice (some ⟨gb, 0, none⟩) bs.length c2) bs
  nb : ¬ NetF g v l gb ∧ ¬ NetF gr vr lr gb ∧ w0.heap.size ≤ gb
theorem CallE.drew {w0 W : World} {g gr hp hq : Nat} {S' : Ns} {num : Int} {b : List UInt8} {Ap : Option Addr} {cp : Nat} (h : CallE w0 g gr hp hq S' num b Ap cp W) : CallE w0 g gr hp hq S' num b Ap cp W.drew := by
  obtain ⟨v, l, vr, lr, hp⟩ := h.pr
  obtain ⟨Aq, cq, h1, h2⟩ := h.bq
  exact ⟨⟨v, l, vr, lr, hp.below (Below.refl _ _).drew⟩, h.bp, h.rp, Aq, cq, h1, h2⟩
section
variable {w0 W W' : World} {s hp hq g gr n c B : Nat} {S S' : Ns} {v v' : Bool → Value} {l l' : Bool → List LP} {vr : Bool → Value} {lr : Bool → List LP} {a : Ac} {A : Option Addr} {num er : Int} {b : List UInt8} {Ap Aq : Option Addr} {cp cq : Nat}
/-- behind a call at the program's net, ahead of the store of what it told -/
theorem CallM.mid (h : CallM w0 s hp hq g gr S S' v l vr lr a A n c B num b Ap cp W) (hn : NetA W' g S' v' l') (hsub : ∀ k, NetF g v' l' k → NetF g v l k ∨ W.heap.size ≤ k) (hc : Chg (NetF g v l) W W') :
    PairX w0 g S' v' l' gr S' vr lr W' ∧ Blk W' hp 36 #[.int .i64 num, .slice Ap b.length cp] ∧ Blk W' hq 36 #[.int .i64 0, .slice none 0 0] ∧ OwnB 5 W' 0 (.slice Ap b.length cp) b ∧ ¬ NetF g v' l' hq :=
  ⟨h.pr.stepA hn hsub hc, hc.blk h.bp h.nx.2.1, hc.blk h.bq h.nx.2.2, own_chg h.ow hc h.fr, fun e => by
    rcases hsub _ e with e1 | e1
    · exact h.nx.2.2 e1
    · have := h.bq.lt; omega⟩
theorem CallM.fin (h : CallM w0 s hp hq g gr S S' v l vr lr a A n c B num b Ap cp W) (hn : NetA W' g S' v' l') (hsub : ∀ k, NetF g v' l' k → NetF g v l k ∨ W.heap.size ≤ k) (hc : Chg (NetF g v l) W W') (ho : OwnB 5 W' 0 (.slice Aq b.length cq) b) :
    Blk W' hq 36 #[.int .i64 0, .slice none 0 0] ∧ CallE w0 g gr hp hq S' num b Ap cp ((W'.setCell ⟨hq, 0, none⟩ (.int .i64 num)).setCell ⟨hq, 1, none⟩ (.slice Aq b.length cq)) := by
  obtain ⟨h1, h2, h3, h4, h5⟩ := h.mid hn hsub hc
  obtain ⟨r1, r2⟩ := res_three h3 num Aq b.length cq
  have hne : hp ≠ hq := by have := h.ne.2.1; omega
  have f1 := h3.set_ 0 (.int .i64 num)
  refine ⟨h3, ⟨_, _, _, _, h1.chg r2 fun k hk => ?_⟩, (h2.far (p := ⟨hq, 0, none⟩) hne _).far (p := ⟨hq, 1, none⟩) hne _, OwnB.reads ((h4.far h3 (by decide) 0 _).far f1 (by decide) 1 _) rfl, Aq, cq, r1, OwnB.reads ((ho.far h3 (by decide) 0 _).far f1 (by decide) 1 _) rfl⟩
  subst hk
  exact ⟨by have := h.ne; omega, h5, h.nr.2.2⟩
theorem CallM.non (h : CallM w0 s hp hq g gr S S' v l vr lr a A n c B num b Ap cp W) (h0 : num = 0) (hb : b = []) (hn : NetA W' g S' v' l') (hsub : ∀ k, NetF g v' l' k → NetF g v l k ∨ W.heap.size ≤ k) (hc : Chg (NetF g v l) W W') :
    CallE w0 g gr hp hq S' num b Ap cp W' := by
  obtain ⟨h1, h2, h3, h4, h5⟩ := h.mid hn hsub hc
  refine ⟨⟨_, _, _, _, h1⟩, h2, OwnB.reads h4 rfl, none, 0, ?_, ?_⟩
  · subst h0 hb; exact h3
  · subst hb; exact Reads.none_
end
theorem CallB.of {w0 W W' : World} {s hp hq g gr n c B gb c2 b0 : Nat} {S S' : Ns} {v v' : Bool → Value} {l l' : Bool → List LP} {vr : Bool → Value} {lr : Bool → List LP} {a : Ac} {A : Option Addr} {num : Int} {b bs : List UInt8} {Ap : Option Addr} {cp : Nat} (h : CallM w0 s hp hq g gr S S' v l vr lr a A n c B num b Ap cp W) (ho : OwnB 5 W b0 (.slice (some ⟨gb, 0, none⟩) bs.length c2) bs) (hg : gb < W.heap.size) (hnb : ¬ NetF g v l gb ∧ ¬ NetF gr vr lr gb ∧ w0.heap.size ≤ gb)
    (hn : NetA W' g S' v' l') (hsub : ∀ k, NetF g v' l' k → NetF g v l k ∨ W.heap.size ≤ k) (hc : Chg (NetF g v l) W W') : CallB w0 s hp g gr S' v' l' vr lr a A n c num b Ap cp gb bs c2 W' := by
  obtain ⟨h1, h2, _, _, _⟩ := h.mid hn hsub hc
  refine ⟨h1, hc.blk h.bx h.nx.1, h2, own_base (own_chg ho hc fun k hk e => ?_) (Nat.zero_le _), fun e => ?_, hnb.2.1, hnb.2.2⟩
  · have : gb = k := by simpa [Value.ownBlock] using hk
    subst this; exact hnb.1 e
  · rcases hsub _ e with e1 | e1
    · exact hnb.1 e1
    · omega
set_option maxRecDepth 20000 in
set_option maxHeartbeats 8000000 in
theorem call_any (w0 : World) (g : Nat) (S S' : Ns) (v : Bool → Value) (l : Bool → List LP) (gr : Nat) (vr : Bool → Value) (lr : Bool → List LP) (K : Int) (a : Ac) (A : Option Addr) (n c B : Nat) (num er : Int) (b : List UInt8) (w : World) (h : PairX w0 g S v l gr S vr lr w) (hk : S.ok K) (hK : K ≤ 4611686018427387900) (hsm : S.sm) (hr : RdB w B A n a.b) (hB : B ≤ w0.heap.size) (hn : n ≤ 140737488351232) (ha : ActC S a S' num b er) :
    Calls Try.prog 24 #[.pointer (some ⟨g, 0, none⟩), .pointer (some ⟨gr, 0, none⟩), actV a.k a.z a.i a.j (a.m.toNat : Int) A n c] w (CallP w0 g gr S') := by
  have hl64 : ∀ s, (S.u s).length ≤ 64 := fun s => by have := hk.len s; have := hk.hi; omega
  have hbb : ∀ s, ∀ p ∈ S.u s, p.bytes.length ≤ 140737488355328 := fun s p hp => by have := hsm s p hp; omega
  have UR := Lib.hid fun s W (h : NetR W gr S vr lr) => (runder_any gr S vr lr K s W h hk (hbb s)).mono fun _ _ h => UnP.lk h
  have RA := Lib.hid fun W (h : NetR W gr S vr lr) (hr : RdB W B A n a.b) (hB : B ≤ W.heap.size) => ract_net gr S vr lr K a A n c B W h hk hK hsm hr hB ha
  have HP := Lib.hid h
  have HR := Lib.hid hr
  have HLF := hl64 false
  have HLT := hl64 true
  have HA := Lib.hid ha
  have HK := Lib.hid hk
  have HSM := Lib.hid hsm
  have HBB := Lib.hid hB
  have HS0 := Lib.hid h.a.old.size
  have HDM := Lib.hid (fun W (h : RdB W B A n a.b) => h.len1)
  have HER := Lib.hid (ha.ok hk hsm).2.2
  have HST := Lib.hid fun w1 w2 v' l' Ap cp hb hn hs hc ho => CallM.start (c := c) (num := num) (S' := S') (vr := v') (lr := l') (Ap := Ap) (cp := cp) (b := b) (w1 := w1) (w2 := w2) h hr hB hb hn hs hc ho
  clear h hr hl64 hbb hk hsm ha hB
  unfold actV
  go_enter Try.func24, Try.ntmps24
  go_wp2_with fail
  have HX0 : Hid (Below w.heap.size w (w.alloc (.cells (a.cs A n c) 55))) := Lib.hid (al1 _ _)
  refine (UR.out false _ (HP.out.r.net.below HX0.out)).mono ?_
  rintro e w1 ⟨A1, c1, rfl, hb1, -⟩
  have HB2 := Lib.hid hb1
  clear hb1
  go_wp2_with fail
  refine (UR.out true _ (HP.out.r.net.below (bt HX0.out HB2.out))).mono ?_
  rintro e w2 ⟨A2, c2, rfl, hb2, -⟩
  have HB3 : Hid (Below (w.alloc (.cells (a.cs A n c) 55)).heap.size (w.alloc (.cells (a.cs A n c) 55)) w2) := Lib.hid (bt HB2.out hb2)
  have HSUM : Hid (IntKind.i64.wrap (((S.u false).length : Int) + ((S.u true).length : Int)) = ((S.u false).length : Int) + ((S.u true).length : Int)) := Lib.hid (by simp [IntKind.wrap, IntKind.bits, IntKind.signed]; omega)
  have hbx : Blk w2 w.heap.size 55 (a.cs A n c) := (Blk.new w 55 _).below HB3.out (by simp)
  have x0 : w2.cell? ⟨w.heap.size, 0, none⟩ = some (.int .i64 a.k) := hbx.cell 0
  have x1 : w2.cell? ⟨w.heap.size, 1, none⟩ = some (.int .i64 a.z) := hbx.cell 1
  have x2 : w2.cell? ⟨w.heap.size, 2, none⟩ = some (.int .i64 a.i) := hbx.cell 2
  have x3 : w2.cell? ⟨w.heap.size, 3, none⟩ = some (.int .i64 a.j) := hbx.cell 3
  have x4 : w2.cell? ⟨w.heap.size, 4, none⟩ = some (.int .u8 (a.m.toNat : Int)) := hbx.cell 4
  have x5 : w2.cell? ⟨w.heap.size, 5, none⟩ = some (.slice A n c) := hbx.cell 5
  have HLS : Hid (w.heap.size ≤ w2.heap.size) := Lib.hid (by have := hbx.lt; omega)
  have HACT := Lib.hid (RA.out w2 (HP.out.r.net.below (bt HX0.out HB3.out)) (HR.out.below ((bt HX0.out HB3.out).mono (by have := HBB.out; have := HS0.out; omega))) (by have := HBB.out; have := HS0.out; have := HLS.out; omega))
  clear hb2 hbx HB2 UR RA HX0 HP HR
  unfold actV at HACT
  go_wp2_with fail
  refine HACT.out.mono ?_
  rintro e w3 ⟨vr', lr', Ap, cp, rfl, hn3, hsub3, hc3, ho3⟩
  have HM := Lib.hid (HST.out w2 w3 _ _ Ap cp HB3.out hn3 hsub3 hc3 ho3)
  clear hn3 hsub3 hc3 ho3 x0 x1 x2 x3 x4 x5 HACT HST HB3
  go_upto_region 5 with fail
  clear HLS
  generalize hw4 : (w3.alloc (.cells #[.int .i64 num, .slice Ap b.length cp] 36)).alloc (.cells #[.int .i64 0, .slice none 0 0] 36) = w4 at *
  clear hw4
  generalize w3.heap.size = hp at *
  generalize w.heap.size = s at *
  have x0 : w4.cell? ⟨s, 0, none⟩ = some (.int .i64 a.k) := HM.out.bx.cell 0
  go_upto_block 0 with fail
  go_cut [11] (fun s11 wx => ∃ wz, wz = wx ∧ s11 = .int .i64 er ∧ CallE w0 g gr hp (hp + 1) S' num b Ap cp wz)
  case first =>
    have hkk : a.k = 1 ∨ a.k = 2 ∨ a.k = 3 ∨ a.k = 4 ∨ a.k = 5 ∨ a.k = 6 ∨ a.k = 7 ∨ a.k = 8 ∨ (a.k < 1 ∨ 8 < a.k) := by omega
    clear x0 HLF HLT
    rcases hkk with h | h | h | h | h | h | h | h | h
    · have h0 : a.k = 1 := h
      clear h
      have e1 : (a.k == 1) = true := by rw [beq_iff_eq]; exact h0
      obtain ⟨z1, z2, hcl⟩ := kind1 HM.out.pr.a.net HK.out hK HA.out h0
      have HC := Lib.hid hcl
      have Z1 := Lib.hid z1
      have Z2 := Lib.hid z2
      clear h0 z1 z2 hcl
      go_wp2_with fail
      refine HC.out.mono ?_
      rintro e w5 ⟨v5, l5, rfl, hn5, hsub5, hc5⟩
      have HF := Lib.hid (HM.out.non Z1.out Z2.out hn5 hsub5 hc5)
      clear hn5 hsub5 hc5 HC
      go_wp2_with fail
      go_meet
      exact ⟨_, rfl, rfl, HF.out⟩
    · have h0 : a.k = 2 := h
      clear h
      have e1 : (a.k == 1) = false := by rw [beq_eq_false_iff_ne]; omega
      have e2 : (a.k == 2) = true := by rw [beq_iff_eq]; exact h0
      obtain ⟨z1, z2, ⟨he, hcl⟩ | ⟨he, hcl⟩⟩ := kind2 HM.out.pr.a.net HK.out hK HA.out h0
      all_goals
        have HC := Lib.hid hcl
        have Z1 := Lib.hid z1
        have Z2 := Lib.hid z2
        clear h0 z1 z2 hcl
        subst he
        go_wp2_with fail
        refine HC.out.mono ?_
        rintro e w5 ⟨v5, l5, rfl, hn5, hsub5, hc5⟩
        have HF := Lib.hid (HM.out.non Z1.out Z2.out hn5 hsub5 hc5)
        clear hn5 hsub5 hc5 HC
        go_wp2_with fail
        refine (num_any _ _).mono ?_
        rintro e w' ⟨rfl, rfl⟩
        go_wp2_with (go_at_call 11; refine (num_any _ _).mono ?_; rintro e w' ⟨rfl, rfl⟩)
        go_meet
        exact ⟨_, rfl, rfl, HF.out⟩
    · have h0 : a.k = 3 := h
      clear h
      have e1 : (a.k == 1) = false := by rw [beq_eq_false_iff_ne]; omega
      have e2 : (a.k == 2) = false := by rw [beq_eq_false_iff_ne]; omega
      have e3 : (a.k == 3) = true := by rw [beq_iff_eq]; exact h0
      have x5 : w4.cell? ⟨s, 5, none⟩ = some (.slice A n c) := HM.out.bx.cell 5
      have HH := Lib.hid h0
      have hlt := HM.out.bx.lt
      have HEM : Hid (OwnB 5 (w4.alloc (.cells #[] 5)) w4.heap.size (.slice (some ⟨w4.heap.size, 0, none⟩) 0 0) []) := Lib.hid (OwnB.built 5 w4 w4.heap.size #[] [] (Nat.le_refl _) (by simp) rfl)
      have HBW : Hid (B ≤ w4.heap.size) := Lib.hid (by have := HBB.out; have := HM.out.pr.a.old.size; omega)
      have HLA : Hid (a.b.length = n) := Lib.hid HM.out.rd.len1
      clear h0
      go_upto_region 17 with (first
        | (at_builtin; refine wpList_app rfl (.tmp 72) (.tmp 74) 23 rfl w4.heap.size 5 info5 Try.underlying23 _ [] rfl HEM.out _ _ _ _ a.b rfl (HM.out.rd.alloc HBW.out _) (by have := HLA.out; simp; omega) (by simp) ?_; intro v1 w5 hown happ; rw [List.nil_append] at hown; have HO5 := Lib.hid hown; have HA5 := Lib.hid (below_lit happ); obtain ⟨A1, c1, rfl, _, _⟩ := own_form hown; have HRD7 := Lib.hid (Reads.built w5 5 [bv 77]); have HLE5 := Lib.hid happ.size; clear hown happ)
        | (at_builtin; refine wpList_app rfl (.tmp 75) (.tmp 76) 23 rfl w4.heap.size 5 info5 Try.underlying23 _ a.b rfl (World.ownsRow.alloc HO5.out _) _ _ 1 _ [77] rfl HRD7.out (by have := HLA.out; simp; omega) (by have := HLE5.out; simp at this; simp; omega) ?_; intro v2 w6 hown happ; have HO6 := Lib.hid hown; have HB6 : Hid (Below w4.heap.size w4 w6) := Lib.hid ((HA5.out.alloc (by have := HA5.out.size; omega) _).trans (happ.below (by have := HLE5.out; simp at this; simp; omega) (fun k e => (World.ownsRow.lt HO5.out k e).1))); clear hown happ HO5 HA5 HRD7 HEM HLE5))
      have HM6 := Lib.hid (HM.out.below HBB.out HB6.out)
      obtain ⟨bs, hbs⟩ : ∃ bs, a.b ++ [77] = bs := ⟨_, rfl⟩
      have HBS := Lib.hid hbs
      have HLB : Hid (bs.length = n + 1) := Lib.hid (by rw [← hbs, List.length_append, HLA.out]; rfl)
      rw [hbs] at HO6
      clear hbs
      obtain ⟨A2, c2, rfl, hc2, _⟩ := own_form HO6.out
      obtain ⟨gb, rfl, hgb, _⟩ := own_ptr HO6.out (by rw [HLB.out]; omega)
      have HRB := Lib.hid (rd_take (k := n) (bs := a.b) (cs := [77]) (by rw [HBS.out]; exact OwnB.reads HO6.out rfl) HLA.out)
      have HGB : Hid (w4.heap.size ≤ gb) := Lib.hid (HO6.out.lt gb (by simp [Value.ownBlock])).1
      have hcn : (n : Int) ≤ (c2 : Int) := by have := HLB.out; omega
      have hcn' : n ≤ c2 := by have := HLB.out; omega
      have HNB : Hid (¬ NetF g v l gb ∧ ¬ NetF gr vr' lr' gb ∧ w0.heap.size ≤ gb) := Lib.hid ⟨fun e => by have := HM.out.pr.a.net.lt e; have := HGB.out; omega, fun e => by have := HM.out.pr.r.net.lt e; have := HGB.out; omega, by have := HM.out.pr.a.old.size; have := HGB.out; omega⟩
      have HC := Lib.hid (kind3 (c := c2) (W := w6.drew) (HM6.out.pr.a.net.below (Below.refl _ _).drew) HK.out hK HRB.out (Nat.le_refl _) HA.out HH.out)
      clear x5 hlt HM hc2
      have x1 : w6.cell? ⟨s, 1, none⟩ = some (.int .i64 a.z) := HM6.out.bx.cell 1
      have x5 : w6.cell? ⟨s, 5, none⟩ = some (.slice A n c) := HM6.out.bx.cell 5
      have hlt := HM6.out.bx.lt
      have HM7 := Lib.hid (HM6.out.below HBB.out (Below.refl _ _).drew)
      have HO7 : Hid (OwnB 5 w6.drew w4.heap.size (.slice (some ⟨gb, 0, none⟩) bs.length c2) bs) := HO6
      have HGB7 : Hid (gb < w6.drew.heap.size) := Lib.hid hgb
      clear HM6 HO6 hgb
      go_cut [15, 16] (fun s15 s16 wx => ∃ wz v8 l8, wz = wx ∧ s15 = .int .i64 num ∧ s16 = .int .i64 er ∧ CallB w0 s hp g gr S' v8 l8 vr' lr' a A n c num b Ap cp gb bs c2 wz)
      case first =>
        go_region_held3 (fun W => W.cell? ⟨s, 1, none⟩ = some (.int .i64 a.z) ∧ W.cell? ⟨s, 5, none⟩ = some (.slice A n c))
          (first | go_keep | exact ⟨HB8.out.bx.cell 1, HB8.out.bx.cell 5⟩)
          ((go_at_call 13; ((with_reducible refine HC.out.mono ?_); rintro e w8 ⟨v8, l8, rfl, hn8, hsub8, hc8⟩; have HB8 := Lib.hid (CallB.of HM7.out HO7.out HGB7.out HNB.out hn8 hsub8 hc8); clear hn8 hsub8 hc8)))
        all_goals
          go_wp2_with fail
          go_meet
          exact ⟨_, v8, l8, rfl, rfl, rfl, HB8.out⟩
      case rest =>
        obtain ⟨w8, v8, l8, rfl, rfl, rfl, hb8⟩ := hcut
        have HB8 := Lib.hid hb8
        clear hb8 x1 x5 hlt HM7 HO7 HGB7 HNB HC HB6
        have x5 : w8.cell? ⟨s, 5, none⟩ = some (.slice A n c) := HB8.out.bx.cell 5
        have p0 : w8.cell? ⟨hp, 0, none⟩ = some (.int .i64 num) := HB8.out.bp.cell 0
        obtain ⟨b7, hb7, c7, _⟩ := own_cell HB8.out.ob (j := n) (by rw [HLB.out]; omega)
        have h77 : b7 = 77 := by
          rw [← HBS.out, List.getElem?_append_right (by rw [HLA.out]; omega), HLA.out, Nat.sub_self] at hb7
          simpa using hb7.symm
        subst h77
        have hni : (0 : Int) ≤ (n : Int) := by omega
        have hnl : (n : Int) < (bs.length : Int) := by have := HLB.out; omega
        clear hb7
        go_wp2_with fail
        have HNB8 := Lib.hid HB8.out.nb
        have HPR8 := Lib.hid HB8.out.pr
        have HOB8 := Lib.hid HB8.out.ob
        clear x5 p0 c7 HB8
        go_loopw [17] (fun i wr => ∃ (k : Nat) (cs : List UInt8), k ≤ bs.length ∧ i = .int .i64 k ∧ cs.length = bs.length ∧ PairX w0 g S' v8 l8 gr S' vr' lr' wr ∧ OwnB 5 wr 0 (.slice (some ⟨gb, 0, none⟩) bs.length c2) cs) (fun i _ => bs.length - (intOf i).toNat)
        case atStart => exact ⟨0, bs, Nat.zero_le _, rfl, rfl, HPR8.out, HOB8.out⟩
        case round =>
          obtain ⟨k, cs, hk, rfl, hcs, hpr, hob⟩ := hrel
          have HPR := Lib.hid hpr
          have HOB := Lib.hid hob
          clear hpr hob HPR8 HOB8
          by_cases hkn : k < bs.length
          · obtain ⟨b6, _, c6, f6⟩ := own_cell HOB.out (j := k) (by omega)
            have l1 : (0 : Int) ≤ (k : Int) := by omega
            have l2 : (k : Int) < (bs.length : Int) := by omega
            have HN : Hid (PairX w0 g S' v8 l8 gr S' vr' lr' (wr.setCell ⟨gb, k, none⟩ (.int .u8 7))) := Lib.hid (HPR.out.chg (F := (· = gb)) ((Chg.refl (· = gb) wr).setCell (p := ⟨gb, k, none⟩) (fun _ => rfl) _) fun q hq => by subst hq; exact ⟨HNB8.out.2.2, HNB8.out.1, HNB8.out.2.1⟩)
            have HO : Hid (OwnB 5 (wr.setCell ⟨gb, k, none⟩ (.int .u8 7)) 0 (.slice (some ⟨gb, 0, none⟩) bs.length c2) (cs.set k 7)) := Lib.hid (own_setB HOB.out (by simp [Value.ownBlock]) 7)
            have HCS : Hid ((cs.set k 7).length = bs.length) := Lib.hid (by rw [List.length_set]; exact hcs)
            have HKN := Lib.hid hkn
            have hbl : bs.length ≤ 140737488351233 := by have := HLB.out; omega
            clear hcs
            go_wp2_with fail
            go_roundw
            case rel => exact ⟨k + 1, cs.set k 7, HKN.out, by go_num, HCS.out, HN.out, HO.out⟩
            case measure => simp [intOf]; omega
          · have l2 : ¬ (k : Int) < (bs.length : Int) := by omega
            clear hcs
            go_wp2_with fail
            refine (num_any _ _).mono ?_
            rintro e w' ⟨rfl, rfl⟩
            go_wp2
            go_ret
            exact ⟨rfl, v8, l8, vr', lr', HPR.out⟩
    · have h0 : a.k = 4 := h
      clear h
      have e1 : (a.k == 1) = false := by rw [beq_eq_false_iff_ne]; omega
      have e2 : (a.k == 2) = false := by rw [beq_eq_false_iff_ne]; omega
      have e3 : (a.k == 3) = false := by rw [beq_eq_false_iff_ne]; omega
      have e4 : (a.k == 4) = true := by rw [beq_iff_eq]; exact h0
      have x1 : w4.cell? ⟨s, 1, none⟩ = some (.int .i64 a.z) := HM.out.bx.cell 1
      have x2 : w4.cell? ⟨s, 2, none⟩ = some (.int .i64 a.i) := HM.out.bx.cell 2
      have HC := Lib.hid (kind4 HM.out.pr.a.net HK.out hK HA.out h0)
      clear h0
      go_wp2_with fail
      refine HC.out.mono ?_
      rintro e w5 ⟨v5, l5, Aq, cq, rfl, hn5, hsub5, hc5, ho5, -⟩
      have HF := Lib.hid (HM.out.fin hn5 hsub5 hc5 ho5)
      clear hn5 hsub5 hc5 ho5 HC x1 x2
      have y0 := HF.out.1.cell 0
      have y1 := HF.out.1.cell 1
      have f0 := HF.out.1.frozen 0
      have f1 := HF.out.1.frozen 1
      have hlt := HF.out.1.lt
      go_wp2_with fail
      go_meet
      exact ⟨_, rfl, rfl, HF.out.2⟩
    · have h0 : a.k = 5 := h
      clear h
      have e1 : (a.k == 1) = false := by rw [beq_eq_false_iff_ne]; omega
      have e2 : (a.k == 2) = false := by rw [beq_eq_false_iff_ne]; omega
      have e3 : (a.k == 3) = false := by rw [beq_eq_false_iff_ne]; omega
      have e4 : (a.k == 4) = false := by rw [beq_eq_false_iff_ne]; omega
      have e5 : (a.k == 5) = true := by rw [beq_iff_eq]; exact h0
      have x1 : w4.cell? ⟨s, 1, none⟩ = some (.int .i64 a.z) := HM.out.bx.cell 1
      have x2 : w4.cell? ⟨s, 2, none⟩ = some (.int .i64 a.i) := HM.out.bx.cell 2
      have HC := Lib.hid (kind5 HM.out.pr.a.net HK.out hK HA.out h0)
      clear h0
      go_wp2_with fail
      refine HC.out.mono ?_
      rintro e w5 ⟨v5, l5, Aq, cq, rfl, hn5, hsub5, hc5, ho5, -⟩
      have HF := Lib.hid (HM.out.fin hn5 hsub5 hc5 ho5)
      clear hn5 hsub5 hc5 ho5 HC x1 x2
      have y0 := HF.out.1.cell 0
      have y1 := HF.out.1.cell 1
      have f0 := HF.out.1.frozen 0
      have f1 := HF.out.1.frozen 1
      have hlt := HF.out.1.lt
      go_wp2_with fail
      go_meet
      exact ⟨_, rfl, rfl, HF.out.2⟩
    · have h0 : a.k = 6 := h
      clear h
      have e1 : (a.k == 1) = false := by rw [beq_eq_false_iff_ne]; omega
      have e2 : (a.k == 2) = false := by rw [beq_eq_false_iff_ne]; omega
      have e3 : (a.k == 3) = false := by rw [beq_eq_false_iff_ne]; omega
      have e4 : (a.k == 4) = false := by rw [beq_eq_false_iff_ne]; omega
      have e5 : (a.k == 5) = false := by rw [beq_eq_false_iff_ne]; omega
      have e6 : (a.k == 6) = true := by rw [beq_iff_eq]; exact h0
      have x1 : w4.cell? ⟨s, 1, none⟩ = some (.int .i64 a.z) := HM.out.bx.cell 1
      have x2 : w4.cell? ⟨s, 2, none⟩ = some (.int .i64 a.i) := HM.out.bx.cell 2
      have HC := Lib.hid (kind6 HM.out.pr.a.net HK.out hK HSM.out HA.out h0)
      clear h0
      go_wp2_with fail
      refine HC.out.mono ?_
      rintro e w5 ⟨v5, l5, Aq, cq, rfl, hn5, hsub5, hc5, ho5, -⟩
      have HF := Lib.hid (HM.out.fin hn5 hsub5 hc5 ho5)
      clear hn5 hsub5 hc5 ho5 HC x1 x2
      have y0 := HF.out.1.cell 0
      have y1 := HF.out.1.cell 1
      have f0 := HF.out.1.frozen 0
      have f1 := HF.out.1.frozen 1
      have hlt := HF.out.1.lt
      go_wp2_with fail
      go_meet
      exact ⟨_, rfl, rfl, HF.out.2⟩
    · have h0 : a.k = 7 := h
      clear h
      have e1 : (a.k == 1) = false := by rw [beq_eq_false_iff_ne]; omega
      have e2 : (a.k == 2) = false := by rw [beq_eq_false_iff_ne]; omega
      have e3 : (a.k == 3) = false := by rw [beq_eq_false_iff_ne]; omega
      have e4 : (a.k == 4) = false := by rw [beq_eq_false_iff_ne]; omega
      have e5 : (a.k == 5) = false := by rw [beq_eq_false_iff_ne]; omega
      have e6 : (a.k == 6) = false := by rw [beq_eq_false_iff_ne]; omega
      have e7 : (a.k == 7) = true := by rw [beq_iff_eq]; exact h0
      have x1 : w4.cell? ⟨s, 1, none⟩ = some (.int .i64 a.z) := HM.out.bx.cell 1
      have x2 : w4.cell? ⟨s, 2, none⟩ = some (.int .i64 a.i) := HM.out.bx.cell 2
      have x3 : w4.cell? ⟨s, 3, none⟩ = some (.int .i64 a.j) := HM.out.bx.cell 3
      obtain ⟨z1, z2, hcl⟩ := kind7 HM.out.pr.a.net HK.out hK HA.out h0
      have HC := Lib.hid hcl
      have Z1 := Lib.hid z1
      have Z2 := Lib.hid z2
      clear h0 z1 z2 hcl
      go_wp2_with fail
      refine HC.out.mono ?_
      rintro e w5 ⟨v5, l5, rfl, hn5, hsub5, hc5⟩
      have HF := Lib.hid (HM.out.non Z1.out Z2.out hn5 hsub5 hc5)
      clear hn5 hsub5 hc5 HC
      go_wp2_with fail
      go_meet
      exact ⟨_, rfl, rfl, HF.out⟩
    · have h0 : a.k = 8 := h
      clear h
      have e1 : (a.k == 1) = false := by rw [beq_eq_false_iff_ne]; omega
      have e2 : (a.k == 2) = false := by rw [beq_eq_false_iff_ne]; omega
      have e3 : (a.k == 3) = false := by rw [beq_eq_false_iff_ne]; omega
      have e4 : (a.k == 4) = false := by rw [beq_eq_false_iff_ne]; omega
      have e5 : (a.k == 5) = false := by rw [beq_eq_false_iff_ne]; omega
      have e6 : (a.k == 6) = false := by rw [beq_eq_false_iff_ne]; omega
      have e7 : (a.k == 7) = false := by rw [beq_eq_false_iff_ne]; omega
      have e8 : (a.k == 8) = true := by rw [beq_iff_eq]; exact h0
      have x1 : w4.cell? ⟨s, 1, none⟩ = some (.int .i64 a.z) := HM.out.bx.cell 1
      have x2 : w4.cell? ⟨s, 2, none⟩ = some (.int .i64 a.i) := HM.out.bx.cell 2
      have x3 : w4.cell? ⟨s, 3, none⟩ = some (.int .i64 a.j) := HM.out.bx.cell 3
      have x4 : w4.cell? ⟨s, 4, none⟩ = some (.int .u8 (a.m.toNat : Int)) := HM.out.bx.cell 4
      have HC := Lib.hid (kind8 HM.out.pr.a.net HK.out hK HSM.out HA.out h0)
      clear h0
      go_wp2_with fail
      refine HC.out.mono ?_
      rintro e w5 ⟨v5, l5, Aq, cq, rfl, hn5, hsub5, hc5, ho5, -⟩
      have HF := Lib.hid (HM.out.fin hn5 hsub5 hc5 ho5)
      clear hn5 hsub5 hc5 ho5 HC x1 x2 x3 x4
      have y0 := HF.out.1.cell 0
      have y1 := HF.out.1.cell 1
      have f0 := HF.out.1.frozen 0
      have f1 := HF.out.1.frozen 1
      have hlt := HF.out.1.lt
      go_wp2_with fail
      go_meet
      exact ⟨_, rfl, rfl, HF.out.2⟩
    · have h0 : a.k < 1 ∨ 8 < a.k := h
      clear h
      have e1 : (a.k == 1) = false := by rw [beq_eq_false_iff_ne]; omega
      have e2 : (a.k == 2) = false := by rw [beq_eq_false_iff_ne]; omega
      have e3 : (a.k == 3) = false := by rw [beq_eq_false_iff_ne]; omega
      have e4 : (a.k == 4) = false := by rw [beq_eq_false_iff_ne]; omega
      have e5 : (a.k == 5) = false := by rw [beq_eq_false_iff_ne]; omega
      have e6 : (a.k == 6) = false := by rw [beq_eq_false_iff_ne]; omega
      have e7 : (a.k == 7) = false := by rw [beq_eq_false_iff_ne]; omega
      have e8 : (a.k == 8) = false := by rw [beq_eq_false_iff_ne]; omega
      have x0 : w4.cell? ⟨s, 0, none⟩ = some (.int .i64 a.k) := HM.out.bx.cell 0
      have x1 : w4.cell? ⟨s, 1, none⟩ = some (.int .i64 a.z) := HM.out.bx.cell 1
      have x2 : w4.cell? ⟨s, 2, none⟩ = some (.int .i64 a.i) := HM.out.bx.cell 2
      have x3 : w4.cell? ⟨s, 3, none⟩ = some (.int .i64 a.j) := HM.out.bx.cell 3
      have x4 : w4.cell? ⟨s, 4, none⟩ = some (.int .u8 (a.m.toNat : Int)) := HM.out.bx.cell 4
      have x5 : w4.cell? ⟨s, 5, none⟩ = some (.slice A n c) := HM.out.bx.cell 5
      have HC := Lib.hid (act_net g S v l K a A n c B w4 HM.out.pr.a.net HK.out hK HSM.out HM.out.rd (by have := HBB.out; have := HM.out.pr.a.old.size; omega) (fun hn ad e hf => by
        obtain ⟨ad', e', hlt, _⟩ := HM.out.rd.2 hn
        rw [e'] at e; injection e with e; subst e
        have := HM.out.pr.a.new _ hf; have := HBB.out; omega) HA.out)
      clear h0
      unfold actV at HC
      go_wp2_with fail
      refine HC.out.mono ?_
      rintro e w5 ⟨v5, l5, Aq, cq, rfl, hn5, hsub5, hc5, ho5, -⟩
      have HF := Lib.hid (HM.out.fin (hn5.below (al1 w5 (.cells #[.int .i64 er, .int .i64 num, .slice Aq b.length cq] 57))) hsub5 (hc5.alloc _) (World.ownsRow.alloc ho5 _))
      have HBT : Hid (Blk (w5.alloc (.cells #[.int .i64 er, .int .i64 num, .slice Aq b.length cq] 57)) w5.heap.size 57 #[.int .i64 er, .int .i64 num, .slice Aq b.length cq]) := Lib.hid (Blk.new _ _ _)
      have htb : hp + 1 < w5.heap.size := by have := HM.out.bq.lt; have := hc5.size; omega
      clear hn5 hsub5 hc5 ho5 HC x0 x1 x2 x3 x4 x5
      unfold toldV
      go_upto_region 7 with fail
      generalize w5.alloc (.cells #[.int .i64 er, .int .i64 num, .slice Aq b.length cq] 57) = w6 at *
      generalize w5.heap.size = tb at *
      have zz0 : (w6.setCell ⟨hp + 1, 0, none⟩ (.int .i64 num)).cell? ⟨tb, 0, none⟩ = some (.int .i64 er) := (HBT.out.far (p := ⟨hp + 1, 0, none⟩) (by show tb ≠ hp + 1; omega) _).cell 0
      have z0 := HBT.out.cell 0
      have z1 := HBT.out.cell 1
      have z2 := HBT.out.cell 2
      have y0 := HF.out.1.cell 0
      have y1 := HF.out.1.cell 1
      have f0 := HF.out.1.frozen 0
      have f1 := HF.out.1.frozen 1
      have hlt := HF.out.1.lt
      go_region
      all_goals
        go_wp2_with fail
        go_meet
        exact ⟨_, rfl, rfl, HF.out.2.drew⟩
  case rest =>
    obtain ⟨wz, rfl, rfl, hce⟩ := hcut
    have HCE := Lib.hid hce
    obtain ⟨Aq, cq, hbq, hrq⟩ := hce.bq
    have HRQ := Lib.hid hrq
    have HLEN : Hid (b.length ≤ 140737488355328) := Lib.hid (by have := HER.out; omega)
    have y0 := hce.bp.cell 0
    have y1 := hce.bp.cell 1
    have q0 := hbq.cell 0
    have q1 := hbq.cell 1
    clear hce hbq hrq x0
    go_wp2_with fail
    refine (num_any _ _).mono ?_
    rintro e w' ⟨rfl, rfl⟩
    go_wp2_with fail
    refine (samep_same num Ap Aq cp cq _ _ b _ HCE.out.rp HRQ.out (Nat.le_refl _) (Nat.le_refl _) HLEN.out).mono ?_
    rintro e w7 ⟨rfl, hb7⟩
    obtain ⟨v1, l1, vr1, lr1, hpr⟩ := HCE.out.pr
    have HPR := Lib.hid (hpr.below hb7)
    clear hpr hb7
    go_wp2
    go_ret
    exact ⟨rfl, v1, l1, vr1, lr1, HPR.out⟩
end Go.Proofs.Ytbkgphmocjjmmaa
