/-
  The walk of the document's at f39: Flip.
-/
import Derived.Test.YtbkgphmocjjmmaaRnF
namespace Go.Proofs.Ytbkgphmocjjmmaa
open Go.RowKit

/-- the packet that is looked at lies in a block of its own -/
structure RatF (w : World) (k z i j m : Int) (A : Option Addr) (n c : Nat) (q : Nat) (num : Int) (B : Option Addr) (bn bc : Nat) (W : World) : Prop where
  st : RatS w k z i j m A n c W
  pk : Blk W q 36 #[.int .i64 num, .slice B bn bc]
  ge : w.heap.size + 2 ≤ q
theorem RatS.withPk {w W : World} {k z i j m : Int} {A : Option Addr} {n c : Nat} (h : RatS w k z i j m A n c W) (num : Int) (B : Option Addr) (bn bc : Nat) :
    RatF w k z i j m A n c W.heap.size num B bn bc (W.alloc (.cells #[.int .i64 num, .slice B bn bc] 36)) :=
  ⟨⟨h.old.alloc h.old.size _, h.act.alloc _, h.res.alloc _⟩, Blk.new W 36 _, by have := h.res.lt; omega⟩
theorem RatF.drewN {w W : World} {k z i j m num : Int} {A B : Option Addr} {n c q bn bc : Nat} (h : RatF w k z i j m A n c q num B bn bc W) (d : Nat) : RatF w k z i j m A n c q num B bn bc (W.drewN d) :=
  ⟨h.st.drewN d, h.pk.below (below_drewN (Below.refl _ _) d) h.pk.lt, h.ge⟩
theorem RatF.drew {w W : World} {k z i j m num : Int} {A B : Option Addr} {n c q bn bc : Nat} (h : RatF w k z i j m A n c q num B bn bc W) : RatF w k z i j m A n c q num B bn bc W.drew := h.drewN 1
set_option maxRecDepth 20000 in
set_option maxHeartbeats 4000000 in
theorem rat_8n (g : Nat) (S : Ns) (v : Bool → Value) (l : Bool → List LP) (s : Bool) (i : Nat) (p : LP) (z j : Int) (mk : UInt8) (A : Option Addr) (n c : Nat) (k : Int) (w : World) (h : NetR w g S v l) (hp : (l s)[i]? = some p) (hk : ¬ k < 8) (hj : j < 0 ∨ (p.pk.bytes.length : Int) ≤ j ∨ mk = 0) :
    Calls Try.prog 39 #[.pointer (some ⟨g, 0, none⟩), .int .i64 k, .int .i64 (idxN s), actV k z i j mk.toNat A n c] w (RStepP w g v l S 0 [] 1) := by
  have u0 : w.cell? ⟨g, rwayO s, none⟩ = some (v s) := (h.blk.cell _).trans (layR_under _ _ s)
  obtain ⟨gb, cb, hv, hgb, q0, q1⟩ := (h.row s).at_ hp
  rw [val_form] at q1
  rw [hv] at u0
  have hg : g < w.heap.size := h.blk.lt
  have hi : i < (l s).length := (List.getElem?_eq_some_iff.1 hp).1
  have l0 : decide ((i : Int) < 0) = false := decide_eq_false (by omega)
  have l1 : (i : Int) < ((l s).length : Int) := by omega
  have l2 : (0 : Int) ≤ (i : Int) := by omega
  have e4 : (k == 4) = false := by rw [beq_eq_false_iff_ne]; omega
  have e5 : (k == 5) = false := by rw [beq_eq_false_iff_ne]; omega
  have e6 : (k == 6) = false := by rw [beq_eq_false_iff_ne]; omega
  have e7 : (k == 7) = false := by rw [beq_eq_false_iff_ne]; omega
  have HST := Lib.hid (RatS.start w k z i j mk.toNat A n c)
  have H := Lib.hid h
  clear h hv hp hk
  unfold actV
  generalize hpk : p.pk = pk at *
  clear hpk
  cases s
  all_goals
    simp only [idxN, rwayO] at *
    go_enter Try.func39, Try.ntmps39
    go_upto_region 1 with fail
    generalize (w.alloc (.cells #[.int .i64 k, .int .i64 z, .int .i64 i, .int .i64 j, .int .u8 mk.toNat, .slice A n c] 55)).alloc (.cells #[.int .i64 0, .slice none 0 0] 36) = w1 at *
    have a2 : w1.cell? ⟨w.heap.size, 2, none⟩ = some (.int .i64 i) := HST.out.act.cell 2
    have u1 := (HST.out.old.cell (p := ⟨g, _, none⟩) hg).trans u0
    have hb1 := HST.out.res.lt
    have hg1 : g < w1.heap.size := by omega
    go_quiet (fail)
    have HS2 := Lib.hid (HST.out.drewN nq)
    generalize w1.drewN nq = w2 at HS2 ⊢
    clear a2 u1 hb1 hg1
    have u1 := (HS2.out.old.cell (p := ⟨g, _, none⟩) hg).trans u0
    have y0 := (HS2.out.old.cell (p := ⟨gb, _, none⟩) hgb).trans q0
    have y1 := (HS2.out.old.cell (p := ⟨gb, _, none⟩) hgb).trans q1
    have a2 : w2.cell? ⟨w.heap.size, 2, none⟩ = some (.int .i64 i) := HS2.out.act.cell 2
    have hb2 := HS2.out.res.lt
    have hg2 : g < w2.heap.size := by omega
    have hgb2 : gb < w2.heap.size := by omega
    have ha2 : w.heap.size < w2.heap.size := by omega
    have HPK := Lib.hid (HS2.out.withPk pk.num p.A pk.bytes.length p.c)
    go_upto_region 25 with fail
    go_region
    all_goals
      have HF3 := Lib.hid HPK.out.drew
      generalize w2.heap.size = gq at HF3 ⊢
      generalize (w2.alloc _).drew = w3 at HF3 ⊢
      clear u0 u1 q0 q1 y0 y1 a2 hb2 hg2 hgb2 ha2
      have a3 : w3.cell? ⟨w.heap.size, 3, none⟩ = some (.int .i64 j) := HF3.out.st.act.cell 3
      have a4 : w3.cell? ⟨w.heap.size, 4, none⟩ = some (.int .u8 mk.toNat) := HF3.out.st.act.cell 4
      have p1 : w3.cell? ⟨gq, 1, none⟩ = some (.slice p.A pk.bytes.length p.c) := HF3.out.pk.cell 1
      have r0 := HF3.out.st.res.cell 0
      have r1 := HF3.out.st.res.cell 1
      have s0 := HF3.out.st.res.frozen 0
      have s1 := HF3.out.st.res.frozen 1
      have hb3 := HF3.out.st.res.lt
      have ha3 := HF3.out.st.act.lt
      have hq3 := HF3.out.pk.lt
      by_cases t1 : j < 0
      · clear hj
        go_wp2
        clear r0 r1 s0 s1
        have HE := HF3.out.st.err H.out 1
        have t0 := HE.1.cell 0
        have t1 := HE.1.cell 1
        exact bodyPost_ret (v := .tuple #[.agg #[.int .i64 0, .slice none 0 0], .int .i64 1]) (by simp [results, Try.results39, go_sem, t0, t1]) rfl HE.2
      · by_cases t2 : (pk.bytes.length : Int) ≤ j
        · clear hj
          go_wp2
          clear r0 r1 s0 s1
          have HE := HF3.out.st.err H.out 1
          have t0 := HE.1.cell 0
          have t1 := HE.1.cell 1
          exact bodyPost_ret (v := .tuple #[.agg #[.int .i64 0, .slice none 0 0], .int .i64 1]) (by simp [results, Try.results39, go_sem, t0, t1]) rfl HE.2
        · have t3 : ((mk.toNat : Int) == 0) = true := by
            rcases hj with h | h | h
            · omega
            · omega
            · rw [h]; rfl
          clear hj
          go_wp2
          clear r0 r1 s0 s1
          have HE := HF3.out.st.err H.out 1
          have t0 := HE.1.cell 0
          have t1 := HE.1.cell 1
          exact bodyPost_ret (v := .tuple #[.agg #[.int .i64 0, .slice none 0 0], .int .i64 1]) (by simp [results, Try.results39, go_sem, t0, t1]) rfl HE.2
theorem rd_flip {W : World} {p : LP} {gp j : Nat} {x : UInt8} {u : Value} (h : (p.flip j x).own (W.setCell ⟨gp, j, none⟩ u)) (hA : p.A = some ⟨gp, 0, none⟩) : RdB (W.setCell ⟨gp, j, none⟩ u).drew (W.setCell ⟨gp, j, none⟩ u).drew.heap.size (some ⟨gp, 0, none⟩) p.pk.bytes.length (p.pk.bytes.set j x) := by
  have e2 : (p.flip j x).val = .slice (some ⟨gp, 0, none⟩) p.pk.bytes.length p.c := by rw [LP.flip_val]; unfold LP.val; rw [hA]
  have h2 : OwnB 5 (W.setCell ⟨gp, j, none⟩ u) 0 (.slice (some ⟨gp, 0, none⟩) p.pk.bytes.length p.c) (p.pk.bytes.set j x) := by
    show World.ownsRow _ _ _ _ _ _ _
    rw [← e2]; exact h
  exact (OwnB.reads h2 (by simp)).drew
set_option maxRecDepth 20000 in
set_option maxHeartbeats 4000000 in
theorem rat_8 (g : Nat) (S : Ns) (v : Bool → Value) (l : Bool → List LP) (K : Int) (s : Bool) (i j : Nat) (b mk : UInt8) (p : LP) (z : Int) (A : Option Addr) (n c : Nat) (k : Int) (w : World) (h : NetR w g S v l) (hok : S.ok K) (hK : K ≤ 4611686018427387900) (hp : (l s)[i]? = some p) (hk : ¬ k < 8) (hj : p.pk.bytes[j]? = some b) (hm : mk ≠ 0) (hbl : p.pk.bytes.length ≤ 140737488355328) :
    Calls Try.prog 39 #[.pointer (some ⟨g, 0, none⟩), .int .i64 k, .int .i64 (idxN s), actV k z i j mk.toNat A n c] w (RStepP w g v l ((S.add s 6 1).flip s i (p.pk.flip j (b ^^^ mk))) p.pk.num (p.pk.bytes.set j (b ^^^ mk)) 0) := by
  have u0 : w.cell? ⟨g, rwayO s, none⟩ = some (v s) := (h.blk.cell _).trans (layR_under _ _ s)
  have k0 : w.cell? ⟨g, rcntO s + 6, none⟩ = some (.int .i64 ((S.c s).get 6)) := (h.blk.cell _).trans (layR_get S v s 6 (by omega))
  have f0 := h.blk.frozen (rcntO s + 6)
  have hc0 := Cn.get_ok (hok.cn s) 6 (by omega)
  have c0 := hc0.1
  have c1 := Int.le_trans hc0.2 hK
  obtain ⟨gb, cb, hv, hgb, q0, q1⟩ := (h.row s).at_ hp
  rw [val_form] at q1
  rw [hv] at u0
  have hg : g < w.heap.size := h.blk.lt
  have hpm := List.mem_of_getElem? hp
  have hi : i < (l s).length := (List.getElem?_eq_some_iff.1 hp).1
  have hjl : j < p.pk.bytes.length := (List.getElem?_eq_some_iff.1 hj).1
  obtain ⟨gp, hA, hpb, hgp⟩ := own_addr (h.pks s p hpm) (by omega)
  rw [hA] at q1
  have l0 : decide ((i : Int) < 0) = false := decide_eq_false (by omega)
  have l1 : (i : Int) < ((l s).length : Int) := by omega
  have l2 : (0 : Int) ≤ (i : Int) := by omega
  have l3 : ¬ (j : Int) < 0 := by omega
  have l4 : (0 : Int) ≤ (j : Int) := by omega
  have l5 : ¬ (p.pk.bytes.length : Int) ≤ (j : Int) := by omega
  have l6 : (j : Int) < (p.pk.bytes.length : Int) := by omega
  have t3 : ((mk.toNat : Int) == 0) = false := by
    rw [beq_eq_false_iff_ne]; intro e
    exact hm (UInt8.toNat_inj.1 (by simpa using e))
  have e4 : (k == 4) = false := by rw [beq_eq_false_iff_ne]; omega
  have e5 : (k == 5) = false := by rw [beq_eq_false_iff_ne]; omega
  have e6 : (k == 6) = false := by rw [beq_eq_false_iff_ne]; omega
  have e7 : (k == 7) = false := by rw [beq_eq_false_iff_ne]; omega
  have hx : bits .xor .u8 (b.toNat : Int) (mk.toNat : Int) = ((b ^^^ mk).toNat : Int) := xor_u8 b mk
  have HST := Lib.hid (RatS.start w k z i j mk.toNat A n c)
  have H := Lib.hid h
  have HCT := Lib.hid fun (W : World) (hW : RatS w k z i j mk.toNat A n c W) => hW.count h s 6 (by omega)
  have HBY := Lib.hid fun (W : World) (hW : NetR W g (S.add s 6 1) v l) => own_byte (hW.pks s p hpm) hA hj
  have HFL := Lib.hid fun (W : World) (hW : NetR W g (S.add s 6 1) v l) => net_flip (j := j) hW (fun q => rfl) (by decide) hp hpb (b ^^^ mk)
  have HGP : Hid (NetF g v l gp) := Lib.hid (.inr (.inr ⟨s, p, hpm, hpb⟩))
  clear h hv hp hk hpm hc0 hok hm hj
  unfold actV
  generalize (S.c s).get 6 = cc at *
  cases s
  all_goals
    simp only [idxN, rwayO, rcntO] at *
    simp only [Nat.reduceAdd] at *
    go_enter Try.func39, Try.ntmps39
    go_upto_region 1 with fail
    generalize (w.alloc (.cells #[.int .i64 k, .int .i64 z, .int .i64 i, .int .i64 j, .int .u8 mk.toNat, .slice A n c] 55)).alloc (.cells #[.int .i64 0, .slice none 0 0] 36) = w1 at *
    have a2 : w1.cell? ⟨w.heap.size, 2, none⟩ = some (.int .i64 i) := HST.out.act.cell 2
    have u1 := (HST.out.old.cell (p := ⟨g, _, none⟩) hg).trans u0
    have hb1 := HST.out.res.lt
    have hg1 : g < w1.heap.size := by omega
    go_quiet (fail)
    have HS2 := Lib.hid (HST.out.drewN nq)
    generalize w1.drewN nq = w2 at HS2 ⊢
    clear a2 u1 hb1 hg1
    have u1 := (HS2.out.old.cell (p := ⟨g, _, none⟩) hg).trans u0
    have y0 := (HS2.out.old.cell (p := ⟨gb, _, none⟩) hgb).trans q0
    have y1 := (HS2.out.old.cell (p := ⟨gb, _, none⟩) hgb).trans q1
    have a2 : w2.cell? ⟨w.heap.size, 2, none⟩ = some (.int .i64 i) := HS2.out.act.cell 2
    have hb2 := HS2.out.res.lt
    have hg2 : g < w2.heap.size := by omega
    have hgb2 : gb < w2.heap.size := by omega
    have ha2 : w.heap.size < w2.heap.size := by omega
    have HPK := Lib.hid (HS2.out.withPk p.pk.num (some ⟨gp, 0, none⟩) p.pk.bytes.length p.c)
    go_upto_region 25 with fail
    go_region
    all_goals
      have HF3 := Lib.hid HPK.out.drew
      generalize w2.heap.size = gq at HF3 ⊢
      generalize (w2.alloc _).drew = w3 at HF3 ⊢
      clear u1 q0 q1 y0 y1 a2 hb2 hg2 hgb2 ha2 HPK
      have a3 : w3.cell? ⟨w.heap.size, 3, none⟩ = some (.int .i64 j) := HF3.out.st.act.cell 3
      have a4 : w3.cell? ⟨w.heap.size, 4, none⟩ = some (.int .u8 mk.toNat) := HF3.out.st.act.cell 4
      have p1 : w3.cell? ⟨gq, 1, none⟩ = some (.slice (some ⟨gp, 0, none⟩) p.pk.bytes.length p.c) := HF3.out.pk.cell 1
      have k3 := (HF3.out.st.old.cell (p := ⟨g, _, none⟩) hg).trans k0
      have f3 := (HF3.out.st.old.frozen (p := ⟨g, _, none⟩) hg).trans f0
      have ha3 := HF3.out.st.act.lt
      have hq3 := HF3.out.pk.lt
      have hg3 : g < w3.heap.size := by omega
      go_upto_region 28 with fail
      have HC4 := Lib.hid (HCT.out w3 HF3.out.st)
      go_region
      all_goals
        generalize (w3.setCell _ _).drew = w4 at HC4 ⊢
        have HQ4 := Lib.hid (HC4.out.chg.blk HF3.out.pk (fun hf => by have := H.out.lt hf; have := HF3.out.ge; omega))
        clear p1 k3 f3 ha3 hq3 hg3 a3 a4 k0 f0 u0
        have a3 : w4.cell? ⟨w.heap.size, 3, none⟩ = some (.int .i64 j) := HC4.out.act.cell 3
        have a4 : w4.cell? ⟨w.heap.size, 4, none⟩ = some (.int .u8 mk.toNat) := HC4.out.act.cell 4
        have p1 : w4.cell? ⟨gq, 1, none⟩ = some (.slice (some ⟨gp, 0, none⟩) p.pk.bytes.length p.c) := HQ4.out.cell 1
        have p0 : w4.cell? ⟨gq, 0, none⟩ = some (.int .i64 p.pk.num) := HQ4.out.cell 0
        have x0 := (HBY.out w4 HC4.out.net).1
        have x1 := (HBY.out w4 HC4.out.net).2
        have hgp4 : gp < w4.heap.size := by have := HC4.out.net.lt HGP.out; omega
        have hq4 := HQ4.out.lt
        have ha4 := HC4.out.act.lt
        have HFL4 := Lib.hid (HFL.out w4 HC4.out.net)
        go_upto_region 29 with fail
        go_region
        all_goals
          rw [show b.toNat ^^^ mk.toNat = (b ^^^ mk).toNat from (UInt8.toNat_xor b mk).symm]
          have HC5 : Hid (Chg (NetF g v l) w4 (w4.setCell ⟨gp, j, none⟩ (bv (b ^^^ mk))).drew) := Lib.hid ((Chg.refl _ w4).setCell (p := ⟨gp, j, none⟩) (fun _ => HGP.out) _).drew
          have HN5 := Lib.hid (HFL4.out.1.below (Below.refl _ _).drew)
          unfold bv at HC5 HN5
          have HPO : Hid (RdB (w4.setCell ⟨gp, j, none⟩ (.int .u8 ((b ^^^ mk).toNat : Int))).drew (w4.setCell ⟨gp, j, none⟩ (.int .u8 ((b ^^^ mk).toNat : Int))).drew.heap.size (some ⟨gp, 0, none⟩) p.pk.bytes.length (p.pk.bytes.set j (b ^^^ mk))) := Lib.hid (rd_flip HFL4.out.2.2 hA)
          generalize (w4.setCell _ _).drew = w5 at HC5 HN5 HPO ⊢
          have hgp5 := HC5.out.blk HQ4.out (fun hf => by have := H.out.lt hf; have := HF3.out.ge; omega)
          have p2 : w5.cell? ⟨gq, 1, none⟩ = some (.slice (some ⟨gp, 0, none⟩) p.pk.bytes.length p.c) := hgp5.cell 1
          have p3 : w5.cell? ⟨gq, 0, none⟩ = some (.int .i64 p.pk.num) := hgp5.cell 0
          have hq5 := hgp5.lt
          have HT := Lib.hid (twin_any p.pk.num (some ⟨gp, 0, none⟩) p.pk.bytes.length p.c w5.heap.size (p.pk.bytes.set j (b ^^^ mk)) w5 HPO.out (Nat.le_refl _) (by rw [List.length_set]; exact hbl))
          clear a3 a4 p1 p0 x0 x1 hgp4 hq4 ha4 hgp5
          go_wp2_with fail
          refine HT.out.mono ?_
          rintro e w6 ⟨A2, c2, rfl, ho6, hb6⟩
          have HD := Lib.hid (HC4.out.done HF3.out.st H.out (HN5.out.below hb6) (fun k hk => .inl (HFL4.out.2.1 k hk)) (HC5.out.trans (Chg.of_below hb6 (fun _ => False)) (fun _ _ h => h.elim)) (OwnQ.new ho6 (by have := HC5.out.size; have := HC4.out.size; have := HF3.out.st.old.size; omega)) 0 (num := p.pk.num))
          rw [List.length_set] at HD
          clear ho6 hb6 p2 p3 hq5
          have r0 := HD.out.1.cell 0
          have r1 := HD.out.1.cell 1
          have s0 := HD.out.1.frozen 0
          have s1 := HD.out.1.frozen 1
          have hb7 := HD.out.1.lt
          go_wp2
          clear r0 r1 s0 s1
          have t0 := HD.out.2.1.cell 0
          have t1 := HD.out.2.1.cell 1
          exact bodyPost_ret (v := .tuple #[.agg #[.int .i64 p.pk.num, .slice A2 p.pk.bytes.length c2], .int .i64 0]) (by simp [results, Try.results39, go_sem, t0, t1]) rfl HD.out.2.2
end Go.Proofs.Ytbkgphmocjjmmaa
