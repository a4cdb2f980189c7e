/-
  The walk of Receive. No statement of the seat is proved here.
-/
import Derived.Test.YtjhkfpemcplaaaaClL
namespace Go.Proofs.Ytjhkfpemcplaaaa
open Go.RowKit

theorem PkRow.chg {w w' : World} {base : Nat} {V : Value} {qs : List (Pk × Option Addr × Nat)} {F : Nat → Prop} (h : PkRow w base V qs) (hc : Chg F w w') (hn : ∀ k, (V.ownBlock = some k ∨ ∃ q ∈ qs, (Value.slice q.2.1 q.1.body.length q.2.2).ownBlock = some k) → ¬ F k) : PkRow w' base V qs :=
  ⟨own_chg h.1 hc fun k hk => hn k (.inl hk), fun q hq => own_chg (h.2 q hq) hc fun k hk => hn k (.inr ⟨q, hq, hk⟩)⟩
def tkB (V : Value) (qs : List (Pk × Option Addr × Nat)) (k : Nat) : Prop := V.ownBlock = some k ∨ ∃ q ∈ qs, (Value.slice q.2.1 q.1.body.length q.2.2).ownBlock = some k
theorem PkRow.lt {w : World} {base : Nat} {V : Value} {qs : List (Pk × Option Addr × Nat)} (h : PkRow w base V qs) {k : Nat} (hk : tkB V qs k) : base ≤ k ∧ k < w.heap.size := by
  rcases hk with e | ⟨q, hq, e⟩
  · exact World.ownsRow.lt h.1 k e
  · exact World.ownsRow.lt (h.2 q hq) k e
/-- between two packets -/
structure RcS (base : Nat) (w : World) (p : Pa) (N M : Nat) (c0 : Cl) (TV : Value) (qs : List (Pk × Option Addr × Nat)) (i : Nat) (V : Value) (p1 : Pa) (c1 : Cl) (L : List (QX (List UInt8))) (acc : List Pk) (wr : World) : Prop where
  st : Stp base w p M c1 p1 wr
  ok : c1.Ok (N + i)
  out : RowK kB w.heap.size wr V L
  is : L.map (·.1) = acc.map frm
  ap : ∀ k, (V.ownBlock = some k ∨ kB.inB L k) → ¬ CF p1 k
  told : PkRow wr w.heap.size TV qs
  tap : ∀ k, tkB TV qs k → ¬ CF p1 k
  tao : ∀ k, tkB TV qs k → V.ownBlock ≠ some k
  law : packsF c0 (qs.map (·.1)) = (acc ++ (packsF c1 ((qs.drop i).map (·.1))).1, (packsF c1 ((qs.drop i).map (·.1))).2)
section
variable {base N M i : Nat} {w wr w2 : World} {p p1 : Pa} {c0 c1 : Cl} {TV V : Value} {qs : List (Pk × Option Addr × Nat)} {L : List (QX (List UInt8))} {acc : List Pk}
theorem RcS.below (h : RcS base w p N M c0 TV qs i V p1 c1 L acc wr) (hb : Below wr.heap.size wr w2) : RcS base w p N M c0 TV qs i V p1 c1 L acc w2 :=
  ⟨h.st.below hb, h.ok, h.out.below hb, h.is, h.ap, h.told.below hb, h.tap, h.tao, h.law⟩
/-- a packet that does nothing -/
theorem RcS.skip (h : RcS base w p N M c0 TV qs i V p1 c1 L acc wr) {q : Pk × Option Addr × Nat} (hq : qs[i]? = some q) (ho : c1.over = false) (hp : packF c1 q.1 = ([], c1)) : RcS base w p N M c0 TV qs (i + 1) V p1 c1 L acc wr := by
  refine ⟨h.st, h.ok.mono (by omega), h.out, h.is, h.ap, h.told, h.tap, h.tao, ?_⟩
  have hi : i < qs.length := (List.getElem?_eq_some_iff.1 hq).1
  have hd : qs.drop i = q :: qs.drop (i + 1) := by
    rw [List.drop_eq_getElem_cons hi]
    congr 1
    rw [List.getElem?_eq_getElem hi] at hq
    exact Option.some.inj hq
  rw [h.law, hd, List.map_cons, packsF, if_neg (by rw [ho]; decide), hp]
  simp
/-- a packet's answer, ahead of the append -/
theorem RcS.met (h : RcS base w p N M c0 TV qs i V p1 c1 L acc wr) {q : Pk} {e : Ending} (hm : MetP base wr p1 (packF c1 q) e w2) : ∃ v l p2, e = .returned v ∧ Stp base w p M (packF c1 q).2 p2 w2 ∧ RowK kB w.heap.size w2 V L ∧ RowK kB w.heap.size w2 v l ∧ l.map (·.1) = (packF c1 q).1.map frm ∧ (∀ k, (V.ownBlock = some k ∨ kB.inB L k) → ¬ CF p2 k) ∧
    (∀ k, (v.ownBlock = some k ∨ kB.inB l k) → ¬ CF p2 k) ∧ PkRow w2 w.heap.size TV qs ∧ (∀ k, tkB TV qs k → ¬ CF p2 k) := by
  obtain ⟨v, l, p2, he, hs, hf⟩ := hm
  have hsz := h.st.chg.size
  refine ⟨v, l, p2, he, ?_, h.out.chg hs.chg h.ap, hf.row.rebase hsz, hf.is, fun k hk hc => ?_, hf.ap, h.told.chg hs.chg h.tap, fun k hk hc => ?_⟩
  · have := h.st.trans hs
    simpa using this
  · rcases hs.sub k hc with e1 | e1
    · exact h.ap k hk e1
    · have := (h.out.lt hk).2; omega
  · rcases hs.sub k hc with e1 | e1
    · exact h.tap k hk e1
    · have := (h.told.lt hk).2; omega
/-- behind the append -/
theorem RcS.push {v V' : Value} {l : List (QX (List UInt8))} {p2 : Pa} {w3 : World} (h : RcS base w p N M c0 TV qs i V p1 c1 L acc wr) {q : Pk × Option Addr × Nat} (hq : qs[i]? = some q) (hqk : okPk q.1) (ho : c1.over = false)
    (hs : Stp base w p M (packF c1 q.1).2 p2 w2) (hV : RowK kB w.heap.size w2 V L) (hv : RowK kB w.heap.size w2 v l) (hl : l.map (·.1) = (packF c1 q.1).1.map frm) (hVa : ∀ k, (V.ownBlock = some k ∨ kB.inB L k) → ¬ CF p2 k) (hva : ∀ k, (v.ownBlock = some k ∨ kB.inB l k) → ¬ CF p2 k)
    (ht : PkRow w2 w.heap.size TV qs) (hta : ∀ k, tkB TV qs k → ¬ CF p2 k) (hr : w3.ownsRow w.heap.size kB.t kB.size V' (L.length + l.length) (kB.flat L ++ kB.flat l)) (hg : w2.grownBy w3 V.ownBlock) (hv' : V'.ownBlock = V.ownBlock ∨ V'.ownBlock = some w2.heap.size) :
    RcS base w p N M c0 TV qs (i + 1) V' p2 (packF c1 q.1).2 (L ++ l) (acc ++ (packF c1 q.1).1) w3 := by
  have hc : Chg (fun k => V.ownBlock = some k) w2 w3 := Chg.of_grown hg fun k e => e
  refine ⟨⟨hs.ca.chg hc fun k hk e => hVa k (.inl e) hk, hs.g, hs.sub, hs.chg.trans hc fun k hk e => ?_, hs.d⟩, packF_ok h.ok hqk.2.1 hqk.2.2.1, hV.append hv (by decide) hr hg, by rw [List.map_append, h.is, hl, List.map_append], fun k hk hcf => ?_, ht.chg hc fun k hk e => h.tao k hk e, hta, fun k hk e => ?_, ?_⟩
  · have := (hV.lt (.inl e)).1; omega
  · have hcl := (hs.ca.lt hcf).2
    rcases hk with e | ⟨x, hx, e⟩
    · rcases hv' with h1 | h1
      · exact hVa k (.inl (by rw [← h1]; exact e)) hcf
      · rw [h1] at e; injection e with e; omega
    · rcases List.mem_append.1 hx with h1 | h1
      · exact hVa k (.inr ⟨x, h1, e⟩) hcf
      · exact hva k (.inr ⟨x, h1, e⟩) hcf
  · rcases hv' with h1 | h1
    · exact h.tao k hk (by rw [← h1]; exact e)
    · rw [h1] at e; injection e with e
      have := (ht.lt hk).2; omega
  · have hi : i < qs.length := (List.getElem?_eq_some_iff.1 hq).1
    have hd : qs.drop i = q :: qs.drop (i + 1) := by
      rw [List.drop_eq_getElem_cons hi]
      congr 1
      rw [List.getElem?_eq_getElem hi] at hq
      exact Option.some.inj hq
    rw [h.law, hd, List.map_cons, packsF, if_neg (by rw [ho]; decide)]
    simp
end
theorem kB_one (l : List (QX (List UInt8))) : ∀ u ∈ kB.flat l, u.oneCell' = true := by
  intro u hu
  unfold Kd.flat at hu
  obtain ⟨q, _, hq⟩ := List.mem_flatMap.1 hu
  simp [kB, Kd.cells, Kd.val] at hq
  subst hq
  rfl
theorem packF_len {N : Nat} {c : Cl} (ok : c.Ok N) (q : Pk) : (packF c q).1.length ≤ 16 := by
  have hw := ok.wi.2
  unfold packF
  split
  · unfold welF
    split
    · simp
    · split
      · simp
      · simp [Cl.last]; omega
  · split
    · unfold repF
      split
      · simp
      · cases getG q.body with
        | none => simp
        | some r => dsimp only; split <;> simp
    · split
      · unfold evtF
        split
        · simp
        · cases getG q.body with
          | none => simp
          | some r => simp
      · split
        · unfold refF; split <;> simp
        · simp
theorem feed_cnt (b : List UInt8) : (feed b).1.length ≤ b.length ∧ (feed b).2.2 ≤ b.length := by
  obtain ⟨h1, h2⟩ := feed_all b
  have key : ∀ l : List Pk, l.length ≤ (l.map packLen).sum := by
    intro l
    induction l with
    | nil => simp
    | cons x l ih =>
      have : 1 ≤ packLen x := by unfold packLen packB; rw [frame_len]; omega
      simp only [List.map_cons, List.sum_cons, List.length_cons]
      omega
  have := key (feed b).1
  omega
theorem Stp.more {base m m' : Nat} {w w' : World} {p p' : Pa} {c' : Cl} (h : Stp base w p m c' p' w') (hm : m ≤ m') : Stp base w p m' c' p' w' := ⟨h.ca, h.g, h.sub, h.chg, by have := h.d; omega⟩
theorem zero121 (w : World) : (zeroValue 121).run Try.prog w = .ok .nilFunc w := by kernel_rfl
set_option maxRecDepth 20000 in
set_option maxHeartbeats 8000000 in
theorem receive_any {base N : Nat} {p : Pa} {c : Cl} {w : World} (A : Option Addr) (nc cc : Nat) (chunk : List UInt8) (h : CA base w p c) (ok : c.Ok N) (hN : N ≤ 2199023255552) (hr : RdB w w.heap.size A nc chunk) (hnc : nc ≤ 1073741824) (hd : p.d ≤ 1152921504606846976) :
    Calls Try.prog 22 #[.pointer (some ⟨p.g, 0, none⟩), .slice A nc cc] w (AnsP base w p (nc + 1088) (recvF c chunk).2 (recvF c chunk).1 fun v => v) := by
  have c0 : w.cell? ⟨p.g, 0, none⟩ = some (.int .u64 (c.nonce : Int)) := h.cells 0
  have c3 : w.cell? ⟨p.g, 3, none⟩ = some (.pointer (some ⟨p.r, 0, none⟩)) := h.cells 3
  have c8 : w.cell? ⟨p.g, 8, none⟩ = some (.bool c.conn) := h.cells 8
  have HM := Lib.hid (made_at p.g c.nonce w c0)
  have d1 : decide (1 ≤ c.nonce) = true := by simpa using ok.no.1
  rw [d1] at HM
  have hbs : base ≤ w.heap.size := by have := (h.lt (k := p.g) (.inl rfl)); omega
  have hkl := ok.kp
  have hlen : chunk.length = nc := hr.len1
  have HFD := Lib.hid (feeds_any p.r base w.heap.size p.kv c.kept p.d A nc cc chunk w h.rd h.kp hbs hr (by omega) h.dr hd)
  have HC := Lib.hid h
  have HOK := Lib.hid ok
  have hg := h.blk.lt
  have HLEN := Lib.hid hlen
  clear h ok d1 c0 hr hlen
  cases hcn : c.conn with
  | false =>
    have HF : Hid (recvF c chunk = ([], c)) := Lib.hid (by unfold recvF; rw [if_pos hcn])
    rw [hcn] at c8
    rw [HF.out]
    go_enter Try.func22, Try.ntmps22
    go_wp2_with (go_at_call 43; refine HM.out.mono ?_; rintro e w2 ⟨rfl, rfl⟩)
    go_ret
    exact ⟨_, [], p, rfl, Stp.refl HC.out _, Frs.nil _ _ _⟩
  | true =>
    rw [hcn] at c8
    obtain ⟨F, hF⟩ : ∃ F, feed (c.kept ++ chunk) = F := ⟨_, rfl⟩
    have HF : Hid (recvF c chunk = packsF { c with kept := F.2.1 } F.1) := Lib.hid (by unfold recvF; rw [if_neg (by rw [hcn]; decide), hF])
    have hcnt := feed_cnt (c.kept ++ chunk)
    have hall := (feed_all (c.kept ++ chunk)).2
    have hlt := feed_lt (c.kept ++ chunk)
    rw [hF] at hcnt hall hlt HFD
    rw [List.length_append, HLEN.out] at hcnt
    have hok0 : ({ c with kept := F.2.1 } : Cl).Ok N := ⟨HOK.out.no, HOK.out.wi, HOK.out.pa, HOK.out.bl, HOK.out.bs, HOK.out.rp, HOK.out.rl, HOK.out.is, HOK.out.tk, HOK.out.ev, HOK.out.el, HOK.out.wt, hlt⟩
    obtain ⟨cK, hcK⟩ : ∃ cK : Cl, ({ c with kept := F.2.1 } : Cl) = cK := ⟨_, rfl⟩
    have HFED := Lib.hid fun (w2 : World) (K' : Value) (M : Nat) hb ho hM hg => CA.fed HC.out (w' := w2) (K' := K') (M := M) (kept := F.2.1) (n := F.2.2) hb ho hM hg
    rw [hcK] at hok0 HF HFED
    have HO0 := Lib.hid hok0
    have HALL := Lib.hid hall
    clear hok0 hall hlt hF hcK
    go_enter Try.func22, Try.ntmps22
    go_upto_region 4 with (go_at_call 43; refine HM.out.mono ?_; rintro e w2 ⟨rfl, rfl⟩)
    go_upto_block 0 with (go_at_call 53; refine HFD.out.mono ?_; rintro e w2 ⟨TV, qs, K', M, rfl, hqs, htold, hrd, hown, hM1, hM2, hqM, hG⟩; obtain ⟨TA, tc, rfl, _⟩ := htold.len; have HQS := Lib.hid hqs; have HTOLD := Lib.hid htold; have HST := Lib.hid (HFED.out w2 K' M hrd hown hM1 hG); have HOWN := Lib.hid hown; have HQM := Lib.hid hqM; clear hqs htold hrd hown hqM hG)
    have hql : qs.length ≤ nc + 1088 := by
      have := congrArg List.length HQS.out
      rw [List.length_map] at this
      omega
    have hS0 : RcS base w p N (nc + 1088) cK (.slice TA qs.length tc) qs 0 (.slice none 0 0) { p with kv := K', d := p.d + (F.2.2 : Nat) } cK [] [] w2 := by
      refine ⟨HST.out.more (by omega), HO0.out, RowK.nil _ _ _, rfl, fun k hk => ?_, HTOLD.out, fun k hk hc => ?_, fun k _ e => by simp [Value.ownBlock] at e, by simp⟩
      · rcases hk with e | ⟨x, hx, _⟩
        · simp [Value.ownBlock] at e
        · cases hx
      · have h1 := (HTOLD.out.lt hk).1
        have low : CF p k → False := fun hcp => by have := (HC.out.lt hcp).2; omega
        rcases hc with e | e | e | e
        · exact low (.inl e)
        · exact low (.inr (.inl e))
        · rcases hk with e2 | ⟨x, hx, e2⟩
          · exact own_apart HTOLD.out.1 HOWN.out (by decide) k e2 e
          · have h3 := (World.ownsRow.lt HOWN.out k e).1
            have h4 := HQM.out x hx k e2
            omega
        · exact low (.inr (.inr (.inr e)))
    have HS0 := Lib.hid hS0
    generalize ({ p with kv := K', d := p.d + (F.2.2 : Nat) } : Pa) = pK at hS0 HS0
    clear hS0 HST HOWN HQM HFED HFD HM HTOLD c3 c8 hg
    obtain ⟨i0, hi, hz0, hz1, hz2⟩ := info_parts info37
    have z39 : ∀ w : World, (zeroValue 39).run Try.prog w = .ok (.agg #[.int .i64 0, .int .u64 0, .int .u64 0, .int .u64 0, .slice none 0 0]) w := fun w => by kernel_rfl
    have HEND : Hid (∀ (i : Nat) (V : Value) (p1 : Pa) (c1 : Cl) (L : List (QX (List UInt8))) (acc : List Pk) (wr : World), RcS base w p N (nc + 1088) cK (.slice TA qs.length tc) qs i V p1 c1 L acc wr → (c1.over = true ∨ i = qs.length) → AnsP base w p (nc + 1088) (recvF c chunk).2 (recvF c chunk).1 (fun v => v) (.returned V) wr) := Lib.hid (by
      intro i V p1 c1 L acc wr hx hov
      have h1 : packsF c1 ((qs.drop i).map (·.1)) = ([], c1) := by
        rcases hov with e | e
        · cases (qs.drop i).map (·.1) with
          | nil => rfl
          | cons a r => rw [packsF, if_pos e]
        · subst e
          rw [List.drop_length]
          rfl
      have h2 := hx.law
      rw [h1, HQS.out, List.append_nil] at h2
      rw [HF.out, h2]
      exact ⟨V, L, p1, rfl, hx.st, hx.out, hx.is, hx.ap⟩)
    clear HF hcnt hkl
    go_wp2
    go_loopw [5, 27] (fun V k wr => ∃ (i : Nat) (p1 : Pa) (c1 : Cl) (L : List (QX (List UInt8))) (acc : List Pk), i ≤ qs.length ∧ k = .int .i64 (i : Int) ∧ acc.length ≤ 16 * i ∧ RcS base w p N (nc + 1088) cK (.slice TA qs.length tc) qs i V p1 c1 L acc wr) (fun _ k _ => qs.length - (intOf k).toNat)
    case atStart => exact ⟨0, _, _, [], [], Nat.zero_le _, rfl, Nat.zero_le _, HS0.out⟩
    case round =>
      obtain ⟨i, p1, c1, L, acc, hi9, rfl, hacc, hx⟩ := hrel
      have HX := Lib.hid hx
      obtain ⟨AV, cV, rfl, _, _⟩ := hx.out.form
      clear hx HS0
      by_cases hlt : i < qs.length
      · obtain ⟨b, o, q, rfl, hq, e0, e1, e2, e3, e4⟩ := (PkRow.prd HX.out.told).2.at5 hlt
        have hbw : b < wr.heap.size := World.block_lt_of_cell? _ _ e0
        have hqm := List.mem_of_getElem? hq
        have hqk : okPk q.1 := HALL.out q.1 (by rw [← HQS.out]; exact List.mem_map_of_mem hqm)
        have hown := HX.out.told.2 q hqm
        have HQ := Lib.hid hq
        have HQK := Lib.hid hqk
        have hpg : p1.g = p.g := HX.out.st.g
        have HPG := Lib.hid hpg
        have l1 : (0 : Int) ≤ (i : Int) := by omega
        have l2 : (i : Int) < (qs.length : Int) := by omega
        have hcl : q.1.body.length ≤ q.2.2 := by
          obtain ⟨A', c', e, h1, _⟩ := own_formL hown
          injection e with _ _ e3
          omega
        have HRD := Lib.hid ((PkRow.prd HX.out.told).2.2 q hqm)
        obtain ⟨q1, Aq, cq⟩ := q
        dsimp only at e0 e1 e2 e3 e4 HQ HQK hcl HRD
        have HW3 : Hid (Below wr.heap.size wr (wr.alloc (.cells #[.int .i64 (q1.kind : Int), .int .u64 (q1.tok : Int), .int .u64 (q1.seq : Int), .int .u64 (q1.ack : Int), .slice Aq q1.body.length cq] 39))) := Lib.hid ((Below.refl _ _).alloc (Nat.le_refl _) _)
        have HBX := Lib.hid (Blk.new wr 39 #[.int .i64 (q1.kind : Int), .int .u64 (q1.tok : Int), .int .u64 (q1.seq : Int), .int .u64 (q1.ack : Int), .slice Aq q1.body.length cq])
        clear hq hqm hqk hown
        go_upto_region 7 with fail
        have hws : True := trivial
        have HRD3 := Lib.hid ((HRD.out.below HW3.out).more HW3.out.size)
        generalize wr.alloc (.cells #[.int .i64 (q1.kind : Int), .int .u64 (q1.tok : Int), .int .u64 (q1.seq : Int), .int .u64 (q1.ack : Int), .slice Aq q1.body.length cq] 39) = w3 at *
        have hx3 := HX.out.below HW3.out
        have HX3 := Lib.hid hx3
        clear hws
        generalize wr.heap.size = bx at *
        have y14 : w3.cell? ⟨p.g, 14, none⟩ = some (.bool c1.over) := by rw [← hpg]; exact hx3.st.ca.cells 14
        clear e0 e1 e2 e3 e4 hbw hx3
        cases hov : c1.over with
        | true =>
          have HOV := Lib.hid hov
          rw [hov] at y14
          go_wp2
          go_ret
          exact HEND.out _ _ _ _ _ _ _ HX3.out (.inl HOV.out)
        | false =>
          have HOV := Lib.hid hov
          rw [hov] at y14
          have x0 : w3.cell? ⟨bx, 0, none⟩ = some (.int .i64 (q1.kind : Int)) := HBX.out.cell 0
          have HK : Hid (Calls Try.prog 54 #[.pointer (some ⟨p.g, 0, none⟩)] w3.drew fun e w' => ∃ mb, e = .returned (.map (some mb)) ∧ MapI .i64 w' mb (kF p.g) ∧ Below w3.heap.size w3 w') := Lib.hid ((kinds_any p.g w3.drew).mono fun e w' ⟨h1, h2, h3⟩ => ⟨_, h1, h2, ⟨h3.os, h3.tape, h3.output, h3.size, h3.block⟩⟩)
          have hbxw := HBX.out.lt
          have HMET := Lib.hid fun (w5 : World) (hb5 : Below w3.heap.size w3 w5) => met_any q1 Aq cq (HX3.out.below hb5).st.ca HX3.out.ok (by omega) ((HRD3.out.below hb5).more hb5.size) hcl HQK.out
          rw [hpg] at HMET
          go_upto_region 8 with fail
          by_cases hk2 : q1.kind = 2
          · have HMK := Lib.hid fun (w5 : World) (hb5 : Below w3.heap.size w3 w5) => (HMET.out w5 hb5).1 hk2
            have hkk : (q1.kind : Int) = 2 := by rw [hk2]; rfl
            rw [hkk] at x0
            unfold pkV at HMK
            rw [hkk] at HMK
            have HB0 := Lib.hid HBX.out
            rw [hkk] at HB0
            have HPL := Lib.hid (packF_len HX3.out.ok q1)
            clear hk2 hkk HMET
            have hS : w3.drew.cell? ⟨bx, 0, none⟩ = some (.int .i64 2) := x0
            refine wp_region_held_drew (S := fun W => W.cell? ⟨bx, 0, none⟩ = some (.int .i64 2)) (by kernel_rfl) hS (fun hHeld => ?_)
            refine wpAnyH_take (i := 0) (v := ?_) (by simp only [List.getElem?_toArray, List.getElem?_cons_zero]; rfl) (by kernel_rfl) (by kernel_rfl) (by kernel_rfl) (by exact fun _ _ _ h => h) (Or.inl ⟨by rfl, ?_⟩) (by assumption) ?_
            rotate_left
            · intro w hSw; (try dsimp only at hSw); go_split_ands; go_simp <;> with_reducible rfl
            try simp only [Act.put, List.setIfInBounds_toArray, List.set_cons_zero, List.set_cons_succ]
            refine wpAnyH_take (i := 2) (v := ?_) (by simp only [List.getElem?_toArray, List.getElem?_cons_succ, List.getElem?_cons_zero]; rfl) (by kernel_rfl) (by kernel_rfl) (by kernel_rfl) (by exact fun _ _ _ h => h) (Or.inl ⟨by rfl, ?_⟩) (by assumption) ?_
            rotate_left
            · intro w hSw; (try dsimp only at hSw); go_split_ands; go_simp <;> with_reducible rfl
            try simp only [Act.put, List.setIfInBounds_toArray, List.set_cons_zero, List.set_cons_succ]
            refine wpAnyH_take (i := 3) (v := ?_) (by simp only [List.getElem?_toArray, List.getElem?_cons_succ, List.getElem?_cons_zero]; rfl) (by kernel_rfl) (by kernel_rfl) (by kernel_rfl) (by exact fun _ _ _ h => h) (Or.inl ⟨by rfl, ?_⟩) (by assumption) ?_
            rotate_left
            · intro w hSw; (try dsimp only at hSw); go_split_ands; go_simp <;> with_reducible rfl
            try simp only [Act.put, List.setIfInBounds_toArray, List.set_cons_zero, List.set_cons_succ]
            refine wpAnyH_ready (rs := [1]) (by kernel_rfl) (by simp) ?_
            refine AllReadyH.cons (by simp only [List.getElem?_toArray, List.getElem?_cons_succ, List.getElem?_cons_zero]; rfl) (fun K hK => ?_) AllReadyH.nil
            go_simp
            go_at_call 54
            refine HK.out.mono ?_
            rintro e w4 ⟨mb, rfl, hm4, hb4⟩
            have HB4 := Lib.hid hb4
            have hlk : (Instr.lookup 122 (.map (some mb)) (.int .i64 2) false).run Try.prog w4 = .ok (.func (.func 77) #[.pointer (some ⟨p.g, 0, none⟩)] #[]) w4 := by (have h := run_lookupI (z0 := .nilFunc) Try.underlying122 Try.underlying36 zero121 hm4 2; exact h)
            have hS4 := (hb4.cell (p := ⟨bx, 0, none⟩) hbxw).trans x0
            clear hb4 hm4
            try go_simp
            refine hK.out _ _ (hS4) (fun hHeld => ?_)
            clear hK K
            try simp only [Act.put, List.setIfInBounds_toArray, List.set_cons_zero, List.set_cons_succ]
            refine wpAnyH_ready (rs := [4]) (by kernel_rfl) (by simp) ?_
            refine AllReadyH.cons (by simp only [List.getElem?_toArray, List.getElem?_cons_succ, List.getElem?_cons_zero]; rfl) (fun K hK => ?_) AllReadyH.nil
            go_simp
            refine hK.out _ _ (hHeld) (fun hHeld => ?_)
            clear hK K
            try simp only [Act.put, List.setIfInBounds_toArray, List.set_cons_zero, List.set_cons_succ]
            refine wpAnyH_ready (rs := [5]) (by kernel_rfl) (by simp) ?_
            refine AllReadyH.cons (by simp only [List.getElem?_toArray, List.getElem?_cons_succ, List.getElem?_cons_zero]; rfl) (fun K hK => ?_) AllReadyH.nil
            go_simp
            refine hK.out _ _ (hHeld) (fun hHeld => ?_)
            clear hK K
            try simp only [Act.put, List.setIfInBounds_toArray, List.set_cons_zero, List.set_cons_succ]
            refine wpAnyH_done (by kernel_rfl) ?_ _
            have hb4x := HB0.out.below HB4.out hbxw
            have u0 : w4.cell? ⟨bx, 0, none⟩ = some (.int .i64 2) := hb4x.cell 0
            have u1 : w4.cell? ⟨bx, 1, none⟩ = some (.int .u64 (q1.tok : Int)) := hb4x.cell 1
            have u2 : w4.cell? ⟨bx, 2, none⟩ = some (.int .u64 (q1.seq : Int)) := hb4x.cell 2
            have u3 : w4.cell? ⟨bx, 3, none⟩ = some (.int .u64 (q1.ack : Int)) := hb4x.cell 3
            have u4 : w4.cell? ⟨bx, 4, none⟩ = some (.slice Aq q1.body.length cq) := hb4x.cell 4
            have HX4 := Lib.hid (HX3.out.below HB4.out)
            clear hb4x hS x0 y14 HB0
            have hne : ∀ w : World, (binOp BinOp.neq 121 (.func (.func 77) #[.pointer (some ⟨p.g, 0, none⟩)] #[]) .nilFunc).run Try.prog w = .ok (.bool true) w := fun w => by kernel_rfl
            go_upto_region 11 with (first
              | (go_at_call 77; refine (HMK.out _ HB4.out).mono ?_; intro e w5 hm5; obtain ⟨v5, l5, p2, rfl, s1, s2, s3, s4, s5, s6, s7, s8⟩ := HX4.out.met hm5; obtain ⟨A5, c5, rfl, _, _⟩ := s3.form; have S1 := Lib.hid s1; have S2 := Lib.hid s2; have S3 := Lib.hid s3; have S4 := Lib.hid s4; have S5 := Lib.hid s5; have S6 := Lib.hid s6; have S7 := Lib.hid s7; have S8 := Lib.hid s8; have hw5 : w.heap.size ≤ w5.heap.size := s1.chg.size; have hll : L.length + l5.length ≤ 16 * (i + 1) := (by have h1 := congrArg List.length HX4.out.is; have h2 := congrArg List.length s4; rw [List.length_map, List.length_map] at h1 h2; have h3 := HPL.out; omega); clear s1 s2 s3 s4 s5 s6 s7 s8 hm5)
              | (at_builtin; refine wpList_append_any _ rfl (.tmp 43) (.tmp 46) 31 rfl w.heap.size 37 i0 _ 1 24 Try.underlying31 hi hz0 hz1 hz2 rfl (by decide) (.slice AV L.length cV) L.length (kB.flat L) rfl S2.out.row _ A5 l5.length c5 (kB.flat l5) rfl (Reads.of_own S3.out.row) (kB_one _) (by simp only [maxLen]; omega) (by omega) hw5 ?_; intro v7 w7 hr7 hg7 hv7; have HR7 := Lib.hid hr7; have HG7 := Lib.hid hg7; have HV7 := Lib.hid hv7; clear hr7 hg7 hv7))
            go_wp2
            go_roundw
            case rel => exact ⟨i + 1, p2, _, L ++ l5, acc ++ (packF c1 q1).1, by omega, by go_num, by rw [List.length_append]; have := HPL.out; omega, HX4.out.push HQ.out HQK.out HOV.out S1.out S2.out S3.out S4.out S5.out S6.out S7.out S8.out HR7.out HG7.out HV7.out⟩
            case measure => simp [intOf]; omega
          by_cases hk4 : q1.kind = 4
          · have HMK := Lib.hid fun (w5 : World) (hb5 : Below w3.heap.size w3 w5) => (HMET.out w5 hb5).2.1 hk4
            have hkk : (q1.kind : Int) = 4 := by rw [hk4]; rfl
            rw [hkk] at x0
            unfold pkV at HMK
            rw [hkk] at HMK
            have HB0 := Lib.hid HBX.out
            rw [hkk] at HB0
            have HPL := Lib.hid (packF_len HX3.out.ok q1)
            clear hk4 hkk HMET
            have hS : w3.drew.cell? ⟨bx, 0, none⟩ = some (.int .i64 4) := x0
            refine wp_region_held_drew (S := fun W => W.cell? ⟨bx, 0, none⟩ = some (.int .i64 4)) (by kernel_rfl) hS (fun hHeld => ?_)
            refine wpAnyH_take (i := 0) (v := ?_) (by simp only [List.getElem?_toArray, List.getElem?_cons_zero]; rfl) (by kernel_rfl) (by kernel_rfl) (by kernel_rfl) (by exact fun _ _ _ h => h) (Or.inl ⟨by rfl, ?_⟩) (by assumption) ?_
            rotate_left
            · intro w hSw; (try dsimp only at hSw); go_split_ands; go_simp <;> with_reducible rfl
            try simp only [Act.put, List.setIfInBounds_toArray, List.set_cons_zero, List.set_cons_succ]
            refine wpAnyH_take (i := 2) (v := ?_) (by simp only [List.getElem?_toArray, List.getElem?_cons_succ, List.getElem?_cons_zero]; rfl) (by kernel_rfl) (by kernel_rfl) (by kernel_rfl) (by exact fun _ _ _ h => h) (Or.inl ⟨by rfl, ?_⟩) (by assumption) ?_
            rotate_left
            · intro w hSw; (try dsimp only at hSw); go_split_ands; go_simp <;> with_reducible rfl
            try simp only [Act.put, List.setIfInBounds_toArray, List.set_cons_zero, List.set_cons_succ]
            refine wpAnyH_take (i := 3) (v := ?_) (by simp only [List.getElem?_toArray, List.getElem?_cons_succ, List.getElem?_cons_zero]; rfl) (by kernel_rfl) (by kernel_rfl) (by kernel_rfl) (by exact fun _ _ _ h => h) (Or.inl ⟨by rfl, ?_⟩) (by assumption) ?_
            rotate_left
            · intro w hSw; (try dsimp only at hSw); go_split_ands; go_simp <;> with_reducible rfl
            try simp only [Act.put, List.setIfInBounds_toArray, List.set_cons_zero, List.set_cons_succ]
            refine wpAnyH_ready (rs := [1]) (by kernel_rfl) (by simp) ?_
            refine AllReadyH.cons (by simp only [List.getElem?_toArray, List.getElem?_cons_succ, List.getElem?_cons_zero]; rfl) (fun K hK => ?_) AllReadyH.nil
            go_simp
            go_at_call 54
            refine HK.out.mono ?_
            rintro e w4 ⟨mb, rfl, hm4, hb4⟩
            have HB4 := Lib.hid hb4
            have hlk : (Instr.lookup 122 (.map (some mb)) (.int .i64 4) false).run Try.prog w4 = .ok (.func (.func 78) #[.pointer (some ⟨p.g, 0, none⟩)] #[]) w4 := by (have h := run_lookupI (z0 := .nilFunc) Try.underlying122 Try.underlying36 zero121 hm4 4; exact h)
            have hS4 := (hb4.cell (p := ⟨bx, 0, none⟩) hbxw).trans x0
            clear hb4 hm4
            try go_simp
            refine hK.out _ _ (hS4) (fun hHeld => ?_)
            clear hK K
            try simp only [Act.put, List.setIfInBounds_toArray, List.set_cons_zero, List.set_cons_succ]
            refine wpAnyH_ready (rs := [4]) (by kernel_rfl) (by simp) ?_
            refine AllReadyH.cons (by simp only [List.getElem?_toArray, List.getElem?_cons_succ, List.getElem?_cons_zero]; rfl) (fun K hK => ?_) AllReadyH.nil
            go_simp
            refine hK.out _ _ (hHeld) (fun hHeld => ?_)
            clear hK K
            try simp only [Act.put, List.setIfInBounds_toArray, List.set_cons_zero, List.set_cons_succ]
            refine wpAnyH_ready (rs := [5]) (by kernel_rfl) (by simp) ?_
            refine AllReadyH.cons (by simp only [List.getElem?_toArray, List.getElem?_cons_succ, List.getElem?_cons_zero]; rfl) (fun K hK => ?_) AllReadyH.nil
            go_simp
            refine hK.out _ _ (hHeld) (fun hHeld => ?_)
            clear hK K
            try simp only [Act.put, List.setIfInBounds_toArray, List.set_cons_zero, List.set_cons_succ]
            refine wpAnyH_done (by kernel_rfl) ?_ _
            have hb4x := HB0.out.below HB4.out hbxw
            have u0 : w4.cell? ⟨bx, 0, none⟩ = some (.int .i64 4) := hb4x.cell 0
            have u1 : w4.cell? ⟨bx, 1, none⟩ = some (.int .u64 (q1.tok : Int)) := hb4x.cell 1
            have u2 : w4.cell? ⟨bx, 2, none⟩ = some (.int .u64 (q1.seq : Int)) := hb4x.cell 2
            have u3 : w4.cell? ⟨bx, 3, none⟩ = some (.int .u64 (q1.ack : Int)) := hb4x.cell 3
            have u4 : w4.cell? ⟨bx, 4, none⟩ = some (.slice Aq q1.body.length cq) := hb4x.cell 4
            have HX4 := Lib.hid (HX3.out.below HB4.out)
            clear hb4x hS x0 y14 HB0
            have hne : ∀ w : World, (binOp BinOp.neq 121 (.func (.func 78) #[.pointer (some ⟨p.g, 0, none⟩)] #[]) .nilFunc).run Try.prog w = .ok (.bool true) w := fun w => by kernel_rfl
            go_upto_region 11 with (first
              | (go_at_call 78; refine (HMK.out _ HB4.out).mono ?_; intro e w5 hm5; obtain ⟨v5, l5, p2, rfl, s1, s2, s3, s4, s5, s6, s7, s8⟩ := HX4.out.met hm5; obtain ⟨A5, c5, rfl, _, _⟩ := s3.form; have S1 := Lib.hid s1; have S2 := Lib.hid s2; have S3 := Lib.hid s3; have S4 := Lib.hid s4; have S5 := Lib.hid s5; have S6 := Lib.hid s6; have S7 := Lib.hid s7; have S8 := Lib.hid s8; have hw5 : w.heap.size ≤ w5.heap.size := s1.chg.size; have hll : L.length + l5.length ≤ 16 * (i + 1) := (by have h1 := congrArg List.length HX4.out.is; have h2 := congrArg List.length s4; rw [List.length_map, List.length_map] at h1 h2; have h3 := HPL.out; omega); clear s1 s2 s3 s4 s5 s6 s7 s8 hm5)
              | (at_builtin; refine wpList_append_any _ rfl (.tmp 43) (.tmp 46) 31 rfl w.heap.size 37 i0 _ 1 24 Try.underlying31 hi hz0 hz1 hz2 rfl (by decide) (.slice AV L.length cV) L.length (kB.flat L) rfl S2.out.row _ A5 l5.length c5 (kB.flat l5) rfl (Reads.of_own S3.out.row) (kB_one _) (by simp only [maxLen]; omega) (by omega) hw5 ?_; intro v7 w7 hr7 hg7 hv7; have HR7 := Lib.hid hr7; have HG7 := Lib.hid hg7; have HV7 := Lib.hid hv7; clear hr7 hg7 hv7))
            go_wp2
            go_roundw
            case rel => exact ⟨i + 1, p2, _, L ++ l5, acc ++ (packF c1 q1).1, by omega, by go_num, by rw [List.length_append]; have := HPL.out; omega, HX4.out.push HQ.out HQK.out HOV.out S1.out S2.out S3.out S4.out S5.out S6.out S7.out S8.out HR7.out HG7.out HV7.out⟩
            case measure => simp [intOf]; omega
          by_cases hk5 : q1.kind = 5
          · have HMK := Lib.hid fun (w5 : World) (hb5 : Below w3.heap.size w3 w5) => (HMET.out w5 hb5).2.2.1 hk5
            have hkk : (q1.kind : Int) = 5 := by rw [hk5]; rfl
            rw [hkk] at x0
            unfold pkV at HMK
            rw [hkk] at HMK
            have HB0 := Lib.hid HBX.out
            rw [hkk] at HB0
            have HPL := Lib.hid (packF_len HX3.out.ok q1)
            clear hk5 hkk HMET
            have hS : w3.drew.cell? ⟨bx, 0, none⟩ = some (.int .i64 5) := x0
            refine wp_region_held_drew (S := fun W => W.cell? ⟨bx, 0, none⟩ = some (.int .i64 5)) (by kernel_rfl) hS (fun hHeld => ?_)
            refine wpAnyH_take (i := 0) (v := ?_) (by simp only [List.getElem?_toArray, List.getElem?_cons_zero]; rfl) (by kernel_rfl) (by kernel_rfl) (by kernel_rfl) (by exact fun _ _ _ h => h) (Or.inl ⟨by rfl, ?_⟩) (by assumption) ?_
            rotate_left
            · intro w hSw; (try dsimp only at hSw); go_split_ands; go_simp <;> with_reducible rfl
            try simp only [Act.put, List.setIfInBounds_toArray, List.set_cons_zero, List.set_cons_succ]
            refine wpAnyH_take (i := 2) (v := ?_) (by simp only [List.getElem?_toArray, List.getElem?_cons_succ, List.getElem?_cons_zero]; rfl) (by kernel_rfl) (by kernel_rfl) (by kernel_rfl) (by exact fun _ _ _ h => h) (Or.inl ⟨by rfl, ?_⟩) (by assumption) ?_
            rotate_left
            · intro w hSw; (try dsimp only at hSw); go_split_ands; go_simp <;> with_reducible rfl
            try simp only [Act.put, List.setIfInBounds_toArray, List.set_cons_zero, List.set_cons_succ]
            refine wpAnyH_take (i := 3) (v := ?_) (by simp only [List.getElem?_toArray, List.getElem?_cons_succ, List.getElem?_cons_zero]; rfl) (by kernel_rfl) (by kernel_rfl) (by kernel_rfl) (by exact fun _ _ _ h => h) (Or.inl ⟨by rfl, ?_⟩) (by assumption) ?_
            rotate_left
            · intro w hSw; (try dsimp only at hSw); go_split_ands; go_simp <;> with_reducible rfl
            try simp only [Act.put, List.setIfInBounds_toArray, List.set_cons_zero, List.set_cons_succ]
            refine wpAnyH_ready (rs := [1]) (by kernel_rfl) (by simp) ?_
            refine AllReadyH.cons (by simp only [List.getElem?_toArray, List.getElem?_cons_succ, List.getElem?_cons_zero]; rfl) (fun K hK => ?_) AllReadyH.nil
            go_simp
            go_at_call 54
            refine HK.out.mono ?_
            rintro e w4 ⟨mb, rfl, hm4, hb4⟩
            have HB4 := Lib.hid hb4
            have hlk : (Instr.lookup 122 (.map (some mb)) (.int .i64 5) false).run Try.prog w4 = .ok (.func (.func 79) #[.pointer (some ⟨p.g, 0, none⟩)] #[]) w4 := by (have h := run_lookupI (z0 := .nilFunc) Try.underlying122 Try.underlying36 zero121 hm4 5; exact h)
            have hS4 := (hb4.cell (p := ⟨bx, 0, none⟩) hbxw).trans x0
            clear hb4 hm4
            try go_simp
            refine hK.out _ _ (hS4) (fun hHeld => ?_)
            clear hK K
            try simp only [Act.put, List.setIfInBounds_toArray, List.set_cons_zero, List.set_cons_succ]
            refine wpAnyH_ready (rs := [4]) (by kernel_rfl) (by simp) ?_
            refine AllReadyH.cons (by simp only [List.getElem?_toArray, List.getElem?_cons_succ, List.getElem?_cons_zero]; rfl) (fun K hK => ?_) AllReadyH.nil
            go_simp
            refine hK.out _ _ (hHeld) (fun hHeld => ?_)
            clear hK K
            try simp only [Act.put, List.setIfInBounds_toArray, List.set_cons_zero, List.set_cons_succ]
            refine wpAnyH_ready (rs := [5]) (by kernel_rfl) (by simp) ?_
            refine AllReadyH.cons (by simp only [List.getElem?_toArray, List.getElem?_cons_succ, List.getElem?_cons_zero]; rfl) (fun K hK => ?_) AllReadyH.nil
            go_simp
            refine hK.out _ _ (hHeld) (fun hHeld => ?_)
            clear hK K
            try simp only [Act.put, List.setIfInBounds_toArray, List.set_cons_zero, List.set_cons_succ]
            refine wpAnyH_done (by kernel_rfl) ?_ _
            have hb4x := HB0.out.below HB4.out hbxw
            have u0 : w4.cell? ⟨bx, 0, none⟩ = some (.int .i64 5) := hb4x.cell 0
            have u1 : w4.cell? ⟨bx, 1, none⟩ = some (.int .u64 (q1.tok : Int)) := hb4x.cell 1
            have u2 : w4.cell? ⟨bx, 2, none⟩ = some (.int .u64 (q1.seq : Int)) := hb4x.cell 2
            have u3 : w4.cell? ⟨bx, 3, none⟩ = some (.int .u64 (q1.ack : Int)) := hb4x.cell 3
            have u4 : w4.cell? ⟨bx, 4, none⟩ = some (.slice Aq q1.body.length cq) := hb4x.cell 4
            have HX4 := Lib.hid (HX3.out.below HB4.out)
            clear hb4x hS x0 y14 HB0
            have hne : ∀ w : World, (binOp BinOp.neq 121 (.func (.func 79) #[.pointer (some ⟨p.g, 0, none⟩)] #[]) .nilFunc).run Try.prog w = .ok (.bool true) w := fun w => by kernel_rfl
            go_upto_region 11 with (first
              | (go_at_call 79; refine (HMK.out _ HB4.out).mono ?_; intro e w5 hm5; obtain ⟨v5, l5, p2, rfl, s1, s2, s3, s4, s5, s6, s7, s8⟩ := HX4.out.met hm5; obtain ⟨A5, c5, rfl, _, _⟩ := s3.form; have S1 := Lib.hid s1; have S2 := Lib.hid s2; have S3 := Lib.hid s3; have S4 := Lib.hid s4; have S5 := Lib.hid s5; have S6 := Lib.hid s6; have S7 := Lib.hid s7; have S8 := Lib.hid s8; have hw5 : w.heap.size ≤ w5.heap.size := s1.chg.size; have hll : L.length + l5.length ≤ 16 * (i + 1) := (by have h1 := congrArg List.length HX4.out.is; have h2 := congrArg List.length s4; rw [List.length_map, List.length_map] at h1 h2; have h3 := HPL.out; omega); clear s1 s2 s3 s4 s5 s6 s7 s8 hm5)
              | (at_builtin; refine wpList_append_any _ rfl (.tmp 43) (.tmp 46) 31 rfl w.heap.size 37 i0 _ 1 24 Try.underlying31 hi hz0 hz1 hz2 rfl (by decide) (.slice AV L.length cV) L.length (kB.flat L) rfl S2.out.row _ A5 l5.length c5 (kB.flat l5) rfl (Reads.of_own S3.out.row) (kB_one _) (by simp only [maxLen]; omega) (by omega) hw5 ?_; intro v7 w7 hr7 hg7 hv7; have HR7 := Lib.hid hr7; have HG7 := Lib.hid hg7; have HV7 := Lib.hid hv7; clear hr7 hg7 hv7))
            go_wp2
            go_roundw
            case rel => exact ⟨i + 1, p2, _, L ++ l5, acc ++ (packF c1 q1).1, by omega, by go_num, by rw [List.length_append]; have := HPL.out; omega, HX4.out.push HQ.out HQK.out HOV.out S1.out S2.out S3.out S4.out S5.out S6.out S7.out S8.out HR7.out HG7.out HV7.out⟩
            case measure => simp [intOf]; omega
          by_cases hk6 : q1.kind = 6
          · have HMK := Lib.hid fun (w5 : World) (hb5 : Below w3.heap.size w3 w5) => (HMET.out w5 hb5).2.2.2 hk6
            have hkk : (q1.kind : Int) = 6 := by rw [hk6]; rfl
            rw [hkk] at x0
            unfold pkV at HMK
            rw [hkk] at HMK
            have HB0 := Lib.hid HBX.out
            rw [hkk] at HB0
            have HPL := Lib.hid (packF_len HX3.out.ok q1)
            clear hk6 hkk HMET
            have hS : w3.drew.cell? ⟨bx, 0, none⟩ = some (.int .i64 6) := x0
            refine wp_region_held_drew (S := fun W => W.cell? ⟨bx, 0, none⟩ = some (.int .i64 6)) (by kernel_rfl) hS (fun hHeld => ?_)
            refine wpAnyH_take (i := 0) (v := ?_) (by simp only [List.getElem?_toArray, List.getElem?_cons_zero]; rfl) (by kernel_rfl) (by kernel_rfl) (by kernel_rfl) (by exact fun _ _ _ h => h) (Or.inl ⟨by rfl, ?_⟩) (by assumption) ?_
            rotate_left
            · intro w hSw; (try dsimp only at hSw); go_split_ands; go_simp <;> with_reducible rfl
            try simp only [Act.put, List.setIfInBounds_toArray, List.set_cons_zero, List.set_cons_succ]
            refine wpAnyH_take (i := 2) (v := ?_) (by simp only [List.getElem?_toArray, List.getElem?_cons_succ, List.getElem?_cons_zero]; rfl) (by kernel_rfl) (by kernel_rfl) (by kernel_rfl) (by exact fun _ _ _ h => h) (Or.inl ⟨by rfl, ?_⟩) (by assumption) ?_
            rotate_left
            · intro w hSw; (try dsimp only at hSw); go_split_ands; go_simp <;> with_reducible rfl
            try simp only [Act.put, List.setIfInBounds_toArray, List.set_cons_zero, List.set_cons_succ]
            refine wpAnyH_take (i := 3) (v := ?_) (by simp only [List.getElem?_toArray, List.getElem?_cons_succ, List.getElem?_cons_zero]; rfl) (by kernel_rfl) (by kernel_rfl) (by kernel_rfl) (by exact fun _ _ _ h => h) (Or.inl ⟨by rfl, ?_⟩) (by assumption) ?_
            rotate_left
            · intro w hSw; (try dsimp only at hSw); go_split_ands; go_simp <;> with_reducible rfl
            try simp only [Act.put, List.setIfInBounds_toArray, List.set_cons_zero, List.set_cons_succ]
            refine wpAnyH_ready (rs := [1]) (by kernel_rfl) (by simp) ?_
            refine AllReadyH.cons (by simp only [List.getElem?_toArray, List.getElem?_cons_succ, List.getElem?_cons_zero]; rfl) (fun K hK => ?_) AllReadyH.nil
            go_simp
            go_at_call 54
            refine HK.out.mono ?_
            rintro e w4 ⟨mb, rfl, hm4, hb4⟩
            have HB4 := Lib.hid hb4
            have hlk : (Instr.lookup 122 (.map (some mb)) (.int .i64 6) false).run Try.prog w4 = .ok (.func (.func 80) #[.pointer (some ⟨p.g, 0, none⟩)] #[]) w4 := by (have h := run_lookupI (z0 := .nilFunc) Try.underlying122 Try.underlying36 zero121 hm4 6; exact h)
            have hS4 := (hb4.cell (p := ⟨bx, 0, none⟩) hbxw).trans x0
            clear hb4 hm4
            try go_simp
            refine hK.out _ _ (hS4) (fun hHeld => ?_)
            clear hK K
            try simp only [Act.put, List.setIfInBounds_toArray, List.set_cons_zero, List.set_cons_succ]
            refine wpAnyH_ready (rs := [4]) (by kernel_rfl) (by simp) ?_
            refine AllReadyH.cons (by simp only [List.getElem?_toArray, List.getElem?_cons_succ, List.getElem?_cons_zero]; rfl) (fun K hK => ?_) AllReadyH.nil
            go_simp
            refine hK.out _ _ (hHeld) (fun hHeld => ?_)
            clear hK K
            try simp only [Act.put, List.setIfInBounds_toArray, List.set_cons_zero, List.set_cons_succ]
            refine wpAnyH_ready (rs := [5]) (by kernel_rfl) (by simp) ?_
            refine AllReadyH.cons (by simp only [List.getElem?_toArray, List.getElem?_cons_succ, List.getElem?_cons_zero]; rfl) (fun K hK => ?_) AllReadyH.nil
            go_simp
            refine hK.out _ _ (hHeld) (fun hHeld => ?_)
            clear hK K
            try simp only [Act.put, List.setIfInBounds_toArray, List.set_cons_zero, List.set_cons_succ]
            refine wpAnyH_done (by kernel_rfl) ?_ _
            have hb4x := HB0.out.below HB4.out hbxw
            have u0 : w4.cell? ⟨bx, 0, none⟩ = some (.int .i64 6) := hb4x.cell 0
            have u1 : w4.cell? ⟨bx, 1, none⟩ = some (.int .u64 (q1.tok : Int)) := hb4x.cell 1
            have u2 : w4.cell? ⟨bx, 2, none⟩ = some (.int .u64 (q1.seq : Int)) := hb4x.cell 2
            have u3 : w4.cell? ⟨bx, 3, none⟩ = some (.int .u64 (q1.ack : Int)) := hb4x.cell 3
            have u4 : w4.cell? ⟨bx, 4, none⟩ = some (.slice Aq q1.body.length cq) := hb4x.cell 4
            have HX4 := Lib.hid (HX3.out.below HB4.out)
            clear hb4x hS x0 y14 HB0
            have hne : ∀ w : World, (binOp BinOp.neq 121 (.func (.func 80) #[.pointer (some ⟨p.g, 0, none⟩)] #[]) .nilFunc).run Try.prog w = .ok (.bool true) w := fun w => by kernel_rfl
            go_upto_region 11 with (first
              | (go_at_call 80; refine (HMK.out _ HB4.out).mono ?_; intro e w5 hm5; obtain ⟨v5, l5, p2, rfl, s1, s2, s3, s4, s5, s6, s7, s8⟩ := HX4.out.met hm5; obtain ⟨A5, c5, rfl, _, _⟩ := s3.form; have S1 := Lib.hid s1; have S2 := Lib.hid s2; have S3 := Lib.hid s3; have S4 := Lib.hid s4; have S5 := Lib.hid s5; have S6 := Lib.hid s6; have S7 := Lib.hid s7; have S8 := Lib.hid s8; have hw5 : w.heap.size ≤ w5.heap.size := s1.chg.size; have hll : L.length + l5.length ≤ 16 * (i + 1) := (by have h1 := congrArg List.length HX4.out.is; have h2 := congrArg List.length s4; rw [List.length_map, List.length_map] at h1 h2; have h3 := HPL.out; omega); clear s1 s2 s3 s4 s5 s6 s7 s8 hm5)
              | (at_builtin; refine wpList_append_any _ rfl (.tmp 43) (.tmp 46) 31 rfl w.heap.size 37 i0 _ 1 24 Try.underlying31 hi hz0 hz1 hz2 rfl (by decide) (.slice AV L.length cV) L.length (kB.flat L) rfl S2.out.row _ A5 l5.length c5 (kB.flat l5) rfl (Reads.of_own S3.out.row) (kB_one _) (by simp only [maxLen]; omega) (by omega) hw5 ?_; intro v7 w7 hr7 hg7 hv7; have HR7 := Lib.hid hr7; have HG7 := Lib.hid hg7; have HV7 := Lib.hid hv7; clear hr7 hg7 hv7))
            go_wp2
            go_roundw
            case rel => exact ⟨i + 1, p2, _, L ++ l5, acc ++ (packF c1 q1).1, by omega, by go_num, by rw [List.length_append]; have := HPL.out; omega, HX4.out.push HQ.out HQK.out HOV.out S1.out S2.out S3.out S4.out S5.out S6.out S7.out S8.out HR7.out HG7.out HV7.out⟩
            case measure => simp [intOf]; omega
          · have HPF : Hid (packF c1 q1 = ([], c1)) := Lib.hid (by unfold packF; rw [if_neg hk2, if_neg hk4, if_neg hk5, if_neg hk6])
            obtain ⟨kk, hkk⟩ : ∃ kk : Int, (q1.kind : Int) = kk := ⟨_, rfl⟩
            have HLKN : Hid (getI (kF p.g) kk = none) := Lib.hid (by
              unfold kF
              simp only [getI]
              rw [if_neg (by omega), if_neg (by omega), if_neg (by omega), if_neg (by omega)])
            rw [hkk] at x0
            clear hk2 hk4 hk5 hk6 hkk
            have hS : w3.drew.cell? ⟨bx, 0, none⟩ = some (.int .i64 kk) := x0
            refine wp_region_held_drew (S := fun W => W.cell? ⟨bx, 0, none⟩ = some (.int .i64 kk)) (by kernel_rfl) hS (fun hHeld => ?_)
            refine wpAnyH_take (i := 0) (v := ?_) (by simp only [List.getElem?_toArray, List.getElem?_cons_zero]; rfl) (by kernel_rfl) (by kernel_rfl) (by kernel_rfl) (by exact fun _ _ _ h => h) (Or.inl ⟨by rfl, ?_⟩) (by assumption) ?_
            rotate_left
            · intro w hSw; (try dsimp only at hSw); go_split_ands; go_simp <;> with_reducible rfl
            try simp only [Act.put, List.setIfInBounds_toArray, List.set_cons_zero, List.set_cons_succ]
            refine wpAnyH_take (i := 2) (v := ?_) (by simp only [List.getElem?_toArray, List.getElem?_cons_succ, List.getElem?_cons_zero]; rfl) (by kernel_rfl) (by kernel_rfl) (by kernel_rfl) (by exact fun _ _ _ h => h) (Or.inl ⟨by rfl, ?_⟩) (by assumption) ?_
            rotate_left
            · intro w hSw; (try dsimp only at hSw); go_split_ands; go_simp <;> with_reducible rfl
            try simp only [Act.put, List.setIfInBounds_toArray, List.set_cons_zero, List.set_cons_succ]
            refine wpAnyH_take (i := 3) (v := ?_) (by simp only [List.getElem?_toArray, List.getElem?_cons_succ, List.getElem?_cons_zero]; rfl) (by kernel_rfl) (by kernel_rfl) (by kernel_rfl) (by exact fun _ _ _ h => h) (Or.inl ⟨by rfl, ?_⟩) (by assumption) ?_
            rotate_left
            · intro w hSw; (try dsimp only at hSw); go_split_ands; go_simp <;> with_reducible rfl
            try simp only [Act.put, List.setIfInBounds_toArray, List.set_cons_zero, List.set_cons_succ]
            refine wpAnyH_ready (rs := [1]) (by kernel_rfl) (by simp) ?_
            refine AllReadyH.cons (by simp only [List.getElem?_toArray, List.getElem?_cons_succ, List.getElem?_cons_zero]; rfl) (fun K hK => ?_) AllReadyH.nil
            go_simp
            go_at_call 54
            refine HK.out.mono ?_
            rintro e w4 ⟨mb, rfl, hm4, hb4⟩
            have HB4 := Lib.hid hb4
            have hlk : (Instr.lookup 122 (.map (some mb)) (.int .i64 kk) false).run Try.prog w4 = .ok .nilFunc w4 := by (have h := run_lookupI (z0 := .nilFunc) Try.underlying122 Try.underlying36 zero121 hm4 kk; rw [HLKN.out] at h; exact h)
            have hS4 := (hb4.cell (p := ⟨bx, 0, none⟩) hbxw).trans x0
            clear hb4 hm4
            try go_simp
            refine hK.out _ _ (hS4) (fun hHeld => ?_)
            clear hK K
            try simp only [Act.put, List.setIfInBounds_toArray, List.set_cons_zero, List.set_cons_succ]
            refine wpAnyH_ready (rs := [4]) (by kernel_rfl) (by simp) ?_
            refine AllReadyH.cons (by simp only [List.getElem?_toArray, List.getElem?_cons_succ, List.getElem?_cons_zero]; rfl) (fun K hK => ?_) AllReadyH.nil
            go_simp
            refine hK.out _ _ (hHeld) (fun hHeld => ?_)
            clear hK K
            try simp only [Act.put, List.setIfInBounds_toArray, List.set_cons_zero, List.set_cons_succ]
            refine wpAnyH_ready (rs := [5]) (by kernel_rfl) (by simp) ?_
            refine AllReadyH.cons (by simp only [List.getElem?_toArray, List.getElem?_cons_succ, List.getElem?_cons_zero]; rfl) (fun K hK => ?_) AllReadyH.nil
            go_simp
            refine hK.out _ _ (hHeld) (fun hHeld => ?_)
            clear hK K
            try simp only [Act.put, List.setIfInBounds_toArray, List.set_cons_zero, List.set_cons_succ]
            refine wpAnyH_done (by kernel_rfl) ?_ _
            have hne : ∀ w : World, (binOp BinOp.neq 121 .nilFunc .nilFunc).run Try.prog w = .ok (.bool false) w := fun w => by kernel_rfl
            go_wp2
            go_roundw
            case rel => exact ⟨i + 1, _, _, L, acc, by omega, by go_num, by omega, (HX3.out.below HB4.out).skip HQ.out HOV.out HPF.out⟩
            case measure => simp [intOf]; omega
      · obtain rfl : i = qs.length := by omega
        go_wp2
        go_ret
        exact HEND.out _ _ _ _ _ _ _ HX.out (.inr rfl)
end Go.Proofs.Ytjhkfpemcplaaaa
