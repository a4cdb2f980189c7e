/-
  The document's Receive. No statement of the seat is proved here.
-/
import Derived.Test.YtjhkfpemcplaaaaDlP
namespace Go.Proofs.Ytjhkfpemcplaaaa
open Go.RowKit

set_option maxRecDepth 20000 in
set_option maxHeartbeats 8000000 in
theorem rreceive_any {base N : Nat} {p : Pa} {c : Cl} {w : World} (A : Option Addr) (nc cc : Nat) (chunk : List UInt8) (h : CD base w p c) (ok : c.Ok N) (hN : N ≤ 549755813888) (hr : RdB w w.heap.size A nc chunk) (hnc : nc ≤ 1073741824) (hd : p.d ≤ 1152921504606846976) :
    Calls Try.prog 68 #[.pointer (some ⟨p.g, 0, none⟩), .slice A nc cc] w (AnsE base w p (nc + 1088) (recvF c chunk).2 (recvF c chunk).1 fun v => v) := by
  have c4 : w.cell? ⟨p.g, 4, none⟩ = some (.bool c.conn) := h.blk.cell 4
  have c15 : w.cell? ⟨p.g, 15, none⟩ = some (.pointer (some ⟨p.r, 0, none⟩)) := h.blk.cell 15
  have hkl := ok.kp
  have hlen : chunk.length = nc := hr.len1
  obtain ⟨Ak, ck, Nk, hkv, hx, hNk, hbk, hak⟩ := h.rd
  have HFD := Lib.hid (rfeed_any p.r Nk w.heap.size Ak ck c.kept p.d A nc cc chunk w hx hr (Nat.le_refl _) (by omega) h.dr hd)
  have HC := Lib.hid h
  have HOK := Lib.hid ok
  have hg := h.blk.lt
  have HLEN := Lib.hid hlen
  clear h ok hr hlen hkv hx hNk hbk hak
  cases hcn : c.conn with
  | false =>
    have HF : Hid (recvF c chunk = ([], c)) := Lib.hid (by unfold recvF; rw [if_pos hcn])
    rw [hcn] at c4
    rw [HF.out]
    go_enter Try.func68, Try.ntmps68
    go_wp2
    go_ret
    exact ⟨_, [], p, rfl, StpD.refl HC.out _, FrsD.nil _ _ _⟩
  | true =>
    rw [hcn] at c4
    obtain ⟨F, hF⟩ : ∃ F, feed (c.kept ++ chunk) = F := ⟨_, rfl⟩
    have HF : Hid (recvF c chunk = packsF { c with kept := F.2.1 } F.1) := Lib.hid (by unfold recvF; rw [if_neg (by rw [hcn]; decide), hF])
    have hcnt := feed_cnt (c.kept ++ chunk)
    have hall := (feed_all (c.kept ++ chunk)).2
    have hlt := feed_lt (c.kept ++ chunk)
    rw [hF] at hcnt hall hlt HFD
    rw [List.length_append, HLEN.out] at hcnt
    have hok0 : ({ c with kept := F.2.1 } : Cl).Ok N := ⟨HOK.out.no, HOK.out.wi, HOK.out.pa, HOK.out.bl, HOK.out.bs, HOK.out.rp, HOK.out.rl, HOK.out.is, HOK.out.tk, HOK.out.ev, HOK.out.el, HOK.out.wt, hlt⟩
    obtain ⟨cK, hcK⟩ : ∃ cK : Cl, ({ c with kept := F.2.1 } : Cl) = cK := ⟨_, rfl⟩
    have HFED := Lib.hid fun (w2 : World) (A' : Option Addr) (k' : Nat) hx hg => CD.fed HC.out (w' := w2) (A := A') (k := k') (kept := F.2.1) (n := F.2.2) hx hg
    rw [hcK] at hok0 HF HFED
    have HO0 := Lib.hid hok0
    have HALL := Lib.hid hall
    clear hok0 hall hlt hF hcK
    go_enter Try.func68, Try.ntmps68
    go_upto_block 0 with (go_at_call 63; refine HFD.out.mono ?_; rintro e w2 ⟨TV, qs, A', k', rfl, hqs, htold, hx, hgr⟩; obtain ⟨TA, tc, rfl, _⟩ := htold.len; have HQS := Lib.hid hqs; have HTOLD := Lib.hid htold; have HST := Lib.hid (HFED.out w2 A' k' hx hgr); clear hqs htold hx hgr)
    have hql : qs.length ≤ nc + 1088 := by
      have := congrArg List.length HQS.out
      rw [List.length_map] at this
      omega
    have hS0 : RdS base w p N (nc + 1088) cK (.slice TA qs.length tc) qs 0 (.slice none 0 0) { p with kv := kvOf A' F.2.1.length k', d := p.d + (F.2.2 : Nat) } cK [] [] w2 := by
      refine ⟨HST.out.more (by omega), HO0.out, RowK.nil _ _ _, rfl, fun k hk => ?_, HTOLD.out, fun k hk hc => ?_, fun k _ e => by simp [Value.ownBlock] at e, by simp⟩
      · rcases hk with e | ⟨x, hx, _⟩
        · simp [Value.ownBlock] at e
        · cases hx
      · have h1 := (HTOLD.out.lt hk).1
        have := (HC.out.cfd (k := k) hc).2
        omega
    have HS0 := Lib.hid hS0
    generalize ({ p with kv := kvOf A' F.2.1.length k', d := p.d + (F.2.2 : Nat) } : Pa) = pK at hS0 HS0
    clear hS0 HST HFED HFD HTOLD c4 c15 hg
    obtain ⟨i0, hi, hz0, hz1, hz2⟩ := info_parts info37
    have HEND : Hid (∀ (i : Nat) (V : Value) (p1 : Pa) (c1 : Cl) (L : List (QX (List UInt8))) (acc : List Pk) (wr : World), RdS base w p N (nc + 1088) cK (.slice TA qs.length tc) qs i V p1 c1 L acc wr → (c1.over = true ∨ i = qs.length) → AnsE base w p (nc + 1088) (recvF c chunk).2 (recvF c chunk).1 (fun v => v) (.returned V) wr) := Lib.hid (by
      intro i V p1 c1 L acc wr hx hov
      have h1 : packsF c1 ((qs.drop i).map (·.1)) = ([], c1) := by
        rcases hov with e | e
        · cases (qs.drop i).map (·.1) with
          | nil => rfl
          | cons a r => rw [packsF, if_pos e]
        · subst e
          rw [List.drop_length]
          rfl
      have h2 := hx.law
      rw [h1, HQS.out, List.append_nil] at h2
      rw [HF.out, h2]
      exact ⟨V, L, p1, rfl, hx.st, hx.out, hx.is, hx.ap⟩)
    clear HF hcnt hkl
    go_wp2
    go_loopw [5, 7] (fun V k wr => ∃ (i : Nat) (p1 : Pa) (c1 : Cl) (L : List (QX (List UInt8))) (acc : List Pk), i ≤ qs.length ∧ k = .int .i64 (i : Int) ∧ acc.length ≤ 16 * i ∧ RdS base w p N (nc + 1088) cK (.slice TA qs.length tc) qs i V p1 c1 L acc wr) (fun _ k _ => qs.length - (intOf k).toNat)
    case atStart => exact ⟨0, _, _, [], [], Nat.zero_le _, rfl, Nat.zero_le _, HS0.out⟩
    case round =>
      obtain ⟨i, p1, c1, L, acc, hi9, rfl, hacc, hx⟩ := hrel
      have HX := Lib.hid hx
      obtain ⟨AV, cV, rfl, _, _⟩ := hx.out.form
      clear hx HS0
      by_cases hlt : i < qs.length
      · obtain ⟨b, o, q, rfl, hq, e0, e1, e2, e3, e4⟩ := (PkRow.prd HX.out.told).2.at5 hlt
        have hbw : b < wr.heap.size := World.block_lt_of_cell? _ _ e0
        have hqm := List.mem_of_getElem? hq
        have hqk : okPk q.1 := HALL.out q.1 (by rw [← HQS.out]; exact List.mem_map_of_mem hqm)
        have hown := HX.out.told.2 q hqm
        have HQ := Lib.hid hq
        have HQK := Lib.hid hqk
        have hpg : p1.g = p.g := HX.out.st.g
        have HPG := Lib.hid hpg
        have l1 : (0 : Int) ≤ (i : Int) := by omega
        have l2 : (i : Int) < (qs.length : Int) := by omega
        have hcl : q.1.body.length ≤ q.2.2 := by
          obtain ⟨A', c', e, h1, _⟩ := own_formL hown
          injection e with _ _ e3
          omega
        have HRD := Lib.hid ((PkRow.prd HX.out.told).2.2 q hqm)
        obtain ⟨q1, Aq, cq⟩ := q
        dsimp only at e0 e1 e2 e3 e4 HQ HQK hcl HRD
        have HPL := Lib.hid (packF_len HX.out.ok q1)
        have HMK := Lib.hid (rpack_any q1 Aq cq HX.out.st.cd HX.out.ok (by omega) HRD.out HQK.out hcl)
        rw [hpg] at HMK
        unfold pkV at HMK
        have y10 : wr.cell? ⟨p.g, 10, none⟩ = some (.bool c1.over) := by rw [← hpg]; exact HX.out.st.cd.blk.cell 10
        clear hq hqm hqk hown
        cases hov : c1.over with
        | true =>
          have HOV := Lib.hid hov
          rw [hov] at y10
          go_wp2
          go_ret
          exact HEND.out _ _ _ _ _ _ _ HX.out (.inl HOV.out)
        | false =>
          have HOV := Lib.hid hov
          rw [hov] at y10
          go_upto_region 7 with (first
            | (go_at_call 84; refine HMK.out.mono ?_; intro e w5 hm5; obtain ⟨v5, l5, p2, rfl, s1, s2, s3, s4, s5, s6, s7, s8⟩ := HX.out.met hm5; obtain ⟨A5, c5, rfl, _, _⟩ := s3.form; have S1 := Lib.hid s1; have S2 := Lib.hid s2; have S3 := Lib.hid s3; have S4 := Lib.hid s4; have S5 := Lib.hid s5; have S6 := Lib.hid s6; have S7 := Lib.hid s7; have S8 := Lib.hid s8; have hw5 : w.heap.size ≤ w5.heap.size := s1.chg.size; have hll : L.length + l5.length ≤ 16 * (i + 1) := (by have h1 := congrArg List.length HX.out.is; have h2 := congrArg List.length s4; rw [List.length_map, List.length_map] at h1 h2; have h3 := HPL.out; omega); clear s1 s2 s3 s4 s5 s6 s7 s8 hm5)
            | (at_builtin; refine wpList_append_any _ rfl (.tmp 34) (.tmp 40) 31 rfl w.heap.size 37 i0 _ 1 24 Try.underlying31 hi hz0 hz1 hz2 rfl (by decide) (.slice AV L.length cV) L.length (kB.flat L) rfl S2.out.row _ A5 l5.length c5 (kB.flat l5) rfl (Reads.of_own S3.out.row) (kB_one _) (by simp only [maxLen]; omega) (by omega) hw5 ?_; intro v7 w7 hr7 hg7 hv7; have HR7 := Lib.hid hr7; have HG7 := Lib.hid hg7; have HV7 := Lib.hid hv7; clear hr7 hg7 hv7))
          go_wp2
          go_roundw
          case rel => exact ⟨i + 1, p2, _, L ++ l5, acc ++ (packF c1 q1).1, by omega, by go_num, by rw [List.length_append]; have := HPL.out; omega, HX.out.push HQ.out HQK.out HOV.out S1.out S2.out S3.out S4.out S5.out S6.out S7.out S8.out HR7.out HG7.out HV7.out⟩
          case measure => simp [intOf]; omega
      · obtain rfl : i = qs.length := by omega
        go_wp2
        go_ret
        exact HEND.out _ _ _ _ _ _ _ HX.out (.inr rfl)
end Go.Proofs.Ytjhkfpemcplaaaa
