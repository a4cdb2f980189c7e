/-
  THE STATEMENT 'ClientThrough': the law's walk and its framing.
-/
import Derived.Test.YtjhkfpemcplaaaaEnO
import Derived.Test.YtjhkfpemcplaaaaEnP
import Derived.Test.YtjhkfpemcplaaaaRows
import Derived.Test.YtjhkfpemcplaaaaFrameE
import Derived.WalkKit
import Derived.ProofKit
import Derived.OpenShut
import Derived.ChangeOld
import Derived.ChangeMaps5
import Derived.Below
import Derived.SizedLaws
namespace Go.Proofs.Ytjhkfpemcplaaaa
open Go.RowKit

/-- who was welcomed has the toy's token; the patience stays -/
def GP (pat : Nat) (c : Cl) : Prop := (c.greet = true → c.tok = 5) ∧ c.pat = pat
section
variable {N pat : Nat} {s : Pl}
theorem gp_recv (h : LAll N s) (g : GP pat s.c) {q : Pk} (hq : ThereQ s.y.app s.y.beg q) : GP pat (recvF s.c (frm q)).2 := by
  obtain ⟨hok, htk, hbg, hkd⟩ := hq
  rw [recv_one hok h.kept h.over]
  split
  · exact g
  · unfold packF
    rcases hkd with hk | ⟨hk, _⟩
    · rw [if_pos hk]
      unfold welF
      split
      · exact g
      · split
        · exact ⟨fun _ => htk, g.2⟩
        · exact ⟨fun _ => htk, g.2⟩
    · rw [if_neg (by omega), if_pos hk]
      unfold repF
      split
      · exact g
      · cases getG q.body with
        | none => exact g
        | some r => exact g
theorem gp_road (h : LAll N s) (g : GP pat s.c) (d : Rd) : GP pat (roadPl s d).c := by
  show GP pat (midPl s d).c
  unfold midPl
  split
  · unfold issPl issueF
    repeat' split
    all_goals exact g
  · split
    · unfold connPl connF
      repeat' split
      all_goals first | exact g | exact ⟨(fun e => by cases e), g.2⟩
    · split
      · split
        · unfold cutPl cutF
          repeat' split
          all_goals first | exact g | exact ⟨(fun e => by cases e), g.2⟩
        · exact g
      · have arr : ∀ cl st, GP pat (arrPl s cl d.I st).c := by
          intro cl st
          unfold arrPl
          split
          · split <;> exact g
          · split
            · exact g
            · rename_i hb
              obtain ⟨q, e1, e2⟩ := h.there _ (getD_mem (i := d.I.toNat) fun e => hb (.inl e))
              rw [e1]
              exact gp_recv h g e2
        split
        · exact arr _ _
        · split
          · exact arr _ _
          · split
            · unfold losePl
              split <;> exact g
            · unfold tickPl tickF
              repeat' split
              all_goals exact g
theorem tick_full {c : Cl} (ok : c.Ok N) (hc : c.conn = true) (ho : c.over = false) (hp : c.pat = pat) : tickF c (pat : Int) = (if c.greet = false then [c.hello] else if c.rep + 1 ≤ c.iss then [c.cmd (c.rep + 1)] else [], { c with wait := 0 }) := by
  have h1 := ok.pa
  unfold tickF
  rw [if_neg (by rintro (e | e | e); (omega); (rw [hc] at e; cases e); (rw [ho] at e; cases e)), if_neg (by rw [hp]; omega)]
theorem ok_back {c c' : Cl} (h : c'.Ok (N + 1)) (hc : c.Ok N) (h1 : c'.iss = c.iss) (h2 : c'.evs = c.evs) : c'.Ok N :=
  ⟨h.no, h.wi, h.pa, h.bl, h.bs, h.rp, h.rl, by rw [h1]; exact hc.is, h.tk, h.ev, by rw [h2]; exact hc.el, h.wt, h.kp⟩
theorem LAll.back {s' : Pl} (h : LAll (N + 1) s') (hc : s'.c.Ok N) : LAll N s' := ⟨hc, h.sh, h.wi, h.no, h.bod, h.over, h.kept, h.tok, h.non, h.pre, h.prl, h.rep, h.reps, h.ack, h.here, h.there⟩
/-- what is still wanted -/
def need (c : Cl) : Nat := c.iss - c.rep + if c.greet = true then 0 else 1
theorem round_break (h : LAll N s) (hc : s.c.conn = true) (g : GP pat s.c) (he : (tickF s.c (pat : Int)).1 = []) : s.c.rep = s.c.iss := by
  rw [tick_full h.c hc h.over g.2] at he
  dsimp only at he
  split at he
  · cases he
  · split at he
    · cases he
    · have := h.c.rp; omega
/-- one round -/
theorem round_ok (h : LAll N s) (hN : N + 1 ≤ 2199023255552) (hc : s.c.conn = true) (g : GP pat s.c) {q : Pk} {rest : List Pk} (he : (tickF s.c (pat : Int)).1 = q :: rest) :
    okPk q ∧ ∃ p out, (tyF s.y q).1 = p :: out ∧ okPk p ∧ (recvF (tickF s.c (pat : Int)).2 (frm p)).1.length ≤ 16 ∧ LAll N ⟨(recvF (tickF s.c (pat : Int)).2 (frm p)).2, (tyF s.y q).2, [], [], s.i⟩ ∧ GP pat (recvF (tickF s.c (pat : Int)).2 (frm p)).2 ∧
      (recvF (tickF s.c (pat : Int)).2 (frm p)).2.conn = true ∧ need (recvF (tickF s.c (pat : Int)).2 (frm p)).2 + 1 ≤ need s.c := by
  have hN' : N ≤ 2199023255552 := by omega
  have ht := h.tick hN' (pat : Int)
  have hq : HereQ s.i s.c.nonce s.c.rep q := by
    obtain ⟨q', e1, e2⟩ := ht.here (frm q) (by unfold tickPl; rw [he]; simp)
    have hqh : q = s.c.hello ∨ (q = s.c.cmd (s.c.rep + 1) ∧ s.c.rep + 1 ≤ s.c.iss) := by
      rw [tick_full h.c hc h.over g.2] at he
      dsimp only at he
      split at he
      · injection he with e _
        exact .inl e.symm
      · split at he
        · rename_i hle
          injection he with e _
          exact .inr ⟨e.symm, hle⟩
        · cases he
    rw [← h.bod]
    rcases hqh with e | ⟨e, hle⟩
    · rw [e]; exact hello_here h.c h.tk
    · rw [e]; exact cmd_here h.c hN' h.tk (by omega) hle
  have hT := tick_full h.c hc h.over g.2
  -- the client behind Tick, the toy behind its frame
  have h1 : LAll N ⟨{ s.c with wait := 0 }, s.y, [], [], s.i⟩ := by
    have := ht.less (l := []) (r := []) (fun b hb => by cases hb) fun b hb => by cases hb
    unfold tickPl at this
    rw [hT] at this
    exact this
  have h2 := h1.toy hN' hq
  refine ⟨hq.1, ?_⟩
  rw [hT] at he ⊢
  dsimp only at he ⊢
  have hack := h.ack
  have hrep := h.rep
  have hprl := h.prl
  have hwi := h.wi
  have hiss : s.i.length = s.c.iss := by rw [← h.bod]; exact h.c.bl
  have fin : ∀ (p : Pk) (out : List Pk), (tyF s.y q).1 = p :: out → (∀ c' : Cl, c' = (recvF { s.c with wait := 0 } (frm p)).2 → c'.conn = true ∧ need c' + 1 ≤ need s.c ∧ c'.iss = s.c.iss ∧ c'.evs = s.c.evs) →
      ∃ p out, (tyF s.y q).1 = p :: out ∧ okPk p ∧ (recvF { s.c with wait := 0 } (frm p)).1.length ≤ 16 ∧ LAll N ⟨(recvF { s.c with wait := 0 } (frm p)).2, (tyF s.y q).2, [], [], s.i⟩ ∧ GP pat (recvF { s.c with wait := 0 } (frm p)).2 ∧
        (recvF { s.c with wait := 0 } (frm p)).2.conn = true ∧ need (recvF { s.c with wait := 0 } (frm p)).2 + 1 ≤ need s.c := by
    intro p out hp hd
    obtain ⟨p', e1, e2⟩ := h2.there (frm p) (by rw [hp]; simp)
    have hpp : ∃ p'', frm p = frm p'' ∧ ThereQ (tyF s.y q).2.app (tyF s.y q).2.beg p'' := ⟨p', e1, e2⟩
    have h3 : LAll N ⟨{ s.c with wait := 0 }, (tyF s.y q).2, [], [], s.i⟩ := h2.less (l := []) (r := []) (fun b hb => by cases hb) fun b hb => by cases hb
    have hokp : okPk p := by
      have hy := h.yok
      have hle := hy.le
      obtain ⟨hl1, hl2⟩ := tyL_len s.y q
      have hbl := tB_len (tyL s.y q) q.seq
      unfold tyF at hp
      split at hp
      · split at hp
        · injection hp with e _
          rw [← e]
          exact ⟨(show mayB 2 0 = true by decide), (show (5 : Nat) < 18446744073709551616 by decide), (show (0 : Nat) < 18446744073709551616 by decide), by dsimp only; omega⟩
        · cases hp
      · split at hp
        · split at hp
          · cases hp
          · dsimp only at hp
            split at hp
            · cases hp
            · injection hp with e _
              rw [← e]
              exact ⟨by dsimp only; simp [mayB]; omega, (show (5 : Nat) < 18446744073709551616 by decide), hq.1.2.2.1, by dsimp only; omega⟩
        · cases hp
    have hpe : p' = p := by
      have h4 := feed_frame e2.1
      rw [← e1, feed_frame hokp] at h4
      simpa using h4.symm
    subst hpe
    have h4 := h3.recv hN e2
    obtain ⟨d1, d2, d3, d4⟩ := hd _ rfl
    have hg : GP pat ({ s.c with wait := 0 } : Cl) := g
    refine ⟨p', out, hp, e2.1, ?_, ?_, gp_recv h3 hg e2, d1, d2⟩
    · rw [recv_one e2.1 h3.kept h3.over]
      split
      · simp
      · exact packF_len h3.c p'
    · exact LAll.back (h4.less (l := []) (r := []) (fun b hb => by cases hb) fun b hb => by cases hb) (ok_back h4.c h3.c d3 d4)
  split at he
  · rename_i hgr
    injection he with e _
    subst e
    have hty : (tyF s.y s.c.hello).1 = [⟨2, 5, 0, s.y.app.length, []⟩] := by
      unfold tyF
      rw [if_pos (show s.c.hello.kind = 1 from rfl), if_pos]
      rcases h.tok with e | ⟨e, e2⟩
      · refine .inl ⟨e, ?_⟩
        cases hb : s.y.beg with
        | false => exact .inl rfl
        | true => exact .inr (h.non hb).symm
      · exact .inr ⟨e, e2⟩
    refine fin _ _ hty fun c' hc' => ?_
    have hle := h.yok.le
    rw [recv_one (c := { s.c with wait := 0 }) (q := ⟨2, 5, 0, s.y.app.length, []⟩) ⟨(show mayB 2 0 = true by decide), (show (5 : Nat) < 18446744073709551616 by decide), (show (0 : Nat) < 18446744073709551616 by decide), by dsimp only; omega⟩ h1.kept h1.over] at hc'
    rw [if_neg (by rw [show ({ s.c with wait := 0 } : Cl).conn = true from hc]; decide)] at hc'
    unfold packF welF at hc'
    rw [if_pos rfl, if_neg (by
      rintro (e | ⟨e1, e2⟩)
      · cases e
      · rcases h.tk with e3 | e3
        · exact e1 e3
        · simp [oursB, e3] at e2), if_neg (by dsimp only; rw [hgr]; decide)] at hc'
    subst hc'
    refine ⟨hc, ?_, rfl, rfl⟩
    unfold need
    rw [if_pos rfl, if_neg (by rw [hgr]; decide)]
    dsimp only
    omega
  · rename_i hgr
    have hgt : s.c.greet = true := by cases hx : s.c.greet with
      | true => rfl
      | false => exact absurd hx hgr
    have htk5 := g.1 hgt
    have hbg : s.y.beg = true := by
      rcases h.tok with e | e
      · rw [htk5] at e; cases e
      · exact e.2
    split at he
    · rename_i hle
      injection he with e _
      subst e
      have ha : tyA s.y (s.c.cmd (s.c.rep + 1)) = s.c.rep := by
        unfold tyA
        show (if s.y.ack < s.c.rep ∧ s.c.rep ≤ s.y.app.length then s.c.rep else s.y.ack) = s.c.rep
        split <;> omega
      have hL : ¬ (s.c.rep + 1 ≤ s.c.rep ∨ (tyL s.y (s.c.cmd (s.c.rep + 1))).length < s.c.rep + 1) := by
        rintro (e | e)
        · omega
        · unfold tyL at e
          rw [ha] at e
          have hsq : (s.c.cmd (s.c.rep + 1)).seq = s.c.rep + 1 := rfl
          rw [hsq] at e
          split at e
          · simp at e; omega
          · rename_i hx
            refine hx ⟨?_, ?_⟩ <;> omega
      have hty : (tyF s.y (s.c.cmd (s.c.rep + 1))).1 = [⟨4, 5, s.c.rep + 1, (tyL s.y (s.c.cmd (s.c.rep + 1))).length, tB (tyL s.y (s.c.cmd (s.c.rep + 1))) (s.c.rep + 1)⟩] := by
        unfold tyF
        rw [if_neg (show ¬ (s.c.cmd (s.c.rep + 1)).kind = 1 from (by decide : ¬ (3 : Nat) = 1)), if_pos (show (s.c.cmd (s.c.rep + 1)).kind = 3 from rfl), if_neg (by
          rintro (e | e)
          · rw [hbg] at e; cases e
          · exact e htk5)]
        dsimp only
        rw [ha]
        exact if_neg hL
      refine fin _ _ hty fun c' hc' => ?_
      have hle2 := h.yok.le
      obtain ⟨hl1, hl2⟩ := tyL_len s.y (s.c.cmd (s.c.rep + 1))
      have hbl := tB_len (tyL s.y (s.c.cmd (s.c.rep + 1))) (s.c.rep + 1)
      rw [recv_one (c := { s.c with wait := 0 }) (q := ⟨4, 5, s.c.rep + 1, (tyL s.y (s.c.cmd (s.c.rep + 1))).length, tB (tyL s.y (s.c.cmd (s.c.rep + 1))) (s.c.rep + 1)⟩) ⟨by dsimp only; simp [mayB]; omega, (show (5 : Nat) < 18446744073709551616 by decide), by dsimp only; omega, by dsimp only; omega⟩ h1.kept h1.over] at hc'
      rw [if_neg (by rw [show ({ s.c with wait := 0 } : Cl).conn = true from hc]; decide)] at hc'
      unfold packF repF at hc'
      rw [if_neg (show ¬ (4 : Nat) = 2 by decide), if_pos (show (4 : Nat) = 4 from rfl), if_neg (by
        rintro (e | e | e)
        · simp [oursB, htk5] at e
        · exact e rfl
        · dsimp only at e; omega)] at hc'
      have hgg : getG (tB (tyL s.y (s.c.cmd (s.c.rep + 1))) (s.c.rep + 1)) = some ⟨0, tV (tyL s.y (s.c.cmd (s.c.rep + 1))) (s.c.rep + 1), []⟩ := getG_reply (by decide) (tV_ok _ (by omega)) (tV_good _)
      dsimp only at hc'
      rw [hgg] at hc'
      dsimp only at hc'
      subst hc'
      refine ⟨hc, ?_, rfl, rfl⟩
      unfold need
      dsimp only
      omega
    · cases he
end
end Go.Proofs.Ytjhkfpemcplaaaa
namespace Go.Proofs.Ytjhkfpemcplaaaa
open Go.RowKit

theorem cf_type {base b : Nat} {w : World} {p : Pa} {c : Cl} {cs : Array Value} (h : CA base w p c) (hb : Blk w b 45 cs) : ¬ CF p b := by
  rintro (e | e | e | (e | ⟨x, hx, e⟩) | (e | ⟨x, hx, e⟩) | (e | ⟨x, hx, e⟩))
  · exact Blk.ne_ hb h.blk (by decide) e
  · exact Blk.ne_ hb h.rd (by decide) e
  · exact own_blk_ne h.kp hb (by decide) e
  · exact own_blk_ne h.rows.b.row hb (by decide) e
  · exact own_blk_ne (h.rows.b.els x hx) hb (by decide) e
  · exact own_blk_ne h.rows.r.row hb (by decide) e
  · exact own_blk_ne (h.rows.r.els x hx) hb (by decide) e
  · exact own_blk_ne h.rows.e.row hb (by decide) e
  · exact own_blk_ne (h.rows.e.els x hx) hb (by decide) e
theorem tf_type {base b : Nat} {w : World} {t : TyP} {y : Ty} {cs : Array Value} (h : TA base w t y) (hb : Blk w b 45 cs) : ¬ TF t b := by
  rintro (e | e | ⟨x, hx, e⟩)
  · exact Blk.ne_ hb h.blk (by decide) e
  · exact own_blk_ne h.row.row hb (by decide) e
  · exact own_blk_ne (h.row.els x hx) hb (by decide) e
/-- a store into a block of another kind -/
theorem LkS.free {w0 w w' : World} {k : Lk} {c : Cl} {y : Ty} {D b : Nat} {f : Nat → Nat} {cs : Array Value} (h : LkS w0 k c y D f w) (hb : Blk w b 45 cs) (hge : w0.heap.size ≤ b) (hc : Chg (fun i => i = b) w w') : LkS w0 k c y D f w' := by
  have hro : ∀ {v : Value} {l : List (QX (List UInt8))}, RowO kB w0.heap.size w v l → ∀ i, (v.ownBlock = some i ∨ kB.inB l i) → ¬ i = b := fun hr i hi e => by
    subst e
    rcases hi with e | ⟨x, hx, e⟩
    · exact OwnO.blk_ne hr.row hb (by decide) e
    · exact own_blk_ne (hr.els x hx) hb (by decide) e
  exact ⟨h.ca.chg hc fun i hi e => cf_type h.ca hb (e ▸ hi), h.ty.chg hc fun i hi e => tf_type h.ty hb (e ▸ hi), hc.blk h.lk fun e => Blk.ne_ h.lk hb (by decide) e, h.he.chg hc (hro h.he), h.th.chg hc (hro h.th), h.is.chg hc (hro (RowO.of h.is)), h.fc, h.ft, h.fh, h.fr, h.fi, h.fl, h.ge, Chg.old_ h hc fun i hi => by rw [hi]; exact hge, h.d⟩
theorem LkX.free {w0 w w' : World} {gl gc gt D b : Nat} {s : Pl} {cs : Array Value} (h : LkX w0 gl gc gt s D w) (hb : Blk w b 45 cs) (hge : w0.heap.size ≤ b) (hc : Chg (fun i => i = b) w w') : LkX w0 gl gc gt s D w' := by
  obtain ⟨k, f, h1, h2, h3, h4, h5⟩ := h
  exact ⟨k, f, h1, h2, h3, h4.free hb hge hc, h5⟩
theorem LkX.old_ {w0 w : World} {gl gc gt D : Nat} {s : Pl} (h : LkX w0 gl gc gt s D w) : Below w0.heap.size w0 w := by
  obtain ⟨k, f, _, _, _, h4, _⟩ := h
  exact h4.old
theorem LkX.state {w0 w : World} {gl gc gt D N : Nat} {s : Pl} (h : LkX w0 gl gc gt s D w) (ok : s.c.Ok N) : Calls Try.prog 15 #[.pointer (some ⟨gc, 0, none⟩)] w fun e w' => e = .returned (cstV s.c) ∧ Below w.heap.size w w' := by
  obtain ⟨k, f, _, h2, _, h4, _⟩ := h
  have := state_any h4.ca ok
  rw [h2] at this
  exact this
theorem conn_of {s : Pl} (ho : s.c.over = false) (hc : s.c.conn = false) : connPl s = ⟨{ s.c with conn := true, greet := false, wait := 0 }, s.y, s.h ++ [frm s.c.hello], s.r, s.i⟩ := by
  have e : connF s.c = ([s.c.hello], 0, { s.c with conn := true, greet := false, wait := 0 }) := by
    unfold connF
    rw [if_neg (by rw [ho]; decide), if_neg (by rw [hc]; decide)]
  unfold connPl
  rw [e]
  rfl
def cstA (c : Cl) : Array Value := #[.int .u64 (c.tok : Int), .bool c.conn, .bool c.greet, .int .u64 (c.iss : Int), .int .u64 (c.rep : Int), .int .u64 (c.ev : Int), .int .i64 (c.wait : Int), .bool c.over, .int .i64 c.reason]
theorem field_conn (c : Cl) (w : World) : Sem.run Try.prog (Instr.field 45 (.agg #[.int .u64 (c.tok : Int), .bool c.conn, .bool c.greet, .int .u64 (c.iss : Int), .int .u64 (c.rep : Int), .int .u64 (c.ev : Int), .int .i64 (c.wait : Int), .bool c.over, .int .i64 c.reason]) 1) w = .ok (.bool c.conn) w := by
  kernel_rfl
/-- the first frame of a row -/
theorem RowK.first_ {base : Nat} {w : World} {A : Option Addr} {n c : Nat} {l : List (QX (List UInt8))} (h : RowK kB base w (.slice A n c) l) {b : List UInt8} {rest : List (List UInt8)} (hl : l.map (·.1) = b :: rest) :
    ∃ g A1 nc cc, A = some ⟨g, 0, none⟩ ∧ base ≤ g ∧ g < w.heap.size ∧ n = rest.length + 1 ∧ w.cell? ⟨g, 0, none⟩ = some (.slice A1 nc cc) ∧ RdB w w.heap.size A1 nc b := by
  cases l with
  | nil => cases hl
  | cons x ls =>
    rw [List.map_cons] at hl
    injection hl with e1 e2
    obtain ⟨g, c', e, hg1, hg2, hc⟩ := h.at_ kB_len (i := 0) rfl
    injection e with ea en ec
    have h0 := hc 0 (kB.val x) rfl
    have hr := h.els x (by simp)
    subst e1
    refine ⟨g, x.2.1, _, x.2.2, ea, hg1, hg2, ?_, h0, Reads.of_own hr⟩
    rw [en, ← e2]
    simp
theorem LAll.tick0 {N pat : Nat} {s : Pl} (h : LAll N s) (hN : N ≤ 2199023255552) : LAll N ⟨(tickF s.c (pat : Int)).2, s.y, [], [], s.i⟩ := by
  have := (h.tick hN (pat : Int)).less (l := []) (r := []) (fun b hb => by cases hb) fun b hb => by cases hb
  exact this
theorem put_blk (c d : Cl) {w : World} {b : Nat} (hb : Blk w b 45 (cstA c)) : Blk (((((((((w.setCell ⟨b, 0, none⟩ (.int .u64 (d.tok : Int))).setCell ⟨b, 1, none⟩ (.bool d.conn)).setCell ⟨b, 2, none⟩ (.bool d.greet)).setCell ⟨b, 3, none⟩ (.int .u64 (d.iss : Int))).setCell ⟨b, 4, none⟩ (.int .u64 (d.rep : Int))).setCell ⟨b, 5, none⟩ (.int .u64 (d.ev : Int))).setCell ⟨b, 6, none⟩ (.int .i64 (d.wait : Int))).setCell ⟨b, 7, none⟩ (.bool d.over)).setCell ⟨b, 8, none⟩ (.int .i64 d.reason)) b 45 (cstA d) := by
  have h := (((((((((hb).set_ 0 (.int .u64 (d.tok : Int))).set_ 1 (.bool d.conn)).set_ 2 (.bool d.greet)).set_ 3 (.int .u64 (d.iss : Int))).set_ 4 (.int .u64 (d.rep : Int))).set_ 5 (.int .u64 (d.ev : Int))).set_ 6 (.int .i64 (d.wait : Int))).set_ 7 (.bool d.over)).set_ 8 (.int .i64 d.reason)
  have e : ∀ {a a' : Array Value} {w : World}, Blk w b 45 a → a = a' → Blk w b 45 a' := fun h e => e ▸ h
  refine e h ?_
  simp only [cstA, List.setIfInBounds_toArray, List.set_cons_zero, List.set_cons_succ]
theorem put_free {w0 w : World} {gl gc gt D b : Nat} {s : Pl} (c d : Cl) (h : LkX w0 gl gc gt s D w) (hb : Blk w b 45 (cstA c)) (hge : w0.heap.size ≤ b) : LkX w0 gl gc gt s D (((((((((w.setCell ⟨b, 0, none⟩ (.int .u64 (d.tok : Int))).setCell ⟨b, 1, none⟩ (.bool d.conn)).setCell ⟨b, 2, none⟩ (.bool d.greet)).setCell ⟨b, 3, none⟩ (.int .u64 (d.iss : Int))).setCell ⟨b, 4, none⟩ (.int .u64 (d.rep : Int))).setCell ⟨b, 5, none⟩ (.int .u64 (d.ev : Int))).setCell ⟨b, 6, none⟩ (.int .i64 (d.wait : Int))).setCell ⟨b, 7, none⟩ (.bool d.over)).setCell ⟨b, 8, none⟩ (.int .i64 d.reason)) :=
  h.free hb hge ((((((((((Chg.refl (fun i => i = b) w).setCell (fun _ => rfl) _).setCell (fun _ => rfl) _).setCell (fun _ => rfl) _).setCell (fun _ => rfl) _).setCell (fun _ => rfl) _).setCell (fun _ => rfl) _).setCell (fun _ => rfl) _).setCell (fun _ => rfl) _).setCell (fun _ => rfl) _)
/-- Tick, with no way for its frames -/
theorem LkX.tick {w0 w : World} {gl gc gt D N b : Nat} {s : Pl} {cs : Array Value} (n : Int) (h : LkX w0 gl gc gt s D w) (ok : s.c.Ok N) (hN : N ≤ 1152921504606846976) (hb : Blk w b 45 cs) :
    Calls Try.prog 24 #[.pointer (some ⟨gc, 0, none⟩), .int .i64 n] w fun e w' => ∃ v l k f, e = .returned v ∧ k.gl = gl ∧ k.p.g = gc ∧ k.t.g = gt ∧ LkS w0 k (tickF s.c n).2 s.y D f w' ∧ k.hl.map (·.1) = s.h ∧ k.rl.map (·.1) = s.r ∧ k.il.map (·.1) = s.i ∧ RowK kB w.heap.size w' v l ∧ l.map (·.1) = (tickF s.c n).1.map frm ∧ (∀ i, (v.ownBlock = some i ∨ kB.inB l i) → f i = 7) ∧ Blk w' b 45 cs := by
  obtain ⟨k, f, rfl, rfl, rfl, hk, hh, hr, hi⟩ := h
  refine (tick_any n hk.ca ok hN).mono ?_
  rintro e w' ⟨v, l, p', he, hs, hf⟩
  obtain ⟨f', hk', _, hnew⟩ := hk.stepC hs
  exact ⟨v, l, { k with p := p' }, f', he, rfl, hs.g, rfl, hk', hh, hr, hi, hf.row, hf.is, fun i hi => hnew i (hf.row.lt hi).1 (hf.ap i hi), hs.chg.blk hb (cf_type hk.ca hb)⟩
/-- the toy, with no way for its frames -/
theorem LkS.toyW {w0 w : World} {k : Lk} {c : Cl} {y : Ty} {f : Nat → Nat} {D N b : Nat} {h r i : List (List UInt8)} {cs : Array Value} (q : Pk) (A : Option Addr) (nc cc : Nat) (hk : LkS w0 k c y D f w) (hh : k.hl.map (·.1) = h) (hr1 : k.rl.map (·.1) = r) (hi : k.il.map (·.1) = i) (ok : y.Ok N) (hN : N ≤ 2199023255552) (hq : okPk q) (hr : RdB w w.heap.size A nc (frm q)) (hb : Blk w b 45 cs) {g : Nat} (h7 : f g = 7) (hg : g < w.heap.size) :
    Calls Try.prog 33 #[.pointer (some ⟨k.t.g, 0, none⟩), .slice A nc cc] w fun e w' => ∃ v l, e = .returned v ∧ LkX w0 k.gl k.p.g k.t.g ⟨c, (tyF y q).2, h, r, i⟩ D w' ∧ RowK kB w.heap.size w' v l ∧ l.map (·.1) = (tyF y q).1.map frm ∧ Blk w' b 45 cs ∧ w'.cell? ⟨k.gl, 1, none⟩ = some (.pointer (some ⟨k.t.g, 0, none⟩)) ∧ w'.heap[g]? = w.heap[g]? := by
  refine (toy_any q A nc cc hk.ty ok hN hq hr).mono ?_
  rintro e w' ⟨v, l, t', he, hs, hrow, hl, hap2⟩
  obtain ⟨f', hk', _, _⟩ := hk.stepT hs
  have htw : ∀ a, TW k.t a → TF k.t a := fun a e => by
    rcases e with e | e
    · exact .inl e
    · exact .inr (.inl e)
  exact ⟨v, l, he, hk'.toX rfl rfl hs.g (Nat.le_refl _) hh hr1 hi, hrow, hl, hs.chg.blk hb fun e => tf_type hk.ty hb (htw _ e), by have := hk'.lk.cell 1; rw [show _ = _ from this]; simp [hs.g], hs.chg.block g hg fun e => by have := hk.ft g (htw _ e); rw [h7] at this; cases this⟩
/-- Receive, with no way for its frames -/
theorem LkX.recv {w0 w : World} {gl gc gt D N b : Nat} {s : Pl} {cs : Array Value} (A : Option Addr) (nc cc : Nat) (chunk : List UInt8) (h : LkX w0 gl gc gt s D w) (ok : s.c.Ok N) (hN : N ≤ 2199023255552) (hr : RdB w w.heap.size A nc chunk) (hnc : nc ≤ 1088) (hD : D ≤ 1152921504606846976) (hb : Blk w b 45 cs) :
    Calls Try.prog 22 #[.pointer (some ⟨gc, 0, none⟩), .slice A nc cc] w fun e w' => ∃ v l, e = .returned v ∧ LkX w0 gl gc gt { s with c := (recvF s.c chunk).2 } (D + 2176) w' ∧ RowK kB w.heap.size w' v l ∧ Blk w' b 45 cs := by
  obtain ⟨k, f, rfl, rfl, rfl, hk, hh, hr1, hi⟩ := h
  refine (receive_any A nc cc chunk hk.ca ok hN hr (by omega) (by have := hk.d; omega)).mono ?_
  rintro e w' ⟨v, l, p', he, hs, hf⟩
  obtain ⟨f', hk', _, _⟩ := hk.stepC hs
  exact ⟨v, l, he, hk'.toX rfl hs.g rfl (by omega) hh hr1 hi, hf.row, hs.chg.blk hb (cf_type hk.ca hb)⟩
set_option maxRecDepth 20000 in
set_option maxHeartbeats 4000000 in
theorem through_no (nonce : Nat) (win pat kp : Int) (A : Option Addr) (n c : Nat) (w : World) (h : ¬ (1 ≤ nonce ∧ 1 ≤ win ∧ win ≤ 16 ∧ 1 ≤ pat ∧ pat ≤ 1000)) :
    Calls Try.prog 7 #[.int .u64 (nonce : Int), .int .i64 win, .int .i64 pat, .int .i64 kp, .slice A n c] w (EndTrueP w) := by
  have HB := Lib.hid (new_bad nonce win pat w h)
  have hm : mayCl nonce win pat = false := by
    cases e : mayCl nonce win pat with
    | false => rfl
    | true => simp [mayCl] at e; exact absurd (by omega) h
  have HM := Lib.hid fun w => mayc_any nonce win pat w
  rw [hm] at HM
  clear h hm
  go_enter Try.func7, Try.ntmps7
  go_wp2_with (first
    | (go_at_call 10; refine HB.out.mono ?_; rintro e w1 ⟨rfl, rfl⟩)
    | (go_at_call 11; refine (HM.out _).mono ?_; rintro e w1 ⟨rfl, rfl⟩)
    | (go_at_call 12; refine (awake_any _).mono ?_; rintro e w3 ⟨rfl, hb⟩; have HW := Lib.hid hb; clear hb))
  go_ret
  exact ⟨rfl, HW.out⟩
set_option maxRecDepth 20000 in
set_option maxHeartbeats 8000000 in
theorem through_yes (nonce win pat : Nat) (kp : Int) (A : Option Addr) (n cc : Nat) (ds : List Rd) (w : World) (h1 : 1 ≤ nonce) (hno : nonce < 18446744073709551616) (h2 : 1 ≤ win) (h3 : win ≤ 16) (h4 : 1 ≤ pat) (h5 : pat ≤ 1000) (hd : RsIn w A ds) (hn : ds.length = n) (hn9 : n ≤ 1760000000000) :
    Calls Try.prog 7 #[.int .u64 (nonce : Int), .int .i64 (win : Int), .int .i64 (pat : Int), .int .i64 kp, .slice A n cc] w (EndTrueP w) := by
  have HST := Lib.hid (new_ok nonce win pat w h1 h2 h3 h4 h5)
  have hm : mayCl nonce win pat = true := by simp [mayCl, h1]; omega
  have HPB : Hid (1 ≤ pat ∧ pat ≤ 1000) := Lib.hid ⟨h4, h5⟩
  have HM := Lib.hid fun w => mayc_any nonce win pat w
  rw [hm] at HM
  have HD := Lib.hid hd
  have HN := Lib.hid hn
  obtain ⟨kw, hkw⟩ : ∃ kw : Nat, (kw : Int) = min (max kp 1) 16 := ⟨(min (max kp 1) 16).toNat, by omega⟩
  have HLA := Lib.hid (LAll.start h1 hno h2 h3 h4 h5 (w := kw) (by omega) (by omega))
  have HKW := Lib.hid hkw
  have HGP : Hid (GP pat (Cl.new nonce win pat)) := Lib.hid ⟨(fun e => by cases e), rfl⟩
  generalize Cl.new nonce win pat = cn at *
  clear h1 hno h2 h3 h4 h5 hm hd hn hkw
  go_enter Try.func7, Try.ntmps7
  go_upto_region 6 with (first
    | (go_at_call 10; refine HST.out.mono ?_; rintro e w1 ⟨p, rfl, hca, hpd, hb⟩; have H1 := Lib.hid (And.intro hca (And.intro hpd hb)); clear hca hpd hb)
    | (go_at_call 11; refine (HM.out _).mono ?_; rintro e w2 ⟨rfl, rfl⟩)
    | (go_at_call 13; refine (num_any _ _).mono ?_; rintro e w3 ⟨rfl, rfl⟩)
    | (go_at_call 12; refine (awake_any _).mono ?_; rintro e w3 ⟨rfl, hb⟩; have HB3 := Lib.hid hb; clear hb))
  go_upto_region 7 with fail
  have e1 : (if 16 < (if kp < 1 then 1 else kp) then 16 else (if kp < 1 then 1 else kp)) = (kw : Int) := by
    have := HKW.out
    split <;> split <;> omega
  rw [e1]
  generalize (if kp < 1 then (1 : Int) else kp) = kz at e1 ⊢
  have hL := link_start (win := kw) H1.out.1 H1.out.2.1 H1.out.2.2 HB3.out
  generalize (w3.alloc (.cells #[.int .i64 (kw : Int), .bool false, .int .u64 0, .slice none 0 0, .int .u64 0, .slice none 0 0, .int .i64 0] 79)).alloc (.cells #[.pointer (some ⟨p.g, 0, none⟩), .pointer (some ⟨w3.heap.size, 0, none⟩), .slice none 0 0, .slice none 0 0, .slice none 0 0] 81) = w4 at hL ⊢
  have HL := Lib.hid hL
  generalize w3.heap.size + 1 = gl at *
  generalize w3.heap.size = gt at *
  generalize p.g = gc at *
  clear e1 hL H1 HB3 HST HM
  go_wp2_with fail
  go_loopw [14] (fun v wr => ∃ (i : Nat) (s : Pl), i ≤ n ∧ v = .int .i64 (i : Int) ∧ LkX w gl gc gt s (2176 * i) wr ∧ LAll i s ∧ s.h.length ≤ 60 ∧ s.r.length ≤ 60 ∧ GP pat s.c) (fun v _ => n - (intOf v).toNat)
  case atStart => exact ⟨0, _, Nat.zero_le _, rfl, HL.out, HLA.out, Nat.zero_le _, Nat.zero_le _, HGP.out⟩
  case round =>
    obtain ⟨i, s, hi, rfl, hx, ha, hh, hr, hgp⟩ := hrel
    have hold : Below w.heap.size w wr := hx.old_
    by_cases hlt : i < n
    · obtain ⟨b, off, d, rfl, hdi, hd1, hcell⟩ := (HD.out.below hold).at_ (by rw [HN.out]; exact hlt)
      have l1 : (0 : Int) ≤ (i : Int) := by omega
      have l2 : (i : Int) < (n : Int) := by omega
      have HDO := Lib.hid (ldo_any d hx (ha.doOk (2176 * i) hh hr) (by omega) (by omega) (HD.out.el d (List.mem_of_getElem? hdi)))
      have HA1 := Lib.hid (ha.road (by omega) d)
      have HG1 := Lib.hid (gp_road ha hgp d)
      have y0 := hcell 0 _ rfl
      have y1 := hcell 1 _ rfl
      have y2 := hcell 2 _ rfl
      have y3 := hcell 3 _ rfl
      have y4 := hcell 4 _ rfl
      have y5 := hcell 5 _ rfl
      have y6 := hcell 6 _ rfl
      simp only [Nat.add_zero] at y0
      unfold Rd.v at HDO
      have HH1 : Hid ((roadPl s d).h.length ≤ 60 ∧ (roadPl s d).r.length ≤ 60) := Lib.hid ⟨cap_len _, cap_len _⟩
      generalize roadPl s d = s' at *
      have HLT := Lib.hid hlt
      clear hx ha hh hr hdi hd1 hcell hold HL HLA hgp HGP
      go_wp2_with (go_at_call 28; refine HDO.out.mono ?_; rintro e w5 ⟨rfl, hx5⟩; have HX5 := Lib.hid hx5; clear hx5)
      go_roundw
      case rel => exact ⟨i + 1, s', HLT.out, by go_num, by rw [show 2176 * (i + 1) = 2176 * i + 2176 from by omega]; exact HX5.out, HA1.out, HH1.out.1, HH1.out.2, HG1.out⟩
      case measure => have := HLT.out; simp [intOf]; omega
    · obtain rfl : i = n := by omega
      have l2 : ¬ (i : Int) < (i : Int) := by omega
      have HX := Lib.hid hx
      have HA := Lib.hid ha
      have HG := Lib.hid hgp
      have HST := Lib.hid (hx.state ha.c)
      unfold cstV at HST
      have hhl : s.h.length ≤ 1000 := by omega
      clear hx ha hh hr hold HL HLA hgp HGP hlt
      go_upto_region 11 with fail
      go_cut [71] (fun v wx => v = .bool (!s.c.conn) ∧ ∃ wz, wz = wx ∧ LkX w gl gc gt s (2176 * i) wz)
      case first => as_aux_lemma =>
        go_wp2_with (first
          | (go_at_call 15; refine HST.out.mono ?_; rintro e w6 ⟨rfl, hb6⟩; have HX6 := Lib.hid (HX.out.below hb6); clear hb6)
          | (rw [field_conn]))
        go_meet
        exact ⟨rfl, _, rfl, HX6.out⟩
      case rest =>
      obtain ⟨rfl, w6, rfl, hx6⟩ := hcut
      have HX6 := Lib.hid hx6
      clear hx6 HX HST
      go_upto_if 71 with fail
      go_cut [] (fun wx => ∃ wz s1, wz = wx ∧ LkX w gl gc gt s1 (2176 * i) wz ∧ LAll i s1 ∧ GP pat s1.c ∧ s1.c.conn = true)
      case first => as_aux_lemma =>
        cases hcn : s.c.conn with
        | true =>
          go_wp2_with fail
          go_meet
          exact ⟨_, s, rfl, HX6.out, HA.out, HG.out, hcn⟩
        | false =>
          have HC1 : Hid ((connPl s).c.conn = true ∧ GP pat (connPl s).c) := Lib.hid (by
            rw [conn_of HA.out.over hcn]
            exact ⟨rfl, (fun e => by cases e), HG.out.2⟩)
          go_wp2_with (go_at_call 32; refine (lconn_any HX6.out HA.out.c hhl).mono ?_; rintro e w7 ⟨rfl, hx7⟩; have HX7 := Lib.hid hx7; clear hx7)
          go_meet
          exact ⟨_, _, rfl, HX7.out, HA.out.conn, HC1.out.2, HC1.out.1⟩
      case rest =>
      obtain ⟨w7, s1, rfl, hx7, ha7, hg7, hc7⟩ := hcut
      have HA7 := Lib.hid ha7
      have HG7 := Lib.hid hg7
      have HC7 := Lib.hid hc7
      obtain ⟨k, f, rfl, rfl, rfl, hk, hh1, hr1, hi1⟩ := hx7
      have HCA := Lib.hid hk.cutAll
      have HI1 := Lib.hid hi1
      have hlk := hk.lk.lt
      have htl := hk.ty.blk.lt
      have hgt : k.gl ≠ k.t.g := Blk.ne_ hk.lk hk.ty.blk (by decide)
      have y1 : w7.cell? ⟨k.gl, 1, none⟩ = some (.pointer (some ⟨k.t.g, 0, none⟩)) := hk.lk.cell 1
      have y2 : w7.cell? ⟨k.gl, 2, none⟩ = some k.hv := hk.lk.cell 2
      have y3 : w7.cell? ⟨k.gl, 3, none⟩ = some k.rv := hk.lk.cell 3
      have y4 := hk.lk.frozen 2
      have y5 := hk.lk.frozen 3
      have y6 : w7.cell? ⟨k.t.g, 5, none⟩ = some (.slice k.t.kA 0 k.t.kc) := hk.ty.blk.cell 5
      have y7 : w7.cell? ⟨k.t.g, 6, none⟩ = some (.int .i64 0) := hk.ty.blk.cell 6
      have y8 := hk.ty.blk.frozen 5
      have y9 := hk.ty.blk.frozen 6
      clear hk hh1 hr1 hi1 HX6 HA HG ha7 hg7 hc7 w6
      go_upto_region 16 with fail
      have hx9 : LkX w k.gl k.p.g k.t.g ⟨s1.c, s1.y, [], [], s1.i⟩ (2176 * i) ((((w7.setCell ⟨k.gl, 2, none⟩ (.slice none 0 0)).setCell ⟨k.gl, 3, none⟩ (.slice none 0 0)).setCell ⟨k.t.g, 5, none⟩ (.slice none 0 0)).setCell ⟨k.t.g, 6, none⟩ (.int .i64 0)) := HCA.out.toX rfl rfl rfl (Nat.le_refl _) rfl rfl HI1.out
      have ha9 : LAll i ⟨s1.c, s1.y, [], [], s1.i⟩ := HA7.out.less (fun b hb => by cases hb) fun b hb => by cases hb
      generalize (((w7.setCell ⟨k.gl, 2, none⟩ (.slice none 0 0)).setCell ⟨k.gl, 3, none⟩ (.slice none 0 0)).setCell ⟨k.t.g, 5, none⟩ (.slice none 0 0)).setCell ⟨k.t.g, 6, none⟩ (.int .i64 0) = w9 at hx9 ⊢
      have HX9 := Lib.hid hx9
      have HA9 := Lib.hid ha9
      have HST := Lib.hid (hx9.state ha9.c)
      unfold cstV at HST
      dsimp only at HST
      clear hx9 ha9 HCA HI1 hlk htl hgt y1 y2 y3 y4 y5 y6 y7 y8 y9 HA7
      generalize k.gl = gl at *
      generalize k.p.g = gc at *
      generalize k.t.g = gt at *
      obtain ⟨c, y, h0, r0, is⟩ := s1
      dsimp only at HX9 HA9 HST HG7 HC7
      go_upto_region 17 with (go_at_call 15; refine HST.out.mono ?_; rintro e w10 ⟨rfl, hb10⟩; have HX10 := Lib.hid (HX9.out.below hb10); clear hb10)
      have hx11 : LkX w gl gc gt ⟨c, y, [], [], is⟩ (2176 * i) (w10.alloc (.cells (cstA c) 45)) := HX10.out.below ((Below.refl _ _).alloc (Nat.le_refl _) _)
      have hb11 : Blk (w10.alloc (.cells (cstA c) 45)) w10.heap.size 45 (cstA c) := Blk.new _ _ _
      have HGE := Lib.hid HX10.out.old_.size
      unfold cstA at hx11 hb11
      generalize w10.alloc (.cells #[.int .u64 (c.tok : Int), .bool c.conn, .bool c.greet, .int .u64 (c.iss : Int), .int .u64 (c.rep : Int), .int .u64 (c.ev : Int), .int .i64 (c.wait : Int), .bool c.over, .int .i64 c.reason] 45) = w11 at hx11 hb11 ⊢
      have HX11 := Lib.hid hx11
      have HB11 : Hid (Blk w11 w10.heap.size 45 (cstA c)) := Lib.hid hb11
      have y3 : w11.cell? ⟨w10.heap.size, 3, none⟩ = some (.int .u64 (c.iss : Int)) := hb11.cell 3
      have y4 : w11.cell? ⟨w10.heap.size, 4, none⟩ = some (.int .u64 (c.rep : Int)) := hb11.cell 4
      clear hx11 hb11 HX10 HX9 HST
      generalize w10.heap.size = b15 at *
      obtain ⟨m, hm⟩ : ∃ m : Nat, (m : Int) = (c.iss : Int) - (c.rep : Int) := ⟨c.iss - c.rep, by have := HA9.out.c.rp; dsimp only at this; omega⟩
      have hml : m ≤ 1760000000000 := by have := HA9.out.c.is; dsimp only at this; omega
      have e1 : IntKind.u64.wrap ((c.iss : Int) - (c.rep : Int)) = (m : Int) := by rw [← hm]; simp [IntKind.wrap, IntKind.bits, IntKind.signed]; omega
      have e2 : IntKind.i64.wrap (m : Int) = (m : Int) := by rw [IntKind.wrap_i64]; omega
      have e3 : IntKind.i64.wrap ((m : Int) + 1) = (m : Int) + 1 := by rw [IntKind.wrap_i64]; omega
      go_upto_block 2 with fail
      have HNE : Hid (need c ≤ m + 1) := Lib.hid (by unfold need; split <;> omega)
      have HM1 := Lib.hid hm
      clear y3 y4 hm e1 e2 e3
      go_cut [] (fun wx => ∃ wz c2 y2 D, wz = wx ∧ LkX w gl gc gt ⟨c2, y2, [], [], is⟩ D wz ∧ LAll i ⟨c2, y2, [], [], is⟩ ∧ c2.rep = c2.iss ∧ Blk wz b15 45 (cstA c))
      case first => as_aux_lemma =>
        go_wp2_with fail
        go_loopw [17] (fun v wr => ∃ (n2 : Nat) (c2 : Cl) (y2 : Ty), n2 ≤ m + 1 ∧ v = .int .i64 (n2 : Int) ∧ LkX w gl gc gt ⟨c2, y2, [], [], is⟩ (2176 * (i + n2)) wr ∧ LAll i ⟨c2, y2, [], [], is⟩ ∧ GP pat c2 ∧ c2.conn = true ∧ need c2 + n2 ≤ m + 1 ∧ Blk wr b15 45 (cstA c)) (fun v _ => (m + 1) - (intOf v).toNat)
        case atStart => exact ⟨0, c, y, Nat.zero_le _, rfl, HX11.out, HA9.out, HG7.out, HC7.out, HNE.out, HB11.out⟩
        case round =>
          clear HX11 HA9 HG7 HC7 HNE HB11
          obtain ⟨n2, c2, y2, hn2, rfl, hx, ha, hg, hc, hne, hb⟩ := hrel
          have HX := Lib.hid hx
          have HA := Lib.hid ha
          have HG := Lib.hid hg
          have HC := Lib.hid hc
          have HNE := Lib.hid hne
          have HB := Lib.hid hb
          by_cases hlt : n2 < m + 1
          · have l2 : (n2 : Int) < (c.iss : Int) - (c.rep : Int) + 1 := by have := HM1.out; omega
            have HTK := Lib.hid (hx.tick (pat : Int) ha.c (by omega) hb)
            have HT0 := Lib.hid (ha.tick0 (pat := pat) (by omega))
            dsimp only at HTK HT0
            clear hx ha hg hc hne hb
            go_upto_region 22 with (go_at_call 24; refine HTK.out.mono ?_; rintro e w12 ⟨v12, l12, k9, f9, rfl, kg, kc, kt, hk, k1, k2, k3, row, lis, lab, hb12⟩; obtain ⟨A12, c12, rfl, _, _⟩ := row.form; have HK := Lib.hid hk; have HK9 := Lib.hid (And.intro kg (And.intro kc kt)); have HK123 := Lib.hid (And.intro k1 (And.intro k2 k3)); have HROW := Lib.hid row; have HLIS := Lib.hid lis; have HLAB := Lib.hid lab; have HB12 := Lib.hid hb12; clear kg kc kt hk k1 k2 k3 row lis lab hb12)
            clear HTK HX HB
            have HRB := Lib.hid (round_break HA.out HC.out HG.out)
            have HTF := Lib.hid (tick_full HA.out.c HC.out HA.out.over HG.out.2)
            have HRO := Lib.hid fun q rest => round_ok HA.out (by omega) HC.out HG.out (q := q) (rest := rest)
            dsimp only at HRB HTF HRO
            have hln : l12.length = (tickF c2 (pat : Int)).1.length := by have := congrArg List.length HLIS.out; simpa using this
            rcases hT : tickF c2 (pat : Int) with ⟨qs, c3⟩
            rw [hT] at hln HRB HRO HLIS HT0 HK HTF
            cases qs with
            | nil =>
              have h0 : l12.length = 0 := hln
              rw [h0]
              clear hln h0
              have he3 : c3 = { c2 with wait := 0 } := congrArg Prod.snd HTF.out
              have hr3 := HRB.out rfl
              have HX3 : Hid (LkX w gl gc gt ⟨c3, y2, [], [], is⟩ (2176 * (i + n2)) w12) := Lib.hid (HK.out.toX HK9.out.1 HK9.out.2.1 HK9.out.2.2 (Nat.le_refl _) HK123.out.1 HK123.out.2.1 HK123.out.2.2)
              have HRI : Hid (c3.rep = c3.iss) := Lib.hid (by rw [he3]; exact hr3)
              clear he3 hr3 hT
              go_wp2
              go_meet
              exact ⟨_, c3, y2, _, rfl, HX3.out, HT0.out, HRI.out, HB12.out⟩
            | cons q rest =>
              obtain ⟨hq, p9, out9, hp9, hokp, h16, hall, hgp, hcn, hnd⟩ := HRO.out q rest rfl
              obtain ⟨g1, A1, nc1, cc1, rfl, hg1, hg2, hn12, hcell, hrd⟩ := HROW.out.first_ HLIS.out
              obtain ⟨kg, kc, kt⟩ := HK9.out
              have HTY := Lib.hid (LkS.toyW q A1 nc1 cc1 HK.out.drew_ HK123.out.1 HK123.out.2.1 HK123.out.2.2 HA.out.yok (by omega) hq hrd.drew HB12.out.drew (HLAB.out _ (.inl rfl)) hg2)
              rw [kg, kc, kt] at HTY
              have hcl : w12.cell? ⟨gl, 1, none⟩ = some (.pointer (some ⟨gt, 0, none⟩)) := by
                have := HK.out.lk.cell 1
                rw [kg, kt] at this
                exact this
              have hz : ((l12.length : Int) == 0) = false := by rw [hn12]; exact beq_eq_false_iff_ne.2 (by omega)
              have HOU := Lib.hid hp9
              have HOK := Lib.hid hokp
              have HALL := Lib.hid hall
              have HGC := Lib.hid (And.intro hgp (And.intro hcn hnd))
              have HZ0 : Hid (w12.cell? ⟨g1, 0, none⟩ = some (.slice A1 nc1 cc1)) := Lib.hid hcell
              have HZ1 := Lib.hid hcl
              have hl12 : (0 : Int) < (l12.length : Int) := by rw [hn12]; omega
              clear hln hT hq hp9 hokp h16 hall hgp hcn hnd hrd hg1 hg2 hn12 kg kc kt HK HK9 HK123 HROW HLAB HLIS HRB HTF HRO hcell hcl
              generalize l12.length = n12 at hz hl12 ⊢
              have hl13 : 0 < n12 := by omega
              go_upto_region 23 with fail
              clear hz
              have hcl : w12.cell? ⟨gl, 1, none⟩ = some (.pointer (some ⟨gt, 0, none⟩)) := HZ1.out
              have hcell : w12.cell? ⟨g1, 0, none⟩ = some (.slice A1 nc1 cc1) := HZ0.out
              go_region_held3 (fun W => W.cell? ⟨gl, 1, none⟩ = some (.pointer (some ⟨gt, 0, none⟩)) ∧ W.cell? ⟨g1, 0, none⟩ = some (.slice A1 nc1 cc1)) (first | go_keep | exact hk14)
                (first | (go_at_call 33; refine HTY.out.mono ?_; rintro e w14 ⟨v14, l14, rfl, hx14, row14, lis14, hb14, hc14, hh14⟩; obtain ⟨A14, c14, rfl, _, _⟩ := row14.form; have HX14 := Lib.hid hx14; have HROW14 := Lib.hid row14; have HLIS14 := Lib.hid lis14; have HB14 := Lib.hid hb14; have hk14 : w14.cell? ⟨gl, 1, none⟩ = some (.pointer (some ⟨gt, 0, none⟩)) ∧ w14.cell? ⟨g1, 0, none⟩ = some (.slice A1 nc1 cc1) := ⟨hc14, (by unfold World.cell?; rw [hh14]; exact HZ0.out)⟩; clear hx14 row14 lis14 hb14 hc14 hh14))
              rw [HOU.out] at HLIS14
              obtain ⟨g2, A2, nc2, cc2, rfl, hg3, hg4, hn14, hcell2, hrd2⟩ := HROW14.out.first_ HLIS14.out
              have hnc2 : nc2 ≤ 1088 := by have h1 := frm_len HOK.out; have h2 := hrd2.len1; have h3 := HOK.out.2.2.2; omega
              have hz : (0 : Int) < (l14.length : Int) := by rw [hn14]; omega
              have HRC := Lib.hid (HX14.out.recv A2 nc2 cc2 (frm p9) HT0.out.c (by omega) hrd2 hnc2 (by omega) HB14.out)
              dsimp only at HRC
              clear hg3 hg4 hn14 hrd2 hcell HROW14 HLIS14 HTY HX14 HB14
              generalize l14.length = n14 at hz ⊢
              have hz14 : 0 < n14 := by omega
              go_wp2_with (go_at_call 22; refine HRC.out.mono ?_; rintro e w15 ⟨v15, l15, rfl, hx15, row15, hb15⟩; have HX15 := Lib.hid hx15; have HB15 := Lib.hid hb15; clear hx15 row15 hb15)
              go_roundw
              case rel => exact ⟨n2 + 1, _, _, by omega, by go_num, by rw [show 2176 * (i + (n2 + 1)) = 2176 * (i + n2) + 2176 from by omega]; exact HX15.out, HALL.out, HGC.out.1, HGC.out.2.1, by have := HGC.out.2.2; have := HNE.out; omega, HB15.out⟩
              case measure => simp [intOf]; omega
          · have l2 : ¬ (n2 : Int) < (c.iss : Int) - (c.rep : Int) + 1 := by have := HM1.out; omega
            have HRI : Hid (c2.rep = c2.iss) := Lib.hid (by
              have h1 := HNE.out
              have h2 := HA.out.c.rp
              dsimp only at h2
              unfold need at h1
              split at h1 <;> omega)
            clear hx ha hg hc hne hb
            go_wp2
            go_meet
            exact ⟨_, c2, y2, _, rfl, HX.out, HA.out, HRI.out, HB.out⟩
      case rest =>
      obtain ⟨w13, c4, y4, D4, rfl, hx4, ha4, hri, hb4⟩ := hcut
      have HST := Lib.hid (hx4.state ha4.c)
      unfold cstV at HST
      dsimp only at HST
      have HX4 := Lib.hid hx4
      have HA4 := Lib.hid ha4
      have HRI := Lib.hid hri
      have HB4 := Lib.hid hb4
      have y0 := hb4.frozen 0
      have y1 := hb4.lt
      clear hx4 ha4 hri hb4 HX11 HA9 HG7 HC7 HNE HB11
      go_upto_region 27 with (go_at_call 15; refine HST.out.mono ?_; rintro e w16 ⟨rfl, hb16⟩; have HX16 := Lib.hid (HX4.out.below hb16); have hb17 := HB4.out.below hb16 y1; have HB16 := Lib.hid hb17; have x0 : w16.cell? ⟨b15, 0, none⟩ = some (.int .u64 (c.tok : Int)) := hb17.cell 0; have z0 : w16.frozen? ⟨b15, 0, none⟩ = false := hb17.frozen 0; have x1 : w16.cell? ⟨b15, 1, none⟩ = some (.bool c.conn) := hb17.cell 1; have z1 : w16.frozen? ⟨b15, 1, none⟩ = false := hb17.frozen 1; have x2 : w16.cell? ⟨b15, 2, none⟩ = some (.bool c.greet) := hb17.cell 2; have z2 : w16.frozen? ⟨b15, 2, none⟩ = false := hb17.frozen 2; have x3 : w16.cell? ⟨b15, 3, none⟩ = some (.int .u64 (c.iss : Int)) := hb17.cell 3; have z3 : w16.frozen? ⟨b15, 3, none⟩ = false := hb17.frozen 3; have x4 : w16.cell? ⟨b15, 4, none⟩ = some (.int .u64 (c.rep : Int)) := hb17.cell 4; have z4 : w16.frozen? ⟨b15, 4, none⟩ = false := hb17.frozen 4; have x5 : w16.cell? ⟨b15, 5, none⟩ = some (.int .u64 (c.ev : Int)) := hb17.cell 5; have z5 : w16.frozen? ⟨b15, 5, none⟩ = false := hb17.frozen 5; have x6 : w16.cell? ⟨b15, 6, none⟩ = some (.int .i64 (c.wait : Int)) := hb17.cell 6; have z6 : w16.frozen? ⟨b15, 6, none⟩ = false := hb17.frozen 6; have x7 : w16.cell? ⟨b15, 7, none⟩ = some (.bool c.over) := hb17.cell 7; have z7 : w16.frozen? ⟨b15, 7, none⟩ = false := hb17.frozen 7; have x8 : w16.cell? ⟨b15, 8, none⟩ = some (.int .i64 c.reason) := hb17.cell 8; have z8 : w16.frozen? ⟨b15, 8, none⟩ = false := hb17.frozen 8; clear hb16 hb17)
      clear x0 x1 x2 x3 x4 x5 x6 x7 x8 z0 z1 z2 z3 z4 z5 z6 z7 z8 y0 y1 HX4 HST HB4
      have hx17 := put_free c c4 HX16.out HB16.out HGE.out
      have hb17 := put_blk c c4 HB16.out
      generalize ((((((((w16.setCell ⟨b15, 0, none⟩ (.int .u64 (c4.tok : Int))).setCell ⟨b15, 1, none⟩ (.bool c4.conn)).setCell ⟨b15, 2, none⟩ (.bool c4.greet)).setCell ⟨b15, 3, none⟩ (.int .u64 (c4.iss : Int))).setCell ⟨b15, 4, none⟩ (.int .u64 (c4.rep : Int))).setCell ⟨b15, 5, none⟩ (.int .u64 (c4.ev : Int))).setCell ⟨b15, 6, none⟩ (.int .i64 (c4.wait : Int))).setCell ⟨b15, 7, none⟩ (.bool c4.over)).setCell ⟨b15, 8, none⟩ (.int .i64 c4.reason) = W at hx17 hb17 ⊢
      have y3 : W.cell? ⟨b15, 3, none⟩ = some (.int .u64 (c4.iss : Int)) := hb17.cell 3
      have y4 : W.cell? ⟨b15, 4, none⟩ = some (.int .u64 (c4.rep : Int)) := hb17.cell 4
      rw [HRI.out] at y4
      have HX17 := Lib.hid hx17
      clear hx17 hb17 HX16 HB16
      have HLR := Lib.hid (lright_any HX17.out HA4.out.c (by omega) HA4.out.sh HA4.out.prl HA4.out.pre HA4.out.rep HA4.out.reps (by have h1 := HA4.out.yok.le; have h2 := HA4.out.prl; omega))
      go_wp2_with (go_at_call 29; refine HLR.out.mono ?_; rintro e w18 ⟨rfl, hb18⟩; have HX18 := Lib.hid (HX17.out.below hb18); clear hb18)
      go_ret
      exact ⟨rfl, HX18.out.old_⟩
end Go.Proofs.Ytjhkfpemcplaaaa
namespace Go.Proofs.Ytjhkfpemcplaaaa
open Go.Joins Go.ChangeShapes Go.WideShapes Go.ChangeAt Go.RowKit

theorem through_any (nonce : Nat) (win pat kp : Int) (A : Option Addr) (cc : Nat) (ds : List Rd) (w : World) (hno : nonce < 18446744073709551616) (hd : RsIn w A ds) (hn9 : ds.length ≤ 1760000000000) :
    Calls Try.prog 7 #[.int .u64 (nonce : Int), .int .i64 win, .int .i64 pat, .int .i64 kp, .slice A ds.length cc] w (EndTrueP w) := by
  by_cases h : 1 ≤ nonce ∧ 1 ≤ win ∧ win ≤ 16 ∧ 1 ≤ pat ∧ pat ≤ 1000
  · obtain ⟨h1, h2, h3, h4, h5⟩ := h
    obtain ⟨win, rfl⟩ := Int.eq_ofNat_of_zero_le (show 0 ≤ win by omega)
    obtain ⟨pat, rfl⟩ := Int.eq_ofNat_of_zero_le (show 0 ≤ pat by omega)
    exact through_yes nonce win pat kp A ds.length cc ds w h1 hno (by omega) (by omega) (by omega) (by omega) hd rfl hn9
  · exact through_no nonce win pat kp A ds.length cc w h

namespace LawThrough
theorem own : ownKnob Try.prog.godebug = none := by kernel_rfl
theorem laidOut : laidOutB Try.prog = true := by kernel_rfl

set_option maxRecDepth 100000 in
theorem lifted (os : Os) (started : os.Started) (H : Type) (enc : TypeId × Value → H) :
    ReturnsInHanded {} Try.checked os 7 .any (Rows.clientThroughSpec.pre6 enc Try.prog Try.f7 Rows.clientThroughRow.domain false) (Rows.clientThroughSpec.post enc Try.prog Try.f7 false true false false) := by
  refine returnsInHanded_of_change_sized (C := Try.checked) own started (by kernel_rfl) Try.func7
    (ChangeSpec.witness6 (enc := enc) (C := Try.checked) false ⟨#[], #[.int .u64 0, .int .i64 0, .int .i64 0, .int .i64 0, .slice none 0 0], []⟩ 8 (by kernel_rfl) (by kernel_rfl) (by kernel_rfl) (by kernel_rfl)) ?_
  intro W base args ds gs before hval0 hW hcnd hsz0 _
  have hval : ∀ (j : Nat) t v, Try.f7.params[j]? = some t → args[j]? = some v → Value.okWide Try.prog W .any base t v := hval0
  have hW' := hW
  obtain ⟨p, q, hA0, hV, rfl, hfz, hnd⟩ := hW
  have hA : DataW.TrodAll enc Try.prog W 0 (fun _ => true) true Try.f7.params.toList args.toList ds p := hA0
  rw [Try.params7] at hA hval
  obtain ⟨v0, vs0, d0, ds0, p0, q0, hargs, rfl, rfl, h0, r0⟩ := trodAll_cons hA
  obtain ⟨v1, vs1, d1, ds1, p1, q1, rfl, rfl, rfl, h1, r1⟩ := trodAll_cons r0
  obtain ⟨v2, vs2, d2, ds2, p2, q2, rfl, rfl, rfl, h2, r2⟩ := trodAll_cons r1
  obtain ⟨v3, vs3, d3, ds3, p3, q3, rfl, rfl, rfl, h3, r3⟩ := trodAll_cons r2
  obtain ⟨v4, vs4, d4, ds4, p4, q4, rfl, rfl, rfl, h4, r4⟩ := trodAll_cons r3
  obtain ⟨rfl, rfl, rfl⟩ := trodAll_nil r4
  obtain rfl : args = #[v0, v1, v2, v3, v4] := by cases args; simp_all
  obtain ⟨rfl, rfl⟩ := trodVars_none hV
  have k0 := h0
  have k1 := h1
  have k2 := h2
  have k3 := h3
  have k4 := h4
  have lt0 : ∀ x ∈ p0, x.block < W.heap.size := by obtain ⟨m, hm⟩ := k0; exact DataW.trod_lt m _ _ _ hm
  have lt1 : ∀ x ∈ p1, x.block < W.heap.size := by obtain ⟨m, hm⟩ := k1; exact DataW.trod_lt m _ _ _ hm
  have lt2 : ∀ x ∈ p2, x.block < W.heap.size := by obtain ⟨m, hm⟩ := k2; exact DataW.trod_lt m _ _ _ hm
  have lt3 : ∀ x ∈ p3, x.block < W.heap.size := by obtain ⟨m, hm⟩ := k3; exact DataW.trod_lt m _ _ _ hm
  have lt4 : ∀ x ∈ p4, x.block < W.heap.size := by obtain ⟨m, hm⟩ := k4; exact DataW.trod_lt m _ _ _ hm
  obtain ⟨f0, g0⟩ := h0
  obtain ⟨f1, g1⟩ := h1
  obtain ⟨f2, g2⟩ := h2
  obtain ⟨f3, g3⟩ := h3
  obtain ⟨f4, g4⟩ := h4
  obtain ⟨z0, rfl⟩ := okWide_int Try.underlying22 (hval 0 22 v0 rfl rfl)
  obtain ⟨win, rfl⟩ := okWide_int Try.underlying3 (hval 1 3 v1 rfl rfl)
  obtain ⟨pat, rfl⟩ := okWide_int Try.underlying3 (hval 2 3 v2 rfl rfl)
  obtain ⟨kp, rfl⟩ := okWide_int Try.underlying3 (hval 3 3 v3 rfl rfl)
  obtain ⟨A0, l0, c0, rfl⟩ := okWide_slice Try.underlying73 (hval 4 73 v4 rfl rfl)
  obtain ⟨r2, hr2, _, wf2⟩ := DataW.trod_int Try.underlying22 g0
  simp only [Value.cells, List.cons.injEq, and_true, Value.int.injEq, true_and] at hr2
  subst hr2
  obtain ⟨nonce, rfl, hno⟩ := u64_of_wf wf2
  have hsz : (DataW.weightsEach Try.prog (Try.f7.params.toList ++ Rows.clientThroughSpec.plain.varTypes Try.prog) ([d0, d1, d2, d3, d4] ++ [])).all (· ≤ reachBytes) = true := hsz0
  obtain ⟨A, cc, dl, hv, hdi, hdl⟩ := roads_in g4 (wt_each hsz (j := 4) (t := 73) (by rw [Try.params7]; rfl) rfl)
  injection hv with e1 e2 e3
  subst e1 e2 e3
  clear hsz hsz0
  clear hA0 hval0
  refine (through_any nonce win pat kp A0 c0 dl W hno hdi hdl).mono fun e W' ⟨he, bel⟩ => ?_
  subst he
  exact ⟨_, rfl, _, _, _, [], _, [], hW', trodAll_mk1 (shut_bool Try.underlying4 _), (trodAll_cons_mk (Below.trod laidOut (by kernel_rfl) (of_decide_eq_true (by kernel_rfl)) k0 bel lt0) (trodAll_cons_mk (Below.trod laidOut (by kernel_rfl) (of_decide_eq_true (by kernel_rfl)) k1 bel lt1) (trodAll_cons_mk (Below.trod laidOut (by kernel_rfl) (of_decide_eq_true (by kernel_rfl)) k2 bel lt2) (trodAll_cons_mk (Below.trod laidOut (by kernel_rfl) (of_decide_eq_true (by kernel_rfl)) k3 bel lt3) (trodAll_cons_mk (Below.trod laidOut (by kernel_rfl) (of_decide_eq_true (by kernel_rfl)) k4 bel lt4) trodAll_mk0))))), rfl, bel.frame _, fun h => by cases h⟩

theorem over : Rows.clientThroughRow.holds Try.pinned (OpenSpec.ofChange Rows.clientThroughSpec) :=
  OpenClaim.holds_of_wide 7 Try.f7 rfl rfl rfl rfl rfl rfl rfl ⟨rfl, rfl, rfl, rfl, rfl⟩ rfl rfl rfl rfl rfl (by kernel_rfl) Try.func7 (by kernel_rfl)
    (of_decide_eq_true (by kernel_rfl)) (by unfold Func.isWrapper; first | (rw [if_pos (by decide +kernel)]; kernel_rfl) | (rw [if_neg (by decide +kernel)]; exact ⟨rfl, rfl⟩))
    (fun os started H enc _ => lifted os started H enc)

end LawThrough

/-- the statement -/
theorem clientThrough_holds : Rows.ClientThroughSaid := LawThrough.over
end Go.Proofs.Ytjhkfpemcplaaaa
