/-
  The link, plain: arrivals; a whole step. No statement of the seat is proved here.
-/
import Derived.Test.YtjhkfpemcplaaaaEnN
import Derived.Test.YtjhkfpemcplaaaaClW
namespace Go.Proofs.Ytjhkfpemcplaaaa
open Go.RowKit

section
variable {N : Nat} {s : Pl}
theorem tyL_pre {y : Ty} {q : Pk} {i : List (List UInt8)} (pre : ∀ (j : Nat) (b : List UInt8), y.app[j]? = some b → i[j]? = some b) (prl : y.app.length ≤ i.length) (hq : i[q.seq - 1]? = some q.body) :
    (∀ (j : Nat) (b : List UInt8), (tyL y q)[j]? = some b → i[j]? = some b) ∧ (tyL y q).length ≤ i.length ∧ (∀ (j : Nat) (b : List UInt8), y.app[j]? = some b → (tyL y q)[j]? = some b) := by
  unfold tyL
  split
  · rename_i h
    have hn : i[y.app.length]? = some q.body := by rw [h.1] at hq; simpa using hq
    refine ⟨fun j b hb => ?_, ?_, fun j b hb => ?_⟩
    · rcases Nat.lt_or_ge j y.app.length with hj | hj
      · rw [List.getElem?_append_left hj] at hb
        exact pre j b hb
      · rw [List.getElem?_append_right hj] at hb
        have hj0 : j = y.app.length := by
          have := (List.getElem?_eq_some_iff.1 hb).1
          simp at this
          omega
        subst hj0
        simp at hb
        rw [hn, hb]
    · have := (List.getElem?_eq_some_iff.1 hn).1
      simp
      omega
    · rw [List.getElem?_append_left (List.getElem?_eq_some_iff.1 hb).1]
      exact hb
  · exact ⟨pre, prl, fun _ _ e => e⟩
/-- a frame arrives at the toy -/
theorem LAll.toy (h : LAll N s) (hN : N ≤ 2199023255552) {q : Pk} (hq : HereQ s.i s.c.nonce s.c.rep q) : LAll N ⟨s.c, (tyF s.y q).2, s.h, s.r ++ (tyF s.y q).1.map frm, s.i⟩ := by
  have hy := h.yok
  obtain ⟨hok, htk, hkd⟩ := hq
  have hal : s.y.app.length ≤ N := hy.le
  have same : LAll N ⟨s.c, s.y, s.h, s.r ++ ([] : List Pk).map frm, s.i⟩ := by
    have := h
    simpa using this
  unfold tyF
  split
  · rename_i hk
    have hsq : q.seq = s.c.nonce := by
      rcases hkd with ⟨_, e⟩ | ⟨e, _⟩
      · exact e
      · omega
    split
    · rename_i hc
      refine ⟨h.c, h.sh, h.wi, ?_, h.bod, h.over, h.kept, ?_, fun _ => ?_, h.pre, h.prl, h.rep, h.reps, h.ack, h.here, fun b hb => ?_⟩
      · dsimp only
        split
        · exact hok.2.2.1
        · exact h.no
      · exact h.tok.imp id fun e => ⟨e.1, rfl⟩
      · dsimp only
        split
        · exact hsq
        · rename_i ht
          rcases hc with ⟨e, _⟩ | ⟨_, e⟩
          · exact absurd e ht
          · exact h.non e
      · rcases List.mem_append.1 hb with e | e
        · obtain ⟨q2, e1, e2⟩ := h.there b e
          exact ⟨q2, e1, e2.mono (fun _ _ e => e) (Nat.le_refl _) fun _ => rfl⟩
        · simp only [List.map_cons, List.map_nil, List.mem_singleton] at e
          subst e
          exact ⟨_, rfl, ⟨(show mayB 2 0 = true by decide), (show (5 : Nat) < 18446744073709551616 by decide), (show (0 : Nat) < 18446744073709551616 by decide), by dsimp only; omega⟩, rfl, rfl, .inl rfl⟩
    · exact same
  · split
    · rename_i hk
      obtain ⟨h1, h2, h3⟩ : 1 ≤ q.seq ∧ q.ack ≤ s.c.rep ∧ s.i[q.seq - 1]? = some q.body := by
        rcases hkd with ⟨e, _⟩ | ⟨_, e⟩
        · omega
        · exact e
      split
      · exact same
      · rename_i hb
        obtain ⟨p1, p2, p3⟩ := tyL_pre h.pre h.prl h3
        have hll := tyL_len s.y q
        have hiN : s.i.length ≤ N := by have h1 := h.c.is; have h2 := h.c.bl; rw [h.bod] at h2; omega
        refine ⟨h.c, h.sh, h.wi, h.no, h.bod, h.over, h.kept, h.tok, h.non, p1, p2, by have := h.rep; dsimp only; omega, fun j r hr => ?_, ?_, h.here, fun b hb2 => ?_⟩
        · have e := h.reps j r hr
          have hj := (List.getElem?_eq_some_iff.1 hr).1
          rw [h.c.rl] at hj
          dsimp only
          rw [tV_mono p3 (by omega) (by have := h.rep; omega)]
          exact e
        · dsimp only
          unfold tyA
          split
          · exact h2
          · exact h.ack
        · rcases List.mem_append.1 hb2 with e | e
          · obtain ⟨q2, e1, e2⟩ := h.there b e
            exact ⟨q2, e1, e2.mono p3 hll.1 id⟩
          · dsimp only at e
            split at e
            · cases e
            · rename_i hx
              simp only [List.map_cons, List.map_nil, List.mem_singleton] at e
              subst e
              have hbg : s.y.beg = true := by
                cases hbe : s.y.beg with
                | true => rfl
                | false => exact absurd (Or.inl hbe) hb
              have hbl := tB_len (tyL s.y q) q.seq
              refine ⟨_, rfl, ⟨?_, (show (5 : Nat) < 18446744073709551616 by decide), hok.2.2.1, by dsimp only; omega⟩, rfl, hbg, .inr ⟨rfl, h1, by dsimp only; omega, rfl⟩⟩
              dsimp only
              simp [mayB]
              omega
    · exact same
/-- a frame arrives at the client -/
theorem LAll.recv (h : LAll N s) (hN : N + 1 ≤ 2199023255552) {q : Pk} (hq : ThereQ s.y.app s.y.beg q) : LAll (N + 1) ⟨(recvF s.c (frm q)).2, s.y, s.h ++ (recvF s.c (frm q)).1.map frm, s.r, s.i⟩ := by
  obtain ⟨hok, htk, hbg, hkd⟩ := hq
  have hN' : N ≤ 2199023255552 := by omega
  have same : LAll (N + 1) ⟨s.c, s.y, s.h ++ ([] : List Pk).map frm, s.r, s.i⟩ := by
    have := h.mono
    simpa using this
  rw [recv_one hok h.kept h.over]
  split
  · exact same
  · have hpok := packF_ok h.c (q := q) hok.2.1 hok.2.2.1
    have hpsh := packF_short q h.sh
    unfold packF at hpok hpsh ⊢
    rcases hkd with hk | ⟨hk, h1, h2, h3⟩
    · rw [if_pos hk] at hpok hpsh ⊢
      unfold welF at hpok hpsh ⊢
      split
      · exact same
      · rename_i hc
        rw [if_neg hc] at hpok hpsh
        split
        · rename_i hg
          rw [if_pos hg] at hpok hpsh
          exact h.client (fs := []) hpok hpsh rfl h.over h.kept (.inr ⟨htk, hbg⟩) rfl (Nat.le_refl _) h.rep h.reps fun q hq => by cases hq
        · rename_i hg
          rw [if_neg hg] at hpok hpsh
          refine h.client hpok hpsh rfl h.over h.kept (.inr ⟨htk, hbg⟩) rfl (Nat.le_refl _) h.rep h.reps fun q2 hq2 => ?_
          obtain ⟨i, hi, rfl⟩ := List.mem_map.1 hq2
          have hi2 := List.mem_range.1 hi
          unfold Cl.last at hi2
          exact cmd_here hpok hN (.inr htk) (by omega) (by dsimp only; omega)
    · rw [if_neg (by omega), if_pos hk] at hpok hpsh ⊢
      unfold repF at hpok hpsh ⊢
      split
      · exact same
      · rename_i hc
        rw [if_neg hc] at hpok hpsh
        have hsq : q.seq = s.c.rep + 1 := Classical.byContradiction fun e => hc (.inr (.inl e))
        have hal : s.y.app.length ≤ N := h.yok.le
        have hg : getG q.body = some ⟨0, tV s.y.app q.seq, []⟩ := by rw [h3]; exact getG_reply (by decide) (tV_ok _ (by omega)) (tV_good _)
        rw [hg] at hpok hpsh ⊢
        dsimp only at hpok hpsh ⊢
        refine h.client hpok hpsh rfl h.over h.kept (.inl rfl) rfl (by dsimp only; omega) (by dsimp only; omega) (fun j r hr => ?_) fun q2 hq2 => ?_
        · dsimp only at hr
          rcases Nat.lt_or_ge j s.c.reps.length with hj | hj
          · rw [List.getElem?_append_left hj] at hr
            exact h.reps j r hr
          · rw [List.getElem?_append_right hj] at hr
            have hj0 : j = s.c.reps.length := by
              have := (List.getElem?_eq_some_iff.1 hr).1
              simp at this
              omega
            subst hj0
            simp at hr
            rw [← hr, h.c.rl, hsq]
        · split at hq2
          · rename_i h5
            rw [List.mem_singleton] at hq2
            subst hq2
            exact cmd_here hpok hN h.tk (by omega) h5.2
          · cases hq2
theorem getD_mem {l : List (List UInt8)} {i : Nat} (h : ¬ l = []) : l.getD (i % l.length) [] ∈ l := by
  have hp : 0 < l.length := List.length_pos_iff.2 h
  have hl := Nat.mod_lt i hp
  rw [List.getD_eq_getElem?_getD, List.getElem?_eq_getElem hl]
  exact List.getElem_mem hl
theorem LAll.arr (h : LAll N s) (hN : N + 1 ≤ 2199023255552) (cl : Bool) (i : Int) (st : Bool) : LAll (N + 1) (arrPl s cl i st) := by
  unfold arrPl
  split
  · split
    · exact h.mono
    · rename_i hb
      obtain ⟨q, e1, e2⟩ := h.here _ (getD_mem (i := i.toNat) fun e => hb (.inl e))
      rw [e1, tyB_frm e2.1]
      have h1 := (h.toy (by omega) e2).mono
      refine h1.less (l := if st = true then s.h else dropPl s.h i) (r := s.r ++ (tyF s.y q).1.map frm) (fun b hb => ?_) fun _ e => e
      split at hb
      · exact hb
      · exact mem_drop b hb
  · split
    · exact h.mono
    · rename_i hb
      obtain ⟨q, e1, e2⟩ := h.there _ (getD_mem (i := i.toNat) fun e => hb (.inl e))
      rw [e1]
      have h1 := h.recv hN e2
      refine h1.less (l := s.h ++ (recvF s.c (frm q)).1.map frm) (r := if st = true then s.r else dropPl s.r i) (fun _ e => e) fun b hb => ?_
      split at hb
      · exact hb
      · exact mem_drop b hb
theorem mem_cap {l : List (List UInt8)} : ∀ b ∈ cap60 l, b ∈ l := by
  intro b hb
  unfold cap60 at hb
  split at hb
  · exact List.mem_of_mem_drop hb
  · exact hb
theorem cap_len (l : List (List UInt8)) : (cap60 l).length ≤ 60 := by
  unfold cap60
  split
  · rw [List.length_drop]; omega
  · omega
theorem LAll.road (h : LAll N s) (hN : N + 1 ≤ 2199023255552) (d : Rd) : LAll (N + 1) (roadPl s d) := by
  have key : LAll (N + 1) (midPl s d) := by
    unfold midPl
    split
    · exact h.iss hN d
    · split
      · exact h.conn.mono
      · split
        · split
          · exact h.cut.mono
          · exact h.mono
        · split
          · exact h.arr hN _ _ _
          · split
            · exact h.arr hN _ _ _
            · split
              · exact (h.lose _ _).mono
              · exact (h.tick (by omega) _).mono
  exact key.less mem_cap mem_cap
theorem LAll.doOk (h : LAll N s) (D : Nat) (hh : s.h.length ≤ 60) (hr : s.r.length ≤ 60) : DoOk N D s := by
  refine ⟨h.c, h.yok, by omega, by omega, by have h1 := h.c.is; have h2 := h.c.bl; rw [h.bod] at h2; omega, fun b hb => ?_, fun b hb => ?_, fun b hb => ?_⟩
  · obtain ⟨q, e1, e2⟩ := h.here b hb
    exact ⟨q, e2.1, e1⟩
  · obtain ⟨q, e1, e2⟩ := h.there b hb
    exact ⟨q, e2.1, e1⟩
  · obtain ⟨q, rfl, e2⟩ := h.there b hb
    rw [recv_one e2.1 h.kept h.over]
    split
    · simp
    · exact packF_len h.c q
end
/-- at the beginning -/
theorem LAll.start {nonce win pat w : Nat} (h1 : 1 ≤ nonce) (hn : nonce < 18446744073709551616) (h2 : 1 ≤ win) (h3 : win ≤ 16) (h4 : 1 ≤ pat) (h5 : pat ≤ 1000) (h6 : 1 ≤ w) (h7 : w ≤ 16) : LAll 0 ⟨Cl.new nonce win pat, ⟨w, false, 0, [], 0⟩, [], [], []⟩ := by
  have ok : (Cl.new nonce win pat).Ok 0 := by constructor <;> simp [Cl.new, h1, hn, h2, h3, h4, h5]
  exact ⟨ok, short_new _ _ _, ⟨h6, h7⟩, (show (0 : Nat) < _ by decide), rfl, rfl, rfl, .inl rfl, (fun e => by cases e), (fun j b hb => by simp at hb), Nat.le_refl _, Nat.le_refl _, (fun j r hr => by simp [Cl.new] at hr), Nat.le_refl _, (fun b hb => by cases hb), fun b hb => by cases hb⟩
end Go.Proofs.Ytjhkfpemcplaaaa
