/-
  The link, plain: what every script keeps. No statement of the seat is proved here.
-/
import Derived.Test.YtjhkfpemcplaaaaEnL
import Derived.Test.YtjhkfpemcplaaaaOnB
namespace Go.Proofs.Ytjhkfpemcplaaaa
open Go.RowKit

theorem kept_same {c : Cl} (h : c.kept = []) : ({ c with kept := [] } : Cl) = c := by
  obtain ⟨a1, a2, a3, a4, a5, a6, a7, a8, a9, b1, b2, b3, b4, b5, b6, b7⟩ := c
  simp only at h
  subst h
  rfl
theorem recv_one {c : Cl} {q : Pk} (h : okPk q) (hk : c.kept = []) (ho : c.over = false) : recvF c (frm q) = if c.conn = false then ([], c) else packF c q := by
  unfold recvF
  rw [hk, List.nil_append, feed_frame h]
  dsimp only
  rw [kept_same hk]
  split
  · rfl
  · simp [packsF, ho]
def HereQ (i : List (List UInt8)) (nonce rep : Nat) (q : Pk) : Prop := okPk q ∧ (q.tok = 0 ∨ q.tok = 5) ∧ ((q.kind = 1 ∧ q.seq = nonce) ∨ (q.kind = 3 ∧ 1 ≤ q.seq ∧ q.ack ≤ rep ∧ i[q.seq - 1]? = some q.body))
def ThereQ (app : List (List UInt8)) (beg : Bool) (q : Pk) : Prop := okPk q ∧ q.tok = 5 ∧ beg = true ∧ (q.kind = 2 ∨ (q.kind = 4 ∧ 1 ≤ q.seq ∧ q.seq ≤ app.length ∧ q.body = tB app q.seq))
theorem HereQ.mono {i i' : List (List UInt8)} {nonce rep rep' : Nat} {q : Pk} (h : HereQ i nonce rep q) (hi : ∀ (j : Nat) (b : List UInt8), i[j]? = some b → i'[j]? = some b) (hr : rep ≤ rep') : HereQ i' nonce rep' q := by
  obtain ⟨h1, h2, h3⟩ := h
  refine ⟨h1, h2, h3.imp id ?_⟩
  rintro ⟨a1, a2, a3, a4⟩
  exact ⟨a1, a2, by omega, hi _ _ a4⟩
theorem tV_mono {app app' : List (List UInt8)} (h : ∀ (j : Nat) (b : List UInt8), app[j]? = some b → app'[j]? = some b) {s : Nat} (h1 : 1 ≤ s) (h2 : s ≤ app.length) : tV app' s = tV app s := by
  obtain ⟨b, hb⟩ : ∃ b, app[s - 1]? = some b := ⟨_, List.getElem?_eq_getElem (by omega)⟩
  unfold tV
  rw [List.getD_eq_getElem?_getD, List.getD_eq_getElem?_getD, hb, h _ _ hb]
theorem ThereQ.mono {app app' : List (List UInt8)} {beg beg' : Bool} {q : Pk} (h : ThereQ app beg q) (ha : ∀ (j : Nat) (b : List UInt8), app[j]? = some b → app'[j]? = some b) (hl : app.length ≤ app'.length) (hb : beg = true → beg' = true) : ThereQ app' beg' q := by
  obtain ⟨h1, h2, h3, h4⟩ := h
  refine ⟨h1, h2, hb h3, h4.imp id ?_⟩
  rintro ⟨a1, a2, a3, a4⟩
  exact ⟨a1, a2, by omega, by rw [a4]; unfold tB; rw [tV_mono ha a2 a3]⟩
theorem cmd_here {N k : Nat} {c : Cl} (ok : c.Ok N) (hN : N ≤ 2199023255552) (ht : c.tok = 0 ∨ c.tok = 5) (h1 : 1 ≤ k) (h2 : k ≤ c.iss) : HereQ c.bodies c.nonce c.rep (c.cmd k) := by
  have hb := ok.bl
  have hi := ok.is
  have hr := ok.rp
  obtain ⟨b, hbb⟩ : ∃ b, c.bodies[k - 1]? = some b := ⟨_, List.getElem?_eq_getElem (by omega)⟩
  have hg : c.bodies.getD (k - 1) [] = b := by rw [List.getD_eq_getElem?_getD, hbb]; rfl
  have hl := ok.bs b (List.mem_of_getElem? hbb)
  refine ⟨⟨?_, by unfold Cl.cmd; dsimp only; exact ok.tk, by unfold Cl.cmd; dsimp only; omega, by unfold Cl.cmd; dsimp only; omega⟩, ht, .inr ⟨rfl, h1, Nat.le_refl _, ?_⟩⟩
  · unfold Cl.cmd
    dsimp only
    rw [hg]
    simp [mayB, hl]
  · unfold Cl.cmd
    dsimp only
    rw [hg]
    exact hbb
theorem hello_here {N : Nat} {c : Cl} (ok : c.Ok N) (ht : c.tok = 0 ∨ c.tok = 5) : HereQ c.bodies c.nonce c.rep c.hello :=
  ⟨⟨(show mayB 1 0 = true by decide), ok.tk, ok.no.2, (show (0 : Nat) < 18446744073709551616 by decide)⟩, ht, .inl ⟨rfl, rfl⟩⟩
/-- what every script keeps -/
structure LAll (N : Nat) (s : Pl) : Prop where
  c : s.c.Ok N
  sh : s.c.Short
  wi : 1 ≤ s.y.win ∧ s.y.win ≤ 16
  no : s.y.nonce < 18446744073709551616
  bod : s.c.bodies = s.i
  over : s.c.over = false
  kept : s.c.kept = []
  tok : s.c.tok = 0 ∨ (s.c.tok = 5 ∧ s.y.beg = true)
  non : s.y.beg = true → s.y.nonce = s.c.nonce
  pre : ∀ (j : Nat) (b : List UInt8), s.y.app[j]? = some b → s.i[j]? = some b
  prl : s.y.app.length ≤ s.i.length
  rep : s.c.rep ≤ s.y.app.length
  reps : ∀ (j : Nat) (r : Rp), s.c.reps[j]? = some r → r = ⟨0, tV s.y.app (j + 1), []⟩
  ack : s.y.ack ≤ s.c.rep
  here : ∀ b ∈ s.h, ∃ q, b = frm q ∧ HereQ s.i s.c.nonce s.c.rep q
  there : ∀ b ∈ s.r, ∃ q, b = frm q ∧ ThereQ s.y.app s.y.beg q
section
variable {N : Nat} {s : Pl}
theorem LAll.tk (h : LAll N s) : s.c.tok = 0 ∨ s.c.tok = 5 := h.tok.imp id fun e => e.1
theorem LAll.mono (h : LAll N s) : LAll (N + 1) s := ⟨h.c.mono (Nat.le_succ N), h.sh, h.wi, h.no, h.bod, h.over, h.kept, h.tok, h.non, h.pre, h.prl, h.rep, h.reps, h.ack, h.here, h.there⟩
theorem LAll.yok (h : LAll N s) : s.y.Ok N := ⟨h.wi, h.no, Nat.le_trans h.ack h.rep, by have := h.prl; have h1 := h.c.is; have h2 := h.c.bl; rw [h.bod] at h2; omega⟩
/-- only what is under way has changed -/
theorem LAll.less (h : LAll N s) {l r : List (List UInt8)} (hl : ∀ b ∈ l, b ∈ s.h) (hr : ∀ b ∈ r, b ∈ s.r) : LAll N { s with h := l, r := r } :=
  ⟨h.c, h.sh, h.wi, h.no, h.bod, h.over, h.kept, h.tok, h.non, h.pre, h.prl, h.rep, h.reps, h.ack, fun b hb => h.here b (hl b hb), fun b hb => h.there b (hr b hb)⟩
/-- the client has moved, its frames are here -/
theorem LAll.client (h : LAll N s) {N' : Nat} {c' : Cl} {fs : List Pk} (hc : c'.Ok N') (hsh : c'.Short) (h1 : c'.bodies = s.c.bodies) (h2 : c'.over = false) (h3 : c'.kept = []) (h4 : c'.tok = s.c.tok ∨ (c'.tok = 5 ∧ s.y.beg = true)) (h5 : c'.nonce = s.c.nonce) (h6 : s.c.rep ≤ c'.rep) (h7 : c'.rep ≤ s.y.app.length)
    (h8 : ∀ (j : Nat) (r : Rp), c'.reps[j]? = some r → r = ⟨0, tV s.y.app (j + 1), []⟩) (hf : ∀ q ∈ fs, HereQ c'.bodies c'.nonce c'.rep q) : LAll N' { s with c := c', h := s.h ++ fs.map frm } := by
  refine ⟨hc, hsh, h.wi, h.no, h1.trans h.bod, h2, h3, ?_, fun e => (h.non e).trans h5.symm, h.pre, h.prl, h7, h8, Nat.le_trans h.ack h6, fun b hb => ?_, h.there⟩
  · rcases h4 with e | e
    · rw [e]; exact h.tok
    · exact .inr e
  · rcases List.mem_append.1 hb with e | e
    · obtain ⟨q, e1, e2⟩ := h.here b e
      exact ⟨q, e1, by dsimp only; rw [h5]; exact e2.mono (fun _ _ e => e) h6⟩
    · obtain ⟨q, hq, rfl⟩ := List.mem_map.1 e
      have := hf q hq
      rw [h1, h.bod] at this
      exact ⟨q, rfl, this⟩
theorem LAll.conn (h : LAll N s) : LAll N (connPl s) := by
  unfold connPl
  have hok := connF_ok h.c
  split
  · rename_i he
    unfold connF at he hok ⊢
    rw [if_neg (by rw [h.over]; decide)] at he hok ⊢
    split at he
    · cases he
    · rename_i hcn
      rw [if_neg hcn] at hok ⊢
      exact h.client (c' := { s.c with conn := true, greet := false, wait := 0 }) (fs := [s.c.hello]) hok h.sh rfl h.over h.kept (.inl rfl) rfl (Nat.le_refl _) h.rep h.reps fun q hq => by
        rw [List.mem_singleton] at hq
        subst hq
        exact hello_here hok h.tk
  · rename_i he
    have e : (connF s.c).2.2 = s.c := by
      unfold connF at he ⊢
      rw [if_neg (by rw [h.over]; decide)] at he ⊢
      split at he
      · rename_i hcn; rw [if_pos hcn]
      · exact absurd rfl he
    rw [e]
    exact h
theorem LAll.cut (h : LAll N s) : LAll N (cutPl s) := by
  unfold cutPl
  have hok := cutF_ok h.c
  split
  · rename_i he
    unfold cutF at he hok ⊢
    split at he
    · cases he
    · rename_i hcn
      rw [if_neg hcn] at hok ⊢
      exact ⟨hok, h.sh, h.wi, h.no, h.bod, h.over, rfl, h.tok, h.non, h.pre, h.prl, h.rep, h.reps, h.ack, (fun b hb => by cases hb), fun b hb => by cases hb⟩
  · rename_i he
    have e : (cutF s.c).2 = s.c := by
      unfold cutF at he ⊢
      split at he
      · rename_i hcn; rw [if_pos hcn]
      · exact absurd rfl he
    rw [e]
    exact h
theorem LAll.tick (h : LAll N s) (hN : N ≤ 2199023255552) (n : Int) : LAll N (tickPl s n) := by
  unfold tickPl
  have hok := tickF_ok h.c n
  unfold tickF at hok ⊢
  split
  · have := h.client (c' := s.c) (fs := []) h.c h.sh rfl h.over h.kept (.inl rfl) rfl (Nat.le_refl _) h.rep h.reps (fun q hq => by cases hq)
    simpa using this
  · rename_i h0
    rw [if_neg h0] at hok
    split
    · rename_i h1
      rw [if_pos h1] at hok
      exact h.client (fs := []) hok h.sh rfl h.over h.kept (.inl rfl) rfl (Nat.le_refl _) h.rep h.reps (fun q hq => by cases hq)
    · rename_i h1
      rw [if_neg h1] at hok
      refine h.client (c' := { s.c with wait := 0 }) hok h.sh rfl h.over h.kept (.inl rfl) rfl (Nat.le_refl _) h.rep h.reps fun q hq => ?_
      dsimp only at hq
      split at hq
      · rw [List.mem_singleton] at hq
        subst hq
        show HereQ s.c.bodies s.c.nonce s.c.rep s.c.hello
        exact hello_here h.c h.tk
      · split at hq
        · rename_i h2
          rw [List.mem_singleton] at hq
          subst hq
          show HereQ s.c.bodies s.c.nonce s.c.rep (s.c.cmd (s.c.rep + 1))
          exact cmd_here h.c hN h.tk (by omega) h2
        · cases hq
theorem LAll.iss (h : LAll N s) (hN : N + 1 ≤ 2199023255552) (d : Rd) : LAll (N + 1) (issPl s d) := by
  unfold issPl
  have hbl : d.good = true → d.body.length ≤ 1024 := fun e => (d.good_iff.1 e).2.2.2.2
  have hok := issueF_ok h.c (good := d.good) (body := d.body) hbl
  split
  · rename_i he
    have hg := issue_good he
    rw [hg] at he hok ⊢
    unfold issueF at he hok ⊢
    rw [if_neg (by decide), if_neg (by rw [h.over]; decide)] at he hok ⊢
    split at he
    · cases he
    · rename_i hq
      rw [if_neg hq] at hok ⊢
      dsimp only at hok ⊢
      have hi : ∀ (j : Nat) (b : List UInt8), s.i[j]? = some b → (s.i ++ [d.body])[j]? = some b := fun j b hb => by
        rw [List.getElem?_append_left (List.getElem?_eq_some_iff.1 hb).1]
        exact hb
      refine ⟨hok, h.sh, h.wi, h.no, by dsimp only; rw [h.bod], h.over, h.kept, h.tok, h.non, fun j b hb => hi j b (h.pre j b hb), by have := h.prl; simp; omega, h.rep, h.reps, h.ack, fun b hb => ?_, h.there⟩
      rcases List.mem_append.1 hb with e | e
      · obtain ⟨q, e1, e2⟩ := h.here b e
        exact ⟨q, e1, e2.mono hi (Nat.le_refl _)⟩
      · obtain ⟨q, hq2, rfl⟩ := List.mem_map.1 e
        split at hq2
        · rw [List.mem_singleton] at hq2
          subst hq2
          have := cmd_here hok hN h.tk (k := s.c.iss + 1) (by omega) (Nat.le_refl _)
          rw [show ({ s.c with bodies := s.c.bodies ++ [d.body], iss := s.c.iss + 1 } : Cl).bodies = s.i ++ [d.body] from by dsimp only; rw [h.bod]] at this
          exact ⟨_, rfl, this⟩
        · cases hq2
  · rename_i he
    have e : (issueF s.c d.good d.body).2.2.2 = s.c := by
      unfold issueF at he ⊢
      split at he
      · rename_i h1; rw [if_pos h1]
      · rename_i h1
        rw [if_neg h1]
        split at he
        · rename_i h2; rw [if_pos h2]
        · rename_i h2
          rw [if_neg h2]
          split at he
          · rename_i h3; rw [if_pos h3]
          · exact absurd rfl he
    rw [e]
    exact h.mono
theorem mem_drop {l : List (List UInt8)} {i : Int} : ∀ b ∈ dropPl l i, b ∈ l := by
  intro b hb
  unfold dropPl at hb
  split at hb
  · exact hb
  · rcases List.mem_append.1 hb with e | e
    · exact List.mem_of_mem_take e
    · exact List.mem_of_mem_drop e
theorem LAll.lose (h : LAll N s) (cl : Bool) (i : Int) : LAll N (losePl s cl i) := by
  unfold losePl
  split
  · exact h.less (r := s.r) mem_drop fun _ e => e
  · exact h.less (l := s.h) (fun _ e => e) mem_drop
end
end Go.Proofs.Ytjhkfpemcplaaaa
