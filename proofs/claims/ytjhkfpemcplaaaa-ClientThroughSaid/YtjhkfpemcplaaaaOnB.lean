/-
  ClientOnce, plain. No statement of the seat is proved here.
-/
import Derived.Test.YtjhkfpemcplaaaaOnA
namespace Go.Proofs.Ytjhkfpemcplaaaa
open Go.RowKit

theorem packsF_ok (l : List Pk) : ∀ {N : Nat} {c : Cl}, c.Ok N → (∀ q ∈ l, okPk q) → (packsF c l).2.Ok (N + l.length) := by
  induction l with
  | nil => intro N c h _; exact h
  | cons q l ih =>
    intro N c h hq
    unfold packsF
    split
    · exact h.mono (by omega)
    · have h1 := hq q (by simp)
      have := ih (packF_ok (q := q) h h1.2.1 h1.2.2.1) fun x hx => hq x (by simp [hx])
      exact this.mono (by simp; omega)
theorem recvF_ok {N : Nat} {c : Cl} (h : c.Ok N) (chunk : List UInt8) : (recvF c chunk).2.Ok (N + 1088 + chunk.length) := by
  unfold recvF
  split
  · exact h.mono (by omega)
  · have h1 : ({ c with kept := (feed (c.kept ++ chunk)).2.1 } : Cl).Ok N := ⟨h.no, h.wi, h.pa, h.bl, h.bs, h.rp, h.rl, h.is, h.tk, h.ev, h.el, h.wt, feed_lt _⟩
    have h2 := packsF_ok (feed (c.kept ++ chunk)).1 h1 (feed_all _).2
    have h3 := (feed_cnt (c.kept ++ chunk)).1
    have h4 := h.kp
    rw [List.length_append] at h3
    exact h2.mono (by omega)
theorem connF_ok {N : Nat} {c : Cl} (h : c.Ok N) : (connF c).2.2.Ok N := by
  unfold connF
  split
  · exact h
  · split
    · exact h
    · exact ⟨h.no, h.wi, h.pa, h.bl, h.bs, h.rp, h.rl, h.is, h.tk, h.ev, h.el, Nat.zero_le _, h.kp⟩
theorem cutF_ok {N : Nat} {c : Cl} (h : c.Ok N) : (cutF c).2.Ok N := by
  unfold cutF
  split
  · exact h
  · exact ⟨h.no, h.wi, h.pa, h.bl, h.bs, h.rp, h.rl, h.is, h.tk, h.ev, h.el, h.wt, (by simp)⟩
theorem tickF_ok {N : Nat} {c : Cl} (h : c.Ok N) (n : Int) : (tickF c n).2.Ok N := by
  unfold tickF
  split
  · exact h
  · split
    · exact ⟨h.no, h.wi, h.pa, h.bl, h.bs, h.rp, h.rl, h.is, h.tk, h.ev, h.el, by dsimp only; omega, h.kp⟩
    · exact ⟨h.no, h.wi, h.pa, h.bl, h.bs, h.rp, h.rl, h.is, h.tk, h.ev, h.el, Nat.zero_le _, h.kp⟩
theorem issueF_ok {N : Nat} {c : Cl} (h : c.Ok N) {good : Bool} {body : List UInt8} (hb : good = true → body.length ≤ 1024) : (issueF c good body).2.2.2.Ok (N + 1) := by
  unfold issueF
  split
  · exact h.mono (by omega)
  · split
    · exact h.mono (by omega)
    · split
      · exact h.mono (by omega)
      · rename_i h1 _ _
        exact issue_ok h (hb (by simpa using h1))
theorem Dd.good_len {d : Dd} (h : d.good = true) : d.bodyC.length ≤ 1024 := (d.good_iff.1 h).2.2.2.2
theorem actF_ok {N : Nat} {c : Cl} (h : c.Ok N) (d : Dd) : (actF c d).2.Ok (N + d.bb.length + 4000) := by
  have hc := d.chunk_len
  unfold actF
  split
  · exact (issueF_ok h fun e => d.good_len e).mono (by omega)
  · split
    · exact (connF_ok h).mono (by omega)
    · split
      · exact (cutF_ok h).mono (by omega)
      · split
        · exact (recvF_ok h _).mono (by omega)
        · split
          · exact (tickF_ok h _).mono (by omega)
          · exact h.mono (by omega)
/-- only packets change what a client keeps of replies and events -/
theorem actF_reps {c : Cl} {d : Dd} (h : ¬ (4 ≤ d.K.tmod 10 ∧ d.K.tmod 10 ≤ 7)) : (actF c d).2.reps = c.reps ∧ (actF c d).2.evs = c.evs := by
  unfold actF
  split
  · unfold issueF
    repeat' split
    all_goals exact ⟨rfl, rfl⟩
  · split
    · unfold connF
      repeat' split
      all_goals exact ⟨rfl, rfl⟩
    · split
      · unfold cutF
        repeat' split
        all_goals exact ⟨rfl, rfl⟩
      · split
        · unfold tickF
          repeat' split
          all_goals exact ⟨rfl, rfl⟩
        · exact ⟨rfl, rfl⟩
theorem actF_short {c : Cl} (h : c.Short) (d : Dd) : (actF c d).2.Short := by
  by_cases hk : 4 ≤ d.K.tmod 10 ∧ d.K.tmod 10 ≤ 7
  · unfold actF
    rw [if_neg (by omega), if_neg (by omega), if_neg (by omega), if_pos hk]
    exact recvF_short _ h
  · obtain ⟨h1, h2⟩ := actF_reps (c := c) hk
    exact ⟨by rw [h1]; exact h.1, by rw [h2]; exact h.2⟩
theorem packF_grows (c : Cl) (q : Pk) : ∃ l, (packF c q).2.reps = c.reps ++ l := by
  unfold packF
  split
  · refine ⟨[], ?_⟩
    unfold welF
    repeat' split
    all_goals simp
  · split
    · unfold repF
      split
      · exact ⟨[], by simp⟩
      · cases getG q.body with
        | none => exact ⟨[], by simp⟩
        | some r => exact ⟨[r], rfl⟩
    · split
      · refine ⟨[], ?_⟩
        unfold evtF
        split
        · simp
        · cases getG q.body with
          | none => simp
          | some r => simp
      · split
        · refine ⟨[], ?_⟩
          unfold refF
          split <;> simp
        · exact ⟨[], by simp⟩
theorem packsF_grows (l : List Pk) : ∀ (c : Cl), ∃ r, (packsF c l).2.reps = c.reps ++ r := by
  induction l with
  | nil => intro c; exact ⟨[], by simp [packsF]⟩
  | cons q l ih =>
    intro c
    unfold packsF
    split
    · exact ⟨[], by simp⟩
    · obtain ⟨r1, h1⟩ := packF_grows c q
      obtain ⟨r2, h2⟩ := ih (packF c q).2
      exact ⟨r1 ++ r2, by rw [h2, h1, List.append_assoc]⟩
theorem recvF_grows (c : Cl) (chunk : List UInt8) : ∃ r, (recvF c chunk).2.reps = c.reps ++ r := by
  unfold recvF
  split
  · exact ⟨[], by simp⟩
  · exact packsF_grows _ _
theorem actF_grows (c : Cl) (d : Dd) : ∃ r, (actF c d).2.reps = c.reps ++ r := by
  by_cases hk : 4 ≤ d.K.tmod 10 ∧ d.K.tmod 10 ≤ 7
  · unfold actF
    rw [if_neg (by omega), if_neg (by omega), if_neg (by omega), if_pos hk]
    exact recvF_grows _ _
  · exact ⟨[], by rw [(actF_reps (c := c) hk).1]; simp⟩
/-! ## what a reader keeps -/
theorem packF_kept (c : Cl) (q : Pk) : (packF c q).2.kept = c.kept ∧ (packF c q).2.conn = c.conn := by
  unfold packF
  split
  · unfold welF
    repeat' split
    all_goals exact ⟨rfl, rfl⟩
  · split
    · unfold repF
      split
      · exact ⟨rfl, rfl⟩
      · cases getG q.body with
        | none => exact ⟨rfl, rfl⟩
        | some r => exact ⟨rfl, rfl⟩
    · split
      · unfold evtF
        split
        · exact ⟨rfl, rfl⟩
        · cases getG q.body with
          | none => exact ⟨rfl, rfl⟩
          | some r => exact ⟨rfl, rfl⟩
      · split
        · unfold refF
          split <;> exact ⟨rfl, rfl⟩
        · exact ⟨rfl, rfl⟩
theorem packsF_kept (l : List Pk) : ∀ (c : Cl), (packsF c l).2.kept = c.kept ∧ (packsF c l).2.conn = c.conn := by
  induction l with
  | nil => intro c; exact ⟨rfl, rfl⟩
  | cons q l ih =>
    intro c
    unfold packsF
    split
    · exact ⟨rfl, rfl⟩
    · have h1 := packF_kept c q
      have h2 := ih (packF c q).2
      exact ⟨h2.1.trans h1.1, h2.2.trans h1.2⟩
theorem recvF_kept (c : Cl) (chunk : List UInt8) : (recvF c chunk).2.conn = c.conn ∧ (recvF c chunk).2.kept = if c.conn = false then c.kept else (feed (c.kept ++ chunk)).2.1 := by
  unfold recvF
  split
  · exact ⟨rfl, rfl⟩
  · have := packsF_kept (feed (c.kept ++ chunk)).1 { c with kept := (feed (c.kept ++ chunk)).2.1 }
    exact ⟨this.2, this.1⟩
/-- the packet of a deed -/
def Dd.pk (d : Dd) : Pk := ⟨d.k.toNat, d.t, d.s, d.a, d.body⟩
theorem Dd.pk_k {d : Dd} (h : mayB d.k d.body.length = true) : ((d.pk.kind : Nat) : Int) = d.k := by
  have := (mayB_no h).1
  show ((d.k.toNat : Nat) : Int) = d.k
  omega
theorem Dd.pk_ok {d : Dd} {w : World} (hd : d.In w) (h : mayB d.k d.body.length = true) : okPk d.pk := ⟨by rw [Dd.pk_k h]; exact h, hd.t, hd.s, hd.a⟩
theorem Dd.chunk_pk {d : Dd} (hb : d.bb = []) (h5 : d.K.tmod 10 ≠ 5) (h : mayB d.k d.body.length = true) : d.chunk = frm d.pk := by
  unfold Dd.chunk chunkB frm
  rw [if_neg (by rw [h]; simp [h5]), hb, List.append_nil, Dd.pk_k h]
  rfl
theorem Dd.chunk_no {d : Dd} (hb : d.bb = []) (h : d.K.tmod 10 = 5 ∨ mayB d.k d.body.length = false) : d.chunk = [] := by
  unfold Dd.chunk chunkB
  rw [if_pos h, hb]
/-- are there bytes that are not a frame? -/
def rawF (raw : Bool) (d : Dd) : Bool := (if d.K.tmod 10 = 3 then false else raw) || decide (d.K.tmod 10 = 5) || decide (0 < d.bb.length)
/-- nothing waits where all that came were frames, and where there is no connection -/
def Clean (raw : Bool) (c : Cl) : Prop := (raw = false ∨ c.conn = false) → c.kept = []
theorem rawF_no {raw : Bool} {d : Dd} (h : rawF raw d = false) : (d.K.tmod 10 = 3 ∨ raw = false) ∧ d.K.tmod 10 ≠ 5 ∧ d.bb = [] := by
  simp only [rawF, Bool.or_eq_false_iff, decide_eq_false_iff_not] at h
  obtain ⟨⟨h1, h2⟩, h3⟩ := h
  refine ⟨?_, h2, List.length_eq_zero_iff.1 (by omega)⟩
  by_cases h4 : d.K.tmod 10 = 3
  · exact .inl h4
  · rw [if_neg h4] at h1; exact .inr h1
theorem clean_act {raw : Bool} {c : Cl} {d : Dd} {w : World} (hd : d.In w) (h : Clean raw c) : Clean (rawF raw d) (actF c d).2 := by
  by_cases hk : 4 ≤ d.K.tmod 10 ∧ d.K.tmod 10 ≤ 7
  · have e : actF c d = recvF c d.chunk := by
      unfold actF
      rw [if_neg (by omega), if_neg (by omega), if_neg (by omega), if_pos hk]
    rw [e]
    obtain ⟨h1, h2⟩ := recvF_kept c d.chunk
    intro hr
    rw [h1] at hr
    rw [h2]
    by_cases hc : c.conn = false
    · rw [if_pos hc]; exact h (.inr hc)
    · rw [if_neg hc]
      have hr2 : rawF raw d = false := by
        rcases hr with hr | hr
        · exact hr
        · exact absurd hr hc
      obtain ⟨g1, g2, g3⟩ := rawF_no hr2
      have hkp : c.kept = [] := h (.inl (by rcases g1 with g1 | g1; omega; exact g1))
      rw [hkp, List.nil_append]
      cases hm : mayB d.k d.body.length with
      | true => rw [Dd.chunk_pk g3 g2 hm, feed_frame (Dd.pk_ok hd hm)]
      | false => rw [Dd.chunk_no g3 (.inr hm), feed_nil]
  · intro hr
    have hraw : rawF raw d = false → raw = false ∨ d.K.tmod 10 = 3 := fun e => (rawF_no e).1.symm
    have key : d.K.tmod 10 ≠ 3 → (actF c d).2.kept = c.kept ∧ ((actF c d).2.conn = false → c.conn = false) := by
      intro h3
      unfold actF
      split
      · unfold issueF
        repeat' split
        all_goals exact ⟨rfl, fun e => e⟩
      · split
        · unfold connF
          split
          · exact ⟨rfl, fun e => e⟩
          · split
            · exact ⟨rfl, fun e => e⟩
            · exact ⟨rfl, fun e => by cases e⟩
        · split
          · unfold tickF
            repeat' split
            all_goals exact ⟨rfl, fun e => e⟩
          · exact ⟨rfl, fun e => e⟩
    by_cases h3 : d.K.tmod 10 = 3
    · unfold actF
      rw [if_neg (by omega), if_neg (by omega), if_pos h3]
      unfold cutF
      split
      · rename_i hc; exact h (.inr hc)
      · rfl
    · obtain ⟨k1, k2⟩ := key h3
      rw [k1]
      refine h ?_
      rcases hr with hr | hr
      · rcases hraw hr with e | e
        · exact .inl e
        · exact absurd e h3
      · exact .inr (k2 hr)
/-- what a new reply was -/
theorem once_new {raw : Bool} {c : Cl} {d : Dd} {w : World} (hd : d.In w) (h : Clean raw c) (hr : rawF raw d = false) (hk : 4 ≤ d.K.tmod 10 ∧ d.K.tmod 10 ≤ 7) (hl : (actF c d).2.reps.length = c.reps.length + 1) (h4 : d.k = 4) :
    goodG d.body ∧ d.s = (actF c d).2.rep ∧ d.t = (actF c d).2.tok ∧ (actF c d).2.reps = c.reps ++ [repG d.body] := by
  have e : actF c d = recvF c d.chunk := by
    unfold actF
    rw [if_neg (by omega), if_neg (by omega), if_neg (by omega), if_pos hk]
  rw [e] at hl ⊢
  obtain ⟨g1, g2, g3⟩ := rawF_no hr
  have hkp : c.kept = [] := h (.inl (by rcases g1 with g1 | g1; omega; exact g1))
  unfold recvF at hl ⊢
  by_cases hc : c.conn = false
  · rw [if_pos hc] at hl; dsimp only at hl; omega
  · rw [if_neg hc] at hl ⊢
    rw [hkp, List.nil_append] at hl ⊢
    cases hm : mayB d.k d.body.length with
    | false =>
      rw [Dd.chunk_no g3 (.inr hm), feed_nil] at hl
      simp [packsF] at hl
    | true =>
      rw [Dd.chunk_pk g3 g2 hm, feed_frame (Dd.pk_ok hd hm)] at hl ⊢
      dsimp only at hl ⊢
      unfold packsF at hl ⊢
      by_cases ho : ({ c with kept := [] } : Cl).over = true
      · rw [if_pos ho] at hl; dsimp only at hl; omega
      · rw [if_neg ho] at hl ⊢
        unfold packsF at hl ⊢
        dsimp only at hl ⊢
        have hkk : d.pk.kind = 4 := by show d.k.toNat = 4; omega
        unfold packF at hl ⊢
        rw [if_neg (by omega), if_pos hkk] at hl ⊢
        unfold repF at hl ⊢
        split at hl
        · dsimp only at hl; omega
        · rename_i hn
          rw [if_neg hn]
          have hn2 : oursB { c with kept := [] } d.pk = true ∧ d.pk.seq = c.rep + 1 := by
            refine ⟨?_, ?_⟩
            · cases ho2 : oursB { c with kept := [] } d.pk with
              | true => rfl
              | false => exact absurd (.inl ho2) hn
            · exact Classical.byContradiction fun h9 => hn (.inr (.inl h9))
          by_cases hg : goodG d.body
          · have hgy : getG d.pk.body = some (repG d.body) := getG_yes hg
            rw [hgy]
            refine ⟨hg, hn2.2, ?_, rfl⟩
            have := hn2.1
            simp only [oursB, Bool.and_eq_true, decide_eq_true_eq] at this
            exact this.2
          · have hgn : getG d.pk.body = none := getG_no hg
            rw [hgn] at hl
            dsimp only at hl
            omega
end Go.Proofs.Ytjhkfpemcplaaaa
