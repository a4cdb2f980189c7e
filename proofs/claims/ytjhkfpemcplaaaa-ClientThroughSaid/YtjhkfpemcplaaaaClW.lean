/-
  ClientFresh, plain. No statement of the seat is proved here.
-/
import Derived.Test.YtjhkfpemcplaaaaClP
namespace Go.Proofs.Ytjhkfpemcplaaaa
open Go.RowKit

theorem getG_reply {err : Int} {vs : List (Nat × Int)} {text : List UInt8} (he : I64 err) (hv : ∀ v ∈ vs, v.1 < 18446744073709551616 ∧ I64 v.2) (hg : goodR err vs text) : getG (replyB err vs text) = some ⟨err, vs, text⟩ := by
  obtain ⟨h1, h2, h3⟩ := rep_dec err vs text he hv hg
  have h4 : goodG (replyB err vs text) := by
    unfold goodG
    rw [h1, h2, h3]
    exact ⟨rfl, rfl, hg⟩
  rw [getG_yes h4]
  unfold repG
  rw [h1, h2, h3]
/-- a reply that was read has at most 32 values -/
theorem getG_len {bs : List UInt8} {r : Rp} (h : getG bs = some r) : r.vals.length ≤ 32 ∧ r.text.length ≤ 512 := by
  by_cases hg : goodG bs
  · rw [getG_yes hg] at h
    injection h with h
    subst h
    unfold goodG at hg
    exact ⟨hg.2.2.1, hg.2.2.2.1⟩
  · rw [getG_no hg] at h
    cases h
/-- what a client keeps of replies and events is short -/
def Cl.Short (c : Cl) : Prop := (∀ r ∈ c.reps, r.vals.length ≤ 32) ∧ ∀ r ∈ c.evs, r.2.vals.length ≤ 32
theorem short_new (nonce win pat : Nat) : (Cl.new nonce win pat).Short := ⟨(fun r h => by cases h), fun r h => by cases h⟩
theorem packF_short {c : Cl} (q : Pk) (h : c.Short) : (packF c q).2.Short := by
  unfold packF
  split
  · unfold welF
    split
    · exact h
    · split <;> exact h
  · split
    · unfold repF
      split
      · exact h
      · split
        · exact h
        · rename_i r hr
          refine ⟨fun x hx => ?_, h.2⟩
          rcases List.mem_append.1 hx with hx | hx
          · exact h.1 x hx
          · rw [List.mem_singleton] at hx
            subst hx
            exact (getG_len hr).1
    · split
      · unfold evtF
        split
        · exact h
        · split
          · exact h
          · rename_i r hr
            refine ⟨h.1, fun x hx => ?_⟩
            rcases List.mem_append.1 hx with hx | hx
            · exact h.2 x hx
            · rw [List.mem_singleton] at hx
              subst hx
              exact (getG_len hr).1
      · split
        · unfold refF
          split <;> exact h
        · exact h
theorem packsF_short (l : List Pk) : ∀ {c : Cl}, c.Short → (packsF c l).2.Short := by
  induction l with
  | nil => intro c h; exact h
  | cons q l ih =>
    intro c h
    unfold packsF
    split
    · exact h
    · exact ih (packF_short q h)
theorem recvF_short {c : Cl} (chunk : List UInt8) (h : c.Short) : (recvF c chunk).2.Short := by
  unfold recvF
  split
  · exact h
  · exact packsF_short _ h
/-! ## the client of ClientFresh -/
def frC1 : Cl := { Cl.new 7 4 3 with conn := true }
def frC2 (body : List UInt8) : Cl := { frC1 with bodies := [body], iss := 1 }
def frC3 (body : List UInt8) : Cl := { frC2 body with tok := 1, greet := true }
def frC4 (body : List UInt8) (r : Rp) : Cl := { frC3 body with reps := [r], rep := 1, evs := [(3, r)], ev := 3 }
theorem fr_conn : connF (Cl.new 7 4 3) = ([⟨1, 0, 7, 0, []⟩], 0, frC1) := rfl
theorem fr_iss (body : List UInt8) : issueF frC1 true body = (1, [], 0, frC2 body) := rfl
theorem fr_recv1 (body : List UInt8) : recvF (frC2 body) (frm ⟨2, 1, 0, 0, []⟩) = ([⟨3, 1, 1, 0, body⟩], frC3 body) := by
  have hq : okPk ⟨2, 1, 0, 0, []⟩ := ⟨by decide, by decide, by decide, by decide⟩
  unfold recvF
  rw [if_neg (show ¬ (frC2 body).conn = false by simp [frC2, frC1]), show (frC2 body).kept ++ frm ⟨2, 1, 0, 0, []⟩ = frm ⟨2, 1, 0, 0, []⟩ from rfl, feed_frame hq]
  rfl
theorem fr_tick (body : List UInt8) : tickF (frC3 body) 3 = ([⟨3, 1, 1, 0, body⟩], frC3 body) := rfl
theorem packs_two {c : Cl} {a b : Pk} (h : c.over = false) (h2 : (packF c a).2.over = false) : packsF c [a, b] = ((packF c a).1 ++ (packF (packF c a).2 b).1, (packF (packF c a).2 b).2) := by
  rw [packsF, if_neg (by simp [h]), packsF, if_neg (by simp [h2]), packsF]
  simp
theorem fr_recv2 (body rb : List UInt8) (r : Rp) (h : getG rb = some r) (hb : rb.length ≤ 1024) : recvF (frC3 body) (frm ⟨4, 1, 1, 0, rb⟩ ++ frm ⟨5, 1, 3, 0, rb⟩) = ([], frC4 body r) := by
  have hm : ∀ k : Int, 1 ≤ k → k ≤ 7 → mayB k rb.length = true := fun k h1 h2 => by simp [mayB, h1, h2, hb]
  have h4 : okPk ⟨4, 1, 1, 0, rb⟩ := ⟨hm 4 (by decide) (by decide), (show (1 : Nat) < 18446744073709551616 by decide), (show (1 : Nat) < 18446744073709551616 by decide), (show (0 : Nat) < 18446744073709551616 by decide)⟩
  have h5 : okPk ⟨5, 1, 3, 0, rb⟩ := ⟨hm 5 (by decide) (by decide), (show (1 : Nat) < 18446744073709551616 by decide), (show (3 : Nat) < 18446744073709551616 by decide), (show (0 : Nat) < 18446744073709551616 by decide)⟩
  have hf := feed_round (x := frm ⟨4, 1, 1, 0, rb⟩) (q := []) (p := ⟨5, 1, 3, 0, rb⟩) (by rw [feed_frame h4]) (fun y hy => by cases hy) h5
  rw [List.append_nil, feed_frame h4] at hf
  have e1 : packF (frC3 body) ⟨4, 1, 1, 0, rb⟩ = ([], { frC3 body with reps := [r], rep := 1 }) := by
    show repF (frC3 body) ⟨4, 1, 1, 0, rb⟩ = _
    unfold repF
    rw [if_neg (by simp [oursB, frC3, frC2, frC1, Cl.new])]
    dsimp only
    rw [h]
    rfl
  have e2 : packF { frC3 body with reps := [r], rep := 1 } ⟨5, 1, 3, 0, rb⟩ = ([], frC4 body r) := by
    show evtF { frC3 body with reps := [r], rep := 1 } ⟨5, 1, 3, 0, rb⟩ = _
    unfold evtF
    rw [if_neg (by simp [oursB, frC3, frC2, frC1, Cl.new])]
    dsimp only
    rw [h]
    rfl
  unfold recvF
  rw [if_neg (show ¬ (frC3 body).conn = false by simp [frC3, frC2, frC1]), show (frC3 body).kept = [] from rfl, List.nil_append, hf]
  show packsF (frC3 body) [⟨4, 1, 1, 0, rb⟩, ⟨5, 1, 3, 0, rb⟩] = _
  rw [packs_two rfl (by rw [e1]; rfl), e1, e2]
  rfl
end Go.Proofs.Ytjhkfpemcplaaaa
