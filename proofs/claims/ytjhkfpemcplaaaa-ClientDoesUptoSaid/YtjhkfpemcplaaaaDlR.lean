/-
  ClientDoes: both clients, between two calls. No statement of the seat is proved here.
-/
import Derived.Test.YtjhkfpemcplaaaaDlQ
import Derived.Test.YtjhkfpemcplaaaaOnC
namespace Go.Proofs.Ytjhkfpemcplaaaa
open Go.RowKit

theorem byeF_ok {N : Nat} {c : Cl} (h : c.Ok N) : (byeF c).2.2.Ok N := by
  unfold byeF
  repeat' split
  all_goals first | exact h | exact ⟨h.no, h.wi, h.pa, h.bl, h.bs, h.rp, h.rl, h.is, h.tk, h.ev, h.el, h.wt, h.kp⟩ | exact ⟨h.no, h.wi, h.pa, h.bl, h.bs, h.rp, h.rl, h.is, h.tk, h.ev, h.el, Nat.zero_le _, h.kp⟩
/-- what a deed does to both -/
noncomputable def doF (c : Cl) (d : Dd) : Cl :=
  if 0 ≤ d.K.tmod 10 ∧ d.K.tmod 10 ≤ 8 then (actF c d).2 else if d.Z.tmod 7 = 0 then (byeF c).2.2 else c
theorem doF_ok {N : Nat} {c : Cl} (h : c.Ok N) (d : Dd) : (doF c d).Ok (N + d.bb.length + 4000) := by
  unfold doF
  split
  · exact actF_ok h d
  · split
    · exact (byeF_ok h).mono (by omega)
    · exact h.mono (by omega)
theorem doF_short {c : Cl} (h : c.Short) (d : Dd) : (doF c d).Short := by
  unfold doF
  split
  · exact actF_short h d
  · split
    · unfold byeF
      repeat' split
      all_goals exact h
    · exact h
/-- both clients, the program's and the document's -/
structure TwX (w0 : World) (g gd : Nat) (c c2 : Cl) (m m2 : Nat) (p q : Pa) (w : World) : Prop where
  ca : CA w0.heap.size w p c
  cd : CD w0.heap.size w q c2
  gp : p.g = g
  gq : q.g = gd
  ap : ∀ k, CF p k → ¬ CFe q k
  old : Below w0.heap.size w0 w
  d : p.d ≤ (m : Int)
  dq : q.d ≤ (m2 : Int)
section
variable {w0 w w' w1 : World} {g gd m m2 k : Nat} {p p' q q' : Pa} {c c' c2 : Cl} {F : Nat → Prop}
theorem TwX.below (h : TwX w0 g gd c c2 m m2 p q w) (hb : Below w.heap.size w w') : TwX w0 g gd c c2 m m2 p q w' :=
  ⟨h.ca.below hb, h.cd.below hb, h.gp, h.gq, h.ap, h.old.trans (hb.mono h.old.size), h.d, h.dq⟩
theorem TwX.chg (h : TwX w0 g gd c c2 m m2 p q w) (hc : Chg F w w') (h1 : ∀ k, F k → w0.heap.size ≤ k ∧ ¬ CF p k ∧ ¬ CFe q k) : TwX w0 g gd c c2 m m2 p q w' :=
  ⟨h.ca.chg hc fun k hk hf => (h1 k hf).2.1 hk, h.cd.chg hc fun k hk hf => (h1 k hf).2.2 hk, h.gp, h.gq, h.ap, h.old.trans (hc.below h.old.size fun i hi hf => by have := (h1 i hf).1; omega), h.d, h.dq⟩
theorem TwX.stepP (h : TwX w0 g gd c c2 m m2 p q w) (s : Stp w0.heap.size w p k c' p' w') : TwX w0 g gd c' c2 (m + k) m2 p' q w' :=
  ⟨s.ca, h.cd.chg s.chg fun i hi hc => h.ap i hc hi, s.g.trans h.gp, h.gq, fun i hi he => by
    rcases s.sub i hi with e | e
    · exact h.ap i e he
    · have := (h.cd.cfe he).2; omega, h.old.trans (s.chg.below h.old.size fun i hi hc => by have := (h.ca.lt hc).1; omega), by have := s.d; have := h.d; omega, h.dq⟩
theorem TwX.stepD (h : TwX w0 g gd c c2 m m2 p q w) (s : StpD w0.heap.size w q k c' q' w') : TwX w0 g gd c c' m (m2 + k) p q' w' :=
  ⟨h.ca.chg s.chg fun i hi hc => h.ap i hi (.inl hc), s.cd, h.gp, s.g.trans h.gq, fun i hi he => by
    rcases s.sube he with e | e
    · exact h.ap i hi e
    · have := (h.ca.lt hi).2; omega, h.old.trans (s.chg.below h.old.size fun i hi hc => by have := (h.cd.cfd hc).1; omega), h.d, by have := s.d; have := h.dq; omega⟩
theorem TwX.more (h : TwX w0 g gd c c2 m m2 p q w) {n n2 : Nat} (hn : m ≤ n) (hn2 : m2 ≤ n2) : TwX w0 g gd c c2 n n2 p q w := ⟨h.ca, h.cd, h.gp, h.gq, h.ap, h.old, by have := h.d; omega, by have := h.dq; omega⟩
/-- what is new behind a world in which the document's client stood stays where that one is called -/
theorem TwX.row (h : TwX w0 g gd c c2 m m2 p q w) {α : Type} {K : Kd α} {B : Nat} {v : Value} {l : List (QX α)} (hr : RowK K B w1 v l) (hB : w.heap.size ≤ B) (hc : Chg (CFd q) w1 w') : RowK K B w' v l :=
  hr.chg hc fun i hi e => by
    have h1 := (hr.lt hi).1
    have h2 := (h.cd.cfd e).2
    omega
end
/-- both have done the same -/
def DoP (w0 : World) (g gd : Nat) (c : Cl) (m : Nat) (e : Ending) (w' : World) : Prop := ∃ p q, e = .returned (.bool true) ∧ TwX w0 g gd c c m m p q w'
end Go.Proofs.Ytjhkfpemcplaaaa
