/-
  The link's do, its parts. No statement of the seat is proved here.
-/
import Derived.Test.YtjhkfpemcplaaaaEnJ
namespace Go.Proofs.Ytjhkfpemcplaaaa
open Go.RowKit

def cap60 (l : List (List UInt8)) : List (List UInt8) := if 60 < l.length then l.drop (l.length - 60) else l
def tickPl (s : Pl) (n : Int) : Pl := ⟨(tickF s.c n).2, s.y, s.h ++ (tickF s.c n).1.map frm, s.r, s.i⟩
/-- one thing of a script, ahead of the caps -/
noncomputable def midPl (s : Pl) (d : Rd) : Pl :=
  if d.K.tmod 10 = 0 ∨ d.K.tmod 10 = 1 then issPl s d
  else if d.K.tmod 10 = 2 then connPl s
  else if d.K.tmod 10 = 3 then (if d.Z.tmod 4 = 0 then cutPl s else s)
  else if d.K.tmod 10 = 4 ∨ d.K.tmod 10 = 5 then arrPl s (decide (d.K.tmod 10 = 4)) d.I false
  else if d.K.tmod 10 = 6 ∨ d.K.tmod 10 = 7 then arrPl s (decide (d.K.tmod 10 = 6)) d.I true
  else if d.K.tmod 10 = 8 then losePl s (decide (d.Z.tmod 2 = 0)) d.I
  else tickPl s d.Z
noncomputable def roadPl (s : Pl) (d : Rd) : Pl := { midPl s d with h := cap60 (midPl s d).h, r := cap60 (midPl s d).r }
section
variable {w0 w : World} {k : Lk} {c : Cl} {y : Ty} {D m hg ho hc : Nat} {f : Nat → Nat}
theorem rowO_tail {v : Value} {l : List (QX (List UInt8))} {base : Nat} (h : RowO kB base w v l) (hv : v = .slice (some ⟨hg, ho, none⟩) l.length hc) (hm : m ≤ l.length) : RowO kB base w (.slice (some ⟨hg, ho + m, none⟩) (l.length - m) (hc - m)) (l.drop m) := by
  have h1 := h.row
  rw [hv] at h1
  have h2 := h1.tail hm
  refine ⟨?_, fun q hq => h.els q (List.mem_of_mem_drop hq)⟩
  have e : kB.flat (l.drop m) = (kB.flat l).drop (m * 1) := by rw [flatB, flatB, List.map_drop, Nat.mul_one]
  rw [List.length_drop, e]
  have h3 : m * kB.size = m := Nat.mul_one m
  rw [h3] at h2
  simpa using h2
theorem LkS.capH (h : LkS w0 k c y D f w) (hv : k.hv = .slice (some ⟨hg, ho, none⟩) k.hl.length hc) (hm : m ≤ k.hl.length) :
    LkS w0 { k with hv := .slice (some ⟨hg, ho + m, none⟩) (k.hl.length - m) (hc - m), hl := k.hl.drop m } c y D f (w.setCell ⟨k.gl, 2, none⟩ (.slice (some ⟨hg, ho + m, none⟩) (k.hl.length - m) (hc - m))) := by
  have hrow := rowO_tail h.he hv hm
  have hc' : Chg (fun i => i = k.gl) w (w.setCell ⟨k.gl, 2, none⟩ (.slice (some ⟨hg, ho + m, none⟩) (k.hl.length - m) (hc - m))) := (Chg.refl (fun i => i = k.gl) w).setCell (p := ⟨k.gl, 2, none⟩) (fun _ => rfl) _
  have key : ∀ i, ((Value.slice (some ⟨hg, ho + m, none⟩) (k.hl.length - m) (hc - m)).ownBlock = some i ∨ kB.inB (k.hl.drop m) i) → f i = 3 := fun i hi => by
    rcases hi with e | ⟨x, hx, e⟩
    · exact h.fh i (.inl (by rw [hv]; exact e))
    · exact h.fh i (.inr ⟨x, List.mem_of_mem_drop hx, e⟩)
  refine h.setH (hc'.mono fun i _ e => .inr e) (h.lk.set_ 2 _) (hrow.chg hc' fun i hi e => ?_) (fun _ _ _ => rfl) key
  subst e
  have := key _ hi
  rw [h.fl] at this
  cases this
theorem LkS.capR (h : LkS w0 k c y D f w) (hv : k.rv = .slice (some ⟨hg, ho, none⟩) k.rl.length hc) (hm : m ≤ k.rl.length) :
    LkS w0 { k with rv := .slice (some ⟨hg, ho + m, none⟩) (k.rl.length - m) (hc - m), rl := k.rl.drop m } c y D f (w.setCell ⟨k.gl, 3, none⟩ (.slice (some ⟨hg, ho + m, none⟩) (k.rl.length - m) (hc - m))) := by
  have hrow := rowO_tail h.th hv hm
  have hc' : Chg (fun i => i = k.gl) w (w.setCell ⟨k.gl, 3, none⟩ (.slice (some ⟨hg, ho + m, none⟩) (k.rl.length - m) (hc - m))) := (Chg.refl (fun i => i = k.gl) w).setCell (p := ⟨k.gl, 3, none⟩) (fun _ => rfl) _
  have key : ∀ i, ((Value.slice (some ⟨hg, ho + m, none⟩) (k.rl.length - m) (hc - m)).ownBlock = some i ∨ kB.inB (k.rl.drop m) i) → f i = 4 := fun i hi => by
    rcases hi with e | ⟨x, hx, e⟩
    · exact h.fr i (.inl (by rw [hv]; exact e))
    · exact h.fr i (.inr ⟨x, List.mem_of_mem_drop hx, e⟩)
  refine h.setR (hc'.mono fun i _ e => .inr e) (h.lk.set_ 3 _) (hrow.chg hc' fun i hi e => ?_) (fun _ _ _ => rfl) key
  subst e
  have := key _ hi
  rw [h.fl] at this
  cases this
theorem RowO.some_ {v : Value} {l : List (QX (List UInt8))} {base : Nat} (h : RowO kB base w v l) (hn : 0 < l.length) : ∃ hg ho hc, v = .slice (some ⟨hg, ho, none⟩) l.length hc ∧ l.length ≤ hc ∧ hc ≤ maxLen := by
  obtain ⟨A, c, e, h1, h2⟩ := h.form
  rcases h.row.2 with ⟨_, e0⟩ | ⟨g, o, cap, _, e0, _⟩
  · omega
  · rw [e] at e0
    injection e0 with e1 _ e3
    subst e1 e3
    exact ⟨g, o, c, e, h1, h2⟩
end
end Go.Proofs.Ytjhkfpemcplaaaa
