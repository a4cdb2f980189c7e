/-
  The rows of replies and of events grow; the walks of event, reply. No statement of the seat is proved here.
-/
import Derived.Test.YtjhkfpemcplaaaaClF
namespace Go.Proofs.Ytjhkfpemcplaaaa
open Go.RowKit

section
variable {base : Nat} {w w4 w5 : World} {p : Pa} {c c' : Cl} {v' : Value}
/-- while the row of replies grows, all else of the client stays -/
theorem CA.stayR (h : CA base w p c) (hg : w.grownBy w4 p.rv.ownBlock) : Blk w4 p.g 98 (layA c p) ∧ Blk w4 p.r 136 #[.bool true, p.kv, .int .i64 p.d] ∧ OwnB 5 w4 base p.kv c.kept ∧ RowK kB base w4 p.bv p.bl ∧ RowK kE base w4 p.ev p.el := by
  have kp : ∀ k, k < w.heap.size → p.rv.ownBlock ≠ some k → w4.heap[k]? = w.heap[k]? := fun k hk hn => hg.block k hk (fun e => hn e.symm)
  refine ⟨(kp _ h.blk.lt fun e => own_blk_ne h.rows.r.row h.blk (by decide) e).trans h.blk, (kp _ h.rd.lt fun e => own_blk_ne h.rows.r.row h.rd (by decide) e).trans h.rd, own_same h.kp fun k hk => kp k (World.ownsRow.lt h.kp k hk).2 fun e => own_apart h.kp h.rows.r.row (by decide) k hk e, h.rows.b.keep fun k hk => kp k (h.rows.b.lt hk).2 fun e => ?_, h.rows.e.keep fun k hk => kp k (h.rows.e.lt hk).2 fun e => ?_⟩
  · rcases hk with hk | ⟨q, hq, hk⟩
    · exact own_apart h.rows.b.row h.rows.r.row (by decide) k hk e
    · exact own_apart (h.rows.b.els q hq) h.rows.r.row (by decide) k hk e
  · rcases hk with hk | ⟨q, hq, hk⟩
    · exact own_apart h.rows.e.row h.rows.r.row (by decide) k hk e
    · exact own_apart (h.rows.e.els q hq) h.rows.r.row (by decide) k hk e
/-- while the row of events grows, all else of the client stays -/
theorem CA.stayE (h : CA base w p c) (hg : w.grownBy w4 p.ev.ownBlock) : Blk w4 p.g 98 (layA c p) ∧ Blk w4 p.r 136 #[.bool true, p.kv, .int .i64 p.d] ∧ OwnB 5 w4 base p.kv c.kept ∧ RowK kB base w4 p.bv p.bl ∧ RowK kR base w4 p.rv p.rl := by
  have kp : ∀ k, k < w.heap.size → p.ev.ownBlock ≠ some k → w4.heap[k]? = w.heap[k]? := fun k hk hn => hg.block k hk (fun e => hn e.symm)
  refine ⟨(kp _ h.blk.lt fun e => own_blk_ne h.rows.e.row h.blk (by decide) e).trans h.blk, (kp _ h.rd.lt fun e => own_blk_ne h.rows.e.row h.rd (by decide) e).trans h.rd, own_same h.kp fun k hk => kp k (World.ownsRow.lt h.kp k hk).2 fun e => own_apart h.kp h.rows.e.row (by decide) k hk e, h.rows.b.keep fun k hk => kp k (h.rows.b.lt hk).2 fun e => ?_, h.rows.r.keep fun k hk => kp k (h.rows.r.lt hk).2 fun e => ?_⟩
  · rcases hk with hk | ⟨q, hq, hk⟩
    · exact own_apart h.rows.b.row h.rows.e.row (by decide) k hk e
    · exact own_apart (h.rows.b.els q hq) h.rows.e.row (by decide) k hk e
  · rcases hk with hk | ⟨q, hq, hk⟩
    · exact own_apart h.rows.r.row h.rows.e.row (by decide) k hk e
    · exact own_apart (h.rows.r.els q hq) h.rows.e.row (by decide) k hk e
theorem CA.pushR {x : QX Rp} (h : CA base w p c) (hq : w.ownsRow base 68 2 (kR.val x) (kR.n x.1) (kR.xs x.1))
    (hr : w4.ownsRow base kR.t kR.size v' (p.rl.length + 1) (kR.flat p.rl ++ kR.cells x)) (hg : w.grownBy w4 p.rv.ownBlock) (hb : Blk w5 p.g 98 (layA c' { p with rv := v', rl := p.rl ++ [x] })) (hk : ∀ k, k < w4.heap.size → k ≠ p.g → w5.heap[k]? = w4.heap[k]?)
    (h1 : c'.bodies = c.bodies) (h2 : c'.reps = c.reps ++ [x.1]) (h3 : c'.evs = c.evs) (h4 : c'.kept = c.kept) : CA base w5 { p with rv := v', rl := p.rl ++ [x] } c' := by
  obtain ⟨s1, s2, s3, s4, s5⟩ := h.stayR hg
  have hrow : RowK kR base w4 v' (p.rl ++ [x]) := h.rows.r.push (by decide) (q := x) hq hr hg
  have key : ∀ {t : TypeId} {s n : Nat} {u : Value} {xs : List Value} {k : Nat}, w4.ownsRow base t s u n xs → t ≠ 98 → u.ownBlock = some k → w5.heap[k]? = w4.heap[k]? := fun ho ht e =>
    hk _ (World.ownsRow.lt ho _ e).2 fun e2 => own_blk_ne ho s1 ht (by rw [e, e2])
  refine ⟨hb, (hk _ s2.lt fun e => Blk.ne_ s2 s1 (by decide) e).trans s2, ?_, ⟨s4.keep fun k hk' => ?_, hrow.keep fun k hk' => ?_, s5.keep fun k hk' => ?_, by rw [h1]; exact h.rows.bi, by rw [h2, ← h.rows.ri]; simp, by rw [h3]; exact h.rows.ei, fun k hk' => h.rows.ap k hk'⟩, h.ge, h.dr⟩
  · rw [h4]; exact own_same s3 fun k e => key s3 (by decide) e
  · rcases hk' with e | ⟨q, hq', e⟩
    · exact key s4.row (by decide) e
    · exact key (s4.els q hq') (by decide) e
  · rcases hk' with e | ⟨q, hq', e⟩
    · exact key hrow.row (by decide) e
    · exact key (hrow.els q hq') (by decide) e
  · rcases hk' with e | ⟨q, hq', e⟩
    · exact key s5.row (by decide) e
    · exact key (s5.els q hq') (by decide) e
theorem CA.pushE {x : QX (Nat × Rp)} (h : CA base w p c) (hq : w.ownsRow base 68 2 (kE.val x) (kE.n x.1) (kE.xs x.1))
    (hr : w4.ownsRow base kE.t kE.size v' (p.el.length + 1) (kE.flat p.el ++ kE.cells x)) (hg : w.grownBy w4 p.ev.ownBlock) (hb : Blk w5 p.g 98 (layA c' { p with ev := v', el := p.el ++ [x] })) (hk : ∀ k, k < w4.heap.size → k ≠ p.g → w5.heap[k]? = w4.heap[k]?)
    (h1 : c'.bodies = c.bodies) (h2 : c'.reps = c.reps) (h3 : c'.evs = c.evs ++ [x.1]) (h4 : c'.kept = c.kept) : CA base w5 { p with ev := v', el := p.el ++ [x] } c' := by
  obtain ⟨s1, s2, s3, s4, s5⟩ := h.stayE hg
  have hrow : RowK kE base w4 v' (p.el ++ [x]) := h.rows.e.push (by decide) (q := x) hq hr hg
  have key : ∀ {t : TypeId} {s n : Nat} {u : Value} {xs : List Value} {k : Nat}, w4.ownsRow base t s u n xs → t ≠ 98 → u.ownBlock = some k → w5.heap[k]? = w4.heap[k]? := fun ho ht e =>
    hk _ (World.ownsRow.lt ho _ e).2 fun e2 => own_blk_ne ho s1 ht (by rw [e, e2])
  refine ⟨hb, (hk _ s2.lt fun e => Blk.ne_ s2 s1 (by decide) e).trans s2, ?_, ⟨s4.keep fun k hk' => ?_, s5.keep fun k hk' => ?_, hrow.keep fun k hk' => ?_, by rw [h1]; exact h.rows.bi, by rw [h2]; exact h.rows.ri, by rw [h3, ← h.rows.ei]; simp, fun k hk' => h.rows.ap k hk'⟩, h.ge, h.dr⟩
  · rw [h4]; exact own_same s3 fun k e => key s3 (by decide) e
  · rcases hk' with e | ⟨q, hq', e⟩
    · exact key s4.row (by decide) e
    · exact key (s4.els q hq') (by decide) e
  · rcases hk' with e | ⟨q, hq', e⟩
    · exact key s5.row (by decide) e
    · exact key (s5.els q hq') (by decide) e
  · rcases hk' with e | ⟨q, hq', e⟩
    · exact key hrow.row (by decide) e
    · exact key (hrow.els q hq') (by decide) e
end
end Go.Proofs.Ytjhkfpemcplaaaa
