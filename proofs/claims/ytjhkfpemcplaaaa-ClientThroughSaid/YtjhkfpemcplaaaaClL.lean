/-
  What a chunk does to a client, plain; the client behind a Feed. No statement of the seat is proved here.
-/
import Derived.Test.YtjhkfpemcplaaaaClK
namespace Go.Proofs.Ytjhkfpemcplaaaa
open Go.RowKit

noncomputable def packF (c : Cl) (q : Pk) : List Pk × Cl := if q.kind = 2 then welF c q else if q.kind = 4 then repF c q else if q.kind = 5 then evtF c q else if q.kind = 6 then refF c q else ([], c)
noncomputable def packsF : Cl → List Pk → List Pk × Cl
  | c, [] => ([], c)
  | c, q :: r => if c.over = true then ([], c) else ((packF c q).1 ++ (packsF (packF c q).2 r).1, (packsF (packF c q).2 r).2)
noncomputable def recvF (c : Cl) (chunk : List UInt8) : List Pk × Cl := if c.conn = false then ([], c) else packsF { c with kept := (feed (c.kept ++ chunk)).2.1 } (feed (c.kept ++ chunk)).1
theorem Cl.Ok.mono {N N' : Nat} {c : Cl} (h : c.Ok N) (hn : N ≤ N') : c.Ok N' := ⟨h.no, h.wi, h.pa, h.bl, h.bs, h.rp, h.rl, by have := h.is; omega, h.tk, h.ev, by have := h.el; omega, h.wt, h.kp⟩
theorem packF_ok {N : Nat} {c : Cl} {q : Pk} (h : c.Ok N) (h1 : q.tok < 18446744073709551616) (h2 : q.seq < 18446744073709551616) : (packF c q).2.Ok (N + 1) := by
  have h' := h.mono (Nat.le_succ N)
  unfold packF
  split
  · unfold welF
    split
    · exact h'
    · split
      · exact ⟨h'.no, h'.wi, h'.pa, h'.bl, h'.bs, h'.rp, h'.rl, h'.is, h1, h'.ev, h'.el, h'.wt, h'.kp⟩
      · exact ⟨h'.no, h'.wi, h'.pa, h'.bl, h'.bs, h'.rp, h'.rl, h'.is, h1, h'.ev, h'.el, Nat.zero_le _, h'.kp⟩
  · split
    · unfold repF
      split
      · exact h'
      · rename_i hx
        cases getG q.body with
        | none => exact h'
        | some r => exact ⟨h'.no, h'.wi, h'.pa, h'.bl, h'.bs, by dsimp only; omega, by have := h'.rl; simp [this], h'.is, h'.tk, h'.ev, h'.el, Nat.zero_le _, h'.kp⟩
    · split
      · unfold evtF
        split
        · exact h'
        · cases getG q.body with
          | none => exact h'
          | some r => exact ⟨h'.no, h'.wi, h'.pa, h'.bl, h'.bs, h'.rp, h'.rl, h'.is, h'.tk, h2, by have := h.el; simp; omega, h'.wt, h'.kp⟩
      · split
        · unfold refF
          split
          · exact ⟨h'.no, h'.wi, h'.pa, h'.bl, h'.bs, h'.rp, h'.rl, h'.is, h'.tk, h'.ev, h'.el, h'.wt, h'.kp⟩
          · exact h'
        · exact h'
section
variable {base : Nat} {w w' : World} {p : Pa} {c : Cl}
/-- the client behind a Feed -/
theorem CA.fed (h : CA base w p c) {K' : Value} {M : Nat} {kept : List UInt8} {n : Nat} (hb : Blk w' p.r 136 #[.bool true, K', .int .i64 (p.d + (n : Nat))]) (ho : OwnB 5 w' M K' kept) (hM : w.heap.size ≤ M) (hg : Grown2 w w' p.r p.kv) :
    Stp base w p n { c with kept := kept } { p with kv := K', d := p.d + (n : Nat) } w' := by
  obtain ⟨n1, n2, n3⟩ := h.ne
  obtain ⟨g1, g2, g3, g4, g5⟩ := hg
  have hbs : base ≤ w.heap.size := by have := (h.lt (k := p.g) (.inl rfl)); omega
  have hkv : ∀ k, ((p.bv.ownBlock = some k ∨ kB.inB p.bl k) ∨ (p.rv.ownBlock = some k ∨ kR.inB p.rl k) ∨ (p.ev.ownBlock = some k ∨ kE.inB p.el k)) → p.kv.ownBlock ≠ some k := by
    intro k hk
    rcases hk with (e | e) | (e | ⟨q, hq, e⟩) | (e | ⟨q, hq, e⟩)
    · exact own_apart h.rows.b.row h.kp (by decide) k e
    · exact h.rows.ap k e
    · exact own_apart h.rows.r.row h.kp (by decide) k e
    · exact own_apart (h.rows.r.els q hq) h.kp (by decide) k e
    · exact own_apart h.rows.e.row h.kp (by decide) k e
    · exact own_apart (h.rows.e.els q hq) h.kp (by decide) k e
  have hr := h.rows.keep (w' := w') fun k hk => g5 k (h.rows.lt hk).2 (n3 k hk).2 (hkv k hk)
  refine ⟨⟨(g5 _ h.blk.lt n1 n2).trans h.blk, hb, own_base ho (by omega), ⟨hr.b, hr.r, hr.e, hr.bi, hr.ri, hr.ei, fun k hk e => ?_⟩, h.ge, by have := h.dr; dsimp only; omega⟩, rfl, fun k hk => ?_, ⟨g1, g2, g3, g4, fun k hk hn => g5 k hk (fun e => hn (.inr (.inl e))) (fun e => hn (.inr (.inr (.inl e))))⟩, by dsimp only; omega⟩
  · have h1 := (World.ownsRow.lt ho k e).1
    have h2 := (h.rows.lt (.inl (.inr hk))).2
    omega
  · rcases hk with e | e | e | e
    · exact .inl (.inl e)
    · exact .inl (.inr (.inl e))
    · have h1 := (World.ownsRow.lt ho k e).1
      exact .inr (by omega)
    · exact .inl (.inr (.inr (.inr e)))
theorem RowK.append {α : Type} {K : Kd α} {base : Nat} {w w' : World} {v v2 v' : Value} {l l2 : List (QX α)} (h : RowK K base w v l) (h2 : RowK K base w v2 l2) (hne : K.t ≠ K.et) (hr : w'.ownsRow base K.t K.size v' (l.length + l2.length) (K.flat l ++ K.flat l2)) (hg : w.grownBy w' v.ownBlock) : RowK K base w' v' (l ++ l2) := by
  have keep : ∀ x : QX α, w.ownsRow base K.et K.es (K.val x) (K.n x.1) (K.xs x.1) → w'.ownsRow base K.et K.es (K.val x) (K.n x.1) (K.xs x.1) := fun x hx =>
    own_same hx fun k hk => hg.block k (World.ownsRow.lt hx k hk).2 fun e => own_apart hx h.row (Ne.symm hne) k hk e.symm
  refine ⟨by simpa [Kd.flat] using hr, fun x hx => ?_⟩
  rcases List.mem_append.1 hx with e | e
  · exact keep x (h.els x e)
  · exact keep x (h2.els x e)
end
/-- the four methods on a packet -/
theorem met_any {base N : Nat} {p : Pa} {c : Cl} {w : World} (q : Pk) (A : Option Addr) (cc : Nat) (h : CA base w p c) (ok : c.Ok N) (hN : N ≤ 2400000000000) (hr : RdB w w.heap.size A q.body.length q.body) (hcc : q.body.length ≤ cc) (hq : okPk q) :
    (q.kind = 2 → Calls Try.prog 77 #[.pointer (some ⟨p.g, 0, none⟩), pkV q A cc] w (MetP base w p (packF c q))) ∧ (q.kind = 4 → Calls Try.prog 78 #[.pointer (some ⟨p.g, 0, none⟩), pkV q A cc] w (MetP base w p (packF c q))) ∧
    (q.kind = 5 → Calls Try.prog 79 #[.pointer (some ⟨p.g, 0, none⟩), pkV q A cc] w (MetP base w p (packF c q))) ∧ (q.kind = 6 → Calls Try.prog 80 #[.pointer (some ⟨p.g, 0, none⟩), pkV q A cc] w (MetP base w p (packF c q))) := by
  have hl : q.body.length ≤ 1024 := (mayB_no hq.1).2.2
  refine ⟨fun e => ?_, fun e => ?_, fun e => ?_, fun e => ?_⟩
  · rw [show packF c q = welF c q by unfold packF; rw [if_pos e]]
    exact welcome_any q A cc h ok (by omega) hr hq.2.1
  · rw [show packF c q = repF c q by unfold packF; rw [if_neg (by omega), if_pos e]]
    exact reply_any q A cc h ok (by omega) hr hcc hl
  · rw [show packF c q = evtF c q by unfold packF; rw [if_neg (by omega), if_neg (by omega), if_pos e]]
    exact event_any q A cc h ok (by omega) hr hcc hl
  · rw [show packF c q = refF c q by unfold packF; rw [if_neg (by omega), if_neg (by omega), if_neg (by omega), if_pos e]]
    exact refuse_any q A cc h hr
end Go.Proofs.Ytjhkfpemcplaaaa
