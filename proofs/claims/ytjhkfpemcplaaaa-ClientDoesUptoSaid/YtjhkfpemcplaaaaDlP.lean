/-
  The document's Receive, between its packets. No statement of the seat is proved here.
-/
import Derived.Test.YtjhkfpemcplaaaaDz
import Derived.Test.YtjhkfpemcplaaaaClN
namespace Go.Proofs.Ytjhkfpemcplaaaa
open Go.RowKit

theorem kvOf_own {A : Option Addr} {n k i : Nat} (h : (kvOf A n k).ownBlock = some i) : ∃ ad, A = some ad ∧ ad.block = i ∧ 0 < n := by
  unfold kvOf at h
  split at h
  · simp [Value.ownBlock] at h
  · cases A with
    | none => simp [Value.ownBlock] at h
    | some ad => exact ⟨ad, rfl, own_block_addr h, by omega⟩
/-- the document's client behind a Feed -/
theorem CD.fed {base n : Nat} {w w' : World} {p : Pa} {c : Cl} (h : CD base w p c) {A : Option Addr} {k : Nat} {kept : List UInt8} (hx : XRd w' p.r w.heap.size A k kept (p.d + (n : Nat))) (hg : w.grownBy w' (some p.r)) :
    StpD base w p n { c with kept := kept } { p with kv := kvOf A kept.length k, d := p.d + (n : Nat) } w' := by
  obtain ⟨m1, m2⟩ := h.ne
  have hbs : base ≤ w.heap.size := by have := h.cfd (.inl rfl); omega
  have hc : Chg (fun k => k = p.r) w w' := Chg.of_grown hg fun k e => (Option.some.inj e).symm
  have hr := h.rows.keep (w' := w') fun k hk => hc.block k (h.rows.lt hk).2 (m2 k hk).2
  refine ⟨⟨(hc.block _ h.blk.lt m1).trans h.blk, ⟨A, k, w.heap.size, rfl, hx, hg.size, hbs, fun ad e hp hcf => ?_⟩, ⟨hr.b, hr.r, hr.e, hr.bi, hr.ri, hr.ei, fun i hi e => ?_⟩, h.ge, by have := h.dr; dsimp only; omega⟩, rfl, fun i hi => .inl hi, fun i hi => ?_, hc.mono fun i _ e => .inr (.inl e), by dsimp only; omega⟩
  · have h1 := hx.2.2.2 ad e
    have h2 := (h.cfd (k := ad.block) hcf).2
    omega
  · obtain ⟨ad, e1, e2, _⟩ := kvOf_own e
    have h1 := hx.2.2.2 ad e1
    have h2 := (h.rows.lt (.inl (.inr hi))).2
    omega
  · obtain ⟨ad, n1, c1, e1, e2, e3⟩ := hi
    obtain ⟨e4, e5⟩ := kvOf_some e1 e3
    have h1 := hx.2.2.2 ad e4
    exact .inr (by omega)
/-- between two packets -/
structure RdS (base : Nat) (w : World) (p : Pa) (N M : Nat) (c0 : Cl) (TV : Value) (qs : List (Pk × Option Addr × Nat)) (i : Nat) (V : Value) (p1 : Pa) (c1 : Cl) (L : List (QX (List UInt8))) (acc : List Pk) (wr : World) : Prop where
  st : StpD base w p M c1 p1 wr
  ok : c1.Ok (N + i)
  out : RowK kB w.heap.size wr V L
  is : L.map (·.1) = acc.map frm
  ap : ∀ k, (V.ownBlock = some k ∨ kB.inB L k) → ¬ CFe p1 k
  told : PkRow wr w.heap.size TV qs
  tap : ∀ k, tkB TV qs k → ¬ CFd p1 k
  tao : ∀ k, tkB TV qs k → V.ownBlock ≠ some k
  law : packsF c0 (qs.map (·.1)) = (acc ++ (packsF c1 ((qs.drop i).map (·.1))).1, (packsF c1 ((qs.drop i).map (·.1))).2)
section
variable {base N M i : Nat} {w wr w2 : World} {p p1 : Pa} {c0 c1 : Cl} {TV V : Value} {qs : List (Pk × Option Addr × Nat)} {L : List (QX (List UInt8))} {acc : List Pk}
theorem RdS.below (h : RdS base w p N M c0 TV qs i V p1 c1 L acc wr) (hb : Below wr.heap.size wr w2) : RdS base w p N M c0 TV qs i V p1 c1 L acc w2 :=
  ⟨h.st.below hb, h.ok, h.out.below hb, h.is, h.ap, h.told.below hb, h.tap, h.tao, h.law⟩
/-- a packet's answer, ahead of the append -/
theorem RdS.met (h : RdS base w p N M c0 TV qs i V p1 c1 L acc wr) {q : Pk} {e : Ending} (hm : RMetP base wr p1 (packF c1 q) e w2) : ∃ v l p2, e = .returned v ∧ StpD base w p M (packF c1 q).2 p2 w2 ∧ RowK kB w.heap.size w2 V L ∧ RowK kB w.heap.size w2 v l ∧ l.map (·.1) = (packF c1 q).1.map frm ∧ (∀ k, (V.ownBlock = some k ∨ kB.inB L k) → ¬ CFe p2 k) ∧
    (∀ k, (v.ownBlock = some k ∨ kB.inB l k) → ¬ CFe p2 k) ∧ PkRow w2 w.heap.size TV qs ∧ (∀ k, tkB TV qs k → ¬ CFd p2 k) := by
  obtain ⟨v, l, p2, he, hs, hf⟩ := hm
  have hsz := h.st.chg.size
  refine ⟨v, l, p2, he, ?_, h.out.chg hs.chg fun k hk hc => h.ap k hk (.inl hc), hf.row.rebase hsz, hf.is, fun k hk hc => ?_, hf.ap, h.told.chg hs.chg h.tap, fun k hk hc => ?_⟩
  · have := h.st.trans hs
    simpa using this
  · rcases hs.sube hc with e1 | e1
    · exact h.ap k hk e1
    · have := (h.out.lt hk).2; omega
  · rcases hs.sub k hc with e1 | e1
    · exact h.tap k hk e1
    · have := (h.told.lt hk).2; omega
/-- behind the append -/
theorem RdS.push {v V' : Value} {l : List (QX (List UInt8))} {p2 : Pa} {w3 : World} (h : RdS base w p N M c0 TV qs i V p1 c1 L acc wr) {q : Pk × Option Addr × Nat} (hq : qs[i]? = some q) (hqk : okPk q.1) (ho : c1.over = false)
    (hs : StpD base w p M (packF c1 q.1).2 p2 w2) (hV : RowK kB w.heap.size w2 V L) (hv : RowK kB w.heap.size w2 v l) (hl : l.map (·.1) = (packF c1 q.1).1.map frm) (hVa : ∀ k, (V.ownBlock = some k ∨ kB.inB L k) → ¬ CFe p2 k) (hva : ∀ k, (v.ownBlock = some k ∨ kB.inB l k) → ¬ CFe p2 k)
    (ht : PkRow w2 w.heap.size TV qs) (hta : ∀ k, tkB TV qs k → ¬ CFd p2 k) (hr : w3.ownsRow w.heap.size kB.t kB.size V' (L.length + l.length) (kB.flat L ++ kB.flat l)) (hg : w2.grownBy w3 V.ownBlock) (hv' : V'.ownBlock = V.ownBlock ∨ V'.ownBlock = some w2.heap.size) :
    RdS base w p N M c0 TV qs (i + 1) V' p2 (packF c1 q.1).2 (L ++ l) (acc ++ (packF c1 q.1).1) w3 := by
  have hc : Chg (fun k => V.ownBlock = some k) w2 w3 := Chg.of_grown hg fun k e => e
  refine ⟨⟨hs.cd.chg hc fun k hk e => hVa k (.inl e) hk, hs.g, hs.sub, hs.sk, hs.chg.trans hc fun k hk e => ?_, hs.d⟩, packF_ok h.ok hqk.2.1 hqk.2.2.1, hV.append hv (by decide) hr hg, by rw [List.map_append, h.is, hl, List.map_append], fun k hk hcf => ?_, ht.chg hc fun k hk e => h.tao k hk e, hta, fun k hk e => ?_, ?_⟩
  · have := (hV.lt (.inl e)).1; omega
  · have hcl := (hs.cd.cfe hcf).2
    rcases hk with e | ⟨x, hx, e⟩
    · rcases hv' with h1 | h1
      · exact hVa k (.inl (by rw [← h1]; exact e)) hcf
      · rw [h1] at e; injection e with e; omega
    · rcases List.mem_append.1 hx with h1 | h1
      · exact hVa k (.inr ⟨x, h1, e⟩) hcf
      · exact hva k (.inr ⟨x, h1, e⟩) hcf
  · rcases hv' with h1 | h1
    · exact h.tao k hk (by rw [← h1]; exact e)
    · rw [h1] at e; injection e with e
      have := (ht.lt hk).2; omega
  · have hi : i < qs.length := (List.getElem?_eq_some_iff.1 hq).1
    have hd : qs.drop i = q :: qs.drop (i + 1) := by
      rw [List.drop_eq_getElem_cons hi]
      congr 1
      rw [List.getElem?_eq_getElem hi] at hq
      exact Option.some.inj hq
    rw [h.law, hd, List.map_cons, packsF, if_neg (by rw [ho]; decide)]
    simp
end
theorem StpD.more {base m m' : Nat} {w w' : World} {p p' : Pa} {c' : Cl} (h : StpD base w p m c' p' w') (hm : m ≤ m') : StpD base w p m' c' p' w' := ⟨h.cd, h.g, h.sub, h.sk, h.chg, by have := h.d; omega⟩
end Go.Proofs.Ytjhkfpemcplaaaa
