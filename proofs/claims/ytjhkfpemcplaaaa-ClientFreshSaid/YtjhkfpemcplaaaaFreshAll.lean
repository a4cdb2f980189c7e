/-
  THE STATEMENT 'ClientFresh' (effigylaw20.ClientFresh): whatever the command and whatever the reply, the law returns true, and both arguments read behind the call as they read before.
-/
import Derived.Test.YtjhkfpemcplaaaaClU
import Derived.Test.YtjhkfpemcplaaaaClV
import Derived.Test.YtjhkfpemcplaaaaClW
import Derived.Test.YtjhkfpemcplaaaaWords
import Derived.OpenShut
import Derived.ProofKit
import Derived.Lib.SmallJoins
import Derived.Test.YtjhkfpemcplaaaaPutc
import Derived.Test.YtjhkfpemcplaaaaPutr
import Derived.Deep.Slices
import Derived.Deep.Fields
import Derived.ChangeSame
import Derived.Test.YtjhkfpemcplaaaaRows
import Derived.WalkKit
import Derived.ChangeOld
import Derived.ChangeMaps5
import Derived.Below
namespace Go.Proofs.Ytjhkfpemcplaaaa
open Go.RowKit

/-- a store into a row -/
theorem own_setN {w : World} {base g j : Nat} {e : TypeId} {size n : Nat} {v : Value} {xs : List Value} (h : w.ownsRow base e size v n xs) (hg : v.ownBlock = some g) (u : Value) : (w.setCell ⟨g, j, none⟩ u).ownsRow base e size v n (xs.set j u) := by
  refine ⟨by rw [List.length_set]; exact h.1, ?_⟩
  rcases h.2 with ⟨rfl, _⟩ | ⟨g', cap, cur, rfl, hb, hgg, hn, hm, hc, ht⟩
  · simp [Value.ownBlock] at hg
  · have : g' = g := by simpa [Value.ownBlock] using hg
    subst this
    refine .inr ⟨g', cap, cur.setIfInBounds j u, rfl, hb, ?_, hn, hm, by simp [hc], ?_⟩
    · simp [World.setCell, Array.getElem?_modify, hgg]
    · rw [← ht]
      simp [List.take_set]
/-- ClientFresh on its way: the client, and blocks that are kept as they were -/
structure FrS (w0 : World) (g : Nat) (p : Pa) (c : Cl) (m : Nat) (B : Nat → Prop) (wB w : World) : Prop where
  ca : CA w0.heap.size w p c
  gp : p.g = g
  old : Below w0.heap.size w0 w
  d : p.d ≤ (m : Int)
  kb : ∀ k, B k → k < w.heap.size ∧ ¬ CF p k ∧ w.heap[k]? = wB.heap[k]?
section
variable {w0 w w' wB : World} {g m k : Nat} {p p' : Pa} {c c' : Cl} {B B' F : Nat → Prop}
theorem FrS.below (h : FrS w0 g p c m B wB w) (hb : Below w.heap.size w w') : FrS w0 g p c m B wB w' :=
  ⟨h.ca.below hb, h.gp, h.old.trans (hb.mono h.old.size), h.d, fun k hk => by
    obtain ⟨h1, h2, h3⟩ := h.kb k hk
    have := hb.size
    exact ⟨by omega, h2, (hb.block k h1).trans h3⟩⟩
theorem FrS.step (h : FrS w0 g p c m B wB w) (s : Stp w0.heap.size w p k c' p' w') : FrS w0 g p' c' (m + k) B wB w' :=
  ⟨s.ca, s.g.trans h.gp, h.old.trans (s.chg.below h.old.size fun i hi hc => by have := (h.ca.lt hc).1; omega), by have := s.d; have := h.d; omega,
   fun x e => by
    obtain ⟨h1, h2, h3⟩ := h.kb x e
    have := s.chg.size
    refine ⟨by omega, fun hc => ?_, (s.chg.block x h1 h2).trans h3⟩
    rcases s.sub _ hc with h4 | h4
    · exact h2 h4
    · omega⟩
/-- kept from here on -/
theorem FrS.keep (h : FrS w0 g p c m B wB w) (hB : ∀ k, B' k → k < w.heap.size ∧ ¬ CF p k) : FrS w0 g p c m B' w w := ⟨h.ca, h.gp, h.old, h.d, fun k hk => ⟨(hB k hk).1, (hB k hk).2, rfl⟩⟩
theorem FrS.less (h : FrS w0 g p c m B wB w) (hB : ∀ k, B' k → B k) : FrS w0 g p c m B' wB w := ⟨h.ca, h.gp, h.old, h.d, fun k hk => h.kb k (hB k hk)⟩
theorem FrS.more (h : FrS w0 g p c m B wB w) {n : Nat} (hn : m ≤ n) : FrS w0 g p c n B wB w := ⟨h.ca, h.gp, h.old, by have := h.d; omega, h.kb⟩
/-- blocks changed that are none of the client's and none of the kept ones -/
theorem FrS.chg (h : FrS w0 g p c m B wB w) (hc : Chg F w w') (h1 : ∀ k, F k → w0.heap.size ≤ k ∧ ¬ CF p k ∧ ¬ B k) : FrS w0 g p c m B wB w' :=
  ⟨h.ca.chg hc fun k hk hf => (h1 k hf).2.1 hk, h.gp, h.old.trans (hc.below h.old.size fun i hi hf => by have := (h1 i hf).1; omega), h.d, fun k hk => by
    obtain ⟨a, b, d⟩ := h.kb k hk
    have := hc.size
    exact ⟨by omega, b, (hc.block k a fun hf => (h1 k hf).2.2 hk).trans d⟩⟩
theorem FrS.row (h : FrS w0 g p c m B wB w) {base : Nat} {e : TypeId} {size n : Nat} {v : Value} {xs : List Value} (ho : wB.ownsRow base e size v n xs) (hB : ∀ k, v.ownBlock = some k → B k) : w.ownsRow base e size v n xs := own_same ho fun k hk => (h.kb k (hB k hk)).2.2
theorem FrS.blk (h : FrS w0 g p c m B wB w) {b : Nat} {t : TypeId} {cs : Array Value} (hb : Blk wB b t cs) (hB : B b) : Blk w b t cs := ((h.kb b hB).2.2).trans hb
theorem FrS.rowK {α : Type} {K : Kd α} {base : Nat} {v : Value} {l : List (QX α)} (h : FrS w0 g p c m B wB w) (ho : RowK K base wB v l) (hB : ∀ k, (v.ownBlock = some k ∨ K.inB l k) → B k) : RowK K base w v l := ho.keep fun k hk => (h.kb k (hB k hk)).2.2
end
/-- what a Put hands over -/
def PutX (w : World) (good : Bool) (bs : List UInt8) (e : Ending) (w' : World) : Prop := ∃ A n c, e = .returned (.tuple #[.slice A n c, .bool good]) ∧ (good = true → n = bs.length ∧ OwnB 5 w' w.heap.size (.slice A n c) bs) ∧ Below w.heap.size w w'
theorem putX_of {w : World} {P : Prop} {bs : List UInt8} {good : Bool} (hg : good = true ↔ P) {e : Ending} {w' : World} (h : RPutPost w P bs e w') : PutX w good bs e w' := by
  obtain ⟨hb, h | ⟨h1, A2, n2, c2, he⟩⟩ := h
  · obtain ⟨h1, v, he, ho⟩ := h
    obtain ⟨A2, c2, rfl, _, _⟩ := own_formL ho
    rw [← hg] at h1
    subst h1
    exact ⟨A2, _, c2, he, fun _ => ⟨rfl, ho⟩, hb⟩
  · have : good = false := by cases good with
      | true => exact absurd (hg.1 rfl) h1
      | false => rfl
    subst this
    exact ⟨A2, n2, c2, he, (fun e => by cases e), hb⟩
theorem good_of (P : Prop) : ∃ g : Bool, g = true ↔ P := by
  by_cases h : P
  · exact ⟨true, fun _ => h, fun _ => rfl⟩
  · exact ⟨false, (fun e => by cases e), fun e => absurd e h⟩
end Go.Proofs.Ytjhkfpemcplaaaa
namespace Go.Proofs.Ytjhkfpemcplaaaa
open Go.RowKit
def frC0 : Cl := Cl.new 7 4 3
def FreP (w : World) (e : Ending) (w' : World) : Prop := e = .returned (.bool true) ∧ Below w.heap.size w w'
theorem fr_ok0 : frC0.Ok 0 := ⟨by decide, by decide, by decide, rfl, (fun b h => by cases h), by decide, rfl, by decide, by decide, by decide, by decide, by decide, by decide⟩
theorem fr_ok1 : frC1.Ok 0 := ⟨by decide, by decide, by decide, rfl, (fun b h => by cases h), by decide, rfl, by decide, by decide, by decide, by decide, by decide, by decide⟩
theorem fr_ok2 {cb : List UInt8} (hc : cb.length ≤ 1024) : (frC2 cb).Ok 1 := by constructor <;> simp [frC2, frC1, Cl.new, hc]
theorem fr_ok3 {cb : List UInt8} (hc : cb.length ≤ 1024) : (frC3 cb).Ok 1 := by constructor <;> simp [frC3, frC2, frC1, Cl.new, hc]
theorem okPk_of {cb : List UInt8} (hc : cb.length ≤ 1024) : okPk ⟨3, 1, 1, 0, cb⟩ := ⟨by simp [mayB, hc], (show (1 : Nat) < 18446744073709551616 by decide), (show (1 : Nat) < 18446744073709551616 by decide), (show (0 : Nat) < 18446744073709551616 by decide)⟩
section
variable {w0 w w' wB : World} {g m k : Nat} {p p' : Pa} {c c' : Cl} {B B' F : Nat → Prop}
theorem fr_new (w : World) : Calls Try.prog 10 #[.int .u64 7, .int .i64 4, .int .i64 3] w fun e w' => ∃ g p, e = .returned (.tuple #[.pointer (some ⟨g, 0, none⟩), .int .i64 0]) ∧ FrS w g p frC0 0 (fun _ => False) w' w' :=
  (new_ok 7 4 3 w (by decide) (by decide) (by decide) (by decide) (by decide)).mono fun e w' ⟨p, he, h1, h2, h3⟩ => ⟨p.g, p, he, h1, rfl, h3, by omega, fun k hk => hk.elim⟩
theorem fr_connect (h : FrS w0 g p frC0 m B wB w) : Calls Try.prog 20 #[.pointer (some ⟨g, 0, none⟩)] w fun e w' => ∃ p' v, e = .returned (.tuple #[v, .int .i64 0]) ∧ FrS w0 g p' frC1 m B wB w' := by
  have h1 := connect_any h.ca fr_ok0
  rw [h.gp] at h1
  refine h1.mono ?_
  rintro e w' ⟨v, l, p', he, hs, hf⟩
  exact ⟨p', v, he, h.step hs⟩
theorem fr_issue {xk : Int} {xh : Nat} {A : Option Addr} {n cc : Nat} {ns : List Int} {s : ByteArray} (h : FrS w0 g p frC1 m B wB w) (hh : xh < 18446744073709551616) (hr : RdI w w.heap.size A n ns) (hu : ∀ z ∈ ns, I64 z) (hg : goodC xk xh ns s.data.toList) {cb : List UInt8} (hcb : cmdB xk xh ns s.data.toList = cb) :
    Calls Try.prog 21 #[.pointer (some ⟨g, 0, none⟩), .agg #[.int .i64 xk, .int .u64 (xh : Int), .slice A n cc, .string s]] w fun e w' => ∃ p' v, e = .returned v ∧ FrS w0 g p' (frC2 cb) m B wB w' := by
  subst hcb
  have h1 := issue_any (N := 0) xk xh A n cc ns s true h.ca fr_ok1 (by decide) (by decide) hh hr hu ⟨fun _ => hg, fun _ => rfl⟩
  rw [h.gp] at h1
  refine h1.mono ?_
  rw [fr_iss]
  rintro e w' ⟨v, l, p', he, hs, hf⟩
  exact ⟨p', _, he, h.step hs⟩
theorem own_cell1 {base : Nat} {e : TypeId} {v : Value} {n : Nat} {xs : List Value} {j : Nat} (h : w.ownsRow base e 1 v n xs) (hj : j < n) : ∃ gp c u, v = .slice (some ⟨gp, 0, none⟩) n c ∧ base ≤ gp ∧ gp < w.heap.size ∧ xs[j]? = some u ∧ w.cell? ⟨gp, j, none⟩ = some u ∧ w.frozen? ⟨gp, j, none⟩ = false := by
  rcases h.2 with ⟨_, hx⟩ | ⟨gp, cap, cur, e1, hb, hg, hn', hm, hcs, hcell⟩
  · omega
  · have hl : j < xs.length := by have := h.1; omega
    refine ⟨gp, cap, xs[j], e1, hb, Blk.lt (show Blk w gp e cur from hg), List.getElem?_eq_getElem hl, ?_, (show Blk w gp e cur from hg).frozen j⟩
    rw [Blk.cell (show Blk w gp e cur from hg) j]
    have h2 : xs[j]? = some xs[j] := List.getElem?_eq_getElem hl
    conv at h2 => lhs; rw [← hcell]
    rw [List.getElem?_take] at h2
    split at h2
    · simpa using h2
    · cases h2
/-- one frame that a call made, its list and its bytes the call's own -/
structure FrO (b : Nat) (w' : World) (p' : Pa) (gl cl : Nat) (A : Option Addr) (n c : Nat) (bs : List UInt8) : Prop where
  out : ∃ rest : Array Value, Blk w' gl 37 rest ∧ rest[0]? = some (.slice A n c)
  el : w'.ownsRow 0 5 1 (.slice A n c) n (bs.map bv)
  ge : b ≤ gl ∧ gl < w'.heap.size
  ge2 : ∀ k, (Value.slice A n c).ownBlock = some k → b ≤ k ∧ k < w'.heap.size
  ap : ¬ CF p' gl ∧ ∀ k, (Value.slice A n c).ownBlock = some k → ¬ CF p' k
theorem frO_of {bs : List UInt8} {v : Value} {l : List (QX (List UInt8))} (h : Frs w p' [bs] v l w') : ∃ gl cl A c, v = .slice (some ⟨gl, 0, none⟩) 1 cl ∧ FrO w.heap.size w' p' gl cl A bs.length c bs := by
  have h1 : l.length = 1 := by have := congrArg List.length h.is; simpa using this
  obtain ⟨q, rfl⟩ := List.length_eq_one_iff.1 h1
  have h2 := h.is
  simp only [List.map_cons, List.map_nil, List.cons.injEq, and_true] at h2
  subst h2
  have hel := h.row.els q (by simp)
  rcases h.row.row.2 with ⟨_, hx⟩ | ⟨gl, cap, cur, e1, hb, hg, hn', hm, hcs, hcell⟩
  · simp at hx
  · have hbk : Blk w' gl 37 cur := hg
    refine ⟨gl, cap, q.2.1, q.2.2, e1, ⟨cur, hbk, ?_⟩, own_base hel (Nat.zero_le _), ⟨hb, hbk.lt⟩, fun k hk => World.ownsRow.lt hel k hk, ?_, ?_⟩
    · have h3 : (kB.flat [q])[0]? = some (kB.val q) := rfl
      rw [← hcell, List.getElem?_take] at h3
      split at h3
      · exact (by simpa using h3 : cur[0]? = some (kB.val q))
      · cases h3
    · exact h.ap gl (.inl (by rw [e1]; rfl))
    · exact fun k hk => h.ap k (.inr ⟨q, by simp, hk⟩)
theorem fr_recv1x {A : Option Addr} {n cc : Nat} {cb : List UInt8} (h : FrS w0 g p (frC2 cb) m B wB w) (hm : m ≤ 10) (hc : cb.length ≤ 1024) (hr : RdB w w.heap.size A n (frm ⟨2, 1, 0, 0, []⟩)) :
    Calls Try.prog 22 #[.pointer (some ⟨g, 0, none⟩), .slice A n cc] w fun e w' => ∃ p' gl cl A c, e = .returned (.slice (some ⟨gl, 0, none⟩) 1 cl) ∧ FrS w0 g p' (frC3 cb) 3000 B wB w' ∧ FrO w.heap.size w' p' gl cl A (frm ⟨3, 1, 1, 0, cb⟩).length c (frm ⟨3, 1, 1, 0, cb⟩) := by
  have hn : n ≤ 1088 := by
    have := hr.1
    rw [List.length_map] at this
    have h2 := frm_len (q := ⟨2, 1, 0, 0, []⟩) ⟨by decide, by decide, by decide, by decide⟩
    omega
  have ok : (frC2 cb).Ok 1 := fr_ok2 hc
  have h1 := receive_any (N := 1) A n cc (frm ⟨2, 1, 0, 0, []⟩) h.ca ok (by decide) hr (by omega) (by have := h.d; omega)
  rw [h.gp, fr_recv1] at h1
  refine h1.mono ?_
  rintro e w' ⟨v, l, p', he, hs, hf⟩
  obtain ⟨gl, cl, A', c', rfl, ho⟩ := frO_of hf
  exact ⟨p', gl, cl, A', c', he, (h.step hs).more (by omega), ho⟩
theorem fr_tickx {cb : List UInt8} (h : FrS w0 g p (frC3 cb) m B wB w) (hc : cb.length ≤ 1024) :
    Calls Try.prog 24 #[.pointer (some ⟨g, 0, none⟩), .int .i64 3] w fun e w' => ∃ p' gl cl A c, e = .returned (.slice (some ⟨gl, 0, none⟩) 1 cl) ∧ FrS w0 g p' (frC3 cb) m B wB w' ∧ FrO w.heap.size w' p' gl cl A (frm ⟨3, 1, 1, 0, cb⟩).length c (frm ⟨3, 1, 1, 0, cb⟩) := by
  have ok : (frC3 cb).Ok 1 := fr_ok3 hc
  have h1 := tick_any (N := 1) 3 h.ca ok (by decide)
  rw [h.gp, fr_tick] at h1
  refine h1.mono ?_
  rintro e w' ⟨v, l, p', he, hs, hf⟩
  obtain ⟨gl, cl, A', c', rfl, ho⟩ := frO_of hf
  exact ⟨p', gl, cl, A', c', he, (h.step hs).more (by omega), ho⟩
theorem fr_unp {A : Option Addr} {n c base : Nat} {fb cb : List UInt8} (ho : w.ownsRow base 5 1 (.slice A n c) n (fb.map bv)) (hfb : frm ⟨3, 1, 1, 0, cb⟩ = fb) (hn : fb.length = n) (hc : cb.length ≤ 1024) (hcap : n ≤ c) :
    Calls Try.prog 17 #[.slice A n c] w fun e w' => ∃ A2 c2, e = .returned (.tuple #[.agg #[.int .i64 3, .int .u64 1, .int .u64 1, .int .u64 0, .slice A2 cb.length c2], .int .i64 0]) ∧ RdB w' w'.heap.size A2 cb.length cb ∧ Below w.heap.size w w' := by
  have hl : fb.length ≤ 1088 := by rw [← hfb]; exact frm_len (okPk_of hc)
  refine (runp_any A n c fb w (Reads.of_own ho) hcap (by omega)).mono ?_
  rintro e w' ⟨A2, c2, he, h1, hb⟩
  rw [← hfb, unp_frm (okPk_of hc)] at he h1
  exact ⟨A2, c2, he, Reads.of_own h1, hb⟩
theorem okPk_any (k s : Nat) {rb : List UInt8} (hl : rb.length ≤ 1024) (h1 : 1 ≤ k) (h7 : k ≤ 7) (hs : s < 18446744073709551616) : okPk ⟨k, 1, s, 0, rb⟩ := ⟨by simp [mayB, hl]; omega, (show (1 : Nat) < 18446744073709551616 by decide), hs, (show (0 : Nat) < 18446744073709551616 by decide)⟩
theorem fr_pack (k s : Nat) {A : Option Addr} {n c : Nat} {rb : List UInt8} (h : RdB w w.heap.size A n rb) (hn : rb.length = n) (hl : rb.length ≤ 1024) (h1 : 1 ≤ k) (h7 : k ≤ 7) (hs : s < 18446744073709551616) :
    Calls Try.prog 23 #[.agg #[.int .i64 (k : Int), .int .u64 1, .int .u64 (s : Int), .int .u64 0, .slice A n c]] w fun e w' => ∃ A2 c2, e = .returned (.slice A2 (frm ⟨k, 1, s, 0, rb⟩).length c2) ∧ w'.ownsRow w.heap.size 5 1 (.slice A2 (frm ⟨k, 1, s, 0, rb⟩).length c2) (frm ⟨k, 1, s, 0, rb⟩).length ((frm ⟨k, 1, s, 0, rb⟩).map bv) ∧ Below w.heap.size w w' := by
  subst hn
  refine (rpack_ok (k : Int) 1 s 0 A _ c rb w h (okPk_any k s hl h1 h7 hs).1 (by decide) hs (by decide)).mono ?_
  rintro e w' ⟨v, rfl, ho, hb⟩
  have ho' : w'.ownsRow w.heap.size 5 1 v (frm ⟨k, 1, s, 0, rb⟩).length ((frm ⟨k, 1, s, 0, rb⟩).map bv) := ho
  obtain ⟨A2, c2, rfl, _, _⟩ := own_formL ho'
  exact ⟨A2, c2, rfl, ho', hb⟩
theorem fr_recv2x {A : Option Addr} {n cc base : Nat} {cb rb fa fb : List UInt8} {r : Rp} (h : FrS w0 g p (frC3 cb) 3000 B wB w) (hc : cb.length ≤ 1024) (hl : rb.length ≤ 1024) (hg : getG rb = some r) (ha : frm ⟨4, 1, 1, 0, rb⟩ = fa) (hb : frm ⟨5, 1, 3, 0, rb⟩ = fb) (ho : w.ownsRow base 5 1 (.slice A n cc) n ((fa ++ fb).map bv)) (hn : n ≤ 2176) (c2 : Nat) :
    Calls Try.prog 22 #[.pointer (some ⟨g, 0, none⟩), .slice A n c2] w fun e w' => ∃ p' v, e = .returned v ∧ FrS w0 g p' (frC4 cb r) 8000 B wB w' := by
  subst ha hb
  have h1 := receive_any (N := 1) A n c2 _ h.ca (fr_ok3 hc) (by decide) (Reads.of_own ho) (by omega) (by have := h.d; omega)
  rw [h.gp, fr_recv2 cb rb r hg hl] at h1
  refine h1.mono ?_
  rintro e w' ⟨v, l, p', he, hs, hf⟩
  exact ⟨p', v, he, (h.step hs).more (by omega)⟩
/-- a list of one element that a call made -/
structure OneK {α : Type} (K : Kd α) (b hi : Nat) (W : World) (ga : Nat) (q : QX α) : Prop where
  out : ∃ rest : Array Value, Blk W ga K.t rest ∧ ∀ (j : Nat) (u : Value), (K.cells q)[j]? = some u → rest[j]? = some u
  el : W.ownsRow b K.et K.es (K.val q) (K.n q.1) (K.xs q.1)
  ge : b ≤ ga ∧ ga < hi
  ge2 : ∀ k, (K.val q).ownBlock = some k → b ≤ k ∧ k < hi
def BK {α : Type} (K : Kd α) (ga : Nat) (q : QX α) (k : Nat) : Prop := k = ga ∨ (K.val q).ownBlock = some k
theorem OneK.lt {α : Type} {K : Kd α} {b hi ga k : Nat} {W : World} {q : QX α} (h : OneK K b hi W ga q) (hk : BK K ga q k) : b ≤ k ∧ k < hi := by
  rcases hk with e | e
  · rw [e]; exact h.ge
  · exact h.ge2 k e
theorem OneK.keep {α : Type} {K : Kd α} {b hi ga : Nat} {W W' : World} {q : QX α} (h : OneK K b hi W ga q) (hk : ∀ k, BK K ga q k → W'.heap[k]? = W.heap[k]?) : OneK K b hi W' ga q := by
  obtain ⟨⟨rest, h1, h2⟩, h3, h4, h5⟩ := h
  exact ⟨⟨rest, (hk ga (.inl rfl)).trans h1, h2⟩, own_same h3 fun k e => hk k (.inr e), h4, h5⟩
theorem OneK.cell {α : Type} {K : Kd α} {b hi ga : Nat} {W : World} {q : QX α} (h : OneK K b hi W ga q) {j : Nat} {u : Value} (hu : (K.cells q)[j]? = some u) : W.cell? ⟨ga, j, none⟩ = some u := by
  obtain ⟨⟨rest, h1, h2⟩, _⟩ := h
  rw [h1.cell]
  exact h2 j u hu
theorem FrS.cellK {α : Type} {K : Kd α} {b hi ga : Nat} {q : QX α} (h : FrS w0 g p c m B wB w) (ho : OneK K b hi wB ga q) (hB : B ga) {j : Nat} {u : Value} (hu : (K.cells q)[j]? = some u) : w.cell? ⟨ga, j, none⟩ = some u := by
  obtain ⟨⟨rest, h1, h2⟩, _⟩ := ho
  exact ((h.blk h1 hB).cell j).trans (h2 j u hu)
theorem FrS.oneK {α : Type} {K : Kd α} {b hi ga : Nat} {q : QX α} (h : FrS w0 g p c m B wB w) (ho : OneK K b hi wB ga q) (hB : ∀ k, BK K ga q k → B k) : OneK K b hi w ga q := ho.keep fun k hk => (h.kb k (hB k hk)).2.2
theorem oneK_size {α : Type} {K : Kd α} {b hi ga k : Nat} {W : World} {q : QX α} (h : OneK K b hi W ga q) (hk : BK K ga q k) : k < W.heap.size := by
  rcases hk with e | e
  · obtain ⟨⟨rest, h1, _⟩, _⟩ := h
    rw [e]; exact h1.lt
  · exact (World.ownsRow.lt h.el k e).2
theorem oneK_of {α : Type} {K : Kd α} {v : Value} {l : List (QX α)} {r : α} (h : RowK K w.heap.size w' v l) (hl : l.map (·.1) = [r]) (hn : ∀ q : QX α, (K.cells q).length = K.size) : ∃ ga ca A c, v = .slice (some ⟨ga, 0, none⟩) 1 ca ∧ OneK K w.heap.size w'.heap.size w' ga (r, A, c) := by
  have h1 : l.length = 1 := by have := congrArg List.length hl; simpa using this
  obtain ⟨q, rfl⟩ := List.length_eq_one_iff.1 h1
  simp only [List.map_cons, List.map_nil, List.cons.injEq, and_true] at hl
  subst hl
  have hel := h.els q (by simp)
  rcases h.row.2 with ⟨_, hx⟩ | ⟨gl, cap, cur, e1, hb, hg, hn', hm, hcs, hcell⟩
  · simp at hx
  · have hbk : Blk w' gl K.t cur := hg
    refine ⟨gl, cap, q.2.1, q.2.2, e1, ⟨cur, hbk, fun j u hu => ?_⟩, hel, ⟨hb, hbk.lt⟩, fun k hk => World.ownsRow.lt hel k hk⟩
    have h3 := kd_flat_at (l := [q]) hn (i := 0) rfl hu
    rw [← hcell, List.getElem?_take] at h3
    split at h3
    · simpa using h3
    · cases h3
theorem fr_ok4 {cb : List UInt8} {r : Rp} (hc : cb.length ≤ 1024) : (frC4 cb r).Ok 1 := by constructor <;> simp [frC4, frC3, frC2, frC1, Cl.new, hc]
theorem fr_replies {cb : List UInt8} {r : Rp} (h : FrS w0 g p (frC4 cb r) m B wB w) (hc : cb.length ≤ 1024) (hv : ∀ q ∈ (frC4 cb r).reps, q.vals.length ≤ 32) :
    Calls Try.prog 25 #[.pointer (some ⟨g, 0, none⟩)] w fun e w' => ∃ ga ca A c, e = .returned (.slice (some ⟨ga, 0, none⟩) 1 ca) ∧ OneK kR w.heap.size w'.heap.size w' ga (r, A, c) ∧ Below w.heap.size w w' := by
  have h1 := replies_any (N := 1) h.ca (fr_ok4 hc) (by decide) hv
  rw [h.gp] at h1
  refine h1.mono ?_
  rintro e w' ⟨v, l, he, hr, hl, hb⟩
  obtain ⟨ga, ca, A, c, rfl, ho⟩ := oneK_of hr hl kR_len
  exact ⟨ga, ca, A, c, he, ho, hb⟩
theorem fr_events {cb : List UInt8} {r : Rp} (h : FrS w0 g p (frC4 cb r) m B wB w) (hc : cb.length ≤ 1024) (hv : ∀ q ∈ (frC4 cb r).evs, q.2.vals.length ≤ 32) :
    Calls Try.prog 26 #[.pointer (some ⟨g, 0, none⟩)] w fun e w' => ∃ ga ca A c, e = .returned (.slice (some ⟨ga, 0, none⟩) 1 ca) ∧ OneK kE w.heap.size w'.heap.size w' ga ((3, r), A, c) ∧ Below w.heap.size w w' := by
  have h1 := events_any (N := 1) h.ca (fr_ok4 hc) (by decide) hv
  rw [h.gp] at h1
  refine h1.mono ?_
  rintro e w' ⟨v, l, he, hr, hl, hb⟩
  obtain ⟨ga, ca, A, c, rfl, ho⟩ := oneK_of hr hl kE_len
  exact ⟨ga, ca, A, c, he, ho, hb⟩
theorem own_cell2 {base : Nat} {e : TypeId} {v : Value} {n : Nat} {xs : List Value} {j : Nat} (h : w.ownsRow base e 2 v n xs) (hj : j < n) : ∃ gp c u u', v = .slice (some ⟨gp, 0, none⟩) n c ∧ base ≤ gp ∧ gp < w.heap.size ∧ w.cell? ⟨gp, j * 2, none⟩ = some u ∧ w.cell? ⟨gp, j * 2 + 1, none⟩ = some u' ∧ w.frozen? ⟨gp, j * 2, none⟩ = false ∧ w.frozen? ⟨gp, j * 2 + 1, none⟩ = false := by
  rcases h.2 with ⟨_, hx⟩ | ⟨gp, cap, cur, e1, hb, hg, hn', hm, hcs, hcell⟩
  · omega
  · have hbk : Blk w gp e cur := hg
    have key : ∀ i, i < n * 2 → w.cell? ⟨gp, i, none⟩ = some (xs.getD i undef) := fun i hi => by
      have hl : i < xs.length := by have := h.1; omega
      rw [hbk.cell i]
      have h2 : xs[i]? = some xs[i] := List.getElem?_eq_getElem hl
      rw [List.getD_eq_getElem?_getD, h2]
      conv at h2 => lhs; rw [← hcell]
      rw [List.getElem?_take, if_pos (by simpa using hi)] at h2
      simpa using h2
    exact ⟨gp, cap, _, _, e1, hb, hbk.lt, key _ (by omega), key _ (by omega), hbk.frozen _, hbk.frozen _⟩
end
/-- what is kept: two rows; a list's block and a row more -/
def B4 (B : Nat → Prop) (g : Nat) (x : Value) (k : Nat) : Prop := B k ∨ k = g ∨ x.ownBlock = some k
theorem FrS.with_ {w0 w wB : World} {g m : Nat} {p : Pa} {c : Cl} {B : Nat → Prop} {gl cl n cc : Nat} {A : Option Addr} {bs : List UInt8} {b : Nat} (h : FrS w0 g p c m B wB w) (ho : FrO b w p gl cl A n cc bs) : FrS w0 g p c m (B4 B gl (.slice A n cc)) w w := h.keep fun k hk => by
  rcases hk with hk | rfl | hk
  · exact ⟨(h.kb k hk).1, (h.kb k hk).2.1⟩
  · exact ⟨ho.ge.2, ho.ap.1⟩
  · exact ⟨(ho.ge2 k hk).2, ho.ap.2 k hk⟩
/-- the row of z in its loop -/
def ZR (w0 : World) (p : Pa) (B : Nat → Prop) (n : Nat) (v : Value) (w : World) : Prop := ∃ (A : Option Addr) (c : Nat) (xs : List Value), v = .slice A n c ∧ w.ownsRow w0.heap.size 5 1 (.slice A n c) n xs ∧ ∀ k, (Value.slice A n c).ownBlock = some k → ¬ CF p k ∧ ¬ B k
theorem ZR.step {w0 w w1 w2 wB : World} {g m n : Nat} {p : Pa} {c : Cl} {B : Nat → Prop} {v v' : Value} {xs ys : List Value} (hs : FrS w0 g p c m B wB w) (hb : Below w.heap.size w w1)
    (hv : ∀ k, v.ownBlock = some k → ¬ CF p k ∧ ¬ B k) (ho : w.ownsRow w0.heap.size 5 1 v n xs) (ho' : w2.ownsRow w0.heap.size 5 1 v' (n + 1) ys) (hg : w1.grownBy w2 v.ownBlock) (hv' : v'.ownBlock = v.ownBlock ∨ v'.ownBlock = some w1.heap.size) :
    FrS w0 g p c m B wB w2 ∧ ZR w0 p B (n + 1) v' w2 := by
  have h1 := hs.below hb
  refine ⟨h1.chg (F := fun k => v.ownBlock = some k) (Chg.of_grown hg fun k hk => hk) fun k hk => ⟨(World.ownsRow.lt ho k hk).1, hv k hk⟩, ?_⟩
  obtain ⟨A, c', rfl, _, _⟩ := own_formL ho'
  refine ⟨A, c', ys, rfl, ho', fun k hk => ?_⟩
  rcases hv' with e | e
  · exact hv k (by rw [← e]; exact hk)
  · have : k = w1.heap.size := by rw [e] at hk; simpa using hk.symm
    subst this
    exact ⟨fun hc => by have := (h1.ca.lt hc).2; omega, fun hc => by have := (h1.kb _ hc).1; omega⟩
def B5 (B : Nat → Prop) (g1 g2 : Nat) (x : Value) (k : Nat) : Prop := B k ∨ k = g1 ∨ k = g2 ∨ x.ownBlock = some k
theorem info5' : (Try.prog.info? 5).map (fun i => (i.zero, i.size, i.bytes)) = some (some (.int .u8 0), 1, 1) := by kernel_rfl
def B2 (u v : Value) (k : Nat) : Prop := u.ownBlock = some k ∨ v.ownBlock = some k
end Go.Proofs.Ytjhkfpemcplaaaa
namespace Go.Proofs.Ytjhkfpemcplaaaa
open Go.RowKit

set_option maxRecDepth 20000 in
set_option maxHeartbeats 4000000 in
theorem lawfresh_any (xk : Int) (xh : Nat) (xA : Option Addr) (xn xc : Nat) (xs : ByteArray) (er : Int) (tA : Option Addr) (tn tc : Nat) (ts : ByteArray) (ns : List Int) (vs : List (Nat × Int)) (w : World)
    (hrx : RdI w w.heap.size xA xn ns) (hu : ∀ z ∈ ns, I64 z) (hxh : xh < 18446744073709551616) (he : I64 er) (hrt : RdV w w.heap.size tA tn vs) (hv : ∀ v ∈ vs, v.1 < 18446744073709551616 ∧ I64 v.2) :
    Calls Try.prog 4 #[.agg #[.int .i64 xk, .int .u64 (xh : Int), .slice xA xn xc, .string xs], .agg #[.int .i64 er, .slice tA tn tc, .string ts]] w (FreP w) := by
  obtain ⟨good, hgd⟩ := good_of (goodC xk xh ns xs.data.toList)
  obtain ⟨fine, hfi⟩ := good_of (goodR er vs ts.data.toList)
  obtain ⟨cb, hcb⟩ : ∃ cb, cmdB xk xh ns xs.data.toList = cb := ⟨_, rfl⟩
  obtain ⟨rb, hrb⟩ : ∃ rb, replyB er vs ts.data.toList = rb := ⟨_, rfl⟩
  obtain ⟨w1, hw1⟩ : ∃ w1, (w.alloc (.cells #[.int .i64 xk, .int .u64 (xh : Int), .slice xA xn xc, .string xs] 35)).alloc (.cells #[.int .i64 er, .slice tA tn tc, .string ts] 53) = w1 := ⟨_, rfl⟩
  have hb1 : Below w.heap.size w w1 := hw1 ▸ ((Below.refl _ _).alloc (Nat.le_refl _) _).alloc (by simp) _
  have hX : Blk w1 w.heap.size 35 #[.int .i64 xk, .int .u64 (xh : Int), .slice xA xn xc, .string xs] := hw1 ▸ (Blk.new w 35 _).alloc _
  have hT : Blk w1 (w.heap.size + 1) 53 #[.int .i64 er, .slice tA tn tc, .string ts] := hw1 ▸ Blk.new' _ 53 _ _ (by simp)
  have HPC := Lib.hid fun (W : World) (h : Below w1.heap.size w1 W) => (rputc_any xk xh xA xn xc ns xs W hxh ((hrx.below (hb1.trans (h.mono hb1.size))).more (hb1.trans (h.mono hb1.size)).size) hu).mono fun e w' h => hcb ▸ putX_of hgd h
  have HPR := Lib.hid fun (W : World) (h : Below w1.heap.size w1 W) => (rputr_any er tA tn tc vs ts W he ((hrt.below (hb1.trans (h.mono hb1.size))).more (hb1.trans (h.mono hb1.size)).size) hv).mono fun e w' h => hrb ▸ putX_of hfi h
  have HX := Lib.hid fun (W : World) (h : Below w1.heap.size w1 W) (j : Nat) => (h.cell (p := ⟨w.heap.size, j, none⟩) hX.lt).trans (hX.cell j)
  have HT := Lib.hid fun (W : World) (h : Below w1.heap.size w1 W) (j : Nat) => (h.cell (p := ⟨w.heap.size + 1, j, none⟩) hT.lt).trans (hT.cell j)
  have HB1 := Lib.hid hb1
  have HGD := Lib.hid hgd
  have HFI := Lib.hid hfi
  have HRX := Lib.hid hrx
  have HRT := Lib.hid hrt
  have HU := Lib.hid hu
  have HV := Lib.hid hv
  have HE := Lib.hid he
  have HXH := Lib.hid hxh
  have HCB := Lib.hid hcb
  have HRB := Lib.hid hrb
  clear hb1 hX hT hgd hfi hrx hu hxh he hrt hv hcb hrb
  go_enter Try.func4, Try.ntmps4
  go_upto_region 1 with fail
  clear hw1
  generalize hbx : w.heap.size = bx at *
  go_upto_region 4 with (first
    | (go_at_call 10; refine (fr_new _).mono ?_; rintro e w2 ⟨g, p, rfl, hs⟩; have HS := Lib.hid hs; clear hs)
    | (go_at_call 13; refine (num_any _ _).mono ?_; rintro e w3 ⟨rfl, rfl⟩)
    | (go_at_call 12; refine (awake_any _).mono ?_; rintro e w3 ⟨rfl, hb⟩; have HS3 := Lib.hid (HS.out.below hb); clear hb))
  clear HS
  have HS0 : Hid (bx ≤ w1.heap.size) := Lib.hid (by have := HB1.out.size; omega)
  have y0 : w3.cell? ⟨bx, 0, none⟩ = some (.int .i64 xk) := HX.out _ HS3.out.old 0
  have y1 : w3.cell? ⟨bx, 1, none⟩ = some (.int .u64 (xh : Int)) := HX.out _ HS3.out.old 1
  have y2 : w3.cell? ⟨bx, 2, none⟩ = some (.slice xA xn xc) := HX.out _ HS3.out.old 2
  have y3 : w3.cell? ⟨bx, 3, none⟩ = some (.string xs) := HX.out _ HS3.out.old 3
  go_upto_region 6 with (first
    | (go_at_call 14; refine (HPC.out _ HS3.out.old).mono ?_; rintro e w4 ⟨A4, n4, c4, rfl, hg4, hb⟩; have HS4 := Lib.hid (HS3.out.below hb); have HG4 := Lib.hid hg4; have HB4 := Lib.hid hb; clear hb hg4 y0 y1 y2 y3; have t0 : w4.cell? ⟨bx + 1, 0, none⟩ = some (.int .i64 er) := HT.out _ HS4.out.old 0; have t1 : w4.cell? ⟨bx + 1, 1, none⟩ = some (.slice tA tn tc) := HT.out _ HS4.out.old 1; have t2 : w4.cell? ⟨bx + 1, 2, none⟩ = some (.string ts) := HT.out _ HS4.out.old 2)
    | (go_at_call 18; refine (HPR.out _ HS4.out.old).mono ?_; rintro e w5 ⟨A5, n5, c5, rfl, hg5, hb⟩; have HS5 := Lib.hid (HS4.out.below hb); have HG5 := Lib.hid hg5; have HB5 := Lib.hid hb; clear hb hg5 t0 t1 t2))
  have HOL : Hid (Below w.heap.size w w5) := Lib.hid (by rw [hbx]; exact HB1.out.trans (HS5.out.old.mono HS0.out))
  cases good with
  | false => go_wp2; go_ret; exact ⟨rfl, HOL.out⟩
  | true =>
    cases fine with
    | false => go_wp2; go_ret; exact ⟨rfl, HOL.out⟩
    | true =>
      obtain ⟨rfl, h4⟩ := HG4.out rfl
      obtain ⟨rfl, h5⟩ := HG5.out rfl
      have gC : goodC xk xh ns xs.data.toList := HGD.out.1 rfl
      have gR : goodR er vs ts.data.toList := HFI.out.1 rfl
      have HG := Lib.hid gC
      have HF := Lib.hid gR
      have h4' := own_same (w' := w5) h4 fun k hk => HB5.out.block k (World.ownsRow.lt h4 k hk).2
      have HS6 : Hid (FrS w1 g p frC0 0 (fun k => (Value.slice A4 cb.length c4).ownBlock = some k ∨ (Value.slice A5 rb.length c5).ownBlock = some k) w5 w5) := Lib.hid (HS5.out.keep fun k hk => by
        have hs := HS3.out
        rcases hk with hk | hk
        · have h1 := World.ownsRow.lt h4' k hk
          exact ⟨h1.2, fun hc => by have := (hs.ca.lt hc).2; omega⟩
        · have h1 := World.ownsRow.lt h5 k hk
          have := HB4.out.size
          exact ⟨h1.2, fun hc => by have := (hs.ca.lt hc).2; omega⟩)
      have HW := Lib.hid (own_base h4' (base' := 0) (Nat.zero_le _))
      have HR := Lib.hid (own_base h5 (base' := 0) (Nat.zero_le _))
      have HTW := Lib.hid fun (W : World) (h : Below w1.heap.size w1 W) => twin_any xk xh xA xn xc ns xs W ((HRX.out.below (HB1.out.trans (h.mono HS0.out))).more (by have := HS0.out; have := h.size; omega)) (by have := RdI.len HRX.out; have := HG.out.2.2.1; omega)
      have x0 : w5.cell? ⟨bx, 0, none⟩ = some (.int .i64 xk) := HX.out _ HS5.out.old 0
      have x1 : w5.cell? ⟨bx, 1, none⟩ = some (.int .u64 (xh : Int)) := HX.out _ HS5.out.old 1
      have x2 : w5.cell? ⟨bx, 2, none⟩ = some (.slice xA xn xc) := HX.out _ HS5.out.old 2
      have x3 : w5.cell? ⟨bx, 3, none⟩ = some (.string xs) := HX.out _ HS5.out.old 3
      clear HG4 HG5 HPC HPR HGD HFI h4 h5 h4' gC gR HS3 HS4 HB4 HB5 HS5
      generalize cb.length = nc at *
      generalize rb.length = nr at *
      go_upto_region 9 with (go_at_call 19; refine (HTW.out _ HS6.out.old).mono ?_; rintro e w6 ⟨A6, c6, rfl, ho6, hb6⟩; have HS7 := Lib.hid (HS6.out.below hb6); have HO6 := Lib.hid ho6; have HB6 := Lib.hid hb6; clear ho6 hb6 x0 x1 x2 x3)
      have hx : Blk (w6.alloc (.cells #[.int .i64 xk, .int .u64 (xh : Int), .slice A6 ns.length c6, .string xs] 35)) w6.heap.size 35 #[.int .i64 xk, .int .u64 (xh : Int), .slice A6 ns.length c6, .string xs] := Blk.new w6 35 _
      have hb7 : Below w6.heap.size w6 (w6.alloc (.cells #[.int .i64 xk, .int .u64 (xh : Int), .slice A6 ns.length c6, .string xs] 35)) := (Below.refl _ _).alloc (Nat.le_refl _) _
      have h60 : (w6.alloc (.cells #[.int .i64 xk, .int .u64 (xh : Int), .slice A6 ns.length c6, .string xs] 35)).ownsRow 0 3 1 (.slice A6 ns.length c6) ns.length (ns.map (Value.int .i64)) := own_base (own_same HO6.out fun k hk => hb7.block k (World.ownsRow.lt HO6.out k hk).2) (Nat.zero_le _)
      have hlt : ∀ k, (Value.slice A6 ns.length c6).ownBlock = some k → w5.heap.size ≤ k := fun k hk => (World.ownsRow.lt HO6.out k hk).1
      generalize hwc : w6.alloc (.cells #[.int .i64 xk, .int .u64 (xh : Int), .slice A6 ns.length c6, .string xs] 35) = w7 at *
      have HS8 : Hid (FrS w1 g p frC0 0 (fun k => (Value.slice A4 nc c4).ownBlock = some k ∨ (Value.slice A5 nr c5).ownBlock = some k ∨ k = w6.heap.size ∨ (Value.slice A6 ns.length c6).ownBlock = some k) w7 w7) := Lib.hid ((HS7.out.below hb7).keep fun k hk => by
        have h1 := (HS7.out.below hb7).kb k
        have h2 := HS6.out
        have h3 := HB6.out.size
        rcases hk with hk | hk | rfl | hk
        · exact ⟨(h1 (.inl hk)).1, (h1 (.inl hk)).2.1⟩
        · exact ⟨(h1 (.inr hk)).1, (h1 (.inr hk)).2.1⟩
        · exact ⟨hx.lt, fun hc => by have := (h2.ca.lt hc).2; omega⟩
        · exact ⟨(World.ownsRow.lt h60 k hk).2, fun hc => by have := (h2.ca.lt hc).2; have := hlt k hk; omega⟩)
      have HW7 := Lib.hid ((HS7.out.below hb7).row HW.out fun k hk => .inl hk)
      have HR7 := Lib.hid ((HS7.out.below hb7).row HR.out fun k hk => .inr hk)
      have HX7 := Lib.hid hx
      have HO7 := Lib.hid (own_same (w' := w7) (own_base HO6.out (base' := w1.heap.size) HS6.out.old.size) fun k hk => by rw [← hwc]; exact ((Below.refl _ _).alloc (Nat.le_refl _) _).block k (World.ownsRow.lt HO6.out k hk).2)
      have hne7 : ∀ k, (Value.slice A6 ns.length c6).ownBlock = some k → (Value.slice A4 nc c4).ownBlock ≠ some k ∧ (Value.slice A5 nr c5).ownBlock ≠ some k := fun k hk => ⟨fun e => by have := (HS6.out.kb k (.inl e)).1; have := hlt k hk; omega, fun e => by have := (HS6.out.kb k (.inr e)).1; have := hlt k hk; omega⟩
      have HN7 := Lib.hid hne7
      clear hx hb7 h60 hlt hwc hne7 HS6 HS7 HO6 HB6 HW HR HTW
      generalize w6.heap.size = bg at *
      go_upto_region 10 with (go_at_call 20; refine (fr_connect HS8.out).mono ?_; rintro e w8 ⟨p8, v8, rfl, hs8⟩; have HS9 := Lib.hid hs8; clear hs8)
      have HO9 := Lib.hid (HS9.out.row HO7.out fun k hk => .inr (.inr (.inr hk)))
      have hx9 := HS9.out.blk HX7.out (.inr (.inr (.inl rfl)))
      have x0 : w8.cell? ⟨bg, 0, none⟩ = some (.int .i64 xk) := hx9.cell 0
      have x1 : w8.cell? ⟨bg, 1, none⟩ = some (.int .u64 (xh : Int)) := hx9.cell 1
      have x2 : w8.cell? ⟨bg, 2, none⟩ = some (.slice A6 ns.length c6) := hx9.cell 2
      have x3 : w8.cell? ⟨bg, 3, none⟩ = some (.string xs) := hx9.cell 3
      clear HX hx9 HS8
      go_upto_block 0 with (go_at_call 21; refine (fr_issue HS9.out HXH.out (Reads.of_own HO9.out) HU.out HG.out HCB.out).mono ?_; rintro e w10 ⟨p10, v10, rfl, hs10⟩; have HS10 := Lib.hid hs10; clear hs10 x0 x1 x2 x3)
      have HO10 := Lib.hid (HS10.out.row HO7.out fun k hk => .inr (.inr (.inr hk)))
      have HX10 := Lib.hid (HS10.out.blk HX7.out (.inr (.inr (.inl rfl))))
      have HNC : Hid (∀ k, (Value.slice A6 ns.length c6).ownBlock = some k → ¬ CF p10 k) := Lib.hid fun k hk => (HS10.out.kb k (.inr (.inr (.inr hk)))).2.1
      have HSA : Hid (FrS w1 g p10 (frC2 cb) 0 (fun k => (Value.slice A4 nc c4).ownBlock = some k ∨ (Value.slice A5 nr c5).ownBlock = some k ∨ k = bg) w7 w10) := Lib.hid (HS10.out.less fun k hk => by rcases hk with hk | hk | hk <;> simp [hk])
      have hl32 : ns.length ≤ 32 := HG.out.2.2.1
      have HCL : Hid (cb.length ≤ 1024) := Lib.hid (HCB.out ▸ HG.out.2.2.2.2)
      clear HS9 HS10 HO9 HO7 HX10 HG HU HXH HCB
      go_cut [12] (fun v wx => ∃ wz, wz = wx ∧ FrS w1 g p10 (frC2 cb) 0 (B2 (.slice A4 nc c4) (.slice A5 nr c5)) w7 wz)
      case first =>
        go_wp2_with fail
        go_loopw [12] (fun v wr => ∃ (k : Nat) (zs : List Value), k ≤ ns.length ∧ v = .int .i64 (k : Int) ∧ FrS w1 g p10 (frC2 cb) 0 (fun k => (Value.slice A4 nc c4).ownBlock = some k ∨ (Value.slice A5 nr c5).ownBlock = some k ∨ k = bg) w7 wr ∧ (∀ z ∈ zs, ∃ i : Int, z = .int .i64 i) ∧ wr.ownsRow w1.heap.size 3 1 (.slice A6 ns.length c6) ns.length zs) (fun v _ => ns.length - (intOf v).toNat)
        case atStart => exact ⟨0, ns.map (Value.int .i64), Nat.zero_le _, rfl, HSA.out, (fun z hz => by obtain ⟨i, _, rfl⟩ := List.mem_map.1 hz; exact ⟨i, rfl⟩), HO10.out⟩
        case round =>
          obtain ⟨k, zs, hk, rfl, hfr, hzs, hown⟩ := hrel
          have HFR := Lib.hid hfr
          have HZS := Lib.hid hzs
          have HOW := Lib.hid hown
          have y2 : wr.cell? ⟨bg, 2, none⟩ = some (.slice A6 ns.length c6) := (hfr.blk HX7.out (.inr (.inr rfl))).cell 2
          clear hfr hzs hown
          by_cases hlt : k < ns.length
          · obtain ⟨gp, c, u, he, hge, hgp, hu, hc, hf⟩ := own_cell1 HOW.out hlt
            injection he with hA _ hC
            subst hA
            obtain ⟨z, rfl⟩ := HZS.out u (List.mem_of_getElem? hu)
            have l1 : (0 : Int) ≤ (k : Int) := by omega
            have l2 : (k : Int) < (ns.length : Int) := by omega
            have HQ : Hid (∀ y : Int, FrS w1 g p10 (frC2 cb) 0 (fun k => (Value.slice A4 nc c4).ownBlock = some k ∨ (Value.slice A5 nr c5).ownBlock = some k ∨ k = bg) w7 (wr.setCell ⟨gp, k, none⟩ (.int .i64 y)) ∧ (∀ z ∈ zs.set k (.int .i64 y), ∃ i : Int, z = .int .i64 i) ∧ (wr.setCell ⟨gp, k, none⟩ (.int .i64 y)).ownsRow w1.heap.size 3 1 (.slice (some ⟨gp, 0, none⟩) ns.length c6) ns.length (zs.set k (.int .i64 y))) := Lib.hid fun y => by
              refine ⟨HFR.out.chg ((Chg.refl (· = gp) wr).setCell (p := ⟨gp, k, none⟩) (fun _ => rfl) _) (fun i e => ?_), fun z hz => ?_, own_setN HOW.out rfl _⟩
              · subst e
                refine ⟨hge, HNC.out _ rfl, fun hb => ?_⟩
                rcases hb with hb | hb | rfl
                · exact (HN7.out _ rfl).1 hb
                · exact (HN7.out _ rfl).2 hb
                · exact own_blk_ne HOW.out (HFR.out.blk HX7.out (.inr (.inr rfl))) (by decide) rfl
              · rcases List.mem_or_eq_of_mem_set hz with hz | rfl
                · exact HZS.out z hz
                · exact ⟨y, rfl⟩
            clear hu hC
            go_wp2
            go_roundw
            case rel => exact ⟨k + 1, _, hlt, by go_num, HQ.out _⟩
            case measure => simp [intOf]; omega
          · have l2 : ¬ (k : Int) < (ns.length : Int) := by omega
            go_wp2
            go_meet
            exact ⟨_, rfl, HFR.out.less fun k hk => by rcases hk with hk | hk <;> simp [hk]⟩
      case rest =>
      obtain ⟨w11, rfl, hs11⟩ := hcut
      have HS11 := Lib.hid hs11
      clear hs11 HSA HN7 HNC HO10 HX7
      have h20 : ∀ w : World, Calls Try.prog 23 #[.agg #[.int .i64 2, .int .u64 1, .int .u64 0, .int .u64 0, .slice none 0 0]] w fun e w' => ∃ A n c, e = .returned (.slice A n c) ∧ RdB w' w'.heap.size A n (frm ⟨2, 1, 0, 0, []⟩) ∧ Below w.heap.size w w' := fun w => (aw_pack w).mono fun e w' ⟨A, c, h⟩ => ⟨A, _, c, h⟩
      have HPK := Lib.hid h20
      clear h20
      go_upto_region 16 with (first
        | (go_at_call 23; refine (HPK.out _).mono ?_; rintro e w12 ⟨A12, n12, c12, rfl, hr12, hb12⟩; have HS12 := Lib.hid (HS11.out.below hb12); have HR12 := Lib.hid hr12; clear hr12 hb12)
        | (go_at_call 22; refine (fr_recv1x HS12.out (by decide) HCL.out HR12.out).mono ?_; rintro e w13 ⟨p13, gl, cl, Al, cal, rfl, hs13, ho13⟩; have HS13 := Lib.hid hs13; have HO13 := Lib.hid ho13; clear hs13 ho13))
      have HS14 := Lib.hid (HS13.out.with_ HO13.out)
      go_upto_region 17 with (go_at_call 24; refine (fr_tickx HS14.out HCL.out).mono ?_; rintro e w15 ⟨p15, gm, cm, Am, cam, rfl, hs15, ho15⟩; have HS15 := Lib.hid hs15; have HO15 := Lib.hid ho15; clear hs15 ho15)
      have HS16 := Lib.hid (HS15.out.with_ HO15.out)
      have HW16 := Lib.hid (HS15.out.below (Below.refl _ _))
      have hfl : (frm ⟨3, 1, 1, 0, cb⟩).length ≤ 1088 := frm_len (okPk_of HCL.out)
      have HFL := Lib.hid hfl
      obtain ⟨fb, hfb⟩ : ∃ fb, frm ⟨3, 1, 1, 0, cb⟩ = fb := ⟨_, rfl⟩
      have HFB := Lib.hid hfb
      rw [hfb] at HO13 HS14 HS15 HO15 HS16 HFL hfl
      clear hfb
      obtain ⟨nf, hnf⟩ : ∃ nf, fb.length = nf := ⟨_, rfl⟩
      have HNF := Lib.hid hnf
      rw [hnf] at HO13 HS14 HS15 HO15 HS16 HFL hfl
      clear hnf
      obtain ⟨restl, hbl, hrl⟩ := HO13.out.out
      obtain ⟨restm, hbm, hrm⟩ := HO15.out.out
      have HBL := Lib.hid (HS15.out.blk hbl (.inr (.inl rfl)))
      have HBM := Lib.hid hbm
      have HRL := Lib.hid hrl
      have HRM := Lib.hid hrm
      have HOL15 := Lib.hid (HS15.out.row HO13.out.el fun k hk => .inr (.inr hk))
      have HNL : Hid (∀ k, (Value.slice Al nf cal).ownBlock = some k → ¬ CF p15 k ∧ ¬ B5 (B2 (.slice A4 nc c4) (.slice A5 nr c5)) gl gm (.slice Am nf cam) k) := Lib.hid fun k hk => by
        refine ⟨(HS16.out.kb k (.inl (.inr (.inr hk)))).2.1, fun hb => ?_⟩
        have h1 := HO13.out.ge2 k hk
        rcases hb with hb | rfl | rfl | hb
        · have := (HS12.out.kb k hb).1; omega
        · exact own_blk_ne HO13.out.el hbl (by decide) hk
        · have := HO15.out.ge.1; omega
        · have := (HO15.out.ge2 k hb).1; omega
      have HSL : Hid (FrS w1 g p15 (frC3 cb) 3000 (B5 (B2 (.slice A4 nc c4) (.slice A5 nr c5)) gl gm (.slice Am nf cam)) w15 w15) := Lib.hid (HS16.out.less fun k hk => by
        rcases hk with hk | hk | hk | hk
        · exact .inl (.inl hk)
        · exact .inl (.inr (.inl hk))
        · exact .inr (.inl hk)
        · exact .inr (.inr hk))
      have HOL2 : Hid (w15.ownsRow w1.heap.size 5 1 (.slice Al nf cal) nf (fb.map bv)) := Lib.hid (by
        refine ⟨HOL15.out.1, ?_⟩
        rcases HOL15.out.2 with hn | ⟨g1, cap, cur, e, _, rest⟩
        · exact .inl hn
        · have h1 := (HO13.out.ge2 g1 (by rw [e]; rfl)).1
          have h2 := HS12.out.old.size
          exact .inr ⟨g1, cap, cur, e, by omega, rest⟩)
      have HOM : Hid (w15.ownsRow 0 5 1 (.slice Am nf cam) nf (fb.map bv)) := Lib.hid HO15.out.el
      have HW15 := Lib.hid (HS15.out.row (own_same (w' := w13) HW7.out fun k hk => (HS13.out.kb k (.inl hk)).2.2) fun k hk => .inl (.inl hk))
      have HR15 := Lib.hid (HS15.out.row (own_same (w' := w13) HR7.out fun k hk => (HS13.out.kb k (.inr hk)).2.2) fun k hk => .inl (.inr hk))
      have m0 : w15.cell? ⟨gm, 0, none⟩ = some (.slice Am nf cam) := (HBM.out.cell 0).trans HRM.out
      have cv0 : (convert 37 9 (.slice Am nf cam)).run Try.prog w15 = .ok (.string ⟨fb.toArray⟩) w15 := run_string_of _ 37 9 5 (Reads.of_own HOM.out) Try.underlying37 Try.underlying5 Try.underlying9
      clear hbl hbm hrl hrm HS11 HS12 HR12 HS13 HW16 HPK HS14 HS15 HS16 HO13 HO15 HOL15 HW7 HR7
      go_upto_block 2 with fail
      clear m0 cv0
      go_cut [16] (fun v wx => ∃ wz, wz = wx ∧ FrS w1 g p15 (frC3 cb) 3000 (B5 (B2 (.slice A4 nc c4) (.slice A5 nr c5)) gl gm (.slice Am nf cam)) w15 wz ∧ ∃ zs, wz.ownsRow w1.heap.size 5 1 (.slice Al nf cal) nf zs)
      case first =>
        go_wp2_with fail
        go_loopw [16] (fun v wr => ∃ (k : Nat) (zs : List Value), k ≤ nf ∧ v = .int .i64 (k : Int) ∧ FrS w1 g p15 (frC3 cb) 3000 (B5 (B2 (.slice A4 nc c4) (.slice A5 nr c5)) gl gm (.slice Am nf cam)) w15 wr ∧ wr.ownsRow w1.heap.size 5 1 (.slice Al nf cal) nf zs) (fun v _ => nf - (intOf v).toNat)
        case atStart => exact ⟨0, _, Nat.zero_le _, rfl, HSL.out, HOL2.out⟩
        case round =>
          obtain ⟨k, zs, hk, rfl, hfr, hown⟩ := hrel
          have HFR := Lib.hid hfr
          have HOW := Lib.hid hown
          have y0 : wr.cell? ⟨gl, 0, none⟩ = some (.slice Al nf cal) := ((hfr.blk HBL.out (.inr (.inl rfl))).cell 0).trans HRL.out
          clear hfr hown
          by_cases hlt : k < nf
          · obtain ⟨gp, c, u, he, hge, hgp, hu, hc, hf⟩ := own_cell1 HOW.out hlt
            injection he with hA _ hC
            subst hA
            have l1 : (0 : Int) ≤ (k : Int) := by omega
            have l2 : (k : Int) < (nf : Int) := by omega
            have HQ : Hid (∀ y : Value, FrS w1 g p15 (frC3 cb) 3000 (B5 (B2 (.slice A4 nc c4) (.slice A5 nr c5)) gl gm (.slice Am nf cam)) w15 (wr.setCell ⟨gp, k, none⟩ y) ∧ (wr.setCell ⟨gp, k, none⟩ y).ownsRow w1.heap.size 5 1 (.slice (some ⟨gp, 0, none⟩) nf cal) nf (zs.set k y)) := Lib.hid fun y => by
              refine ⟨HFR.out.chg ((Chg.refl (· = gp) wr).setCell (p := ⟨gp, k, none⟩) (fun _ => rfl) _) (fun i e => ?_), own_setN HOW.out rfl _⟩
              subst e
              exact ⟨hge, HNL.out _ rfl⟩
            clear hu hC
            go_wp2
            go_roundw
            case rel => exact ⟨k + 1, _, hlt, by go_num, HQ.out _⟩
            case measure => simp [intOf]; omega
          · have l2 : ¬ (k : Int) < (nf : Int) := by omega
            go_wp2
            go_meet
            exact ⟨_, rfl, HFR.out, zs, HOW.out⟩
      case rest =>
      obtain ⟨w16, rfl, hs16, zs16, ho16⟩ := hcut
      have y0 : w16.cell? ⟨gl, 0, none⟩ = some (.slice Al nf cal) := ((hs16.blk HBL.out (.inr (.inl rfl))).cell 0).trans HRL.out
      have HS16 := Lib.hid hs16
      have HO16 := Lib.hid ho16
      clear hs16 ho16 HSL HOL2
      go_upto_block 4 with fail
      clear y0
      go_cut [17, 18] (fun _v _i wx => ∃ wz, wz = wx ∧ FrS w1 g p15 (frC3 cb) 3000 (B5 (B2 (.slice A4 nc c4) (.slice A5 nr c5)) gl gm (.slice Am nf cam)) w15 wz)
      case first =>
        go_wp2_with fail
        go_loopw [17, 18] (fun v i wr => ∃ k : Nat, k ≤ 20 ∧ i = .int .i64 (k : Int) ∧ FrS w1 g p15 (frC3 cb) 3000 (B5 (B2 (.slice A4 nc c4) (.slice A5 nr c5)) gl gm (.slice Am nf cam)) w15 wr ∧ ZR w1 p15 (B5 (B2 (.slice A4 nc c4) (.slice A5 nr c5)) gl gm (.slice Am nf cam)) (nf + k) v wr) (fun _ i _ => 20 - (intOf i).toNat)
        case atStart => exact ⟨0, by omega, rfl, HS16.out, Al, cal, _, rfl, HO16.out, HNL.out⟩
        case round =>
          obtain ⟨k, hk, rfl, hfr, Az, cz, xz, rfl, hoz, hnz⟩ := hrel
          have HFR := Lib.hid hfr
          have HOZ := Lib.hid hoz
          have HNZ := Lib.hid hnz
          clear hfr hoz hnz
          by_cases hlt : k < 20
          · have l2 : (k : Int) < 20 := by omega
            generalize hnn : nf + k = nz at *
            have HNN := Lib.hid hnn
            clear hnn
            have hbo : nz ≤ 2000 := by have := HNN.out; have := HFL.out; omega
            have HBO := Lib.hid hbo
            clear hbo
            obtain ⟨i5, hi5, hz50, hz51, hz52⟩ := info_parts info5'
            go_wp2_with (at_builtin; refine wpList_append_any _ rfl (.tmp 121) (.tmp 122) 37 rfl w1.heap.size 5 i5 _ 1 1 Try.underlying37 hi5 hz50 hz51 hz52 rfl (by decide) (.slice Az nz cz) nz xz rfl (World.ownsRow.alloc HOZ.out _) _ _ 1 1 [bv 8] rfl (Reads.built _ _ [bv 8]) (by simp [Value.oneCell', bv]) (by simp only [maxLen]; have := HBO.out; omega) (by have := HBO.out; omega) (by have := HFR.out.old.size; simp; omega) ?_; intro v9 w9 hr9 hg9 hv9; have HZ9 := Lib.hid (ZR.step HFR.out ((Below.refl _ _).alloc (Nat.le_refl _) _) HNZ.out HOZ.out hr9 hg9 hv9); clear hr9 hg9 hv9)
            go_roundw
            case rel => exact ⟨k + 1, hlt, by go_num, HZ9.out.1, by rw [← Nat.add_assoc, HNN.out]; exact HZ9.out.2⟩
            case measure => simp [intOf]; omega
          · have l2 : ¬ (k : Int) < 20 := by omega
            go_wp2
            go_meet
            exact ⟨_, rfl, HFR.out⟩
      case rest =>
      obtain ⟨w17, rfl, hs17⟩ := hcut
      have m17 : w17.cell? ⟨gm, 0, none⟩ = some (.slice Am nf cam) := ((hs17.blk HBM.out (.inr (.inr (.inl rfl)))).cell 0).trans HRM.out
      have HOM17 := Lib.hid (hs17.row HOM.out fun k hk => .inr (.inr (.inr hk)))
      have HS17 := Lib.hid hs17
      have hcm : nf ≤ cam := by
        obtain ⟨A', c', e, h, _⟩ := own_formL HOM.out
        injection e with _ _ e
        omega
      have HUN := Lib.hid (fr_unp HOM17.out HFB.out HNF.out HCL.out hcm)
      clear hs17 HS16 HO16 hcm HRL HBL
      go_upto_region 30 with (go_at_call 17; refine HUN.out.mono ?_; rintro e w18 ⟨A18, c18, rfl, hr18, hb18⟩; have HR18 := Lib.hid hr18; have HB18 := Lib.hid hb18; clear hr18 hb18 m17)
      have hb19 : Below w17.heap.size w17 (w18.alloc (.cells #[.int .i64 3, .int .u64 1, .int .u64 1, .int .u64 0, .slice A18 cb.length c18] 39)) := HB18.out.trans (((Below.refl _ _).alloc (Nat.le_refl _) _).mono HB18.out.size)
      have hr19 := (HR18.out.alloc (Nat.le_refl _) (.cells #[.int .i64 3, .int .u64 1, .int .u64 1, .int .u64 0, .slice A18 cb.length c18] 39))
      have hx19 := Blk.new w18 39 #[.int .i64 3, .int .u64 1, .int .u64 1, .int .u64 0, .slice A18 cb.length c18]
      generalize w18.alloc (.cells #[.int .i64 3, .int .u64 1, .int .u64 1, .int .u64 0, .slice A18 cb.length c18] 39) = w19 at *
      generalize w18.heap.size = gp at *
      have HS19 := Lib.hid (HS17.out.below hb19)
      have m0 : w19.cell? ⟨gm, 0, none⟩ = some (.slice Am nf cam) := ((HS19.out.blk HBM.out (.inr (.inr (.inl rfl)))).cell 0).trans HRM.out
      have x4 : w19.cell? ⟨gp, 4, none⟩ = some (.slice A18 cb.length c18) := hx19.cell 4
      have cv1 : (convert 37 9 (.slice Am nf cam)).run Try.prog w19 = .ok (.string ⟨fb.toArray⟩) w19 := run_string_of _ 37 9 5 (Reads.of_own (HS19.out.row HOM.out fun k hk => .inr (.inr (.inr hk)))) Try.underlying37 Try.underlying5 Try.underlying9
      have cv2 : (convert 37 9 (.slice A18 cb.length c18)).run Try.prog w19 = .ok (.string ⟨cb.toArray⟩) w19 := run_string_of _ 37 9 5 hr19 Try.underlying37 Try.underlying5 Try.underlying9
      have cv3 : (convert 37 9 (.slice A4 nc c4)).run Try.prog w19 = .ok (.string ⟨cb.toArray⟩) w19 := run_string_of _ 37 9 5 (Reads.of_own (HS19.out.row HW15.out fun k hk => .inl (.inl hk))) Try.underlying37 Try.underlying5 Try.underlying9
      have HRB19 := Lib.hid (Reads.of_own (HS19.out.row HR15.out fun k hk => .inl (.inr hk)))
      clear hb19 hr19 hx19 HR18 HB18 HUN HS17
      have hnr : rb.length = nr := by have := HR15.out.1; simpa using this
      have hrl : rb.length ≤ 1024 := HRB.out ▸ HF.out.2.2.2
      have HGT : Hid (getG rb = some ⟨er, vs, ts.data.toList⟩) := Lib.hid (HRB.out ▸ getG_reply HE.out HV.out HF.out)
      have hvl : vs.length ≤ 32 := HF.out.1
      have HRL := Lib.hid hrl
      have HPA : Hid (∀ W : World, RdB W W.heap.size A5 nr rb → Calls Try.prog 23 #[.agg #[.int .i64 4, .int .u64 1, .int .u64 1, .int .u64 0, .slice A5 nr c5]] W (fun e w' => ∃ A2 c2, e = .returned (.slice A2 (frm ⟨4, 1, 1, 0, rb⟩).length c2) ∧ w'.ownsRow W.heap.size 5 1 (.slice A2 (frm ⟨4, 1, 1, 0, rb⟩).length c2) (frm ⟨4, 1, 1, 0, rb⟩).length ((frm ⟨4, 1, 1, 0, rb⟩).map bv) ∧ Below W.heap.size W w')) := Lib.hid fun W h => fr_pack (c := c5) 4 1 h hnr hrl (by decide) (by decide) (by decide)
      have HPB : Hid (∀ W : World, RdB W W.heap.size A5 nr rb → Calls Try.prog 23 #[.agg #[.int .i64 5, .int .u64 1, .int .u64 3, .int .u64 0, .slice A5 nr c5]] W (fun e w' => ∃ A2 c2, e = .returned (.slice A2 (frm ⟨5, 1, 3, 0, rb⟩).length c2) ∧ w'.ownsRow W.heap.size 5 1 (.slice A2 (frm ⟨5, 1, 3, 0, rb⟩).length c2) (frm ⟨5, 1, 3, 0, rb⟩).length ((frm ⟨5, 1, 3, 0, rb⟩).map bv) ∧ Below W.heap.size W w')) := Lib.hid fun W h => fr_pack (c := c5) 5 3 h hnr hrl (by decide) (by decide) (by decide)
      have hfa : (frm ⟨4, 1, 1, 0, rb⟩).length ≤ 1088 := frm_len (okPk_any 4 1 hrl (by decide) (by decide) (by decide))
      have hfb : (frm ⟨5, 1, 3, 0, rb⟩).length ≤ 1088 := frm_len (okPk_any 5 3 hrl (by decide) (by decide) (by decide))
      clear hnr hrl HF HR15 HW15 HOM HBM HRM HNL HOM17 HFB HNF hfl HFL
      go_upto_region 32 with fail
      clear m0 x4 cv1 cv2 cv3
      have HFA := Lib.hid hfa
      have HFB := Lib.hid hfb
      clear hfa hfb
      obtain ⟨fa, hfa⟩ : ∃ fa, frm ⟨4, 1, 1, 0, rb⟩ = fa := ⟨_, rfl⟩
      obtain ⟨fb2, hfb⟩ : ∃ fb2, frm ⟨5, 1, 3, 0, rb⟩ = fb2 := ⟨_, rfl⟩
      have HEA := Lib.hid hfa
      have HEB := Lib.hid hfb
      rw [hfa] at HFA HPA
      rw [hfb] at HFB HPB
      clear hfa hfb
      generalize hna : fa.length = na at *
      generalize hnb : fb2.length = nb at *
      have HNA := Lib.hid hna
      have HNB := Lib.hid hnb
      clear hna hnb
      obtain ⟨i5, hi5, hz50, hz51, hz52⟩ := info_parts info5'
      go_upto_region 33 with (first
        | (go_at_call 23; (with_reducible refine (HPA.out _ HRB19.out).mono ?_); rintro e w20 ⟨A20, c20, rfl, ho20, hb20⟩; have HO20 := Lib.hid ho20; have HB20 := Lib.hid hb20; clear ho20 hb20)
        | (go_at_call 23; (with_reducible refine (HPB.out _ ((HRB19.out.below HB20.out).more HB20.out.size)).mono ?_); rintro e w21 ⟨A21, c21, rfl, ho21, hb21⟩; have HO21 := Lib.hid ho21; have HB21 := Lib.hid hb21; have HO20' := Lib.hid (own_same (w' := w21) HO20.out fun k hk => HB21.out.block k (World.ownsRow.lt HO20.out k hk).2); clear ho21 hb21)
        | (at_builtin; refine wpList_append_any _ rfl (.tmp 151) (.tmp 154) 37 rfl w19.heap.size 5 i5 _ 1 1 Try.underlying37 hi5 hz50 hz51 hz52 rfl (by decide) (.slice A20 na c20) na _ rfl HO20'.out _ A21 nb c21 _ rfl (Reads.of_own HO21.out) (bv_one _) (by simp only [maxLen]; have := HFA.out; have := HFB.out; omega) (by have := HFA.out; have := HFB.out; omega) (Nat.le_trans HB20.out.size HB21.out.size) ?_; intro v22 w22 hr22 hg22 hv22; obtain ⟨A22, c22, rfl, -, -⟩ := own_formL hr22; have HO22 := Lib.hid hr22; have HG22 := Lib.hid hg22; clear hr22 hg22 hv22))
      have HB22 : Hid (Below w19.heap.size w19 w22) := Lib.hid ((HB20.out.trans (HB21.out.mono HB20.out.size)).grown HG22.out (Nat.le_trans HB20.out.size HB21.out.size) fun k hk => (World.ownsRow.lt HO20.out k hk).1)
      have HS22 : Hid (FrS w1 g p15 (frC3 cb) 3000 (fun k => (Value.slice A22 (na + nb) c22).ownBlock = some k) w22 w22) := Lib.hid ((HS19.out.below HB22.out).keep fun k hk => ⟨(World.ownsRow.lt HO22.out k hk).2, fun hc => by have := (HS19.out.ca.lt hc).2; have := (World.ownsRow.lt HO22.out k hk).1; omega⟩)
      have hab : na + nb ≤ 2176 := by have := HFA.out; have := HFB.out; omega
      have HAB := Lib.hid hab
      have HO23 : Hid (w22.ownsRow w1.heap.size 5 1 (.slice A22 (na + nb) c22) (na + nb) ((fa ++ fb2).map bv)) := Lib.hid (by rw [List.map_append]; exact own_base HO22.out HS19.out.old.size)
      have HRC := Lib.hid (fr_recv2x HS22.out HCL.out HRL.out HGT.out HEA.out HEB.out HO23.out HAB.out)
      clear HB22 HG22 HO22 HO20 HO20' HO21 HB20 HB21 HS19 HRB19 HPA HPB HEA HEB HNA HNB hab
      generalize na + nb = nq at *
      go_upto_block 6 with (go_at_call 22; refine (HRC.out _).mono ?_; rintro e w23 ⟨p23, v23, rfl, hs23⟩; have HS23 := Lib.hid hs23; clear hs23)
      have HO24 := Lib.hid (HS23.out.row HO23.out fun k hk => hk)
      have HNQ : Hid (∀ k, (Value.slice A22 nq c22).ownBlock = some k → ¬ CF p23 k) := Lib.hid fun k hk => (HS23.out.kb k hk).2.1
      have HS24 : Hid (FrS w1 g p23 (frC4 cb ⟨er, vs, ts.data.toList⟩) 8000 (fun _ => False) w23 w23) := Lib.hid (HS23.out.keep fun k hk => hk.elim)
      clear HS22 HRC HS23 HO23 HRL HGT
      go_cut [22] (fun v wx => ∃ wz, wz = wx ∧ FrS w1 g p23 (frC4 cb ⟨er, vs, ts.data.toList⟩) 8000 (fun _ => False) w23 wz)
      case first =>
        have hnq := HAB.out
        go_wp2_with fail
        go_loopw [22] (fun v wr => ∃ (k : Nat) (zs : List Value), k ≤ nq ∧ v = .int .i64 (k : Int) ∧ FrS w1 g p23 (frC4 cb ⟨er, vs, ts.data.toList⟩) 8000 (fun _ => False) w23 wr ∧ wr.ownsRow w1.heap.size 5 1 (.slice A22 nq c22) nq zs) (fun v _ => nq - (intOf v).toNat)
        case atStart => exact ⟨0, _, Nat.zero_le _, rfl, HS24.out, HO24.out⟩
        case round =>
          obtain ⟨k, zs, hk, rfl, hfr, hown⟩ := hrel
          have HFR := Lib.hid hfr
          have HOW := Lib.hid hown
          clear hfr hown
          by_cases hlt : k < nq
          · obtain ⟨gp, c, u, he, hge, hgp, hu, hc, hf⟩ := own_cell1 HOW.out hlt
            injection he with hA _ hC
            subst hA
            have l1 : (0 : Int) ≤ (k : Int) := by omega
            have l2 : (k : Int) < (nq : Int) := by omega
            have HQ : Hid (∀ y : Value, FrS w1 g p23 (frC4 cb ⟨er, vs, ts.data.toList⟩) 8000 (fun _ => False) w23 (wr.setCell ⟨gp, k, none⟩ y) ∧ (wr.setCell ⟨gp, k, none⟩ y).ownsRow w1.heap.size 5 1 (.slice (some ⟨gp, 0, none⟩) nq c22) nq (zs.set k y)) := Lib.hid fun y => by
              refine ⟨HFR.out.chg ((Chg.refl (· = gp) wr).setCell (p := ⟨gp, k, none⟩) (fun _ => rfl) _) (fun i e => ?_), own_setN HOW.out rfl _⟩
              subst e
              exact ⟨hge, HNQ.out _ rfl, fun h => h⟩
            clear hu hC
            go_wp2
            go_roundw
            case rel => exact ⟨k + 1, _, hlt, by go_num, HQ.out _⟩
            case measure => simp [intOf]; omega
          · have l2 : ¬ (k : Int) < (nq : Int) := by omega
            go_wp2
            go_meet
            exact ⟨_, rfl, HFR.out⟩
      case rest =>
      obtain ⟨w25, rfl, hs25⟩ := hcut
      have HS25 := Lib.hid hs25
      clear hs25 HS24 HO24 HNQ
      have hr32 : ∀ q ∈ (frC4 cb ⟨er, vs, ts.data.toList⟩).reps, q.vals.length ≤ 32 := fun q hq => by
        have : q = ⟨er, vs, ts.data.toList⟩ := by simpa [frC4] using hq
        subst this; exact hvl
      have he32 : ∀ q ∈ (frC4 cb ⟨er, vs, ts.data.toList⟩).evs, q.2.vals.length ≤ 32 := fun q hq => by
        have : q = (3, ⟨er, vs, ts.data.toList⟩) := by simpa [frC4] using hq
        subst this; exact hvl
      have HRP := Lib.hid fun (B : Nat → Prop) (wB W : World) (h : FrS w1 g p23 (frC4 cb ⟨er, vs, ts.data.toList⟩) 8000 B wB W) => fr_replies h HCL.out hr32
      have HEV := Lib.hid fun (B : Nat → Prop) (wB W : World) (h : FrS w1 g p23 (frC4 cb ⟨er, vs, ts.data.toList⟩) 8000 B wB W) => fr_events h HCL.out he32
      clear hr32 he32
      go_upto_region 40 with (first
        | (go_at_call 25; (with_reducible refine (HRP.out _ _ _ HS25.out).mono ?_); rintro e w26 ⟨ga, ca, Aa, caa, rfl, ho, hb⟩; have HA26 := Lib.hid ho; have HB26 := Lib.hid hb; have HS26 := Lib.hid (HS25.out.below hb); clear ho hb)
        | (go_at_call 25; (with_reducible refine (HRP.out _ _ _ HS26.out).mono ?_); rintro e w27 ⟨gb, cb', Ab, cab, rfl, ho, hb⟩; have HA27 := Lib.hid ho; have HB27 := Lib.hid hb; have HS27 := Lib.hid (HS26.out.below hb); clear ho hb)
        | (go_at_call 26; (with_reducible refine (HEV.out _ _ _ HS27.out).mono ?_); rintro e w28 ⟨gu, cu, Au, cau, rfl, ho, hb⟩; have HA28 := Lib.hid ho; have HB28 := Lib.hid hb; have HS28 := Lib.hid (HS27.out.below hb); clear ho hb)
        | (go_at_call 26; (with_reducible refine (HEV.out _ _ _ HS28.out).mono ?_); rintro e w29 ⟨gv, cv, Av, cav, rfl, ho, hb⟩; have HA29 := Lib.hid ho; have HB29 := Lib.hid hb; have HS29 := Lib.hid (HS28.out.below hb); clear ho hb))
      have ha := HA26.out.keep (W' := w29) fun k hk => by
        have h1 := HA26.out.lt hk; have s1 := HB27.out.size; have s2 := HB28.out.size
        rw [HB29.out.block k (by omega), HB28.out.block k (by omega), HB27.out.block k h1.2]
      have hb := HA27.out.keep (W' := w29) fun k hk => by
        have h1 := HA27.out.lt hk; have s2 := HB28.out.size
        rw [HB29.out.block k (by omega), HB28.out.block k h1.2]
      have hu := HA28.out.keep (W' := w29) fun k hk => by
        have h1 := HA28.out.lt hk
        rw [HB29.out.block k h1.2]
      have hvv := HA29.out
      have hs0 : w1.heap.size ≤ w25.heap.size := HS25.out.old.size
      have hs1 := HB26.out.size
      have hs2 := HB27.out.size
      have hs3 := HB28.out.size
      have hs4 := HB29.out.size
      have hcf : ∀ k, w25.heap.size ≤ k → ¬ CF p23 k := fun k hk hc => by have := (HS25.out.ca.lt hc).2; omega
      have HCF := Lib.hid hcf
      have HBA := Lib.hid ha
      have HBB := Lib.hid hb
      have HBU := Lib.hid hu
      have HBV := Lib.hid hvv
      have HSZ := Lib.hid (And.intro hs0 (And.intro hs1 (And.intro hs2 (And.intro hs3 hs4))))
      have hk9 : ∀ k, (BK kR gb (⟨er, vs, ts.data.toList⟩, Ab, cab) k ∨ BK kE gv ((3, ⟨er, vs, ts.data.toList⟩), Av, cav) k ∨ BK kE gu ((3, ⟨er, vs, ts.data.toList⟩), Au, cau) k ∨ BK kR ga (⟨er, vs, ts.data.toList⟩, Aa, caa) k) → k < w29.heap.size ∧ ¬ CF p23 k := fun k hk => by
        have hl : w25.heap.size ≤ k ∧ k < w29.heap.size := by
          rcases hk with hk | hk | hk | hk
          · have := hb.lt hk; omega
          · have := hvv.lt hk; omega
          · have := hu.lt hk; omega
          · have := ha.lt hk; omega
        exact ⟨hl.2, hcf k hl.1⟩
      have HS30 : Hid (FrS w1 g p23 (frC4 cb ⟨er, vs, ts.data.toList⟩) 8000 (fun k => BK kR gb (⟨er, vs, ts.data.toList⟩, Ab, cab) k ∨ BK kE gv ((3, ⟨er, vs, ts.data.toList⟩), Av, cav) k ∨ BK kE gu ((3, ⟨er, vs, ts.data.toList⟩), Au, cau) k ∨ k = ga) w29 w29) := Lib.hid (HS29.out.keep fun k hk => hk9 k (by
        rcases hk with h | h | h | h
        · exact .inl h
        · exact .inr (.inl h)
        · exact .inr (.inr (.inl h))
        · exact .inr (.inr (.inr (.inl h)))))
      have HEA : Hid (w29.ownsRow w1.heap.size 68 2 (.slice Aa vs.length caa) vs.length (vcells vs)) := Lib.hid (own_base (show w29.ownsRow w25.heap.size 68 2 (.slice Aa vs.length caa) vs.length (vcells vs) from ha.el) hs0)
      have HNA : Hid (∀ k, (Value.slice Aa vs.length caa).ownBlock = some k → ¬ CF p23 k ∧ ¬ (BK kR gb (⟨er, vs, ts.data.toList⟩, Ab, cab) k ∨ BK kE gv ((3, ⟨er, vs, ts.data.toList⟩), Av, cav) k ∨ BK kE gu ((3, ⟨er, vs, ts.data.toList⟩), Au, cau) k ∨ k = ga)) := Lib.hid fun k hk => by
        have a2 := ha.ge2 k hk
        refine ⟨hcf k a2.1, fun h => ?_⟩
        rcases h with h | h | h | h
        · have := hb.lt h; omega
        · have := hvv.lt h; omega
        · have := hu.lt h; omega
        · subst h
          obtain ⟨⟨rest, h1, _⟩, _⟩ := ha
          exact own_blk_ne HEA.out h1 (by decide) hk
      have HNU : Hid (∀ k, (Value.slice Au vs.length cau).ownBlock = some k → ¬ CF p23 k ∧ ¬ (BK kR gb (⟨er, vs, ts.data.toList⟩, Ab, cab) k ∨ BK kE gv ((3, ⟨er, vs, ts.data.toList⟩), Av, cav) k ∨ k = gu ∨ k = ga)) := Lib.hid fun k hk => by
        have u2 := hu.ge2 k hk
        refine ⟨hcf k (by omega), fun h => ?_⟩
        rcases h with h | h | h | h
        · have := hb.lt h; omega
        · have := hvv.lt h; omega
        · subst h
          obtain ⟨⟨rest, h1, _⟩, h2, _⟩ := hu
          exact own_blk_ne h2 h1 (by decide) hk
        · have := ha.ge; omega
      have HNG : Hid (¬ (BK kR gb (⟨er, vs, ts.data.toList⟩, Ab, cab) ga ∨ BK kE gv ((3, ⟨er, vs, ts.data.toList⟩), Av, cav) ga ∨ ga = gu) ∧ ¬ (BK kR gb (⟨er, vs, ts.data.toList⟩, Ab, cab) gu ∨ BK kE gv ((3, ⟨er, vs, ts.data.toList⟩), Av, cav) gu)) := Lib.hid (by
        have a1 := ha.ge; have u1 := hu.ge
        refine ⟨fun h => ?_, fun h => ?_⟩
        · rcases h with h | h | h
          · have := hb.lt h; omega
          · have := hvv.lt h; omega
          · omega
        · rcases h with h | h
          · have := hb.lt h; omega
          · have := hvv.lt h; omega)
      clear ha hb hu hvv hs0 hs1 hs2 hs3 hs4 hcf hk9 HA26 HA27 HA28 HA29 HB26 HB27 HB28 HB29 HS25 HS26 HS27 HS28 HS29 HAB
      go_upto_block 8 with fail
      go_cut [27] (fun _v wx => ∃ wz, wz = wx ∧ FrS w1 g p23 (frC4 cb ⟨er, vs, ts.data.toList⟩) 8000 (fun k => BK kR gb (⟨er, vs, ts.data.toList⟩, Ab, cab) k ∨ BK kE gv ((3, ⟨er, vs, ts.data.toList⟩), Av, cav) k ∨ BK kE gu ((3, ⟨er, vs, ts.data.toList⟩), Au, cau) k ∨ k = ga) w29 wz)
      case first =>
        go_wp2_with fail
        go_loopw [27] (fun v wr => ∃ (k : Nat) (zs : List Value), k ≤ vs.length ∧ v = .int .i64 (k : Int) ∧ FrS w1 g p23 (frC4 cb ⟨er, vs, ts.data.toList⟩) 8000 (fun k => BK kR gb (⟨er, vs, ts.data.toList⟩, Ab, cab) k ∨ BK kE gv ((3, ⟨er, vs, ts.data.toList⟩), Av, cav) k ∨ BK kE gu ((3, ⟨er, vs, ts.data.toList⟩), Au, cau) k ∨ k = ga) w29 wr ∧ wr.ownsRow w1.heap.size 68 2 (.slice Aa vs.length caa) vs.length zs) (fun v _ => vs.length - (intOf v).toNat)
        case atStart => exact ⟨0, _, Nat.zero_le _, rfl, HS30.out, HEA.out⟩
        case round =>
          obtain ⟨k, zs, hk, rfl, hfr, hown⟩ := hrel
          have HFR := Lib.hid hfr
          have HOW := Lib.hid hown
          have y1 : wr.cell? ⟨ga, 1, none⟩ = some (.slice Aa vs.length caa) := hfr.cellK HBA.out (.inr (.inr (.inr rfl))) (j := 1) rfl
          clear hfr hown
          by_cases hlt : k < vs.length
          · obtain ⟨gp, c, u, u', he, hge, hgp, hc, hc', hf, hf'⟩ := own_cell2 HOW.out hlt
            injection he with hA _ hC
            subst hA
            have l1 : (0 : Int) ≤ (k : Int) := by omega
            have l2 : (k : Int) < (vs.length : Int) := by omega
            have HQ : Hid (∀ y y' : Value, FrS w1 g p23 (frC4 cb ⟨er, vs, ts.data.toList⟩) 8000 (fun k => BK kR gb (⟨er, vs, ts.data.toList⟩, Ab, cab) k ∨ BK kE gv ((3, ⟨er, vs, ts.data.toList⟩), Av, cav) k ∨ BK kE gu ((3, ⟨er, vs, ts.data.toList⟩), Au, cau) k ∨ k = ga) w29 ((wr.setCell ⟨gp, k * 2, none⟩ y).setCell ⟨gp, k * 2 + 1, none⟩ y') ∧ ((wr.setCell ⟨gp, k * 2, none⟩ y).setCell ⟨gp, k * 2 + 1, none⟩ y').ownsRow w1.heap.size 68 2 (.slice (some ⟨gp, 0, none⟩) vs.length caa) vs.length ((zs.set (k * 2) y).set (k * 2 + 1) y')) := Lib.hid fun y y' => by
              refine ⟨HFR.out.chg (((Chg.refl (· = gp) wr).setCell (p := ⟨gp, k * 2, none⟩) (fun _ => rfl) _).setCell (p := ⟨gp, k * 2 + 1, none⟩) (fun _ => rfl) _) (fun i e => ?_), own_setN (own_setN HOW.out rfl _) rfl _⟩
              subst e
              exact ⟨hge, HNA.out _ rfl⟩
            clear hC
            go_wp2
            go_roundw
            case rel => exact ⟨k + 1, _, hlt, by go_num, HQ.out _ _⟩
            case measure => simp [intOf]; omega
          · have l2 : ¬ (k : Int) < (vs.length : Int) := by omega
            go_wp2
            go_meet
            exact ⟨_, rfl, HFR.out⟩
      case rest =>
      obtain ⟨w31, rfl, hs31⟩ := hcut
      have HS31 : Hid (FrS w1 g p23 (frC4 cb ⟨er, vs, ts.data.toList⟩) 8000 (fun k => BK kR gb (⟨er, vs, ts.data.toList⟩, Ab, cab) k ∨ BK kE gv ((3, ⟨er, vs, ts.data.toList⟩), Av, cav) k ∨ k = gu ∨ k = ga) w29 w31) := Lib.hid (hs31.less fun k hk => by
        rcases hk with h | h | h | h
        · exact .inl h
        · exact .inr (.inl h)
        · exact .inr (.inr (.inl (.inl h)))
        · exact .inr (.inr (.inr h)))
      have HEU : Hid (w31.ownsRow w1.heap.size 68 2 (.slice Au vs.length cau) vs.length (vcells vs)) := Lib.hid (own_base (hs31.row (show w29.ownsRow w27.heap.size 68 2 (.slice Au vs.length cau) vs.length (vcells vs) from HBU.out.el) fun k hk => .inr (.inr (.inl (.inr hk)))) (by have := HSZ.out; omega))
      clear hs31 HS30 HEA HNA
      go_upto_block 10 with fail
      go_cut [28] (fun _v wx => ∃ wz, wz = wx ∧ FrS w1 g p23 (frC4 cb ⟨er, vs, ts.data.toList⟩) 8000 (fun k => BK kR gb (⟨er, vs, ts.data.toList⟩, Ab, cab) k ∨ BK kE gv ((3, ⟨er, vs, ts.data.toList⟩), Av, cav) k ∨ k = gu ∨ k = ga) w29 wz)
      case first =>
        go_wp2_with fail
        go_loopw [28] (fun v wr => ∃ (k : Nat) (zs : List Value), k ≤ vs.length ∧ v = .int .i64 (k : Int) ∧ FrS w1 g p23 (frC4 cb ⟨er, vs, ts.data.toList⟩) 8000 (fun k => BK kR gb (⟨er, vs, ts.data.toList⟩, Ab, cab) k ∨ BK kE gv ((3, ⟨er, vs, ts.data.toList⟩), Av, cav) k ∨ k = gu ∨ k = ga) w29 wr ∧ wr.ownsRow w1.heap.size 68 2 (.slice Au vs.length cau) vs.length zs) (fun v _ => vs.length - (intOf v).toNat)
        case atStart => exact ⟨0, _, Nat.zero_le _, rfl, HS31.out, HEU.out⟩
        case round =>
          obtain ⟨k, zs, hk, rfl, hfr, hown⟩ := hrel
          have HFR := Lib.hid hfr
          have HOW := Lib.hid hown
          have y2 : wr.cell? ⟨gu, 2, none⟩ = some (.slice Au vs.length cau) := hfr.cellK HBU.out (.inr (.inr (.inl rfl))) (j := 2) rfl
          clear hfr hown
          by_cases hlt : k < vs.length
          · obtain ⟨gp, c, u, u', he, hge, hgp, hc, hc', hf, hf'⟩ := own_cell2 HOW.out hlt
            injection he with hA _ hC
            subst hA
            have l1 : (0 : Int) ≤ (k : Int) := by omega
            have l2 : (k : Int) < (vs.length : Int) := by omega
            have HQ : Hid (∀ y y' : Value, FrS w1 g p23 (frC4 cb ⟨er, vs, ts.data.toList⟩) 8000 (fun k => BK kR gb (⟨er, vs, ts.data.toList⟩, Ab, cab) k ∨ BK kE gv ((3, ⟨er, vs, ts.data.toList⟩), Av, cav) k ∨ k = gu ∨ k = ga) w29 ((wr.setCell ⟨gp, k * 2, none⟩ y).setCell ⟨gp, k * 2 + 1, none⟩ y') ∧ ((wr.setCell ⟨gp, k * 2, none⟩ y).setCell ⟨gp, k * 2 + 1, none⟩ y').ownsRow w1.heap.size 68 2 (.slice (some ⟨gp, 0, none⟩) vs.length cau) vs.length ((zs.set (k * 2) y).set (k * 2 + 1) y')) := Lib.hid fun y y' => by
              refine ⟨HFR.out.chg (((Chg.refl (· = gp) wr).setCell (p := ⟨gp, k * 2, none⟩) (fun _ => rfl) _).setCell (p := ⟨gp, k * 2 + 1, none⟩) (fun _ => rfl) _) (fun i e => ?_), own_setN (own_setN HOW.out rfl _) rfl _⟩
              subst e
              exact ⟨hge, HNU.out _ rfl⟩
            clear hC
            go_wp2
            go_roundw
            case rel => exact ⟨k + 1, _, hlt, by go_num, HQ.out _ _⟩
            case measure => simp [intOf]; omega
          · have l2 : ¬ (k : Int) < (vs.length : Int) := by omega
            go_wp2
            go_meet
            exact ⟨_, rfl, HFR.out⟩
      case rest =>
      obtain ⟨w32, rfl, hs32⟩ := hcut
      have HS32 := Lib.hid hs32
      clear hs32 HS31 HEU HNU
      have a0 : w32.cell? ⟨ga, 0, none⟩ = some (.int .i64 er) := HS32.out.cellK HBA.out (.inr (.inr (.inr rfl))) (j := 0) rfl
      have a1 : w32.cell? ⟨ga, 1, none⟩ = some (.slice Aa vs.length caa) := HS32.out.cellK HBA.out (.inr (.inr (.inr rfl))) (j := 1) rfl
      have a2 : w32.cell? ⟨ga, 2, none⟩ = some (.string ⟨ts.data.toList.toArray⟩) := HS32.out.cellK HBA.out (.inr (.inr (.inr rfl))) (j := 2) rfl
      have hrest : ∃ ra : Array Value, Blk w32 ga 53 ra := by
        obtain ⟨⟨rest, h1, _⟩, _⟩ := HBA.out
        exact ⟨rest, HS32.out.blk h1 (.inr (.inr (.inr rfl)))⟩
      have hresu : ∃ ra : Array Value, Blk w32 gu 70 ra := by
        obtain ⟨⟨rest, h1, _⟩, _⟩ := HBU.out
        exact ⟨rest, HS32.out.blk h1 (.inr (.inr (.inl rfl)))⟩
      obtain ⟨ra, hra⟩ := hrest
      obtain ⟨ru, hru⟩ := hresu
      have fa0 := hra.frozen 0
      have fa1 := hra.frozen 1
      have fa2 := hra.frozen 2
      have fu0 := hru.frozen 0
      have fu1 := hru.frozen 1
      have fu2 := hru.frozen 2
      have fu3 := hru.frozen 3
      have hgu : gu ≠ ga := by have := HBA.out.ge; have := HBU.out.ge; have := HSZ.out; omega
      have hla := hra.lt
      have hlu := hru.lt
      have c0 : w32.cell? ⟨gu, 0, none⟩ = some (.int .u64 3) := HS32.out.cellK HBU.out (.inr (.inr (.inl rfl))) (j := 0) rfl
      have c1 : w32.cell? ⟨gu, 1, none⟩ = some (.int .i64 er) := HS32.out.cellK HBU.out (.inr (.inr (.inl rfl))) (j := 1) rfl
      have c2 : w32.cell? ⟨gu, 2, none⟩ = some (.slice Au vs.length cau) := HS32.out.cellK HBU.out (.inr (.inr (.inl rfl))) (j := 2) rfl
      have c3 : w32.cell? ⟨gu, 3, none⟩ = some (.string ⟨ts.data.toList.toArray⟩) := HS32.out.cellK HBU.out (.inr (.inr (.inl rfl))) (j := 3) rfl
      clear hra hru
      go_upto_region 52 with fail
      obtain ⟨w33, hw33⟩ : ∃ w33, (((((((w32.setCell ⟨ga, 0, none⟩ (.int .i64 0)).setCell ⟨ga, 1, none⟩ (.slice none 0 0)).setCell ⟨ga, 2, none⟩ (.string ⟨#[115, 112, 111, 105, 108, 116]⟩)).setCell ⟨gu, 0, none⟩ (.int .u64 99)).setCell ⟨gu, 1, none⟩ (.int .i64 0)).setCell ⟨gu, 2, none⟩ (.slice none 0 0)).setCell ⟨gu, 3, none⟩ (.string ⟨#[]⟩)) = w33 := ⟨_, rfl⟩
      have HS33 : Hid (FrS w1 g p23 (frC4 cb ⟨er, vs, ts.data.toList⟩) 8000 (fun k => BK kR gb (⟨er, vs, ts.data.toList⟩, Ab, cab) k ∨ BK kE gv ((3, ⟨er, vs, ts.data.toList⟩), Av, cav) k) w29 w33) := Lib.hid (by
        rw [← hw33]
        refine (HS32.out.less (B' := (fun k => BK kR gb (⟨er, vs, ts.data.toList⟩, Ab, cab) k ∨ BK kE gv ((3, ⟨er, vs, ts.data.toList⟩), Av, cav) k)) fun k hk => by rcases hk with h | h <;> simp [h]).chg (F := fun k => k = ga ∨ k = gu) (((((((((Chg.refl _ w32).setCell (p := ⟨ga, 0, none⟩) (fun _ => .inl rfl) _).setCell (p := ⟨ga, 1, none⟩) (fun _ => .inl rfl) _).setCell (p := ⟨ga, 2, none⟩) (fun _ => .inl rfl) _).setCell (p := ⟨gu, 0, none⟩) (fun _ => .inr rfl) _).setCell (p := ⟨gu, 1, none⟩) (fun _ => .inr rfl) _).setCell (p := ⟨gu, 2, none⟩) (fun _ => .inr rfl) _).setCell (p := ⟨gu, 3, none⟩) (fun _ => .inr rfl) _)) fun k hk => ?_
        have h1 := HNG.out
        have hz := HSZ.out
        rcases hk with rfl | rfl
        · exact ⟨by have := HBA.out.ge; omega, HCF.out _ HBA.out.ge.1, fun h => h1.1 (by rcases h with h | h; exact .inl h; exact .inr (.inl h))⟩
        · exact ⟨by have := HBU.out.ge; omega, HCF.out _ (by have := HBU.out.ge.1; omega), h1.2⟩)
      rw [hw33]
      clear hw33 a0 a1 a2 fa0 fa1 fa2 fu0 fu1 fu2 fu3 c0 c1 c2 c3 hgu hla hlu HS32 HNG
      go_upto_region 53 with (first
        | (go_at_call 25; (with_reducible refine (HRP.out _ _ _ HS33.out).mono ?_); rintro e w34 ⟨gy, cy, Ay, cay, rfl, ho, hb⟩; have HA34 := Lib.hid ho; have HB34 := Lib.hid hb; have HS34 := Lib.hid (HS33.out.below hb); clear ho hb)
        | (go_at_call 26; (with_reducible refine (HEV.out _ _ _ HS34.out).mono ?_); rintro e w35 ⟨gw, cw, Aw, caw, rfl, ho, hb⟩; have HA35 := Lib.hid ho; have HB35 := Lib.hid hb; have HS35 := Lib.hid (HS34.out.below hb); clear ho hb))
      have hy := HA34.out.keep (W' := w35) fun k hk => HB35.out.block k (HA34.out.lt hk).2
      have hb := HS35.out.oneK HBB.out fun k hk => .inl hk
      have hvv := HS35.out.oneK HBV.out fun k hk => .inr hk
      have hw := HA35.out
      have ets : (⟨ts.data.toList.toArray⟩ : ByteArray) = ts := by cases ts; simp
      have htn : vs.length = tn := RdV.len HRT.out
      subst htn
      have hrt : RdV w35 w35.heap.size tA vs.length vs := (HRT.out.below (HB1.out.trans (HS35.out.old.mono HS0.out))).more (by have := HS0.out; have := HS35.out.old.size; omega)
      have x0 : ∀ W, Below w35.heap.size w35 W → (W.cell? ⟨gb, 0, none⟩ = some (.int .i64 er) ∧ W.cell? ⟨gb, 1, none⟩ = some (.slice Ab vs.length cab) ∧ W.cell? ⟨gb, 2, none⟩ = some (.string ts)) ∧ (W.cell? ⟨gv, 1, none⟩ = some (.int .i64 er) ∧ W.cell? ⟨gv, 2, none⟩ = some (.slice Av vs.length cav) ∧ W.cell? ⟨gv, 3, none⟩ = some (.string ts)) ∧ (W.cell? ⟨gy, 0, none⟩ = some (.int .i64 er) ∧ W.cell? ⟨gy, 1, none⟩ = some (.slice Ay vs.length cay) ∧ W.cell? ⟨gy, 2, none⟩ = some (.string ts)) ∧ (W.cell? ⟨gw, 1, none⟩ = some (.int .i64 er) ∧ W.cell? ⟨gw, 2, none⟩ = some (.slice Aw vs.length caw) ∧ W.cell? ⟨gw, 3, none⟩ = some (.string ts)) ∧ (W.cell? ⟨bx + 1, 0, none⟩ = some (.int .i64 er) ∧ W.cell? ⟨bx + 1, 1, none⟩ = some (.slice tA vs.length tc) ∧ W.cell? ⟨bx + 1, 2, none⟩ = some (.string ts)) := fun W hW => by
        have kb : ∀ {b hi ga : Nat} {q : QX Rp} {j : Nat} {u : Value}, OneK kR b hi w35 ga q → (kR.cells q)[j]? = some u → W.cell? ⟨ga, j, none⟩ = some u := fun h hu => (h.keep (W' := W) fun k hk => hW.block k (oneK_size h hk)).cell hu
        have ke : ∀ {b hi ga : Nat} {q : QX (Nat × Rp)} {j : Nat} {u : Value}, OneK kE b hi w35 ga q → (kE.cells q)[j]? = some u → W.cell? ⟨ga, j, none⟩ = some u := fun h hu => (h.keep (W' := W) fun k hk => hW.block k (oneK_size h hk)).cell hu
        have h0 := HT.out W (HS35.out.old.trans (hW.mono HS35.out.old.size))
        refine ⟨⟨kb hb rfl, kb hb rfl, ets ▸ kb hb rfl⟩, ⟨ke hvv rfl, ke hvv rfl, ets ▸ ke hvv rfl⟩, ⟨kb hy rfl, kb hy rfl, ets ▸ kb hy rfl⟩, ⟨ke hw rfl, ke hw rfl, ets ▸ ke hw rfl⟩, h0 0, h0 1, h0 2⟩
      have HX0 := Lib.hid x0
      have HSB := Lib.hid fun (A : Option Addr) (c : Nat) (b : Nat) (ho : w35.ownsRow b 68 2 (.slice A vs.length c) vs.length (vcells vs)) (W : World) (hW : Below w35.heap.size w35 W) => samer_any er A tA vs.length c tc ts vs W (((Reads.of_own ho).below hW).more hW.size) ((hrt.below hW).more hW.size) (by omega)
      have OB := Lib.hid hb.el
      have OV := Lib.hid hvv.el
      have OY := Lib.hid hy.el
      have OW := Lib.hid hw.el
      have HOLD := Lib.hid (HB1.out.trans (HS35.out.old.mono HS0.out))
      have HBW : Hid (bx ≤ w35.heap.size) := Lib.hid (by have := HS0.out; have := HS35.out.old.size; omega)
      clear x0 hy hb hvv hw hrt HA34 HB34 HA35 HB35 HBB HBV HBU HBA HRP HEV HS33 HS34 HT
      have hw0 : Below w35.heap.size w35 w35.drew := (Below.refl _ _).drew
      have hS0 := HX0.out _ hw0
      go_region_held3 (fun W => (W.cell? ⟨gb, 0, none⟩ = some (.int .i64 er) ∧ W.cell? ⟨gb, 1, none⟩ = some (.slice Ab vs.length cab) ∧ W.cell? ⟨gb, 2, none⟩ = some (.string ts)) ∧ (W.cell? ⟨gv, 1, none⟩ = some (.int .i64 er) ∧ W.cell? ⟨gv, 2, none⟩ = some (.slice Av vs.length cav) ∧ W.cell? ⟨gv, 3, none⟩ = some (.string ts)) ∧ (W.cell? ⟨gy, 0, none⟩ = some (.int .i64 er) ∧ W.cell? ⟨gy, 1, none⟩ = some (.slice Ay vs.length cay) ∧ W.cell? ⟨gy, 2, none⟩ = some (.string ts)) ∧ (W.cell? ⟨gw, 1, none⟩ = some (.int .i64 er) ∧ W.cell? ⟨gw, 2, none⟩ = some (.slice Aw vs.length caw) ∧ W.cell? ⟨gw, 3, none⟩ = some (.string ts)) ∧ (W.cell? ⟨bx + 1, 0, none⟩ = some (.int .i64 er) ∧ W.cell? ⟨bx + 1, 1, none⟩ = some (.slice tA vs.length tc) ∧ W.cell? ⟨bx + 1, 2, none⟩ = some (.string ts)))
        (first | exact hS0 | exact HX0.out _ hw4 | exact HX0.out _ hw3 | exact HX0.out _ hw2 | exact HX0.out _ hw1 | go_keep)
        (first
        | (go_at_call 27; ((with_reducible refine (HSB.out Ab cab _ OB.out _ hw0).mono ?_); rintro e w36 ⟨rfl, hbb0⟩; have hw1 : Below w35.heap.size w35 w36 := hw0.trans (hbb0.mono hw0.size); clear hbb0))
        | (go_at_call 27; ((with_reducible refine (HSB.out Av cav _ OV.out _ hw1).mono ?_); rintro e w37 ⟨rfl, hbb1⟩; have hw2 : Below w35.heap.size w35 w37 := hw1.trans (hbb1.mono hw1.size); clear hbb1))
        | (go_at_call 27; ((with_reducible refine (HSB.out Ay cay _ OY.out _ hw2).mono ?_); rintro e w38 ⟨rfl, hbb2⟩; have hw3 : Below w35.heap.size w35 w38 := hw2.trans (hbb2.mono hw2.size); clear hbb2))
        | (go_at_call 27; ((with_reducible refine (HSB.out Aw caw _ OW.out _ hw3).mono ?_); rintro e w39 ⟨rfl, hbb3⟩; have hw4 : Below w35.heap.size w35 w39 := hw3.trans (hbb3.mono hw3.size); clear hbb3)))
      all_goals
        go_wp2
        go_ret
        exact ⟨rfl, by rw [hbx]; exact HOLD.out.trans (hw4.mono HBW.out)⟩
end Go.Proofs.Ytjhkfpemcplaaaa
namespace Go.Proofs.Ytjhkfpemcplaaaa
open Go.Joins Go.ChangeShapes Go.WideShapes Go.RowKit Go.Deep

section
variable {H : Type} {enc : TypeId × Value → H} {P : Program} {w : World} {base : Nat} {spare : Nat → Bool} {held : Bool}

theorem u8_of_wf {z : Int} (h : (Lit.int .u8 z).wf = true) : bv (UInt8.ofNat z.toNat) = .int .u8 z := by
  simp [Lit.wf, IntKind.min, IntKind.max, IntKind.signed, IntKind.bits] at h
  unfold bv
  have : (UInt8.ofNat z.toNat).toNat = z.toNat := by simp [UInt8.toNat_ofNat']; omega
  rw [this, Int.toNat_of_nonneg (by omega)]

/-- a slice of bytes that came in reads as a list of bytes -/
theorem bytes_in {t e : TypeId} {fuel : Nat} {v : Value} {x : DataW H × List MemPlace} (ht : P.underlying t = some (.slice e)) (he : P.underlying e = some (.int .u8)) (hc : P.cellsOf e = 1)
    (h : DataW.trod enc P w base spare held fuel t [v] = some x) :
    ∃ (A : Option Addr) (n c : Nat) (bs : List UInt8), v = .slice A n c ∧ n ≤ c ∧ c ≤ maxLen ∧ RdB w w.heap.size A n bs := by
  rcases open_ints ht he hc h with ⟨hcs, _⟩ | ⟨a, l, c, zs, hcs, _, hl, hm, hz, _, hcell, hwz⟩
  · simp at hcs
    exact ⟨none, 0, 0, [], hcs, Nat.le_refl _, Nat.zero_le _, Reads.none_⟩
  · simp at hcs
    have hlz : l ≤ zs.length := by rw [hz]; split <;> omega
    have hmap : ((zs.take l).map fun z => UInt8.ofNat z.toNat).map bv = (zs.take l).map (Value.int .u8) := by
      rw [List.map_map]
      exact List.map_congr_left fun z hz' => u8_of_wf (hwz z (List.mem_of_mem_take hz'))
    refine ⟨some a, l, c, (zs.take l).map fun z => UInt8.ofNat z.toNat, hcs, hl, hm, ?_, fun h0 => ⟨a, rfl, ?_, fun j u hu => ?_⟩⟩
    · simp; omega
    · have := World.block_lt_of_cell? _ _ (hcell 0 (by omega))
      rwa [block_of_add] at this
    · rw [hmap, List.getElem?_map] at hu
      by_cases hj : j < l
      · rw [hcell j (by omega)]
        rw [List.getElem?_take_of_lt hj, List.getElem?_eq_getElem (by omega)] at hu
        simp only [Option.map_some, Option.some.injEq] at hu
        rw [← hu, List.getD, List.getElem?_eq_getElem (by omega)]
        rfl
      · rw [List.getElem?_eq_none (by simp; omega)] at hu
        simp at hu

theorem u64_of_wf {z : Int} (h : (Lit.int .u64 z).wf = true) : ∃ n : Nat, z = n ∧ n < 18446744073709551616 := by
  simp [Lit.wf, IntKind.min, IntKind.max, IntKind.signed, IntKind.bits] at h
  exact ⟨z.toNat, by omega, by omega⟩

theorem open_agg5 {r : Reach} {b0 : Nat} {t : TypeId} {f0 f1 f2 f3 f4 : Field} {v : Value} {d : DataW H} {p : List MemPlace} (hs : P.underlying t = some (.struct #[f0, f1, f2, f3, f4])) (hone : oneCellFields P #[f0, f1, f2, f3, f4] = true) (hC : P.cellsOf t = 5)
    (hv : Value.okWide P w r b0 t v) (h : DataW.Trod enc P w base spare held t v d p) :
    ∃ (v0 v1 v2 v3 v4 : Value) (y0 y1 y2 y3 y4 : DataW H × List MemPlace) (n : Nat), v = .agg #[v0, v1, v2, v3, v4] ∧ d = .agg [y0.1, y1.1, y2.1, y3.1, y4.1] ∧ p = y0.2 ++ (y1.2 ++ (y2.2 ++ (y3.2 ++ y4.2))) ∧
      DataW.trod enc P w base spare held n f0.type [v0] = some y0 ∧ DataW.trod enc P w base spare held n f1.type [v1] = some y1 ∧ DataW.trod enc P w base spare held n f2.type [v2] = some y2 ∧ DataW.trod enc P w base spare held n f3.type [v3] = some y3 ∧ DataW.trod enc P w base spare held n f4.type [v4] = some y4 := by
  obtain ⟨cs, rfl, hsz⟩ := okWide_struct hs hv
  obtain ⟨l⟩ := cs
  match l, hsz.trans hC with
  | [c0, c1, c2, c3, c4], _ =>
    obtain ⟨fuel, hf⟩ := h
    obtain ⟨xs, n, _, hx, _, hlen, hg⟩ := DataW.trod_struct hs hf
    obtain ⟨o0, k0⟩ := hone_of hone 0 f0 rfl
    obtain ⟨o1, k1⟩ := hone_of hone 1 f1 rfl
    obtain ⟨o2, k2⟩ := hone_of hone 2 f2 rfl
    obtain ⟨o3, k3⟩ := hone_of hone 3 f3 rfl
    obtain ⟨o4, k4⟩ := hone_of hone 4 f4 rfl
    match xs, hlen with
    | [y0, y1, y2, y3, y4], _ =>
      simp only [Prod.mk.injEq] at hx
      exact ⟨c0, c1, c2, c3, c4, y0, y1, y2, y3, y4, n, rfl, by simpa using hx.1, by simpa using hx.2, by simpa [Value.cells, o0, k0] using hg 0 f0 rfl, by simpa [Value.cells, o1, k1] using hg 1 f1 rfl, by simpa [Value.cells, o2, k2] using hg 2 f2 rfl, by simpa [Value.cells, o3, k3] using hg 3 f3 rfl, by simpa [Value.cells, o4, k4] using hg 4 f4 rfl⟩
end

end Go.Proofs.Ytjhkfpemcplaaaa
namespace Go.Proofs.Ytjhkfpemcplaaaa
open Go.Joins Go.ChangeShapes Go.WideShapes Go.RowKit Go.Deep

section
variable {H : Type} {enc : TypeId × Value → H} {P : Program} {w : World} {base : Nat} {spare : Nat → Bool} {held : Bool}
theorem i64_wf {z : Int} (h : (Lit.int .i64 z).wf = true) : I64 z := by
  simp [Lit.wf, IntKind.min, IntKind.max, IntKind.signed, IntKind.bits] at h
  unfold I64
  omega
/-- a slice of numbers that came in reads as a list of numbers -/
theorem ints_in {t e : TypeId} {fuel : Nat} {v : Value} {x : DataW H × List MemPlace} (ht : P.underlying t = some (.slice e)) (he : P.underlying e = some (.int .i64)) (hc : P.cellsOf e = 1)
    (h : DataW.trod enc P w base spare held fuel t [v] = some x) :
    ∃ (A : Option Addr) (n c : Nat) (ns : List Int), v = .slice A n c ∧ n ≤ c ∧ c ≤ maxLen ∧ RdI w w.heap.size A n ns ∧ ∀ z ∈ ns, I64 z := by
  rcases open_ints ht he hc h with ⟨hcs, _⟩ | ⟨a, l, c, zs, hcs, _, hl, hm, hz, _, hcell, hwz⟩
  · simp at hcs
    exact ⟨none, 0, 0, [], hcs, Nat.le_refl _, Nat.zero_le _, Reads.none_, by intro z hz; simp at hz⟩
  · simp at hcs
    have hlz : l ≤ zs.length := by rw [hz]; split <;> omega
    refine ⟨some a, l, c, zs.take l, hcs, hl, hm, ⟨by simp; omega, fun h0 => ⟨a, rfl, ?_, fun j u hu => ?_⟩⟩, fun z hz' => i64_wf (hwz z (List.mem_of_mem_take hz'))⟩
    · have := World.block_lt_of_cell? _ _ (hcell 0 (by omega))
      rwa [block_of_add] at this
    · rw [List.getElem?_map] at hu
      by_cases hj : j < l
      · rw [hcell j (by omega)]
        rw [List.getElem?_take_of_lt hj, List.getElem?_eq_getElem (by omega)] at hu
        simp only [Option.map_some, Option.some.injEq] at hu
        rw [← hu, List.getD, List.getElem?_eq_getElem (by omega)]
        rfl
      · rw [List.getElem?_eq_none (by simp; omega)] at hu
        simp at hu
end

end Go.Proofs.Ytjhkfpemcplaaaa
namespace Go.Proofs.Ytjhkfpemcplaaaa
open Go.Joins Go.ChangeShapes Go.WideShapes Go.RowKit Go.Deep

section
variable {H : Type} {enc : TypeId × Value → H} {P : Program} {w : World} {base : Nat} {spare : Nat → Bool} {held : Bool}
theorem open_slice_fields {t e : TypeId} {fs : Array Field} {fuel : Nat} {cs : List Value} {x : DataW H × List MemPlace} (ht : P.underlying t = some (.slice e)) (he : P.underlying e = some (.struct fs))
    (hone : oneCellFields P fs = true) (hC : P.cellsOf e = fs.size) (h : DataW.trod enc P w base spare held fuel t cs = some x) :
    (cs = [.slice none 0 0] ∧ x = (.nil, [])) ∨
    ∃ (a : Addr) (len cap m : Nat) (D : Nat → DataW H) (Pl : Nat → List MemPlace), cs = [.slice (some a) len cap] ∧ base ≤ a.block ∧ len ≤ cap ∧ cap ≤ maxLen ∧ m = (if spare a.block then cap else len) ∧
      x = (.slice ((List.range len).map D) ((List.range (m - len)).map fun j => D (len + j)), MemPlace.row a (m * fs.size) ++ (List.range m).flatMap Pl) ∧
      ∀ i, i < m → ∃ (ys : List (DataW H × List MemPlace)) (n : Nat), D i = .agg (ys.map (·.1)) ∧ Pl i = ys.flatMap (·.2) ∧ ys.length = fs.size ∧
        ∀ (j : Nat) (f : Field), fs[j]? = some f → ∃ (v : Value) (y : DataW H × List MemPlace), w.cell? (a.add (i * fs.size + j)) = some v ∧ ys[j]? = some y ∧ DataW.trod enc P w base spare held n f.type [v] = some y := by
  rcases open_slice ht h with h0 | ⟨a, len, cap, m, n, D, Pl, hcs, hb, hl, hm, hmm, hx, hi⟩
  · exact .inl h0
  · refine .inr ⟨a, len, cap, m, D, Pl, hcs, hb, hl, hm, hmm, by rw [hC] at hx; exact hx, fun i him => ?_⟩
    obtain ⟨cs', hc, ht'⟩ := hi i him
    rw [hC] at hc
    obtain ⟨ys, n', hn', hy, hlen, hyl, hf⟩ := DataW.trod_struct he ht'
    obtain ⟨_, hcl, hat⟩ := World.cells?_some hc
    simp only [Prod.mk.injEq] at hy
    refine ⟨ys, n', hy.1, hy.2, hyl, fun j f hj => ?_⟩
    obtain ⟨ho, hk⟩ := hone_of hone j f hj
    have hjl : j < fs.size := (Array.getElem?_eq_some_iff.1 hj).1
    have hcell := hat j hjl
    have hv : cs'[j]? = some (cs'[j]'(by omega)) := List.getElem?_eq_getElem (by omega)
    have h1 := hf j f hj
    rw [ho, hk] at h1
    have hone' : (cs'.drop j).take 1 = [cs'[j]'(by omega)] := by
      rw [List.drop_eq_getElem_cons (by omega)]
      rfl
    rw [hone'] at h1
    have hys : ys[j]? = some (ys[j]'(by omega)) := List.getElem?_eq_getElem (by omega)
    refine ⟨_, _, ?_, hys, h1.trans hys⟩
    rw [← Go.Deep.add_add, hcell, hv]

theorem list_of {α : Type} {R : Nat → α → Prop} : ∀ (n : Nat), (∀ i, i < n → ∃ a, R i a) → ∃ l : List α, l.length = n ∧ ∀ i a, l[i]? = some a → R i a := by
  intro n
  induction n with
  | zero => intro _; exact ⟨[], rfl, fun i a h => by simp at h⟩
  | succ n ih =>
    intro h
    obtain ⟨l, hl, hr⟩ := ih fun i hi => h i (by omega)
    obtain ⟨a, ha⟩ := h n (by omega)
    refine ⟨l ++ [a], by simp [hl], fun i b hb => ?_⟩
    by_cases hi : i < l.length
    · rw [List.getElem?_append_left hi] at hb
      exact hr i b hb
    · rw [List.getElem?_append_right (by omega)] at hb
      have hi2 : i - l.length = 0 := by
        rcases Nat.eq_zero_or_pos (i - l.length) with h0 | h0
        · exact h0
        · rw [List.getElem?_eq_none (by simp; omega)] at hb; cases hb
      rw [hi2] at hb
      simp at hb
      subst hb
      have : i = n := by omega
      subst this
      exact ha
theorem i64_of_wf {z : Int} (h : (Lit.int .i64 z).wf = true) : I64 z := by
  simp [Lit.wf, IntKind.min, IntKind.max, IntKind.signed, IntKind.bits] at h
  unfold I64
  omega
theorem vcells_get (vs : List (Nat × Int)) : ∀ (j : Nat) (u : Value), (vcells vs)[j]? = some u → ∃ k v, vs[k]? = some v ∧ ((j = k * 2 ∧ u = .int .u64 (v.1 : Int)) ∨ (j = k * 2 + 1 ∧ u = .int .i64 v.2)) := by
  induction vs with
  | nil => intro j u h; simp [vcells] at h
  | cons x l ih =>
    intro j u h
    have e : vcells (x :: l) = .int .u64 (x.1 : Int) :: .int .i64 x.2 :: vcells l := rfl
    rw [e] at h
    match j with
    | 0 => simp at h; exact ⟨0, x, rfl, .inl ⟨rfl, h.symm⟩⟩
    | 1 => simp at h; exact ⟨0, x, rfl, .inr ⟨rfl, h.symm⟩⟩
    | j + 2 =>
      obtain ⟨k, v, hv, hj⟩ := ih j u (by simpa using h)
      refine ⟨k + 1, v, by simpa using hv, ?_⟩
      rcases hj with ⟨rfl, hu⟩ | ⟨rfl, hu⟩
      · exact .inl ⟨by omega, hu⟩
      · exact .inr ⟨by omega, hu⟩
/-- a slice of values that came in reads as a list of values -/
theorem vals_in {t e : TypeId} {f0 f1 : Field} {fuel : Nat} {v : Value} {x : DataW H × List MemPlace} (ht : P.underlying t = some (.slice e)) (he : P.underlying e = some (.struct #[f0, f1])) (hone : oneCellFields P #[f0, f1] = true) (hC : P.cellsOf e = 2)
    (h0 : P.underlying f0.type = some (.int .u64)) (h1 : P.underlying f1.type = some (.int .i64)) (h : DataW.trod enc P w base spare held fuel t [v] = some x) :
    ∃ (A : Option Addr) (n c : Nat) (vs : List (Nat × Int)), v = .slice A n c ∧ n ≤ c ∧ c ≤ maxLen ∧ RdV w w.heap.size A n vs ∧ ∀ v ∈ vs, v.1 < 18446744073709551616 ∧ I64 v.2 := by
  rcases open_slice_fields ht he hone hC h with ⟨hcs, _⟩ | ⟨a, len, cap, m, D, Pl, hcs, _, hl, hm, hmm, _, hi⟩
  · simp at hcs
    exact ⟨none, 0, 0, [], hcs, Nat.le_refl _, Nat.zero_le _, Reads.none_, by intro v hv; simp at hv⟩
  · simp at hcs
    have hlm : len ≤ m := by rw [hmm]; split <;> omega
    obtain ⟨vs, hlen, hvs⟩ := list_of (R := fun i (p : Nat × Int) => w.cell? (a.add (i * 2)) = some (.int .u64 (p.1 : Int)) ∧ w.cell? (a.add (i * 2 + 1)) = some (.int .i64 p.2) ∧ p.1 < 18446744073709551616 ∧ I64 p.2) len (fun i hil => by
      obtain ⟨ys, n, _, _, _, hf⟩ := hi i (by omega)
      obtain ⟨v0, y0, hc0, _, t0⟩ := hf 0 f0 rfl
      obtain ⟨v1, y1, hc1, _, t1⟩ := hf 1 f1 rfl
      obtain ⟨x0, e0, _, wf0⟩ := DataW.trod_int h0 t0
      obtain ⟨x1, e1, _, wf1⟩ := DataW.trod_int h1 t1
      simp only [List.cons.injEq, and_true] at e0 e1
      obtain ⟨q, rfl, hq⟩ := u64_of_wf wf0
      refine ⟨(q, x1), ?_, ?_, hq, i64_of_wf wf1⟩
      · rw [← e0]; simpa using hc0
      · rw [← e1]; simpa using hc1)
    refine ⟨some a, len, cap, vs, hcs, hl, hm, ⟨by rw [vcells_len, hlen], fun hn => ⟨a, rfl, ?_, fun j u hu => ?_⟩⟩, fun v hv => ?_⟩
    · obtain ⟨p, hp⟩ : ∃ p, vs[0]? = some p := ⟨_, List.getElem?_eq_getElem (by omega)⟩
      have := World.block_lt_of_cell? _ _ (hvs 0 p hp).1
      rwa [block_of_add] at this
    · obtain ⟨k, p, hp, hj⟩ := vcells_get vs j u hu
      have hk := hvs k p hp
      rcases hj with ⟨rfl, rfl⟩ | ⟨rfl, rfl⟩
      · exact hk.1
      · exact hk.2.1
    · obtain ⟨k, hk⟩ := List.getElem?_of_mem hv
      exact (hvs k v hk).2.2
end

end Go.Proofs.Ytjhkfpemcplaaaa
namespace Go.Proofs.Ytjhkfpemcplaaaa
open Go.Joins Go.ChangeShapes Go.WideShapes Go.ChangeAt Go.RowKit


namespace LawFresh
theorem own : ownKnob Try.prog.godebug = none := by kernel_rfl
theorem laidOut : laidOutB Try.prog = true := by kernel_rfl

set_option maxRecDepth 100000 in
theorem lifted (os : Os) (started : os.Started) (H : Type) (enc : TypeId × Value → H) :
    ReturnsInHanded {} Try.checked os 4 .any (Rows.clientFreshSpec.pre6 enc Try.prog Try.f4 Rows.clientFreshRow.domain false) (Rows.clientFreshSpec.post enc Try.prog Try.f4 false true false false) := by
  refine returnsInHanded_of_change (C := Try.checked) own started (by kernel_rfl) Try.func4
    (ChangeSpec.witness6 (enc := enc) (C := Try.checked) false ⟨#[], #[.agg #[.int .i64 0, .int .u64 0, .slice none 0 0, .string ⟨#[]⟩], .agg #[.int .i64 0, .slice none 0 0, .string ⟨#[]⟩]], []⟩ 8 (by kernel_rfl) (by kernel_rfl) (by kernel_rfl) (by kernel_rfl)) ?_
  intro W base args ds gs before hval0 hW hcnd _
  have hval : ∀ (j : Nat) t v, Try.f4.params[j]? = some t → args[j]? = some v → Value.okWide Try.prog W .any base t v := hval0
  have hW' := hW
  obtain ⟨p, q, hA0, hV, rfl, hfz, hnd⟩ := hW
  have hA : DataW.TrodAll enc Try.prog W 0 (fun _ => true) true Try.f4.params.toList args.toList ds p := hA0
  rw [Try.params4] at hA hval
  obtain ⟨v0, vs0, d0, ds0, p0, q0, hargs, rfl, rfl, h0, r0⟩ := trodAll_cons hA
  obtain ⟨v1, vs1, d1, ds1, p1, q1, rfl, rfl, rfl, h1, r1⟩ := trodAll_cons r0
  obtain ⟨rfl, rfl, rfl⟩ := trodAll_nil r1
  obtain rfl : args = #[v0, v1] := by cases args; simp_all
  obtain ⟨rfl, rfl⟩ := trodVars_none hV
  have k0 := h0
  have k1 := h1
  have lt0 : ∀ x ∈ p0, x.block < W.heap.size := by obtain ⟨m, hm⟩ := k0; exact DataW.trod_lt m _ _ _ hm
  have lt1 : ∀ x ∈ p1, x.block < W.heap.size := by obtain ⟨m, hm⟩ := k1; exact DataW.trod_lt m _ _ _ hm
  obtain ⟨a0, a1, a2, a3, z0, z1, z2, z3, mx, rfl, _, _, b0, b1, b2, b3⟩ := open_agg4 Try.underlying35 (by kernel_rfl) (by kernel_rfl) (hval 0 35 v0 rfl rfl) h0
  obtain ⟨xk, hx0, _, _⟩ := DataW.trod_int Try.underlying32 b0
  obtain ⟨xh, hx1, _, wf1⟩ := DataW.trod_int Try.underlying22 b1
  obtain ⟨xA, xn, xc, ns, rfl, _, _, hrx, hu⟩ := ints_in Try.underlying33 Try.underlying3 (by kernel_rfl) b2
  obtain ⟨xs, hx3, _, _⟩ := DataW.trod_string Try.underlying9 b3
  obtain ⟨u0, u1, u2, y0, y1, y2, m, rfl, _, _, t0, t1, t2⟩ := open_agg3 Try.underlying53 (by kernel_rfl) (by kernel_rfl) (hval 1 53 v1 rfl rfl) h1
  obtain ⟨er, hy0, _, wf0⟩ := DataW.trod_int Try.underlying25 t0
  obtain ⟨tA, tn, tc, vs, rfl, _, _, hrd, hus⟩ := vals_in Try.underlying51 Try.underlying68 (by kernel_rfl) (by kernel_rfl) Try.underlying22 Try.underlying3 t1
  obtain ⟨ts, hy2, _, _⟩ := DataW.trod_string Try.underlying9 t2
  simp only [List.cons.injEq, and_true] at hx0 hx1 hx3 hy0 hy2
  obtain ⟨xh, rfl, hxh⟩ := u64_of_wf wf1
  subst hx0 hx1 hx3 hy0 hy2
  clear hA0 hval0
  refine (lawfresh_any xk xh xA xn xc xs er tA tn tc ts ns vs W hrx hu hxh (i64_of_wf wf0) hrd hus).mono fun e W' ⟨he, bel⟩ => ?_
  subst he
  exact ⟨_, rfl, _, _, _, [], _, [], hW', trodAll_mk1 (shut_bool Try.underlying4 _), (trodAll_cons_mk (Below.trod laidOut (by kernel_rfl) (of_decide_eq_true (by kernel_rfl)) k0 bel lt0) (trodAll_cons_mk (Below.trod laidOut (by kernel_rfl) (of_decide_eq_true (by kernel_rfl)) k1 bel lt1) trodAll_mk0)), rfl, bel.frame _, fun h => by cases h⟩

theorem over : Rows.clientFreshRow.holds Try.pinned (OpenSpec.ofChange Rows.clientFreshSpec) :=
  OpenClaim.holds_of_wide 4 Try.f4 rfl rfl rfl rfl rfl rfl rfl ⟨rfl, rfl, rfl, rfl, rfl⟩ rfl rfl rfl rfl rfl (by kernel_rfl) Try.func4 (by kernel_rfl)
    (of_decide_eq_true (by kernel_rfl)) (by unfold Func.isWrapper; first | (rw [if_pos (by decide +kernel)]; kernel_rfl) | (rw [if_neg (by decide +kernel)]; exact ⟨rfl, rfl⟩))
    (fun os started H enc _ => lifted os started H enc)

end LawFresh

/-- the statement -/
theorem clientFresh_holds : Rows.ClientFreshSaid := LawFresh.over
end Go.Proofs.Ytjhkfpemcplaaaa
