/-
  How a net lies in memory: its packets, its blocks, what an act may change. No statement of the seat is proved here.
-/
import Derived.Test.YtbkgphmocjjmmaaWords
import Derived.Test.YtbkgphmocjjmmaaChecked
import Derived.BigQuiet
import Derived.Deep.QuietTactic
import Derived.Deep.DeepCutAuto
import Derived.Deep.CutBlock
import Derived.Deep.RegionHeld3
import Derived.Deep.RegionLaw
import Derived.Deep.AppendLies
import Derived.RegionTactic
import Derived.Outline
import Derived.Deep.Onto
namespace Go.Proofs.Ytbkgphmocjjmmaa
open Go.RowKit

/-! ## Plain -/
structure Pk where
  num : Int
  bytes : List UInt8
structure Cn where
  sent : Int
  doubled : Int
  delivered : Int
  dropped : Int
  lost : Int
  moved : Int
  flipped : Int
def Cn.zero : Cn := ⟨0, 0, 0, 0, 0, 0, 0⟩
structure Ns where
  limit : Int
  up : Bool
  epoch : Int
  number : Int
  u : Bool → List Pk
  c : Bool → Cn
def upd {α : Type} (f : Bool → α) (s : Bool) (x : α) : Bool → α := fun t => if t = s then x else f t
theorem upd_at {α : Type} (f : Bool → α) (s : Bool) (x : α) : upd f s x s = x := by simp [upd]
theorem upd_off {α : Type} (f : Bool → α) (s : Bool) (x : α) : upd f s x (!s) = f (!s) := by cases s <;> simp [upd]
theorem upd_same {α : Type} (f : Bool → α) (s : Bool) : upd f s (f s) = f := by funext t; cases t <;> cases s <;> simp [upd]
theorem upd_two {α : Type} (f : Bool → α) (s : Bool) (x y : α) : upd (upd f s x) s y = upd f s y := by funext t; cases t <;> cases s <;> simp [upd]
def Cn.ok (K : Int) (c : Cn) : Prop := (0 ≤ c.sent ∧ c.sent ≤ K) ∧ (0 ≤ c.doubled ∧ c.doubled ≤ K) ∧ (0 ≤ c.delivered ∧ c.delivered ≤ K) ∧ (0 ≤ c.dropped ∧ c.dropped ≤ K) ∧ (0 ≤ c.lost ∧ c.lost ≤ K) ∧ (0 ≤ c.moved ∧ c.moved ≤ K) ∧ (0 ≤ c.flipped ∧ c.flipped ≤ K)
/-- a net that New made, its numbers bounded -/
structure Ns.ok (K : Int) (S : Ns) : Prop where
  lo : 1 ≤ S.limit
  hi : S.limit ≤ 64
  ep : 0 ≤ S.epoch ∧ S.epoch ≤ K
  nu : 0 ≤ S.number ∧ S.number ≤ K
  len : ∀ s, ((S.u s).length : Int) ≤ S.limit
  cn : ∀ s, (S.c s).ok K

/-! ## Changes -/
structure Chg (F : Nat → Prop) (w w' : World) : Prop where
  os : w'.os = w.os
  tape : w'.tape = w.tape
  output : w'.output = w.output
  size : w.heap.size ≤ w'.heap.size
  block : ∀ k, k < w.heap.size → ¬ F k → w'.heap[k]? = w.heap[k]?
section
variable {F G : Nat → Prop} {w w1 w2 w' : World}
theorem Chg.refl (F : Nat → Prop) (w : World) : Chg F w w := ⟨rfl, rfl, rfl, Nat.le_refl _, fun _ _ _ => rfl⟩
theorem Chg.trans (h : Chg F w w1) (k : Chg G w1 w2) (hs : ∀ i, i < w.heap.size → G i → F i) : Chg F w w2 :=
  ⟨k.os.trans h.os, k.tape.trans h.tape, k.output.trans h.output, Nat.le_trans h.size k.size, fun i hi hn => (k.block i (Nat.lt_of_lt_of_le hi h.size) (fun hg => hn (hs i hi hg))).trans (h.block i hi hn)⟩
theorem Chg.of_below (h : Below w.heap.size w w1) (F : Nat → Prop) : Chg F w w1 := ⟨h.os, h.tape, h.output, h.size, fun i hi _ => h.block i hi⟩
theorem Chg.of_grown {row : Option Nat} (h : w.grownBy w1 row) (hF : ∀ k, row = some k → F k) : Chg F w w1 := ⟨h.os, h.tape, h.output, h.size, fun i hi hn => h.block i hi (fun e => hn (hF i e.symm))⟩
theorem Chg.mono (h : Chg F w w1) (hs : ∀ i, i < w.heap.size → F i → G i) : Chg G w w1 := ⟨h.os, h.tape, h.output, h.size, fun i hi hn => h.block i hi (fun hf => hn (hs i hi hf))⟩
theorem Chg.below {B : Nat} (h : Chg F w w1) (hB : B ≤ w.heap.size) (hF : ∀ k, k < B → ¬ F k) : Below B w w1 := ⟨h.os, h.tape, h.output, h.size, fun i hi => h.block i (by omega) (hF i hi)⟩
theorem Chg.alloc (h : Chg F w w1) (o : Obj) : Chg F w (w1.alloc o) := h.trans (Chg.of_below ((Below.refl _ _).alloc (Nat.le_refl _) o) (fun _ => False)) (fun _ _ h => h.elim)
theorem Chg.drew (h : Chg F w w1) : Chg F w w1.drew := ⟨h.os, h.tape, h.output, h.size, h.block⟩
theorem Chg.setCell (h : Chg F w w1) {p : Addr} (hp : p.block < w.heap.size → F p.block) (u : Value) : Chg F w (w1.setCell p u) :=
  ⟨h.os, h.tape, h.output, by simpa [World.setCell] using h.size, fun i hi hn => (Below.heap_setCell w1 p u i (by rintro rfl; exact hn (hp hi))).trans (h.block i hi hn)⟩
theorem Chg.blk {g : Nat} {t : TypeId} {cs : Array Value} (h : Chg F w w1) (hb : Blk w g t cs) (hn : ¬ F g) : Blk w1 g t cs := (h.block g hb.lt hn).trans hb
end
theorem own_same {w w' : World} {base : Nat} {e : TypeId} {size n : Nat} {v : Value} {xs : List Value} (h : w.ownsRow base e size v n xs) (hk : ∀ k, v.ownBlock = some k → w'.heap[k]? = w.heap[k]?) : w'.ownsRow base e size v n xs := by
  refine ⟨h.1, ?_⟩
  rcases h.2 with hn | ⟨g, cap, cur, rfl, hb, hgg, rest⟩
  · exact .inl hn
  · exact .inr ⟨g, cap, cur, rfl, hb, (hk g (by simp [Value.ownBlock])).trans hgg, rest⟩
theorem own_chg {F : Nat → Prop} {w w' : World} {base : Nat} {e : TypeId} {size n : Nat} {v : Value} {xs : List Value} (h : w.ownsRow base e size v n xs) (hc : Chg F w w') (hn : ∀ k, v.ownBlock = some k → ¬ F k) : w'.ownsRow base e size v n xs :=
  own_same h fun k hk => hc.block k (h.lt k hk).2 (hn k hk)
theorem own_form {w : World} {base : Nat} {e : TypeId} {size n : Nat} {v : Value} {xs : List Value} (h : w.ownsRow base e size v n xs) : ∃ A c, v = .slice A n c ∧ n ≤ c ∧ c ≤ maxLen := by
  rcases h.2 with ⟨rfl, rfl⟩ | ⟨g, cap, cur, rfl, _, _, hn, hm, _⟩
  · exact ⟨none, 0, rfl, by omega, by simp⟩
  · exact ⟨_, cap, rfl, hn, hm⟩
theorem own_apart {w : World} {b1 b2 : Nat} {e1 e2 : TypeId} {s1 s2 n m : Nat} {v u : Value} {xs ys : List Value} (h : w.ownsRow b1 e1 s1 v n xs) (h' : w.ownsRow b2 e2 s2 u m ys) (hne : e1 ≠ e2) : ∀ k, v.ownBlock = some k → u.ownBlock ≠ some k := by
  intro k hk hu
  rcases h'.2 with ⟨rfl, _⟩ | ⟨q, cap, cur, rfl, _, hq, _⟩
  · simp [Value.ownBlock] at hu
  · have : q = k := by simpa [Value.ownBlock] using hu
    subst this
    exact own_blk_ne h (show Blk w q e2 cur from hq) hne hk
theorem own_base {w : World} {b1 b2 : Nat} {e : TypeId} {size n : Nat} {v : Value} {xs : List Value} (h : w.ownsRow b1 e size v n xs) (hb : b2 ≤ b1) : w.ownsRow b2 e size v n xs := World.ownsRow.mono h hb

/-! ## A net -/
structure LP where
  pk : Pk
  A : Option Addr
  c : Nat
def LP.val (p : LP) : Value := .slice p.A p.pk.bytes.length p.c
def LP.cells (p : LP) : List Value := [.int .i64 p.pk.num, p.val]
def LP.blk (p : LP) : Option Nat := p.val.ownBlock
def LP.own (w : World) (p : LP) : Prop := OwnB 5 w 0 p.val p.pk.bytes
def lpCells (l : List LP) : List Value := l.flatMap LP.cells
def apartP (p q : LP) : Prop := p.blk = none ∨ p.blk ≠ q.blk
def RowP (w : World) (v : Value) (l : List LP) : Prop := w.ownsRow 0 36 2 v l.length (lpCells l)
structure NetX (t : TypeId) (lay : Ns → (Bool → Value) → Array Value) (w : World) (g : Nat) (S : Ns) (v : Bool → Value) (l : Bool → List LP) : Prop where
  blk : Blk w g t (lay S v)
  row : ∀ s, RowP w (v s) (l s)
  pks : ∀ s, ∀ p ∈ l s, p.own w
  is : ∀ s, (l s).map LP.pk = S.u s
  rows : (v false).ownBlock = none ∨ (v false).ownBlock ≠ (v true).ownBlock
  apart : ∀ s, (l s).Pairwise apartP
  cross : ∀ p ∈ l false, ∀ q ∈ l true, apartP p q
/-- a net's blocks -/
def NetF (g : Nat) (v : Bool → Value) (l : Bool → List LP) (k : Nat) : Prop := k = g ∨ (∃ s, (v s).ownBlock = some k) ∨ ∃ s, ∃ p ∈ l s, p.blk = some k
theorem apartP.symm {p q : LP} (h : apartP p q) : apartP q p := by
  unfold apartP at *
  rcases h with h | h
  · cases hq : q.blk with
    | none => exact .inl rfl
    | some k => exact .inr (by rw [h]; simp)
  · exact .inr (Ne.symm h)
section
variable {t : TypeId} {lay : Ns → (Bool → Value) → Array Value} {w w' : World} {g : Nat} {S S' : Ns} {v : Bool → Value} {l : Bool → List LP} {F : Nat → Prop}
theorem NetX.lt (h : NetX t lay w g S v l) {k : Nat} (hk : NetF g v l k) : k < w.heap.size := by
  rcases hk with rfl | ⟨s, hs⟩ | ⟨s, p, hp, hb⟩
  · exact h.blk.lt
  · exact (World.ownsRow.lt (h.row s) k hs).2
  · exact (World.ownsRow.lt (h.pks s p hp) k hb).2
theorem NetX.keep (h : NetX t lay w g S v l) (hk : ∀ k, NetF g v l k → w'.heap[k]? = w.heap[k]?) : NetX t lay w' g S v l :=
  ⟨(hk g (.inl rfl)).trans h.blk, fun s => own_same (h.row s) fun k e => hk k (.inr (.inl ⟨s, e⟩)), fun s p hp => own_same (h.pks s p hp) fun k e => hk k (.inr (.inr ⟨s, p, hp, e⟩)), h.is, h.rows, h.apart, h.cross⟩
theorem NetX.chg (h : NetX t lay w g S v l) (hc : Chg F w w') (hn : ∀ k, NetF g v l k → ¬ F k) : NetX t lay w' g S v l := h.keep fun k hk => hc.block k (h.lt hk) (hn k hk)
theorem NetX.below (h : NetX t lay w g S v l) (hb : Below w.heap.size w w') : NetX t lay w' g S v l := h.keep fun k hk => hb.block k (h.lt hk)
theorem NetX.len (h : NetX t lay w g S v l) (s : Bool) : (l s).length = (S.u s).length := by rw [← h.is s, List.length_map]
/-- the other way's blocks are none of this way's row, nor the net's own -/
theorem NetX.other (h : NetX t lay w g S v l) (h36 : t ≠ 36) (h5 : t ≠ 5) (s : Bool) {k : Nat} (hk : (v (!s)).ownBlock = some k ∨ ∃ p ∈ l (!s), p.blk = some k) : k ≠ g ∧ (v s).ownBlock ≠ some k := by
  rcases hk with hk | ⟨p, hp, hk⟩
  · refine ⟨fun e => ?_, fun e => ?_⟩
    · subst e
      exact own_blk_ne (h.row (!s)) h.blk (Ne.symm h36) hk
    · have := h.rows
      cases s with
      | false =>
        rcases this with h1 | h1
        · rw [h1] at e; cases e
        · exact h1 (by rw [e]; exact hk.symm)
      | true =>
        rcases this with h1 | h1
        · simp only [Bool.not_true] at hk; rw [h1] at hk; cases hk
        · exact h1 (by simp only [Bool.not_true] at hk; rw [hk, e])
  · refine ⟨fun e => ?_, fun e => own_apart (h.pks (!s) p hp) (h.row s) (by decide) k hk e⟩
    subst e
    exact own_blk_ne (h.pks (!s) p hp) h.blk (Ne.symm h5) hk
theorem NetX.upd (h : NetX t lay w g S v l) (s : Bool) {v1 : Value} {l1 : List LP} (hb : Blk w' g t (lay S' (upd v s v1))) (hr : RowP w' v1 l1) (hp : ∀ p ∈ l1, p.own w') (hu : S'.u = Go.Proofs.Ytbkgphmocjjmmaa.upd S.u s (l1.map LP.pk)) (ha : l1.Pairwise apartP)
    (hv : v1.ownBlock = none ∨ v1.ownBlock = (v s).ownBlock ∨ ∃ k, v1.ownBlock = some k ∧ w.heap.size ≤ k) (hn : ∀ p ∈ l1, p.blk = none ∨ (∃ q ∈ l s, p.blk = q.blk) ∨ ∃ k, p.blk = some k ∧ w.heap.size ≤ k)
    (hk : ∀ k, ((v (!s)).ownBlock = some k ∨ ∃ p ∈ l (!s), p.blk = some k) → w'.heap[k]? = w.heap[k]?) : NetX t lay w' g S' (upd v s v1) (upd l s l1) := by
  have hrow : RowP w' (v (!s)) (l (!s)) := own_same (h.row (!s)) fun k e => hk k (.inl e)
  have hpk : ∀ p ∈ l (!s), p.own w' := fun p hp' => own_same (h.pks (!s) p hp') fun k e => hk k (.inr ⟨p, hp', e⟩)
  have hvo : v1.ownBlock = none ∨ v1.ownBlock ≠ (v (!s)).ownBlock := by
    rcases hv with e | e | ⟨k, e, hk'⟩
    · exact .inl e
    · rw [e]
      have := h.rows
      cases s with
      | false => exact this
      | true =>
        rcases this with h1 | h1
        · simp only [Bool.not_true, h1]
          cases hq : (v true).ownBlock with
          | none => exact .inl rfl
          | some q => exact .inr (by simp)
        · exact .inr (Ne.symm h1)
    · exact .inr (fun e2 => by
        rw [e] at e2
        have := (World.ownsRow.lt (h.row (!s)) k e2.symm).2
        omega)
  have hcr : ∀ p ∈ l1, ∀ q ∈ l (!s), apartP p q := by
    intro p hp1 q hq
    rcases hn p hp1 with e | ⟨r, hr', e⟩ | ⟨k, e, hk'⟩
    · exact .inl e
    · have hrq : apartP r q := by
        cases s with
        | false => exact h.cross r hr' q hq
        | true => exact (h.cross q hq r hr').symm
      unfold apartP at *
      rw [e]; exact hrq
    · refine .inr (fun e2 => ?_)
      rw [e] at e2
      have := (World.ownsRow.lt (h.pks (!s) q hq) k e2.symm).2
      omega
  refine ⟨hb, fun t' => ?_, fun t' => ?_, fun t' => ?_, ?_, fun t' => ?_, ?_⟩
  · cases s <;> cases t' <;> simp [Go.Proofs.Ytbkgphmocjjmmaa.upd] <;> first | exact hr | exact hrow
  · cases s <;> cases t' <;> simp only [Go.Proofs.Ytbkgphmocjjmmaa.upd] <;> first | exact hp | exact hpk
  · rw [hu]; cases s <;> cases t' <;> simp [Go.Proofs.Ytbkgphmocjjmmaa.upd, h.is]
  · cases s with
    | false => simpa [Go.Proofs.Ytbkgphmocjjmmaa.upd] using hvo
    | true =>
      simp only [Go.Proofs.Ytbkgphmocjjmmaa.upd]
      rcases hvo with e | e
      · cases hq : (v false).ownBlock with
        | none => exact .inl hq
        | some q => exact .inr (by simp [e, hq])
      · exact .inr (fun e2 => e (by simpa using e2.symm))
  · cases s <;> cases t' <;> simp only [Go.Proofs.Ytbkgphmocjjmmaa.upd] <;> first | exact ha | exact h.apart _
  · cases s with
    | false => simpa [Go.Proofs.Ytbkgphmocjjmmaa.upd] using hcr
    | true => simpa [Go.Proofs.Ytbkgphmocjjmmaa.upd] using fun p hp' q hq => (hcr q hq p hp').symm
theorem NetF.upd {s : Bool} {v1 : Value} {l1 : List LP} {n : Nat} (hv : v1.ownBlock = none ∨ v1.ownBlock = (v s).ownBlock ∨ ∃ k, v1.ownBlock = some k ∧ n ≤ k) (hn : ∀ p ∈ l1, p.blk = none ∨ (∃ q ∈ l s, p.blk = q.blk) ∨ ∃ k, p.blk = some k ∧ n ≤ k)
    {k : Nat} (hk : NetF g (upd v s v1) (upd l s l1) k) : NetF g v l k ∨ n ≤ k := by
  rcases hk with rfl | ⟨s', hs⟩ | ⟨s', p, hp, hb⟩
  · exact .inl (.inl rfl)
  · by_cases hss : s' = s
    · subst hss
      rw [upd_at] at hs
      rcases hv with e | e | ⟨q, e, hq⟩
      · rw [e] at hs; cases hs
      · exact .inl (.inr (.inl ⟨s', by rw [← e]; exact hs⟩))
      · rw [e] at hs; injection hs with hs; subst hs; exact .inr hq
    · have e : Go.Proofs.Ytbkgphmocjjmmaa.upd v s v1 s' = v s' := by simp [Go.Proofs.Ytbkgphmocjjmmaa.upd, hss]
      rw [e] at hs
      exact .inl (.inr (.inl ⟨s', hs⟩))
  · by_cases hss : s' = s
    · subst hss
      rw [upd_at] at hp
      rcases hn p hp with e | ⟨q, hq, e⟩ | ⟨q, e, hq⟩
      · rw [e] at hb; cases hb
      · exact .inl (.inr (.inr ⟨s', q, hq, by rw [← e]; exact hb⟩))
      · rw [e] at hb; injection hb with hb; subst hb; exact .inr hq
    · have e : Go.Proofs.Ytbkgphmocjjmmaa.upd l s l1 s' = l s' := by simp [Go.Proofs.Ytbkgphmocjjmmaa.upd, hss]
      rw [e] at hp
      exact .inl (.inr (.inr ⟨s', p, hp, hb⟩))
/-- only the head has turned -/
theorem NetX.head (h : NetX t lay w g S v l) (hb : Blk w' g t (lay S' v)) (hu : S'.u = S.u) (hk : ∀ k, k < w.heap.size → k ≠ g → w'.heap[k]? = w.heap[k]?) (h36 : t ≠ 36) (h5 : t ≠ 5) : NetX t lay w' g S' v l := by
  refine ⟨hb, fun s => own_same (h.row s) fun k e => hk k (World.ownsRow.lt (h.row s) k e).2 ?_, fun s p hp => own_same (h.pks s p hp) fun k e => hk k (World.ownsRow.lt (h.pks s p hp) k e).2 ?_, fun s => by rw [hu]; exact h.is s, h.rows, h.apart, h.cross⟩
  · rintro rfl; exact own_blk_ne (h.row s) h.blk (Ne.symm h36) e
  · rintro rfl; exact own_blk_ne (h.pks s p hp) h.blk (Ne.symm h5) e
end
def Cn.vals (c : Cn) : List Value := [.int .i64 c.sent, .int .i64 c.doubled, .int .i64 c.delivered, .int .i64 c.dropped, .int .i64 c.lost, .int .i64 c.moved, .int .i64 c.flipped]
/-- the program's net -/
def layN (S : Ns) (v : Bool → Value) : Array Value :=
  #[.int .i64 S.limit, .bool S.up, .int .i64 S.epoch, .int .i64 S.number,
    v false, .int .i64 (S.c false).sent, .int .i64 (S.c false).doubled, .int .i64 (S.c false).delivered, .int .i64 (S.c false).dropped, .int .i64 (S.c false).lost, .int .i64 (S.c false).moved, .int .i64 (S.c false).flipped,
    v true, .int .i64 (S.c true).sent, .int .i64 (S.c true).doubled, .int .i64 (S.c true).delivered, .int .i64 (S.c true).dropped, .int .i64 (S.c true).lost, .int .i64 (S.c true).moved, .int .i64 (S.c true).flipped]
/-- the document's net -/
def layR (S : Ns) (v : Bool → Value) : Array Value :=
  #[.int .i64 S.limit, .bool S.up, .int .i64 S.epoch, .int .i64 S.number, v false, v true,
    .int .i64 (S.c false).sent, .int .i64 (S.c false).doubled, .int .i64 (S.c false).delivered, .int .i64 (S.c false).dropped, .int .i64 (S.c false).lost, .int .i64 (S.c false).moved, .int .i64 (S.c false).flipped,
    .int .i64 (S.c true).sent, .int .i64 (S.c true).doubled, .int .i64 (S.c true).delivered, .int .i64 (S.c true).dropped, .int .i64 (S.c true).lost, .int .i64 (S.c true).moved, .int .i64 (S.c true).flipped]
abbrev NetA := NetX 68 layN
abbrev NetR := NetX 92 layR
end Go.Proofs.Ytbkgphmocjjmmaa
