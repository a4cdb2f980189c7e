/-
  A client, plain, and how it lies in memory. No statement of the seat is proved here.
-/
import Derived.Test.YtjhkfpemcplaaaaPb
import Derived.Test.YtjhkfpemcplaaaaPr
import Derived.Test.YtjhkfpemcplaaaaChecked
import Derived.BigQuiet
import Derived.Deep.QuietTactic
import Derived.Deep.DeepCutAuto
import Derived.Deep.CutBlock
import Derived.Deep.RegionHeld3
import Derived.Deep.RegionLaw
import Derived.RegionTactic
import Derived.Outline
namespace Go.Proofs.Ytjhkfpemcplaaaa
open Go.RowKit

/-! ## Changes -/
structure Chg (F : Nat → Prop) (w w' : World) : Prop where
  os : w'.os = w.os
  tape : w'.tape = w.tape
  output : w'.output = w.output
  size : w.heap.size ≤ w'.heap.size
  block : ∀ k, k < w.heap.size → ¬ F k → w'.heap[k]? = w.heap[k]?
section
variable {F G : Nat → Prop} {w w1 w2 w' : World}
theorem Chg.refl (F : Nat → Prop) (w : World) : Chg F w w := ⟨rfl, rfl, rfl, Nat.le_refl _, fun _ _ _ => rfl⟩
theorem Chg.trans (h : Chg F w w1) (k : Chg G w1 w2) (hs : ∀ i, i < w.heap.size → G i → F i) : Chg F w w2 :=
  ⟨k.os.trans h.os, k.tape.trans h.tape, k.output.trans h.output, Nat.le_trans h.size k.size, fun i hi hn => (k.block i (Nat.lt_of_lt_of_le hi h.size) (fun hg => hn (hs i hi hg))).trans (h.block i hi hn)⟩
theorem Chg.of_below (h : Below w.heap.size w w1) (F : Nat → Prop) : Chg F w w1 := ⟨h.os, h.tape, h.output, h.size, fun i hi _ => h.block i hi⟩
theorem Chg.of_grown {row : Option Nat} (h : w.grownBy w1 row) (hF : ∀ k, row = some k → F k) : Chg F w w1 := ⟨h.os, h.tape, h.output, h.size, fun i hi hn => h.block i hi (fun e => hn (hF i e.symm))⟩
theorem Chg.mono (h : Chg F w w1) (hs : ∀ i, i < w.heap.size → F i → G i) : Chg G w w1 := ⟨h.os, h.tape, h.output, h.size, fun i hi hn => h.block i hi (fun hf => hn (hs i hi hf))⟩
theorem Chg.below {B : Nat} (h : Chg F w w1) (hB : B ≤ w.heap.size) (hF : ∀ k, k < B → ¬ F k) : Below B w w1 := ⟨h.os, h.tape, h.output, h.size, fun i hi => h.block i (by omega) (hF i hi)⟩
theorem Chg.alloc (h : Chg F w w1) (o : Obj) : Chg F w (w1.alloc o) := h.trans (Chg.of_below ((Below.refl _ _).alloc (Nat.le_refl _) o) (fun _ => False)) (fun _ _ h => h.elim)
theorem Chg.drew (h : Chg F w w1) : Chg F w w1.drew := ⟨h.os, h.tape, h.output, h.size, h.block⟩
theorem Chg.drewN (h : Chg F w w1) (n : Nat) : Chg F w (w1.drewN n) := ⟨h.os, h.tape, h.output, h.size, h.block⟩
theorem Chg.setCell (h : Chg F w w1) {p : Addr} (hp : p.block < w.heap.size → F p.block) (u : Value) : Chg F w (w1.setCell p u) :=
  ⟨h.os, h.tape, h.output, by simpa [World.setCell] using h.size, fun i hi hn => (Below.heap_setCell w1 p u i (by rintro rfl; exact hn (hp hi))).trans (h.block i hi hn)⟩
theorem Chg.blk {g : Nat} {t : TypeId} {cs : Array Value} (h : Chg F w w1) (hb : Blk w g t cs) (hn : ¬ F g) : Blk w1 g t cs := (h.block g hb.lt hn).trans hb
end
theorem own_same {w w' : World} {base : Nat} {e : TypeId} {size n : Nat} {v : Value} {xs : List Value} (h : w.ownsRow base e size v n xs) (hk : ∀ k, v.ownBlock = some k → w'.heap[k]? = w.heap[k]?) : w'.ownsRow base e size v n xs := by
  refine ⟨h.1, ?_⟩
  rcases h.2 with hn | ⟨g, cap, cur, rfl, hb, hgg, rest⟩
  · exact .inl hn
  · exact .inr ⟨g, cap, cur, rfl, hb, (hk g (by simp [Value.ownBlock])).trans hgg, rest⟩
theorem own_chg {F : Nat → Prop} {w w' : World} {base : Nat} {e : TypeId} {size n : Nat} {v : Value} {xs : List Value} (h : w.ownsRow base e size v n xs) (hc : Chg F w w') (hn : ∀ k, v.ownBlock = some k → ¬ F k) : w'.ownsRow base e size v n xs :=
  own_same h fun k hk => hc.block k (h.lt k hk).2 (hn k hk)
theorem own_formL {w : World} {base : Nat} {e : TypeId} {size n : Nat} {v : Value} {xs : List Value} (h : w.ownsRow base e size v n xs) : ∃ A c, v = .slice A n c ∧ n ≤ c ∧ c ≤ maxLen := by
  rcases h.2 with ⟨rfl, rfl⟩ | ⟨g, cap, cur, rfl, _, _, hn, hm, _⟩
  · exact ⟨none, 0, rfl, by omega, by simp⟩
  · exact ⟨_, cap, rfl, hn, hm⟩
theorem own_apart {w : World} {b1 b2 : Nat} {e1 e2 : TypeId} {s1 s2 n m : Nat} {v u : Value} {xs ys : List Value} (h : w.ownsRow b1 e1 s1 v n xs) (h' : w.ownsRow b2 e2 s2 u m ys) (hne : e1 ≠ e2) : ∀ k, v.ownBlock = some k → u.ownBlock ≠ some k := by
  intro k hk hu
  rcases h'.2 with ⟨rfl, _⟩ | ⟨q, cap, cur, rfl, _, hq, _⟩
  · simp [Value.ownBlock] at hu
  · have : q = k := by simpa [Value.ownBlock] using hu
    subst this
    exact own_blk_ne h (show Blk w q e2 cur from hq) hne hk

/-! ## Rows whose elements have a slice of their own -/
structure Kd (α : Type) where
  t : TypeId
  size : Nat
  hd : α → List Value
  tl : α → List Value
  et : TypeId
  es : Nat
  n : α → Nat
  xs : α → List Value
abbrev QX (α : Type) := α × Option Addr × Nat
section
variable {α : Type} (K : Kd α)
def Kd.val (q : QX α) : Value := .slice q.2.1 (K.n q.1) q.2.2
def Kd.cells (q : QX α) : List Value := K.hd q.1 ++ K.val q :: K.tl q.1
def Kd.flat (l : List (QX α)) : List Value := l.flatMap K.cells
/-- the blocks of the elements -/
def Kd.inB (l : List (QX α)) (k : Nat) : Prop := ∃ q ∈ l, (K.val q).ownBlock = some k
structure RowK (base : Nat) (w : World) (v : Value) (l : List (QX α)) : Prop where
  row : w.ownsRow base K.t K.size v l.length (K.flat l)
  els : ∀ q ∈ l, w.ownsRow base K.et K.es (K.val q) (K.n q.1) (K.xs q.1)
end
section
variable {α : Type} {K : Kd α} {base base' : Nat} {w w' w2 : World} {v v' : Value} {l : List (QX α)} {q : QX α} {F : Nat → Prop}
theorem RowK.nil (K : Kd α) (base : Nat) (w : World) : RowK K base w (.slice none 0 0) [] := ⟨World.ownsRow_nil _ _ _ _, fun q h => by cases h⟩
theorem RowK.lt (h : RowK K base w v l) {k : Nat} (hk : v.ownBlock = some k ∨ K.inB l k) : base ≤ k ∧ k < w.heap.size := by
  rcases hk with hk | ⟨q, hq, hk⟩
  · exact World.ownsRow.lt h.row k hk
  · exact World.ownsRow.lt (h.els q hq) k hk
theorem RowK.keep (h : RowK K base w v l) (hk : ∀ k, (v.ownBlock = some k ∨ K.inB l k) → w'.heap[k]? = w.heap[k]?) : RowK K base w' v l :=
  ⟨own_same h.row fun k e => hk k (.inl e), fun q hq => own_same (h.els q hq) fun k e => hk k (.inr ⟨q, hq, e⟩)⟩
theorem RowK.chg (h : RowK K base w v l) (hc : Chg F w w') (hn : ∀ k, (v.ownBlock = some k ∨ K.inB l k) → ¬ F k) : RowK K base w' v l := h.keep fun k hk => hc.block k (h.lt hk).2 (hn k hk)
theorem RowK.below (h : RowK K base w v l) (hb : Below w.heap.size w w') : RowK K base w' v l := h.keep fun k hk => hb.block k (h.lt hk).2
theorem RowK.rebase (h : RowK K base w v l) (hb : base' ≤ base) : RowK K base' w v l := ⟨own_base h.row hb, fun q hq => own_base (h.els q hq) hb⟩
theorem RowK.form (h : RowK K base w v l) : ∃ A c, v = .slice A l.length c ∧ l.length ≤ c ∧ c ≤ maxLen := own_formL h.row
/-- one more element, its slice the call's own -/
theorem RowK.push (h : RowK K base w v l) (hne : K.t ≠ K.et) (hq : w.ownsRow base K.et K.es (K.val q) (K.n q.1) (K.xs q.1)) (hr : w'.ownsRow base K.t K.size v' (l.length + 1) (K.flat l ++ K.cells q)) (hg : w.grownBy w' v.ownBlock) : RowK K base w' v' (l ++ [q]) := by
  have keep : ∀ x : QX α, w.ownsRow base K.et K.es (K.val x) (K.n x.1) (K.xs x.1) → w'.ownsRow base K.et K.es (K.val x) (K.n x.1) (K.xs x.1) := fun x hx =>
    own_same hx fun k hk => hg.block k (World.ownsRow.lt hx k hk).2 fun e => own_apart hx h.row (Ne.symm hne) k hk e.symm
  refine ⟨by simpa [Kd.flat] using hr, fun x hx => ?_⟩
  rcases List.mem_append.1 hx with e | e
  · exact keep x (h.els x e)
  · rw [List.mem_singleton] at e; subst e; exact keep _ hq
theorem inB_push {k : Nat} (h : K.inB (l ++ [q]) k) : K.inB l k ∨ (K.val q).ownBlock = some k := by
  obtain ⟨x, hx, e⟩ := h
  rcases List.mem_append.1 hx with h1 | h1
  · exact .inl ⟨x, h1, e⟩
  · rw [List.mem_singleton] at h1; subst h1; exact .inr e
theorem kd_flat_at {n : Nat} (hn : ∀ q : QX α, (K.cells q).length = n) : ∀ {l : List (QX α)} {i : Nat} {q : QX α}, l[i]? = some q → ∀ {j : Nat} {u : Value}, (K.cells q)[j]? = some u → (K.flat l)[i * n + j]? = some u := by
  intro l
  induction l with
  | nil => intro i q h; simp at h
  | cons x r ih =>
    intro i q he j u hu
    have hx := hn x
    have hj : j < n := by rw [← hn q]; exact (List.getElem?_eq_some_iff.1 hu).1
    unfold Kd.flat at *
    rw [List.flatMap_cons]
    cases i with
    | zero =>
      simp only [List.getElem?_cons_zero, Option.some.injEq] at he
      subst he
      rw [List.getElem?_append_left (by omega), Nat.zero_mul, Nat.zero_add]; exact hu
    | succ i =>
      rw [List.getElem?_cons_succ] at he
      rw [List.getElem?_append_right (by rw [hx, Nat.add_mul]; omega), hx]
      have : (i + 1) * n + j - n = i * n + j := by rw [Nat.add_mul]; omega
      rw [this]
      exact ih he hu
/-- an element's cells, where the row lies -/
theorem RowK.at_ (h : RowK K base w v l) (hn : ∀ q : QX α, (K.cells q).length = K.size) {i : Nat} (he : l[i]? = some q) : ∃ g c, v = .slice (some ⟨g, 0, none⟩) l.length c ∧ base ≤ g ∧ g < w.heap.size ∧ ∀ j u, (K.cells q)[j]? = some u → w.cell? ⟨g, i * K.size + j, none⟩ = some u := by
  rcases h.row.2 with ⟨_, hx⟩ | ⟨g, cap, cur, e1, hb, hg, hn', hm, hcs, hcell⟩
  · have : 0 < l.length := by have := (List.getElem?_eq_some_iff.1 he).1; omega
    omega
  · refine ⟨g, cap, e1, hb, Blk.lt (show Blk w g K.t cur from hg), fun j u hu => ?_⟩
    have hf := kd_flat_at hn he hu
    rw [Blk.cell (show Blk w g K.t cur from hg) (i * K.size + j)]
    rw [← hcell, List.getElem?_take] at hf
    split at hf
    · simpa using hf
    · cases hf
end
/-! ## A client, plain -/
structure Rp where
  err : Int
  vals : List (Nat × Int)
  text : List UInt8
structure Cl where
  nonce : Nat
  win : Nat
  pat : Nat
  bodies : List (List UInt8)
  reps : List Rp
  evs : List (Nat × Rp)
  tok : Nat
  conn : Bool
  greet : Bool
  iss : Nat
  rep : Nat
  ev : Nat
  wait : Nat
  over : Bool
  reason : Int
  kept : List UInt8
def Cl.new (nonce win pat : Nat) : Cl := ⟨nonce, win, pat, [], [], [], 0, false, false, 0, 0, 0, 0, false, 0, []⟩
def Cl.cmd (c : Cl) (k : Nat) : Pk := ⟨3, c.tok, k, c.rep, c.bodies.getD (k - 1) []⟩
def Cl.hello (c : Cl) : Pk := ⟨1, c.tok, c.nonce, 0, []⟩
def Cl.last (c : Cl) : Nat := min (c.rep + c.win) c.iss
/-- a client that New made, its numbers bounded -/
structure Cl.Ok (N : Nat) (c : Cl) : Prop where
  no : 1 ≤ c.nonce ∧ c.nonce < 18446744073709551616
  wi : 1 ≤ c.win ∧ c.win ≤ 16
  pa : 1 ≤ c.pat ∧ c.pat ≤ 1000
  bl : c.bodies.length = c.iss
  bs : ∀ b ∈ c.bodies, b.length ≤ 1024
  rp : c.rep ≤ c.iss
  rl : c.reps.length = c.rep
  is : c.iss ≤ N
  tk : c.tok < 18446744073709551616
  ev : c.ev < 18446744073709551616
  el : c.evs.length ≤ N
  wt : c.wait ≤ c.pat
  kp : c.kept.length < 1088
def kB : Kd (List UInt8) := ⟨37, 1, fun _ => [], fun _ => [], 5, 1, List.length, fun b => b.map bv⟩
def kR : Kd Rp := ⟨53, 3, fun r => [.int .i64 r.err], fun r => [.string ⟨r.text.toArray⟩], 68, 2, fun r => r.vals.length, fun r => vcells r.vals⟩
def kE : Kd (Nat × Rp) := ⟨70, 4, fun r => [.int .u64 (r.1 : Int), .int .i64 r.2.err], fun r => [.string ⟨r.2.text.toArray⟩], 68, 2, fun r => r.2.vals.length, fun r => vcells r.2.vals⟩
theorem kB_len (q : QX (List UInt8)) : (kB.cells q).length = kB.size := rfl
theorem kR_len (q : QX Rp) : (kR.cells q).length = kR.size := rfl
theorem kE_len (q : QX (Nat × Rp)) : (kE.cells q).length = kE.size := rfl
/-- where a client lies -/
structure Pa where
  g : Nat
  r : Nat
  kv : Value
  d : Int
  bv : Value
  rv : Value
  ev : Value
  bl : List (QX (List UInt8))
  rl : List (QX Rp)
  el : List (QX (Nat × Rp))
def layA (c : Cl) (p : Pa) : Array Value := #[.int .u64 (c.nonce : Int), .int .i64 (c.win : Int), .int .i64 (c.pat : Int), .pointer (some ⟨p.r, 0, none⟩), p.bv, p.rv, p.ev, .int .u64 (c.tok : Int), .bool c.conn, .bool c.greet, .int .u64 (c.iss : Int), .int .u64 (c.rep : Int), .int .u64 (c.ev : Int), .int .i64 (c.wait : Int), .bool c.over, .int .i64 c.reason]
def layD (c : Cl) (p : Pa) : Array Value := #[.int .u64 (c.nonce : Int), .int .i64 (c.win : Int), .int .i64 (c.pat : Int), .int .u64 (c.tok : Int), .bool c.conn, .bool c.greet, .int .u64 (c.iss : Int), .int .u64 (c.rep : Int), .int .u64 (c.ev : Int), .int .i64 (c.wait : Int), .bool c.over, .int .i64 c.reason, p.bv, p.rv, p.ev, .pointer (some ⟨p.r, 0, none⟩)]
/-- the client's blocks -/
def CF (p : Pa) (k : Nat) : Prop := k = p.g ∨ k = p.r ∨ p.kv.ownBlock = some k ∨ (p.bv.ownBlock = some k ∨ kB.inB p.bl k) ∨ (p.rv.ownBlock = some k ∨ kR.inB p.rl k) ∨ (p.ev.ownBlock = some k ∨ kE.inB p.el k)
/-- the rows of a client -/
structure CR (base : Nat) (w : World) (p : Pa) (c : Cl) : Prop where
  b : RowK kB base w p.bv p.bl
  r : RowK kR base w p.rv p.rl
  e : RowK kE base w p.ev p.el
  bi : p.bl.map (·.1) = c.bodies
  ri : p.rl.map (·.1) = c.reps
  ei : p.el.map (·.1) = c.evs
  ap : ∀ k, kB.inB p.bl k → p.kv.ownBlock ≠ some k
/-- the program's client -/
structure CA (base : Nat) (w : World) (p : Pa) (c : Cl) : Prop where
  blk : Blk w p.g 98 (layA c p)
  rd : Blk w p.r 136 #[.bool true, p.kv, .int .i64 p.d]
  kp : OwnB 5 w base p.kv c.kept
  rows : CR base w p c
  ge : base ≤ p.g ∧ base ≤ p.r
  dr : 0 ≤ p.d
section
variable {base : Nat} {w w' : World} {p : Pa} {c : Cl} {F : Nat → Prop}
theorem CR.lt (h : CR base w p c) {k : Nat} (hk : (p.bv.ownBlock = some k ∨ kB.inB p.bl k) ∨ (p.rv.ownBlock = some k ∨ kR.inB p.rl k) ∨ (p.ev.ownBlock = some k ∨ kE.inB p.el k)) : base ≤ k ∧ k < w.heap.size := by
  rcases hk with hk | hk | hk
  · exact h.b.lt hk
  · exact h.r.lt hk
  · exact h.e.lt hk
theorem CR.keep (h : CR base w p c) (hk : ∀ k, ((p.bv.ownBlock = some k ∨ kB.inB p.bl k) ∨ (p.rv.ownBlock = some k ∨ kR.inB p.rl k) ∨ (p.ev.ownBlock = some k ∨ kE.inB p.el k)) → w'.heap[k]? = w.heap[k]?) : CR base w' p c :=
  ⟨h.b.keep fun k e => hk k (.inl e), h.r.keep fun k e => hk k (.inr (.inl e)), h.e.keep fun k e => hk k (.inr (.inr e)), h.bi, h.ri, h.ei, h.ap⟩
theorem CA.lt (h : CA base w p c) {k : Nat} (hk : CF p k) : base ≤ k ∧ k < w.heap.size := by
  rcases hk with rfl | rfl | hk | hk
  · exact ⟨h.ge.1, h.blk.lt⟩
  · exact ⟨h.ge.2, h.rd.lt⟩
  · exact World.ownsRow.lt h.kp k hk
  · exact h.rows.lt hk
theorem CA.keep (h : CA base w p c) (hk : ∀ k, CF p k → w'.heap[k]? = w.heap[k]?) : CA base w' p c :=
  ⟨(hk _ (.inl rfl)).trans h.blk, (hk _ (.inr (.inl rfl))).trans h.rd, own_same h.kp fun k e => hk k (.inr (.inr (.inl e))), h.rows.keep fun k e => hk k (.inr (.inr (.inr e))), h.ge, h.dr⟩
theorem CA.chg (h : CA base w p c) (hc : Chg F w w') (hn : ∀ k, CF p k → ¬ F k) : CA base w' p c := h.keep fun k hk => hc.block k (h.lt hk).2 (hn k hk)
theorem CA.below (h : CA base w p c) (hb : Below w.heap.size w w') : CA base w' p c := h.keep fun k hk => hb.block k (h.lt hk).2
theorem CA.drewN (h : CA base w p c) (n : Nat) : CA base (w.drewN n) p c := h.keep fun _ _ => rfl
/-- the client's own block is none of the others -/
theorem CA.ne (h : CA base w p c) : p.g ≠ p.r ∧ p.kv.ownBlock ≠ some p.g ∧ ∀ k, ((p.bv.ownBlock = some k ∨ kB.inB p.bl k) ∨ (p.rv.ownBlock = some k ∨ kR.inB p.rl k) ∨ (p.ev.ownBlock = some k ∨ kE.inB p.el k)) → k ≠ p.g ∧ k ≠ p.r := by
  refine ⟨fun e => ?_, fun e => own_blk_ne h.kp h.blk (by decide) e, fun k hk => ?_⟩
  · exact Blk.ne_ h.blk h.rd (by decide) e
  · have key : ∀ {t : TypeId} {s n : Nat} {u : Value} {xs : List Value}, w.ownsRow base t s u n xs → t ≠ 98 → t ≠ 136 → u.ownBlock = some k → k ≠ p.g ∧ k ≠ p.r := fun ho h1 h2 e =>
      ⟨fun e2 => own_blk_ne ho h.blk h1 (by rw [e, e2]), fun e2 => own_blk_ne ho h.rd h2 (by rw [e, e2])⟩
    rcases hk with (e | ⟨q, hq, e⟩) | (e | ⟨q, hq, e⟩) | (e | ⟨q, hq, e⟩)
    · exact key h.rows.b.row (by decide) (by decide) e
    · exact key (h.rows.b.els q hq) (by decide) (by decide) e
    · exact key h.rows.r.row (by decide) (by decide) e
    · exact key (h.rows.r.els q hq) (by decide) (by decide) e
    · exact key h.rows.e.row (by decide) (by decide) e
    · exact key (h.rows.e.els q hq) (by decide) (by decide) e
/-- only the client's own block has turned -/
theorem CA.turn {c' : Cl} (h : CA base w p c) (hb : Blk w' p.g 98 (layA c' p)) (hk : ∀ k, k < w.heap.size → k ≠ p.g → w'.heap[k]? = w.heap[k]?) (h1 : c'.bodies = c.bodies) (h2 : c'.reps = c.reps) (h3 : c'.evs = c.evs) (h4 : c'.kept = c.kept) : CA base w' p c' := by
  obtain ⟨n1, n2, n3⟩ := h.ne
  have hr := h.rows.keep (w' := w') fun k e => hk k (h.rows.lt e).2 (n3 k e).1
  refine ⟨hb, (hk _ h.rd.lt (Ne.symm n1)).trans h.rd, ?_, ⟨hr.b, hr.r, hr.e, by rw [h1]; exact hr.bi, by rw [h2]; exact hr.ri, by rw [h3]; exact hr.ei, hr.ap⟩, h.ge, h.dr⟩
  rw [h4]
  exact own_same h.kp fun k e => hk k (World.ownsRow.lt h.kp k e).2 (fun e2 => n2 (by rw [e, e2]))
end
end Go.Proofs.Ytjhkfpemcplaaaa
