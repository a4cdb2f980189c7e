/-
  Parts Pm, LexC of the proof. No statement of the seat is proved here.
-/
import Derived.Test.YtjhonaglmgmpiaaGreatDoorP02
import Derived.Test.YtjhonaglmgmpiaaGreatDoorP04
import Derived.Test.YtjhonaglmgmpiaaGreatDoorP05
import Derived.Lib.ConvBytes
import Derived.Lib.SmallJoins
import Derived.RegionTactic
import Derived.BigRegion
set_option maxHeartbeats 4000000
namespace Go.Proofs.YtjhonaglmgmpiaaGreatDoor
open Go.RowKit
structure Chg (F : Nat → Prop) (w w' : World) : Prop where
 os : w'.os = w.os
 tape : w'.tape = w.tape
 output : w'.output = w.output
 size : w.heap.size ≤ w'.heap.size
 block : ∀ k, k < w.heap.size → ¬ F k → w'.heap[k]? = w.heap[k]?
section
variable {F G : Nat → Prop} {w w1 w2 w' : World}
theorem Chg.refl (F : Nat → Prop) (w : World) : Chg F w w := ⟨rfl, rfl, rfl, Nat.le_refl _, fun _ _ _ => rfl⟩
theorem Chg.trans (h : Chg F w w1) (k : Chg G w1 w2) (hs : ∀ i, i < w.heap.size → G i → F i) : Chg F w w2 :=
 ⟨k.os.trans h.os, k.tape.trans h.tape, k.output.trans h.output, Nat.le_trans h.size k.size, fun i hi hn => (k.block i (Nat.lt_of_lt_of_le hi h.size) (fun hg => hn (hs i hi hg))).trans (h.block i hi hn)⟩
theorem Chg.of_below (h : Below w.heap.size w w1) (F : Nat → Prop) : Chg F w w1 := ⟨h.os, h.tape, h.output, h.size, fun i hi _ => h.block i hi⟩
theorem Chg.of_grown {row : Option Nat} (h : w.grownBy w1 row) (hF : ∀ k, row = some k → F k) : Chg F w w1 := ⟨h.os, h.tape, h.output, h.size, fun i hi hn => h.block i hi (fun e => hn (hF i e.symm))⟩
theorem Chg.mono (h : Chg F w w1) (hs : ∀ i, i < w.heap.size → F i → G i) : Chg G w w1 := ⟨h.os, h.tape, h.output, h.size, fun i hi hn => h.block i hi (fun hf => hn (hs i hi hf))⟩
theorem Chg.below {B : Nat} (h : Chg F w w1) (hB : B ≤ w.heap.size) (hF : ∀ k, k < B → ¬ F k) : Below B w w1 := ⟨h.os, h.tape, h.output, h.size, fun i hi => h.block i (by omega) (hF i hi)⟩
theorem Chg.alloc (h : Chg F w w1) (o : Obj) : Chg F w (w1.alloc o) := h.trans (Chg.of_below ((Below.refl _ _).alloc (Nat.le_refl _) o) (fun _ => False)) (fun _ _ h => h.elim)
theorem Chg.drew (h : Chg F w w1) : Chg F w w1.drew := ⟨h.os, h.tape, h.output, h.size, h.block⟩
theorem Chg.drewN (h : Chg F w w1) (n : Nat) : Chg F w (w1.drewN n) := ⟨h.os, h.tape, h.output, h.size, h.block⟩
theorem Chg.setCell (h : Chg F w w1) {p : Addr} (hp : p.block < w.heap.size → F p.block) (u : Value) : Chg F w (w1.setCell p u) :=
 ⟨h.os, h.tape, h.output, by simpa [World.setCell] using h.size, fun i hi hn => (Below.heap_setCell w1 p u i (by rintro rfl; exact hn (hp hi))).trans (h.block i hi hn)⟩
theorem Chg.blk {g : Nat} {t : TypeId} {cs : Array Value} (h : Chg F w w1) (hb : Blk w g t cs) (hn : ¬ F g) : Blk w1 g t cs := (h.block g hb.lt hn).trans hb
end
theorem own_same {w w' : World} {base : Nat} {e : TypeId} {size n : Nat} {v : Value} {xs : List Value} (h : w.ownsRow base e size v n xs) (hk : ∀ k, v.ownBlock = some k → w'.heap[k]? = w.heap[k]?) : w'.ownsRow base e size v n xs := by
 refine ⟨h.1, ?_⟩
 rcases h.2 with hn | ⟨g, cap, cur, rfl, hb, hgg, rest⟩
 ·exact .inl hn
 ·exact .inr ⟨g, cap, cur, rfl, hb, (hk g (by simp [Value.ownBlock])).trans hgg, rest⟩
theorem own_chg {F : Nat → Prop} {w w' : World} {base : Nat} {e : TypeId} {size n : Nat} {v : Value} {xs : List Value} (h : w.ownsRow base e size v n xs) (hc : Chg F w w') (hn : ∀ k, v.ownBlock = some k → ¬ F k) : w'.ownsRow base e size v n xs :=
 own_same h fun k hk => hc.block k (h.lt k hk).2 (hn k hk)
theorem own_form {w : World} {base : Nat} {e : TypeId} {size n : Nat} {v : Value} {xs : List Value} (h : w.ownsRow base e size v n xs) : ∃ A c, v = .slice A n c ∧ n ≤ c ∧ c ≤ maxLen := by
 rcases h.2 with ⟨rfl, rfl⟩ | ⟨g, cap, cur, rfl, _, _, hn, hm, _⟩
 ·exact ⟨none, 0, rfl, by omega, by simp⟩
 ·exact ⟨_, cap, rfl, hn, hm⟩
theorem own_low {w : World} {b1 b2 : Nat} {e : TypeId} {size n : Nat} {v : Value} {xs : List Value} (h : w.ownsRow b1 e size v n xs) (hb : b2 ≤ b1) : w.ownsRow b2 e size v n xs := by
 refine ⟨h.1, ?_⟩
 rcases h.2 with hn | ⟨g, cap, cur, rfl, hbb, rest⟩
 ·exact .inl hn
 ·exact .inr ⟨g, cap, cur, rfl, Nat.le_trans hb hbb, rest⟩
theorem cell_of_heap {w w' : World} {p : Addr} (h : w'.heap[p.block]? = w.heap[p.block]?) : w'.cell? p = w.cell? p := World.cell?_of_block h
def ReadsI (w : World) (S : Nat → Prop) (size : Nat) (A : Option Addr) (n : Nat) (xs : List Value) : Prop :=
 xs.length = n * size ∧ (0 < n → ∃ b off, A = some ⟨b, off, none⟩ ∧ S b ∧ b < w.heap.size ∧ ∀ j u, xs[j]? = some u → w.cell? ⟨b, off + j, none⟩ = some u)
section
variable {w w' : World} {S S' : Nat → Prop} {size n : Nat} {A : Option Addr} {xs : List Value}
theorem ReadsI.keep (h : ReadsI w S size A n xs) (hs : w.heap.size ≤ w'.heap.size) (hk : ∀ k, S k → k < w.heap.size → w'.heap[k]? = w.heap[k]?) : ReadsI w' S size A n xs :=
 ⟨h.1, fun hn => by
  obtain ⟨b, off, e, hb, hl, hc⟩ := h.2 hn
  exact ⟨b, off, e, hb, by omega, fun j u hu => (cell_of_heap (hk b hb hl)).trans (hc j u hu)⟩⟩
theorem ReadsI.more (h : ReadsI w S size A n xs) (hS : ∀ k, S k → k < w.heap.size → S' k) : ReadsI w S' size A n xs :=
 ⟨h.1, fun hn => by
  obtain ⟨b, off, e, hb, hl, hc⟩ := h.2 hn
  exact ⟨b, off, e, hS b hb hl, hl, hc⟩⟩
theorem ReadsI.none_ : ReadsI w S size none 0 [] := ⟨by simp, fun h => absurd h (by omega)⟩
theorem ReadsI.of_own {base : Nat} {e : TypeId} {c : Nat} (h : w.ownsRow base e size (.slice A n c) n xs) (hS : ∀ k, (Value.slice A n c).ownBlock = some k → S k) : ReadsI w S size A n xs := by
 refine ⟨h.1, fun hn => ?_⟩
 obtain ⟨g, cap, hv, _, hlt⟩ := h.form hn
 have hA : A = some ⟨g, 0, none⟩ := by injection hv
 subst hA
 refine ⟨g, 0, rfl, hS g (by simp [Value.ownBlock]), hlt, fun j u hu => ?_⟩
 have := h.cells (g := g) rfl j u hu
 have e : (⟨g, 0, none⟩ : Addr).add j = ⟨g, 0 + j, none⟩ := by unfold Addr.add; split <;> simp_all
 rwa [e] at this
end
def ReadsX (w : World) (B size : Nat) (A : Option Addr) (n : Nat) (xs : List Value) : Prop :=
 xs.length = n * size ∧ (0 < n → ∃ b off, A = some ⟨b, off, none⟩ ∧ b < B ∧ ∀ j u, xs[j]? = some u → w.cell? ⟨b, off + j, none⟩ = some u)
theorem ReadsX.keep {w w' : World} {B size n : Nat} {A : Option Addr} {xs : List Value} (h : ReadsX w B size A n xs) (hk : ∀ p : Addr, p.block < B → w'.cell? p = w.cell? p) : ReadsX w' B size A n xs :=
 ⟨h.1, fun hn => by
  obtain ⟨b, off, e, hb, hc⟩ := h.2 hn
  exact ⟨b, off, e, hb, fun j u hu => (hk ⟨b, off + j, none⟩ hb).trans (hc j u hu)⟩⟩
theorem ReadsX.below {w w' : World} {B size n : Nat} {A : Option Addr} {xs : List Value} (h : ReadsX w B size A n xs) (hb : Below B w w') : ReadsX w' B size A n xs := h.keep fun _ hp => hb.cell hp
def sv (x : Lx.Txt) : Value := .string ⟨x.toArray⟩
inductive TrIn (w : World) (S : Nat → Prop) : List Value → Ps.Tr → Prop
 | mk (kind : Nat) (name : Lx.Txt) (names temps : List Lx.Txt) (nodes : List Ps.Tr) (prim place : Nat) (A1 : Option Addr) (c1 : Nat) (A2 : Option Addr) (c2 : Nat) (A3 : Option Addr) (c3 : Nat) (css : List (List Value)) :
   ReadsI w S 1 A1 names.length (names.map sv) → ReadsI w S 1 A2 temps.length (temps.map sv) → css.length = nodes.length → ReadsI w S 7 A3 nodes.length css.flatten → (nodes.length ≤ c3 ∧ nodes.length ≤ maxLen ∧ names.length ≤ maxLen ∧ temps.length ≤ maxLen ∧ names.length ≤ c1 ∧ temps.length ≤ c2) →
   (∀ (i : Nat) (cs' : List Value) (t' : Ps.Tr), css[i]? = some cs' → nodes[i]? = some t' → TrIn w S cs' t') →
   TrIn w S [.int .i64 (kind : Int), .string ⟨name.toArray⟩, .slice A1 names.length c1, .slice A2 temps.length c2, .slice A3 nodes.length c3, .int .i64 (prim : Int), .int .i64 (place : Int)] (.mk kind name names temps nodes prim place)
section
variable {w w' : World} {S S' : Nat → Prop} {cs : List Value} {t : Ps.Tr}
theorem TrIn.len (h : TrIn w S cs t) : cs.length = 7 := by cases h; rfl
theorem TrIn.keep (h : TrIn w S cs t) (hs : w.heap.size ≤ w'.heap.size) (hk : ∀ k, S k → k < w.heap.size → w'.heap[k]? = w.heap[k]?) : TrIn w' S cs t := by
 induction h with
 | mk kind name names temps nodes prim place A1 c1 A2 c2 A3 c3 css h1 h2 hl h3 hc _ ih => exact .mk _ _ _ _ _ _ _ _ _ _ _ _ _ css (h1.keep hs hk) (h2.keep hs hk) hl (h3.keep hs hk) hc ih
theorem TrIn.more (h : TrIn w S cs t) (hS : ∀ k, S k → k < w.heap.size → S' k) : TrIn w S' cs t := by
 induction h with
 | mk kind name names temps nodes prim place A1 c1 A2 c2 A3 c3 css h1 h2 hl h3 hc _ ih => exact .mk _ _ _ _ _ _ _ _ _ _ _ _ _ css (h1.more hS) (h2.more hS) hl (h3.more hS) hc ih
theorem TrIn.leaf (w : World) (S : Nat → Prop) (kind : Nat) (name : Lx.Txt) (place : Nat) : TrIn w S [.int .i64 (kind : Int), .string ⟨name.toArray⟩, .slice none 0 0, .slice none 0 0, .slice none 0 0, .int .i64 0, .int .i64 (place : Int)] (Ps.nd kind name [] place) :=
 .mk kind name [] [] [] 0 place none 0 none 0 none 0 [] .none_ .none_ rfl .none_ ⟨Nat.le_refl _, Nat.zero_le _, Nat.zero_le _, Nat.zero_le _, Nat.zero_le _, Nat.zero_le _⟩ fun i cs' t' h => by cases h
theorem TrIn.zero (w : World) (S : Nat → Prop) : TrIn w S [.int .i64 0, .string ⟨#[]⟩, .slice none 0 0, .slice none 0 0, .slice none 0 0, .int .i64 0, .int .i64 0] Ps.Tr.zero :=
 .mk 0 [] [] [] [] 0 0 none 0 none 0 none 0 [] .none_ .none_ rfl .none_ ⟨Nat.le_refl _, Nat.zero_le _, Nat.zero_le _, Nat.zero_le _, Nat.zero_le _, Nat.zero_le _⟩ fun i cs' t' h => by cases h
theorem TrIn.seven (h : TrIn w S cs t) : ∃ (k : Nat) (nm : Lx.Txt) (A1 : Option Addr) (n1 c1 : Nat) (A2 : Option Addr) (n2 c2 : Nat) (A3 : Option Addr) (n3 c3 : Nat) (p pl : Nat),
  cs = [.int .i64 (k : Int), .string ⟨nm.toArray⟩, .slice A1 n1 c1, .slice A2 n2 c2, .slice A3 n3 c3, .int .i64 (p : Int), .int .i64 (pl : Int)] ∧ t.kind = k ∧ t.name = nm ∧ t.place = pl ∧ t.nodes.length = n3 ∧ n3 ≤ c3 := by
 cases h with
 | mk kind name names temps nodes prim place A1 c1 A2 c2 A3 c3 css h1 h2 hl h3 hc h4 => exact ⟨kind, name, A1, _, c1, A2, _, c2, A3, _, c3, prim, place, rfl, rfl, rfl, rfl, rfl, hc.1⟩
end
def TrM (w : World) (base : Nat) (X : Nat → Prop) (cs : List Value) (t : Ps.Tr) : Prop := TrIn w (fun k => base ≤ k ∧ k < w.heap.size ∧ ¬ X k) cs t
def TsM (w : World) (base : Nat) (X : Nat → Prop) (v : Value) (l : List Ps.Tr) : Prop :=
 ∃ css : List (List Value), css.length = l.length ∧ w.ownsRow base 27 7 v l.length css.flatten ∧ (∀ k, v.ownBlock = some k → ¬ X k) ∧
  ∀ (i : Nat) (cs' : List Value) (t' : Ps.Tr), css[i]? = some cs' → l[i]? = some t' → TrIn w (fun k => base ≤ k ∧ k < w.heap.size ∧ ¬ X k ∧ some k ≠ v.ownBlock) cs' t'
abbrev SsN (w : World) (base : Nat) (v : Value) (l : List Lx.Txt) : Prop := w.ownsRow base 9 1 v l.length (l.map sv)
section
variable {w w' w1 : World} {base b' g : Nat} {X X' : Nat → Prop} {v : Value} {cs : List Value} {t : Ps.Tr} {l : List Ps.Tr} {F : Nat → Prop}
theorem TrM.keep (h : TrM w base X cs t) (hs : w.heap.size ≤ w'.heap.size) (hk : ∀ k, base ≤ k → k < w.heap.size → ¬ X k → w'.heap[k]? = w.heap[k]?) : TrM w' base X cs t :=
 (TrIn.keep h hs fun k hk' hl => hk k hk'.1 hl hk'.2.2).more fun _ hk _ => ⟨hk.1, Nat.lt_of_lt_of_le hk.2.1 hs, hk.2.2⟩
theorem TrM.chg (h : TrM w base X cs t) (hc : Chg F w w') (hF : ∀ k, base ≤ k → k < w.heap.size → ¬ X k → ¬ F k) : TrM w' base X cs t := h.keep hc.size fun k a b c => hc.block k b (hF k a b c)
theorem TrM.call (h : TrM w base X cs t) (hc : Chg (· = g) w w') (hg : g < base) : TrM w' base X cs t := h.chg hc fun k a _ _ e => by omega
theorem TrM.store (h : TrM w base X cs t) (hc : Chg F w w') (hF : ∀ k, F k → X k) : TrM w' base X cs t := h.chg hc fun k _ _ c e => c (hF k e)
theorem TrM.below (h : TrM w base X cs t) (hb : Below w.heap.size w w') : TrM w' base X cs t := h.keep hb.size fun k _ b _ => hb.block k b
theorem TrM.low (h : TrM w base X cs t) (hb : b' ≤ base) : TrM w b' X cs t := TrIn.more h fun _ hk _ => ⟨Nat.le_trans hb hk.1, hk.2⟩
theorem TrM.swap (h : TrM w base X cs t) (hm : ∀ k, base ≤ k → k < w.heap.size → X' k → X k) : TrM w base X' cs t := TrIn.more h fun k hk _ => ⟨hk.1, hk.2.1, fun e => hk.2.2 (hm k hk.1 hk.2.1 e)⟩
theorem TsM.keep (h : TsM w base X v l) (hs : w.heap.size ≤ w'.heap.size) (hk : ∀ k, base ≤ k → k < w.heap.size → ¬ X k → w'.heap[k]? = w.heap[k]?) : TsM w' base X v l := by
 obtain ⟨css, h1, h2, h4, h3⟩ := h
 refine ⟨css, h1, own_same h2 fun k hk' => hk k (h2.lt k hk').1 (h2.lt k hk').2 (h4 k hk'), h4, fun i cs' t' hc' ht' => ?_⟩
 exact ((h3 i cs' t' hc' ht').keep hs fun k hk' hl => hk k hk'.1 hl hk'.2.2.1).more fun _ hk _ => ⟨hk.1, Nat.lt_of_lt_of_le hk.2.1 hs, hk.2.2⟩
theorem TsM.chg (h : TsM w base X v l) (hc : Chg F w w') (hF : ∀ k, base ≤ k → k < w.heap.size → ¬ X k → ¬ F k) : TsM w' base X v l := h.keep hc.size fun k a b c => hc.block k b (hF k a b c)
theorem TsM.call (h : TsM w base X v l) (hc : Chg (· = g) w w') (hg : g < base) : TsM w' base X v l := h.chg hc fun k a _ _ e => by omega
theorem TsM.store (h : TsM w base X v l) (hc : Chg F w w') (hF : ∀ k, F k → X k) : TsM w' base X v l := h.chg hc fun k _ _ c e => c (hF k e)
theorem TsM.below (h : TsM w base X v l) (hb : Below w.heap.size w w') : TsM w' base X v l := h.keep hb.size fun k _ b _ => hb.block k b
theorem TsM.low (h : TsM w base X v l) (hb : b' ≤ base) : TsM w b' X v l := by
 obtain ⟨css, h1, h2, h4, h3⟩ := h
 exact ⟨css, h1, own_low h2 hb, h4, fun i cs' t' hc' ht' => (h3 i cs' t' hc' ht').more fun _ hk _ => ⟨Nat.le_trans hb hk.1, hk.2⟩⟩
theorem TsM.swap (h : TsM w base X v l) (hm : ∀ k, base ≤ k → k < w.heap.size → X' k → X k) : TsM w base X' v l := by
 obtain ⟨css, h1, h2, h4, h3⟩ := h
 exact ⟨css, h1, h2, fun k hk e => h4 k hk (hm k (h2.lt k hk).1 (h2.lt k hk).2 e), fun i cs' t' hc' ht' => (h3 i cs' t' hc' ht').more fun k hk _ => ⟨hk.1, hk.2.1, fun e => hk.2.2.1 (hm k hk.1 hk.2.1 e), hk.2.2.2⟩⟩
theorem TsM.nil (w : World) (base : Nat) (X : Nat → Prop) : TsM w base X (.slice none 0 0) [] := ⟨[], rfl, World.ownsRow_nil _ _ _ _, fun k hk => by simp [Value.ownBlock] at hk, fun i cs' t' h => by cases h⟩
theorem TsM.form (h : TsM w base X v l) : ∃ A c, v = .slice A l.length c ∧ l.length ≤ c ∧ c ≤ maxLen := by
 obtain ⟨css, h1, h2, h4, h3⟩ := h
 exact own_form h2
theorem flat7 {css : List (List Value)} (h : ∀ cs ∈ css, cs.length = 7) : css.flatten.length = css.length * 7 := by
 induction css with
 | nil => rfl
 | cons a r ih =>
  rw [List.flatten_cons, List.length_append, h a (by simp), ih fun c hc => h c (List.mem_cons_of_mem _ hc), List.length_cons]
  omega
theorem TsM.built (w : World) (base : Nat) (X : Nat → Prop) (css : List (List Value)) (l : List Ps.Tr) (hb : base ≤ w.heap.size) (hm' : ¬ X w.heap.size) (hl : css.length = l.length) (hm : l.length ≤ 1000) (h : ∀ (i : Nat) (cs' : List Value) (t' : Ps.Tr), css[i]? = some cs' → l[i]? = some t' → TrM w base X cs' t') :
  TsM (w.alloc (.cells css.flatten.toArray 27)) base X (.slice (some ⟨w.heap.size, 0, none⟩) l.length l.length) l := by
 have h7 : ∀ cs ∈ css, cs.length = 7 := fun cs hcs => by
  obtain ⟨q, hq, rfl⟩ := List.getElem_of_mem hcs
  exact TrIn.len (h q _ _ (List.getElem?_eq_getElem hq) (List.getElem?_eq_getElem (by omega)))
 refine ⟨css, hl, ?_, fun k e => ?_, fun i cs' t' hc ht => ?_⟩
 ·have := World.ownsRow_lit (base := base) (e := 27) (size := 7) w css.flatten.toArray l.length hb (by simp only [maxLen]; omega) (by simp only [List.size_toArray]; rw [flat7 h7, hl])
  simpa using this
 ·simp only [Value.ownBlock, Option.some.injEq] at e
  subst e
  exact hm'
 ·refine ((TrIn.keep (h i cs' t' hc ht) (by simp) fun k _ hk => Below.heap_alloc w _ k hk).more fun k hk hlt => ⟨hk.1, by have := hk.2.1; simp; omega, hk.2.2, fun e => ?_⟩)
  simp only [Value.ownBlock, Option.some.injEq] at e
  have := hk.2.1
  omega
theorem TsM.one (h : TrM w base X cs t) (hb : base ≤ w.heap.size) (hm : ¬ X w.heap.size) : TsM (w.alloc (.cells cs.toArray 27)) base X (.slice (some ⟨w.heap.size, 0, none⟩) 1 1) [t] := by
 have := TsM.built w base X [cs] [t] hb hm rfl (by simp) fun i cs' t' hc ht => by
  cases i with
  | zero => simp only [List.getElem?_cons_zero, Option.some.injEq] at hc ht; subst hc ht; exact h
  | succ i => simp at hc
 simpa using this
theorem TsM.two {cs2 : List Value} {t2 : Ps.Tr} (h : TrM w base X cs t) (h2 : TrM w base X cs2 t2) (hb : base ≤ w.heap.size) (hm : ¬ X w.heap.size) : TsM (w.alloc (.cells (cs ++ cs2).toArray 27)) base X (.slice (some ⟨w.heap.size, 0, none⟩) 2 2) [t, t2] := by
 have := TsM.built w base X [cs, cs2] [t, t2] hb hm rfl (by simp) fun i cs' t' hc ht => by
  match i with
  | 0 => simp only [List.getElem?_cons_zero, Option.some.injEq] at hc ht; subst hc ht; exact h
  | 1 => simp only [List.getElem?_cons_succ, List.getElem?_cons_zero, Option.some.injEq] at hc ht; subst hc ht; exact h2
  | i + 2 => simp at hc
 simpa using this
theorem TsM.snoc {v' : Value} {o : Obj} {css : List (List Value)} (h1 : css.length = l.length) (h4 : ∀ k, v.ownBlock = some k → ¬ X k)
  (h3 : ∀ (i : Nat) (cs' : List Value) (t' : Ps.Tr), css[i]? = some cs' → l[i]? = some t' → TrIn w (fun k => base ≤ k ∧ k < w.heap.size ∧ ¬ X k ∧ some k ≠ v.ownBlock) cs' t') (hm : ¬ X (w.heap.size + 1))
  (ht : TrIn w (fun k => base ≤ k ∧ k < w.heap.size ∧ ¬ X k ∧ some k ≠ v.ownBlock) cs t) (ho : w1.ownsRow base 27 7 v' (l.length + 1) (css.flatten ++ cs)) (hg : (w.alloc o).grownBy w1 v.ownBlock) (hv : v'.ownBlock = v.ownBlock ∨ v'.ownBlock = some (w.heap.size + 1)) :
  TsM w1 base X v' (l ++ [t]) := by
 have hsz : w.heap.size + 1 ≤ w1.heap.size := by simpa using hg.size
 have old : ∀ q, q < w.heap.size → some q ≠ v.ownBlock → w1.heap[q]? = w.heap[q]? := fun q hq hn => (hg.block q (by simp; omega) hn).trans (Below.heap_alloc w o q hq)
 have key : ∀ cs t, TrIn w (fun k => base ≤ k ∧ k < w.heap.size ∧ ¬ X k ∧ some k ≠ v.ownBlock) cs t → TrIn w1 (fun k => base ≤ k ∧ k < w1.heap.size ∧ ¬ X k ∧ some k ≠ v'.ownBlock) cs t := fun cs t hN => by
  refine (hN.keep (by omega) fun k hk hl => old k hl hk.2.2.2).more fun k hk _ => ⟨hk.1, by have := hk.2.1; omega, hk.2.2.1, ?_⟩
  rcases hv with e | e
  ·rw [e]; exact hk.2.2.2
  ·rw [e]; intro e2; injection e2 with e2; have := hk.2.1; omega
 refine ⟨css ++ [cs], by simp [h1], ?_, ?_, fun i cs' t' hc ht' => ?_⟩
 ·rw [List.flatten_append, List.flatten_cons, List.flatten_nil, List.append_nil, List.length_append]
  exact ho
 ·intro k hk
  rcases hv with e | e
  ·exact h4 k (by rw [← e]; exact hk)
  ·rw [e] at hk; injection hk with hk; subst hk; exact hm
 ·rcases Nat.lt_or_ge i l.length with hi | hi
  ·rw [List.getElem?_append_left (by omega)] at hc
   rw [List.getElem?_append_left hi] at ht'
   exact key _ _ (h3 i cs' t' hc ht')
  ·rw [List.getElem?_append_right (by omega), h1] at hc
   rw [List.getElem?_append_right hi] at ht'
   have h0 : i - l.length = 0 := by
    rcases Nat.eq_zero_or_pos (i - l.length) with e | e
    ·exact e
    ·rw [List.getElem?_eq_none (by simp; omega)] at hc; cases hc
   rw [h0] at hc ht'
   simp only [List.getElem?_cons_zero, Option.some.injEq] at hc ht'
   subst hc ht'
   exact key _ _ ht
theorem TrM.node {A1 A2 A3 : Option Addr} {c1 c2 c3 : Nat} {names temps : List Lx.Txt} (kind : Nat) (name : Lx.Txt) (prim place : Nat) (h1 : SsN w base (.slice A1 names.length c1) names) (h1m : ∀ k, (Value.slice A1 names.length c1).ownBlock = some k → ¬ X k) (h2 : SsN w base (.slice A2 temps.length c2) temps) (h2m : ∀ k, (Value.slice A2 temps.length c2).ownBlock = some k → ¬ X k) (h3 : TsM w base X (.slice A3 l.length c3) l) :
  TrM w base X [.int .i64 (kind : Int), .string ⟨name.toArray⟩, .slice A1 names.length c1, .slice A2 temps.length c2, .slice A3 l.length c3, .int .i64 (prim : Int), .int .i64 (place : Int)] (.mk kind name names temps l prim place) := by
 obtain ⟨css, k1, k2, k4, k3⟩ := h3
 obtain ⟨_, _, e, hc, hc2⟩ := own_form k2
 injection e with _ _ e
 obtain ⟨_, _, e1, ha, hb⟩ := own_form h1
 injection e1 with _ _ e1
 obtain ⟨_, _, e2, ha', hb'⟩ := own_form h2
 injection e2 with _ _ e2
 refine .mk kind name names temps l prim place A1 c1 A2 c2 A3 c3 css (ReadsI.of_own h1 fun k hk => ⟨(h1.lt k hk).1, (h1.lt k hk).2, h1m k hk⟩) (ReadsI.of_own h2 fun k hk => ⟨(h2.lt k hk).1, (h2.lt k hk).2, h2m k hk⟩) k1 (ReadsI.of_own k2 fun k hk => ⟨(k2.lt k hk).1, (k2.lt k hk).2, k4 k hk⟩) ⟨by omega, by omega, by omega, by omega, by omega, by omega⟩ fun i cs' t' hc' ht' => ?_
 exact (k3 i cs' t' hc' ht').more fun k hk _ => ⟨hk.1, hk.2.1, hk.2.2.1⟩
theorem TrM.nd {A3 : Option Addr} {c3 : Nat} (kind : Nat) (name : Lx.Txt) (place : Nat) (h3 : TsM w base X (.slice A3 l.length c3) l) :
  TrM w base X [.int .i64 (kind : Int), .string ⟨name.toArray⟩, .slice none 0 0, .slice none 0 0, .slice A3 l.length c3, .int .i64 0, .int .i64 (place : Int)] (Ps.nd kind name l place) :=
 TrM.node (names := []) (temps := []) kind name 0 place (World.ownsRow_nil _ _ _ _) (fun k hk => by simp [Value.ownBlock] at hk) (World.ownsRow_nil _ _ _ _) (fun k hk => by simp [Value.ownBlock] at hk) h3
theorem SsN.nil (w : World) (base : Nat) : SsN w base (.slice none 0 0) [] := World.ownsRow_nil _ _ _ _
theorem TrM.leaf (w : World) (base : Nat) (X : Nat → Prop) (kind : Nat) (name : Lx.Txt) (place : Nat) : TrM w base X [.int .i64 (kind : Int), .string ⟨name.toArray⟩, .slice none 0 0, .slice none 0 0, .slice none 0 0, .int .i64 0, .int .i64 (place : Int)] (Ps.nd kind name [] place) := TrIn.leaf _ _ _ _ _
theorem TrM.zero (w : World) (base : Nat) (X : Nat → Prop) : TrM w base X [.int .i64 0, .string ⟨#[]⟩, .slice none 0 0, .slice none 0 0, .slice none 0 0, .int .i64 0, .int .i64 0] Ps.Tr.zero := TrIn.zero _ _
end
theorem set_alloc (w : World) (o : Obj) (k i : Nat) (u : Value) (hk : k < w.heap.size) : (w.alloc o).setCell ⟨k, i, none⟩ u = (w.setCell ⟨k, i, none⟩ u).alloc o := by
 unfold World.setCell World.alloc
 simp only [World.mk.injEq, and_true]
 apply Array.ext_getElem?
 intro j
 rw [Array.getElem?_modify, Array.getElem?_push, Array.getElem?_push, Array.size_modify, Array.getElem?_modify]
 by_cases hj : j = w.heap.size
 ·subst hj
  rw [if_pos rfl, if_neg (by omega), if_pos rfl]
 ·rw [if_neg hj, if_neg hj]
theorem Blk.set3 {w : World} {k : Nat} {t : TypeId} {x0 x1 x2 : Value} (h : Blk w k t #[x0, x1, x2]) (y0 y1 y2 : Value) :
  Blk (((w.setCell ⟨k, 0, none⟩ y0).setCell ⟨k, 1, none⟩ y1).setCell ⟨k, 2, none⟩ y2) k t #[y0, y1, y2] := ((h.set_ 0 y0).set_ 1 y1).set_ 2 y2
theorem Blk.set7 {w : World} {k : Nat} {t : TypeId} {x0 x1 x2 x3 x4 x5 x6 : Value} (h : Blk w k t #[x0, x1, x2, x3, x4, x5, x6]) (y0 y1 y2 y3 y4 y5 y6 : Value) :
  Blk (((((((w.setCell ⟨k, 0, none⟩ y0).setCell ⟨k, 1, none⟩ y1).setCell ⟨k, 2, none⟩ y2).setCell ⟨k, 3, none⟩ y3).setCell ⟨k, 4, none⟩ y4).setCell ⟨k, 5, none⟩ y5).setCell ⟨k, 6, none⟩ y6) k t #[y0, y1, y2, y3, y4, y5, y6] := by
 have h := ((((((h.set_ 0 y0).set_ 1 y1).set_ 2 y2).set_ 3 y3).set_ 4 y4).set_ 5 y5).set_ 6 y6
 simpa only [List.setIfInBounds_toArray, List.set_cons_zero, List.set_cons_succ] using h
theorem set7_alloc (w : World) (o : Obj) (k : Nat) (y0 y1 y2 y3 y4 y5 y6 : Value) (hk : k < w.heap.size) :
  (((((((w.setCell ⟨k, 0, none⟩ y0).setCell ⟨k, 1, none⟩ y1).setCell ⟨k, 2, none⟩ y2).setCell ⟨k, 3, none⟩ y3).setCell ⟨k, 4, none⟩ y4).setCell ⟨k, 5, none⟩ y5).setCell ⟨k, 6, none⟩ y6).alloc o =
  ((((((((w.alloc o).setCell ⟨k, 0, none⟩ y0).setCell ⟨k, 1, none⟩ y1).setCell ⟨k, 2, none⟩ y2).setCell ⟨k, 3, none⟩ y3).setCell ⟨k, 4, none⟩ y4).setCell ⟨k, 5, none⟩ y5).setCell ⟨k, 6, none⟩ y6) := by
 have hs : ∀ (w : World) (i : Nat) (u : Value), (w.setCell ⟨k, i, none⟩ u).heap.size = w.heap.size := fun w i u => by simp [World.setCell]
 rw [set_alloc w o k 0 y0 hk, set_alloc _ o k 1 y1 (by rw [hs]; exact hk), set_alloc _ o k 2 y2 (by rw [hs, hs]; exact hk), set_alloc _ o k 3 y3 (by rw [hs, hs, hs]; exact hk), set_alloc _ o k 4 y4 (by rw [hs, hs, hs, hs]; exact hk), set_alloc _ o k 5 y5 (by rw [hs, hs, hs, hs, hs]; exact hk), set_alloc _ o k 6 y6 (by rw [hs, hs, hs, hs, hs, hs]; exact hk)]
theorem chg_set (w : World) (k i : Nat) (u : Value) : Chg (· = k) w (w.setCell ⟨k, i, none⟩ u) := Chg.setCell (F := (· = k)) (Chg.refl _ w) (p := ⟨k, i, none⟩) (fun _ => rfl) u
theorem chg_set3 (w : World) (k : Nat) (y0 y1 y2 : Value) : Chg (· = k) w (((w.setCell ⟨k, 0, none⟩ y0).setCell ⟨k, 1, none⟩ y1).setCell ⟨k, 2, none⟩ y2) :=
 ((chg_set w k 0 y0).setCell (p := ⟨k, 1, none⟩) (fun _ => rfl) _).setCell (p := ⟨k, 2, none⟩) (fun _ => rfl) _
theorem chg_set7 (w : World) (k : Nat) (y0 y1 y2 y3 y4 y5 y6 : Value) : Chg (· = k) w (((((((w.setCell ⟨k, 0, none⟩ y0).setCell ⟨k, 1, none⟩ y1).setCell ⟨k, 2, none⟩ y2).setCell ⟨k, 3, none⟩ y3).setCell ⟨k, 4, none⟩ y4).setCell ⟨k, 5, none⟩ y5).setCell ⟨k, 6, none⟩ y6) :=
 ((((chg_set3 w k y0 y1 y2).setCell (p := ⟨k, 3, none⟩) (fun _ => rfl) _).setCell (p := ⟨k, 4, none⟩) (fun _ => rfl) _).setCell (p := ⟨k, 5, none⟩) (fun _ => rfl) _).setCell (p := ⟨k, 6, none⟩) (fun _ => rfl) _
def FltAt (w : World) (v : Value) : Option (Nat × Nat) → Prop
 | none => v = .pointer none
 | some x => ∃ k, v = .pointer (some ⟨k, 0, none⟩) ∧ Blk w k 122 #[.int .i64 (x.1 : Int), .int .i64 (x.2 : Int)]
structure PA (w : World) (g : Nat) (A : Option Addr) (c : Nat) (T : List Lx.Tk) (fin : Nat) (s : Ps.PS) : Prop where
 ex : ∃ fv, Blk w g 72 #[.slice A T.length c, .int .i64 (s.at_ : Int), .int .i64 (fin : Int), .int .i64 s.deep, fv] ∧ FltAt w fv s.fault
 tk : ReadsX w g 3 A T.length (tksC T)
section
variable {w w' : World} {g c fin : Nat} {A : Option Addr} {T : List Lx.Tk} {s : Ps.PS}
theorem FltAt.below {v : Value} {x : Option (Nat × Nat)} (h : FltAt w v x) (hb : Below w.heap.size w w') : FltAt w' v x := by
 cases x with
 | none => exact h
 | some x => obtain ⟨k, e, h⟩ := h; exact ⟨k, e, h.below hb h.lt⟩
theorem PA.lt (h : PA w g A c T fin s) : g < w.heap.size := by obtain ⟨fv, hb, _⟩ := h.ex; exact hb.lt
theorem PA.below (h : PA w g A c T fin s) (hb : Below w.heap.size w w') : PA w' g A c T fin s := by
 have hg := h.lt
 obtain ⟨⟨fv, h1, h2⟩, h3⟩ := h
 exact ⟨⟨fv, h1.below hb hg, h2.below hb⟩, h3.below (hb.mono (by omega))⟩
theorem PA.alloc (h : PA w g A c T fin s) (o : Obj) : PA (w.alloc o) g A c T fin s := h.below ((Below.refl _ _).alloc (Nat.le_refl _) o)
theorem PA.drew (h : PA w g A c T fin s) : PA w.drew g A c T fin s := h.below (Below.refl _ _).drew
theorem PA.drewN (h : PA w g A c T fin s) (n : Nat) : PA (w.drewN n) g A c T fin s := h.below (below_drewN (Below.refl _ _) n)
theorem PA.far (h : PA w g A c T fin s) {k : Nat} (hk : g < k) {t : TypeId} {cs : Array Value} (hb : Blk w k t cs) (ht : t ≠ 122) (i : Nat) (u : Value) : PA (w.setCell ⟨k, i, none⟩ u) g A c T fin s := by
 obtain ⟨⟨fv, h1, h2⟩, h3⟩ := h
 refine ⟨⟨fv, h1.far (p := ⟨k, i, none⟩) (by dsimp only; omega) u, ?_⟩, h3.keep fun p hp => World.cell?_setCell_other w _ p u (fun e => by subst e; dsimp only at hp; omega)⟩
 cases hs : s.fault with
 | none => rw [hs] at h2; exact h2
 | some x =>
  rw [hs] at h2
  obtain ⟨q, e, h2⟩ := h2
  exact ⟨q, e, h2.far (p := ⟨k, i, none⟩) (Blk.ne_ h2 hb (Ne.symm ht)) u⟩
theorem PA.cells (h : PA w g A c T fin s) : w.cell? ⟨g, 0, none⟩ = some (.slice A T.length c) ∧ w.cell? ⟨g, 1, none⟩ = some (.int .i64 (s.at_ : Int)) ∧ w.cell? ⟨g, 2, none⟩ = some (.int .i64 (fin : Int)) ∧ w.cell? ⟨g, 3, none⟩ = some (.int .i64 s.deep) := by
 obtain ⟨fv, hb, _⟩ := h.ex
 exact ⟨hb.cell 0, hb.cell 1, hb.cell 2, hb.cell 3⟩
theorem PA.okc (h : PA w g A c T fin s) (hk : Ps.ok s = true) : w.cell? ⟨g, 4, none⟩ = some (.pointer none) := by
 obtain ⟨fv, hb, hf⟩ := h.ex
 have e : s.fault = none := by unfold Ps.ok at hk; cases hs : s.fault with | none => rfl | some x => rw [hs] at hk; cases hk
 rw [e] at hf
 rw [hb.cell 4]
 show some fv = _
 rw [show fv = .pointer none from hf]
theorem PA.noc (h : PA w g A c T fin s) (hk : Ps.ok s = false) : ∃ k, w.cell? ⟨g, 4, none⟩ = some (.pointer (some ⟨k, 0, none⟩)) := by
 obtain ⟨fv, hb, hf⟩ := h.ex
 cases hs : s.fault with
 | none => unfold Ps.ok at hk; rw [hs] at hk; cases hk
 | some x =>
  rw [hs] at hf
  obtain ⟨k, e, _⟩ := hf
  exact ⟨k, by rw [hb.cell 4]; show some fv = _; rw [e]⟩
theorem PA.frz (h : PA w g A c T fin s) (i : Nat) : w.frozen? ⟨g, i, none⟩ = false := by
 obtain ⟨fv, hb, _⟩ := h.ex
 exact hb.frozen i
theorem FltAt.set {v : Value} {x : Option (Nat × Nat)} (h : FltAt w v x) {cs : Array Value} (hb : Blk w g 72 cs) (i : Nat) (u : Value) : FltAt (w.setCell ⟨g, i, none⟩ u) v x := by
 cases x with
 | none => exact h
 | some x => obtain ⟨k, e, h⟩ := h; exact ⟨k, e, h.far (p := ⟨g, i, none⟩) (Blk.ne_ h hb (by decide)) u⟩
theorem PA.setAt (h : PA w g A c T fin s) (n : Nat) (z : Int) (hz : z = n) : PA (w.setCell ⟨g, 1, none⟩ (.int .i64 z)) g A c T fin { s with at_ := n } := by
 subst hz
 obtain ⟨⟨fv, h1, h2⟩, h3⟩ := h
 exact ⟨⟨fv, h1.set_ 1 _, h2.set h1 1 _⟩, h3.keep fun p hp => World.cell?_setCell_other w _ p _ (fun e => by subst e; dsimp only at hp; omega)⟩
theorem PA.setDeep (h : PA w g A c T fin s) (d : Int) : PA (w.setCell ⟨g, 3, none⟩ (.int .i64 d)) g A c T fin { s with deep := d } := by
 obtain ⟨⟨fv, h1, h2⟩, h3⟩ := h
 exact ⟨⟨fv, h1.set_ 3 _, h2.set h1 3 _⟩, h3.keep fun p hp => World.cell?_setCell_other w _ p _ (fun e => by subst e; dsimp only at hp; omega)⟩
theorem tks_at {T : List Lx.Tk} {i : Nat} {t : Lx.Tk} (h : T[i]? = some t) (j : Nat) (hj : j < 3) : (tksC T)[i * 3 + j]? = (tkC t)[j]? := by
 unfold tksC
 induction T generalizing i with
 | nil => simp at h
 | cons a l ih =>
  rw [List.flatMap_cons]
  have ha : (tkC a).length = 3 := rfl
  cases i with
  | zero =>
   obtain rfl : a = t := by simpa using h
   rw [Nat.zero_mul, Nat.zero_add, List.getElem?_append_left (by omega)]
  | succ i =>
   rw [List.getElem?_append_right (by rw [ha]; omega), ha, show (i + 1) * 3 + j - 3 = i * 3 + j by omega]
   exact ih (by simpa using h)
theorem PA.tok (h : PA w g A c T fin s) {i : Nat} (hi : i < T.length) : ∃ b off, A = some ⟨b, off, none⟩ ∧ b < g ∧ b < w.heap.size ∧
  w.cell? ⟨b, off + i * 3, none⟩ = some (.int .i64 ((T.getD i (0, [], fin)).1 : Int)) ∧ w.cell? ⟨b, off + i * 3 + 1, none⟩ = some (.string ⟨(T.getD i (0, [], fin)).2.1.toArray⟩) ∧ w.cell? ⟨b, off + i * 3 + 2, none⟩ = some (.int .i64 ((T.getD i (0, [], fin)).2.2 : Int)) := by
 have hg := h.lt
 obtain ⟨b, off, e, hb, hc⟩ := h.tk.2 (by omega)
 have ht : T[i]? = some (T.getD i (0, [], fin)) := by rw [List.getD_eq_getElem?_getD, List.getElem?_eq_getElem hi]; rfl
 generalize T.getD i (0, [], fin) = t at ht ⊢
 refine ⟨b, off, e, hb, by omega, ?_, ?_, ?_⟩
 ·exact hc (i * 3) _ (tks_at ht 0 (by omega))
 ·exact hc (i * 3 + 1) _ (tks_at ht 1 (by omega))
 ·exact hc (i * 3 + 2) _ (tks_at ht 2 (by omega))
end
theorem PA.grown {w w' : World} {g c fin : Nat} {A : Option Addr} {T : List Lx.Tk} {s : Ps.PS} (h : PA w g A c T fin s) {base size n : Nat} {e : TypeId} {v : Value} {xs : List Value} (ho : w.ownsRow base e size v n xs) (he : e ≠ 122) (hgb : g < base) (hg : w.grownBy w' v.ownBlock) : PA w' g A c T fin s := by
 have hlt := h.lt
 obtain ⟨⟨fv, h1, h2⟩, h3⟩ := h
 have far : ∀ k, k ≤ g → some k ≠ v.ownBlock := fun k hk e => by have := (ho.lt k e.symm).1; omega
 refine ⟨⟨fv, h1.grown hg (far g (Nat.le_refl _)), ?_⟩, h3.keep fun p hp => cell_of_heap (hg.block _ (by omega) (far _ (by omega)))⟩
 cases hs : s.fault with
 | none => rw [hs] at h2; exact h2
 | some x =>
  rw [hs] at h2
  obtain ⟨q, e2, h2⟩ := h2
  exact ⟨q, e2, h2.grown hg (fun e3 => own_blk_ne ho h2 he e3.symm)⟩
def PP (w : World) (g : Nat) (A : Option Addr) (c : Nat) (T : List Lx.Tk) (fin : Nat) (s : Ps.PS) (w' : World) : Prop := Chg (· = g) w w' ∧ PA w' g A c T fin s
structure Lc where
 k : Nat
 t : TypeId
 cs : List Value
structure Env (w : World) (g : Nat) (A : Option Addr) (c : Nat) (T : List Lx.Tk) (fin : Nat) (s : Ps.PS) (L : List Lc) (W : World) : Prop where
 chg : Chg (· = g) w W
 pa : PA W g A c T fin s
 gl : g < w.heap.size
 loc : ∀ (i : Nat) (x : Lc), L[i]? = some x → w.heap.size ≤ x.k ∧ x.t ≠ 122 ∧ Blk W x.k x.t x.cs.toArray
 nd : ∀ (i j : Nat) (x y : Lc), L[i]? = some x → L[j]? = some y → i ≠ j → x.k ≠ y.k
namespace Env
variable {w W W' : World} {g c fin : Nat} {A : Option Addr} {T : List Lx.Tk} {s s' : Ps.PS} {L : List Lc}
theorem start (h : PA w g A c T fin s) : Env w g A c T fin s [] w := ⟨Chg.refl _ _, h, h.lt, fun _ _ h => by simp at h, fun _ _ _ _ h => by simp at h⟩
theorem size (h : Env w g A c T fin s L W) : w.heap.size ≤ W.heap.size := h.chg.size
theorem pp (h : Env w g A c T fin s L W) : PP w g A c T fin s W := ⟨h.chg, h.pa⟩
theorem keep (h : Env w g A c T fin s L W) (hc : Chg (· = g) W W') (hp : PA W' g A c T fin s') : Env w g A c T fin s' L W' :=
 ⟨h.chg.trans hc (fun _ _ e => e), hp, h.gl, fun i x hx => ⟨(h.loc i x hx).1, (h.loc i x hx).2.1, hc.blk (h.loc i x hx).2.2 (by have := (h.loc i x hx).1; have := h.gl; omega)⟩, h.nd⟩
theorem call (h : Env w g A c T fin s L W) (hp : PP W g A c T fin s' W') : Env w g A c T fin s' L W' := h.keep hp.1 hp.2
theorem below (h : Env w g A c T fin s L W) (hb : Below W.heap.size W W') : Env w g A c T fin s L W' := h.keep (Chg.of_below hb _) (h.pa.below hb)
theorem drew (h : Env w g A c T fin s L W) : Env w g A c T fin s L W.drew := h.below (Below.refl _ _).drew
theorem drewN (h : Env w g A c T fin s L W) (n : Nat) : Env w g A c T fin s L (W.drewN n) := h.below (below_drewN (Below.refl _ _) n)
theorem alloc (h : Env w g A c T fin s L W) (o : Obj) : Env w g A c T fin s L (W.alloc o) := h.below ((Below.refl _ _).alloc (Nat.le_refl _) o)
theorem box (h : Env w g A c T fin s L W) (t : TypeId) (cs : List Value) (ht : t ≠ 122) : Env w g A c T fin s (⟨W.heap.size, t, cs⟩ :: L) (W.alloc (.cells cs.toArray t)) := by
 have h' := h.alloc (.cells cs.toArray t)
 have hlt : ∀ (i : Nat) (x : Lc), L[i]? = some x → x.k < W.heap.size := fun i x hx => (h.loc i x hx).2.2.lt
 refine ⟨h'.chg, h'.pa, h'.gl, fun i x hx => ?_, fun i j x y hx hy hij => ?_⟩
 ·cases i with
  | zero =>
   simp only [List.getElem?_cons_zero, Option.some.injEq] at hx
   subst hx
   exact ⟨h.size, ht, Blk.new W t _⟩
  | succ i => exact h'.loc i x (by simpa using hx)
 ·match i, j, hij with
  | 0, 0, hij => exact absurd rfl hij
  | 0, j + 1, _ =>
   simp only [List.getElem?_cons_zero, List.getElem?_cons_succ, Option.some.injEq] at hx hy
   subst hx
   have := hlt _ _ hy
   dsimp only
   omega
  | i + 1, 0, _ =>
   simp only [List.getElem?_cons_zero, List.getElem?_cons_succ, Option.some.injEq] at hx hy
   subst hy
   have := hlt _ _ hx
   dsimp only
   omega
  | i + 1, j + 1, hij =>
   simp only [List.getElem?_cons_succ] at hx hy
   exact h.nd i j x y hx hy (by omega)
theorem boxk (h : Env w g A c T fin s L W) (k : Nat) (hk : W.heap.size = k) (t : TypeId) (cs : List Value) (ht : t ≠ 122) : Env w g A c T fin s (⟨k, t, cs⟩ :: L) (W.alloc (.cells cs.toArray t)) := by
 subst hk
 exact h.box t cs ht
theorem upd (i : Nat) {k : Nat} {t : TypeId} {cs cs' : List Value} (h : Env w g A c T fin s L W) (hi : L[i]? = some ⟨k, t, cs⟩) (hc : Chg (· = k) W W') (hb : Blk W' k t cs'.toArray) : Env w g A c T fin s (L.set i ⟨k, t, cs'⟩) W' := by
 obtain ⟨h1, h2, h3⟩ := h.loc i _ hi
 have hil := (List.getElem?_eq_some_iff.1 hi).1
 have hlk := h3.lt
 have hgl := h.gl
 dsimp only at h1 h2 h3 hlk
 have hgk : g ≠ k := by omega
 have old : ∀ (j : Nat) (x : Lc), (L.set i ⟨k, t, cs'⟩)[j]? = some x → (j = i ∧ x = ⟨k, t, cs'⟩) ∨ (j ≠ i ∧ L[j]? = some x) := fun j x hx => by
  rw [List.getElem?_set] at hx
  by_cases e : i = j
  ·rw [if_pos e, if_pos hil] at hx
   exact .inl ⟨e.symm, (Option.some.inj hx).symm⟩
  ·rw [if_neg e] at hx
   exact .inr ⟨fun e2 => e e2.symm, hx⟩
 refine ⟨h.chg.trans hc (fun j hj e => by omega), ?_, hgl, fun j x hx => ?_, fun j q x y hx hy hjq => ?_⟩
 ·obtain ⟨⟨fv, p1, p2⟩, p3⟩ := h.pa
  have hgW := p1.lt
  refine ⟨⟨fv, hc.blk p1 hgk, ?_⟩, ⟨p3.1, fun hn => ?_⟩⟩
  ·cases hs : s.fault with
   | none => rw [hs] at p2; exact p2
   | some x =>
    rw [hs] at p2
    obtain ⟨q, e, p2⟩ := p2
    exact ⟨q, e, hc.blk p2 (Blk.ne_ p2 h3 (Ne.symm h2))⟩
  ·obtain ⟨b, off, e, hb', hcl⟩ := p3.2 hn
   exact ⟨b, off, e, hb', fun j u hu => (cell_of_heap (hc.block b (by omega) (by omega))).trans (hcl j u hu)⟩
 ·rcases old j x hx with ⟨_, rfl⟩ | ⟨hj, hx⟩
  ·exact ⟨h1, h2, hb⟩
  ·exact ⟨(h.loc j x hx).1, (h.loc j x hx).2.1, hc.blk (h.loc j x hx).2.2 (h.nd j i x _ hx hi hj)⟩
 ·rcases old j x hx with ⟨e1, rfl⟩ | ⟨e1, hx⟩
  ·rcases old q y hy with ⟨e2, rfl⟩ | ⟨e2, hy⟩
   ·exact absurd (e1.trans e2.symm) hjq
   ·exact h.nd i q ⟨k, t, cs⟩ y hi hy (Ne.symm e2)
  ·rcases old q y hy with ⟨e2, rfl⟩ | ⟨e2, hy⟩
   ·exact h.nd j i x ⟨k, t, cs⟩ hx hi e1
   ·exact h.nd j q x y hx hy hjq
theorem row (h : Env w g A c T fin s L W) {v : Value} (hc : Chg (fun k => k = g ∨ v.ownBlock = some k) W W') (hp : PA W' g A c T fin s') (hv : ∀ k, v.ownBlock = some k → w.heap.size ≤ k ∧ ∀ (i : Nat) (x : Lc), L[i]? = some x → x.k ≠ k) : Env w g A c T fin s' L W' :=
 ⟨h.chg.trans hc (fun i hi e => by
  rcases e with e | e
  ·exact e
  ·have := (hv i e).1; omega), hp, h.gl, fun i x hx => ⟨(h.loc i x hx).1, (h.loc i x hx).2.1, hc.blk (h.loc i x hx).2.2 (fun e => by
  rcases e with e | e
  ·have := (h.loc i x hx).1; have := h.gl; omega
  ·exact (hv _ e).2 i x hx rfl)⟩, h.nd⟩
theorem setAt (h : Env w g A c T fin s L W) (n : Nat) (z : Int) (hz : z = n) : Env w g A c T fin { s with at_ := n } L (W.setCell ⟨g, 1, none⟩ (.int .i64 z)) := h.keep (chg_set _ _ _ _) (h.pa.setAt n z hz)
theorem setDeep (h : Env w g A c T fin s L W) (d : Int) : Env w g A c T fin { s with deep := d } L (W.setCell ⟨g, 3, none⟩ (.int .i64 d)) := h.keep (chg_set _ _ _ _) (h.pa.setDeep d)
theorem flt (h : Env w g A c T fin s L W) (p e : Nat) : Env w g A c T fin { s with fault := some (p, e) } L ((W.setCell ⟨g, 4, none⟩ (.pointer (some ⟨W.heap.size, 0, none⟩))).alloc (.cells #[.int .i64 (p : Int), .int .i64 (e : Int)] 122)) := by
 refine h.keep ((chg_set _ _ _ _).alloc _) ?_
 have hg := h.pa.lt
 obtain ⟨⟨fv, h1, h2⟩, h3⟩ := h.pa
 have hs : (W.setCell ⟨g, 4, none⟩ (.pointer (some ⟨W.heap.size, 0, none⟩))).heap.size = W.heap.size := by simp [World.setCell]
 refine ⟨⟨_, (h1.set_ 4 (.pointer (some ⟨W.heap.size, 0, none⟩))).alloc _, W.heap.size, rfl, ?_⟩, ?_⟩
 ·have := Blk.new (W.setCell ⟨g, 4, none⟩ (.pointer (some ⟨W.heap.size, 0, none⟩))) 122 #[.int .i64 (p : Int), .int .i64 (e : Int)]
  rwa [hs] at this
 ·have h4 : ReadsX (W.setCell ⟨g, 4, none⟩ (.pointer (some ⟨W.heap.size, 0, none⟩))) g 3 A T.length (tksC T) := h3.keep fun p hp => World.cell?_setCell_other W _ p _ (fun e => by subst e; dsimp only at hp; omega)
  exact h4.below ((Below.refl _ _).alloc (by rw [hs]; omega) _)
theorem blk (h : Env w g A c T fin s L W) (i : Nat) {k : Nat} {t : TypeId} {cs : List Value} (hi : L[i]? = some ⟨k, t, cs⟩) : Blk W k t cs.toArray := (h.loc i _ hi).2.2
theorem lo (h : Env w g A c T fin s L W) (i : Nat) {k : Nat} {t : TypeId} {cs : List Value} (hi : L[i]? = some ⟨k, t, cs⟩) : w.heap.size ≤ k := (h.loc i _ hi).1
theorem c3 (h : Env w g A c T fin s L W) (i : Nat) {k : Nat} {t : TypeId} {x y z : Value} (hi : L[i]? = some ⟨k, t, [x, y, z]⟩) : k < W.heap.size ∧ W.cell? ⟨k, 0, none⟩ = some x ∧ W.cell? ⟨k, 1, none⟩ = some y ∧ W.cell? ⟨k, 2, none⟩ = some z :=
 ⟨(h.blk i hi).lt, (h.blk i hi).cell 0, (h.blk i hi).cell 1, (h.blk i hi).cell 2⟩
theorem c7 (h : Env w g A c T fin s L W) (i : Nat) {k : Nat} {t : TypeId} {x0 x1 x2 x3 x4 x5 x6 : Value} (hi : L[i]? = some ⟨k, t, [x0, x1, x2, x3, x4, x5, x6]⟩) :
  k < W.heap.size ∧ W.cell? ⟨k, 0, none⟩ = some x0 ∧ W.cell? ⟨k, 1, none⟩ = some x1 ∧ W.cell? ⟨k, 2, none⟩ = some x2 ∧ W.cell? ⟨k, 3, none⟩ = some x3 ∧ W.cell? ⟨k, 4, none⟩ = some x4 ∧ W.cell? ⟨k, 5, none⟩ = some x5 ∧ W.cell? ⟨k, 6, none⟩ = some x6 :=
 ⟨(h.blk i hi).lt, (h.blk i hi).cell 0, (h.blk i hi).cell 1, (h.blk i hi).cell 2, (h.blk i hi).cell 3, (h.blk i hi).cell 4, (h.blk i hi).cell 5, (h.blk i hi).cell 6⟩
theorem fz (h : Env w g A c T fin s L W) (i : Nat) {k : Nat} {t : TypeId} {cs : List Value} (hi : L[i]? = some ⟨k, t, cs⟩) (j : Nat) : W.frozen? ⟨k, j, none⟩ = false := (h.blk i hi).frozen j
theorem put3 (h : Env w g A c T fin s L W) (i : Nat) {k : Nat} {t : TypeId} {x0 x1 x2 : Value} (hi : L[i]? = some ⟨k, t, [x0, x1, x2]⟩) (y0 y1 y2 : Value) : Env w g A c T fin s (L.set i ⟨k, t, [y0, y1, y2]⟩) (((W.setCell ⟨k, 0, none⟩ y0).setCell ⟨k, 1, none⟩ y1).setCell ⟨k, 2, none⟩ y2) :=
 h.upd i hi (chg_set3 _ _ _ _ _) ((h.blk i hi).set3 y0 y1 y2)
theorem put7 (h : Env w g A c T fin s L W) (i : Nat) {k : Nat} {t : TypeId} {x0 x1 x2 x3 x4 x5 x6 : Value} (hi : L[i]? = some ⟨k, t, [x0, x1, x2, x3, x4, x5, x6]⟩) (y0 y1 y2 y3 y4 y5 y6 : Value) :
  Env w g A c T fin s (L.set i ⟨k, t, [y0, y1, y2, y3, y4, y5, y6]⟩) (((((((W.setCell ⟨k, 0, none⟩ y0).setCell ⟨k, 1, none⟩ y1).setCell ⟨k, 2, none⟩ y2).setCell ⟨k, 3, none⟩ y3).setCell ⟨k, 4, none⟩ y4).setCell ⟨k, 5, none⟩ y5).setCell ⟨k, 6, none⟩ y6) :=
 h.upd i hi (chg_set7 _ _ _ _ _ _ _ _ _) ((h.blk i hi).set7 y0 y1 y2 y3 y4 y5 y6)
theorem put (h : Env w g A c T fin s L W) (i : Nat) {k : Nat} {t : TypeId} {cs : List Value} (hi : L[i]? = some ⟨k, t, cs⟩) (j : Nat) (u : Value) : Env w g A c T fin s (L.set i ⟨k, t, cs.set j u⟩) (W.setCell ⟨k, j, none⟩ u) :=
 h.upd i hi (chg_set _ _ _ _) (by have := (h.blk i hi).set_ j u; simpa using this)
end Env
set_option maxRecDepth 20000 in
theorem cap_any (x : UInt8) (w : World) : Calls Tryz.prog 133 #[.int .u8 (x.toNat : Int)] w fun e w' => e = .returned (.bool (Lx.capB x)) ∧ w = w' := by
 have h1 := x.toNat_lt
 by_cases h2 : 65 ≤ x.toNat
 ·have h3 : (65 : Int) ≤ (x.toNat : Int) := by omega
  have HE : Hid (Lx.capB x = decide ((x.toNat : Int) ≤ 90)) := Hd (by unfold Lx.capB; rw [Bool.eq_iff_iff]; simp; omega)
  go_enter Tryz.func133, Tryz.ntmps133
  go_wp2
  go_ret
  exact ⟨ret_bool (by rw [HE.out]), rfl⟩
 ·have h3 : ¬ (65 : Int) ≤ (x.toNat : Int) := by omega
  have HE : Hid (Lx.capB x = false) := Hd (by unfold Lx.capB; simp; omega)
  go_enter Tryz.func133, Tryz.ntmps133
  go_wp2
  go_ret
  exact ⟨ret_bool (by rw [HE.out]), rfl⟩
def revK (bs : List UInt8) (k : Nat) : List UInt8 := (List.range bs.length).map fun i => if i < k ∨ bs.length - k ≤ i then bs.getD (bs.length - 1 - i) 0 else bs.getD i 0
theorem revK_len (bs : List UInt8) (k : Nat) : (revK bs k).length = bs.length := by simp [revK]
theorem revK_get (bs : List UInt8) (k i : Nat) (h : i < bs.length) : (revK bs k)[i]? = some (if i < k ∨ bs.length - k ≤ i then bs.getD (bs.length - 1 - i) 0 else bs.getD i 0) := by
 simp [revK, h]
theorem getD_get (bs : List UInt8) (i : Nat) (h : i < bs.length) : bs[i]? = some (bs.getD i 0) := by
 rw [List.getD, List.getElem?_eq_getElem h]; rfl
theorem revK_zero (bs : List UInt8) : revK bs 0 = bs := by
 apply List.ext_getElem?
 intro i
 rcases Nat.lt_or_ge i bs.length with h | h
 ·rw [revK_get bs 0 i h, if_neg (by omega), getD_get bs i h]
 ·rw [List.getElem?_eq_none (by rw [revK_len]; exact h), List.getElem?_eq_none h]
theorem revK_all (bs : List UInt8) (k : Nat) (h : bs.length ≤ 2 * k + 1) (hk : k ≤ bs.length) : revK bs k = bs.reverse := by
 apply List.ext_getElem?
 intro i
 rcases Nat.lt_or_ge i bs.length with h1 | h1
 ·rw [revK_get bs k i h1, List.getElem?_reverse h1, getD_get bs _ (by omega)]
  split
  ·rfl
  ·have : bs.length - 1 - i = i := by omega
   rw [this]
 ·rw [List.getElem?_eq_none (by rw [revK_len]; exact h1), List.getElem?_eq_none (by simpa using h1)]
theorem revK_step (bs : List UInt8) (k : Nat) (h : 2 * k + 1 < bs.length) :
  ((revK bs k).set k ((revK bs k).getD (bs.length - 1 - k) 0)).set (bs.length - 1 - k) ((revK bs k).getD k 0) = revK bs (k + 1) := by
 have g1 : (revK bs k).getD (bs.length - 1 - k) 0 = bs.getD (bs.length - 1 - k) 0 := by
  rw [List.getD, revK_get bs k _ (by omega), if_neg (by omega)]; rfl
 have g2 : (revK bs k).getD k 0 = bs.getD k 0 := by
  rw [List.getD, revK_get bs k _ (by omega), if_neg (by omega)]; rfl
 rw [g1, g2]
 apply List.ext_getElem?
 intro i
 rcases Nat.lt_or_ge i bs.length with h1 | h1
 ·rw [List.getElem?_set, List.getElem?_set, revK_get bs k i h1, revK_get bs (k + 1) i h1]
  simp only [List.length_set, revK_len]
  by_cases e1 : bs.length - 1 - k = i
  ·subst e1
   rw [if_pos rfl, if_pos (by omega), if_pos (by omega)]
   have : bs.length - 1 - (bs.length - 1 - k) = k := by omega
   rw [this]
  ·rw [if_neg e1]
   by_cases e2 : k = i
   ·subst e2
    rw [if_pos rfl, if_pos (by omega), if_pos (by omega)]
   ·rw [if_neg e2]
    by_cases e3 : i < k ∨ bs.length - k ≤ i
    ·rw [if_pos e3, if_pos (by omega)]
    ·rw [if_neg e3, if_neg (by omega)]
 ·rw [List.getElem?_eq_none (by simp [revK_len]; omega), List.getElem?_eq_none (by rw [revK_len]; exact h1)]
theorem map_set_bv (bs : List UInt8) (i : Nat) (x : UInt8) : (bs.set i x).map bv = (bs.map bv).set i (bv x) := by
 simp
theorem OwnB.stored {w : World} {base g c : Nat} {bs : List UInt8} (h : OwnB 5 w base (.slice (some ⟨g, 0, none⟩) bs.length c) bs) (i : Nat) (x : UInt8) :
  OwnB 5 (w.setCell ⟨g, i, none⟩ (bv x)) base (.slice (some ⟨g, 0, none⟩) (bs.set i x).length c) (bs.set i x) := by
 have h1 := (World.ownsRow.stored h i (bv x)).1
 show World.ownsRow _ _ _ _ _ (bs.set i x).length ((bs.set i x).map bv)
 rw [map_set_bv, List.length_set]
 exact h1
theorem OwnB.at_ {w : World} {base g c : Nat} {bs : List UInt8} (h : OwnB 5 w base (.slice (some ⟨g, 0, none⟩) bs.length c) bs) {i : Nat} (hi : i < bs.length) :
  w.cell? ⟨g, i, none⟩ = some (.int .u8 ((bs.getD i 0).toNat : Int)) ∧ w.frozen? ⟨g, i, none⟩ = false := by
 refine ⟨?_, World.ownsRow.frozenAt h i⟩
 rw [World.ownsRow.cellAt h i (by omega), List.getElem?_map, getD_get bs i hi]
 rfl
theorem rev_store {w : World} {base g c k m : Nat} {bs : List UInt8} (h : OwnB 5 w base (.slice (some ⟨g, 0, none⟩) bs.length c) (revK bs k)) (hm : m + k + 1 = bs.length) (hk : k < m) :
  OwnB 5 ((w.setCell ⟨g, k, none⟩ (.int .u8 (((revK bs k).getD m 0).toNat : Int))).setCell ⟨g, m, none⟩ (.int .u8 (((revK bs k).getD k 0).toNat : Int))) base (.slice (some ⟨g, 0, none⟩) bs.length c) (revK bs (k + 1)) := by
 have h0 : OwnB 5 w base (.slice (some ⟨g, 0, none⟩) (revK bs k).length c) (revK bs k) := by rw [revK_len]; exact h
 have h2 := OwnB.stored (OwnB.stored h0 k ((revK bs k).getD m 0)) m ((revK bs k).getD k 0)
 have hs := revK_step bs k (by omega)
 have e : bs.length - 1 - k = m := by omega
 rw [e] at hs
 rw [hs, revK_len] at h2
 exact h2
set_option maxRecDepth 20000 in
theorem rev_any (base g c : Nat) (bs : List UInt8) (w : World) (h : OwnB 5 w base (.slice (some ⟨g, 0, none⟩) bs.length c) bs) (h0 : 0 < bs.length) (hl : bs.length ≤ 1000000) :
  Calls Tryz.prog 168 #[.slice (some ⟨g, 0, none⟩) bs.length c] w fun e w' => e = .returned (.tuple #[]) ∧ OwnB 5 w' base (.slice (some ⟨g, 0, none⟩) bs.length c) bs.reverse ∧ w.grownBy w' (some g) := by
 have H := Hd h
 clear h
 go_enter Tryz.func168, Tryz.ntmps168
 go_wp2
 go_loopw [2, 3] (fun i j wr => ∃ k m : Nat, i = .int .i64 k ∧ j = .int .i64 m ∧ m + k + 1 = bs.length ∧ k ≤ m + 1 ∧ OwnB 5 wr base (.slice (some ⟨g, 0, none⟩) bs.length c) (revK bs k) ∧ w.grownBy wr (some g)) (fun i _ _ => bs.length - (intOf i).toNat)
 case atStart => exact ⟨0, bs.length - 1, rfl, by rw [show ((bs.length - 1 : Nat) : Int) = (bs.length : Int) - 1 from by omega], by omega, by omega, by rw [revK_zero]; exact H.out, World.grownBy.refl _ _⟩
 case round =>
  obtain ⟨k, m, rfl, rfl, hm, hk, hown, hgr⟩ := hrel
  have HO := Hd hown
  have HG := Hd hgr
  have hO2 : OwnB 5 wr base (.slice (some ⟨g, 0, none⟩) (revK bs k).length c) (revK bs k) := by rw [revK_len]; exact hown
  have HM := Hd hm
  by_cases hlt : k < m
  ·obtain ⟨c1, f1⟩ := hO2.at_ (i := k) (by rw [revK_len]; omega)
   obtain ⟨c2, f2⟩ := hO2.at_ (i := m) (by rw [revK_len]; omega)
   have l1 : k < bs.length := by omega
   have l2 : m < bs.length := by omega
   have HS := Hd (rev_store hown hm hlt)
   clear hown hgr hO2 hm
   go_wp2
   go_region
   all_goals
    go_wp2
    go_roundw
    case rel => exact ⟨k + 1, m - 1, by go_num, by rw [show ((m - 1 : Nat) : Int) = (m : Int) - 1 from by omega], by have := HM.out; omega, by omega, HS.out, only_drew (only_setCell (p := ⟨g, m, none⟩) (only_setCell (p := ⟨g, k, none⟩) HG.out (.inl rfl) _) (.inl rfl) _)⟩
    case measure => simp [intOf]; omega
  ·have HE : Hid (revK bs k = bs.reverse) := Hd (revK_all bs k (by omega) (by omega))
   clear hown hgr hO2 hm
   go_wp2
   go_end0
   exact ⟨rfl, by rw [← HE.out]; exact HO.out, HG.out⟩
end Go.Proofs.YtjhonaglmgmpiaaGreatDoor
