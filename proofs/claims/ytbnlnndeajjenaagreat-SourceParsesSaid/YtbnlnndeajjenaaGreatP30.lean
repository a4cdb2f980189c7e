/-
  Parts RsC, PsU, PxP of the proof. No statement of the seat is proved here.
-/
import Derived.Test.YtbnlnndeajjenaaGreatP10
import Derived.Test.YtbnlnndeajjenaaGreatP04
import Derived.Test.YtbnlnndeajjenaaGreatP28
import Derived.Test.YtbnlnndeajjenaaGreatP15
set_option maxHeartbeats 4000000
namespace Go.Proofs.YtbnlnndeajjenaaGreat
namespace Rs
open Lx Ps
def K5 (t : Tr) (s : RS) : Prop := t.kind = 5 → 1 ≤ t.nodes.length ∧ t.nodes.length ≤ s.at_ + 1
section
variable {T : List Tk} {fin : Nat}
theorem K5.no {t : Tr} {s : RS} (h : t.kind ≠ 5) : K5 t s := fun e => absurd e h
theorem K5.nd {k : Nat} {n : Txt} {l : List Tr} {p : Nat} {s : RS} (h : k ≠ 5) : K5 (Ps.nd k n l p) s := K5.no h
theorem K5.up {t : Tr} {s s' : RS} (h : K5 t s) (hl : s.at_ ≤ s'.at_) : K5 t s' := fun e => by
 have := h e
 omega
theorem K5.five {n : Txt} {l : List Tr} {p : Nat} {s : RS} (h1 : 1 ≤ l.length) (h2 : l.length ≤ s.at_ + 1) : K5 (Ps.nd 5 n l p) s := fun _ => ⟨h1, h2⟩
theorem k5_unaL : ∀ (f : Nat) (n : Tr) (s : RS), K5 n s → K5 (unaL (toks T fin) f n s).1 (unaL (toks T fin) f n s).2
 | 0, n, s, h => h
 | f + 1, n, s, h => by
  unfold unaL
  split
  ·exact k5_unaL f _ _ (K5.five (by simp) (by simp))
  ·exact h
structure K5All (T : List Tk) (fin f : Nat) : Prop where
 expr : ∀ s, s.at_ ≤ T.length → K5 (expr (toks T fin) f s).1 (expr (toks T fin) f s).2
 keyL : ∀ n l s, s.at_ ≤ T.length → 1 ≤ l.length → l.length ≤ s.at_ + 1 → 1 ≤ (keyL (toks T fin) f n l s).2.1.length ∧ (keyL (toks T fin) f n l s).2.1.length ≤ (keyL (toks T fin) f n l s).2.2.at_ + 1
 keyw : ∀ s, s.at_ ≤ T.length → K5 (keyw (toks T fin) f s).1 (keyw (toks T fin) f s).2
 bins : ∀ s, s.at_ ≤ T.length → K5 (bins (toks T fin) f s).1 (bins (toks T fin) f s).2
 binL_ : ∀ n s, s.at_ ≤ T.length → K5 n s → K5 (binL_ (toks T fin) f n s).1 (binL_ (toks T fin) f n s).2
 unary : ∀ s, s.at_ ≤ T.length → K5 (unary (toks T fin) f s).1 (unary (toks T fin) f s).2
 prim : ∀ s, s.at_ ≤ T.length → K5 (prim (toks T fin) f s).1 (prim (toks T fin) f s).2
 arr : ∀ s, K5 (arr (toks T fin) f s).1 (arr (toks T fin) f s).2
 blk : ∀ s, K5 (blk (toks T fin) f s).1 (blk (toks T fin) f s).2
theorem k5z (s : RS) : K5 Tr.zero s := K5.no (by decide)
theorem k5All : ∀ f, K5All T fin f
 | 0 => by
  constructor
  ·intro s _; unfold Rs.expr; exact k5z _
  ·intro n l s _ h1 h2; unfold Rs.keyL; exact ⟨h1, h2⟩
  ·intro s _; unfold Rs.keyw; exact k5z _
  ·intro s _; unfold Rs.bins; exact k5z _
  ·intro n s _ h; unfold Rs.binL_; exact h
  ·intro s _; unfold Rs.unary; exact k5z _
  ·intro s _; unfold Rs.prim; exact k5z _
  ·intro s; unfold Rs.arr; exact k5z _
  ·intro s; unfold Rs.blk; exact k5z _
 | f + 1 => by
  have ih := k5All f
  have mv := mvAll (T := T) (fin := fin) f
  constructor
  ·intro s hs
   unfold Rs.expr
   dsimp only
   split
   ·exact K5.nd (by decide)
   ·split
    ·exact ih.keyw s hs
    ·split
     ·exact ih.keyw s hs
     ·exact K5.nd (by decide)
  ·intro n l s hs h1 h2
   unfold Rs.keyL
   split
   ·rename_i h
    have hlt := is_lt (by decide) h
    have m := mv.bins (adv s) hlt
    have ha := m.at_ hlt
    have e : (adv s).at_ = s.at_ + 1 := rfl
    exact ih.keyL _ _ _ ha.2 (by simp) (by simp only [List.length_append, List.length_singleton]; omega)
   ·exact ⟨h1, h2⟩
  ·intro s hs
   unfold Rs.keyw
   dsimp only
   split
   ·exact ih.bins s hs
   ·have m := mv.bins s hs
    have := ih.keyL [] [(bins (toks T fin) f s).1] (bins (toks T fin) f s).2 (m.at_ hs).2 (by simp) (by simp)
    exact K5.five this.1 this.2
  ·intro s hs
   unfold Rs.bins
   exact ih.binL_ _ _ ((mv.unary s hs).at_ hs).2 (ih.unary s hs)
  ·intro n s hs h
   unfold Rs.binL_
   dsimp only
   split
   ·rename_i hb
    have hlt := (bin_lt hb).1
    have ha := (mv.unary (adv s) hlt).at_ hlt
    have e : (adv s).at_ = s.at_ + 1 := rfl
    exact ih.binL_ _ _ ha.2 (K5.five (by simp) (by simp; omega))
   ·exact h
  ·intro s hs
   unfold Rs.unary
   exact k5_unaL _ _ _ (ih.prim s hs)
  ·intro s hs
   unfold Rs.prim
   dsimp only
   split
   ·exact k5z _
   ·split
    ·exact K5.nd (by decide)
    ·split
     ·unfold number; split <;> exact K5.nd (by decide)
     ·split
      ·exact K5.nd (by decide)
      ·split
       ·exact K5.nd (by decide)
       ·split
        ·exact ih.arr s
        ·split
         ·exact K5.nd (by decide)
         ·split
          ·rename_i h
           have hlt := is_lt (by decide) h
           have ho := opn_le (fin := fin) hlt
           have ha := (mv.expr _ ho).at_ ho
           exact (ih.expr _ ho).up ((mv_take (T := T) (fin := fin) (k := 7) (by decide) [41] _).at_ ha.2).1
          ·split
           ·exact K5.nd (by decide)
           ·split
            ·exact ih.blk s
            ·exact k5z _
  ·intro s
   unfold Rs.arr
   exact K5.nd (by decide)
  ·intro s
   unfold Rs.blk
   exact K5.no (by show (2 : Nat) ≠ 5; decide)
end
end Rs
namespace Ps
variable {T : List Lx.Tk} {fin : Nat}
def K5 (t : Tr) : Prop := t.kind = 5 → t.nodes ≠ []
theorem k5_nd {k : Nat} {nm : Lx.Txt} {l : List Tr} {p : Nat} (h : k ≠ 5 ∨ l ≠ []) : K5 (nd k nm l p) := fun e => h.elim (fun h => absurd e h) id
theorem k5_zero : K5 Tr.zero := fun e => by cases e
theorem k5_unaL : ∀ (f : Nat) (n : Tr) (s : PS), K5 n → K5 (unaL T fin f n s).1
 | 0, _, _, h => h
 | f + 1, n, s, h => by
  rw [unaL]
  split
  ·exact k5_unaL f _ _ (k5_nd (.inr (by simp)))
  ·exact h
theorem k5_binL : ∀ (f : Nat) (n : Tr) (s : PS), K5 n → K5 (binL_ T fin f n s).1
 | 0, _, _, h => by rw [binL_]; exact h
 | f + 1, n, s, h => by
  rw [binL_]
  split
  ·exact k5_binL f _ _ (k5_nd (.inr (by simp)))
  ·exact h
theorem keyL_ne : ∀ (f : Nat) (m : Lx.Txt) (l : List Tr) (s : PS), l ≠ [] → (keyL T fin f m l s).2.1 ≠ []
 | 0, _, _, _, h => by rw [keyL]; exact h
 | f + 1, m, l, s, h => by
  rw [keyL]
  split
  ·exact keyL_ne f _ _ _ (by simp)
  ·exact h
theorem k5_keyw (f : Nat) (n : Tr) (s : PS) (h : K5 n) : K5 (keyw T fin f n s).1 := by
 cases f with
 | zero => rw [keyw]; exact h
 | succ f =>
  rw [keyw]
  split
  ·exact h
  ·exact k5_nd (.inr (keyL_ne f [] [n] s (by simp)))
theorem k5_k (f : Nat) (s : PS) (h : K5 (prim T fin f s).1) : K5 (keyw T fin f (binL_ T fin f (unaL T fin (T.length + 2) (prim T fin f s).1 (prim T fin f s).2).1 (unaL T fin (T.length + 2) (prim T fin f s).1 (prim T fin f s).2).2).1 (binL_ T fin f (unaL T fin (T.length + 2) (prim T fin f s).1 (prim T fin f s).2).1 (unaL T fin (T.length + 2) (prim T fin f s).1 (prim T fin f s).2).2).2).1 :=
 k5_keyw (T := T) (fin := fin) f _ _ (k5_binL (T := T) (fin := fin) f _ _ (k5_unaL (T := T) (fin := fin) (T.length + 2) _ _ h))
theorem k5_simple {s : PS} {n : Tr} (h : (simple T fin s).1 = some n) : K5 n := by
 unfold simple at h
 dsimp only at h
 repeat' (split at h)
 all_goals first
  | (injection h with h; subst h; exact k5_nd (.inl (by decide)))
  | cases h
theorem k5_arr (f : Nat) (s : PS) : K5 (arr T fin f s).1 := by
 cases f with
 | zero => rw [arr]; exact k5_zero
 | succ f => rw [arr]; exact k5_nd (.inl (by decide))
theorem k5_blk (f : Nat) (s : PS) : K5 (blk T fin f s).1 := by
 cases f with
 | zero => rw [blk]; exact k5_zero
 | succ f => rw [blk]; exact fun e => by cases e
theorem k5_all : ∀ f, (∀ s, K5 (expr T fin f s).1) ∧ (∀ s, K5 (prim T fin f s).1)
 | 0 => ⟨fun s => by rw [expr]; exact k5_zero, fun s => by rw [prim]; exact k5_zero⟩
 | f + 1 => by
  obtain ⟨he, hp⟩ := k5_all f
  refine ⟨fun s => ?_, fun s => ?_⟩
  ·rw [expr]
   dsimp only
   have hk := k5_k f s (hp s)
   split
   ·split
    ·exact k5_zero
    ·exact k5_nd (.inl (by decide))
   ·split
    ·exact hk
    ·split
     ·exact k5_zero
     ·exact k5_nd (.inl (by decide))
  ·rw [prim]
   dsimp only
   split
   ·exact k5_zero
   ·split
    ·rename_i n hn
     exact k5_simple hn
    ·split
     ·exact k5_nd (.inl (by decide))
     ·split
      ·exact k5_arr f s
      ·split
       ·exact k5_nd (.inl (by decide))
       ·split
        ·exact he _
        ·split
         ·exact k5_nd (.inl (by decide))
         ·split
          ·exact k5_blk f s
          ·exact k5_zero
theorem sent_ne {f : Nat} {s : PS} {a : Tr} {k : Tr × PS} (hk : keyw T fin f (binL_ T fin f (unaL T fin (T.length + 2) (prim T fin f s).1 (prim T fin f s).2).1 (unaL T fin (T.length + 2) (prim T fin f s).1 (prim T fin f s).2).2).1 (binL_ T fin f (unaL T fin (T.length + 2) (prim T fin f s).1 (prim T fin f s).2).1 (unaL T fin (T.length + 2) (prim T fin f s).1 (prim T fin f s).2).2).2 = k) (h : sent a k.1 = true) : k.1.nodes ≠ [] := by
 have h5 : k.1.kind = 5 := by
  unfold sent at h
  simp only [Bool.and_eq_true, beq_iff_eq] at h
  exact h.1
 have := k5_k f s ((k5_all (T := T) (fin := fin) f).2 s)
 rw [hk] at this
 exact this h5
end Ps
end Go.Proofs.YtbnlnndeajjenaaGreat
namespace Go.Proofs.YtbnlnndeajjenaaGreat
open Go.RowKit
theorem TrIn.parts {w : World} {S : Nat → Prop} {k p pl : Nat} {nm : Lx.Txt} {A1 A2 A3 : Option Addr} {n1 c1 n2 c2 n3 c3 : Nat} {t : Ps.Tr} (h : TrIn w S [.int .i64 (k : Int), .string ⟨nm.toArray⟩, .slice A1 n1 c1, .slice A2 n2 c2, .slice A3 n3 c3, .int .i64 (p : Int), .int .i64 (pl : Int)] t) (hne : t.nodes ≠ []) :
  0 < n3 ∧ n3 ≤ c3 ∧ ∃ (b off : Nat) (x0 x1 x2 x3 x4 x5 x6 : Value), A3 = some ⟨b, off, none⟩ ∧ S b ∧ b < w.heap.size ∧
   w.cell? ⟨b, off, none⟩ = some x0 ∧ w.cell? ⟨b, off + 1, none⟩ = some x1 ∧ w.cell? ⟨b, off + 2, none⟩ = some x2 ∧ w.cell? ⟨b, off + 3, none⟩ = some x3 ∧ w.cell? ⟨b, off + 4, none⟩ = some x4 ∧ w.cell? ⟨b, off + 5, none⟩ = some x5 ∧ w.cell? ⟨b, off + 6, none⟩ = some x6 ∧
   TrIn w S [x0, x1, x2, x3, x4, x5, x6] (t.nodes.headD Ps.Tr.zero) ∧
   ∀ (A' : Option Addr) (c' : Nat), (1 < n3 → A' = some ⟨b, off + 7, none⟩) → n3 - 1 ≤ c' → TrIn w S [.int .i64 7, .string ⟨t.name.toArray⟩, .slice none 0 0, .slice none 0 0, .slice A' (n3 - 1) c', .int .i64 0, .int .i64 (t.place : Int)] (Ps.nd 7 t.name t.nodes.tail t.place) := by
 cases h with
 | mk kind name names temps nodes prim place _ _ _ _ _ _ css h1 h2 hl h3 hc ih =>
  cases nodes with
  | nil => exact absurd rfl hne
  | cons y l =>
   cases css with
   | nil => simp at hl
   | cons cs css =>
    have hy := ih 0 cs y rfl rfl
    have h7 := hy.len
    obtain ⟨hlen, hcell⟩ := h3
    obtain ⟨b, off, e, hS, hb, hcl⟩ := hcell (by simp)
    have hcs : ∀ j u, cs[j]? = some u → w.cell? ⟨b, off + j, none⟩ = some u := fun j u hu => hcl j u (by rw [List.flatten_cons, List.getElem?_append_left (List.getElem?_eq_some_iff.1 hu).1]; exact hu)
    have hlc : css.length = l.length := by simpa using hl
    match cs, h7 with
    | [x0, x1, x2, x3, x4, x5, x6], _ =>
     refine ⟨by simp, hc.1, b, off, x0, x1, x2, x3, x4, x5, x6, e, hS, hb, hcs 0 x0 rfl, hcs 1 x1 rfl, hcs 2 x2 rfl, hcs 3 x3 rfl, hcs 4 x4 rfl, hcs 5 x5 rfl, hcs 6 x6 rfl, hy, fun A' c' hA hc' => ?_⟩
     have e1 : (y :: l).length - 1 = l.length := by simp
     rw [e1] at hc' ⊢
     refine TrIn.mk 7 _ [] [] l 0 _ none 0 none 0 A' c' css .none_ .none_ hlc ⟨?_, fun hn => ?_⟩ ⟨hc', by have := hc.2.1; simp only [List.length_cons] at this; omega, Nat.zero_le _, Nat.zero_le _⟩ fun i cs' t' hi ht => ih (i + 1) cs' t' (by simpa using hi) (by simpa using ht)
     ·rw [List.flatten_cons, List.length_append, List.length_cons] at hlen
      simp only [List.length_cons, List.length_nil] at hlen
      omega
     ·refine ⟨b, off + 7, hA (by simp; omega), hS, hb, fun j u hu => ?_⟩
      rw [Nat.add_assoc]
      exact hcl (7 + j) u (by rw [List.flatten_cons, List.getElem?_append_right (by simp)]; simpa using hu)
end Go.Proofs.YtbnlnndeajjenaaGreat
