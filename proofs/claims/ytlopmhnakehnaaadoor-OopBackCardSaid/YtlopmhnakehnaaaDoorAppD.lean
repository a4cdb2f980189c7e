/-
  append to a slice whose capacity is its length: a new block.
-/
import Derived.Test.YtlopmhnakehnaaaDoorUnq
namespace Go.Proofs.YtlopmhnakehnaaaDoor
open Go.RowKit

theorem appD_run (A : Option Addr) (n B8 : Nat) (w : World) (hd : OwnD w B8 A n) (hn : n ≤ 262140) (ad : Addr) (c : Nat) (u : Value) (hu : w.cell? ad = some u) (ty : TypeId) :
    ∃ v' w' xs, (Builtin.append_ #[53, 53] ty #[.slice A n n, .slice (some ad) 1 c]).run Tryd.prog w = .ok v' w' ∧ w'.ownsRow w.heap.size 5 1 v' (n + 1) xs ∧ Below w.heap.size w w' := by
  obtain ⟨i, hi, hz, hs, hby⟩ := info_parts info5
  have hnews : ∀ j v, [u][j]? = some v → w.cell? (ad.add j) = some v := by
    intro j v h
    cases j with
    | zero =>
      simp at h
      subst h
      have : ad.add 0 = ad := by unfold Addr.add; split <;> simp_all
      rw [this]
      exact hu
    | succ j => simp at h
  rcases hd with ⟨rfl, rfl⟩ | ⟨g, cur, rfl, _, hb, hm⟩
  · refine ⟨_, _, [u], run_append_nil (P := Tryd.prog) (w := w) 53 ty 5 i _ Tryd.underlying53 hi hz ad 1 c [u] (by rw [hs]; rfl) hnews (by decide) (by decide) (by rw [hby]; decide), ?_, ?_⟩
    · refine ⟨rfl, .inr ⟨_, _, _, rfl, Nat.le_refl _, heap_alloc_new _ _, grownCap_ge _ _ _ _, ?_, ?_, ?_⟩⟩
      · exact grownCap_le_maxLen _ _ _ _ (by decide)
      · have h1 : (Value.int IntKind.u8 0).cells.size = 1 := rfl
        have := grownCap_ge w 1 0 5
        simp [size_zeroCells, h1]
        omega
      · simp
    · exact (Below.refl _ _).drew.alloc (Nat.le_refl _) _
  · have holds : ∀ j v, (cur.toList.take n)[j]? = some v → w.cell? ((⟨g, 0, none⟩ : Addr).add j) = some v := by
      intro j v h
      have e : (⟨g, 0, none⟩ : Addr).add j = ⟨g, j, none⟩ := by unfold Addr.add; split <;> simp_all
      rw [e, hb.cell]
      rw [List.getElem?_take] at h
      split at h
      · simpa using h
      · cases h
    have hlen : (cur.toList.take n).length = n := by simp; omega
    refine ⟨_, _, cur.toList.take n ++ [u], run_append_grow (P := Tryd.prog) (w := w) 53 ty 5 i _ Tryd.underlying53 hi hz ⟨g, 0, none⟩ n n (cur.toList.take n) (by rw [hs, hlen]; omega) holds ad 1 c [u] (by rw [hs]; rfl) hnews (by omega) (by omega) (growslice_fits (Nat.lt_succ_self n) (by rw [hby]; omega)), ?_, ?_⟩
    · refine ⟨by simp [hlen], .inr ⟨_, _, _, rfl, Nat.le_refl _, heap_alloc_new _ _, grownCap_ge _ _ _ _, ?_, ?_, ?_⟩⟩
      · exact grownCap_le_maxLen _ _ _ _ (by simp only [maxLen]; omega)
      · have h1 : (Value.int IntKind.u8 0).cells.size = 1 := rfl
        have := grownCap_ge w (n + 1) n 5
        simp [size_zeroCells, h1]
        omega
      · have hl1 : (cur.toList.take n ++ [u]).length = n + 1 := by rw [List.length_append, hlen]; rfl
        simp
        rw [← List.singleton_append, ← List.append_assoc, List.take_left' hl1]
    · exact (Below.refl _ _).drew.alloc (Nat.le_refl _) _
theorem wpList_appD {w : World} {ops : Array Oper} {rest : List Oper} {o : Oper} {a : Act} {Q : Exit → Act → World → Prop} (hgd : o.guard = none) (s x : Operand)
    (ho : o.op = .call { callee := .builtin .append, args := #[s, x], argTypes := #[53, 53] })
    (A : Option Addr) (n B8 : Nat) (hs : a.eval s = .slice A n n) (hd : OwnD w B8 A n) (hn : n ≤ 262140) (ad : Addr) (c : Nat) (hx : a.eval x = .slice (some ad) 1 c) (u : Value) (hu : w.cell? ad = some u)
    (h : ∀ v' w' xs, w'.ownsRow w.heap.size 5 1 v' (n + 1) xs → Below w.heap.size w w' → wpList Tryd.prog ops Q rest (a.put o.dst v') w') : wpList Tryd.prog ops Q (o :: rest) a w := by
  obtain ⟨v', w', xs, h1, h2, h3⟩ := appD_run A n B8 w hd hn ad c u hu o.type
  refine wpList_plain hgd fun K hK => ?_
  unfold Oper.wp execOp
  simp only [ho, resolve, invoke, builtin, Sem.run_bind, Sem.run_pure, Result.andThen_ok, List.map_toArray, List.map_cons, List.map_nil, hs, hx, h1]
  exact hK _ _ (h v' w' xs h2 h3)
end Go.Proofs.YtlopmhnakehnaaaDoor
