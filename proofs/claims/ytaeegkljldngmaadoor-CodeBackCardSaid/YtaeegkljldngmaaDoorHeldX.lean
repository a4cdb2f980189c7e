/-
  A region that draws its order, a condition S on the world held behind every operation but one, which waits for all others. No statement of the seat is proved here.
-/
import Derived.Test.YtaeegkljldngmaaDoorWords
import Derived.Deep.RegionHeld3
namespace Go.Proofs.YtaeegkljldngmaaDoor
open Go

section
variable {P : Program} {md : Region.Mode} {ops : Array Oper} {Q : Exit → Act → World → Prop} {S : World → Prop}
/-- whatever order is picked, and S holds behind every operation but the s-th -/
def wpAnyX (P : Program) (md : Region.Mode) (ops : Array Oper) (Q : Exit → Act → World → Prop) (S : World → Prop) (s : Nat) : Nat → Array Bool → Act → World → Prop
  | 0, lst, a, w => Region.ready md ops lst = [] ∧ Q .normal a w
  | f + 1, lst, a, w => (Region.ready md ops lst = [] → Q .normal a w) ∧ ∀ i ∈ Region.ready md ops lst, wpOp P ops Q i (fun a' w' => (i = s ∨ S w') ∧ wpAnyX P md ops Q S s f (lst.setIfInBounds i true) a' w') a w
theorem wpAny_of_x {s : Nat} : ∀ (f : Nat) (lst : Array Bool) (a : Act) (w : World), wpAnyX P md ops Q S s f lst a w → wpAny P md ops Q f lst a w
  | 0, _, _, _, h => h
  | f + 1, _, _, _, h => ⟨h.1, fun i hi => wpOp_mono (fun _ _ k => wpAny_of_x f _ _ _ k.2) (h.2 i hi)⟩
/-- an operation that may come up, and on which the s-th waits, is taken first -/
theorem wpAnyX_first {s i : Nat} {oi : Oper} {v : Value} (hi : ops[i]? = some oi) (hsel : ∀ (j : Nat) (o : Oper) cs b, ops[j]? = some o → o.op ≠ .select cs b)
    (hQ : ∀ c a w, Q (.panic c) (a.put oi.dst v) w → Q (.panic c) a w) (hlast : ∀ os, ops[s]? = some os → ∃ e ∈ os.after, Region.binds md e = true ∧ e.on = i) :
    ∀ (f : Nat) (lst : Array Bool) (a : Act) (w : World),
      (∀ j oj, ops[j]? = some oj → j ≠ i → lst.getD j true = false → (∀ e ∈ oj.after, Region.binds md e = true → e.on ≠ i) → oi.apart ops oj = true) →
      i ∈ Region.ready md ops lst → YieldsIf P ops S oi v a → S w → wpAnyX P md ops Q S s f (lst.setIfInBounds i true) (a.put oi.dst v) w → wpAnyX P md ops Q S s (f + 1) lst a w := by
  intro f
  induction f with
  | zero =>
    intro lst a w _ hr hy hS H
    refine ⟨fun h => by (rw [h] at hr; cases hr), fun j hj => ?_⟩
    by_cases hji : j = i
    · subst hji
      exact hy.wpOp hi hS ⟨.inr hS, H⟩
    · have h1 := ready_mono hj hji
      rw [H.1] at h1
      cases h1
  | succ f ih =>
    intro lst a w hfree hr hy hS H
    refine ⟨fun h => by (rw [h] at hr; cases hr), fun j hj => ?_⟩
    by_cases hji : j = i
    · subst hji
      exact hy.wpOp hi hS ⟨.inr hS, H⟩
    · have h1 := H.2 j (ready_mono hj hji)
      obtain ⟨hjun, oj, hoj, hall⟩ := mem_ready.1 hj
      have hnot : ∀ e ∈ oj.after, Region.binds md e = true → e.on ≠ i := fun e he hb heq => by
        have k1 := hall e he hb
        have k0 := (mem_ready.1 hr).1
        rw [heq] at k1
        rcases Nat.lt_or_ge i lst.size with h' | h'
        · simp [h'] at k0 k1
          rw [k0] at k1; cases k1
        · simp [Array.getElem?_eq_none h'] at k1
      have hjs : j ≠ s := fun e => by
        subst e
        obtain ⟨e, he, hb, ho⟩ := hlast oj hoj
        exact hnot e he hb ho
      have h2 := wpOp_putIf hoj (hfree j oj hoj hji hjun hnot) (fun cs b => hsel i oi cs b hi) (fun cs b => hsel j oj cs b hoj) hQ hy h1
      have hfree' : ∀ k ok, ops[k]? = some ok → k ≠ i → (lst.setIfInBounds j true).getD k true = false → (∀ e ∈ ok.after, Region.binds md e = true → e.on ≠ i) → oi.apart ops ok = true := fun k ok hk hki hun hno => by
        refine hfree k ok hk hki ?_ hno
        by_cases hjk : j = k
        · subst hjk; exact hjun
        · rw [getD_set_ne true hjk] at hun; exact hun
      refine wpOp_mono (fun a' w' h3 => ?_) h2
      have hS' : S w' := h3.2.1.resolve_left hjs
      refine ⟨.inr hS', ih (lst.setIfInBounds j true) a' w' hfree' (ready_mono hr (Ne.symm hji)) h3.1 hS' ?_⟩
      rw [Array.setIfInBounds_comm _ _ hji]
      exact h3.2.2
/-- does the s-th operation wait for the i-th? -/
def waitsB (md : Region.Mode) (ops : Array Oper) (s i : Nat) : Bool := match ops[s]? with
  | some o => o.after.any fun e => Region.binds md e && e.on == i
  | none => true
theorem wpAnyX_take {s i : Nat} {oi : Oper} {v : Value} {f : Nat} {lst : Array Bool} {a : Act} {w : World} (hi : ops[i]? = some oi)
    (hs : Region.noSelect ops = true) (hf : Region.free md ops lst i = true) (hr : (Region.ready md ops lst).contains i = true) (hw : waitsB md ops s i = true)
    (hQ : ∀ c a w, Q (.panic c) (a.put oi.dst v) w → Q (.panic c) a w) (hy : YieldsIf P ops S oi v a) (hS : S w)
    (h : wpAnyX P md ops Q S s f (lst.setIfInBounds i true) (a.put oi.dst v) w) : wpAnyX P md ops Q S s (f + 1) lst a w :=
  wpAnyX_first hi (Region.noSelect_spec hs) hQ (fun os ho => by
    unfold waitsB at hw
    rw [ho] at hw
    dsimp only at hw
    rw [Array.any_eq_true] at hw
    obtain ⟨k, hk, h1⟩ := hw
    rw [Bool.and_eq_true, beq_iff_eq] at h1
    exact ⟨_, Array.getElem_mem hk, h1.1, h1.2⟩) f lst a w (Region.free_spec hi hf) (by simpa using hr) hy hS h
theorem wpAnyX_done {s : Nat} {lst : Array Bool} {a : Act} {w : World} (hr : Region.ready md ops lst = []) (h : Q .normal a w) : ∀ f, wpAnyX P md ops Q S s f lst a w
  | 0 => ⟨hr, h⟩
  | _ + 1 => ⟨fun _ => h, by rw [hr]; simp⟩
theorem wp_region_x {s id : Nat} {a : Act} {w : World} (hm : P.follows .mixedOrders = true) (hS : S w.drew)
    (h : S w.drew → wpAnyX P .any ops Q S s ops.size (Array.replicate ops.size false) a w.drew) : (Code.region id ops true).wp P Q a w :=
  wp_region_any hm (wpAny_of_x _ _ _ _ (h hS))
/-- the one operation that may come up, not the s-th: S is shown anew -/
theorem wpAnyX_one {s i : Nat} {o : Oper} {f : Nat} {lst : Array Bool} {a : Act} {w : World} (hr : Region.ready md ops lst = [i]) (hi : ops[i]? = some o)
    (h : ∀ K : Act → World → Prop, Shut (∀ a w, S w → (S w → wpAnyX P md ops Q S s f (lst.setIfInBounds i true) a w) → K a w) → if Region.wanted o (yielded ops a.tmps) = true then Oper.wp P o a w K Q else K (a.put o.dst undef) w) : wpAnyX P md ops Q S s (f + 1) lst a w :=
  ⟨fun h0 => by (rw [hr] at h0; cases h0), fun j hj => by
    rw [hr, List.mem_singleton] at hj
    subst hj
    exact wpOp_step hi (fun K' hK => h K' (fun a w hS hW => hK a w ⟨.inr hS, hW hS⟩))⟩
/-- the s-th, the last -/
theorem wpAnyX_last {s : Nat} {o : Oper} {f : Nat} {lst : Array Bool} {a : Act} {w : World} (hr : Region.ready md ops lst = [s]) (hi : ops[s]? = some o)
    (h : ∀ K : Act → World → Prop, Shut (∀ a w, wpAnyX P md ops Q S s f (lst.setIfInBounds s true) a w → K a w) → if Region.wanted o (yielded ops a.tmps) = true then Oper.wp P o a w K Q else K (a.put o.dst undef) w) : wpAnyX P md ops Q S s (f + 1) lst a w :=
  ⟨fun h0 => by (rw [hr] at h0; cases h0), fun j hj => by
    rw [hr, List.mem_singleton] at hj
    subst hj
    exact wpOp_step hi (fun K' hK => h K' (fun a w hW => hK a w ⟨.inl rfl, hW⟩))⟩
end
end Go.Proofs.YtaeegkljldngmaaDoor
