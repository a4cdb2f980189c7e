/-
  A region that draws its order, a condition S on the world held behind every operation but those of E, which wait for all others or yield wherever they stand. No statement of the seat is proved here.
-/
import Derived.Test.YtaeegkljldngmaaHeldX
namespace Go.Proofs.Ytaeegkljldngmaa
open Go

section
variable {P : Program} {md : Region.Mode} {ops : Array Oper} {Q : Exit → Act → World → Prop} {S : World → Prop}
/-- what an operation that is listed waits for is listed -/
def ShutL (md : Region.Mode) (ops : Array Oper) (lst : Array Bool) : Prop := ∀ j oj, ops[j]? = some oj → lst.getD j false = true → ∀ e ∈ oj.after, Region.binds md e = true → lst.getD e.on false = true
def shutB (md : Region.Mode) (ops : Array Oper) (lst : Array Bool) : Bool := (List.range ops.size).all fun j => !lst.getD j false || match ops[j]? with
  | some o => o.after.all fun e => !Region.binds md e || lst.getD e.on false
  | none => true
theorem shutB_spec {lst : Array Bool} (h : shutB md ops lst = true) : ShutL md ops lst := fun j oj hj hl e he hb => by
  simp only [shutB, List.all_eq_true, List.mem_range] at h
  have h1 := h j (Array.getElem?_eq_some_iff.1 hj).1
  rw [hl, hj] at h1
  simp only [Bool.not_true, Bool.false_or, Array.all_eq_true_iff_forall_mem] at h1
  have h2 := h1 e he
  rw [hb] at h2
  simpa using h2
theorem ShutL.take {lst : Array Bool} (h : ShutL md ops lst) {j : Nat} (hj : j ∈ Region.ready md ops lst) : ShutL md ops (lst.setIfInBounds j true) := fun k ok hk hl e he hb => by
  obtain ⟨_, oj, hoj, hall⟩ := mem_ready.1 hj
  by_cases hjk : j = k
  · subst hjk
    rw [hoj] at hk
    injection hk with hk
    subst hk
    exact getD_set_true (hall e he hb)
  · rw [getD_set_ne false hjk] at hl
    exact getD_set_true (h k ok hk hl e he hb)
/-- does the j-th operation wait, at once or through others, for the i-th? -/
def waitsT (md : Region.Mode) (ops : Array Oper) (i : Nat) : Nat → Nat → Bool
  | 0, _ => false
  | f + 1, j => match ops[j]? with
    | some o => o.after.any fun e => Region.binds md e && (e.on == i || waitsT md ops i f e.on)
    | none => false
theorem waitsT_spec {lst : Array Bool} (hs : ShutL md ops lst) {i : Nat} : ∀ (f j : Nat) (oj : Oper), ops[j]? = some oj → (∀ e ∈ oj.after, Region.binds md e = true → lst.getD e.on false = true) → waitsT md ops i f j = true → lst.getD i false = true
  | 0, _, _, _, _, h => by cases h
  | f + 1, j, oj, hj, hall, h => by
    unfold waitsT at h
    rw [hj] at h
    dsimp only at h
    rw [Array.any_eq_true] at h
    obtain ⟨k, hk, h1⟩ := h
    rw [Bool.and_eq_true, Bool.or_eq_true, beq_iff_eq] at h1
    have hl := hall _ (Array.getElem_mem hk) h1.1
    rcases h1.2 with h2 | h2
    · rw [← h2]; exact hl
    · cases ho : ops[(oj.after[k]).on]? with
      | none =>
        cases f with
        | zero => cases h2
        | succ f =>
          unfold waitsT at h2
          rw [ho] at h2
          cases h2
      | some o => exact waitsT_spec hs f _ o ho (hs _ o ho hl) h2
theorem getD_true_set {lst : Array Bool} {i j : Nat} (h : lst.getD j true = true) : (lst.setIfInBounds i true).getD j true = true := by
  by_cases hij : i = j
  · subst hij
    simp only [Array.getD_eq_getD_getElem?, Array.getElem?_setIfInBounds]
    split
    · split <;> rfl
    · simpa using h
  · rw [getD_set_ne true hij]
    exact h
/-- whatever order is picked, and S holds behind every operation that is none of E -/
def wpAnyY (P : Program) (md : Region.Mode) (ops : Array Oper) (Q : Exit → Act → World → Prop) (S : World → Prop) (E : Nat → Bool) : Nat → Array Bool → Act → World → Prop
  | 0, lst, a, w => Region.ready md ops lst = [] ∧ Q .normal a w
  | f + 1, lst, a, w => (Region.ready md ops lst = [] → Q .normal a w) ∧ ∀ i ∈ Region.ready md ops lst, wpOp P ops Q i (fun a' w' => (E i = true ∨ S w') ∧ wpAnyY P md ops Q S E f (lst.setIfInBounds i true) a' w') a w
theorem wpAny_of_y {E : Nat → Bool} : ∀ (f : Nat) (lst : Array Bool) (a : Act) (w : World), wpAnyY P md ops Q S E f lst a w → wpAny P md ops Q f lst a w
  | 0, _, _, _, h => h
  | f + 1, _, _, _, h => ⟨h.1, fun i hi => wpOp_mono (fun _ _ k => wpAny_of_y f _ _ _ k.2) (h.2 i hi)⟩
theorem wpAnyY_first {E : Nat → Bool} {i : Nat} {oi : Oper} {v : Value} (hi : ops[i]? = some oi) (hsel : ∀ (j : Nat) (o : Oper) cs b, ops[j]? = some o → o.op ≠ .select cs b)
    (hQ : ∀ c a w, Q (.panic c) (a.put oi.dst v) w → Q (.panic c) a w) :
    ∀ (f : Nat) (lst : Array Bool) (a : Act) (w : World), ShutL md ops lst → (∀ j oj, ops[j]? = some oj → E j = true → lst.getD j true = true ∨ ∃ f, waitsT md ops i f j = true) →
      (∀ j oj, ops[j]? = some oj → j ≠ i → lst.getD j true = false → (∀ e ∈ oj.after, Region.binds md e = true → e.on ≠ i) → oi.apart ops oj = true) →
      i ∈ Region.ready md ops lst → YieldsIf P ops S oi v a → S w → wpAnyY P md ops Q S E f (lst.setIfInBounds i true) (a.put oi.dst v) w → wpAnyY P md ops Q S E (f + 1) lst a w := by
  intro f
  induction f with
  | zero =>
    intro lst a w _ _ _ hr hy hS H
    refine ⟨fun h => by (rw [h] at hr; cases hr), fun j hj => ?_⟩
    by_cases hji : j = i
    · subst hji
      exact hy.wpOp hi hS ⟨.inr hS, H⟩
    · have h1 := ready_mono hj hji
      rw [H.1] at h1
      cases h1
  | succ f ih =>
    intro lst a w hshut hlast hfree hr hy hS H
    refine ⟨fun h => by (rw [h] at hr; cases hr), fun j hj => ?_⟩
    by_cases hji : j = i
    · subst hji
      exact hy.wpOp hi hS ⟨.inr hS, H⟩
    · have h1 := H.2 j (ready_mono hj hji)
      obtain ⟨hjun, oj, hoj, hall⟩ := mem_ready.1 hj
      have k0 := (mem_ready.1 hr).1
      have hun : lst.getD i false = true → False := fun k1 => by
        rcases Nat.lt_or_ge i lst.size with h' | h'
        · simp [h'] at k0 k1
          rw [k0] at k1; cases k1
        · simp [Array.getElem?_eq_none h'] at k1
      have hnot : ∀ e ∈ oj.after, Region.binds md e = true → e.on ≠ i := fun e he hb heq => hun (by
        have k1 := hall e he hb
        rw [heq] at k1
        exact k1)
      have hjs : ¬ E j = true := fun e => by
        obtain ⟨f', hw⟩ := (hlast j oj hoj e).resolve_left (by rw [hjun]; simp)
        exact hun (waitsT_spec hshut f' j oj hoj hall hw)
      have h2 := wpOp_putIf hoj (hfree j oj hoj hji hjun hnot) (fun cs b => hsel i oi cs b hi) (fun cs b => hsel j oj cs b hoj) hQ hy h1
      have hfree' : ∀ k ok, ops[k]? = some ok → k ≠ i → (lst.setIfInBounds j true).getD k true = false → (∀ e ∈ ok.after, Region.binds md e = true → e.on ≠ i) → oi.apart ops ok = true := fun k ok hk hki hun hno => by
        refine hfree k ok hk hki ?_ hno
        by_cases hjk : j = k
        · subst hjk; exact hjun
        · rw [getD_set_ne true hjk] at hun; exact hun
      refine wpOp_mono (fun a' w' h3 => ?_) h2
      have hS' : S w' := h3.2.1.resolve_left hjs
      refine ⟨.inr hS', ih (lst.setIfInBounds j true) a' w' (hshut.take hj) (fun k ok hk he => (hlast k ok hk he).imp (fun hl => getD_true_set hl) id) hfree' (ready_mono hr (Ne.symm hji)) h3.1 hS' ?_⟩
      rw [Array.setIfInBounds_comm _ _ hji]
      exact h3.2.2
/-- which operations wait for the i-th, by their numbers: one pass, for an operation waits for such as stand ahead of it -/
def waitsA (md : Region.Mode) (ops : Array Oper) (i : Nat) : Nat → List Bool
  | 0 => []
  | j + 1 =>
    let R := waitsA md ops i j
    R ++ [match ops[j]? with
      | some o => o.after.any fun e => Region.binds md e && (e.on == i || R.getD e.on false)
      | none => false]
theorem waitsA_len (i : Nat) : ∀ n, (waitsA md ops i n).length = n
  | 0 => rfl
  | n + 1 => by simp [waitsA, waitsA_len i n]
theorem waitsA_spec (i : Nat) : ∀ (n j : Nat), (waitsA md ops i n).getD j false = true → ∃ f, waitsT md ops i f j = true
  | 0, j, h => by simp [waitsA] at h
  | n + 1, j, h => by
    have hl := waitsA_len (md := md) (ops := ops) i n
    simp only [waitsA] at h
    rw [List.getD_eq_getElem?_getD] at h
    rcases Nat.lt_trichotomy j n with e | e | e
    · rw [List.getElem?_append_left (by omega)] at h
      exact waitsA_spec i n j (by rw [List.getD_eq_getElem?_getD]; exact h)
    · rw [List.getElem?_append_right (by omega), hl, e, Nat.sub_self, List.getElem?_cons_zero, Option.getD_some] at h
      cases ho : ops[n]? with
      | none => rw [ho] at h; cases h
      | some o =>
        rw [ho] at h
        dsimp only at h
        rw [Array.any_eq_true] at h
        obtain ⟨k, hk, h1⟩ := h
        rw [Bool.and_eq_true, Bool.or_eq_true, beq_iff_eq] at h1
        have key : ∀ f, (o.after[k].on == i || waitsT md ops i f o.after[k].on) = true → waitsT md ops i (f + 1) j = true := fun f hf => by
          unfold waitsT
          rw [e, ho]
          dsimp only
          rw [Array.any_eq_true]
          exact ⟨k, hk, by rw [h1.1, hf]; rfl⟩
        rcases h1.2 with h2 | h2
        · exact ⟨1, key 0 (by rw [h2]; simp)⟩
        · obtain ⟨f, hf⟩ := waitsA_spec i n _ h2
          exact ⟨f + 1, key f (by rw [hf]; simp)⟩
    · rw [List.getElem?_append_right (by omega), List.getElem?_eq_none (by simp; omega)] at h
      cases h
def allB (E : Nat → Bool) (lst : Array Bool) : List Bool → Nat → Bool
  | [], _ => true
  | r :: R, j => (r || !E j || lst.getD j true) && allB E lst R (j + 1)
theorem allB_spec {E : Nat → Bool} {lst : Array Bool} : ∀ (R : List Bool) (j k : Nat), allB E lst R j = true → k < R.length → E (j + k) = true → lst.getD (j + k) true = true ∨ R.getD k false = true
  | r :: R, j, 0, h, hk, he => by
    unfold allB at h
    rw [Bool.and_eq_true] at h
    rw [Nat.add_zero] at he ⊢
    have := h.1
    rw [he] at this
    cases r with
    | true => exact .inr rfl
    | false => exact .inl (by simpa using this)
  | r :: R, j, k + 1, h, hk, he => by
    unfold allB at h
    rw [Bool.and_eq_true] at h
    have := allB_spec R (j + 1) k h.2 (by simpa using hk) (by rw [Nat.add_assoc, Nat.add_comm 1 k]; exact he)
    rw [Nat.add_assoc, Nat.add_comm 1 k] at this
    exact this
/-- do all operations of E that are not listed wait for the i-th? -/
def waitsY (md : Region.Mode) (ops : Array Oper) (E : Nat → Bool) (lst : Array Bool) (i : Nat) : Bool := allB E lst (waitsA md ops i ops.size) 0
theorem wpAnyY_take {E : Nat → Bool} {i : Nat} {oi : Oper} {v : Value} {f : Nat} {lst : Array Bool} {a : Act} {w : World} (hi : ops[i]? = some oi)
    (hs : Region.noSelect ops = true) (hf : Region.free md ops lst i = true) (hr : (Region.ready md ops lst).contains i = true) (hsh : shutB md ops lst = true) (hw : waitsY md ops E lst i = true)
    (hQ : ∀ c a w, Q (.panic c) (a.put oi.dst v) w → Q (.panic c) a w) (hy : YieldsIf P ops S oi v a) (hS : S w)
    (h : wpAnyY P md ops Q S E f (lst.setIfInBounds i true) (a.put oi.dst v) w) : wpAnyY P md ops Q S E (f + 1) lst a w :=
  wpAnyY_first hi (Region.noSelect_spec hs) hQ f lst a w (shutB_spec hsh) (fun j oj ho hsj => by
    unfold waitsY at hw
    have h1 := allB_spec _ 0 j hw (by rw [waitsA_len]; exact (Array.getElem?_eq_some_iff.1 ho).1) (by rw [Nat.zero_add]; exact hsj)
    rw [Nat.zero_add] at h1
    exact h1.imp id fun h => waitsA_spec i _ j h) (Region.free_spec hi hf) (by simpa using hr) hy hS h
/-- an operation of E that yields the same wherever it stands is taken first -/
theorem wpAnyY_free {E : Nat → Bool} {i : Nat} {oi : Oper} {v : Value} {f : Nat} {lst : Array Bool} {a : Act} {w : World} (hi : ops[i]? = some oi) (hE : E i = true)
    (hs : Region.noSelect ops = true) (hf : Region.free md ops lst i = true) (hr : (Region.ready md ops lst).contains i = true)
    (hQ : ∀ c a w, Q (.panic c) (a.put oi.dst v) w → Q (.panic c) a w) (hy : YieldsIf P ops (fun _ => True) oi v a)
    (h : wpAnyY P md ops Q S E f (lst.setIfInBounds i true) (a.put oi.dst v) w) : wpAnyY P md ops Q S E (f + 1) lst a w := by
  have hsel := Region.noSelect_spec hs
  have hfr := Region.free_spec hi hf
  replace hr : i ∈ Region.ready md ops lst := by simpa using hr
  clear hs hf
  revert lst a w
  induction f with
  | zero =>
    intro lst a w hy H hfree hr
    refine ⟨fun h => by (rw [h] at hr; cases hr), fun j hj => ?_⟩
    by_cases hji : j = i
    · subst hji
      exact hy.wpOp hi trivial ⟨.inl hE, H⟩
    · have h1 := ready_mono hj hji
      rw [H.1] at h1
      cases h1
  | succ f ih =>
    intro lst a w hy H hfree hr
    refine ⟨fun h => by (rw [h] at hr; cases hr), fun j hj => ?_⟩
    by_cases hji : j = i
    · subst hji
      exact hy.wpOp hi trivial ⟨.inl hE, H⟩
    · have h1 := H.2 j (ready_mono hj hji)
      obtain ⟨hjun, oj, hoj, hall⟩ := mem_ready.1 hj
      have k0 := (mem_ready.1 hr).1
      have hun : lst.getD i false = true → False := fun k1 => by
        rcases Nat.lt_or_ge i lst.size with h' | h'
        · simp [h'] at k0 k1
          rw [k0] at k1; cases k1
        · simp [Array.getElem?_eq_none h'] at k1
      have hnot : ∀ e ∈ oj.after, Region.binds md e = true → e.on ≠ i := fun e he hb heq => hun (by
        have k1 := hall e he hb
        rw [heq] at k1
        exact k1)
      have h2 := wpOp_putIf hoj (hfree j oj hoj hji hjun hnot) (fun cs b => hsel i oi cs b hi) (fun cs b => hsel j oj cs b hoj) hQ hy h1
      have hfree' : ∀ k ok, ops[k]? = some ok → k ≠ i → (lst.setIfInBounds j true).getD k true = false → (∀ e ∈ ok.after, Region.binds md e = true → e.on ≠ i) → oi.apart ops ok = true := fun k ok hk hki hun hno => by
        refine hfree k ok hk hki ?_ hno
        by_cases hjk : j = k
        · subst hjk; exact hjun
        · rw [getD_set_ne true hjk] at hun; exact hun
      refine wpOp_mono (fun a' w' h3 => ?_) h2
      refine ⟨h3.2.1, ih h3.1 ?_ hfree' (ready_mono hr (Ne.symm hji))⟩
      rw [Array.setIfInBounds_comm _ _ hji]
      exact h3.2.2
theorem wpAnyY_done {E : Nat → Bool} {lst : Array Bool} {a : Act} {w : World} (hr : Region.ready md ops lst = []) (h : Q .normal a w) : ∀ f, wpAnyY P md ops Q S E f lst a w
  | 0 => ⟨hr, h⟩
  | _ + 1 => ⟨fun _ => h, by rw [hr]; simp⟩
theorem wp_region_y {E : Nat → Bool} {id : Nat} {a : Act} {w : World} (hm : P.follows .mixedOrders = true) (hS : S w.drew)
    (h : S w.drew → wpAnyY P .any ops Q S E ops.size (Array.replicate ops.size false) a w.drew) : (Code.region id ops true).wp P Q a w :=
  wp_region_any hm (wpAny_of_y _ _ _ _ (h hS))
/-- the one operation that may come up, none of E: S is shown anew -/
theorem wpAnyY_one {E : Nat → Bool} {i : Nat} {o : Oper} {f : Nat} {lst : Array Bool} {a : Act} {w : World} (hr : Region.ready md ops lst = [i]) (hi : ops[i]? = some o)
    (h : ∀ K : Act → World → Prop, Shut (∀ a w, S w → (S w → wpAnyY P md ops Q S E f (lst.setIfInBounds i true) a w) → K a w) → if Region.wanted o (yielded ops a.tmps) = true then Oper.wp P o a w K Q else K (a.put o.dst undef) w) : wpAnyY P md ops Q S E (f + 1) lst a w :=
  ⟨fun h0 => by (rw [hr] at h0; cases h0), fun j hj => by
    rw [hr, List.mem_singleton] at hj
    subst hj
    exact wpOp_step hi (fun K' hK => h K' (fun a w hS hW => hK a w ⟨.inr hS, hW hS⟩))⟩
/-- the one operation that may come up, of E -/
theorem wpAnyY_late {E : Nat → Bool} {i : Nat} {o : Oper} {f : Nat} {lst : Array Bool} {a : Act} {w : World} (hr : Region.ready md ops lst = [i]) (hE : E i = true) (hi : ops[i]? = some o)
    (h : ∀ K : Act → World → Prop, Shut (∀ a w, wpAnyY P md ops Q S E f (lst.setIfInBounds i true) a w → K a w) → if Region.wanted o (yielded ops a.tmps) = true then Oper.wp P o a w K Q else K (a.put o.dst undef) w) : wpAnyY P md ops Q S E (f + 1) lst a w :=
  ⟨fun h0 => by (rw [hr] at h0; cases h0), fun j hj => by
    rw [hr, List.mem_singleton] at hj
    subst hj
    exact wpOp_step hi (fun K' hK => h K' (fun a w hW => hK a w ⟨.inl hE, hW⟩))⟩
end
end Go.Proofs.Ytaeegkljldngmaa
