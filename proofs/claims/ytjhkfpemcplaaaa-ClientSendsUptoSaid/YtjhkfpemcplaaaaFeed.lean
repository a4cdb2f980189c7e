/-
  What a reader makes of bytes, plain mathematics on lists; a scope whose code jumps between several labels; rows of packets.
-/
import Derived.Test.YtjhkfpemcplaaaaUnp
import Derived.Test.YtjhkfpemcplaaaaRunp
import Derived.Test.YtjhkfpemcplaaaaRpack
import Derived.ScopeJumps
namespace Go.Proofs.Ytjhkfpemcplaaaa
open Go.RowKit

/-- what the bytes at the front are: nothing yet, one byte to drop, a frame -/
inductive St where
  | done : St
  | drop : St
  | take (p : Pk) (k : Nat) : St
def stepB (b : List UInt8) : St :=
  if b.length = 0 then .done
  else if b.getD 0 0 ≠ 239 ∨ (1 < b.length ∧ b.getD 1 0 ≠ 30) then .drop
  else if b.length < 4 then .done
  else if 1080 < lenOf b then .drop
  else if b.length < lenOf b + 8 then .done
  else if (unp (b.take (lenOf b + 8))).1 = 0 then .take (unp (b.take (lenOf b + 8))).2 (lenOf b + 8)
  else .drop
def feedF : Nat → List UInt8 → List Pk × List UInt8 × Nat
  | 0, b => ([], b, 0)
  | f + 1, b => match stepB b with
    | .done => ([], b, 0)
    | .drop => ((feedF f b.tail).1, (feedF f b.tail).2.1, (feedF f b.tail).2.2 + 1)
    | .take p k => (p :: (feedF f (b.drop k)).1, (feedF f (b.drop k)).2.1, (feedF f (b.drop k)).2.2)
def feed (b : List UInt8) : List Pk × List UInt8 × Nat := feedF b.length b
theorem stepB_nil {b : List UInt8} (h : b.length = 0) : stepB b = .done := by unfold stepB; rw [if_pos h]
theorem stepB_take {b : List UInt8} {p : Pk} {k : Nat} (h : stepB b = .take p k) : 8 ≤ k ∧ k ≤ b.length ∧ k ≤ 1088 ∧ k = lenOf b + 8 ∧ 4 ≤ b.length ∧ unp (b.take k) = (0, p) := by
  unfold stepB at h
  split at h
  · cases h
  · split at h
    · cases h
    · split at h
      · cases h
      · split at h
        · cases h
        · split at h
          · cases h
          · split at h
            · rename_i h0
              injection h with h1 h2
              subst h1 h2
              refine ⟨by omega, by omega, by omega, rfl, by omega, ?_⟩
              rw [← h0]
            · cases h
theorem feedF_fuel : ∀ (n f : Nat) (b : List UInt8), b.length ≤ n → b.length ≤ f → feedF f b = feedF n b := by
  intro n
  induction n with
  | zero =>
    intro f b hn _
    cases f with
    | zero => rfl
    | succ f => simp only [feedF, stepB_nil (show b.length = 0 by omega)]
  | succ n ih =>
    intro f b hn hf
    cases f with
    | zero => simp only [feedF, stepB_nil (show b.length = 0 by omega)]
    | succ f =>
      rw [feedF, feedF]
      cases hs : stepB b with
      | done => rfl
      | drop =>
        have e := ih f b.tail (by rw [List.length_tail]; omega) (by rw [List.length_tail]; omega)
        dsimp only
        rw [e]
      | take p k =>
        have hk := stepB_take hs
        have e := ih f (b.drop k) (by rw [List.length_drop]; omega) (by rw [List.length_drop]; omega)
        dsimp only
        rw [e]
theorem feed_done {b : List UInt8} (h : stepB b = .done) : feed b = ([], b, 0) := by
  unfold feed
  cases b.length with
  | zero => rfl
  | succ n => rw [feedF, h]
theorem feed_drop {b : List UInt8} (h : stepB b = .drop) : feed b = ((feed b.tail).1, (feed b.tail).2.1, (feed b.tail).2.2 + 1) := by
  unfold feed
  cases hb : b.length with
  | zero => rw [stepB_nil hb] at h; cases h
  | succ n => rw [feedF, h, feedF_fuel n b.tail.length b.tail (by rw [List.length_tail]; omega) (Nat.le_refl _)]
theorem feed_take {b : List UInt8} {p : Pk} {k : Nat} (h : stepB b = .take p k) : feed b = (p :: (feed (b.drop k)).1, (feed (b.drop k)).2.1, (feed (b.drop k)).2.2) := by
  have hk := stepB_take h
  unfold feed
  cases hb : b.length with
  | zero => rw [stepB_nil hb] at h; cases h
  | succ n => rw [feedF, h, feedF_fuel n (b.drop k).length (b.drop k) (by rw [List.length_drop]; omega) (Nat.le_refl _)]

/-- as Q; by a goto: J of its label -/
def Exit.jumps (J : Nat → Act → World → Prop) (Q : Exit → Act → World → Prop) : Exit → Act → World → Prop
  | .goto l, a, w => J l a w
  | e, a, w => Q e a w
section
variable {P : Program} {a : Act} {w : World} {Q : Exit → Act → World → Prop}
/-- a scope in which the run jumps between several labels: what holds at each jump, and a measure that every pass lowers -/
theorem wp_scope_labels {c : Code} (J : Nat → Act → World → Prop) (μ : Nat → Act → World → Nat)
    (first : c.wp P (Exit.jumps J Q) a w)
    (pass : ∀ l a w, J l a w → ∃ rest, findLabel c l = some rest ∧ rest.wp P (Exit.jumps (fun l' a' w' => J l' a' w' ∧ μ l' a' w' < μ l a w) Q) a w) : (Code.scope c).wp P Q a w := by
  intro b k cs
  have key : ∀ n l a w rest, findLabel c l = some rest → μ l a w = n → J l a w → ∃ e a' w', Q e a' w' ∧ Arrives P (lone (b.at a (.code rest :: .inScope c :: k)) cs w) b k cs e a' w' := by
    intro n
    induction n using Nat.strongRecOn with
    | _ n ih =>
      intro l a w rest hf hn hJ
      obtain ⟨rest', hf', hp⟩ := pass l a w hJ
      rw [hf] at hf'
      injection hf' with hf'
      subst hf'
      obtain ⟨e, a₁, w₁, hq, harr⟩ := hp b (.inScope c :: k) cs
      cases e with
      | normal => exact ⟨.normal, a₁, w₁, hq, Steps.trans harr (.one step_inScope)⟩
      | exit id => exact ⟨.exit id, a₁, w₁, hq, fun k' hk => harr k' (by simp [exitTo, hk])⟩
      | goto l' =>
        obtain ⟨hJ', hlt⟩ := hq
        obtain ⟨rest2, hf2, _⟩ := pass l' a₁ w₁ hJ'
        have hg : gotoIn l' (.inScope c :: k) = some (.code rest2 :: .inScope c :: k) := by simp [gotoIn, hf2]
        obtain ⟨e₂, a₂, w₂, hq₂, harr₂⟩ := ih _ (by omega) l' a₁ w₁ rest2 hf2 rfl hJ'
        exact ⟨e₂, a₂, w₂, hq₂, .of_steps (harr _ hg) harr₂⟩
      | ret => exact ⟨_, a₁, w₁, hq, harr⟩
      | panic ch => exact ⟨_, a₁, w₁, hq, harr⟩
      | outgrown => exact ⟨_, a₁, w₁, hq, harr⟩
  obtain ⟨e, a₁, w₁, hq, harr⟩ := first b (.inScope c :: k) cs
  cases e with
  | normal => exact ⟨.normal, a₁, w₁, hq, .head step_scope (Steps.trans harr (.one step_inScope))⟩
  | exit id => exact ⟨.exit id, a₁, w₁, hq, fun k' hk => .head step_scope (harr k' (by simp [exitTo, hk]))⟩
  | goto l' =>
    obtain ⟨rest2, hf2, _⟩ := pass l' a₁ w₁ hq
    have hg : gotoIn l' (.inScope c :: k) = some (.code rest2 :: .inScope c :: k) := by simp [gotoIn, hf2]
    obtain ⟨e₂, a₂, w₂, hq₂, harr₂⟩ := key _ l' a₁ w₁ rest2 hf2 rfl hq
    exact ⟨e₂, a₂, w₂, hq₂, .of_steps (.head step_scope (harr _ hg)) harr₂⟩
  | ret => exact ⟨_, a₁, w₁, hq, .of_steps (.one step_scope) harr⟩
  | panic ch => exact ⟨_, a₁, w₁, hq, .of_steps (.one step_scope) harr⟩
  | outgrown => exact ⟨_, a₁, w₁, hq, .of_steps (.one step_scope) harr⟩
end

/-- a packet's cells -/
def pqCells (q : Pk × Option Addr × Nat) : List Value := [.int .i64 q.1.kind, .int .u64 q.1.tok, .int .u64 q.1.seq, .int .u64 q.1.ack, .slice q.2.1 q.1.body.length q.2.2]
/-- a row of packets, the bodies in memory of their own -/
def PkRow (w : World) (base : Nat) (V : Value) (qs : List (Pk × Option Addr × Nat)) : Prop :=
  w.ownsRow base 39 5 V qs.length (qs.flatMap pqCells) ∧ ∀ q ∈ qs, OwnB 5 w base (.slice q.2.1 q.1.body.length q.2.2) q.1.body
theorem own_own_ne {w : World} {base base' : Nat} {e e' : TypeId} {size size' n n' : Nat} {v v' : Value} {xs xs' : List Value} (h : w.ownsRow base e size v n xs) (h' : w.ownsRow base' e' size' v' n' xs') (hne : e ≠ e') :
    v.ownBlock = none ∨ v.ownBlock ≠ v'.ownBlock := by
  rcases h.2 with ⟨rfl, _⟩ | ⟨g, cap, cur, rfl, _, hh, _⟩
  · exact .inl rfl
  · refine .inr fun e => own_blk_ne h' (g := g) (t := _) hh (fun e => hne e.symm) ?_
    rw [← e]
    rfl
section
variable {w w' : World} {base : Nat} {V : Value} {qs : List (Pk × Option Addr × Nat)}
theorem PkRow.nil (w : World) (base : Nat) : PkRow w base (.slice none 0 0) [] := ⟨World.ownsRow_nil _ _ _ _, fun q hq => by cases hq⟩
theorem PkRow.kept (h : PkRow w base V qs) (hg : w.grownBy w' none) : PkRow w' base V qs :=
  ⟨h.1.kept hg (by cases V.ownBlock <;> simp), fun q hq => (h.2 q hq).kept hg (by generalize Value.ownBlock _ = o; cases o <;> simp)⟩
theorem PkRow.far (h : PkRow w base V qs) {g : Nat} {t : TypeId} {cs : Array Value} (hb : Blk w g t cs) (h1 : 39 ≠ t) (h2 : 5 ≠ t) (hg : w.grownBy w' (some g)) : PkRow w' base V qs :=
  ⟨h.1.kept hg (.inr (own_blk_ne h.1 hb h1)), fun q hq => (h.2 q hq).kept hg (.inr (own_blk_ne (h.2 q hq) hb h2))⟩
theorem PkRow.snoc (h : PkRow w base V qs) {q : Pk × Option Addr × Nat} (hq : OwnB 5 w base (.slice q.2.1 q.1.body.length q.2.2) q.1.body) (hg : w.grownBy w' V.ownBlock) {V' : Value} (ho : w'.ownsRow base 39 5 V' (qs.length + 1) (qs.flatMap pqCells ++ pqCells q)) :
    PkRow w' base V' (qs ++ [q]) := by
  refine ⟨by simpa using ho, fun x hx => ?_⟩
  have key : OwnB 5 w base (.slice x.2.1 x.1.body.length x.2.2) x.1.body := by
    rcases List.mem_append.1 hx with hx | hx
    · exact h.2 x hx
    · rw [List.mem_singleton] at hx; subst hx; exact hq
  exact World.ownsRow.kept key hg (own_own_ne key h.1 (by decide))
theorem PkRow.len (h : PkRow w base V qs) : ∃ A c, V = .slice A qs.length c ∧ qs.length ≤ c := by
  rcases h.1.2 with ⟨rfl, h0⟩ | ⟨g, cap, cur, rfl, _, _, hn, _⟩
  · exact ⟨none, 0, by rw [h0], by omega⟩
  · exact ⟨_, cap, rfl, hn⟩
end
/-- all blocks but g are as they were -/
def Keep (g : Nat) (w w' : World) : Prop := w.grownBy w' (some g)
end Go.Proofs.Ytjhkfpemcplaaaa
