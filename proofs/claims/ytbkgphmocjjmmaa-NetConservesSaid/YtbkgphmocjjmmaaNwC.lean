/-
  The law's book in memory: a map from numbers to ways, each in a block of its own with bytes of its own.
-/
import Derived.Test.YtbkgphmocjjmmaaNwA
import Derived.Test.YtbkgphmocjjmmaaNwB
namespace Go.Proofs.Ytbkgphmocjjmmaa
open Go.RowKit

structure Wm where
  p : Wp
  A : Option Addr
  c : Nat
  g : Nat
def Wm.val (y : Wm) : Value := .slice y.A y.p.b.length y.c
def Wm.cs (y : Wm) : Array Value := #[y.val, .int .i64 y.p.side, .int .i64 y.p.epoch, .bool y.p.gone]
def Wm.off (y : Wm) : Wm := { y with p := y.p.off }
def Wm.has (y : Wm) (k : Nat) : Prop := k = y.g ∨ y.val.ownBlock = some k
def bookF : List Wm → Nat → List (Int × Value)
  | [], _ => []
  | y :: r, i => ((i : Int) + 1, .pointer (some ⟨y.g, 0, none⟩)) :: bookF r (i + 1)
theorem bookF_len : ∀ (l : List Wm) (i : Nat), (bookF l i).length = l.length
  | [], _ => rfl
  | _ :: r, i => by simp [bookF, bookF_len r]
theorem bookF_app (y : Wm) : ∀ (l : List Wm) (i : Nat), bookF (l ++ [y]) i = bookF l i ++ [((i : Int) + l.length + 1, .pointer (some ⟨y.g, 0, none⟩))]
  | [], i => by simp [bookF]
  | x :: r, i => by
    simp only [List.cons_append, bookF, bookF_app y r (i + 1), List.length_cons]
    have : (((i + 1 : Nat) : Int) + r.length + 1) = ((i : Int) + ((r.length + 1 : Nat) : Int) + 1) := by omega
    rw [this]
theorem bookF_congr : ∀ (l m : List Wm) (i : Nat), l.map Wm.g = m.map Wm.g → bookF l i = bookF m i
  | [], [], _, _ => rfl
  | x :: r, y :: t, i, h => by
    simp only [List.map_cons, List.cons.injEq] at h
    simp only [bookF, h.1, bookF_congr r t (i + 1) h.2]
theorem getI_book : ∀ (l : List Wm) (j i : Nat) (y : Wm), l[i]? = some y → getI (bookF l j) ((j : Int) + i + 1) = some (.pointer (some ⟨y.g, 0, none⟩))
  | x :: r, j, 0, y, h => by
    simp only [List.getElem?_cons_zero, Option.some.injEq] at h
    subst h
    simp [bookF, getI]
  | x :: r, j, i + 1, y, h => by
    rw [List.getElem?_cons_succ] at h
    have := getI_book r (j + 1) i y h
    have e : (((j + 1 : Nat) : Int) + i + 1) = ((j : Int) + ((i + 1 : Nat) : Int) + 1) := by omega
    rw [e] at this
    simp only [bookF, getI]
    rw [if_neg (by omega)]
    exact this
theorem getI_book_none : ∀ (l : List Wm) (j : Nat) (z : Int), (j : Int) + l.length < z → getI (bookF l j) z = none
  | [], _, _, _ => rfl
  | x :: r, j, z, h => by
    simp only [List.length_cons] at h
    simp only [bookF, getI]
    rw [if_neg (by omega)]
    exact getI_book_none r (j + 1) z (by omega)
structure WmOk (base : Nat) (W : World) (y : Wm) : Prop where
  blk : Blk W y.g 78 y.cs
  own : OwnB 5 W base y.val y.p.b
  ge : base ≤ y.g
theorem WmOk.lt {base : Nat} {W : World} {y : Wm} (h : WmOk base W y) {k : Nat} (hk : y.has k) : base ≤ k ∧ k < W.heap.size := by
  rcases hk with rfl | hk
  · exact ⟨h.ge, h.blk.lt⟩
  · exact World.ownsRow.lt h.own k hk
theorem WmOk.keep {base : Nat} {W W' : World} {y : Wm} (h : WmOk base W y) (hk : ∀ k, y.has k → W'.heap[k]? = W.heap[k]?) : WmOk base W' y :=
  ⟨(hk _ (.inl rfl)).trans h.blk, own_same h.own fun k e => hk k (.inr e), h.ge⟩
structure BookM (w0 : World) (F : Nat → Prop) (mb : Nat) (ms : List Wm) (W : World) : Prop where
  map : MapI .i64 W mb (bookF ms 0)
  ge : w0.heap.size ≤ mb
  wy : ∀ y ∈ ms, WmOk w0.heap.size W y
  ap : ms.Pairwise fun y z => ∀ k, y.has k → ¬ z.has k
  free : ∀ y ∈ ms, ∀ k, y.has k → ¬ F k
  mfree : ¬ F mb
theorem map_ne {W : World} {q : IntKind} {mb k : Nat} {f : List (Int × Value)} (h : MapI q W mb f) {t : TypeId} {cs : Array Value} (hb : Blk W k t cs) : k ≠ mb := by
  rintro rfl
  unfold MapI at h
  unfold Blk at hb
  rw [h] at hb; cases hb
theorem map_own {W : World} {q : IntKind} {mb base n size : Nat} {e : TypeId} {v : Value} {xs : List Value} {f : List (Int × Value)} (h : MapI q W mb f) (ho : W.ownsRow base e size v n xs) : v.ownBlock ≠ some mb := by
  intro hk
  rcases ho.2 with ⟨rfl, _⟩ | ⟨g, cap, cur, rfl, _, hg, _⟩
  · cases hk
  · have e : g = mb := by simpa [Value.ownBlock] using hk
    exact map_ne h (show Blk W g _ cur from hg) e
section
variable {w0 W W' : World} {F F' : Nat → Prop} {mb : Nat} {ms : List Wm}
theorem BookM.mhas (h : BookM w0 F mb ms W) {y : Wm} (hy : y ∈ ms) : ¬ y.has mb := by
  rintro (e | e)
  · exact map_ne h.map (h.wy y hy).blk e.symm
  · exact map_own h.map (h.wy y hy).own e
theorem BookM.step (h : BookM w0 F mb ms W) (hc : Chg F W W') (hsub : ∀ k, F' k → F k ∨ W.heap.size ≤ k) : BookM w0 F' mb ms W' :=
  ⟨h.map.keep (hc.block mb h.map.lt h.mfree), h.ge, fun y hy => (h.wy y hy).keep fun k hk => hc.block k ((h.wy y hy).lt hk).2 (h.free y hy k hk), h.ap, fun y hy k hk e => by
    rcases hsub k e with e1 | e1
    · exact h.free y hy k hk e1
    · have := ((h.wy y hy).lt hk).2; omega, fun e => by
    rcases hsub mb e with e1 | e1
    · exact h.mfree e1
    · have := h.map.lt; omega⟩
theorem BookM.below (h : BookM w0 F mb ms W) (hb : Below W.heap.size W W') : BookM w0 F mb ms W' := h.step (Chg.of_below hb F) fun _ e => .inl e
theorem BookM.far (h : BookM w0 F mb ms W) {G : Nat → Prop} (hc : Chg G W W') (hG : ∀ k, G k → k ≠ mb ∧ ∀ y ∈ ms, ¬ y.has k) : BookM w0 F mb ms W' :=
  ⟨h.map.keep (hc.block mb h.map.lt fun e => (hG _ e).1 rfl), h.ge, fun y hy => (h.wy y hy).keep fun k hk => hc.block k ((h.wy y hy).lt hk).2 fun e => (hG _ e).2 y hy hk, h.ap, h.free, h.mfree⟩
theorem set_pair {R : Wm → Wm → Prop} {l : List Wm} {i : Nat} {y y' : Wm} (hl : l.Pairwise R) (hy : l[i]? = some y) (h1 : ∀ z, R y z → R y' z) (h2 : ∀ z, R z y → R z y') : (l.set i y').Pairwise R := by
  induction l generalizing i with
  | nil => cases hy
  | cons x t ih =>
    rw [List.pairwise_cons] at hl
    cases i with
    | zero =>
      simp only [List.getElem?_cons_zero, Option.some.injEq] at hy
      subst hy
      simp only [List.set_cons_zero, List.pairwise_cons]
      exact ⟨fun z hz => h1 z (hl.1 z hz), hl.2⟩
    | succ i =>
      rw [List.getElem?_cons_succ] at hy
      simp only [List.set_cons_succ, List.pairwise_cons]
      refine ⟨fun z hz => ?_, ih hl.2 hy⟩
      rcases List.mem_or_eq_of_mem_set hz with h | h
      · exact hl.1 z h
      · subst h; exact h2 x (hl.1 y (List.mem_of_getElem? hy))
theorem set_g {l : List Wm} {i : Nat} {y y' : Wm} (hy : l[i]? = some y) (hg : y'.g = y.g) : (l.set i y').map Wm.g = l.map Wm.g := by
  apply List.ext_getElem?
  intro j
  simp only [List.getElem?_map, List.getElem?_set]
  split
  · rename_i e; subst e
    split
    · rw [hy]; simp [hg]
    · rw [List.getElem?_eq_none (by omega)]
  · rfl
/-- one way is written anew, in its own blocks -/
theorem BookM.turn (h : BookM w0 F mb ms W) {i : Nat} {y y' : Wm} (hy : ms[i]? = some y) (hg : y'.g = y.g) (hv : y'.val.ownBlock = y.val.ownBlock) (hok : WmOk w0.heap.size W' y') {G : Nat → Prop} (hc : Chg G W W') (hG : ∀ k, G k → y.has k) : BookM w0 F mb (ms.set i y') W' := by
  have hym := List.mem_of_getElem? hy
  have hhas : ∀ k, y'.has k ↔ y.has k := fun k => by simp only [Wm.has, hg, hv]
  have hmem : ∀ z ∈ ms.set i y', z = y' ∨ (z ∈ ms ∧ ∀ k, y.has k → ¬ z.has k) := fun z hz => by
    obtain ⟨j, hj⟩ := List.getElem?_of_mem hz
    rw [List.getElem?_set] at hj
    split at hj
    · split at hj
      · injection hj with hj; exact .inl hj.symm
      · cases hj
    · rename_i hne
      refine .inr ⟨List.mem_of_getElem? hj, ?_⟩
      have hp := h.ap
      rw [List.pairwise_iff_getElem] at hp
      have hj1 := List.getElem?_eq_some_iff.1 hj
      have hi1 := List.getElem?_eq_some_iff.1 hy
      rcases Nat.lt_or_gt_of_ne hne with h2 | h2
      · have := hp i j hi1.1 hj1.1 h2
        rw [hi1.2, hj1.2] at this
        exact this
      · have := hp j i hj1.1 hi1.1 h2
        rw [hi1.2, hj1.2] at this
        exact fun k h1 h2 => this k h2 h1
  refine ⟨?_, h.ge, fun z hz => ?_, set_pair h.ap hy (fun z hz k hk => hz k ((hhas k).1 hk)) (fun z hz k hk hk' => hz k hk ((hhas k).1 hk')), fun z hz k hk => ?_, h.mfree⟩
  · rw [bookF_congr _ ms 0 (set_g hy hg)]
    exact h.map.keep (hc.block mb h.map.lt fun e => h.mhas hym (hG _ e))
  · rcases hmem z hz with rfl | ⟨h1, h2⟩
    · exact hok
    · exact (h.wy z h1).keep fun k hk => hc.block k ((h.wy z h1).lt hk).2 fun e => h2 k (hG k e) hk
  · rcases hmem z hz with rfl | ⟨h1, _⟩
    · exact h.free y hym k ((hhas k).1 hk)
    · exact h.free z h1 k hk
theorem WmOk.gone {y : Wm} (h : WmOk w0.heap.size W y) : WmOk w0.heap.size (W.setCell ⟨y.g, 3, none⟩ (.bool true)) y.off :=
  ⟨h.blk.set_ 3 _, h.own.far h.blk (by decide) 3 _, h.ge⟩
/-- 'w.Gone = true' -/
theorem BookM.off (h : BookM w0 F mb ms W) {i : Nat} {y : Wm} (hy : ms[i]? = some y) : BookM w0 F mb (ms.set i y.off) (W.setCell ⟨y.g, 3, none⟩ (.bool true)) :=
  h.turn hy rfl rfl (h.wy y (List.mem_of_getElem? hy)).gone (G := (· = y.g)) ((Chg.refl (· = y.g) W).setCell (p := ⟨y.g, 3, none⟩) (fun _ => rfl) _) fun _ e => .inl e
/-- a new way is put behind -/
theorem BookM.put (h : BookM w0 F mb ms W) {y : Wm} (hok : WmOk w0.heap.size W y) (hn : ∀ k, y.has k → ¬ F k ∧ k ≠ mb ∧ ∀ z ∈ ms, ¬ z.has k) : BookM w0 F mb (ms ++ [y]) (mapPut W .i64 mb (bookF ms 0) ((ms.length : Int) + 1) (.pointer (some ⟨y.g, 0, none⟩))) := by
  have keep : ∀ k, k ≠ mb → (mapPut W .i64 mb (bookF ms 0) ((ms.length : Int) + 1) (.pointer (some ⟨y.g, 0, none⟩))).heap[k]? = W.heap[k]? := fun k hk => h.map.put_far _ _ hk
  refine ⟨?_, h.ge, fun z hz => ?_, ?_, fun z hz k hk => ?_, h.mfree⟩
  · have := h.map.put ((ms.length : Int) + 1) (.pointer (some ⟨y.g, 0, none⟩))
    rw [bookF_app]
    have e : (((0 : Nat) : Int) + ms.length + 1) = (ms.length : Int) + 1 := by omega
    rw [e]; exact this
  · rcases List.mem_append.1 hz with h1 | h1
    · exact (h.wy z h1).keep fun k hk => keep k fun e => h.mhas h1 (e ▸ hk)
    · rw [List.mem_singleton] at h1; subst h1
      exact hok.keep fun k hk => keep k (hn k hk).2.1
  · rw [List.pairwise_append]
    refine ⟨h.ap, List.pairwise_singleton _ _, fun z hz x hx k hk hk' => ?_⟩
    rw [List.mem_singleton] at hx; subst hx
    exact (hn k hk').2.2 z hz hk
  · rcases List.mem_append.1 hz with h1 | h1
    · exact h.free z h1 k hk
    · rw [List.mem_singleton] at h1; subst h1; exact (hn k hk).1
end
end Go.Proofs.Ytbkgphmocjjmmaa
