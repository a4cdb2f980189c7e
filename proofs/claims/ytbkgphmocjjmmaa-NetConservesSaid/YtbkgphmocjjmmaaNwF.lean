/-
  The range over the book: every way is gone behind it, whatever the order.
-/
import Derived.Test.YtbkgphmocjjmmaaNwE
import Derived.Maps.RangeRun
namespace Go.Proofs.Ytbkgphmocjjmmaa
open Go.RowKit
open Go.ChangeMaps (setBlock)

def bookE (ms : List Wm) : Array MapEntry := (ents .i64 (bookF ms 0) 0).toArray
structure RgF (w0 : World) (g : Nat) (v : Bool → Value) (l : Bool → List LP) (mb : Nat) (ms : List Wm) (N : Nat) : Prop where
  net : ¬ NetF g v l N
  map : N ≠ mb
  ge : w0.heap.size ≤ N
  wy : ∀ y ∈ ms, ¬ y.has N
def RgX (w0 : World) (g : Nat) (S : Ns) (v : Bool → Value) (l : Bool → List LP) (mb : Nat) (ms : List Wm) (N f : Nat) (wr : World) : Prop :=
  ∃ seen c0, wr.heap[N]? = some (.mapIter (some mb) ms.length seen c0) ∧ ms.length ≤ c0 ∧ CsX w0 g S v l mb (goneF seen ms 0) wr ∧ (leftOf (bookE ms) seen).size ≤ f
theorem goneF_has (seen : Array Nat) (k : Nat) : ∀ (l : List Wm) (i : Nat), (∀ y ∈ l, ¬ y.has k) → ∀ y ∈ goneF seen l i, ¬ y.has k
  | [], _, _, y, hy => by cases hy
  | x :: r, i, h, y, hy => by
    simp only [goneF, List.mem_cons] at hy
    rcases hy with rfl | hy
    · split
      · exact h x (by simp)
      · exact h x (by simp)
    · exact goneF_has seen k r (i + 1) (fun z hz => h z (List.mem_cons_of_mem _ hz)) y hy
theorem goneF_g (seen : Array Nat) : ∀ (l : List Wm) (i : Nat), (goneF seen l i).map Wm.g = l.map Wm.g
  | [], _ => rfl
  | y :: r, i => by
    simp only [goneF, List.map_cons, goneF_g seen r (i + 1)]
    split <;> rfl
section
variable {w0 W : World} {g mb N f : Nat} {S : Ns} {v : Bool → Value} {l : Bool → List LP} {ms : List Wm}
theorem bookE_gone (seen : Array Nat) : bookF (goneF seen ms 0) 0 = bookF ms 0 := bookF_congr _ _ 0 (goneF_g seen ms 0)
theorem bookE_mem {e : MapEntry} (he : e ∈ (bookE ms).toList) : ∃ (i : Nat) (y : Wm), ms[i]? = some y ∧ e.born = i ∧ e.val = .pointer (some ⟨y.g, 0, none⟩) := by
  obtain ⟨i, hi⟩ := List.getElem?_of_mem he
  obtain ⟨h1, p, h2, _, h4⟩ := ents_at .i64 (bookF ms 0) 0 i e (by simpa [bookE] using hi)
  obtain ⟨y, h5, h6⟩ := bookF_at ms 0 i p h2
  exact ⟨i, y, h5, by omega, by rw [h4, h6]⟩
theorem RgX.start (h : CsX w0 g S v l mb ms W) : RgF w0 g v l mb ms W.heap.size ∧ RgX w0 g S v l mb ms W.heap.size ms.length (W.alloc (.mapIter (some mb) ms.length #[] ms.length)) := by
  refine ⟨⟨fun e => by have := h.net.net.lt e; omega, fun e => by have := h.bk.map.lt; omega, h.net.old.size, fun y hy e => by have := ((h.bk.wy y hy).lt e).2; omega⟩, #[], ms.length, heap_alloc_new _ _, Nat.le_refl _, by rw [goneF_none]; exact h.below (al1 _ _), ?_⟩
  unfold leftOf
  refine Nat.le_trans Array.size_filter_le ?_
  simp [bookE, ents_len, bookF_len]
theorem CsX.range (h : CsX w0 g S v l mb ms W) : (Instr.range 75 (.map (some mb))).run Try.prog W = .ok (.pointer (some ⟨W.heap.size, 0, none⟩)) (W.alloc (.mapIter (some mb) ms.length #[] ms.length)) := by
  have := run_range_map (P := Try.prog) W 75 _ _ mb _ _ Try.underlying75 h.bk.map
  rwa [bookF_len] at this
theorem born_nodup (ms : List Wm) : ((bookE ms).toList.map (·.born)).Nodup := by
  have : (bookE ms).toList.map (·.born) = List.range' 0 (bookF ms 0).length := by
    have : ∀ (f : List (Int × Value)) (i : Nat), (ents .i64 f i).map (·.born) = List.range' i f.length := by
      intro f
      induction f with
      | nil => intro i; rfl
      | cons p r ih => intro i; simp only [ents, List.map_cons, ih, List.length_cons, List.range'_succ]
    simpa [bookE] using this (bookF ms 0) 0
  rw [this]
  exact List.nodup_range'
theorem left_size (es : Array MapEntry) (seen : Array Nat) : (leftOf es seen).size = (es.toList.filter fun x => !seen.contains x.born).length := by
  have h : (leftOf es seen).toList = es.toList.filter fun x => !seen.contains x.born := by
    unfold leftOf
    simp only [Array.toList_filter]
  rw [← h, Array.length_toList]
theorem chg_block (W : World) (N : Nat) (o : Obj) : Chg (· = N) W (setBlock W N o) :=
  ⟨rfl, rfl, rfl, by simp [setBlock], fun k _ hk => by simp [setBlock, Ne.symm hk]⟩
theorem CsX.iter (h : CsX w0 g S v l mb ms W) {ms0 : List Wm} (hf : RgF w0 g v l mb ms0 N) (hw : ∀ y ∈ ms, ¬ y.has N) (o : Obj) : CsX w0 g S v l mb ms (setBlock W N o) :=
  h.far (h.bk.far (chg_block W N o) fun k e => by subst e; exact ⟨hf.map, hw⟩) (chg_block W N o) fun k e => by subst e; exact ⟨hf.ge, hf.net⟩
theorem RgX.next (ty : TypeId) (hF : RgF w0 g v l mb ms N) (h : RgX w0 g S v l mb ms N f W) :
    ((Instr.next (.pointer (some ⟨N, 0, none⟩)) false ty).run Try.prog W = .ok (.tuple #[.bool false]) W ∧ ∃ ms', CsX w0 g S v l mb ms' W ∧ ms'.map Wm.p = (ms.map Wm.p).map Wp.off ∧ ms'.length = ms.length) ∨
    ∃ (y : Wm) (key u : Value) (W1 : World), (Instr.next (.pointer (some ⟨N, 0, none⟩)) false ty).run Try.prog W = .ok (.tuple #[.bool true, key, .pointer (some ⟨y.g, 0, none⟩)]) W1 ∧ (Instr.entry (.pointer (some ⟨N, 0, none⟩))).run Try.prog W1 = .ok (.tuple #[key, .pointer (some ⟨y.g, 0, none⟩)]) W1 ∧
      W1.cell? ⟨y.g, 3, none⟩ = some u ∧ W1.frozen? ⟨y.g, 3, none⟩ = false ∧ y.g < W1.heap.size ∧ 0 < f ∧ RgX w0 g S v l mb ms N (f - 1) (W1.setCell ⟨y.g, 3, none⟩ (.bool true)) := by
  obtain ⟨seen, c0, hit, hc0, hcs, hf⟩ := h
  have hm := hcs.bk.map
  unfold MapI at hm
  rw [bookE_gone, bookF_len] at hm
  have hold : ∀ x ∈ (bookE ms).toList, x.born < ms.length := fun x hx => by
    obtain ⟨i, y, hy, hb, _⟩ := bookE_mem hx
    have := (List.getElem?_eq_some_iff.1 hy).1
    omega
  have hwy := goneF_has seen N ms 0 hF.wy
  rcases run_next_at (P := Try.prog) W ty N mb ms.length c0 seen (bookE ms) ms.length hit hm hold hc0 with ⟨h0, hrun⟩ | ⟨e, he, w1, hal, hrun⟩
  · refine .inl ⟨hrun, goneF seen ms 0, hcs, goneF_all seen ms 0 fun i hi => ?_, goneF_len _ _ _⟩
    have hlen : i < (ents .i64 (bookF ms 0) 0).length := by simp [ents_len, bookF_len]; exact hi
    have he : (ents .i64 (bookF ms 0) 0)[i]? = some ((ents .i64 (bookF ms 0) 0)[i]'hlen) := List.getElem?_eq_getElem hlen
    obtain ⟨hb, _⟩ := ents_at .i64 (bookF ms 0) 0 i _ he
    have hmem : (ents .i64 (bookF ms 0) 0)[i]'hlen ∈ bookE ms := by
      rw [← Array.mem_toList_iff]
      exact List.getElem_mem hlen
    unfold leftOf at h0
    have h1 := Array.eq_empty_of_size_eq_zero h0
    rw [Array.filter_eq_empty_iff] at h1
    have h2 := h1 _ hmem
    rw [hb] at h2
    simpa using h2
  · have hel : e ∈ (bookE ms).toList ∧ seen.contains e.born = false := by
      unfold leftOf at he
      simp only [Array.toList_filter, List.mem_filter] at he
      exact ⟨he.1, by simpa using he.2⟩
    obtain ⟨i, y, hy, hb, hv⟩ := bookE_mem hel.1
    have hw1 : w1.heap = W.heap := by rcases hal with rfl | rfl <;> rfl
    have hcw : CsX w0 g S v l mb (goneF seen ms 0) w1 := by
      rcases hal with rfl | rfl
      · exact hcs
      · exact hcs.below (Below.refl _ _).drew
    have hcs1 := hcw.iter hF hwy (.mapIter (some mb) ms.length (seen.push e.born) ms.length)
    have hyi : (goneF seen ms 0)[i]? = some y := by
      rw [goneF_at seen ms 0 i y hy, Nat.zero_add, ← hb, hel.2]
      rfl
    have hok := hcs1.bk.wy y (List.mem_of_getElem? hyi)
    have hN : N < w1.heap.size := by rw [hw1]; exact (Array.getElem?_eq_some_iff.1 hit).1
    have hit1 : (setBlock w1 N (.mapIter (some mb) ms.length (seen.push e.born) ms.length)).heap[N]? = some (.mapIter (some mb) ms.length (seen.push e.born) ms.length) := by
      simp [setBlock, hN]
    have hm1 := hcs1.bk.map
    unfold MapI at hm1
    rw [bookE_gone, bookF_len] at hm1
    have hgN : y.g ≠ N := fun q => hF.wy y (List.mem_of_getElem? hy) (.inl q.symm)
    refine .inr ⟨y, e.key, .bool y.p.gone, setBlock w1 N (.mapIter (some mb) ms.length (seen.push e.born) ms.length), by rw [← hv]; exact hrun, ?_, hok.blk.cell 3, hok.blk.frozen 3, hok.blk.lt, ?_, seen.push e.born, ms.length, ?_, Nat.le_refl _, ?_, ?_⟩
    · rw [← hv]
      exact run_entry_at (P := Try.prog) _ N mb ms.length seen (bookE ms) ms.length e hit1 hm1 hel.1 (born_nodup ms)
    · have : 0 < (leftOf (bookE ms) seen).size := by
        have := List.length_pos_of_mem he
        simpa using this
      omega
    · rw [Below.heap_setCell _ _ _ _ (Ne.symm hgN)]
      exact hit1
    · rw [hb]
      have := goneF_set seen ms 0 i y hy
      rw [Nat.zero_add] at this
      rw [this]
      exact (hb ▸ hcs1).off hyi
    · have : (leftOf (bookE ms) (seen.push e.born)).size < (leftOf (bookE ms) seen).size := by
        have := filter_lt (fun x : MapEntry => !seen.contains x.born) (fun x : MapEntry => !(seen.push e.born).contains x.born) (fun x hx => by
          simp only [Bool.not_eq_true', ← Bool.not_eq_true, Array.contains_iff_mem, Array.mem_push, not_or] at hx ⊢
          exact hx.1) e (by rw [hel.2]; rfl) (by simp) (bookE ms).toList hel.1
        rw [left_size, left_size]
        exact this
      omega
/-- the counts lie in a box -/
structure LcX (w wc : World) (g : Nat) (S : Ns) (v : Bool → Value) (l : Bool → List LP) (x : Nat) (c : Cn) (W : World) : Prop where
  net : FrN w g S v l W
  box : Blk wc x 63 c.vals.toArray
  old : Below wc.heap.size wc W
theorem LcX.next {w wc W W' : World} {g x : Nat} {S : Ns} {v : Bool → Value} {l : Bool → List LP} {c : Cn} (h : LcX w wc g S v l x c W) (hb : Below W.heap.size W W') : LcX w wc g S v l x c W' := ⟨h.net.below hb, h.box, h.old.trans (hb.mono h.old.size)⟩
theorem LcX.cells {w wc W : World} {g x : Nat} {S : Ns} {v : Bool → Value} {l : Bool → List LP} {c : Cn} (h : LcX w wc g S v l x c W) : W.cell? ⟨x, 0, none⟩ = some (.int .i64 c.sent) ∧ W.cell? ⟨x, 1, none⟩ = some (.int .i64 c.doubled) ∧ W.cell? ⟨x, 2, none⟩ = some (.int .i64 c.delivered) ∧ W.cell? ⟨x, 3, none⟩ = some (.int .i64 c.dropped) ∧ W.cell? ⟨x, 4, none⟩ = some (.int .i64 c.lost) := by
  have hb := h.box.below h.old h.box.lt
  exact ⟨hb.cell 0, hb.cell 1, hb.cell 2, hb.cell 3, hb.cell 4⟩
theorem wrap_in {z : Int} (h0 : 0 ≤ z) (h1 : z ≤ 4611686018427387904) : IntKind.i64.wrap z = z := by simp [IntKind.wrap, IntKind.bits, IntKind.signed]; omega
structure CntB (c : Cn) (n : Nat) : Prop where
  w1 : IntKind.i64.wrap (c.sent + c.doubled) = c.sent + c.doubled
  w2 : IntKind.i64.wrap (c.delivered + c.dropped) = c.delivered + c.dropped
  w3 : IntKind.i64.wrap (c.delivered + c.dropped + c.lost) = c.delivered + c.dropped + c.lost
  w4 : IntKind.i64.wrap (c.delivered + c.dropped + c.lost + (n : Int)) = c.delivered + c.dropped + c.lost + (n : Int)
  e : (c.sent + c.doubled != c.delivered + c.dropped + c.lost + (n : Int)) = false
theorem Book.cntB {S : Ns} {ws : List Wp} {K : Int} (h : Book S ws) (hk : S.ok K) (hK : K ≤ 1000000000000000) (s : Bool) : CntB (S.c s) (S.u s).length := by
  have h0 := h.cnt s
  have hc := hk.cn s
  have hl := hk.len s
  have hh := hk.hi
  unfold Cn.ok at hc
  obtain ⟨⟨a0, a1⟩, ⟨b0, b1⟩, ⟨c0, c1⟩, ⟨d0, d1⟩, ⟨e0, e1⟩, _⟩ := hc
  exact ⟨wrap_in (by omega) (by omega), wrap_in (by omega) (by omega), wrap_in (by omega) (by omega), wrap_in (by omega) (by omega), by rw [bne_eq_false_iff_eq]; exact h0⟩
end
end Go.Proofs.Ytbkgphmocjjmmaa
