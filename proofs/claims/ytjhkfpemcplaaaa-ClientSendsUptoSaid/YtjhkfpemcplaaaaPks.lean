/-
  Rows of packets read; the contracts of SamePackets at equal packets and of the reader's small methods.
-/
import Derived.Test.YtjhkfpemcplaaaaFeedW
import Derived.StillTailTactics
import Derived.IntWalk
namespace Go.Proofs.Ytjhkfpemcplaaaa
open Go.RowKit

/-- a row of packets that reads -/
def PRd (w : World) (A : Option Addr) (qs : List (Pk × Option Addr × Nat)) : Prop :=
  Reads w w.heap.size 5 A qs.length (qs.flatMap pqCells) ∧ ∀ q ∈ qs, RdB w w.heap.size q.2.1 q.1.body.length q.1.body
theorem PRd.below {w w' : World} {A : Option Addr} {qs : List (Pk × Option Addr × Nat)} (h : PRd w A qs) (hb : Below w.heap.size w w') : PRd w' A qs :=
  ⟨(h.1.below hb).more hb.size, fun q hq => ((h.2 q hq).below hb).more hb.size⟩
theorem PRd.nil (w : World) (A : Option Addr) : PRd w A [] := ⟨⟨by simp, fun h => by simp at h⟩, fun q hq => by cases hq⟩
theorem PkRow.prd {w : World} {base : Nat} {A : Option Addr} {n c : Nat} {qs : List (Pk × Option Addr × Nat)} (h : PkRow w base (.slice A n c) qs) : n = qs.length ∧ PRd w A qs := by
  obtain ⟨A', c', e, _⟩ := h.len
  injection e with e1 e2 e3
  subst e1 e2 e3
  exact ⟨rfl, Reads.of_own h.1, fun q hq => OwnB.reads (h.2 q hq) rfl⟩
theorem pq_at (qs : List (Pk × Option Addr × Nat)) : ∀ (j : Nat) (q : Pk × Option Addr × Nat) (i : Nat), i < 5 → qs[j]? = some q → (qs.flatMap pqCells)[j * 5 + i]? = (pqCells q)[i]? := by
  induction qs with
  | nil => intro j q i _ h; simp at h
  | cons x l ih =>
    intro j q i hi h
    have hl : (pqCells x).length = 5 := rfl
    rw [List.flatMap_cons]
    cases j with
    | zero =>
      simp at h
      subst h
      rw [List.getElem?_append_left (by omega)]
      simp
    | succ j =>
      rw [List.getElem?_append_right (by omega), hl, show (j + 1) * 5 + i - 5 = j * 5 + i from by omega]
      exact ih j q i hi (by simpa using h)
theorem PRd.at5 {w : World} {A : Option Addr} {qs : List (Pk × Option Addr × Nat)} {j : Nat} (h : PRd w A qs) (hj : j < qs.length) :
    ∃ b off q, A = some ⟨b, off, none⟩ ∧ qs[j]? = some q ∧ w.cell? ⟨b, off + j * 5, none⟩ = some (.int .i64 q.1.kind) ∧ w.cell? ⟨b, off + j * 5 + 1, none⟩ = some (.int .u64 q.1.tok) ∧ w.cell? ⟨b, off + j * 5 + 2, none⟩ = some (.int .u64 q.1.seq) ∧
      w.cell? ⟨b, off + j * 5 + 3, none⟩ = some (.int .u64 q.1.ack) ∧ w.cell? ⟨b, off + j * 5 + 4, none⟩ = some (.slice q.2.1 q.1.body.length q.2.2) := by
  obtain ⟨⟨b, off, spot⟩, e, _, hc⟩ := h.1.2 (by omega)
  obtain ⟨q, hq⟩ : ∃ q, qs[j]? = some q := ⟨_, List.getElem?_eq_getElem hj⟩
  obtain ⟨q0, hq0⟩ : ∃ q, qs[0]? = some q := ⟨_, List.getElem?_eq_getElem (by omega)⟩
  have h0 := hc 0 _ ((pq_at qs 0 q0 0 (by omega) hq0).trans rfl)
  have hspot : spot = none := by simpa [Addr.add] using World.cell?_spot h0
  subst hspot
  have key : ∀ i u, i < 5 → (pqCells q)[i]? = some u → w.cell? ⟨b, off + j * 5 + i, none⟩ = some u := fun i u hi hu => by
    have := hc (j * 5 + i) u ((pq_at qs j q i hi hq).trans hu)
    rw [← this]
    congr 1
    unfold Addr.add
    split <;> simp <;> omega
  exact ⟨b, off, q, e, hq, by simpa using key 0 _ (by omega) rfl, key 1 _ (by omega) rfl, key 2 _ (by omega) rfl, key 3 _ (by omega) rfl, key 4 _ (by omega) rfl⟩

set_option maxRecDepth 20000 in
theorem newr_any (w : World) : Calls Try.prog 40 #[] w fun e w' => e = .returned (.pointer (some ⟨w.heap.size, 0, none⟩)) ∧ w.alloc (.cells #[.bool true, .slice none 0 0, .int .i64 0] 136) = w' := by
  go_enter Try.func40, Try.ntmps40
  go_wp2
  go_ret
  exact ⟨rfl, rfl⟩
set_option maxRecDepth 20000 in
set_option maxHeartbeats 1000000 in
theorem reset_any (g : Nat) (A : Option Addr) (n c : Nat) (d : Int) (w : World) (h : Blk w g 136 #[.bool true, .slice A n c, .int .i64 d]) (h1 : 0 ≤ d ∧ d ≤ 2305843009213693952) (h2 : n ≤ 2305843009213693952) :
    Calls Try.prog 71 #[.pointer (some ⟨g, 0, none⟩)] w fun e w' => e = .returned (.tuple #[]) ∧ ((w.setCell ⟨g, 2, none⟩ (.int .i64 (d + n))).setCell ⟨g, 1, none⟩ (.slice none 0 0)).drew = w' := by
  have c0 := h.cell 0
  have c1 := h.cell 1
  have c2 := h.cell 2
  have f1 := h.frozen 1
  have f2 := h.frozen 2
  simp at c0 c1 c2
  have l1 : IntKind.i64.wrap (d + (n : Int)) = d + (n : Int) := IntWalk.i64_in _ (by omega)
  go_enter Try.func71, Try.ntmps71
  go_upto_region 1 with fail
  go_still_tail 12, (by kernel_rfl)
  change wpList _ _ _ _ _ w.drew
  go_wp2_with fail
  refine Go.bodyPost_end (v := .tuple #[]) ?_ rfl ?_
  · simp [results, Try.results71, go_sem]
  exact ⟨rfl, rfl⟩
end Go.Proofs.Ytjhkfpemcplaaaa
