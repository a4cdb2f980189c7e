/-
  The walk of Under f15 where there is a net: packets in new memory.
-/
import Derived.Test.YtbkgphmocjjmmaaNtN
namespace Go.Proofs.Ytbkgphmocjjmmaa
open Go.RowKit

/-- a row of packets, all of it new since w -/
structure UnX (w W : World) (v : Value) (l : List LP) : Prop where
  row : RowP W v l
  new : ∀ k, v.ownBlock = some k → w.heap.size ≤ k
  pks : ∀ p ∈ l, p.own W
  pnew : ∀ p ∈ l, ∀ k, p.blk = some k → w.heap.size ≤ k
  apart : l.Pairwise apartP
  old : Below w.heap.size w W
def UnP (w : World) (u : List Pk) (e : Ending) (w' : World) : Prop := ∃ v l, e = .returned v ∧ UnX w w' v l ∧ l.map LP.pk = u
section
variable {w W W2 W4 : World} {v v1 : Value} {l : List LP} {b : List UInt8} {A : Option Addr} {c : Nat} {num : Int} {o : Obj}
theorem UnX.start (w : World) : UnX w w (.slice none 0 0) [] :=
  ⟨World.ownsRow_nil w 0 36 2, fun k h => by simp [Value.ownBlock] at h, fun p h => by simp at h, fun p h => by simp at h, List.Pairwise.nil, Below.refl _ _⟩
theorem UnX.next (h : UnX w W v l) (hb : Below W.heap.size W W2) (ho : OwnB 5 W2 W.heap.size (.slice A b.length c) b)
    (hr : RowP W4 v1 (l ++ [⟨⟨num, b⟩, A, c⟩])) (hg : (W2.alloc o).grownBy W4 v.ownBlock) (hv : v1.ownBlock = v.ownBlock ∨ v1.ownBlock = some (W2.heap.size + 1)) : UnX w W4 v1 (l ++ [⟨⟨num, b⟩, A, c⟩]) := by
  have hs := h.old.size
  have hs2 := hb.size
  have hA : ∀ k, (⟨⟨num, b⟩, A, c⟩ : LP).blk = some k → W.heap.size ≤ k ∧ k < W2.heap.size := fun k e => ho.lt k e
  have hvl : ∀ k, v.ownBlock = some k → k < W.heap.size := fun k e => (World.ownsRow.lt h.row k e).2
  have keep : ∀ k, k < W2.heap.size → v.ownBlock ≠ some k → W4.heap[k]? = W2.heap[k]? := fun k hk hn =>
    (hg.block k (by simp; omega) (fun e => hn e.symm)).trans (Below.heap_alloc W2 o k hk)
  have hown : OwnB 5 W4 0 (.slice A b.length c) b := own_base (own_same ho fun k e => keep k (ho.lt k e).2 (fun e2 => by have := hvl k e2; have := (ho.lt k e).1; omega)) (Nat.zero_le _)
  refine ⟨hr, fun k e => ?_, fun p hp => ?_, fun p hp k e => ?_, ?_, ?_⟩
  · rcases hv with e2 | e2
    · exact h.new k (by rw [← e2]; exact e)
    · rw [e2] at e; injection e with e; omega
  · rcases List.mem_append.1 hp with hp | hp
    · exact own_same (h.pks p hp) fun k e => (keep k (by have := (World.ownsRow.lt (h.pks p hp) k e).2; omega) (fun e2 => own_apart (h.pks p hp) h.row (by decide) k e e2)).trans (hb.block k (World.ownsRow.lt (h.pks p hp) k e).2)
    · rw [List.mem_singleton] at hp
      subst hp
      exact hown
  · rcases List.mem_append.1 hp with hp | hp
    · exact h.pnew p hp k e
    · rw [List.mem_singleton] at hp
      subst hp
      have := (hA k e).1
      omega
  · rw [List.pairwise_append]
    refine ⟨h.apart, List.pairwise_singleton _ _, fun p hp q hq => ?_⟩
    rw [List.mem_singleton] at hq
    subst hq
    cases e : p.blk with
    | none => exact .inl e
    | some k => exact .inr (fun e2 => by
        have := (World.ownsRow.lt (h.pks p hp) k e).2
        have := (hA k (by rw [← e, e2])).1
        omega)
  · exact (h.old.trans (hb.mono hs)).trans (((Below.refl _ _).alloc (by omega) o).grown hg (by simp; omega) (fun k e => h.new k e) |>.mono (Nat.le_refl _))
end
theorem under_walk (g : Nat) (lim : Int) (s : Bool) (q : List LP) (A : Option Addr) (c : Nat) (w : World) (h0 : w.cell? ⟨g, 0, none⟩ = some (.int .i64 lim)) (hl : 0 < lim) (hu : w.cell? ⟨g, wayO s, none⟩ = some (.slice A q.length c)) (hr : RowP w (.slice A q.length c) q) (hp : ∀ p ∈ q, p.own w) (hq : q.length ≤ 64) (hb : ∀ p ∈ q, p.pk.bytes.length ≤ 140737488355328) :
    Calls Try.prog 15 #[.pointer (some ⟨g, 0, none⟩), .int .i64 (sideN s)] w (UnP w (q.map LP.pk)) := by
  have hm : decide (0 < lim) = true := by simpa using hl
  have hz : sideB (sideN s) = true := by cases s <;> rfl
  have H := Lib.hid (made_at g lim w h0)
  have HS := Lib.hid (side_any (sideN s) w)
  have HR := Lib.hid hr
  have HP := Lib.hid hp
  have HB := Lib.hid hb
  rw [hm] at H
  rw [hz] at HS
  have hlen : q.length ≤ 64 := hq
  obtain ⟨i0, hi, hz0, hz1, hz2⟩ := info_parts info36
  clear hm hz h0 hl hr hp hb hq
  cases s
  all_goals
    simp only [sideN, wayO] at *
    go_enter Try.func15, Try.ntmps15
    go_wp2_with (first | (go_at_call 32; refine HS.out.mono ?_; rintro e w' ⟨rfl, rfl⟩) | (go_at_call 31; refine H.out.mono ?_; rintro e w' ⟨rfl, rfl⟩))
    go_loopw [5, 7, 25] (fun v5 _ i wr => ∃ (k : Nat) (l : List LP), k ≤ q.length ∧ i = .int .i64 k ∧ UnX w wr v5 l ∧ l.map LP.pk = (q.map LP.pk).take k) (fun _ _ i _ => q.length - (intOf i).toNat)
    case atStart => exact ⟨0, [], Nat.zero_le _, rfl, UnX.start w, rfl⟩
    case round =>
      obtain ⟨k, l, hk, rfl, hx, hlk⟩ := hrel
      have HX := Lib.hid hx
      have HLK := Lib.hid hlk
      clear hx hlk
      by_cases hkq : k < q.length
      · obtain ⟨p, hpk⟩ : ∃ p, q[k]? = some p := ⟨_, List.getElem?_eq_getElem hkq⟩
        obtain ⟨gb, cb, hv, hgb, q0, q1⟩ := HR.out.at_ hpk
        have hpo := HP.out p (List.mem_of_getElem? hpk)
        have hpb := HB.out p (List.mem_of_getElem? hpk)
        rw [val_form] at q1
        have hs := HX.out.old.size
        have u0 : wr.cell? ⟨gb, k * 2, none⟩ = some (.int .i64 p.pk.num) := (HX.out.old.cell (p := ⟨gb, k * 2, none⟩) hgb).trans q0
        have u1 : wr.cell? ⟨gb, k * 2 + 1, none⟩ = some (.slice p.A p.pk.bytes.length p.c) := (HX.out.old.cell (p := ⟨gb, k * 2 + 1, none⟩) hgb).trans q1
        have HRD := Lib.hid ((OwnB.reads hpo rfl).below HX.out.old)
        have HT := Lib.hid (told_any p.pk.num p.A p.pk.bytes.length p.c w.heap.size p.pk.bytes (wr.alloc (.cells #[.int .i64 p.pk.num, .slice p.A p.pk.bytes.length p.c] 36)) (HRD.out.alloc hs _) (by simp; omega) hpb)
        have hb1 : Below wr.heap.size wr (wr.alloc (.cells #[.int .i64 p.pk.num, .slice p.A p.pk.bytes.length p.c] 36)) := (Below.refl _ _).alloc (Nat.le_refl _) _
        have HB1 := Lib.hid hb1
        have HLN : Hid (l.length = k) := Lib.hid (by
          have := congrArg List.length HLK.out
          simp at this; omega)
        have HLN1 : Hid ((l.map LP.pk) ++ [p.pk] = (q.map LP.pk).take (k + 1)) := Lib.hid (by
          rw [List.take_add_one, HLK.out, List.getElem?_map, hpk]; rfl)
        have hgw : gb < wr.heap.size := by omega
        have HV := Lib.hid hv
        injection hv with hA _ hcb
        subst hA hcb
        have l1 : (0 : Int) ≤ (k : Int) := by omega
        have l2 : (k : Int) < (q.length : Int) := by omega
        have HNB := Lib.hid (show l.length + 1 ≤ 140737488355328 / 32 by rw [HLN.out]; omega)
        clear q0 q1 hpo hpb hb1 HLK HRD hs hk
        go_wp2_with fail
        refine HT.out.mono ?_
        rintro e w2 ⟨A2, c2, rfl, ho2, hb2⟩
        have HO := Lib.hid ho2
        have HB2 := Lib.hid (HB1.out.trans (hb2.mono (by simp)))
        clear ho2 hb2 u0 u1
        obtain ⟨A5, c5, rfl, _, _⟩ := own_form HX.out.row
        go_wp2_with (at_builtin; refine wpList_append_any _ rfl (.tmp 29) (.tmp 32) 39 rfl 0 36 i0 _ 2 32 Try.underlying39 hi hz0 hz1 hz2 rfl (by decide) _ l.length (lpCells l) rfl (World.ownsRow.alloc (own_same HX.out.row fun k e => HB2.out.block k (World.ownsRow.lt HX.out.row k e).2) _) _ _ _ _ _ rfl (read_one2 _ _ _) (two_one _ _ _ _) (by have := HNB.out; simp only [maxLen]; omega) (by have := HNB.out; omega) (by omega) ?_; intro v1 w4 hown hgrow hv1; have HO4 := Lib.hid hown; have HG := Lib.hid hgrow; have HV1 := Lib.hid hv1; clear hown hgrow hv1)
        have HV2 : Hid (v1.ownBlock = (Value.slice A5 l.length c5).ownBlock ∨ v1.ownBlock = some (w2.heap.size + 1)) := Lib.hid (HV1.out.imp id fun e => by simpa using e)
        go_roundw
        case rel => exact ⟨k + 1, l ++ [⟨⟨p.pk.num, p.pk.bytes⟩, A2, c2⟩], hkq, by go_num, HX.out.next HB2.out (own_base HO.out (by simp)) (row_snoc (p := ⟨⟨p.pk.num, p.pk.bytes⟩, A2, c2⟩) HO4.out) HG.out HV2.out, by rw [List.map_append]; exact HLN1.out⟩
        case measure => simp [intOf]; omega
      · obtain rfl : k = q.length := by omega
        have HLN1 : Hid (l.map LP.pk = q.map LP.pk) := Lib.hid (by rw [HLK.out, List.take_of_length_le (by simp)])
        go_wp2
        go_ret
        exact ⟨_, l, rfl, HX.out, HLN1.out⟩
theorem under_any (g : Nat) (S : Ns) (v : Bool → Value) (l : Bool → List LP) (K : Int) (s : Bool) (w : World) (h : NetA w g S v l) (hk : S.ok K) (hb : ∀ p ∈ S.u s, p.bytes.length ≤ 140737488355328) :
    Calls Try.prog 15 #[.pointer (some ⟨g, 0, none⟩), .int .i64 (sideN s)] w (UnP w (S.u s)) := by
  obtain ⟨A, c, hv, _, _⟩ := own_form (h.row s)
  have hq := h.len s
  have h1 := hk.len s
  have h2 := hk.hi
  have hr : RowP w (.slice A (l s).length c) (l s) := by have := h.row s; rwa [hv] at this
  have := under_walk g S.limit s (l s) A c w (h.blk.cell 0) (by have := hk.lo; omega) (((h.blk.cell _).trans (layN_under _ _ _)).trans (by rw [hv])) hr (h.pks s) (by omega) (fun p hp => hb p.pk (by rw [← h.is s]; exact List.mem_map_of_mem hp))
  rwa [h.is s] at this
end Go.Proofs.Ytbkgphmocjjmmaa
