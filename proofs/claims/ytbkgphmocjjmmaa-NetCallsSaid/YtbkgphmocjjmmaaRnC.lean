/-
  The walk of the document's Under f41.
-/
import Derived.Test.YtbkgphmocjjmmaaRnB
namespace Go.Proofs.Ytbkgphmocjjmmaa
open Go.RowKit

theorem runder_no (g : Nat) (z : Int) (w : World) (hz : sideB z = false) : Calls Try.prog 41 #[.pointer (some ⟨g, 0, none⟩), .int .i64 z] w fun e w' => e = .returned (.slice none 0 0) ∧ w = w' := by
  have hz' : z < 1 ∨ 2 < z := by simp [sideB] at hz; omega
  clear hz
  by_cases t1 : z < 1
  · go_enter Try.func41, Try.ntmps41
    go_wp2
    go_ret
    exact ⟨rfl, rfl⟩
  · have t2 : 2 < z := by omega
    clear hz'
    go_enter Try.func41, Try.ntmps41
    go_wp2
    go_ret
    exact ⟨rfl, rfl⟩
set_option maxRecDepth 20000 in
set_option maxHeartbeats 1000000 in
theorem runder_walk (g : Nat) (s : Bool) (q : List LP) (A : Option Addr) (c : Nat) (w : World) (hu : w.cell? ⟨g, rwayO s, none⟩ = some (.slice A q.length c)) (hg : g < w.heap.size) (hr : RowP w (.slice A q.length c) q) (hp : ∀ p ∈ q, p.own w) (hq : q.length ≤ 64) (hb : ∀ p ∈ q, p.pk.bytes.length ≤ 140737488355328) :
    Calls Try.prog 41 #[.pointer (some ⟨g, 0, none⟩), .int .i64 (sideN s)] w (UnP w (q.map LP.pk)) := by
  have HR := Lib.hid hr
  have HP := Lib.hid hp
  have HB := Lib.hid hb
  have HUC := Lib.hid fun (W : World) (h : Below w.heap.size w W) => (h.cell (p := ⟨g, rwayO s, none⟩) hg).trans hu
  have hlen : q.length ≤ 64 := hq
  obtain ⟨i0, hi, hz0, hz1, hz2⟩ := info_parts info36
  clear hr hp hb hq hu
  cases s
  all_goals
    simp only [sideN, rwayO] at *
    go_enter Try.func41, Try.ntmps41
    go_wp2_with fail
    go_loopw [5, 6] (fun v5 i wr => ∃ (k : Nat) (l : List LP), k ≤ q.length ∧ i = .int .i64 k ∧ UnX w wr v5 l ∧ l.map LP.pk = (q.map LP.pk).take k) (fun _ i _ => q.length - (intOf i).toNat)
    case atStart => exact ⟨0, [], Nat.zero_le _, rfl, UnX.start w, rfl⟩
    case round =>
      obtain ⟨k, l, hk, rfl, hx, hlk⟩ := hrel
      have HX := Lib.hid hx
      have HLK := Lib.hid hlk
      have u9 := HUC.out _ hx.old
      clear hx hlk
      by_cases hkq : k < q.length
      · obtain ⟨p, hpk⟩ : ∃ p, q[k]? = some p := ⟨_, List.getElem?_eq_getElem hkq⟩
        obtain ⟨gb, cb, hv, hgb, q0, q1⟩ := HR.out.at_ hpk
        have hpo := HP.out p (List.mem_of_getElem? hpk)
        have hpb := HB.out p (List.mem_of_getElem? hpk)
        rw [val_form] at q1
        have hs := HX.out.old.size
        have u0 : wr.cell? ⟨gb, k * 2, none⟩ = some (.int .i64 p.pk.num) := (HX.out.old.cell (p := ⟨gb, k * 2, none⟩) hgb).trans q0
        have u1 : wr.cell? ⟨gb, k * 2 + 1, none⟩ = some (.slice p.A p.pk.bytes.length p.c) := (HX.out.old.cell (p := ⟨gb, k * 2 + 1, none⟩) hgb).trans q1
        have HRD := Lib.hid ((OwnB.reads hpo rfl).below HX.out.old)
        have HT := Lib.hid (twin_any p.pk.num p.A p.pk.bytes.length p.c w.heap.size p.pk.bytes wr HRD.out hs hpb)
        have HLN : Hid (l.length = k) := Lib.hid (by
          have := congrArg List.length HLK.out
          simp at this; omega)
        have HLN1 : Hid ((l.map LP.pk) ++ [p.pk] = (q.map LP.pk).take (k + 1)) := Lib.hid (by
          rw [List.take_add_one, HLK.out, List.getElem?_map, hpk]; rfl)
        have hgw : gb < wr.heap.size := by omega
        have hgg : g < wr.heap.size := by omega
        injection hv with hA _ hcb
        subst hA hcb
        have l1 : (0 : Int) ≤ (k : Int) := by omega
        have l2 : (k : Int) < (q.length : Int) := by omega
        have HNB := Lib.hid (show l.length + 1 ≤ 140737488355328 / 32 by rw [HLN.out]; omega)
        clear q0 q1 hpo hpb HLK HRD hs hk
        go_wp2_with fail
        refine HT.out.mono ?_
        rintro e w2 ⟨A2, c2, rfl, ho2, hb2⟩
        have HO := Lib.hid ho2
        have HB2 := Lib.hid hb2
        clear ho2 hb2 u0 u1 u9
        obtain ⟨A5, c5, rfl, _, _⟩ := own_form HX.out.row
        go_wp2_with (at_builtin; refine wpList_append_any _ rfl (.tmp 25) (.tmp 37) 39 rfl 0 36 i0 _ 2 32 Try.underlying39 hi hz0 hz1 hz2 rfl (by decide) _ l.length (lpCells l) rfl (World.ownsRow.alloc (own_same HX.out.row fun k e => HB2.out.block k (World.ownsRow.lt HX.out.row k e).2) _) _ _ _ _ _ rfl (read_one2 _ _ _) (two_one _ _ _ _) (by have := HNB.out; simp only [maxLen]; omega) (by have := HNB.out; omega) (by omega) ?_; intro v1 w4 hown hgrow hv1; have HO4 := Lib.hid hown; have HG := Lib.hid hgrow; have HV1 := Lib.hid hv1; clear hown hgrow hv1)
        have HV2 : Hid (v1.ownBlock = (Value.slice A5 l.length c5).ownBlock ∨ v1.ownBlock = some (w2.heap.size + 1)) := Lib.hid (HV1.out.imp id fun e => by simpa using e)
        go_roundw
        case rel => exact ⟨k + 1, l ++ [⟨⟨p.pk.num, p.pk.bytes⟩, A2, c2⟩], hkq, by go_num, HX.out.next HB2.out HO.out (row_snoc (p := ⟨⟨p.pk.num, p.pk.bytes⟩, A2, c2⟩) HO4.out) HG.out HV2.out, by rw [List.map_append]; exact HLN1.out⟩
        case measure => simp [intOf]; omega
      · obtain rfl : k = q.length := by omega
        have HLN1 : Hid (l.map LP.pk = q.map LP.pk) := Lib.hid (by rw [HLK.out, List.take_of_length_le (by simp)])
        go_wp2
        go_ret
        exact ⟨_, l, rfl, HX.out, HLN1.out⟩
theorem runder_any (g : Nat) (S : Ns) (v : Bool → Value) (l : Bool → List LP) (K : Int) (s : Bool) (w : World) (h : NetR w g S v l) (hk : S.ok K) (hb : ∀ p ∈ S.u s, p.bytes.length ≤ 140737488355328) :
    Calls Try.prog 41 #[.pointer (some ⟨g, 0, none⟩), .int .i64 (sideN s)] w (UnP w (S.u s)) := by
  obtain ⟨A, c, hv, _, _⟩ := own_form (h.row s)
  have hq := h.len s
  have h1 := hk.len s
  have h2 := hk.hi
  have hr : RowP w (.slice A (l s).length c) (l s) := by have := h.row s; rwa [hv] at this
  have := runder_walk g s (l s) A c w (((h.blk.cell _).trans (layR_under _ _ _)).trans (by rw [hv])) h.blk.lt hr (h.pks s) (by omega) (fun p hp => hb p.pk (by rw [← h.is s]; exact List.mem_map_of_mem hp))
  rwa [h.is s] at this
end Go.Proofs.Ytbkgphmocjjmmaa
