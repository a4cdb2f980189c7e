/-
  The walk of frames. No statement of the seat is proved here.
-/
import Derived.Test.YtjhkfpemcplaaaaClA
namespace Go.Proofs.Ytjhkfpemcplaaaa
open Go.RowKit

theorem info37 : (Try.prog.info? 37).map (fun i => (i.zero, i.size, i.bytes)) = some (some (.slice none 0 0), 1, 24) := by kernel_rfl
def FrP (base : Nat) (w : World) (fs : List (List UInt8)) (e : Ending) (w' : World) : Prop := ∃ v l, e = .returned v ∧ RowK kB base w' v l ∧ l.map (·.1) = fs ∧ Below w.heap.size w w'
theorem okPk_may {q : Pk} (h : okPk q) : mayB (q.kind : Int) q.body.length = true := h.1
set_option maxRecDepth 20000 in
set_option maxHeartbeats 4000000 in
theorem frames_any (A : Option Addr) (n c : Nat) (qs : List (Pk × Option Addr × Nat)) (w : World) (hr : PRd w A qs) (hn : n = qs.length) (hm : n ≤ 1000) (hok : ∀ q ∈ qs, okPk q.1) :
    Calls Try.prog 48 #[.slice A n c] w (FrP w.heap.size w (qs.map fun q => frm q.1)) := by
  subst hn
  have HR := Lib.hid hr
  have HOK := Lib.hid hok
  obtain ⟨i0, hi, hz0, hz1, hz2⟩ := info_parts info37
  have z39 : ∀ w : World, (zeroValue 39).run Try.prog w = .ok (.agg #[.int .i64 0, .int .u64 0, .int .u64 0, .int .u64 0, .slice none 0 0]) w := fun w => by kernel_rfl
  clear hr hok
  go_enter Try.func48, Try.ntmps48
  go_wp2
  go_loopw [3, 10] (fun v i wr => ∃ (k : Nat) (l : List (QX (List UInt8))), k ≤ qs.length ∧ i = .int .i64 (k : Int) ∧ RowK kB w.heap.size wr v l ∧ l.map (·.1) = (qs.take k).map (fun q => frm q.1) ∧ Below w.heap.size w wr) (fun _ i _ => qs.length - (intOf i).toNat)
  case atStart => exact ⟨0, [], Nat.zero_le _, rfl, RowK.nil _ _ _, rfl, Below.refl _ _⟩
  case round =>
    obtain ⟨k, l, hk, rfl, hrow, hl, hb⟩ := hrel
    have HROW := Lib.hid hrow
    have HL := Lib.hid hl
    have HB := Lib.hid hb
    have hws := hb.size
    obtain ⟨Av, cv, rfl, _, _⟩ := hrow.form
    have hll : l.length = k := by
      have := congrArg List.length hl
      simp at this
      omega
    clear hrow hl hb
    by_cases hlt : k < qs.length
    · obtain ⟨b, o, q, rfl, hq, e0, e1, e2, e3, e4⟩ := (HR.out.below HB.out).at5 hlt
      have hbw : b < wr.heap.size := World.block_lt_of_cell? _ _ e0
      have hqm := List.mem_of_getElem? hq
      have HRD := Lib.hid ((HR.out.below HB.out).2 q hqm)
      obtain ⟨hm1, hm2, hm3, hm4⟩ := HOK.out q hqm
      have HNX : Hid ((qs.take (k + 1)).map (fun q => frm q.1) = (qs.take k).map (fun q => frm q.1) ++ [frm q.1]) := Lib.hid (by
        rw [List.take_add_one, hq]
        simp)
      have HP := Lib.hid fun o => pack_ok (q.1.kind : Int) q.1.tok q.1.seq q.1.ack q.2.1 q.1.body.length q.2.2 q.1.body (wr.alloc o) (((HRD.out.below ((Below.refl _ _).alloc (Nat.le_refl _) o)).more (by simp))) hm1 hm2 hm3 hm4
      have l1 : (0 : Int) ≤ (k : Int) := by omega
      have l2 : (k : Int) < (qs.length : Int) := by omega
      have HLN := Lib.hid hll
      have HFR : Hid (packB (q.1.kind : Int) q.1.tok q.1.seq q.1.ack q.1.body = frm q.1) := Lib.hid rfl
      rw [HFR.out] at HP
      clear hq hqm hm1 hm2 hm3 hm4 hll
      obtain ⟨⟨qk, qt, qs', qa, qb⟩, Aq, cq⟩ := q
      dsimp only at e0 e1 e2 e3 e4 HP HRD
      generalize hfr : frm _ = fr at *
      go_upto_region 6 with (go_at_call 72; refine (HP.out _).mono ?_; rintro e w2 ⟨v2, rfl, ho2, hb2⟩; have HO2 := Lib.hid ho2; have HB2 := Lib.hid hb2; clear ho2 hb2)
      have HB3 : Hid (Below wr.heap.size wr w2) := Lib.hid (((Below.refl _ _).alloc (Nat.le_refl _) _).trans (HB2.out.mono (by simp)))
      have HROW3 := Lib.hid (HROW.out.below HB3.out)
      have HB4 := Lib.hid (HB.out.trans (HB3.out.mono hws))
      clear HB2 HB3 HP HROW HB e0 e1 e2 e3 e4
      obtain ⟨A2, c2, rfl, _, _⟩ := HO2.out.form
      have HQ2 : Hid (w2.ownsRow w.heap.size 5 1 (kB.val (fr, A2, c2)) (kB.n fr) (kB.xs fr)) := Lib.hid (own_base HO2.out (by simp; omega))
      have hw2s : w.heap.size ≤ w2.heap.size := HB4.out.size
      go_wp2_with (at_builtin; refine wpList_append_any _ rfl (.tmp 21) (.tmp 23) 31 rfl w.heap.size 37 i0 _ 1 24 Try.underlying31 hi hz0 hz1 hz2 rfl (by decide) (.slice Av l.length cv) l.length (kB.flat l) rfl (World.ownsRow.alloc HROW3.out.row _) _ _ 1 1 [.slice A2 fr.length c2] rfl (Reads.built _ 37 [.slice A2 fr.length c2]) (by simp [Value.oneCell']) (by simp only [maxLen]; have := HLN.out; omega) (by have := HLN.out; omega) (by simp; omega) ?_; intro v4 w4 hr4 hg4 hv4; have HR4 := Lib.hid hr4; have HG4 := Lib.hid hg4; clear hr4 hg4 hv4)
      go_roundw
      case rel => exact ⟨k + 1, l ++ [(fr, A2, c2)], by omega, by go_num, RowK.push (w := w2.alloc _) ⟨World.ownsRow.alloc HROW3.out.row _, fun x hx => World.ownsRow.alloc (HROW3.out.els x hx) _⟩ (by decide) (World.ownsRow.alloc HQ2.out _) HR4.out HG4.out, by rw [HNX.out, List.map_append, HL.out]; rfl, (HB4.out.alloc hw2s _).grown HG4.out (by simp; omega) fun k hk => (HROW3.out.lt (.inl hk)).1⟩
      case measure => simp [intOf]; omega
    · obtain rfl : k = qs.length := by omega
      have HE := Lib.hid HL.out
      rw [List.take_length] at HE
      go_wp2
      go_ret
      exact ⟨_, l, rfl, HROW.out, HE.out, HB.out⟩
end Go.Proofs.Ytjhkfpemcplaaaa
