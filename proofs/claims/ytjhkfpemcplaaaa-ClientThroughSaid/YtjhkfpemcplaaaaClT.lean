/-
  The walks of Replies and Events. No statement of the seat is proved here.
-/
import Derived.Test.YtjhkfpemcplaaaaClS
namespace Go.Proofs.Ytjhkfpemcplaaaa
open Go.RowKit

def RpsP (w : World) (rs : List Rp) (e : Ending) (w' : World) : Prop := ∃ v l, e = .returned v ∧ RowK kR w.heap.size w' v l ∧ l.map (·.1) = rs ∧ Below w.heap.size w w'
set_option maxRecDepth 20000 in
set_option maxHeartbeats 4000000 in
theorem replies_any {base N : Nat} {p : Pa} {c : Cl} {w : World} (h : CA base w p c) (ok : c.Ok N) (hN : N ≤ 2199023255552) (hv : ∀ r ∈ c.reps, r.vals.length ≤ 32) :
    Calls Try.prog 25 #[.pointer (some ⟨p.g, 0, none⟩)] w (RpsP w c.reps) := by
  have c0 : w.cell? ⟨p.g, 0, none⟩ = some (.int .u64 (c.nonce : Int)) := h.cells 0
  have c5 : w.cell? ⟨p.g, 5, none⟩ = some p.rv := h.cells 5
  have HM := Lib.hid (made_at p.g c.nonce w c0)
  have d1 : decide (1 ≤ c.nonce) = true := by simpa using ok.no.1
  rw [d1] at HM
  have HS := Lib.hid h.rows.r
  have hri := h.rows.ri
  have hlen : p.rl.length ≤ 2199023255552 := by
    have e1 := congrArg List.length hri
    rw [List.length_map, ok.rl] at e1
    have := ok.rp
    have := ok.is
    omega
  obtain ⟨AS, cS, hrv, _, _⟩ := HS.out.form
  rw [hrv] at c5
  have hv' : ∀ q ∈ p.rl, q.1.vals.length ≤ 32 := fun q hq => hv _ (by rw [← hri]; exact List.mem_map_of_mem hq)
  have HV := Lib.hid hv'
  rw [← hri]
  generalize p.rl = qs at *
  generalize p.rv = rv at *
  subst hrv
  generalize p.g = g at *
  obtain ⟨i0, hi, hz0, hz1, hz2⟩ := info_parts info53
  have z53 : ∀ w : World, (zeroValue 53).run Try.prog w = .ok (.agg #[.int .i64 0, .slice none 0 0, .string ByteArray.empty]) w := fun w => by kernel_rfl
  clear h ok hv hv' hri d1 c0
  go_enter Try.func25, Try.ntmps25
  go_wp2_with (go_at_call 43; refine HM.out.mono ?_; rintro e w2 ⟨rfl, rfl⟩)
  go_loopw [3, 14] (fun v i wr => ∃ (k : Nat) (l : List (QX Rp)), k ≤ qs.length ∧ i = .int .i64 (k : Int) ∧ RowK kR w.heap.size wr v l ∧ l.map (·.1) = (qs.take k).map (·.1) ∧ Below w.heap.size w wr) (fun _ i _ => qs.length - (intOf i).toNat)
  case atStart => exact ⟨0, [], Nat.zero_le _, rfl, RowK.nil _ _ _, rfl, Below.refl _ _⟩
  case round =>
    obtain ⟨k, l, hk, rfl, hrow, hl, hb⟩ := hrel
    have HROW := Lib.hid hrow
    have HL := Lib.hid hl
    have HB := Lib.hid hb
    have hws := hb.size
    obtain ⟨Av, cv, rfl, _, _⟩ := hrow.form
    have hll : l.length = k := by
      have := congrArg List.length hl
      simp at this
      omega
    clear hrow hl hb
    by_cases hlt : k < qs.length
    · obtain ⟨q, hq⟩ : ∃ q, qs[k]? = some q := ⟨_, List.getElem?_eq_getElem hlt⟩
      obtain ⟨gb, cb, hbv, _, hgb, hcell⟩ := (HS.out.below HB.out).at_ kR_len hq
      injection hbv with hA _ hC
      subst hA
      subst hC
      have hqm := List.mem_of_getElem? hq
      have HQO := Lib.hid ((HS.out.below HB.out).els q hqm)
      have hq32 := HV.out q hqm
      have HNX : Hid ((qs.take (k + 1)).map (·.1) = (qs.take k).map (·.1) ++ [q.1]) := Lib.hid (by
        rw [List.take_add_one, hq]
        simp)
      obtain ⟨⟨er, vs, tx⟩, Aq, cq⟩ := q
      have e0 : wr.cell? ⟨gb, k * 3, none⟩ = some (.int .i64 er) := hcell 0 _ rfl
      have e1 : wr.cell? ⟨gb, k * 3 + 1, none⟩ = some (.slice Aq vs.length cq) := hcell 1 _ rfl
      have e2 : wr.cell? ⟨gb, k * 3 + 2, none⟩ = some (.string ⟨tx.toArray⟩) := hcell 2 _ rfl
      have l1 : (0 : Int) ≤ (k : Int) := by omega
      have l2 : (k : Int) < (qs.length : Int) := by omega
      have HLN := Lib.hid hll
      have HRD : Hid (Reads wr wr.heap.size 2 Aq vs.length (vcells vs)) := Lib.hid (Reads.of_own HQO.out)
      have HTO := Lib.hid fun o => told_any ⟨er, vs, tx⟩ Aq vs.length cq (wr.alloc o) ((HRD.out.below ((Below.refl _ _).alloc (Nat.le_refl _) o)).more (by simp)) rfl (by dsimp only at hq32; omega)
      clear hq hqm hll hcell hq32
      go_wp2_with (first
        | (go_at_call 55; refine (HTO.out _).mono ?_; rintro e w2 ⟨A2, c2, rfl, ho2, hb2⟩; have HB3 : Hid (Below wr.heap.size wr w2) := Lib.hid (((Below.refl _ _).alloc (Nat.le_refl _) _).trans (hb2.mono (by simp))); have HO2 : Hid (w2.ownsRow w.heap.size 68 2 (.slice A2 vs.length c2) vs.length (vcells vs)) := Lib.hid (own_base ho2 (by simp; omega)); have HROW3 := Lib.hid (HROW.out.below HB3.out); have HB4 := Lib.hid (HB.out.trans (HB3.out.mono hws)); have hw2s : w.heap.size ≤ w2.heap.size := HB4.out.size; clear ho2 hb2 e0 e1 e2)
        | (at_builtin; refine wpList_append_any _ rfl (.tmp 18) (.tmp 21) 63 rfl w.heap.size 53 i0 _ 3 48 Try.underlying63 hi hz0 hz1 hz2 rfl (by decide) (.slice Av l.length cv) l.length (kR.flat l) rfl (World.ownsRow.alloc HROW3.out.row _) _ _ 1 1 [.int .i64 er, .slice A2 vs.length c2, .string ⟨tx.toArray⟩] rfl (read_one _ [.int .i64 er, .slice A2 vs.length c2, .string ⟨tx.toArray⟩] 53) (by simp [Value.oneCell']) (by simp only [maxLen]; have := HLN.out; omega) (by have := HLN.out; omega) (by simp; omega) ?_; intro v4 w4 hr4 hg4 hv4; have HR4 := Lib.hid hr4; have HG4 := Lib.hid hg4; clear hr4 hg4 hv4))
      go_roundw
      case rel => exact ⟨k + 1, l ++ [(⟨er, vs, tx⟩, A2, c2)], by omega, by go_num, RowK.push (w := w2.alloc _) (q := (⟨er, vs, tx⟩, A2, c2)) ⟨World.ownsRow.alloc HROW3.out.row _, fun x hx => World.ownsRow.alloc (HROW3.out.els x hx) _⟩ (by decide) (World.ownsRow.alloc HO2.out _) HR4.out HG4.out, by rw [HNX.out, List.map_append, HL.out]; rfl, (HB4.out.alloc hw2s _).grown HG4.out (by simp; omega) fun k hk => (HROW3.out.lt (.inl hk)).1⟩
      case measure => simp [intOf]; omega
    · clear hll
      obtain rfl : k = qs.length := by omega
      have HE := Lib.hid HL.out
      rw [List.take_length] at HE
      go_wp2
      go_ret
      exact ⟨_, l, rfl, HROW.out, HE.out, HB.out⟩
end Go.Proofs.Ytjhkfpemcplaaaa
