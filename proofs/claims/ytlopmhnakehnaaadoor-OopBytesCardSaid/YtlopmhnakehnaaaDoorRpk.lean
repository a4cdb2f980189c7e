/-
  The contract of the document's PackBytes.
-/
import Derived.Test.YtlopmhnakehnaaaDoorPk
namespace Go.Proofs.YtlopmhnakehnaaaDoor
open Go.RowKit

theorem low {x r t : Nat} (hx : x < 256) (hr : r < 4) (ht : t < r) : x * 256 ^ t < 16777216 := by
  obtain ⟨h, _⟩ | ⟨h, _⟩ | ⟨h, _⟩ | ⟨h, _⟩ := pow4 (r := t) (by omega) <;> rw [h] <;> omega
theorem sum_lt {p x r : Nat} (hr : r < 4) (hp : p < 256 ^ r) (hx : x < 256) : p + x * 256 ^ r < 4294967296 := by
  obtain ⟨h, _⟩ | ⟨h, _⟩ | ⟨h, _⟩ | ⟨h, _⟩ := pow4 hr <;> rw [h] at hp ⊢ <;> omega
set_option maxRecDepth 20000 in
set_option maxHeartbeats 4000000 in
theorem rpackb_any (A : Option Addr) (c : Nat) (bs : List UInt8) (w : World) (h : RdB w w.heap.size A bs.length bs) (hn : bs.length ≤ 262140) :
    Calls Tryd.prog 31 #[.slice A bs.length c] w fun e w' => ∃ g F : Nat, F = (bs.length + 3) / 4 ∧ e = .returned (.slice (some ⟨g, 0, none⟩) F F) ∧ Below w.heap.size w w' ∧ w'.rowIs g 22 F (fun i => .int .u32 (pk bs bs.length i : Nat)) ∧ w.heap.size ≤ g := by
  obtain ⟨i0, hi, hz0, hz1, hz2⟩ := info_parts info22
  have H := Lib.hid h
  clear h
  obtain ⟨F, hF⟩ : ∃ F, F = (bs.length + 3) / 4 := ⟨_, rfl⟩
  have HF := Lib.hid hF
  have hF2 : F ≤ 65535 := by omega
  have hmk := fun w => run_make_rowN (P := Tryd.prog) 54 22 i0 (.int .u32 0) Tryd.underlying54 hi hz0 .i64 .i64 F F (Nat.le_refl _) (by rw [hz2]; omega) (by omega) w
  rw [hz1] at hmk
  have hcd : ((bs.length : Int) + 3) / 4 = (F : Int) := by omega
  clear hi hz0 hz1 hz2 hF
  go_enter Tryd.func31, Tryd.ntmps31
  go_wp2_with (go_at_call 18; refine (rlength_in (bs.length : Int) _ (by omega) (by omega)).mono ?_; rintro e w' ⟨rfl, rfl⟩)
  have hrow := World.rowIs_made w (.int .u32 0) F 22
  have hbel : Below w.heap.size w (w.alloc (.cells (madeCells #[.int .u32 0] F) 22)) := (Below.refl _ _).alloc (Nat.le_refl _) _
  clear hmk hcd
  obtain ⟨g, HG⟩ : ∃ g, Hid (w.heap.size = g) := ⟨_, rfl⟩
  rw [HG.out] at hrow
  have hg : w.heap.size ≤ g := by have := HG.out; omega
  rw [HG.out]
  go_loopw [6] (fun i wr => ∃ k : Nat, k ≤ bs.length ∧ i = .int .i64 k ∧ Below w.heap.size w wr ∧ wr.rowIs g 22 F (fun j => .int .u32 (pk bs k j : Nat))) (fun i _ => bs.length - (intOf i).toNat)
  case atStart => exact ⟨0, Nat.zero_le _, rfl, hbel, hrow⟩
  case round =>
    clear hrow hbel
    obtain ⟨k, hk, rfl, hb, hr⟩ := hrel
    by_cases hlt : k < bs.length
    · obtain ⟨ad, x, rfl, hb1, hx, hc⟩ := (H.out.below hb).byte hlt
      have hx' : bs.getD k 0 = x := by rw [List.getD, hx]; rfl
      obtain ⟨q, hq⟩ : ∃ q, k / 4 = q := ⟨_, rfl⟩
      obtain ⟨r, hr4⟩ : ∃ r, k % 4 = r := ⟨_, rfl⟩
      have hr4' : r < 4 := by omega
      have hqF : q < F := by have := HF.out; omega
      have HCELL := Lib.hid (hr.cell (i := q) hqF)
      have hfz := hr.frozen q
      have HSUM := Lib.hid (sum_lt (p := pk bs k q) (x := x.toNat) (r := r) hr4' (by rw [← hq, ← hr4]; exact pk_here bs k) (u8_lt x))
      have HLOW := Lib.hid fun t (ht : t < r) => low (x := x.toNat) (u8_lt x) hr4' ht
      have hx256 := u8_lt x
      have HR := Lib.hid hr
      have HB := Lib.hid hb
      have l1 : (0 : Int) ≤ (k : Int) := by omega
      have l2 : (k : Int) < (bs.length : Int) := by omega
      have HX := Lib.hid hx'
      have HQ := Lib.hid hq
      have HR4 := Lib.hid hr4
      have l8 : (k : Int) % 4 = (r : Int) := by omega
      have HQ2 : Hid ((k : Int) / 4 = (q : Int)) := Lib.hid (by omega)
      clear hr hb hx hb1 hx' hq hr4
      go_wp2
      go_loop [7, 8] (fun v j => ∃ t : Nat, t ≤ r ∧ j = .int .i64 t ∧ v = .int .u32 (x.toNat * 256 ^ t : Nat)) (fun _ j => r - (intOf j).toNat)
      case atStart => exact ⟨0, Nat.zero_le _, rfl, by go_num⟩
      case round =>
        obtain ⟨t, ht, rfl, rfl⟩ := hrel
        by_cases htr : t < r
        · have hl := HLOW.out t htr
          have HP : Hid (x.toNat * 256 ^ (t + 1) = x.toNat * 256 ^ t * 256) := Lib.hid (by rw [Nat.pow_succ, Nat.mul_assoc])
          generalize x.toNat * 256 ^ t = v at hl HP ⊢
          go_wp2
          go_round
          case rel => exact ⟨t + 1, by omega, by go_num, by rw [HP.out]; congr 1⟩
          case measure => simp [intOf]; omega
        · obtain rfl : t = r := by omega
          have hsum := HSUM.out
          have hcell := HCELL.out
          obtain ⟨v, HV⟩ : ∃ v, Hid (x.toNat * 256 ^ t = v) := ⟨_, rfl⟩
          obtain ⟨p, HP⟩ : ∃ p, Hid (pk bs k q = p) := ⟨_, rfl⟩
          rw [HV.out, HP.out] at hsum
          rw [HP.out] at hcell
          rw [HV.out]
          have hq2 := HQ2.out
          have l3 : (q : Int) < (F : Int) := by omega
          have l4 : (0 : Int) ≤ (q : Int) := by omega
          go_wp2
          go_roundw
          case rel => exact ⟨k + 1, by omega, by go_num, HB.out.setCell hg _, ((HR.out.set q _).congr fun j hj => by
            show _ = Value.int .u32 ((pk bs (k + 1) j : Nat) : Int)
            rw [pk_succ, HQ.out, HX.out, HR4.out]
            split
            · rename_i e; subst e; rw [HV.out, HP.out]; simp
            · rfl)⟩
          case measure => simp [intOf]; omega
    · obtain rfl : k = bs.length := by omega
      go_wp2
      go_ret
      exact ⟨g, F, HF.out, rfl, hb, hr, hg⟩
end Go.Proofs.YtlopmhnakehnaaaDoor
