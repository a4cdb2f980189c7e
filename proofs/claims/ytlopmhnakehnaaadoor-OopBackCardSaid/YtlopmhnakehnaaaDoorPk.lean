/-
  Bytes in words: the plain law, and the contracts of PackBytes and of the document's PackBytes.
-/
import Derived.Test.YtlopmhnakehnaaaDoorLawS
import Derived.Test.YtlopmhnakehnaaaDoorWordsO
import Derived.RegionTactic
import Derived.StillTailTactics
import Derived.BigQuiet
import Derived.Deep.QuietTactic
import Derived.Deep.DeepCutAuto
import Derived.Deep.RegionLaw
namespace Go.Proofs.YtlopmhnakehnaaaDoor
open Go.RowKit

/-- word i behind k bytes -/
def pk (bs : List UInt8) : Nat → Nat → Nat
  | 0, _ => 0
  | k + 1, i => if i = k / 4 then pk bs k i + (bs.getD k 0).toNat * 256 ^ (k % 4) else pk bs k i
theorem pk_succ (bs : List UInt8) (k i : Nat) : pk bs (k + 1) i = if i = k / 4 then pk bs k i + (bs.getD k 0).toNat * 256 ^ (k % 4) else pk bs k i := rfl
theorem pow4 {r : Nat} (h : r < 4) : 256 ^ r = 1 ∧ r = 0 ∨ 256 ^ r = 256 ∧ r = 1 ∨ 256 ^ r = 65536 ∧ r = 2 ∨ 256 ^ r = 16777216 ∧ r = 3 := by
  obtain rfl | rfl | rfl | rfl : r = 0 ∨ r = 1 ∨ r = 2 ∨ r = 3 := by omega
  all_goals simp
theorem pk_lt (bs : List UInt8) : ∀ k i, pk bs k i < 256 ^ (min (k - 4 * i) 4) := by
  intro k
  induction k with
  | zero => intro i; simp [pk]
  | succ k ih =>
    intro i
    have h := ih i
    unfold pk
    split
    · rename_i e
      have hb := u8_lt (bs.getD k 0)
      have e1 : min (k - 4 * i) 4 = k % 4 := by omega
      have e2 : min (k + 1 - 4 * i) 4 = k % 4 + 1 := by omega
      rw [e1] at h
      rw [e2, Nat.pow_succ]
      generalize 256 ^ (k % 4) = P at h ⊢
      have : (bs.getD k 0).toNat * P ≤ 255 * P := Nat.mul_le_mul_right _ (by omega)
      omega
    · rename_i e
      by_cases hi : i < k / 4
      · have e1 : min (k - 4 * i) 4 = 4 := by omega
        have e2 : min (k + 1 - 4 * i) 4 = 4 := by omega
        rw [e2]
        rwa [e1] at h
      · have e1 : min (k - 4 * i) 4 = 0 := by omega
        rw [e1] at h
        have : pk bs k i = 0 := by simpa using h
        rw [this]
        exact Nat.pow_pos (by decide)
theorem pk_lt32 (bs : List UInt8) (k i : Nat) : pk bs k i < 4294967296 :=
  Nat.lt_of_lt_of_le (pk_lt bs k i) (Nat.le_trans (Nat.pow_le_pow_right (by decide) (Nat.min_le_right _ _)) (by decide))
theorem pk_here (bs : List UInt8) (k : Nat) : pk bs k (k / 4) < 256 ^ (k % 4) := by
  have h := pk_lt bs k (k / 4)
  have e1 : min (k - 4 * (k / 4)) 4 = k % 4 := by omega
  rwa [e1] at h
/-- the words of bytes -/
def packW (bs : List UInt8) : List Nat := (List.range ((bs.length + 3) / 4)).map (pk bs bs.length)
theorem packW_len (bs : List UInt8) : (packW bs).length = (bs.length + 3) / 4 := by simp [packW]
/-- what the program lays in -/
theorem pk_or {p x : Nat} {r : Nat} (hr : r < 4) (hp : p < 256 ^ r) (hx : x < 256) : bits .or .u32 (p : Int) ((x : Int) * 2 ^ (8 * r)) = ((p + x * 256 ^ r : Nat) : Int) := by
  have e : ((x : Int) * 2 ^ (8 * r)) = ((x * 256 ^ r : Nat) : Int) := by
    rw [Int.natCast_mul, Int.natCast_pow, show (2 : Int) ^ (8 * r) = (2 ^ 8) ^ r from by rw [Int.pow_mul]]
    rfl
  rw [e]
  have e8 : 256 ^ r = 2 ^ (8 * r) := by rw [Nat.pow_mul]
  have h32 : x * 256 ^ r < 4294967296 := by
    obtain ⟨h, _⟩ | ⟨h, _⟩ | ⟨h, _⟩ | ⟨h, _⟩ := pow4 hr <;> rw [h] <;> omega
  have p32 : p < 4294967296 := by
    obtain ⟨h, _⟩ | ⟨h, _⟩ | ⟨h, _⟩ | ⟨h, _⟩ := pow4 hr <;> rw [h] at hp <;> omega
  rw [u32_or_nat _ _ p32 h32, Nat.or_comm, nat_join (8 * r) (x * 256 ^ r) p (by rw [e8]; exact Nat.mul_mod_left _ _) (by rw [← e8]; exact hp)]
  omega
theorem pk_or' {p x : Nat} {r : Nat} (hr : r < 4) (hp : p < 256 ^ r) (hx : x < 256) : bits .or .u32 (p : Int) ((x : Int) % 4294967296 * 2 ^ (8 * r) % 4294967296) = ((p + x * 256 ^ r : Nat) : Int) := by
  have e1 : (x : Int) % 4294967296 = (x : Int) := by omega
  have e2 : (x : Int) * 2 ^ (8 * r) % 4294967296 = (x : Int) * 2 ^ (8 * r) := by
    obtain rfl | rfl | rfl | rfl : r = 0 ∨ r = 1 ∨ r = 2 ∨ r = 3 := by omega
    all_goals simp; omega
  rw [e1, e2]
  exact pk_or hr hp hx
theorem info22 : (Tryd.prog.info? 22).map (fun i => (i.zero, i.size, i.bytes)) = some (some (.int .u32 0), 1, 4) := by kernel_rfl
theorem Reads.of_rowIs {w : World} {g n : Nat} {f : Nat → Nat} (h : w.rowIs g 22 n (fun i => .int .u32 (f i : Int))) : RdW w w.heap.size (some ⟨g, 0, none⟩) n ((List.range n).map f) := by
  refine ⟨by simp, fun _ => ⟨_, rfl, h.lt, fun j u hu => ?_⟩⟩
  have e : (⟨g, 0, none⟩ : Addr).add j = ⟨g, j, none⟩ := by unfold Addr.add; split <;> simp_all
  rw [e]
  by_cases hj : j < n
  · rw [h.cell hj]
    simpa [hj, wv] using hu
  · rw [List.getElem?_eq_none (by simp; omega)] at hu
    cases hu

set_option maxRecDepth 20000 in
set_option maxHeartbeats 4000000 in
theorem packb_any (A : Option Addr) (c : Nat) (bs : List UInt8) (w : World) (h : RdB w w.heap.size A bs.length bs) (hn : bs.length ≤ 262140) :
    Calls Tryd.prog 27 #[.slice A bs.length c] w fun e w' => ∃ g F : Nat, F = (bs.length + 3) / 4 ∧ e = .returned (.tuple #[.slice (some ⟨g, 0, none⟩) F F, .int .i64 (4 * (F : Int) - bs.length), .int .i64 0]) ∧ Below w.heap.size w w' ∧ w'.rowIs g 22 F (fun i => .int .u32 (pk bs bs.length i : Nat)) ∧ w.heap.size ≤ g := by
  obtain ⟨i0, hi, hz0, hz1, hz2⟩ := info_parts info22
  have H := Lib.hid h
  clear h
  obtain ⟨F, hF⟩ : ∃ F, F = (bs.length + 3) / 4 := ⟨_, rfl⟩
  have HF := Lib.hid hF
  have hF2 : F ≤ 65535 := by omega
  have hmk := fun w => run_make_rowN (P := Tryd.prog) 54 22 i0 (.int .u32 0) Tryd.underlying54 hi hz0 .i64 .i64 F F (Nat.le_refl _) (by rw [hz2]; omega) (by omega) w
  rw [hz1] at hmk
  have hcd : ((bs.length : Int) + 3) / 4 = (F : Int) := by omega
  clear hi hz0 hz1 hz2 hF
  go_enter Tryd.func27, Tryd.ntmps27
  go_wp2_with (go_at_call 17; refine (length_in (bs.length : Int) _ (by omega) (by omega)).mono ?_; rintro e w' ⟨rfl, rfl⟩)
  have hrow := World.rowIs_made w (.int .u32 0) F 22
  have hbel : Below w.heap.size w (w.alloc (.cells (madeCells #[.int .u32 0] F) 22)) := (Below.refl _ _).alloc (Nat.le_refl _) _
  have HN := Lib.hid hn
  clear hmk hcd
  obtain ⟨g, HG⟩ : ∃ g, Hid (w.heap.size = g) := ⟨_, rfl⟩
  rw [HG.out] at hrow
  have hg : w.heap.size ≤ g := by have := HG.out; omega
  rw [HG.out]
  go_loopw [24] (fun i wr => ∃ k : Nat, k ≤ bs.length ∧ i = .int .i64 k ∧ Below w.heap.size w wr ∧ wr.rowIs g 22 F (fun j => .int .u32 (pk bs k j : Nat))) (fun i _ => bs.length - (intOf i).toNat)
  case atStart => exact ⟨0, Nat.zero_le _, rfl, hbel, hrow⟩
  case round =>
    clear hrow hbel
    obtain ⟨k, hk, rfl, hb, hr⟩ := hrel
    by_cases hlt : k < bs.length
    · obtain ⟨ad, x, rfl, hb1, hx, hc⟩ := (H.out.below hb).byte hlt
      have hx' : bs.getD k 0 = x := by rw [List.getD, hx]; rfl
      obtain ⟨q, hq⟩ : ∃ q, k / 4 = q := ⟨_, rfl⟩
      obtain ⟨r, hr4⟩ : ∃ r, k % 4 = r := ⟨_, rfl⟩
      have hr4' : r < 4 := by omega
      have hqF : q < F := by have := HF.out; omega
      have hcell := hr.cell (i := q) hqF
      have hfz := hr.frozen q
      have hor := pk_or' (p := pk bs k q) (x := x.toNat) (r := r) hr4' (by rw [← hq, ← hr4]; exact pk_here bs k) (u8_lt x)
      have HR := Lib.hid hr
      have HB := Lib.hid hb
      have l1 : (0 : Int) ≤ (k : Int) := by omega
      have l2 : (k : Int) < (bs.length : Int) := by omega
      have l3 : (q : Int) < (F : Int) := by omega
      have l4 : (0 : Int) ≤ (q : Int) := by omega
      have l5 : (0 : Int) ≤ 8 * (r : Int) := by omega
      have l6 : 8 * (r : Int) < 32 := by omega
      have l7 : (k : Int).tdiv 4 = (q : Int) := by rw [Int.tdiv_eq_ediv_of_nonneg (by omega)]; omega
      have l8 : (k : Int).tmod 4 = (r : Int) := by rw [Int.tmod_eq_emod_of_nonneg (by omega)]; omega
      have l9 : IntKind.i64.wrap (q : Int) = (q : Int) := IntWalk.i64_in _ (by omega)
      have l10 : IntKind.i64.wrap (r : Int) = (r : Int) := IntWalk.i64_in _ (by omega)
      have l11 : IntKind.i64.wrap (8 * (r : Int)) = 8 * (r : Int) := IntWalk.i64_in _ (by omega)
      have HX := Lib.hid hx'
      have HQ := Lib.hid hq
      have HR4 := Lib.hid hr4
      clear hr hb hx hb1 hx' hq hr4
      go_wp2
      go_still_tail 13, (by kernel_rfl)
      change wpList _ _ _ _ _ wr.drew
      go_wp2
      go_roundw
      case rel => exact ⟨k + 1, by omega, by go_num, (HB.out.setCell hg _).drew, (((HR.out.set q _).drew).congr fun j hj => by
        show _ = Value.int .u32 ((pk bs (k + 1) j : Nat) : Int)
        rw [pk_succ, HQ.out, HX.out, HR4.out]
        split
        · rename_i e; subst e; rfl
        · rfl)⟩
      case measure => simp [intOf]; omega
    · obtain rfl : k = bs.length := by omega
      go_wp2
      exact bodyPost_ret (v := .tuple #[.slice (some ⟨g, 0, none⟩) F F, .int .i64 (4 * (F : Int) - bs.length), .int .i64 0]) (by simp [results, Tryd.results27, go_sem]) rfl ⟨g, F, HF.out, rfl, hb, hr, hg⟩
end Go.Proofs.YtlopmhnakehnaaaDoor
