/-
  The program's lay f45, fits f31, encode f32, Encode f10. No statement of the seat is proved here.
-/
import Derived.Test.YtaeegkljldngmaaDoorWd
namespace Go.Proofs.YtaeegkljldngmaaDoor
open Go.RowKit

def by8 (n : Int) : UInt8 := UInt8.ofNat (n % 256).toNat
theorem by8_nat (n : Int) : ((by8 n).toNat : Int) = n % 256 := by
  have h1 := Int.emod_nonneg n (show (256 : Int) ≠ 0 by decide)
  have h2 := Int.emod_lt_of_pos n (show (0 : Int) < 256 by decide)
  unfold by8
  simp only [UInt8.toNat_ofNat']
  omega
theorem wrap8 (n : Int) : IntKind.u8.wrap n = ((by8 n).toNat : Int) := by rw [by8_nat, IntKind.wrap_u8]
def hA (h : Int) : Bool := h == 1 || h == 3 || h == 15
def hB (h : Int) : Bool := h == 3 || h == 15
def hC (h : Int) : Bool := h == 15
def hT (h : Int) : Bool := h == 8 || h == 15
def HasOk (h : Int) : Prop := h = 0 ∨ h = 1 ∨ h = 3 ∨ h = 8 ∨ h = 15
def okN (b : Bool) (n : Int) : Bool := if b then decide (0 ≤ n) && decide (n ≤ 255) else n == 0
def fitH (h : Int) (x : Ins) : Bool := okN (hA h) x.a && (okN (hB h) x.b && (okN (hC h) x.c && (if hT h then decide (-32768 ≤ x.z) && decide (x.z ≤ 32767) else x.z == 0)))
def sel3 (x : Ins) : Nat → Int
  | 0 => x.a
  | 1 => x.b
  | _ => x.c
def has3 (h : Int) : Nat → Bool
  | 0 => hA h
  | 1 => hB h
  | _ => hC h

set_option maxRecDepth 20000 in
set_option maxHeartbeats 1000000 in
theorem lay_any (base : Nat) (v : Value) (xs : List UInt8) (lb m c : Nat) (zs : List Int) (w : World) (hv : OwnB 5 w base v xs) (hb : base ≤ w.heap.size)
    (hl : Blk w lb 3 (zs.map iv).toArray) (hm : m = zs.length) (hns : zs.length ≤ 1000) (hsz : xs.length ≤ 1099511627776) :
    Calls Tryd.prog 34 #[v, .slice (some ⟨lb, 0, none⟩) m c] w fun e w' => ∃ v', e = .returned v' ∧ OwnB 5 w' base v' (xs ++ zs.map by8) ∧ App w v w' v' := by
  subst hm
  have hne : v.ownBlock ≠ some lb := own_blk_ne hv hl (by decide)
  go_enter Tryd.func34, Tryd.ntmps34
  go_wp2
  go_loopw [0, 9] (fun u i wr => ∃ k : Nat, k ≤ zs.length ∧ i = .int .i64 k ∧ OwnB 5 wr base u (xs ++ (zs.take k).map by8) ∧ App w v wr u) (fun _ i _ => zs.length - (intOf i).toNat)
  case atStart => exact ⟨0, Nat.zero_le _, rfl, by simpa using hv, App.refl _ _⟩
  case round =>
    obtain ⟨k, hk, rfl, hown, happ⟩ := hrel
    by_cases hlt : k < zs.length
    · obtain ⟨n, hx⟩ : ∃ n, zs[k]? = some n := ⟨_, List.getElem?_eq_getElem hlt⟩
      have hcell : wr.cell? ⟨lb, k, none⟩ = some (.int .i64 n) := by
        rw [(happ.blk hl hne).cell k]
        simp [iv, hx]
      have HT : Hid ((xs ++ (zs.take k).map by8) ++ [by8 n] = xs ++ (zs.take (k + 1)).map by8) := Lib.hid (by
        have := List.take_succ_eq_append_getElem hlt
        rw [List.getElem?_eq_getElem hlt] at hx
        injection hx with hx
        rw [this, hx]
        simp)
      have hlen : (xs ++ (zs.take k).map by8).length ≤ 1099511628776 := by simp; omega
      have HL := Lib.hid hlen
      have hw8 := wrap8 n
      have hba := Nat.le_trans hb happ.size
      clear hlen hx
      generalize by8 n = x at hw8 HT
      generalize hys : xs ++ (zs.take k).map by8 = ys at hown HT HL
      have HY := Lib.hid hys
      clear hys
      go_wp2_with (at_builtin; refine wpList_app rfl _ _ _ rfl base 5 info5 Tryd.underlying24 _ ys rfl (hown.alloc _) _ _ _ _ [x] rfl (Reads.built _ _ [bv x]) (by have := HL.out; simp; omega) (by simp; omega) ?_; intro v1 w1 hown3 happ3)
      go_roundw
      case rel => exact ⟨k + 1, by omega, by go_num, by rw [← HT.out]; exact hown3, happ.trans happ3.from⟩
      case measure => simp [intOf]; omega
    · have HE := Lib.hid (List.take_of_length_le (by omega) : zs.take k = zs)
      go_wp2
      go_ret
      exact ⟨_, rfl, by rw [HE.out] at hown; exact hown, happ⟩

/-- the rounds of a loop over an instruction's three bytes -/
def FitR (h : Int) (x : Ins) (k : Nat) : Prop := ∀ j, j < k → okN (has3 h j) (sel3 x j) = true
theorem FitR.next {h : Int} {x : Ins} {k : Nat} (hr : FitR h x k) (hk : okN (has3 h k) (sel3 x k) = true) : FitR h x (k + 1) := fun j hj => by
  by_cases e : j = k
  · subst e; exact hk
  · exact hr j (by omega)
theorem FitR.bad {h : Int} {x : Ins} {k : Nat} (hk : k < 3) (hn : okN (has3 h k) (sel3 x k) = false) : fitH h x = false := by
  obtain rfl | rfl | rfl : k = 0 ∨ k = 1 ∨ k = 2 := by omega
  all_goals simp only [has3, sel3] at hn
  all_goals simp [fitH, hn]
theorem FitR.all {h : Int} {x : Ins} (hr : FitR h x 3) : fitH h x = (if hT h then decide (-32768 ≤ x.z) && decide (x.z ≤ 32767) else x.z == 0) := by
  have h0 := hr 0 (by omega)
  have h1 := hr 1 (by omega)
  have h2 := hr 2 (by omega)
  simp only [has3, sel3] at h0 h1 h2
  simp [fitH, h0, h1, h2]
theorem okN_yes {n : Int} (h1 : 0 ≤ n) (h2 : n ≤ 255) : okN true n = true := by simp [okN, h1, h2]
theorem okN_zero : okN false 0 = true := by simp [okN]
theorem okN_low {b : Bool} {n : Int} (h : n < 0) : okN b n = false := by cases b <;> simp [okN] <;> omega
theorem okN_high {b : Bool} {n : Int} (h : 255 < n) : okN b n = false := by cases b <;> simp [okN] <;> omega
theorem okN_no {n : Int} (h : 0 < n) : okN false n = false := by simp [okN]; omega
end Go.Proofs.YtaeegkljldngmaaDoor
