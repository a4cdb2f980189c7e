/-
  What is encoded is decoded, plain. No statement of the seat is proved here.
-/
import Derived.Test.YtaeegkljldngmaaDoorCdI
namespace Go.Proofs.YtaeegkljldngmaaDoor
open Go.RowKit

theorem mayE_ok {x : Ins} (h : mayE x = 0) : inO x.op = true ∧ fitH (hasO x.op) x = true := by
  unfold mayE at h
  cases h1 : inO x.op with
  | false => rw [h1] at h; simp at h
  | true =>
    cases h2 : fitH (hasO x.op) x with
    | true => exact ⟨rfl, rfl⟩
    | false => rw [h1, h2] at h; simp at h
theorem okN_t {n : Int} (h : okN true n = true) : 0 ≤ n ∧ n ≤ 255 := by
  unfold okN at h
  simpa using h
theorem okN_f {n : Int} (h : okN false n = true) : n = 0 := by
  unfold okN at h
  simpa using h
theorem getD_pre (pre r : List UInt8) (k : Nat) : (pre ++ r).getD (pre.length + k) 0 = r.getD k 0 := by
  rw [List.getD_eq_getElem?_getD, List.getD_eq_getElem?_getD, List.getElem?_append_right (by omega)]
  congr 2
  omega
theorem bAt_pre (pre r : List UInt8) (k : Nat) : bAt (pre ++ r) (pre.length + k) = ((r.getD k 0).toNat : Int) := by
  unfold bAt
  rw [getD_pre]
theorem bAt_pre0 (pre r : List UInt8) : bAt (pre ++ r) pre.length = ((r.getD 0 0).toNat : Int) := bAt_pre pre r 0
theorem by8_id {n : Int} (h : 0 ≤ n ∧ n ≤ 255) : ((by8 n).toNat : Int) = n := by
  rw [by8_nat]
  omega
theorem i16_by {z : Int} (h : -32768 ≤ z ∧ z ≤ 32767) : i16 (by8 (z / 256)) (by8 z) = z := by
  unfold i16
  rw [by8_nat, by8_nat]
  split <;> omega
theorem layH_cases (x : Ins) : layH 0 x = [by8 x.op] ∧ layH 1 x = [by8 x.op, by8 x.a] ∧ layH 3 x = [by8 x.op, by8 x.a, by8 x.b] ∧ layH 8 x = [by8 x.op, by8 (x.z / 256), by8 x.z] ∧ layH 15 x = [by8 x.op, by8 x.a, by8 x.b, by8 x.c, by8 (x.z / 256), by8 x.z] := by
  refine ⟨rfl, rfl, rfl, rfl, rfl⟩
theorem dec_one (pre post : List UInt8) {x : Ins} (h : mayE x = 0) : insAt (pre ++ (layI x ++ post)) pre.length = x ∧ okAt (pre ++ (layI x ++ post)) pre.length = true ∧ (layI x).length = x.size := by
  obtain ⟨h1, h2⟩ := mayE_ok h
  have hop := inO_yes h1
  have hlay : (layI x).getD 0 0 = by8 x.op := by
    rcases hasOk_O x.op with e | e | e | e | e <;> · unfold layI; rw [e]; rfl
  have hb : bAt (pre ++ (layI x ++ post)) pre.length = x.op := by
    rw [bAt_pre0]
    have : (layI x ++ post).getD 0 0 = by8 x.op := by
      rw [← hlay]
      rcases hasOk_O x.op with e | e | e | e | e <;> · unfold layI; rw [e]; rfl
    rw [this, by8_id (by omega)]
  have hsz : (layI x).length = x.size := by
    unfold Ins.size
    rw [szO_in h1]
    rcases hasOk_O x.op with e | e | e | e | e <;> · unfold layI; rw [e]; rfl
  refine ⟨?_, ?_, hsz⟩
  · unfold insAt
    rw [hb]
    unfold insH
    rw [hb]
    obtain ⟨op, a, b, c, z⟩ := x
    unfold fitH at h2
    simp only [Bool.and_eq_true] at h2
    obtain ⟨ha, hbb, hc, hz⟩ := h2
    dsimp only at ha hbb hc hz h1 hop ⊢
    obtain ⟨k0, k1, k3, k8, k15⟩ := layH_cases ⟨op, a, b, c, z⟩
    dsimp only at k0 k1 k3 k8 k15
    unfold layI
    dsimp only
    unfold pA pB pC pZ
    rcases hasOk_O op with e | e | e | e | e
    · rw [e] at ha hbb hc hz ⊢
      rw [show a = 0 from okN_f ha, show b = 0 from okN_f hbb, show c = 0 from okN_f hc, show z = 0 by simpa [hT] using hz]
      simp [hA, hB, hC]
    · rw [e] at ha hbb hc hz ⊢
      rw [k1]
      rw [show b = 0 from okN_f hbb, show c = 0 from okN_f hc, show z = 0 by simpa [hT] using hz]
      simp [hA, hB, hC, bAt_pre, by8_id (okN_t ha)]
    · rw [e] at ha hbb hc hz ⊢
      rw [k3]
      rw [show c = 0 from okN_f hc, show z = 0 by simpa [hT] using hz]
      simp [hA, hB, hC, bAt_pre, by8_id (okN_t ha), by8_id (okN_t hbb)]
    · rw [e] at ha hbb hc hz ⊢
      rw [k8]
      rw [show a = 0 from okN_f ha, show b = 0 from okN_f hbb, show c = 0 from okN_f hc]
      have hz' : -32768 ≤ z ∧ z ≤ 32767 := by simpa [hT] using hz
      rw [getD_pre, getD_pre]
      simp [hA, hB, hC, i16_by hz']
    · rw [e] at ha hbb hc hz ⊢
      rw [k15]
      have hz' : -32768 ≤ z ∧ z ≤ 32767 := by simpa [hT] using hz
      rw [getD_pre, getD_pre, getD_pre, getD_pre]
      simp [hA, hB, hC, i16_by hz', bAt_pre, by8_id (okN_t ha), by8_id (okN_t hbb), by8_id (okN_t hc)]
  · unfold okAt
    rw [hb, h1]
    have := size_cast h1
    simp only [Bool.true_and, decide_eq_true_eq, List.length_append]
    omega
/-- the bytes of instructions -/
def bytesL (l : List Ins) : List UInt8 := l.flatMap layI
theorem bytesL_len : ∀ (l : List Ins), (∀ x ∈ l, mayE x = 0) → (bytesL l).length = pl l l.length := by
  intro l h
  unfold pl bytesL
  rw [List.take_of_length_le (Nat.le_refl _)]
  induction l with
  | nil => rfl
  | cons x r ih =>
    rw [List.flatMap_cons, List.length_append, (dec_one [] [] (h x (by simp))).2.2, ih (fun y hy => h y (by simp [hy]))]
    simp
theorem encF_ok : ∀ (l : List Ins) (acc : List UInt8), (∀ x ∈ l, mayE x = 0) → encF acc l = if 32767 < (acc ++ bytesL l).length then (2, []) else (0, acc ++ bytesL l)
  | [], acc, _ => by simp [encF, bytesL]
  | x :: r, acc, h => by
    unfold encF
    rw [if_pos (h x (by simp)), encF_ok r _ (fun y hy => h y (by simp [hy]))]
    simp only [bytesL, List.flatMap_cons, List.append_assoc]
theorem encF_yes : ∀ (l : List Ins) (acc b : List UInt8), encF acc l = (0, b) → (∀ x ∈ l, mayE x = 0) ∧ b = acc ++ bytesL l ∧ b.length ≤ 32767
  | [], acc, b, h => by
    unfold encF at h
    split at h
    · cases h
    · rename_i hn
      simp only [Prod.mk.injEq, true_and] at h
      subst h
      exact ⟨(fun x hx => absurd hx (List.not_mem_nil)), by simp [bytesL], by omega⟩
  | x :: r, acc, b, h => by
    unfold encF at h
    by_cases hm : mayE x = 0
    · rw [if_pos hm] at h
      obtain ⟨h1, h2, h3⟩ := encF_yes r _ b h
      refine ⟨fun y hy => ?_, by simpa [bytesL] using h2, h3⟩
      rcases List.mem_cons.1 hy with rfl | hy
      · exact hm
      · exact h1 y hy
    · rw [if_neg hm] at h
      simp only [Prod.mk.injEq] at h
      exact absurd h.1 hm
theorem encF_cases (l : List Ins) : (∃ e, encF [] l = (e, []) ∧ e ≠ 0) ∨ (encF [] l = (0, bytesL l) ∧ (∀ x ∈ l, mayE x = 0) ∧ (bytesL l).length ≤ 32767) := by
  have key : ∀ (l : List Ins) (acc : List UInt8), (∃ e, encF acc l = (e, []) ∧ e ≠ 0) ∨ ∃ b, encF acc l = (0, b) := by
    intro l
    induction l with
    | nil =>
      intro acc
      unfold encF
      split
      · exact .inl ⟨2, rfl, by decide⟩
      · exact .inr ⟨_, rfl⟩
    | cons x r ih =>
      intro acc
      unfold encF
      by_cases hm : mayE x = 0
      · rw [if_pos hm]; exact ih _
      · rw [if_neg hm]; exact .inl ⟨_, rfl, hm⟩
  rcases key l [] with h | ⟨b, h⟩
  · exact .inl h
  · obtain ⟨h1, h2, h3⟩ := encF_yes l [] b h
    rw [List.nil_append] at h2
    subst h2
    exact .inr ⟨h, h1, h3⟩
/-- places, one behind the other -/
def plsN : Nat → List Ins → List Nat
  | _, [] => []
  | o, x :: r => o :: plsN (o + x.size) r
theorem decF_bytes : ∀ (r l : List Ins) (ps : List Nat) (pre : List UInt8) (f : Nat), (∀ x ∈ r, mayE x = 0) → (bytesL r).length < f → decF (pre ++ bytesL r) f pre.length l ps = (l ++ r, ps ++ plsN pre.length r, 0, 0)
  | [], l, ps, pre, f, _, hf => by
    obtain ⟨f, rfl⟩ : ∃ g, f = g + 1 := ⟨f - 1, by omega⟩
    unfold decF
    rw [if_pos (by simp [bytesL])]
    simp [plsN]
  | x :: r, l, ps, pre, f, h, hf => by
    obtain ⟨f, rfl⟩ : ∃ g, f = g + 1 := ⟨f - 1, by omega⟩
    have hx := dec_one pre (bytesL r) (h x (by simp))
    have hsz := size_cast (mayE_ok (h x (by simp))).1
    have e : bytesL (x :: r) = layI x ++ bytesL r := by simp [bytesL]
    rw [e] at hf ⊢
    unfold decF
    rw [if_neg (by simp only [List.length_append]; omega), hx.2.1, if_pos rfl, hx.1]
    have := decF_bytes r (l ++ [x]) (ps ++ [pre.length]) (pre ++ layI x) f (fun y hy => h y (by simp [hy])) (by simp only [List.length_append] at hf; omega)
    rw [List.length_append, hx.2.2, List.append_assoc] at this
    rw [this]
    simp [plsN]
theorem decL_bytes {l : List Ins} (h : ∀ x ∈ l, mayE x = 0) (hl : (bytesL l).length ≤ 32767) : decL (bytesL l) = (l, plsN 0 l, 0, 0) := by
  unfold decL
  rw [if_neg (by omega)]
  have := decF_bytes l [] [] [] ((bytesL l).length + 1) h (by omega)
  simpa using this
end Go.Proofs.YtaeegkljldngmaaDoor
