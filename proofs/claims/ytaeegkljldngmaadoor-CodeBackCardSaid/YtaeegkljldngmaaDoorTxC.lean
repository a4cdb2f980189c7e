/-
  Splitting (f24), and the cells that a line's words fill, plain. No statement of the seat is proved here.
-/
import Derived.Test.YtaeegkljldngmaaDoorTxA
namespace Go.Proofs.YtaeegkljldngmaaDoor
open Go.RowKit

theorem split_any (c : UInt8) (ls : List (List UInt8)) (S : ByteArray) (m : Int) (w : World) (hS : S = txt (joinL c ls)) (hne : ls ≠ []) (hno : ∀ l ∈ ls, c ∉ l) (hlen : (joinL c ls).length < 4294967281) (hm : w.cell? ⟨1, 0, none⟩ = some (.int .i64 m)) :
    Calls Tryd.prog 24 #[.string S, .string ⟨#[c]⟩] w fun e w' =>
      e = .returned (.slice (some ⟨w.heap.size, 0, none⟩) ls.length ls.length) ∧ w.alloc (.cells (ls.map fun l => Value.string (txt l)).toArray 9) = w' := by
  subst hS
  have hsz : (txt (joinL c ls)).size < 4294967281 := by
    show (joinL c ls).toArray.size < 4294967281
    rw [List.size_toArray]
    exact hlen
  refine (Tryd.strings_Split (txt (joinL c ls)) ⟨#[c]⟩ m w hsz hm (Nat.le_refl 1)).mono fun e w' h => ?_
  obtain ⟨h1, h2⟩ := h
  obtain ⟨h3, h4⟩ := splitB_join c ls hne hno
  rw [h4] at h1
  rw [h3, List.map_map] at h2
  exact ⟨h1, h2.symm⟩
/-- the first k operands' cells -/
def selO (h : Int) : Nat → List Nat
  | 0 => []
  | 1 => if hA h then [1] else []
  | 2 => (if hA h then [1] else []) ++ (if hB h then [2] else [])
  | 3 => (if hA h then [1] else []) ++ ((if hB h then [2] else []) ++ (if hC h then [3] else []))
  | _ => offL h
/-- what lies in an instruction's box when so many words have been read -/
def fillV (x : Ins) (at_ : Int) (h : Int) (j o : Nat) : Value := .int .i64 (if o ∈ (offL h).take j then numW x at_ o else 0)
def fillC (x : Ins) (at_ : Int) (h : Int) (j : Nat) : Array Value := #[.int .i64 x.op, fillV x at_ h j 1, fillV x at_ h j 2, fillV x at_ h j 3, fillV x at_ h j 4]
theorem offs_len {h : Int} (hk : HasOk h) : (offL h).length ≤ 4 := by
  rcases hk with rfl | rfl | rfl | rfl | rfl <;> decide
theorem offs_at {h : Int} (hk : HasOk h) {j o : Nat} (ho : (offL h)[j]? = some o) : 1 ≤ o ∧ o ≤ 4 := by
  have hm : o ∈ offL h := List.mem_of_getElem? ho
  have : ∀ o ∈ offL h, 1 ≤ o ∧ o ≤ 4 := by
    rcases hk with rfl | rfl | rfl | rfl | rfl <;> decide
  exact this o hm
theorem fill_cell (x : Ins) (at_ : Int) (h : Int) (j : Nat) {o : Nat} (ho : 1 ≤ o ∧ o ≤ 4) : (fillC x at_ h j)[o]? = some (fillV x at_ h j o) := by
  obtain rfl | rfl | rfl | rfl : o = 1 ∨ o = 2 ∨ o = 3 ∨ o = 4 := by omega
  all_goals rfl
theorem fill_step (x : Ins) (at_ : Int) {h : Int} (hk : HasOk h) {j o : Nat} (ho : (offL h)[j]? = some o) : (fillC x at_ h j).setIfInBounds o (.int .i64 (numW x at_ o)) = fillC x at_ h (j + 1) := by
  have hl := offs_len hk
  have hj : j < (offL h).length := (List.getElem?_eq_some_iff.1 ho).1
  have l1 : offL 1 = [1] := by decide
  have l3 : offL 3 = [1, 2] := by decide
  have l8 : offL 8 = [4] := by decide
  have l15 : offL 15 = [1, 2, 3, 4] := by decide
  rcases hk with rfl | rfl | rfl | rfl | rfl
  · rw [show offL 0 = [] by decide] at hj
    simp at hj
  · rw [l1] at ho hj
    obtain rfl : j = 0 := by simpa using hj
    simp at ho; subst ho
    unfold fillC fillV; rw [l1]; simp
  · rw [l3] at ho hj
    obtain rfl | rfl : j = 0 ∨ j = 1 := by simp at hj; omega
    all_goals (simp at ho; subst ho; unfold fillC fillV; rw [l3]; simp)
  · rw [l8] at ho hj
    obtain rfl : j = 0 := by simpa using hj
    simp at ho; subst ho
    unfold fillC fillV; rw [l8]; simp
  · rw [l15] at ho hj
    obtain rfl | rfl | rfl | rfl : j = 0 ∨ j = 1 ∨ j = 2 ∨ j = 3 := by simp at hj; omega
    all_goals (simp at ho; subst ho; unfold fillC fillV; rw [l15]; simp)
theorem fill_zero (x : Ins) (at_ h : Int) : fillC x at_ h 0 = #[.int .i64 x.op, .int .i64 0, .int .i64 0, .int .i64 0, .int .i64 0] := by
  unfold fillC fillV
  simp
theorem fill_no {x : Ins} (at_ : Int) (h : mayE x = 0) (hj : jmpO x.op = false) : fillC x at_ (hasO x.op) (offL (hasO x.op)).length = #[.int .i64 x.op, .int .i64 x.a, .int .i64 x.b, .int .i64 x.c, .int .i64 x.z] := by
  obtain ⟨_, hf⟩ := mayE_ok h
  have hk := hasOk_O x.op
  unfold fillC fillV
  rw [List.take_length]
  unfold numW
  rw [hj]
  generalize hasO x.op = hh at *
  unfold fitH at hf
  simp only [Bool.and_eq_true] at hf
  obtain ⟨ha, hb, hc, hz⟩ := hf
  rcases hk with rfl | rfl | rfl | rfl | rfl
  all_goals simp [okN, hA, hB, hC, hT] at ha hb hc hz
  all_goals simp [offL, hA, hB, hC, hT, cellI, *]
theorem fill_jmp {x : Ins} (at_ : Int) (hj : jmpO x.op = true) : fillC x at_ (hasO x.op) (offL (hasO x.op)).length = #[.int .i64 x.op, .int .i64 0, .int .i64 0, .int .i64 0, .int .i64 (goalI x at_)] := by
  unfold fillC fillV
  rw [List.take_length]
  unfold numW
  rw [hj, jmp_has hj]
  simp [offL, hA, hB, hC, hT]
theorem jmp_zero {x : Ins} (h : mayE x = 0) (hj : jmpO x.op = true) : x.a = 0 ∧ x.b = 0 ∧ x.c = 0 := by
  obtain ⟨_, hf⟩ := mayE_ok h
  rw [jmp_has hj] at hf
  simp [fitH, okN, hA, hB, hC, hT] at hf
  exact ⟨hf.1, hf.2.1, hf.2.2.1⟩
theorem num_bound {x : Ins} {at_ : Int} (h : mayE x = 0) (hg : jmpO x.op = true → 0 ≤ goalI x at_ ∧ goalI x at_ ≤ 32767) {o : Nat} (ho : 1 ≤ o) : -2147483648 ≤ numW x at_ o ∧ numW x at_ o ≤ 2147483647 := by
  unfold numW
  cases hj : jmpO x.op with
  | true =>
    have := hg hj
    simp only [if_true]
    omega
  | false =>
    obtain ⟨_, hf⟩ := mayE_ok h
    have hk := hasOk_O x.op
    generalize hasO x.op = hh at *
    unfold fitH at hf
    simp only [Bool.and_eq_true] at hf
    obtain ⟨ha, hb, hc, hz⟩ := hf
    have h1 : 0 ≤ x.a ∧ x.a ≤ 255 := by
      rcases hk with rfl | rfl | rfl | rfl | rfl <;> simp [okN, hA] at ha <;> omega
    have h2 : 0 ≤ x.b ∧ x.b ≤ 255 := by
      rcases hk with rfl | rfl | rfl | rfl | rfl <;> simp [okN, hB] at hb <;> omega
    have h3 : 0 ≤ x.c ∧ x.c ≤ 255 := by
      rcases hk with rfl | rfl | rfl | rfl | rfl <;> simp [okN, hC] at hc <;> omega
    have h4 : -32768 ≤ x.z ∧ x.z ≤ 32767 := by
      rcases hk with rfl | rfl | rfl | rfl | rfl <;> simp [hT] at hz <;> omega
    obtain ⟨o, rfl⟩ : ∃ k, o = k + 1 := ⟨o - 1, by omega⟩
    rcases o with _ | _ | _ | o
    all_goals (simp [cellI]; omega)
theorem words_len (x : Ins) (at_ : Int) : (wordsL x at_).length = 2 + (offL (hasO x.op)).length := by
  unfold wordsL
  simp
  omega
theorem words_at (x : Ins) (at_ : Int) {j o : Nat} (ho : (offL (hasO x.op))[j]? = some o) : (wordsL x at_)[2 + j]? = some (wordW x at_ o) := by
  unfold wordsL
  rw [show 2 + j = j + 1 + 1 by omega, List.getElem?_cons_succ, List.getElem?_cons_succ, List.getElem?_map, ho]
  rfl
theorem wordsL_ne (x : Ins) (at_ : Int) : wordsL x at_ ≠ [] := by
  unfold wordsL
  simp
theorem arrow_cut (n : Int) : Lib.trimPrefix (45 :: 62 :: Lib.itoa n) [45, 62] = Lib.itoa n ∧ Lib.hasPrefix (45 :: 62 :: Lib.itoa n) [45, 62] = true := by
  unfold Lib.trimPrefix Lib.hasPrefix
  simp [List.isPrefixOf]
end Go.Proofs.YtaeegkljldngmaaDoor
