/-
  Instructions as text, plain: what Print writes, and its words. No statement of the seat is proved here.
-/
import Derived.Test.YtaeegkljldngmaaDoorPlD
import Derived.Test.YtaeegkljldngmaaDoorTxS
import Derived.Test.YtaeegkljldngmaaDoorTxN
namespace Go.Proofs.YtaeegkljldngmaaDoor

def jmpO (op : Int) : Bool := decide (op = 18) || decide (op = 19) || decide (op = 20)
def opsL (h : Int) (x : Ins) : Nat → List UInt8
  | 0 => []
  | k + 1 => opsL h x k ++ (if has3 h k then 32 :: Lib.itoa (sel3 x k) else [])
def goalI (x : Ins) (at_ : Int) : Int := at_ + szO x.op + x.z
def tailL (x : Ins) (at_ : Int) : List UInt8 := if jmpO x.op then 32 :: 45 :: 62 :: Lib.itoa (goalI x at_) else if hT (hasO x.op) then 32 :: Lib.itoa x.z else []
/-- a line, without its end -/
def lineL (x : Ins) (at_ : Int) : List UInt8 := Lib.itoa at_ ++ 32 :: ((nmO x.op).data.toList ++ (opsL (hasO x.op) x 3 ++ tailL x at_))
/-- the cells that a line's words fill -/
def offL (h : Int) : List Nat := (if hA h then [1] else []) ++ ((if hB h then [2] else []) ++ ((if hC h then [3] else []) ++ (if hT h then [4] else [])))
def cellI (x : Ins) : Nat → Int
  | 0 => x.op
  | 1 => x.a
  | 2 => x.b
  | 3 => x.c
  | _ => x.z
/-- what a word's number is -/
def numW (x : Ins) (at_ : Int) (o : Nat) : Int := if jmpO x.op then goalI x at_ else cellI x o
def wordW (x : Ins) (at_ : Int) (o : Nat) : List UInt8 := if jmpO x.op then 45 :: 62 :: Lib.itoa (goalI x at_) else Lib.itoa (cellI x o)
def wordsL (x : Ins) (at_ : Int) : List (List UInt8) := Lib.itoa at_ :: (nmO x.op).data.toList :: (offL (hasO x.op)).map (wordW x at_)
theorem jmp_has {op : Int} (h : jmpO op = true) : hasO op = 8 := by
  simp only [jmpO, Bool.or_eq_true, decide_eq_true_eq] at h
  rcases h with (rfl | rfl) | rfl <;> decide
theorem words_line (x : Ins) (at_ : Int) (h : HasOk (hasO x.op)) : joinL 32 (wordsL x at_) = lineL x at_ := by
  unfold wordsL lineL tailL
  cases hj : jmpO x.op with
  | true =>
    rw [jmp_has hj]
    simp [offL, wordW, hj, joinL, opsL, has3, hA, hB, hC, hT]
  | false =>
    rcases h with e | e | e | e | e <;> rw [e] <;> simp [offL, wordW, hj, joinL, opsL, has3, hA, hB, hC, hT, cellI, sel3]
theorem itoa_no (n : Int) (c : UInt8) (hc : c.toNat < 45) : c ∉ Lib.itoa n := by
  intro hb
  unfold Lib.itoa at hb
  split at hb
  · rcases List.mem_cons.1 hb with e | hb
    · subst e; simp at hc
    · have := digits_range _ _ hb; omega
  · have := digits_range _ _ hb; omega
set_option maxRecDepth 100000 in
theorem names_no : ∀ k : Fin 26, (32 : UInt8) ∉ (ent k.1).nm.data.toList ∧ (10 : UInt8) ∉ (ent k.1).nm.data.toList ∧ (ent k.1).nm.data.toList.length ≤ 11 ∧ ((ent k.1).has ≠ 0 → (ent k.1).nm.data.toList.length ≤ 9) := by decide
set_option maxRecDepth 100000 in
theorem names_one : ∀ i j : Fin 26, (ent i.1).nm.data.toList = (ent j.1).nm.data.toList → i = j := by decide
theorem nm_ent {op : Int} (h : inO op = true) : ∃ k : Fin 26, op = (k.1 : Int) ∧ nmO op = (ent k.1).nm ∧ hasO op = (ent k.1).has ∧ 1 ≤ k.1 := by
  have h1 := inO_yes h
  refine ⟨⟨op.toNat, by omega⟩, ?_, ?_, ?_, ?_⟩
  · show op = ((op.toNat : Nat) : Int); omega
  · show nmO op = (ent ((op.toNat : Nat) : Int)).nm
    rw [Int.toNat_of_nonneg (by omega)]
    exact if_pos h1
  · show hasO op = (ent ((op.toNat : Nat) : Int)).has
    rw [Int.toNat_of_nonneg (by omega)]
    exact if_pos h1
  · show 1 ≤ op.toNat
    omega
theorem words_no {x : Ins} (at_ : Int) (h : inO x.op = true) : ∀ l ∈ wordsL x at_, (32 : UInt8) ∉ l := by
  obtain ⟨k, _, e2, _, _⟩ := nm_ent h
  intro l hl
  unfold wordsL at hl
  rcases List.mem_cons.1 hl with rfl | hl
  · exact itoa_no _ _ (by decide)
  · rcases List.mem_cons.1 hl with rfl | hl
    · rw [e2]; exact (names_no k).1
    · obtain ⟨o, _, rfl⟩ := List.mem_map.1 hl
      unfold wordW
      split
      · have := itoa_no (goalI x at_) 32 (by decide)
        simp [this]
      · exact itoa_no _ _ (by decide)
theorem line_no {x : Ins} (at_ : Int) (h : inO x.op = true) : (10 : UInt8) ∉ lineL x at_ := by
  obtain ⟨k, _, e2, _, _⟩ := nm_ent h
  have hi := fun n => itoa_no n 10 (by decide)
  have hn := (names_no k).2.1
  unfold lineL tailL
  rw [e2]
  simp only [opsL]
  repeat' split
  all_goals simp [hi, hn]
/-! ## Numbers -/
theorem digits_head : ∀ u : Nat, 1 ≤ u → ∃ b r, Lib.decDigits u = b :: r ∧ b.toNat ≠ 48 := by
  intro u
  induction u using Nat.strongRecOn with
  | _ u ih =>
    intro h1
    by_cases h : u < 10
    · rw [Lib.decDigits_one h]
      exact ⟨_, [], rfl, by rw [UInt8.toNat_ofNat']; omega⟩
    · rw [Lib.decDigits, dif_neg h]
      obtain ⟨b, r, e, hb⟩ := ih (u / 10) (by omega) (by omega)
      rw [e]
      exact ⟨b, r ++ [UInt8.ofNat (48 + u % 10)], rfl, hb⟩
theorem trim_itoa (n : Int) : Lib.trimPrefix (Lib.itoa n) [45] = Lib.decDigits n.natAbs := by
  unfold Lib.trimPrefix Lib.itoa
  by_cases h : n < 0
  · rw [if_pos h]
    simp [Lib.hasPrefix, List.isPrefixOf]
  · rw [if_neg h, if_neg]
    · congr 1; omega
    · intro hp
      obtain ⟨b, r, e⟩ : ∃ b r, Lib.decDigits n.toNat = b :: r := by
        cases hd : Lib.decDigits n.toNat with
        | nil => exact absurd hd (digits_ne _)
        | cons b r => exact ⟨b, r, rfl⟩
      have hr := digits_range n.toNat b (by rw [e]; simp)
      rw [e] at hp
      simp only [Lib.hasPrefix, List.isPrefixOf, Bool.and_true, beq_iff_eq] at hp
      subst hp
      simp at hr
/-! ## The whole text -/
def textF : List Ins → Nat → List UInt8
  | [], _ => []
  | x :: r, at_ => lineL x (at_ : Int) ++ 10 :: textF r (at_ + x.size)
def linesF : List Ins → Nat → List (List UInt8)
  | [], _ => []
  | x :: r, at_ => lineL x (at_ : Int) :: linesF r (at_ + x.size)
def goalsF : List Ins → Nat → Prop
  | [], _ => True
  | x :: r, at_ => (jmpO x.op = true → 0 ≤ goalI x (at_ : Int) ∧ goalI x (at_ : Int) ≤ 32767) ∧ goalsF r (at_ + x.size)
theorem text_lines : ∀ (l : List Ins) (at_ : Nat), l ≠ [] → textF l at_ = joinL 10 (linesF l at_) ++ [10]
  | [], _, h => absurd rfl h
  | [x], at_, _ => by simp [textF, linesF, joinL]
  | x :: y :: r, at_, _ => by
    have ih := text_lines (y :: r) (at_ + x.size) (by simp)
    unfold textF linesF
    rw [ih]
    simp [linesF, joinL]
theorem lines_len : ∀ (l : List Ins) (at_ : Nat), (linesF l at_).length = l.length
  | [], _ => rfl
  | x :: r, at_ => by simp [linesF, lines_len r]
theorem lines_no : ∀ (l : List Ins) (at_ : Nat), (∀ x ∈ l, inO x.op = true) → ∀ s ∈ linesF l at_, (10 : UInt8) ∉ s
  | [], _, _, s, hs => by cases hs
  | x :: r, at_, h, s, hs => by
    unfold linesF at hs
    rcases List.mem_cons.1 hs with rfl | hs
    · exact line_no _ (h x (by simp))
    · exact lines_no r _ (fun y hy => h y (by simp [hy])) s hs
theorem itoa5 {n : Int} (h1 : 0 ≤ n) (h2 : n < 100000) : (Lib.itoa n).length ≤ 5 := by
  unfold Lib.itoa
  rw [if_neg (by omega), Lib.decDigits_length]
  exact nd_le 5 n.toNat (by decide) (by omega)
theorem itoa3 {n : Int} (h1 : 0 ≤ n) (h2 : n < 1000) : (Lib.itoa n).length ≤ 3 := by
  unfold Lib.itoa
  rw [if_neg (by omega), Lib.decDigits_length]
  exact nd_le 3 n.toNat (by decide) (by omega)
theorem itoa6 {n : Int} (h1 : -32768 ≤ n) (h2 : n ≤ 32767) : (Lib.itoa n).length ≤ 6 := by
  unfold Lib.itoa
  split
  · have := nd_le 5 n.natAbs (by decide) (by omega)
    rw [List.length_cons, Lib.decDigits_length]
    omega
  · have := nd_le 5 n.toNat (by decide) (by omega)
    rw [Lib.decDigits_length]
    omega
theorem line_len {x : Ins} {at_ : Int} (h : mayE x = 0) (h0 : 0 ≤ at_) (h1 : at_ ≤ 32767) (hg : jmpO x.op = true → 0 ≤ goalI x at_ ∧ goalI x at_ ≤ 32767) : (lineL x at_).length + 1 ≤ 32 * x.size := by
  obtain ⟨hi, hf⟩ := mayE_ok h
  obtain ⟨k, _, e2, e3, _⟩ := nm_ent hi
  have hs : (x.size : Int) = szH (hasO x.op) := by
    have h2 : szO x.op = szH (ent x.op).has := if_pos (inO_yes hi)
    have h3 := hasO_ent hi
    have h4 := szH_le (hasOk_O x.op)
    unfold Ins.size
    rw [h2, ← h3]
    omega
  have l1 := itoa5 h0 (show at_ < 100000 by omega)
  obtain ⟨_, _, n1, n2⟩ := names_no k
  rw [← e3] at n2
  unfold lineL tailL
  rw [e2]
  generalize (ent k.1).nm.data.toList = N at *
  simp only [List.length_append, List.length_cons]
  cases hj : jmpO x.op with
  | true =>
    rw [jmp_has hj] at hs n2 ⊢
    obtain ⟨g1, g2⟩ := hg hj
    have l2 := itoa5 g1 (show _ < 100000 by omega)
    have n3 := n2 (by decide)
    have s8 : szH 8 = 3 := by decide
    simp [opsL, has3, hA, hB, hC]
    omega
  | false =>
    have hk := hasOk_O x.op
    generalize hasO x.op = hh at *
    rcases hk with rfl | rfl | rfl | rfl | rfl
    · have s8 : szH 0 = 1 := by decide
      simp [opsL, has3, hA, hB, hC, hT]
      omega
    · have s8 : szH 1 = 2 := by decide
      have n3 := n2 (by decide)
      simp [fitH, okN, hA, hB, hC, hT] at hf
      have l2 := itoa3 hf.1.1 (show x.a < 1000 by omega)
      simp [opsL, has3, hA, hB, hC, hT, sel3]
      omega
    · have s8 : szH 3 = 3 := by decide
      have n3 := n2 (by decide)
      simp [fitH, okN, hA, hB, hC, hT] at hf
      have l2 := itoa3 hf.1.1 (show x.a < 1000 by omega)
      have l3 := itoa3 hf.2.1.1 (show x.b < 1000 by omega)
      simp [opsL, has3, hA, hB, hC, hT, sel3]
      omega
    · have s8 : szH 8 = 3 := by decide
      have n3 := n2 (by decide)
      simp [fitH, okN, hA, hB, hC, hT] at hf
      have l2 := itoa6 (n := x.z) (by omega) (by omega)
      simp [opsL, has3, hA, hB, hC, hT]
      omega
    · have s8 : szH 15 = 6 := by decide
      have n3 := n2 (by decide)
      simp [fitH, okN, hA, hB, hC, hT] at hf
      have l2 := itoa3 hf.1.1 (show x.a < 1000 by omega)
      have l3 := itoa3 hf.2.1.1 (show x.b < 1000 by omega)
      have l4 := itoa3 hf.2.2.1.1 (show x.c < 1000 by omega)
      have l5 := itoa6 (n := x.z) (by omega) (by omega)
      simp [opsL, has3, hA, hB, hC, hT, sel3]
      omega
theorem bytes_size {x : Ins} (h : mayE x = 0) : (layI x).length = x.size := by
  have := (dec_one [] [] h).2.2
  exact this
theorem text_len : ∀ (l : List Ins) (at_ : Nat), (∀ x ∈ l, mayE x = 0) → goalsF l at_ → at_ + (bytesL l).length ≤ 32767 → (textF l at_).length ≤ 32 * (bytesL l).length
  | [], _, _, _, _ => by simp [textF]
  | x :: r, at_, h, hg, hl => by
    have hx := h x (by simp)
    have hb := bytes_size hx
    have e : bytesL (x :: r) = layI x ++ bytesL r := rfl
    rw [e, List.length_append, hb] at hl ⊢
    unfold goalsF at hg
    have l1 := line_len hx (Int.natCast_nonneg _) (show ((at_ : Nat) : Int) ≤ 32767 by omega) hg.1
    have ih := text_len r (at_ + x.size) (fun y hy => h y (by simp [hy])) hg.2 (by omega)
    unfold textF
    simp only [List.length_append, List.length_cons]
    omega
end Go.Proofs.YtaeegkljldngmaaDoor
