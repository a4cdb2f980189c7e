/-
  What bytes decode to, plain. No statement of the seat is proved here.
-/
import Derived.Test.YtaeegkljldngmaaDoorCdH
import Derived.Test.YtaeegkljldngmaaDoorCvP
namespace Go.Proofs.YtaeegkljldngmaaDoor
open Go.RowKit

def bAt (bs : List UInt8) (k : Nat) : Int := ((bs.getD k 0).toNat : Int)
def i16 (x y : UInt8) : Int := if 32768 ≤ (x.toNat : Int) * 256 + (y.toNat : Int) then (x.toNat : Int) * 256 + (y.toNat : Int) - 65536 else (x.toNat : Int) * 256 + (y.toNat : Int)
/-- the k first operands that an instruction at a place has -/
def pA (h : Int) (bs : List UInt8) (at_ : Nat) (k : Nat) : Int := if 1 ≤ k ∧ hA h = true then bAt bs (at_ + 1) else 0
def pB (h : Int) (bs : List UInt8) (at_ : Nat) (k : Nat) : Int := if 2 ≤ k ∧ hB h = true then bAt bs (at_ + 2) else 0
def pC (h : Int) (bs : List UInt8) (at_ : Nat) (k : Nat) : Int := if 3 ≤ k ∧ hC h = true then bAt bs (at_ + 3) else 0
def pZ (h : Int) (bs : List UInt8) (at_ : Nat) : Int := if h = 8 then i16 (bs.getD (at_ + 1) 0) (bs.getD (at_ + 2) 0) else if h = 15 then i16 (bs.getD (at_ + 4) 0) (bs.getD (at_ + 5) 0) else 0
def insH (h : Int) (bs : List UInt8) (at_ : Nat) : Ins := ⟨bAt bs at_, pA h bs at_ 3, pB h bs at_ 3, pC h bs at_ 3, pZ h bs at_⟩
def insAt (bs : List UInt8) (at_ : Nat) : Ins := insH (hasO (bAt bs at_)) bs at_
def okAt (bs : List UInt8) (at_ : Nat) : Bool := inO (bAt bs at_) && decide ((at_ : Int) + szO (bAt bs at_) ≤ (bs.length : Int))
def decF (bs : List UInt8) : Nat → Nat → List Ins → List Nat → List Ins × List Nat × Nat × Int
  | 0, _, l, ps => (l, ps, 0, 0)
  | f + 1, at_, l, ps => if bs.length ≤ at_ then (l, ps, 0, 0) else if okAt bs at_ then decF bs f (at_ + (insAt bs at_).size) (l ++ [insAt bs at_]) (ps ++ [at_]) else ([], [], at_, 50)
def decL (bs : List UInt8) : List Ins × List Nat × Nat × Int := if 32767 < bs.length then ([], [], 0, 2) else decF bs (bs.length + 1) 0 [] []
/-! ## What is known of instructions that are decoded -/
structure Ins.Ok (x : Ins) : Prop where
  op : 1 ≤ x.op ∧ x.op < 26
  a : 0 ≤ x.a ∧ x.a ≤ 255
  b : 0 ≤ x.b ∧ x.b ≤ 255
  c : 0 ≤ x.c ∧ x.c ≤ 255
  z : -32768 ≤ x.z ∧ x.z ≤ 32767
theorem bAt_le (bs : List UInt8) (k : Nat) : 0 ≤ bAt bs k ∧ bAt bs k ≤ 255 := by
  have := (bs.getD k 0).toNat_lt
  unfold bAt
  omega
theorem i16_le (x y : UInt8) : -32768 ≤ i16 x y ∧ i16 x y ≤ 32767 := by
  have := x.toNat_lt
  have := y.toNat_lt
  unfold i16
  split <;> omega
theorem insAt_ok (bs : List UInt8) (at_ : Nat) (h : inO (bAt bs at_) = true) : (insAt bs at_).Ok := by
  refine ⟨inO_yes h, ?_, ?_, ?_, ?_⟩
  · show 0 ≤ pA _ _ _ _ ∧ pA _ _ _ _ ≤ 255
    unfold pA; split
    · exact bAt_le _ _
    · omega
  · show 0 ≤ pB _ _ _ _ ∧ pB _ _ _ _ ≤ 255
    unfold pB; split
    · exact bAt_le _ _
    · omega
  · show 0 ≤ pC _ _ _ _ ∧ pC _ _ _ _ ≤ 255
    unfold pC; split
    · exact bAt_le _ _
    · omega
  · show -32768 ≤ pZ _ _ _ ∧ pZ _ _ _ ≤ 32767
    unfold pZ; split
    · exact i16_le _ _
    · split
      · exact i16_le _ _
      · omega
theorem szH_le {h : Int} (hh : HasOk h) : 1 ≤ szH h ∧ szH h ≤ 6 := by
  rcases hh with rfl | rfl | rfl | rfl | rfl <;> decide
theorem szO_in {op : Int} (h : inO op = true) : szO op = szH (hasO op) := by
  unfold szO
  rw [if_pos (inO_yes h), hasO_ent h]
theorem szO_pos {op : Int} (h : inO op = true) : 1 ≤ szO op ∧ szO op ≤ 6 := by
  rw [szO_in h]
  exact szH_le (hasOk_O op)
theorem size_cast {x : Ins} (h : inO x.op = true) : (x.size : Int) = szO x.op ∧ 1 ≤ x.size ∧ x.size ≤ 6 := by
  have := szO_pos h
  unfold Ins.size
  omega
/-- places: those of the instructions, one behind the other -/
theorem pl_snoc (l : List Ins) (x : Ins) (i : Nat) (h : i ≤ l.length) : pl (l ++ [x]) i = pl l i := by
  unfold pl
  rw [List.take_append_of_le_length h]
theorem pl_end (l : List Ins) (x : Ins) : pl (l ++ [x]) (l.length + 1) = pl l l.length + x.size := by
  unfold pl
  rw [List.take_of_length_le (by simp), List.take_of_length_le (Nat.le_refl _)]
  simp
theorem pl_zero (l : List Ins) : pl l 0 = 0 := rfl
theorem pl_succ (l : List Ins) (i : Nat) (h : i < l.length) : pl l (i + 1) = pl l i + (insD l i).size := by
  unfold pl insD
  rw [List.take_succ_eq_append_getElem h, List.getD_eq_getElem?_getD, List.getElem?_eq_getElem h, List.map_append, List.sum_append]
  simp only [List.map_cons, List.map_nil, List.sum_cons, List.sum_nil, Option.getD_some, Nat.add_zero]
/-- decoded whole: the instructions of the first bytes -/
structure Whole (bs : List UInt8) (at_ : Nat) (l : List Ins) (ps : List Nat) : Prop where
  len : ps.length = l.length
  ps : ∀ i, i < l.length → ps[i]? = some (pl l i)
  fin : pl l l.length = at_
  ok : ∀ x ∈ l, x.Ok
  ins : ∀ i, i < l.length → l[i]? = some (insAt bs (pl l i)) ∧ okAt bs (pl l i) = true
theorem Whole.nil (bs : List UInt8) : Whole bs 0 [] [] := ⟨rfl, fun _ h => absurd h (Nat.not_lt_zero _), rfl, fun _ h => absurd h (List.not_mem_nil), fun _ h => absurd h (Nat.not_lt_zero _)⟩
theorem Whole.snoc {bs : List UInt8} {at_ : Nat} {l : List Ins} {ps : List Nat} (h : Whole bs at_ l ps) (hok : okAt bs at_ = true) : Whole bs (at_ + (insAt bs at_).size) (l ++ [insAt bs at_]) (ps ++ [at_]) := by
  have hin : inO (bAt bs at_) = true := by
    unfold okAt at hok
    simp only [Bool.and_eq_true] at hok
    exact hok.1
  refine ⟨by simp [h.len], fun i hi => ?_, ?_, fun x hx => ?_, fun i hi => ?_⟩
  · simp only [List.length_append, List.length_cons, List.length_nil] at hi
    rw [pl_snoc _ _ _ (by omega)]
    by_cases e : i < l.length
    · rw [List.getElem?_append_left (by rw [h.len]; exact e)]
      exact h.ps i e
    · obtain rfl : i = l.length := by omega
      rw [List.getElem?_append_right (by rw [h.len]; exact Nat.le_refl _), h.len, h.fin]
      simp
  · rw [List.length_append, List.length_cons, List.length_nil, pl_end, h.fin]
  · rcases List.mem_append.1 hx with e | e
    · exact h.ok x e
    · rw [List.mem_singleton] at e; subst e; exact insAt_ok bs at_ hin
  · simp only [List.length_append, List.length_cons, List.length_nil] at hi
    rw [pl_snoc _ _ _ (by omega)]
    by_cases e : i < l.length
    · rw [List.getElem?_append_left e]
      exact h.ins i e
    · obtain rfl : i = l.length := by omega
      rw [List.getElem?_append_right (Nat.le_refl _), h.fin]
      simp [hok]
theorem decF_whole {bs : List UInt8} : ∀ (f at_ : Nat) (l : List Ins) (ps : List Nat), bs.length < at_ + f → at_ ≤ bs.length → Whole bs at_ l ps →
    (∃ l' ps', decF bs f at_ l ps = (l', ps', 0, 0) ∧ Whole bs bs.length l' ps') ∨ (∃ p, decF bs f at_ l ps = ([], [], p, 50) ∧ p < bs.length)
  | 0, at_, l, ps, h, h2, _ => by omega
  | f + 1, at_, l, ps, h, h2, hw => by
    unfold decF
    by_cases h1 : bs.length ≤ at_
    · rw [if_pos h1]
      obtain rfl : at_ = bs.length := by omega
      exact .inl ⟨l, ps, rfl, hw⟩
    · rw [if_neg h1]
      cases hok : okAt bs at_ with
      | false => exact .inr ⟨at_, by simp, by omega⟩
      | true =>
        rw [if_pos rfl]
        have hin : inO (bAt bs at_) = true ∧ (at_ : Int) + szO (bAt bs at_) ≤ (bs.length : Int) := by
          have := hok
          unfold okAt at this
          simpa using this
        have hsz := size_cast (x := insAt bs at_) hin.1
        have e : (insAt bs at_).op = bAt bs at_ := rfl
        rw [e] at hsz
        exact decF_whole f _ _ _ (by omega) (by omega) (hw.snoc hok)
theorem decL_cases (bs : List UInt8) : (32767 < bs.length ∧ decL bs = ([], [], 0, 2)) ∨ (bs.length ≤ 32767 ∧ ((∃ l ps, decL bs = (l, ps, 0, 0) ∧ Whole bs bs.length l ps) ∨ (∃ p, decL bs = ([], [], p, 50) ∧ p < bs.length))) := by
  unfold decL
  by_cases h : 32767 < bs.length
  · exact .inl ⟨h, by rw [if_pos h]⟩
  · refine .inr ⟨by omega, ?_⟩
    rw [if_neg h]
    exact decF_whole _ _ _ _ (by omega) (by omega) (Whole.nil bs)
end Go.Proofs.YtaeegkljldngmaaDoor
