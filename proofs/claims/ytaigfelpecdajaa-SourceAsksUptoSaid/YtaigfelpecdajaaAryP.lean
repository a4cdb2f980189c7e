/-
  The plain law of selectors' arity: names, binary selectors, keyword parts. No program is in sight, and no statement of the seat is proved here.
-/
import Derived.Test.YtaigfelpecdajaaLx
namespace Go.Proofs.Ytaigfelpecdajaa
namespace Lx

/-- a name -/
def wordB : Txt → Bool
  | [] => false
  | c :: t => letB c && t.all ldB
/-- one or more binary bytes, or the bar -/
def binsB (l : Txt) : Bool := if l.all binB then !l.isEmpty else l == [124]
/-- the keyword parts of what is left, where a piece has been read -/
def parL : Txt → Txt → Nat → Option Nat
  | [], cur, n => if cur = [] then some n else none
  | c :: t, cur, n => if c = 58 then (if wordB cur then parL t [] (n + 1) else none) else parL t (cur ++ [c]) n
def parV : Option Nat → Int
  | some (n + 1) => (n : Int) + 1
  | _ => -1
def parN (l : Txt) : Int := parV (parL l [] 0)
def arityF (l : Txt) : Int := if wordB l then 0 else if binsB l then 1 else parN l
theorem parL_drop {l : Txt} {i : Nat} {x : UInt8} (h : l[i]? = some x) (cur : Txt) (n : Nat) :
    parL (l.drop i) cur n = if x = 58 then (if wordB cur then parL (l.drop (i + 1)) [] (n + 1) else none) else parL (l.drop (i + 1)) (cur ++ [x]) n := by
  have hi : i < l.length := by
    rcases Nat.lt_or_ge i l.length with h1 | h1
    · exact h1
    · rw [List.getElem?_eq_none h1] at h; cases h
  have hx : l[i] = x := by rw [List.getElem?_eq_getElem hi] at h; exact Option.some.inj h
  rw [List.drop_eq_getElem_cons hi, hx]
  rfl
theorem cut_self (l : Txt) (a : Nat) : cut l a a = [] := by
  unfold cut
  exact List.drop_eq_nil_of_le (List.length_take_le _ _)
theorem cut_snoc {l : Txt} {a i : Nat} {x : UInt8} (h : l[i]? = some x) (ha : a ≤ i) : cut l a i ++ [x] = cut l a (i + 1) := by
  have hi : i < l.length := by
    rcases Nat.lt_or_ge i l.length with h1 | h1
    · exact h1
    · rw [List.getElem?_eq_none h1] at h; cases h
  have hx : l[i] = x := by rw [List.getElem?_eq_getElem hi] at h; exact Option.some.inj h
  unfold cut
  rw [List.take_succ_eq_append_getElem hi, hx, List.drop_append, show a - (l.take i).length = 0 from by rw [List.length_take]; omega, List.drop_zero]
theorem parL_end {l : Txt} {a : Nat} (ha : a ≤ l.length) (n : Nat) : parL (l.drop l.length) (cut l a l.length) n = if a = l.length then some n else none := by
  rw [List.drop_length]
  unfold parL
  by_cases h : a = l.length
  · rw [if_pos h, if_pos (by rw [h]; exact cut_self _ _)]
  · rw [if_neg h, if_neg]
    intro h2
    have h3 : (cut l a l.length).length = l.length - a := by unfold cut; rw [List.take_length, List.length_drop]
    rw [h2] at h3
    simp at h3
    omega
end Lx
end Go.Proofs.Ytaigfelpecdajaa
