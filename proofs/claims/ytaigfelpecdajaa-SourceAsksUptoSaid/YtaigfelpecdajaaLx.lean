/-
  The plain law of the lexer: classes of bytes, and what each piece of a text comes to. No program is in sight, and no statement of the seat is proved here.
-/
import Derived.WalkKit
namespace Go.Proofs.Ytaigfelpecdajaa
namespace Lx

/-! ## Classes of bytes -/
def tabC : List (Nat × Nat × Nat) := [(9,10,1),(12,13,1),(32,32,1),(33,33,4),(37,38,4),(40,41,5),(42,45,4),(46,46,5),(47,47,4),(48,57,3),(58,59,5),(60,64,4),(65,90,2),(91,91,5),(92,92,4),(93,94,5),(95,95,2),(97,122,2),(123,125,5),(126,126,4)]
def clsT : List (Nat × Nat × Nat) → Nat → Nat
  | [], _ => 0
  | r :: t, x => if r.1 ≤ x ∧ x ≤ r.2.1 then r.2.2 else clsT t x
def cls (x : UInt8) : Nat := clsT tabC x.toNat
def capB (x : UInt8) : Bool := decide (65 ≤ x.toNat ∧ x.toNat ≤ 90)
def letB (x : UInt8) : Bool := cls x == 2
def digB (x : UInt8) : Bool := cls x == 3
def binB (x : UInt8) : Bool := cls x == 4
def ldB (x : UInt8) : Bool := letB x || digB x
def symB (x : UInt8) : Bool := letB x || digB x || x == 58
def figB (x : UInt8) : Bool := digB x || capB x
theorem all_u8 {p : UInt8 → Bool} (h : ∀ n : Fin 256, p (UInt8.ofNat n.val) = true) (x : UInt8) : p x = true := by
  have := h ⟨x.toNat, x.toNat_lt⟩
  simpa using this

/-! ## Pieces of a text -/
abbrev Txt := List UInt8
/-- the byte at a place; none behind the end -/
def isAt (l : Txt) (i : Nat) (b : UInt8) : Bool := l[i]? == some b
/-- what stands from a on, ahead of b -/
def cut (l : Txt) (a b : Nat) : Txt := (l.take b).drop a
/-- the place behind the bytes of a kind -/
def runF (p : UInt8 → Bool) (l : Txt) (i : Nat) : Nat := i + ((l.drop i).takeWhile p).length
theorem runF_step {p : UInt8 → Bool} {l : Txt} {i : Nat} {x : UInt8} (h : l[i]? = some x) (hp : p x = true) : runF p l (i + 1) = runF p l i := by
  have hi : i < l.length := by
    rcases Nat.lt_or_ge i l.length with h1 | h1
    · exact h1
    · rw [List.getElem?_eq_none h1] at h; cases h
  have hx : l[i] = x := by rw [List.getElem?_eq_getElem hi] at h; exact Option.some.inj h
  unfold runF
  rw [List.drop_eq_getElem_cons hi, hx, List.takeWhile_cons_of_pos hp]
  simp; omega
theorem runF_stop {p : UInt8 → Bool} {l : Txt} {i : Nat} {x : UInt8} (h : l[i]? = some x) (hp : p x = false) : runF p l i = i := by
  have hi : i < l.length := by
    rcases Nat.lt_or_ge i l.length with h1 | h1
    · exact h1
    · rw [List.getElem?_eq_none h1] at h; cases h
  have hx : l[i] = x := by rw [List.getElem?_eq_getElem hi] at h; exact Option.some.inj h
  unfold runF
  rw [List.drop_eq_getElem_cons hi, hx, List.takeWhile_cons_of_neg (by simp [hp])]
  simp
theorem runF_end {p : UInt8 → Bool} {l : Txt} {i : Nat} (h : l.length ≤ i) : runF p l i = i := by
  unfold runF
  rw [List.drop_eq_nil_of_le h]
  simp
theorem runF_ge (p : UInt8 → Bool) (l : Txt) (i : Nat) : i ≤ runF p l i := by unfold runF; omega
theorem runF_le (p : UInt8 → Bool) (l : Txt) (i : Nat) (h : i ≤ l.length) : runF p l i ≤ l.length := by
  unfold runF
  have h1 : ((l.drop i).takeWhile p).length ≤ (l.drop i).length := (List.takeWhile_prefix p).length_le
  rw [List.length_drop] at h1
  omega

/-! ## Binary selectors -/
def binL : Txt → Nat
  | [] => 0
  | c :: t => if binB c && !(c == 45 && (t.head?.map digB).getD false) then binL t + 1 else 0
def binF (l : Txt) (i : Nat) : Nat := i + binL (l.drop i)
def binGo (l : Txt) (i : Nat) : Bool := match l[i]? with
  | none => false
  | some c => binB c && !(c == 45 && (l[i + 1]?.map digB).getD false)
theorem binF_step {l : Txt} {i : Nat} (h : binGo l i = true) : binF l (i + 1) = binF l i := by
  unfold binGo at h
  rcases Nat.lt_or_ge i l.length with hi | hi
  · rw [List.getElem?_eq_getElem hi] at h
    unfold binF
    rw [List.drop_eq_getElem_cons hi]
    simp only [binL]
    rw [List.head?_drop, if_pos h]
    omega
  · rw [List.getElem?_eq_none hi] at h
    simp at h
theorem binF_stop {l : Txt} {i : Nat} (h : binGo l i = false) : binF l i = i := by
  unfold binGo at h
  rcases Nat.lt_or_ge i l.length with hi | hi
  · rw [List.getElem?_eq_getElem hi] at h
    unfold binF
    rw [List.drop_eq_getElem_cons hi]
    simp only [binL]
    rw [List.head?_drop, if_neg (by simpa using h)]
    omega
  · unfold binF
    rw [List.drop_eq_nil_of_le hi]
    rfl
theorem binL_le : ∀ l : Txt, binL l ≤ l.length
  | [] => Nat.le_refl _
  | c :: t => by
    have := binL_le t
    simp only [binL, List.length_cons]
    split <;> omega
theorem binF_ge (l : Txt) (i : Nat) : i ≤ binF l i := by unfold binF; omega
theorem binF_le (l : Txt) (i : Nat) (h : i ≤ l.length) : binF l i ≤ l.length := by
  unfold binF
  have h1 := binL_le (l.drop i)
  rw [List.length_drop] at h1
  omega

/-! ## Strings -/
/-- behind the opening quote: what it stands for, and how many bytes with the closing quote -/
def qt : Txt → Option (Txt × Nat)
  | [] => none
  | [c] => if c = 39 then some ([], 1) else none
  | c :: d :: u => if c = 39 then (if d = 39 then (qt u).map fun r => (39 :: r.1, r.2 + 2) else some ([], 1)) else (qt (d :: u)).map fun r => (c :: r.1, r.2 + 1)
/-- what has come so far ahead of it -/
def qOn (acc : Txt) (k : Nat) (r : Option (Txt × Nat)) : Option (Txt × Nat) := r.map fun r => (acc ++ r.1, r.2 + k)
/-- the string whose opening quote stands at i: its text, and the place behind -/
def qF (l : Txt) (i : Nat) : Option (Txt × Nat) := qOn [] (i + 1) (qt (l.drop (i + 1)))
theorem qt_nil : qt [] = none := by simp [qt]
theorem qt_plain (c : UInt8) (t : Txt) (h : c ≠ 39) : qt (c :: t) = (qt t).map fun r => (c :: r.1, r.2 + 1) := by
  cases t with
  | nil => simp [qt, h]
  | cons d u => simp [qt, h]
theorem qt_twice (t : Txt) : qt (39 :: 39 :: t) = (qt t).map fun r => (39 :: r.1, r.2 + 2) := by simp [qt]
theorem qt_end (t : Txt) (h : t.head? ≠ some 39) : qt (39 :: t) = some ([], 1) := by
  cases t with
  | nil => simp [qt]
  | cons d u =>
    have : d ≠ 39 := fun e => h (by rw [e]; rfl)
    simp [qt, this]
theorem drop_at {l : Txt} {i : Nat} {x : UInt8} (h : l[i]? = some x) : l.drop i = x :: l.drop (i + 1) := by
  have hi : i < l.length := by
    rcases Nat.lt_or_ge i l.length with h1 | h1
    · exact h1
    · rw [List.getElem?_eq_none h1] at h; cases h
  rw [List.drop_eq_getElem_cons hi]
  rw [List.getElem?_eq_getElem hi] at h
  rw [Option.some.inj h]
theorem qOn_plain {l : Txt} {i : Nat} {x : UInt8} (acc : Txt) (h : l[i]? = some x) (hx : x ≠ 39) : qOn acc i (qt (l.drop i)) = qOn (acc ++ [x]) (i + 1) (qt (l.drop (i + 1))) := by
  rw [drop_at h, qt_plain _ _ hx]
  unfold qOn
  cases qt (l.drop (i + 1)) with
  | none => rfl
  | some r => simp; omega
theorem qOn_twice {l : Txt} {i : Nat} (acc : Txt) (h : l[i]? = some 39) (h2 : l[i + 1]? = some 39) : qOn acc i (qt (l.drop i)) = qOn (acc ++ [39]) (i + 2) (qt (l.drop (i + 2))) := by
  rw [drop_at h, drop_at h2, qt_twice]
  unfold qOn
  cases qt (l.drop (i + 2)) with
  | none => rfl
  | some r => simp; omega
theorem qOn_end {l : Txt} {i : Nat} (acc : Txt) (h : l[i]? = some 39) (h2 : l[i + 1]? ≠ some 39) : qOn acc i (qt (l.drop i)) = some (acc, i + 1) := by
  rw [drop_at h, qt_end _ (by rw [List.head?_drop]; exact h2)]
  unfold qOn
  simp; omega
theorem qOn_none {l : Txt} {i : Nat} (acc : Txt) (h : l.length ≤ i) : qOn acc i (qt (l.drop i)) = none := by
  rw [List.drop_eq_nil_of_le h, qt_nil]
  rfl
theorem qt_len : ∀ (n : Nat) (l : Txt), l.length ≤ n → ∀ r, qt l = some r → r.2 ≤ l.length ∧ 1 ≤ r.2 ∧ r.1.length ≤ r.2
  | 0, l, h, r, hr => by
    obtain rfl : l = [] := List.eq_nil_of_length_eq_zero (by omega)
    simp [qt] at hr
  | n + 1, [], h, r, hr => by simp [qt] at hr
  | n + 1, [c], h, r, hr => by
    simp only [qt] at hr
    split at hr
    · cases hr; simp
    · cases hr
  | n + 1, c :: d :: u, h, r, hr => by
    simp only [qt] at hr
    split at hr
    · split at hr
      · obtain ⟨r', h1, rfl⟩ := Option.map_eq_some_iff.1 hr
        have := qt_len n u (by simp at h; omega) r' h1
        simp; omega
      · cases hr; simp
    · obtain ⟨r', h1, rfl⟩ := Option.map_eq_some_iff.1 hr
      have := qt_len n (d :: u) (by simp at h; simp; omega) r' h1
      simp at this ⊢; omega
theorem qF_le {l : Txt} {i : Nat} {r : Txt × Nat} (h : qF l i = some r) (hi : i < l.length) : i < r.2 ∧ r.2 ≤ l.length ∧ r.1.length ≤ l.length := by
  unfold qF qOn at h
  obtain ⟨r', h1, rfl⟩ := Option.map_eq_some_iff.1 h
  have := qt_len _ _ (Nat.le_refl _) r' h1
  rw [List.length_drop] at this
  simp; omega

/-! ## Numbers -/
def valF (x : UInt8) : Nat := if capB x then x.toNat - 55 else x.toNat - 48
/-- what is still to be carried, in decimal digits, the lowest ahead (below 100) -/
def co (d : Nat) : List Nat := if d = 0 then [] else if d < 10 then [d] else [d % 10, d / 10]
/-- a number's decimal digits, the lowest ahead, times a base, and a digit more -/
def growF (base : Nat) : List Nat → Nat → List Nat
  | [], d => co d
  | x :: t, d => (x * base + d) % 10 :: growF base t ((x * base + d) / 10)
/-- some digits of a base behind a number's; none: one is no digit of it -/
def decN (base : Nat) : List Nat → Txt → Option (List Nat)
  | n, [] => some n
  | n, x :: t => if valF x < base then decN base (growF base n (valF x)) t else none
def txtN (n : List Nat) : Txt := n.reverse.map fun d => UInt8.ofNat (48 + d)
/-- the number of digits of a base -/
def decF (base : Nat) (ds : Txt) : Option Txt :=
  if base < 2 ∨ 36 < base ∨ 1000 < ds.length then none
  else match decN base [] ds with
    | none => none
    | some n => if 1000 < n.length then none else some (if n = [] then [48] else txtN n)
/-- the base that stands ahead of the r (two digits at most) -/
def baseN : Txt → Nat → Nat
  | [], b => b
  | x :: t, b => baseN t (10 * b + (x.toNat - 48))
/-- the integer that begins at i, and the place behind it -/
def numF (l : Txt) (i : Nat) : Option (Txt × Nat) :=
  let j := runF digB l i
  if isAt l j 114 && (l[j + 1]?.map figB).getD false then
    let k := runF figB l (j + 1)
    if 2 < j - i then none else (decF (baseN (cut l i j) 0) (cut l (j + 1) k)).map fun t => (t, k)
  else (decF 10 (cut l i j)).map fun t => (t, j)

/-! ## Tokens -/
/-- what stands at a place: err 0: text t of a kind (0: nothing) up to next; else an error at a place -/
structure Stp where
  kind : Nat
  text : Txt
  next : Nat
  place : Nat
  err : Nat
def tok (k : Nat) (t : Txt) (n : Nat) : Stp := ⟨k, t, n, 0, 0⟩
def bad (place err : Nat) : Stp := ⟨0, [], 0, place, err⟩
def symF (l : Txt) (i : Nat) : Stp :=
  match l[i + 1]? with
  | none => bad i 120
  | some b =>
    if cls b = 2 then tok 6 (cut l (i + 1) (runF symB l (i + 1))) (runF symB l (i + 1))
    else if cls b = 4 then tok 6 (cut l (i + 1) (binF l (i + 2))) (binF l (i + 2))
    else if b = 124 then tok 6 [124] (i + 2)
    else if b = 39 then (match qF l (i + 1) with
      | none => bad (i + 1) 121
      | some r => tok 6 r.1 r.2)
    else if b = 40 ∨ b = 91 then tok 7 (cut l i (i + 2)) (i + 2)
    else bad i 120
def stepF (l : Txt) (i : Nat) : Stp :=
  match l[i]? with
  | none => bad 0 0
  | some b =>
    if cls b = 1 then tok 0 [] (i + 1)
    else if cls b = 2 then
      (if isAt l (runF ldB l i) 58 && !isAt l (runF ldB l i + 1) 61 then tok 2 (cut l i (runF ldB l i + 1)) (runF ldB l i + 1) else tok 1 (cut l i (runF ldB l i)) (runF ldB l i))
    else if cls b = 3 then (match numF l i with
      | none => bad i 123
      | some r => tok 4 r.1 r.2)
    else if cls b = 4 then tok 3 (cut l i (binF l (i + 1))) (binF l (i + 1))
    else if cls b = 5 then (if b = 58 ∧ isAt l (i + 1) 61 = true then tok 7 (cut l i (i + 2)) (i + 2) else tok 7 (cut l i (i + 1)) (i + 1))
    else if b = 34 then
      (if runF (fun x => x != 34) l (i + 1) < l.length then tok 0 [] (runF (fun x => x != 34) l (i + 1) + 1) else bad i 122)
    else if b = 39 then (match qF l i with
      | none => bad i 121
      | some r => tok 5 r.1 r.2)
    else if b = 35 then symF l i
    else bad i 120

/-- a token: its kind, text and place -/
abbrev Tk := Nat × Txt × Nat
/-- all tokens from a place on, behind those that there are: the tokens, the place of what is wrong, the error -/
def lexF (l : Txt) : Nat → Nat → List Tk → List Tk × Nat × Nat
  | 0, _, acc => (acc, 0, 0)
  | f + 1, i, acc =>
    if i < l.length then
      (if (stepF l i).err = 0 then lexF l f (stepF l i).next (if (stepF l i).kind = 0 then acc else acc ++ [((stepF l i).kind, (stepF l i).text, i)]) else ([], (stepF l i).place, (stepF l i).err))
    else (acc, 0, 0)
end Lx
end Go.Proofs.Ytaigfelpecdajaa
