/-
  Parts Lx, Words, Cls of the proof. No statement of the seat is proved here.
-/
import Derived.WalkKit
import Derived.Below
import Derived.Laws.OwnMore
import Derived.Deep.AppendLies
import Derived.Deep.Draws
import Derived.Laws.Rows
import Derived.Maps.AppendAt
import Derived.RegionTactic
import Derived.OwnWalk
import Derived.LaidEqlPtr
import Derived.Laws.MakeOwn
import Derived.Laws.BitsAllLaws
import Derived.Laws.BitsLemmas
import Derived.ChangeSame
import Derived.Deep.OwnRows
import Derived.Lib.Hide
import Derived.Laws.BytesArg
import Derived.Test.YtjhonaglmgmpiaaGreatDoorChecked
import Derived.Outline
import Derived.Great.BuildSlice
import Derived.Deep.WholeRow
set_option maxHeartbeats 4000000
namespace Go.Proofs.YtjhonaglmgmpiaaGreatDoor
namespace Lx
def tabC : List (Nat × Nat × Nat) := [(9,10,1),(12,13,1),(32,32,1),(33,33,4),(37,38,4),(40,41,5),(42,45,4),(46,46,5),(47,47,4),(48,57,3),(58,59,5),(60,64,4),(65,90,2),(91,91,5),(92,92,4),(93,94,5),(95,95,2),(97,122,2),(123,125,5),(126,126,4)]
def clsT : List (Nat × Nat × Nat) → Nat → Nat
 | [], _ => 0
 | r :: t, x => if r.1 ≤ x ∧ x ≤ r.2.1 then r.2.2 else clsT t x
def cls (x : UInt8) : Nat := clsT tabC x.toNat
def capB (x : UInt8) : Bool := decide (65 ≤ x.toNat ∧ x.toNat ≤ 90)
def letB (x : UInt8) : Bool := cls x == 2
def digB (x : UInt8) : Bool := cls x == 3
def binB (x : UInt8) : Bool := cls x == 4
def ldB (x : UInt8) : Bool := letB x || digB x
def symB (x : UInt8) : Bool := letB x || digB x || x == 58
def figB (x : UInt8) : Bool := digB x || capB x
theorem all_u8 {p : UInt8 → Bool} (h : ∀ n : Fin 256, p (UInt8.ofNat n.val) = true) (x : UInt8) : p x = true := by
 have := h ⟨x.toNat, x.toNat_lt⟩
 simpa using this
abbrev Txt := List UInt8
def isAt (l : Txt) (i : Nat) (b : UInt8) : Bool := l[i]? == some b
def cut (l : Txt) (a b : Nat) : Txt := (l.take b).drop a
def runF (p : UInt8 → Bool) (l : Txt) (i : Nat) : Nat := i + ((l.drop i).takeWhile p).length
theorem runF_step {p : UInt8 → Bool} {l : Txt} {i : Nat} {x : UInt8} (h : l[i]? = some x) (hp : p x = true) : runF p l (i + 1) = runF p l i := by
 have hi : i < l.length := by
  rcases Nat.lt_or_ge i l.length with h1 | h1
  ·exact h1
  ·rw [List.getElem?_eq_none h1] at h; cases h
 have hx : l[i] = x := by rw [List.getElem?_eq_getElem hi] at h; exact Option.some.inj h
 unfold runF
 rw [List.drop_eq_getElem_cons hi, hx, List.takeWhile_cons_of_pos hp]
 simp; omega
theorem runF_stop {p : UInt8 → Bool} {l : Txt} {i : Nat} {x : UInt8} (h : l[i]? = some x) (hp : p x = false) : runF p l i = i := by
 have hi : i < l.length := by
  rcases Nat.lt_or_ge i l.length with h1 | h1
  ·exact h1
  ·rw [List.getElem?_eq_none h1] at h; cases h
 have hx : l[i] = x := by rw [List.getElem?_eq_getElem hi] at h; exact Option.some.inj h
 unfold runF
 rw [List.drop_eq_getElem_cons hi, hx, List.takeWhile_cons_of_neg (by simp [hp])]
 simp
theorem runF_end {p : UInt8 → Bool} {l : Txt} {i : Nat} (h : l.length ≤ i) : runF p l i = i := by
 unfold runF
 rw [List.drop_eq_nil_of_le h]
 simp
theorem runF_ge (p : UInt8 → Bool) (l : Txt) (i : Nat) : i ≤ runF p l i := by unfold runF; omega
theorem runF_le (p : UInt8 → Bool) (l : Txt) (i : Nat) (h : i ≤ l.length) : runF p l i ≤ l.length := by
 unfold runF
 have h1 : ((l.drop i).takeWhile p).length ≤ (l.drop i).length := (List.takeWhile_prefix p).length_le
 rw [List.length_drop] at h1
 omega
def binL : Txt → Nat
 | [] => 0
 | c :: t => if binB c && !(c == 45 && (t.head?.map digB).getD false) then binL t + 1 else 0
def binF (l : Txt) (i : Nat) : Nat := i + binL (l.drop i)
def binGo (l : Txt) (i : Nat) : Bool := match l[i]? with
 | none => false
 | some c => binB c && !(c == 45 && (l[i + 1]?.map digB).getD false)
theorem binF_step {l : Txt} {i : Nat} (h : binGo l i = true) : binF l (i + 1) = binF l i := by
 unfold binGo at h
 rcases Nat.lt_or_ge i l.length with hi | hi
 ·rw [List.getElem?_eq_getElem hi] at h
  unfold binF
  rw [List.drop_eq_getElem_cons hi]
  simp only [binL]
  rw [List.head?_drop, if_pos h]
  omega
 ·rw [List.getElem?_eq_none hi] at h
  simp at h
theorem binF_stop {l : Txt} {i : Nat} (h : binGo l i = false) : binF l i = i := by
 unfold binGo at h
 rcases Nat.lt_or_ge i l.length with hi | hi
 ·rw [List.getElem?_eq_getElem hi] at h
  unfold binF
  rw [List.drop_eq_getElem_cons hi]
  simp only [binL]
  rw [List.head?_drop, if_neg (by simpa using h)]
  omega
 ·unfold binF
  rw [List.drop_eq_nil_of_le hi]
  rfl
theorem binL_le : ∀ l : Txt, binL l ≤ l.length
 | [] => Nat.le_refl _
 | c :: t => by
  have := binL_le t
  simp only [binL, List.length_cons]
  split <;> omega
theorem binF_ge (l : Txt) (i : Nat) : i ≤ binF l i := by unfold binF; omega
theorem binF_le (l : Txt) (i : Nat) (h : i ≤ l.length) : binF l i ≤ l.length := by
 unfold binF
 have h1 := binL_le (l.drop i)
 rw [List.length_drop] at h1
 omega
def qt : Txt → Option (Txt × Nat)
 | [] => none
 | [c] => if c = 39 then some ([], 1) else none
 | c :: d :: u => if c = 39 then (if d = 39 then (qt u).map fun r => (39 :: r.1, r.2 + 2) else some ([], 1)) else (qt (d :: u)).map fun r => (c :: r.1, r.2 + 1)
def qOn (acc : Txt) (k : Nat) (r : Option (Txt × Nat)) : Option (Txt × Nat) := r.map fun r => (acc ++ r.1, r.2 + k)
def qF (l : Txt) (i : Nat) : Option (Txt × Nat) := qOn [] (i + 1) (qt (l.drop (i + 1)))
theorem qt_nil : qt [] = none := by simp [qt]
theorem qt_plain (c : UInt8) (t : Txt) (h : c ≠ 39) : qt (c :: t) = (qt t).map fun r => (c :: r.1, r.2 + 1) := by
 cases t with
 | nil => simp [qt, h]
 | cons d u => simp [qt, h]
theorem qt_twice (t : Txt) : qt (39 :: 39 :: t) = (qt t).map fun r => (39 :: r.1, r.2 + 2) := by simp [qt]
theorem qt_end (t : Txt) (h : t.head? ≠ some 39) : qt (39 :: t) = some ([], 1) := by
 cases t with
 | nil => simp [qt]
 | cons d u =>
  have : d ≠ 39 := fun e => h (by rw [e]; rfl)
  simp [qt, this]
theorem drop_at {l : Txt} {i : Nat} {x : UInt8} (h : l[i]? = some x) : l.drop i = x :: l.drop (i + 1) := by
 have hi : i < l.length := by
  rcases Nat.lt_or_ge i l.length with h1 | h1
  ·exact h1
  ·rw [List.getElem?_eq_none h1] at h; cases h
 rw [List.drop_eq_getElem_cons hi]
 rw [List.getElem?_eq_getElem hi] at h
 rw [Option.some.inj h]
theorem qOn_plain {l : Txt} {i : Nat} {x : UInt8} (acc : Txt) (h : l[i]? = some x) (hx : x ≠ 39) : qOn acc i (qt (l.drop i)) = qOn (acc ++ [x]) (i + 1) (qt (l.drop (i + 1))) := by
 rw [drop_at h, qt_plain _ _ hx]
 unfold qOn
 cases qt (l.drop (i + 1)) with
 | none => rfl
 | some r => simp; omega
theorem qOn_twice {l : Txt} {i : Nat} (acc : Txt) (h : l[i]? = some 39) (h2 : l[i + 1]? = some 39) : qOn acc i (qt (l.drop i)) = qOn (acc ++ [39]) (i + 2) (qt (l.drop (i + 2))) := by
 rw [drop_at h, drop_at h2, qt_twice]
 unfold qOn
 cases qt (l.drop (i + 2)) with
 | none => rfl
 | some r => simp; omega
theorem qOn_end {l : Txt} {i : Nat} (acc : Txt) (h : l[i]? = some 39) (h2 : l[i + 1]? ≠ some 39) : qOn acc i (qt (l.drop i)) = some (acc, i + 1) := by
 rw [drop_at h, qt_end _ (by rw [List.head?_drop]; exact h2)]
 unfold qOn
 simp; omega
theorem qOn_none {l : Txt} {i : Nat} (acc : Txt) (h : l.length ≤ i) : qOn acc i (qt (l.drop i)) = none := by
 rw [List.drop_eq_nil_of_le h, qt_nil]
 rfl
theorem qt_len : ∀ (n : Nat) (l : Txt), l.length ≤ n → ∀ r, qt l = some r → r.2 ≤ l.length ∧ 1 ≤ r.2 ∧ r.1.length ≤ r.2
 | 0, l, h, r, hr => by
  obtain rfl : l = [] := List.eq_nil_of_length_eq_zero (by omega)
  simp [qt] at hr
 | n + 1, [], h, r, hr => by simp [qt] at hr
 | n + 1, [c], h, r, hr => by
  simp only [qt] at hr
  split at hr
  ·cases hr; simp
  ·cases hr
 | n + 1, c :: d :: u, h, r, hr => by
  simp only [qt] at hr
  split at hr
  ·split at hr
   ·obtain ⟨r', h1, rfl⟩ := Option.map_eq_some_iff.1 hr
    have := qt_len n u (by simp at h; omega) r' h1
    simp; omega
   ·cases hr; simp
  ·obtain ⟨r', h1, rfl⟩ := Option.map_eq_some_iff.1 hr
   have := qt_len n (d :: u) (by simp at h; simp; omega) r' h1
   simp at this ⊢; omega
theorem qF_le {l : Txt} {i : Nat} {r : Txt × Nat} (h : qF l i = some r) (hi : i < l.length) : i < r.2 ∧ r.2 ≤ l.length ∧ r.1.length ≤ l.length := by
 unfold qF qOn at h
 obtain ⟨r', h1, rfl⟩ := Option.map_eq_some_iff.1 h
 have := qt_len _ _ (Nat.le_refl _) r' h1
 rw [List.length_drop] at this
 simp; omega
def valF (x : UInt8) : Nat := if capB x then x.toNat - 55 else x.toNat - 48
def co (d : Nat) : List Nat := if d = 0 then [] else if d < 10 then [d] else [d % 10, d / 10]
def growF (base : Nat) : List Nat → Nat → List Nat
 | [], d => co d
 | x :: t, d => (x * base + d) % 10 :: growF base t ((x * base + d) / 10)
def decN (base : Nat) : List Nat → Txt → Option (List Nat)
 | n, [] => some n
 | n, x :: t => if valF x < base then decN base (growF base n (valF x)) t else none
def txtN (n : List Nat) : Txt := n.reverse.map fun d => UInt8.ofNat (48 + d)
def decF (base : Nat) (ds : Txt) : Option Txt :=
 if base < 2 ∨ 36 < base ∨ 1000 < ds.length then none
 else match decN base [] ds with
  | none => none
  | some n => if 1000 < n.length then none else some (if n = [] then [48] else txtN n)
def baseN : Txt → Nat → Nat
 | [], b => b
 | x :: t, b => baseN t (10 * b + (x.toNat - 48))
def numF (l : Txt) (i : Nat) : Option (Txt × Nat) :=
 let j := runF digB l i
 if isAt l j 114 && (l[j + 1]?.map figB).getD false then
  let k := runF figB l (j + 1)
  if 2 < j - i then none else (decF (baseN (cut l i j) 0) (cut l (j + 1) k)).map fun t => (t, k)
 else (decF 10 (cut l i j)).map fun t => (t, j)
structure Stp where
 kind : Nat
 text : Txt
 next : Nat
 place : Nat
 err : Nat
def tok (k : Nat) (t : Txt) (n : Nat) : Stp := ⟨k, t, n, 0, 0⟩
def bad (place err : Nat) : Stp := ⟨0, [], 0, place, err⟩
def symF (l : Txt) (i : Nat) : Stp :=
 match l[i + 1]? with
 | none => bad i 120
 | some b =>
  if cls b = 2 then tok 6 (cut l (i + 1) (runF symB l (i + 1))) (runF symB l (i + 1))
  else if cls b = 4 then tok 6 (cut l (i + 1) (binF l (i + 2))) (binF l (i + 2))
  else if b = 124 then tok 6 [124] (i + 2)
  else if b = 39 then (match qF l (i + 1) with
   | none => bad (i + 1) 121
   | some r => tok 6 r.1 r.2)
  else if b = 40 ∨ b = 91 then tok 7 (cut l i (i + 2)) (i + 2)
  else bad i 120
def stepF (l : Txt) (i : Nat) : Stp :=
 match l[i]? with
 | none => bad 0 0
 | some b =>
  if cls b = 1 then tok 0 [] (i + 1)
  else if cls b = 2 then
   (if isAt l (runF ldB l i) 58 && !isAt l (runF ldB l i + 1) 61 then tok 2 (cut l i (runF ldB l i + 1)) (runF ldB l i + 1) else tok 1 (cut l i (runF ldB l i)) (runF ldB l i))
  else if cls b = 3 then (match numF l i with
   | none => bad i 123
   | some r => tok 4 r.1 r.2)
  else if cls b = 4 then tok 3 (cut l i (binF l (i + 1))) (binF l (i + 1))
  else if cls b = 5 then (if b = 58 ∧ isAt l (i + 1) 61 = true then tok 7 (cut l i (i + 2)) (i + 2) else tok 7 (cut l i (i + 1)) (i + 1))
  else if b = 34 then
   (if runF (fun x => x != 34) l (i + 1) < l.length then tok 0 [] (runF (fun x => x != 34) l (i + 1) + 1) else bad i 122)
  else if b = 39 then (match qF l i with
   | none => bad i 121
   | some r => tok 5 r.1 r.2)
  else if b = 35 then symF l i
  else bad i 120
abbrev Tk := Nat × Txt × Nat
def lexF (l : Txt) : Nat → Nat → List Tk → List Tk × Nat × Nat
 | 0, _, acc => (acc, 0, 0)
 | f + 1, i, acc =>
  if i < l.length then
   (if (stepF l i).err = 0 then lexF l f (stepF l i).next (if (stepF l i).kind = 0 then acc else acc ++ [((stepF l i).kind, (stepF l i).text, i)]) else ([], (stepF l i).place, (stepF l i).err))
  else (acc, 0, 0)
end Lx
end Go.Proofs.YtjhonaglmgmpiaaGreatDoor
namespace Go.Proofs.YtjhonaglmgmpiaaGreatDoor
open Go.RowKit
theorem Hd {p : Prop} (h : p) : RowKit.Hid p := h
theorem block_of_add (a : Addr) (n : Nat) : (a.add n).block = a.block := by unfold Addr.add; split <;> rfl
theorem add_of_add (a : Addr) (i j : Nat) : (a.add i).add j = a.add (i + j) := by
 unfold Addr.add
 by_cases hi : i = 0 <;> by_cases hj : j = 0 <;> simp [hi, hj, Nat.add_assoc]
def Reads (w : World) (B size : Nat) (A : Option Addr) (n : Nat) (xs : List Value) : Prop :=
 xs.length = n * size ∧ (0 < n → ∃ ad, A = some ad ∧ ad.block < B ∧ ∀ j u, xs[j]? = some u → w.cell? (ad.add j) = some u)
section
variable {w w' : World} {B B' size n : Nat} {A : Option Addr} {xs : List Value}
theorem Reads.none_ : Reads w B size A 0 [] := ⟨by simp, fun h => absurd h (by omega)⟩
theorem Reads.at_ {k : Nat} (h : Reads w B 1 A n xs) (hk : k < n) : ∃ ad u, A = some ad ∧ ad.block < B ∧ xs[k]? = some u ∧ w.cell? (ad.add k) = some u := by
 obtain ⟨ad, e, hb, hc⟩ := h.2 (by omega)
 have hl : k < xs.length := by have := h.1; omega
 exact ⟨ad, xs[k], e, hb, List.getElem?_eq_getElem hl, hc k _ (List.getElem?_eq_getElem hl)⟩
theorem Reads.keep (h : Reads w B size A n xs) (hk : ∀ p : Addr, p.block < B → w'.cell? p = w.cell? p) : Reads w' B size A n xs :=
 ⟨h.1, fun hn => by
  obtain ⟨ad, e, hb, hc⟩ := h.2 hn
  exact ⟨ad, e, hb, fun j u hu => (hk _ (by rw [block_of_add]; exact hb)).trans (hc j u hu)⟩⟩
theorem Reads.more (h : Reads w B size A n xs) (hB : B ≤ B') : Reads w B' size A n xs :=
 ⟨h.1, fun hn => by
  obtain ⟨ad, e, hb, hc⟩ := h.2 hn
  exact ⟨ad, e, by omega, hc⟩⟩
theorem Reads.below (h : Reads w B size A n xs) (hb : Below B w w') : Reads w' B size A n xs := h.keep fun _ hp => hb.cell hp
theorem Reads.drew (h : Reads w B size A n xs) : Reads w.drew B size A n xs := h
theorem Reads.drewN (h : Reads w B size A n xs) (k : Nat) : Reads (w.drewN k) B size A n xs := h
theorem Reads.alloc (h : Reads w B size A n xs) (hB : B ≤ w.heap.size) (o : Obj) : Reads (w.alloc o) B size A n xs := h.keep fun p hp => World.cell?_alloc_lt w o p (by omega)
theorem Reads.setCell (h : Reads w B size A n xs) {p : Addr} (hB : B ≤ p.block) (u : Value) : Reads (w.setCell p u) B size A n xs :=
 h.keep fun q hq => World.cell?_setCell_other w p q u (fun e => by subst e; omega)
theorem Reads.grown (h : Reads w B size A n xs) {row : Option Nat} (hg : w.grownBy w' row) (hB : B ≤ w.heap.size) (hr : ∀ g, row = some g → B ≤ g) : Reads w' B size A n xs :=
 h.keep fun p hp => World.cell?_of_block (hg.block p.block (by omega) (fun e => by have := hr _ e.symm; omega))
theorem Reads.cut (h : Reads w B size A n xs) {k cap : Nat} (hk : k ≤ n) (hc : n ≤ cap) :
  Reads w B size (if cap = k then A else A.map (·.add (k * size))) (n - k) (xs.drop (k * size)) := by
 refine ⟨by rw [List.length_drop, h.1, Nat.sub_mul], fun hn => ?_⟩
 obtain ⟨ad, rfl, hb, hcell⟩ := h.2 (by omega)
 rw [if_neg (by omega)]
 refine ⟨ad.add (k * size), rfl, by rw [block_of_add]; exact hb, fun j u hu => ?_⟩
 rw [add_of_add]
 exact hcell _ u (by rw [← hu, List.getElem?_drop])
theorem Reads.of_own {base : Nat} {e : TypeId} {c : Nat} (h : w.ownsRow base e size (.slice A n c) n xs) : Reads w w.heap.size size A n xs := by
 refine ⟨h.1, fun hn => ?_⟩
 obtain ⟨g, cap, hv, _, hlt⟩ := h.form hn
 have hA : A = some ⟨g, 0, none⟩ := by injection hv
 subst hA
 exact ⟨_, rfl, hlt, h.cells (g := g) rfl⟩
end
def Blk (w : World) (g : Nat) (t : TypeId) (cs : Array Value) : Prop := w.heap[g]? = some (.cells cs t (0, 0))
section
variable {w w' : World} {g : Nat} {t : TypeId} {cs : Array Value}
theorem Blk.lt (h : Blk w g t cs) : g < w.heap.size := by
 rcases Nat.lt_or_ge g w.heap.size with hlt | hge
 ·exact hlt
 ·unfold Blk at h; rw [Array.getElem?_eq_none hge] at h; cases h
theorem Blk.cell (h : Blk w g t cs) (i : Nat) : w.cell? ⟨g, i, none⟩ = cs[i]? := cell_of_row w g i cs t (0, 0) h
theorem Blk.frozen (h : Blk w g t cs) (i : Nat) : w.frozen? ⟨g, i, none⟩ = false := by
 unfold Blk at h
 simp [World.frozen?, h]
theorem Blk.new (w : World) (t : TypeId) (cs : Array Value) : Blk (w.alloc (.cells cs t)) w.heap.size t cs := heap_alloc_new w _
theorem Blk.drew (h : Blk w g t cs) : Blk w.drew g t cs := h
theorem Blk.drewN (h : Blk w g t cs) (n : Nat) : Blk (w.drewN n) g t cs := h
theorem Blk.alloc (h : Blk w g t cs) (o : Obj) : Blk (w.alloc o) g t cs := (Below.heap_alloc w o g h.lt).trans h
theorem Blk.set_ (h : Blk w g t cs) (i : Nat) (u : Value) : Blk (w.setCell ⟨g, i, none⟩ u) g t (cs.setIfInBounds i u) := by
 unfold Blk at h ⊢
 simp [World.setCell, Array.getElem?_modify, h]
theorem Blk.far (h : Blk w g t cs) {p : Addr} (hp : g ≠ p.block) (u : Value) : Blk (w.setCell p u) g t cs := (Below.heap_setCell w p u g hp).trans h
theorem Blk.below {B : Nat} (h : Blk w g t cs) (hb : Below B w w') (hg : g < B) : Blk w' g t cs := (hb.block g hg).trans h
theorem Blk.grown {row : Option Nat} (h : Blk w g t cs) (hb : w.grownBy w' row) (hg : some g ≠ row) : Blk w' g t cs := (hb.block g h.lt hg).trans h
theorem Blk.ne_ {g' : Nat} {t' : TypeId} {cs' : Array Value} (h : Blk w g t cs) (h' : Blk w g' t' cs') (hne : t ≠ t') : g ≠ g' := by
 rintro rfl
 unfold Blk at h h'
 rw [h] at h'
 injection h' with h'
 injection h' with _ ht
 exact hne ht
theorem own_blk_ne {base : Nat} {e : TypeId} {size n : Nat} {v : Value} {xs : List Value} (h : w.ownsRow base e size v n xs) (hg : Blk w g t cs) (hne : e ≠ t) : v.ownBlock ≠ some g := by
 rcases h.2 with ⟨rfl, _⟩ | ⟨g', cap, cur, rfl, _, hh, _⟩
 ·simp [Value.ownBlock]
 ·intro he
  have : g' = g := by simpa [Value.ownBlock] using he
  subst this
  exact Blk.ne_ (t := e) hh hg hne rfl
end
section
variable {P : Program} (w : World)
theorem run_append_of_nil (base : Nat) (t ty e : TypeId) (i : TypeInfo) (size : Nat) (ht : P.underlying t = some (.slice e)) (hi : P.info? e = some i)
  (v : Value) (n : Nat) (xs : List Value) (hown : w.ownsRow base e size v n xs) (c : Nat) : (Builtin.append_ #[t, t] ty #[v, .slice none 0 c]).run P w = .ok v w := by
 rcases hown.2 with ⟨rfl, rfl⟩ | ⟨g, cap, cur, rfl, _, _, hnc, _⟩
 ·simp [Builtin.append_, run_underlying ht, sizeOf, typeInfo, hi, Builtin.lenOf, Builtin.firstCells]
 ·simp [Builtin.append_, run_underlying ht, sizeOf, typeInfo, hi, Builtin.lenOf, Builtin.firstCells, hnc, storeCells]
theorem run_append_any (base : Nat) (t ty e : TypeId) (i : TypeInfo) (z : Value) (size bytes : Nat) (ht : P.underlying t = some (.slice e)) (hi : P.info? e = some i) (hz : i.zero = some z)
  (hsize : i.size = size) (hby : i.bytes = bytes) (hzs : z.cells.size = size) (hsz : 0 < size)
  (v : Value) (n : Nat) (xs : List Value) (hown : w.ownsRow base e size v n xs)
  (B : Nat) (A : Option Addr) (m c : Nat) (news : List Value) (hr : Reads w B size A m news) (h1 : ∀ u ∈ news, u.oneCell' = true)
  (h63 : n + m ≤ maxLen) (hbytes : (n + m) * bytes ≤ 140737488355328) (hbase : base ≤ w.heap.size) :
  ∃ v' w', (Builtin.append_ #[t, t] ty #[v, .slice A m c]).run P w = .ok v' w' ∧ w'.ownsRow base e size v' (n + m) (xs ++ news) ∧ w.grownBy w' v.ownBlock ∧
   (v'.ownBlock = v.ownBlock ∨ v'.ownBlock = some w.heap.size) := by
 rcases A with _ | ad
 ·have hm : m = 0 := by
   rcases Nat.eq_zero_or_pos m with h0 | h0
   ·exact h0
   ·obtain ⟨ad, h, _⟩ := hr.2 h0
    cases h
  subst hm
  have hn : news = [] := List.eq_nil_of_length_eq_zero (by simpa using hr.1)
  subst hn
  exact ⟨v, w, run_append_of_nil w base t ty e i size ht hi v n xs hown c, by simpa using hown, World.grownBy.refl w _, .inl rfl⟩
 ·have hcells : ∀ j u, news[j]? = some u → w.cell? (ad.add j) = some u := by
   intro j u hu
   rcases Nat.eq_zero_or_pos m with h0 | h0
   ·subst h0
    have hn : news = [] := List.eq_nil_of_length_eq_zero (by simpa using hr.1)
    subst hn
    simp at hu
   ·obtain ⟨ad', h, _, hc⟩ := hr.2 h0
    injection h with h
    subst h
    exact hc j u hu
  obtain ⟨v', w', hrun, h2, h3, _, h5⟩ := run_append_own_at (P := P) w base t ty e i z size bytes ht hi hz hsize hby hzs hsz v n xs hown ad m c news hr.1 hcells h1 h63 hbytes hbase
  exact ⟨v', w', hrun, h2, h3, h5⟩
theorem wp_append_any {o : Oper} {a : Act} {K : Act → World → Prop} {Q : Exit → Act → World → Prop} (s x : Operand) (t : TypeId)
  (ho : o.op = .call { callee := .builtin .append, args := #[s, x], argTypes := #[t, t] })
  (base : Nat) (e : TypeId) (i : TypeInfo) (z : Value) (size bytes : Nat) (ht : P.underlying t = some (.slice e)) (hi : P.info? e = some i) (hz : i.zero = some z)
  (hsize : i.size = size) (hby : i.bytes = bytes) (hzs : z.cells.size = size) (hsz : 0 < size)
  (v : Value) (n : Nat) (xs : List Value) (hs : a.eval s = v) (hown : w.ownsRow base e size v n xs)
  (B : Nat) (A : Option Addr) (m c : Nat) (news : List Value) (hx : a.eval x = .slice A m c) (hr : Reads w B size A m news) (h1 : ∀ u ∈ news, u.oneCell' = true)
  (h63 : n + m ≤ maxLen) (hbytes : (n + m) * bytes ≤ 140737488355328) (hbase : base ≤ w.heap.size)
  (h : ∀ v' w', w'.ownsRow base e size v' (n + m) (xs ++ news) → w.grownBy w' v.ownBlock → (v'.ownBlock = v.ownBlock ∨ v'.ownBlock = some w.heap.size) → K (a.put o.dst v') w') : o.wp P a w K Q := by
 obtain ⟨v', w', hrun, h2, h3, h4⟩ := run_append_any (P := P) w base t o.type e i z size bytes ht hi hz hsize hby hzs hsz v n xs hown B A m c news hr h1 h63 hbytes hbase
 unfold Oper.wp execOp
 simp only [ho, resolve, invoke, builtin, Sem.run_bind, Sem.run_pure, Result.andThen_ok, List.map_toArray, List.map_cons, List.map_nil, hs, hx, hrun]
 exact h v' w' h2 h3 h4
theorem wpList_append_any {ops : Array Oper} {rest : List Oper} {o : Oper} {a : Act} {Q : Exit → Act → World → Prop} (hgd : o.guard = none) (s x : Operand) (t : TypeId)
  (ho : o.op = .call { callee := .builtin .append, args := #[s, x], argTypes := #[t, t] })
  (base : Nat) (e : TypeId) (i : TypeInfo) (z : Value) (size bytes : Nat) (ht : P.underlying t = some (.slice e)) (hi : P.info? e = some i) (hz : i.zero = some z)
  (hsize : i.size = size) (hby : i.bytes = bytes) (hzs : z.cells.size = size) (hsz : 0 < size)
  (v : Value) (n : Nat) (xs : List Value) (hs : a.eval s = v) (hown : w.ownsRow base e size v n xs)
  (B : Nat) (A : Option Addr) (m c : Nat) (news : List Value) (hx : a.eval x = .slice A m c) (hr : Reads w B size A m news) (h1 : ∀ u ∈ news, u.oneCell' = true)
  (h63 : n + m ≤ maxLen) (hbytes : (n + m) * bytes ≤ 140737488355328) (hbase : base ≤ w.heap.size)
  (h : ∀ v' w', w'.ownsRow base e size v' (n + m) (xs ++ news) → w.grownBy w' v.ownBlock → (v'.ownBlock = v.ownBlock ∨ v'.ownBlock = some w.heap.size) → wpList P ops Q rest (a.put o.dst v') w') : wpList P ops Q (o :: rest) a w :=
 wpList_plain hgd fun _ hK => wp_append_any w s x t ho base e i z size bytes ht hi hz hsize hby hzs hsz v n xs hs hown B A m c news hx hr h1 h63 hbytes hbase fun v' w' h2 h3 h4 => hK _ _ (h v' w' h2 h3 h4)
theorem step_append_any {ops : Array Oper} {o : Oper} {a : Act} {K : Act → World → Prop} {Q : Exit → Act → World → Prop} {E : Prop} (hgd : o.guard = none) (s x : Operand) (t : TypeId)
  (ho : o.op = .call { callee := .builtin .append, args := #[s, x], argTypes := #[t, t] })
  (base : Nat) (e : TypeId) (i : TypeInfo) (z : Value) (size bytes : Nat) (ht : P.underlying t = some (.slice e)) (hi : P.info? e = some i) (hz : i.zero = some z)
  (hsize : i.size = size) (hby : i.bytes = bytes) (hzs : z.cells.size = size) (hsz : 0 < size)
  (v : Value) (n : Nat) (xs : List Value) (hs : a.eval s = v) (hown : w.ownsRow base e size v n xs)
  (B : Nat) (A : Option Addr) (m c : Nat) (news : List Value) (hx : a.eval x = .slice A m c) (hr : Reads w B size A m news) (h1 : ∀ u ∈ news, u.oneCell' = true)
  (h63 : n + m ≤ maxLen) (hbytes : (n + m) * bytes ≤ 140737488355328) (hbase : base ≤ w.heap.size)
  (h : ∀ v' w', w'.ownsRow base e size v' (n + m) (xs ++ news) → w.grownBy w' v.ownBlock → (v'.ownBlock = v.ownBlock ∨ v'.ownBlock = some w.heap.size) → K (a.put o.dst v') w') :
  if Region.wanted o (yielded ops a.tmps) = true then Oper.wp P o a w K Q else E := by
 have hw : Region.wanted o (yielded ops a.tmps) = true := by simp [Region.wanted, hgd]
 rw [if_pos hw]
 exact wp_append_any w s x t ho base e i z size bytes ht hi hz hsize hby hzs hsz v n xs hs hown B A m c news hx hr h1 h63 hbytes hbase h
end
theorem below_drewN {B : Nat} {a w : World} (h : Below B a w) (n : Nat) : Below B a (w.drewN n) := ⟨h.os, h.tape, h.output, h.size, h.block⟩
theorem only_drewN {a w : World} {row : Option Nat} (h : a.grownBy w row) (n : Nat) : a.grownBy (w.drewN n) row := ⟨h.os, h.tape, h.output, h.size, h.block⟩
theorem only_drew {a w : World} {row : Option Nat} (h : a.grownBy w row) : a.grownBy w.drew row := ⟨h.os, h.tape, h.output, h.size, h.block⟩
theorem only_alloc {a w : World} {row : Option Nat} (h : a.grownBy w row) (o : Obj) : a.grownBy (w.alloc o) row :=
 ⟨h.os, h.tape, h.output, Nat.le_trans h.size (by simp), fun i hi hne => (Below.heap_alloc w o i (Nat.lt_of_lt_of_le hi h.size)).trans (h.block i hi hne)⟩
theorem only_setCell {a w : World} {g : Nat} (h : a.grownBy w (some g)) {p : Addr} (hp : p.block = g ∨ a.heap.size ≤ p.block) (u : Value) : a.grownBy (w.setCell p u) (some g) :=
 ⟨h.os, h.tape, h.output, by simpa [World.setCell] using h.size, fun i hi hne => (Below.heap_setCell w p u i (by
  rintro rfl
  rcases hp with hp | hp
  ·exact hne (by rw [hp])
  ·omega)).trans (h.block i hi hne)⟩
theorem only_of_below {a w : World} (h : Below a.heap.size a w) (row : Option Nat) : a.grownBy w row := ⟨h.os, h.tape, h.output, h.size, fun i hi _ => h.block i hi⟩
theorem run_make_rowN {P : Program} (t e : TypeId) (i : TypeInfo) (z : Value) (ht : P.underlying t = some (.slice e)) (hi : P.info? e = some i) (hz : i.zero = some z)
  (kl kc : IntKind) (n c : Nat) (hnc : n ≤ c) (hbytes : i.bytes * c ≤ 281474976710656) (h63 : c ≤ 9223372036854775807) (w : World) :
  (Instr.makeSlice t (.int kl (n : Int)) (.int kc (c : Int))).run P w = .ok (.slice (some ⟨w.heap.size, 0, none⟩) n c) (w.alloc (.cells (madeCells z.cells (c * i.size)) e)) := by
 have hb : (i.bytes : Int) * (c : Int) ≤ 281474976710656 := by
  have h : ((i.bytes * c : Nat) : Int) ≤ 281474976710656 := by omega
  rwa [Int.natCast_mul] at h
 have hr := run_make (P := P) w t e i z ht hi hz kl kc n c (by omega) (by omega) hb (by omega)
 simp only [Int.toNat_natCast] at hr
 exact hr
theorem ret_int {k : IntKind} {a b : Int} (h : a = b) : Ending.returned (.int k a) = .returned (.int k b) := by rw [h]
theorem ret_bool {a b : Bool} (h : a = b) : Ending.returned (.bool a) = .returned (.bool b) := by rw [h]
def bv (x : UInt8) : Value := .int .u8 (x.toNat : Int)
theorem bv_one (bs : List UInt8) : ∀ u ∈ bs.map bv, u.oneCell' = true := by
 intro u hu
 obtain ⟨x, _, rfl⟩ := List.mem_map.1 hu
 rfl
abbrev RdB (w : World) (B : Nat) (A : Option Addr) (n : Nat) (bs : List UInt8) : Prop := Reads w B 1 A n (bs.map bv)
theorem Reads.len1 {w : World} {B n : Nat} {A : Option Addr} {bs : List UInt8} (h : RdB w B A n bs) : bs.length = n := by
 have := h.1
 simpa using this
theorem Reads.byte {w : World} {B n k : Nat} {A : Option Addr} {bs : List UInt8} (h : RdB w B A n bs) (hk : k < n) :
  ∃ ad x, A = some ad ∧ ad.block < B ∧ bs[k]? = some x ∧ w.cell? (ad.add k) = some (.int .u8 (x.toNat : Int)) := by
 obtain ⟨ad, u, rfl, hb, hx, hc⟩ := Reads.at_ h hk
 rw [List.getElem?_map] at hx
 cases hy : bs[k]? with
 | none => rw [hy] at hx; cases hx
 | some x =>
  rw [hy] at hx
  injection hx with hx
  subst hx
  exact ⟨ad, x, rfl, hb, rfl, hc⟩
theorem run_string_of {P : Program} (w : World) (src dst e : TypeId) {B n c : Nat} {A : Option Addr} {bs : List UInt8} (h : RdB w B A n bs)
  (hs : P.underlying src = some (.slice e)) (he : P.underlying e = some (.int .u8)) (hd : P.underlying dst = some .string) :
  (convert src dst (.slice A n c)).run P w = .ok (.string ⟨bs.toArray⟩) w := by
 have hl := h.len1
 rw [run_convert_bytes_string w src dst e _ n c hs he hd]
 rcases A with _ | ad
 ·have hn : n = 0 := by
   rcases Nat.eq_zero_or_pos n with h0 | h0
   ·exact h0
   ·obtain ⟨ad, e, _⟩ := h.2 h0
    cases e
  subst hn
  have : bs = [] := List.eq_nil_of_length_eq_zero hl
  subst this
  simp [Conv.bytesToString]
  rfl
 ·have hcell : (loadCells ad n).run P w = .ok ((bs.map fun x => (x.toNat : Int)).map (Value.int .u8)).toArray w := by
   have := run_loadCells_list (P := P) w ad ((bs.map fun x => (x.toNat : Int)).map (Value.int .u8)) (fun j v hj => by
    have hjl : j < n := by
     rcases Nat.lt_or_ge j n with h1 | h1
     ·exact h1
     ·rw [List.getElem?_eq_none (by simp; omega)] at hj
      cases hj
    obtain ⟨ad', x, e, _, hx, hc⟩ := h.byte hjl
    injection e with e
    subst e
    rw [hc]
    simp [List.getElem?_map, hx] at hj
    rw [hj])
   simpa [hl] using this
  rw [run_bytesToString w ad n c _ hcell, foldl_push_bytes]
  have e : (bs.map fun x => (x.toNat : Int)).map (fun n => UInt8.ofNat n.toNat) = bs := by
   rw [List.map_map]
   exact (List.map_congr_left (fun x _ => by simp)).trans (List.map_id bs)
  rw [e]
  simp [ByteArray.empty, ByteArray.emptyWithCapacity]
  rfl
def App (w : World) (v : Value) (w' : World) (v' : Value) : Prop :=
 w.grownBy w' v.ownBlock ∧ (v'.ownBlock = v.ownBlock ∨ ∃ k, v'.ownBlock = some k ∧ w.heap.size ≤ k)
section
variable {w w1 w2 : World} {v v1 v2 : Value}
theorem App.refl (w : World) (v : Value) : App w v w v := ⟨World.grownBy.refl w _, .inl rfl⟩
theorem App.size (h : App w v w1 v1) : w.heap.size ≤ w1.heap.size := h.1.size
theorem App.trans (h : App w v w1 v1) (k : App w1 v1 w2 v2) : App w v w2 v2 := by
 refine ⟨⟨k.1.os.trans h.1.os, k.1.tape.trans h.1.tape, k.1.output.trans h.1.output, Nat.le_trans h.1.size k.1.size, fun i hi hne => ?_⟩, ?_⟩
 ·refine (k.1.block i (Nat.lt_of_lt_of_le hi h.1.size) ?_).trans (h.1.block i hi hne)
  rcases h.2 with e | ⟨j, e, hj⟩
  ·rw [e]; exact hne
  ·rw [e]; intro hh; injection hh with hh; omega
 ·have hs := h.1.size
  rcases k.2 with e | ⟨j, e, hj⟩
  ·rw [e]; exact h.2
  ·exact .inr ⟨j, e, by omega⟩
theorem App.alloc (h : App w v w1 v1) (o : Obj) : App w v (w1.alloc o) v1 := ⟨only_alloc h.1 o, h.2⟩
theorem App.drew (h : App w v w1 v1) : App w v w1.drew v1 := ⟨only_drew h.1, h.2⟩
theorem App.drewN (h : App w v w1 v1) (n : Nat) : App w v (w1.drewN n) v1 := ⟨only_drewN h.1 n, h.2⟩
theorem App.blk {g : Nat} {t : TypeId} {cs : Array Value} (h : App w v w1 v1) (hb : Blk w g t cs) (hne : v.ownBlock ≠ some g) : Blk w1 g t cs := hb.grown h.1 (fun e => hne e.symm)
theorem App.below {base : Nat} (h : App w v w1 v1) (hb : base ≤ w.heap.size) (hv : ∀ k, v.ownBlock = some k → base ≤ k) : Below base w w1 := (Below.refl _ _).grown h.1 hb hv
theorem App.reads {B size n : Nat} {A : Option Addr} {xs : List Value} (h : App w v w1 v1) (hr : Reads w B size A n xs) (hb : B ≤ w.heap.size) (hv : ∀ k, v.ownBlock = some k → B ≤ k) : Reads w1 B size A n xs := hr.grown h.1 hb hv
theorem App.own {base : Nat} {e : TypeId} {size n : Nat} {u : Value} {xs : List Value} (h : App w v w1 v1) (hu : w.ownsRow base e size u n xs) (hne : u.ownBlock = none ∨ u.ownBlock ≠ v.ownBlock) : w1.ownsRow base e size u n xs := hu.kept h.1 hne
theorem App.from {o : Obj} (h : App (w.alloc o) v w1 v1) : App w v w1 v1 := by
 refine ⟨⟨h.1.os, h.1.tape, h.1.output, Nat.le_trans (by simp) h.1.size, fun i hi hne => (h.1.block i (by simp; omega) hne).trans (Below.heap_alloc w o i hi)⟩, ?_⟩
 rcases h.2 with e | ⟨k, e, hk⟩
 ·exact .inl e
 ·exact .inr ⟨k, e, by simp at hk; omega⟩
end
abbrev OwnB (e : TypeId) (w : World) (base : Nat) (v : Value) (bs : List UInt8) : Prop := w.ownsRow base e 1 v bs.length (bs.map bv)
theorem OwnB.nil (e : TypeId) (w : World) (base : Nat) : OwnB e w base (.slice none 0 0) [] := World.ownsRow_nil w base e 1
theorem OwnB.built (e : TypeId) (w : World) (base : Nat) (cs : Array Value) (bs : List UInt8) (hb : base ≤ w.heap.size) (hm : bs.length ≤ 9223372036854775807) (hc : cs = (bs.map bv).toArray) :
  OwnB e (w.alloc (.cells cs e)) base (.slice (some ⟨w.heap.size, 0, none⟩) bs.length bs.length) bs := by
 have h := World.ownsRow_lit (base := base) (e := e) (size := 1) w cs bs.length hb (by simpa [maxLen] using hm) (by rw [hc]; simp)
 rw [hc] at h ⊢
 simpa using h
theorem Blk.new' (w : World) (t : TypeId) (g : Nat) (cs : Array Value) (hg : w.heap.size = g) : Blk (w.alloc (.cells cs t)) g t cs := by
 subst hg
 exact Blk.new w t cs
theorem Reads.built (w : World) (t : TypeId) (cs : List Value) : Reads (w.alloc (.cells cs.toArray t)) (w.heap.size + 1) 1 (some ⟨w.heap.size, 0, none⟩) cs.length cs := by
 refine ⟨by simp, fun _ => ⟨_, rfl, by simp, fun j u hu => ?_⟩⟩
 have h := (Blk.new w t cs.toArray).cell j
 have e : (⟨w.heap.size, 0, none⟩ : Addr).add j = ⟨w.heap.size, j, none⟩ := by unfold Addr.add; split <;> simp_all
 rw [e, h]
 simpa using hu
theorem OwnB.reads {e : TypeId} {w : World} {base n c : Nat} {A : Option Addr} {bs : List UInt8} (h : OwnB e w base (.slice A n c) bs) (hn : n = bs.length) : RdB w w.heap.size A n bs := by
 subst hn
 exact Reads.of_own h
theorem OwnB.form {e : TypeId} {w : World} {base : Nat} {v : Value} {bs : List UInt8} (h : OwnB e w base v bs) : ∃ A c, v = .slice A bs.length c ∧ bs.length ≤ c ∧ c ≤ maxLen := by
 rcases h.2 with ⟨rfl, h0⟩ | ⟨g, cap, cur, rfl, _, _, hn, hm, _⟩
 ·exact ⟨none, 0, by rw [h0], by omega, by simp⟩
 ·exact ⟨_, cap, rfl, hn, hm⟩
section
variable {P : Program} {w : World}
theorem run_app (base : Nat) (t ty e : TypeId) (hinfo : (P.info? e).map (fun i => (i.zero, i.size, i.bytes)) = some (some (.int .u8 0), 1, 1)) (ht : P.underlying t = some (.slice e))
  {v : Value} {xs : List UInt8} (hown : OwnB e w base v xs) {B : Nat} {A : Option Addr} {m c : Nat} {news : List UInt8} (hr : RdB w B A m news)
  (hb : xs.length + news.length ≤ 140737488355328) (hbase : base ≤ w.heap.size) :
  ∃ v' w', (Builtin.append_ #[t, t] ty #[v, .slice A m c]).run P w = .ok v' w' ∧ OwnB e w' base v' (xs ++ news) ∧ App w v w' v' := by
 obtain ⟨i, hi, hz, hs, hby⟩ := info_parts hinfo
 have hm := hr.len1
 subst hm
 obtain ⟨v', w', h1, h2, h3, h4⟩ := run_append_any (P := P) w base t ty e i _ 1 1 ht hi hz hs hby rfl (by omega) v xs.length (xs.map bv) hown B A news.length c (news.map bv) hr (bv_one _)
  (by simp only [maxLen]; omega) (by omega) hbase
 refine ⟨v', w', h1, ?_, h3, ?_⟩
 ·show w'.ownsRow base e 1 v' (xs ++ news).length ((xs ++ news).map bv)
  rw [List.length_append, List.map_append]
  exact h2
 ·rcases h4 with h4 | h4
  ·exact .inl h4
  ·exact .inr ⟨_, h4, Nat.le_refl _⟩
theorem wpList_app {ops : Array Oper} {rest : List Oper} {o : Oper} {a : Act} {Q : Exit → Act → World → Prop} (hgd : o.guard = none) (s x : Operand) (t : TypeId)
  (ho : o.op = .call { callee := .builtin .append, args := #[s, x], argTypes := #[t, t] })
  (base : Nat) (e : TypeId) (hinfo : (P.info? e).map (fun i => (i.zero, i.size, i.bytes)) = some (some (.int .u8 0), 1, 1)) (ht : P.underlying t = some (.slice e))
  (v : Value) (xs : List UInt8) (hs : a.eval s = v) (hown : OwnB e w base v xs)
  (B : Nat) (A : Option Addr) (m c : Nat) (news : List UInt8) (hx : a.eval x = .slice A m c) (hr : RdB w B A m news)
  (hb : xs.length + news.length ≤ 140737488355328) (hbase : base ≤ w.heap.size)
  (h : ∀ v' w', OwnB e w' base v' (xs ++ news) → App w v w' v' → wpList P ops Q rest (a.put o.dst v') w') : wpList P ops Q (o :: rest) a w := by
 obtain ⟨v', w', h1, h2, h3⟩ := run_app (P := P) base t o.type e hinfo ht hown (c := c) hr hb hbase
 refine wpList_plain hgd fun K hK => ?_
 unfold Oper.wp execOp
 simp only [ho, resolve, invoke, builtin, Sem.run_bind, Sem.run_pure, Result.andThen_ok, List.map_toArray, List.map_cons, List.map_nil, hs, hx, h1]
 exact hK _ _ (h v' w' h2 h3)
end
theorem OwnB.far {e t : TypeId} {w : World} {base g : Nat} {v : Value} {bs : List UInt8} {cs : Array Value} (h : OwnB e w base v bs) (hb : Blk w g t cs) (hne : e ≠ t) (i : Nat) (u : Value) : OwnB e (w.setCell ⟨g, i, none⟩ u) base v bs :=
 World.ownsRow.kept h (only_setCell (p := ⟨g, i, none⟩) (World.grownBy.refl w (some g)) (.inl rfl) u) (.inr (own_blk_ne h hb hne))
def tabCells : Array Value := #[.int .u8 9, .int .u8 10, .int .i64 1, .int .u8 12, .int .u8 13, .int .i64 1, .int .u8 32, .int .u8 32, .int .i64 1, .int .u8 33, .int .u8 33, .int .i64 4, .int .u8 37, .int .u8 38, .int .i64 4, .int .u8 40, .int .u8 41, .int .i64 5, .int .u8 42, .int .u8 45, .int .i64 4, .int .u8 46, .int .u8 46, .int .i64 5, .int .u8 47, .int .u8 47, .int .i64 4, .int .u8 48, .int .u8 57, .int .i64 3, .int .u8 58, .int .u8 59, .int .i64 5, .int .u8 60, .int .u8 64, .int .i64 4, .int .u8 65, .int .u8 90, .int .i64 2, .int .u8 91, .int .u8 91, .int .i64 5, .int .u8 92, .int .u8 92, .int .i64 4, .int .u8 93, .int .u8 94, .int .i64 5, .int .u8 95, .int .u8 95, .int .i64 2, .int .u8 97, .int .u8 122, .int .i64 2, .int .u8 123, .int .u8 125, .int .i64 5, .int .u8 126, .int .u8 126, .int .i64 4]
set_option maxRecDepth 20000 in
theorem tab_index (k a b c : Nat) (w : World) (h : Lx.tabC[k]? = some (a, b, c)) :
  (Instr.index 168 (.agg tabCells) (.int .i64 (k : Int))).run Tryz.prog w = .ok (.agg #[.int .u8 (a : Int), .int .u8 (b : Int), .int .i64 (c : Int)]) w := by
 have hk : k < 20 := by
  rcases Nat.lt_or_ge k 20 with h1 | h1
  ·exact h1
  ·rw [List.getElem?_eq_none (by simpa [Lx.tabC] using h1)] at h; cases h
 obtain rfl | rfl | rfl | rfl | rfl | rfl | rfl | rfl | rfl | rfl | rfl | rfl | rfl | rfl | rfl | rfl | rfl | rfl | rfl | rfl : k = 0 ∨ k = 1 ∨ k = 2 ∨ k = 3 ∨ k = 4 ∨ k = 5 ∨ k = 6 ∨ k = 7 ∨ k = 8 ∨ k = 9 ∨ k = 10 ∨ k = 11 ∨ k = 12 ∨ k = 13 ∨ k = 14 ∨ k = 15 ∨ k = 16 ∨ k = 17 ∨ k = 18 ∨ k = 19 := by omega
 all_goals
  simp only [Lx.tabC, List.getElem?_cons_zero, List.getElem?_cons_succ, Option.some.injEq, Prod.mk.injEq] at h
  obtain ⟨rfl, rfl, rfl⟩ := h
  rfl
theorem tab_some (k : Nat) (h : k < 20) : ∃ a b c, Lx.tabC[k]? = some (a, b, c) ∧ a < 256 ∧ b < 256 ∧ c < 256 := by
 obtain rfl | rfl | rfl | rfl | rfl | rfl | rfl | rfl | rfl | rfl | rfl | rfl | rfl | rfl | rfl | rfl | rfl | rfl | rfl | rfl : k = 0 ∨ k = 1 ∨ k = 2 ∨ k = 3 ∨ k = 4 ∨ k = 5 ∨ k = 6 ∨ k = 7 ∨ k = 8 ∨ k = 9 ∨ k = 10 ∨ k = 11 ∨ k = 12 ∨ k = 13 ∨ k = 14 ∨ k = 15 ∨ k = 16 ∨ k = 17 ∨ k = 18 ∨ k = 19 := by omega
 all_goals exact ⟨_, _, _, rfl, by decide, by decide, by decide⟩
theorem cls_yes {k a b c : Nat} {x : Nat} (h : Lx.tabC[k]? = some (a, b, c)) (h1 : a ≤ x) (h2 : x ≤ b) : Lx.clsT (Lx.tabC.drop k) x = c := by
 have hk : k < Lx.tabC.length := by
  rcases Nat.lt_or_ge k Lx.tabC.length with h1 | h1
  ·exact h1
  ·rw [List.getElem?_eq_none h1] at h; cases h
 rw [List.drop_eq_getElem_cons hk]
 rw [List.getElem?_eq_getElem hk] at h
 rw [Option.some.inj h]
 simp only [Lx.clsT, h1, h2, and_self, if_true]
theorem cls_no {k a b c : Nat} {x : Nat} (h : Lx.tabC[k]? = some (a, b, c)) (h1 : ¬ (a ≤ x ∧ x ≤ b)) : Lx.clsT (Lx.tabC.drop (k + 1)) x = Lx.clsT (Lx.tabC.drop k) x := by
 have hk : k < Lx.tabC.length := by
  rcases Nat.lt_or_ge k Lx.tabC.length with h1 | h1
  ·exact h1
  ·rw [List.getElem?_eq_none h1] at h; cases h
 rw [List.drop_eq_getElem_cons hk]
 rw [List.getElem?_eq_getElem hk] at h
 rw [Option.some.inj h]
 simp only [Lx.clsT, if_neg h1]
set_option maxRecDepth 20000 in
theorem class_any (x : UInt8) (w : World) : Calls Tryz.prog 131 #[.int .u8 (x.toNat : Int)] w fun e w' => e = .returned (.int .i64 (Lx.cls x)) ∧ Below w.heap.size w w' := by
 have hx : x.toNat < 256 := x.toNat_lt
 go_enter Tryz.func131, Tryz.ntmps131
 go_wp2_with (first
  | ((with_reducible refine wpList_store_rowTo rfl 168 (.tmp 3) (.tmp 26) rfl rfl w.heap.size tabCells rfl ?hy 168 _ (heap_alloc_last w _) ?hi ?ho ?h1 ?_); rotate_left 4; rw [World.setRow_alloc_new])
  | ((with_reducible refine wpList_load_row rfl 168 (.tmp 3) rfl w.heap.size rfl 168 tabCells (0, 0) _ (heap_alloc_last w _) Tryz.underlying168 rfl ?hi2 ?_); rotate_left 1))
 case hy => kernel_rfl
 case hi => kernel_rfl
 case ho => kernel_rfl
 case h1 => kernel_rfl
 case hi2 => kernel_rfl
 go_loopw [28] (fun i wr => ∃ k : Nat, k ≤ 20 ∧ i = .int .i64 k ∧ Lx.clsT (Lx.tabC.drop k) x.toNat = Lx.cls x ∧ Below w.heap.size w wr) (fun i _ => 20 - (intOf i).toNat)
 case atStart => exact ⟨0, Nat.zero_le _, rfl, rfl, (Below.refl _ _).alloc (Nat.le_refl _) _⟩
 case round =>
  obtain ⟨k, hk, rfl, hc, hb⟩ := hrel
  have HC := Hd hc
  have HB := Hd hb
  clear hc hb
  by_cases hlt : k < 20
  ·obtain ⟨a, b, c, hT, ha, hb, hc⟩ := tab_some k hlt
   have hidx := fun w => tab_index k a b c w hT
   have HT := Hd hT
   clear hT
   by_cases h1 : a ≤ x.toNat
   ·by_cases h2 : x.toNat ≤ b
    ·go_wp2
     go_ret
     have := HC.out
     rw [cls_yes HT.out h1 h2] at this
     exact ⟨ret_int (by rw [← this]), (HB.out.alloc HB.out.size _)⟩
    ·go_wp2
     go_roundw
     case rel => exact ⟨k + 1, by omega, by go_num, by rw [cls_no HT.out (by omega)]; exact HC.out, (HB.out.alloc HB.out.size _)⟩
     case measure => simp [intOf]; omega
   ·go_wp2
    go_roundw
    case rel => exact ⟨k + 1, by omega, by go_num, by rw [cls_no HT.out (by omega)]; exact HC.out, (HB.out.alloc HB.out.size _)⟩
    case measure => simp [intOf]; omega
  ·obtain rfl : k = 20 := by omega
   go_wp2
   go_ret
   exact ⟨ret_int (by rw [← HC.out]; rfl), HB.out⟩
end Go.Proofs.YtjhonaglmgmpiaaGreatDoor
