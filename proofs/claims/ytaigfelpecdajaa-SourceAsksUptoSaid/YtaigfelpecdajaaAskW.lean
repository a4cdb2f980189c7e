/-
  Words for trees: how a tree lies in memory; what the laws ask of trees, in plain Lean. No statement of the seat is proved here.
-/
import Derived.Test.YtaigfelpecdajaaWords
namespace Go.Proofs.Ytaigfelpecdajaa
open Go.RowKit

/-- a tree's node over some type of trees below it -/
structure Nd (α : Type) where
  kind : Int
  name : ByteArray
  names : List ByteArray
  temps : List ByteArray
  nodes : List α
  prim : Int
  place : Int
/-- trees of a depth at most -/
def TrF : Nat → Type
  | 0 => Empty
  | f + 1 => Nd (TrF f)

/-- a slice of strings reads as a list -/
abbrev RdS (w : World) (B : Nat) (A : Option Addr) (n : Nat) (ss : List ByteArray) : Prop := Reads w B 1 A n (ss.map Value.string)
theorem RdS.len {w : World} {B n : Nat} {A : Option Addr} {ss : List ByteArray} (h : RdS w B A n ss) : ss.length = n := by
  have := h.1
  simpa using this
theorem RdS.at_ {w : World} {B n k : Nat} {A : Option Addr} {ss : List ByteArray} (h : RdS w B A n ss) (hk : k < n) :
    ∃ ad s, A = some ad ∧ ad.block < B ∧ ss[k]? = some s ∧ w.cell? (ad.add k) = some (.string s) := by
  obtain ⟨ad, u, rfl, hb, hx, hc⟩ := Reads.at_ h hk
  rw [List.getElem?_map] at hx
  cases hy : ss[k]? with
  | none => rw [hy] at hx; cases hx
  | some x =>
    rw [hy] at hx
    injection hx with hx
    subst hx
    exact ⟨ad, x, rfl, hb, rfl, hc⟩
/-- likewise, the slice's address written out -/
def ReadsX (w : World) (B size : Nat) (A : Option Addr) (n : Nat) (xs : List Value) : Prop :=
  xs.length = n * size ∧ (0 < n → ∃ b off, A = some ⟨b, off, none⟩ ∧ b < B ∧ ∀ j u, xs[j]? = some u → w.cell? ⟨b, off + j, none⟩ = some u)
section
variable {w w' : World} {B B' size n : Nat} {A : Option Addr} {xs : List Value}
theorem ReadsX.keep (h : ReadsX w B size A n xs) (hk : ∀ p : Addr, p.block < B → w'.cell? p = w.cell? p) : ReadsX w' B size A n xs :=
  ⟨h.1, fun hn => by
    obtain ⟨b, off, e, hb, hc⟩ := h.2 hn
    exact ⟨b, off, e, hb, fun j u hu => (hk ⟨b, off + j, none⟩ hb).trans (hc j u hu)⟩⟩
theorem ReadsX.more (h : ReadsX w B size A n xs) (hB : B ≤ B') : ReadsX w B' size A n xs :=
  ⟨h.1, fun hn => by
    obtain ⟨b, off, e, hb, hc⟩ := h.2 hn
    exact ⟨b, off, e, by omega, hc⟩⟩
theorem ReadsX.below (h : ReadsX w B size A n xs) (hb : Below B w w') : ReadsX w' B size A n xs := h.keep fun _ hp => hb.cell hp
end
/-- a node's cells lie below block B and read as the tree -/
def NodeAt : (f : Nat) → World → Nat → List Value → TrF f → Prop
  | 0, _, _, _, _ => False
  | f + 1, w, B, cs, (t : Nd (TrF f)) => ∃ (A1 : Option Addr) (c1 : Nat) (A2 : Option Addr) (c2 : Nat) (A3 : Option Addr) (c3 : Nat) (css : List (List Value)),
      cs = [.int .i64 t.kind, .string t.name, .slice A1 t.names.length c1, .slice A2 t.temps.length c2, .slice A3 t.nodes.length c3, .int .i64 t.prim, .int .i64 t.place] ∧
      RdS w B A1 t.names.length t.names ∧ RdS w B A2 t.temps.length t.temps ∧ css.length = t.nodes.length ∧ ReadsX w B 7 A3 t.nodes.length css.flatten ∧
      ∀ (i : Nat) (cs' : List Value) (t' : TrF f), css[i]? = some cs' → t.nodes[i]? = some t' → NodeAt f w B cs' t'
theorem NodeAt.len : {f : Nat} → {w : World} → {B : Nat} → {cs : List Value} → {t : TrF f} → NodeAt f w B cs t → cs.length = 7
  | 0, _, _, _, _, h => h.elim
  | f + 1, _, _, _, _, ⟨_, _, _, _, _, _, _, h, _⟩ => by rw [h]; rfl
theorem NodeAt.keep : {f : Nat} → {w w' : World} → {B : Nat} → {cs : List Value} → {t : TrF f} → NodeAt f w B cs t → (∀ p : Addr, p.block < B → w'.cell? p = w.cell? p) → NodeAt f w' B cs t
  | 0, _, _, _, _, _, h, _ => h.elim
  | _ + 1, _, _, _, _, _, ⟨A1, c1, A2, c2, A3, c3, css, h, h1, h2, hl, h3, h4⟩, hk =>
    ⟨A1, c1, A2, c2, A3, c3, css, h, Reads.keep h1 hk, Reads.keep h2 hk, hl, ReadsX.keep h3 hk, fun i cs' t' hc ht => (h4 i cs' t' hc ht).keep hk⟩
theorem NodeAt.more : {f : Nat} → {w : World} → {B B' : Nat} → {cs : List Value} → {t : TrF f} → NodeAt f w B cs t → B ≤ B' → NodeAt f w B' cs t
  | 0, _, _, _, _, _, h, _ => h.elim
  | _ + 1, _, _, _, _, _, ⟨A1, c1, A2, c2, A3, c3, css, h, h1, h2, hl, h3, h4⟩, hk =>
    ⟨A1, c1, A2, c2, A3, c3, css, h, Reads.more h1 hk, Reads.more h2 hk, hl, ReadsX.more h3 hk, fun i cs' t' hc ht => (h4 i cs' t' hc ht).more hk⟩
theorem NodeAt.below {f : Nat} {w w' : World} {B : Nat} {cs : List Value} {t : TrF f} (h : NodeAt f w B cs t) (hb : Below B w w') : NodeAt f w' B cs t := h.keep fun _ hp => hb.cell hp
theorem flatten_at {css : List (List Value)} {k : Nat} (h7 : ∀ cs ∈ css, cs.length = k) : ∀ {i : Nat} {cs : List Value}, css[i]? = some cs → ∀ j, j < k → css.flatten[i * k + j]? = cs[j]? := by
  induction css with
  | nil => intro i cs h; simp at h
  | cons a l ih =>
    intro i cs h j hj
    have ha := h7 a (by simp)
    rw [List.flatten_cons]
    cases i with
    | zero =>
      obtain rfl : a = cs := by simpa using h
      rw [Nat.zero_mul, Nat.zero_add, List.getElem?_append_left (by omega)]
    | succ i =>
      have e : (i + 1) * k + j = k + (i * k + j) := by rw [Nat.add_mul]; omega
      rw [e, List.getElem?_append_right (by omega), ha, Nat.add_sub_cancel_left]
      exact ih (fun c hc => h7 c (List.mem_cons_of_mem _ hc)) (by simpa using h) j hj
/-- a subtree's seven cells -/
theorem NodeAt.sub {f : Nat} {w : World} {B : Nat} {A3 : Option Addr} {css : List (List Value)} {nodes : List (TrF f)} (hl : css.length = nodes.length) (h3 : ReadsX w B 7 A3 nodes.length css.flatten)
    (h4 : ∀ (i : Nat) (cs' : List Value) (t' : TrF f), css[i]? = some cs' → nodes[i]? = some t' → NodeAt f w B cs' t') {i : Nat} (hi : i < nodes.length) :
    ∃ b off x0 x1 x2 x3 x4 x5 x6, A3 = some ⟨b, off, none⟩ ∧ b < B ∧ NodeAt f w B [x0, x1, x2, x3, x4, x5, x6] nodes[i] ∧
      w.cell? ⟨b, off + i * 7, none⟩ = some x0 ∧ w.cell? ⟨b, off + i * 7 + 1, none⟩ = some x1 ∧ w.cell? ⟨b, off + i * 7 + 2, none⟩ = some x2 ∧ w.cell? ⟨b, off + i * 7 + 3, none⟩ = some x3 ∧
      w.cell? ⟨b, off + i * 7 + 4, none⟩ = some x4 ∧ w.cell? ⟨b, off + i * 7 + 5, none⟩ = some x5 ∧ w.cell? ⟨b, off + i * 7 + 6, none⟩ = some x6 := by
  obtain ⟨b, off, rfl, hb, hc⟩ := h3.2 (by omega)
  have hx : css[i]? = some (css[i]'(by omega)) := List.getElem?_eq_getElem (by omega)
  have hn := h4 i _ _ hx (List.getElem?_eq_getElem hi)
  have h7 : ∀ cs ∈ css, cs.length = 7 := fun cs hcs => by
    obtain ⟨q, hq, rfl⟩ := List.getElem_of_mem hcs
    exact (h4 q _ _ (List.getElem?_eq_getElem hq) (List.getElem?_eq_getElem (by omega))).len
  have key : ∀ j u, (css[i]'(by omega))[j]? = some u → j < 7 → w.cell? ⟨b, off + i * 7 + j, none⟩ = some u := fun j u hu hj => by
    rw [show off + i * 7 + j = off + (i * 7 + j) from by omega]
    exact hc _ u (by rw [flatten_at h7 hx j hj]; exact hu)
  have hlen := hn.len
  generalize css[i]'(by omega) = cs at *
  match cs, hlen with
  | [x0, x1, x2, x3, x4, x5, x6], _ =>
    exact ⟨b, off, x0, x1, x2, x3, x4, x5, x6, rfl, hb, hn, key 0 _ rfl (by omega), key 1 _ rfl (by omega), key 2 _ rfl (by omega), key 3 _ rfl (by omega), key 4 _ rfl (by omega), key 5 _ rfl (by omega), key 6 _ rfl (by omega)⟩

/-! ## What is asked of trees -/
def all2 {α : Type} (p : α → α → Bool) : List α → List α → Bool
  | [], [] => true
  | a :: l, b :: m => p a b && all2 p l m
  | _, _ => false
theorem all2_len {α : Type} {p : α → α → Bool} : ∀ {l m : List α}, ¬ l.length = m.length → all2 p l m = false
  | [], [], h => absurd rfl h
  | [], _ :: _, _ => rfl
  | _ :: _, [], _ => rfl
  | a :: l, b :: m, h => by
    simp only [all2, all2_len (l := l) (m := m) (by simpa using h), Bool.and_false]
theorem all2_drop {α : Type} {p : α → α → Bool} {l m : List α} {k : Nat} {a b : α} (ha : l[k]? = some a) (hb : m[k]? = some b) : all2 p (l.drop k) (m.drop k) = (p a b && all2 p (l.drop (k + 1)) (m.drop (k + 1))) := by
  have h1 : k < l.length := by
    rcases Nat.lt_or_ge k l.length with h | h
    · exact h
    · rw [List.getElem?_eq_none h] at ha; cases ha
  have h2 : k < m.length := by
    rcases Nat.lt_or_ge k m.length with h | h
    · exact h
    · rw [List.getElem?_eq_none h] at hb; cases hb
  rw [List.drop_eq_getElem_cons h1, List.drop_eq_getElem_cons h2]
  rw [List.getElem?_eq_getElem h1] at ha
  rw [List.getElem?_eq_getElem h2] at hb
  rw [Option.some.inj ha, Option.some.inj hb]
  rfl
theorem all2_end {α : Type} {p : α → α → Bool} {l m : List α} {k : Nat} (hl : l.length ≤ k) (hm : m.length ≤ k) : all2 p (l.drop k) (m.drop k) = true := by
  rw [List.drop_eq_nil_of_le hl, List.drop_eq_nil_of_le hm]; rfl
theorem all2_refl {α : Type} {p : α → α → Bool} (h : ∀ a, p a a = true) : ∀ l : List α, all2 p l l = true
  | [] => rfl
  | a :: l => by simp only [all2, h a, all2_refl h l, Bool.and_self]
/-- two strings are one -/
def eqS (a b : ByteArray) : Bool := decide (a = b)
def sameS (l m : List ByteArray) : Bool := all2 eqS l m
theorem sameS_refl (l : List ByteArray) : sameS l l = true := all2_refl (fun a => by simp [eqS]) l
/-- alike, wherever they stand -/
def sameT : (f : Nat) → TrF f → TrF f → Bool
  | 0, _, _ => true
  | f + 1, (a : Nd (TrF f)), (b : Nd (TrF f)) =>
    decide (a.kind = b.kind) && eqS a.name b.name && decide (a.prim = b.prim) && sameS a.names b.names && sameS a.temps b.temps && all2 (sameT f) a.nodes b.nodes
theorem sameT_refl : ∀ (f : Nat) (t : TrF f), sameT f t t = true
  | 0, _ => rfl
  | f + 1, (t : Nd (TrF f)) => by
    show (decide (t.kind = t.kind) && eqS t.name t.name && decide (t.prim = t.prim) && sameS t.names t.names && sameS t.temps t.temps && all2 (sameT f) t.nodes t.nodes) = true
    rw [sameS_refl, sameS_refl, all2_refl (sameT_refl f)]
    simp [eqS]
/-- a text behind others, once -/
def onceS (l : List ByteArray) (s : ByteArray) : List ByteArray := if l.any (fun x => eqS s x) then l else l ++ [s]
def selT : (f : Nat) → List ByteArray → TrF f → List ByteArray
  | 0, l, _ => l
  | f + 1, l, (t : Nd (TrF f)) =>
    let l2 := t.nodes.foldl (selT f) l
    if t.kind = 5 ∨ t.kind = 7 then onceS l2 t.name else l2
end Go.Proofs.Ytaigfelpecdajaa
