/-
  The program's Print f8: what it keeps, plain. No statement of the seat is proved here.
-/
import Derived.Test.YtaeegkljldngmaaDoorTxD
import Derived.Test.YtaeegkljldngmaaDoorTxB
namespace Go.Proofs.YtaeegkljldngmaaDoor
open Go.RowKit

theorem pl_cons (x : Ins) (r : List Ins) (k : Nat) : pl (x :: r) (k + 1) = x.size + pl r k := by
  unfold pl
  simp
theorem plsN_at : ∀ (l : List Ins) (o k : Nat), k < l.length → (plsN o l)[k]? = some (o + pl l k)
  | x :: r, o, 0, _ => by simp [plsN, pl_zero]
  | x :: r, o, k + 1, h => by
    unfold plsN
    rw [List.getElem?_cons_succ, plsN_at r _ k (by simpa using h), pl_cons]
    congr 1
    omega
theorem plsN_len : ∀ (l : List Ins) (o : Nat), (plsN o l).length = l.length
  | [], _ => rfl
  | x :: r, o => by simp [plsN, plsN_len r]
theorem textF_take : ∀ (l : List Ins) (o k : Nat) (x : Ins), l[k]? = some x → textF (l.take (k + 1)) o = textF (l.take k) o ++ (lineL x ((o + pl l k : Nat) : Int) ++ [10])
  | y :: r, o, 0, x, h => by
    simp at h
    subst h
    simp [textF, pl_zero]
  | y :: r, o, k + 1, x, h => by
    rw [List.getElem?_cons_succ] at h
    have ih := textF_take r (o + y.size) k x h
    rw [List.take_succ_cons, List.take_succ_cons]
    unfold textF
    rw [ih, pl_cons]
    simp [Nat.add_assoc]
theorem goals_at : ∀ (l : List Ins) (o k : Nat) (x : Ins), goalsF l o → l[k]? = some x → jmpO x.op = true → 0 ≤ goalI x ((o + pl l k : Nat) : Int) ∧ goalI x ((o + pl l k : Nat) : Int) ≤ 32767
  | y :: r, o, 0, x, h, hx => by
    simp at hx
    subst hx
    exact h.1
  | y :: r, o, k + 1, x, h, hx => by
    rw [List.getElem?_cons_succ] at hx
    have ih := goals_at r (o + y.size) k x h.2 hx
    rw [pl_cons, ← Nat.add_assoc]
    exact ih
theorem plI_lt : ∀ (l : List Ins) (k : Nat) (x : Ins), l[k]? = some x → pl l k + x.size ≤ pl l l.length
  | y :: r, 0, x, h => by
    simp at h
    subst h
    rw [pl_zero, List.length_cons, pl_cons]
    omega
  | y :: r, k + 1, x, h => by
    rw [List.getElem?_cons_succ] at h
    have ih := plI_lt r k x h
    rw [List.length_cons, pl_cons, pl_cons]
    omega
/-! ## The builder and what lies beside it -/
theorem Blk.okept {w w' : World} {g b B t : Nat} {cs : Array Value} {bs : List Value} (h : Blk w g t cs) (hb : Lib.IsBuilderF 59 5 B b bs w) (hk : Lib.OthersKept 5 (some b) w w') (h5 : t ≠ 5) (h59 : t ≠ 59) : Blk w' g t cs := by
  refine hk g _ h ?_ ?_
  · intro e
    injection e with e
    subst e
    rcases hb with ⟨_, v, hv, _⟩ | ⟨_, v, hv, _⟩
    all_goals
      rw [show w.heap[g]? = _ from h] at hv
      injection hv with hv
      injection hv with _ hv
      exact h59 hv
  · intro c fz e
    injection e with _ e
    exact h5 e
theorem own_okept {w w' : World} {base b B : Nat} {e : TypeId} {size n : Nat} {v : Value} {xs bs : List Value} (h : w.ownsRow base e size v n xs) (hb : Lib.IsBuilderF 59 5 B b bs w) (hk : Lib.OthersKept 5 (some b) w w') (h5 : e ≠ 5) (h59 : e ≠ 59) : w'.ownsRow base e size v n xs := by
  refine ⟨h.1, ?_⟩
  rcases h.2 with hn | ⟨g, cap, cur, rfl, hbg, hg, rest⟩
  · exact .inl hn
  · exact .inr ⟨g, cap, cur, rfl, hbg, Blk.okept (show Blk w g e cur from hg) hb hk h5 h59, rest⟩
theorem bld_below {B b : Nat} {bs : List Value} {w w' : World} (h : Lib.IsBuilderF 59 5 B b bs w) (hb : Below w.heap.size w w') : Lib.IsBuilderF 59 5 B b bs w' := by
  have key : ∀ p, Lib.BuilderAtF 59 5 B b p bs w → Lib.BuilderAtF 59 5 B b p bs w' := fun p h => by
    have hlt := h.lt
    obtain ⟨hB, v, hv, hown, hne⟩ := h
    exact ⟨hB, v, (hb.block b hlt).trans hv, hown.kept (row := none) ⟨hb.os, hb.tape, hb.output, hb.size, fun k hk _ => hb.block k hk⟩ (Classical.em _), hne⟩
  exact h.elim (fun x => .inl (key _ x)) (fun x => .inr (key _ x))
structure PrS (w0 : World) (b : Nat) (lv pv : Value) (l : List Ins) (zs : List Int) (out : List UInt8) (w : World) : Prop where
  bel : Below w0.heap.size w0 w
  bld : Lib.IsBuilderF 59 5 w0.heap.size b (Lib.byteCells out) w
  lo : OwnIn w w0.heap.size lv l
  po : OwnZ w w0.heap.size pv zs
section
variable {w0 w w' : World} {b g10 g11 : Nat} {lv pv : Value} {l : List Ins} {zs : List Int} {out : List UInt8} {c10 c11 : Array Value}
theorem PrS.pure (h : PrS w0 b lv pv l zs out w) (hb : Below w.heap.size w w') : PrS w0 b lv pv l zs out w' :=
  ⟨h.bel.trans (hb.mono h.bel.size), bld_below h.bld hb, own_bel h.lo hb, own_bel h.po hb⟩
theorem cells_app (out : List UInt8) (s : ByteArray) : Lib.byteCells out ++ Lib.strCells s = Lib.byteCells (out ++ s.data.toList) := by
  unfold Lib.byteCells Lib.strCells
  rw [List.map_append]
theorem cells_byte (out : List UInt8) (c : UInt8) : Lib.byteCells out ++ [.int .u8 (c.toNat : Int)] = Lib.byteCells (out ++ [c]) := by
  unfold Lib.byteCells
  rw [List.map_append]
  rfl
theorem cells_len (out : List UInt8) : (Lib.byteCells out).length = out.length := by
  unfold Lib.byteCells
  rw [List.length_map]
theorem PrS.write {out' : List UInt8} (h : PrS w0 b lv pv l zs out w) {p : Value} (hp : p = .pointer (some ⟨b, 0, none⟩)) (hB : Lib.BuilderAtF 59 5 w0.heap.size b p (Lib.byteCells out') w') (hb : Below w0.heap.size w w') (hk : Lib.OthersKept 5 (some b) w w') : PrS w0 b lv pv l zs out' w' :=
  ⟨h.bel.trans hb, .inr (by subst hp; exact hB), own_okept h.lo h.bld hk (by decide) (by decide), own_okept h.po h.bld hk (by decide) (by decide)⟩
/-- with the round's two boxes -/
structure PrB (w0 : World) (b : Nat) (lv pv : Value) (l : List Ins) (zs : List Int) (g10 g11 : Nat) (c10 c11 : Array Value) (out : List UInt8) (w : World) : Prop where
  s : PrS w0 b lv pv l zs out w
  b10 : Blk w g10 34 c10
  b11 : Blk w g11 50 c11
theorem PrB.pure (h : PrB w0 b lv pv l zs g10 g11 c10 c11 out w) (hb : Below w.heap.size w w') : PrB w0 b lv pv l zs g10 g11 c10 c11 out w' :=
  ⟨h.s.pure hb, h.b10.below hb h.b10.lt, h.b11.below hb h.b11.lt⟩
theorem PrB.write {out' : List UInt8} (h : PrB w0 b lv pv l zs g10 g11 c10 c11 out w) {p : Value} (hp : p = .pointer (some ⟨b, 0, none⟩)) (hB : Lib.BuilderAtF 59 5 w0.heap.size b p (Lib.byteCells out') w') (hb : Below w0.heap.size w w') (hk : Lib.OthersKept 5 (some b) w w') : PrB w0 b lv pv l zs g10 g11 c10 c11 out' w' :=
  ⟨h.s.write hp hB hb hk, h.b10.okept h.s.bld hk (by decide) (by decide), h.b11.okept h.s.bld hk (by decide) (by decide)⟩
/-- WriteString and WriteByte, said of all that -/
theorem PrB.str (h : PrB w0 b lv pv l zs g10 g11 c10 c11 out w) (s : ByteArray) (hl : out.length + s.size ≤ 100000000) :
    Calls Tryd.prog 18 #[.pointer (some ⟨b, 0, none⟩), .string s] w fun e w' => e = .returned (.tuple #[.int .i64 s.size, .nilIface]) ∧ PrB w0 b lv pv l zs g10 g11 c10 c11 (out ++ s.data.toList) w' :=
  (bld_str w0.heap.size b (Lib.byteCells out) s w h.s.bld (by rw [cells_len]; omega) h.s.bel.size).mono fun e w' hp => by
    obtain ⟨h1, h2, h3, h4⟩ := hp
    rw [cells_app] at h2
    exact ⟨h1, h.write rfl h2 h3 h4⟩
theorem PrB.byte (h : PrB w0 b lv pv l zs g10 g11 c10 c11 out w) (c : UInt8) (hl : out.length ≤ 100000000) :
    Calls Tryd.prog 22 #[.pointer (some ⟨b, 0, none⟩), .int .u8 (c.toNat : Int)] w fun e w' => e = .returned .nilIface ∧ PrB w0 b lv pv l zs g10 g11 c10 c11 (out ++ [c]) w' :=
  (bld_byte w0.heap.size b (Lib.byteCells out) (c.toNat : Int) w h.s.bld (by rw [cells_len]; omega) h.s.bel.size).mono fun e w' hp => by
    obtain ⟨h1, h2, h3, h4⟩ := hp
    rw [cells_byte] at h2
    exact ⟨h1, h.write rfl h2 h3 h4⟩
end
end Go.Proofs.YtaeegkljldngmaaDoor
