/-
  Deeds that came in; the client between two of them. No statement of the seat is proved here.
-/
import Derived.Test.YtjhkfpemcplaaaaOnB
import Derived.Test.YtjhkfpemcplaaaaFsA
import Derived.Test.YtjhkfpemcplaaaaClX
import Derived.Test.YtjhkfpemcplaaaaClY
namespace Go.Proofs.Ytjhkfpemcplaaaa
open Go.RowKit

def dCells (ds : List Dd) : List Value := ds.flatMap fun d => d.v.toList
theorem dv_len (d : Dd) : d.v.toList.length = 12 := rfl
theorem dCells_len (ds : List Dd) : (dCells ds).length = ds.length * 12 := by
  induction ds with
  | nil => rfl
  | cons d r ih => unfold dCells at *; rw [List.flatMap_cons, List.length_append, ih, dv_len, List.length_cons]; omega
theorem d_at : ∀ (ds : List Dd) (i : Nat) (d : Dd) (j : Nat), j < 12 → ds[i]? = some d → (dCells ds)[i * 12 + j]? = d.v.toList[j]? := by
  intro ds
  induction ds with
  | nil => intro i d j _ h; simp at h
  | cons x r ih =>
    intro i d j hj h
    unfold dCells at *
    rw [List.flatMap_cons]
    cases i with
    | zero =>
      simp only [List.getElem?_cons_zero, Option.some.injEq] at h
      subst h
      rw [Nat.zero_mul, Nat.zero_add, List.getElem?_append_left (by rw [dv_len]; exact hj)]
    | succ i =>
      rw [List.getElem?_cons_succ] at h
      rw [List.getElem?_append_right (by rw [dv_len, Nat.add_mul]; omega), dv_len]
      have : (i + 1) * 12 + j - 12 = i * 12 + j := by rw [Nat.add_mul]; omega
      rw [this]
      exact ih i d j hj h
/-- a slice of deeds that came in -/
structure DsIn (w : World) (A : Option Addr) (ds : List Dd) : Prop where
  rd : Reads w w.heap.size 12 A ds.length (dCells ds)
  el : ∀ d ∈ ds, d.In w ∧ d.nb ≤ 1048576 ∧ d.xn ≤ 1048576
  cp : ∀ d ∈ ds, d.n ≤ d.c ∧ d.c ≤ 9223372036854775807
theorem DsIn.below {w w' : World} {A : Option Addr} {ds : List Dd} (h : DsIn w A ds) (hb : Below w.heap.size w w') : DsIn w' A ds :=
  ⟨(h.rd.below hb).more hb.size, fun d hd => ⟨(h.el d hd).1.below hb, (h.el d hd).2⟩, h.cp⟩
theorem DsIn.at_ {w : World} {A : Option Addr} {ds : List Dd} {i : Nat} (h : DsIn w A ds) (hi : i < ds.length) :
    ∃ b off d, A = some ⟨b, off, none⟩ ∧ ds[i]? = some d ∧ d.In w ∧ d.nb ≤ 1048576 ∧ d.xn ≤ 1048576 ∧ ∀ j u, d.v.toList[j]? = some u → w.cell? ⟨b, off + i * 12 + j, none⟩ = some u := by
  obtain ⟨⟨b, off, spot⟩, e, _, hc⟩ := h.rd.2 (by omega)
  obtain ⟨d, hd⟩ : ∃ d, ds[i]? = some d := ⟨_, List.getElem?_eq_getElem hi⟩
  obtain ⟨d0, hd0⟩ : ∃ d, ds[0]? = some d := ⟨_, List.getElem?_eq_getElem (by omega)⟩
  have h0 := hc 0 _ ((d_at ds 0 d0 0 (by omega) hd0).trans rfl)
  have hspot : spot = none := by simpa [Addr.add] using World.cell?_spot h0
  subst hspot
  obtain ⟨h1, h2, h3⟩ := h.el d (List.mem_of_getElem? hd)
  refine ⟨b, off, d, e, hd, h1, h2, h3, fun j u hu => ?_⟩
  have hj : j < 12 := by have := (List.getElem?_eq_some_iff.1 hu).1; rw [dv_len] at this; exact this
  have := hc (i * 12 + j) u ((d_at ds i d j hj hd).trans hu)
  rw [← this]
  congr 1
  unfold Addr.add
  split <;> simp <;> omega
/-- what the deeds may cost -/
def ckD (ds : List Dd) : Nat := (ds.map fun d => d.bb.length + 4000).sum
theorem ckD_next {ds : List Dd} {i : Nat} {d : Dd} (h : ds[i]? = some d) : ckD (ds.take (i + 1)) = ckD (ds.take i) + (d.bb.length + 4000) := by
  unfold ckD
  rw [List.take_add_one, h]
  simp
theorem ckD_le (ds : List Dd) : ∀ i, ckD (ds.take i) ≤ ckD ds := by
  unfold ckD
  intro i
  conv => rhs; rw [← List.take_append_drop i ds]
  rw [List.map_append, List.sum_append]
  omega
theorem Dd.bb_len {w : World} {d : Dd} (h : d.In w) : d.bb.length = d.nb := by have := h.rb.1; simpa using this
/-- the client between two deeds -/
structure OnS (w0 : World) (g : Nat) (ds : List Dd) (i : Nat) (raw : Bool) (c : Cl) (p : Pa) (w : World) : Prop where
  fr : FrS w0 g p c (ckD (ds.take i)) (fun _ => False) w w
  ok : c.Ok (ckD (ds.take i))
  sh : c.Short
  cl : Clean raw c
section
variable {w0 w w' wB : World} {g m N : Nat} {p p' : Pa} {c c' : Cl} {B : Nat → Prop}
theorem fr_state (h : FrS w0 g p c m B wB w) (ok : c.Ok N) : Calls Try.prog 15 #[.pointer (some ⟨g, 0, none⟩)] w fun e w' => e = .returned (cstV c) ∧ Below w.heap.size w w' := by
  have h1 := state_any h.ca ok
  rw [h.gp] at h1
  exact h1
theorem fr_reps (h : FrS w0 g p c m B wB w) (ok : c.Ok N) (hN : N ≤ 549755813888) (hs : c.Short) : Calls Try.prog 25 #[.pointer (some ⟨g, 0, none⟩)] w fun e w' => ∃ A cc l, e = .returned (.slice A c.rep cc) ∧ c.rep ≤ cc ∧ cc ≤ 9223372036854775807 ∧ RowK kR w.heap.size w' (.slice A c.rep cc) l ∧ l.map (·.1) = c.reps ∧ Below w.heap.size w w' := by
  have h1 := replies_any h.ca ok hN hs.1
  rw [h.gp] at h1
  refine h1.mono ?_
  rintro e w' ⟨v, l, he, hr, hl, hb⟩
  obtain ⟨A, cc, rfl, hc, hm⟩ := hr.form
  have e1 : l.length = c.rep := by rw [← ok.rl, ← hl, List.length_map]
  rw [e1] at he hc hr
  exact ⟨A, cc, l, he, hc, hm, hr, hl, hb⟩
theorem fr_act (h : FrS w0 g p c m B wB w) (ok : c.Ok N) (hN : N ≤ 274877906944) (d : Dd) (hd : d.In w) (hnb : d.nb ≤ 1048576) (hxn : d.xn ≤ 1048576) (hm : m ≤ 1152921504606846976) :
    Calls Try.prog 16 #[.pointer (some ⟨g, 0, none⟩), .agg d.v] w fun e w' => ∃ p' v l, e = .returned v ∧ FrS w0 g p' (actF c d).2 (m + (d.bb.length + 4000)) B wB w' ∧ Frs w p' ((actF c d).1.map frm) v l w' := by
  have h1 := act_any d h.ca ok hN hd hnb hxn (by have := h.d; omega)
  rw [h.gp] at h1
  refine h1.mono ?_
  rintro e w' ⟨v, l, p', he, hs, hf⟩
  exact ⟨p', v, l, he, (h.step hs).more (by have := Dd.bb_len hd; omega), hf⟩
end
def BR (v : Value) (l : List (QX Rp)) (k : Nat) : Prop := v.ownBlock = some k ∨ kR.inB l k
/-- the first rows of a list -/
theorem RowK.take {α : Type} {K : Kd α} {base : Nat} {w : World} {A : Option Addr} {n c : Nat} {l : List (QX α)} (h : RowK K base w (.slice A n c) l) (hn : ∀ q : QX α, (K.cells q).length = K.size) {m : Nat} (hm : m ≤ n) : RowK K base w (.slice A m c) (l.take m) := by
  have hl : l.length = n := by
    obtain ⟨A', c', e, _, _⟩ := h.form
    injection e with _ e _
    exact e.symm
  have hfl : ∀ l : List (QX α), (K.flat l).length = l.length * K.size := by
    intro l
    induction l with
    | nil => simp [Kd.flat]
    | cons q r ih => unfold Kd.flat at *; rw [List.flatMap_cons, List.length_append, ih, hn, List.length_cons, Nat.add_mul]; omega
  have hft : K.flat (l.take m) = (K.flat l).take (m * K.size) := by
    have e : K.flat l = K.flat (l.take m) ++ K.flat (l.drop m) := by
      unfold Kd.flat
      rw [← List.flatMap_append, List.take_append_drop]
    have e2 : (K.flat (l.take m)).length = m * K.size := by rw [hfl, List.length_take, Nat.min_eq_left (by omega)]
    conv => rhs; rw [e, List.take_append_of_le_length (by omega), List.take_of_length_le (by omega)]
  refine ⟨⟨by rw [hfl], ?_⟩, fun q hq => h.els q (List.mem_of_mem_take hq)⟩
  have hlt : (l.take m).length = m := by rw [List.length_take]; omega
  rw [hlt]
  rcases h.row.2 with ⟨e, hx⟩ | ⟨g, cap, cur, e, hb, hg, hn', hmx, hcs, hcell⟩
  · injection e with e1 e2 e3
    subst e1 e2 e3
    exact .inl ⟨by rw [Nat.le_zero.1 hm], by omega⟩
  · injection e with e1 e2 e3
    subst e1 e3
    refine .inr ⟨g, c, cur, rfl, hb, hg, by omega, hmx, hcs, ?_⟩
    rw [hft, ← hcell, List.take_take]
    congr 1
    rw [Nat.min_eq_left]
    exact Nat.mul_le_mul_right _ (by omega)
/-- the document's GetReply -/
theorem rg_any (A : Option Addr) (n c : Nat) (bs : List UInt8) (w : World) (hr : RdB w w.heap.size A n bs) (hc : n ≤ c) (hm : c ≤ 9223372036854775807) :
    Calls Try.prog 31 #[.slice A n c] w fun e w' => ∃ (er : Int) (A2 : Option Addr) (n2 c2 : Nat) (st : ByteArray) (ok : Bool), e = .returned (.tuple #[.agg #[.int .i64 er, .slice A2 n2 c2, .string st], .bool ok]) ∧ Below w.heap.size w w' ∧
      (goodG bs → er = (repG bs).err ∧ n2 = (repG bs).vals.length ∧ st = ⟨(repG bs).text.toArray⟩ ∧ ok = true ∧ w'.ownsRow w.heap.size 68 2 (.slice A2 n2 c2) n2 (vcells (repG bs).vals)) := by
  have hl := hr.len1
  refine (rgetr_any A n c bs w hr hc (by omega)).mono ?_
  rintro e w' ⟨hb, h | h⟩
  · obtain ⟨h1, A2, n2, c2, rfl, ho⟩ := h
    refine ⟨_, A2, n2, c2, _, true, rfl, hb, fun hg => ?_⟩
    have h2 := (rep_good bs).1 hg
    have ht : repTD bs = repT bs := ((txt_flag (repV bs).2.1 (repV bs).2.2).2 h2.1).symm
    refine ⟨rfl, ?_, by rw [ht]; rfl, rfl, ho⟩
    have := cells_len ho
    exact this.symm
  · obtain ⟨h1, rfl⟩ := h
    refine ⟨0, none, 0, 0, _, false, rfl, hb, fun hg => absurd ?_ h1⟩
    have h2 := (rep_good bs).1 hg
    exact ⟨h2.1, h2.2.1, by rw [← hl]; exact h2.2.2.1, h2.2.2.2⟩
end Go.Proofs.Ytjhkfpemcplaaaa
