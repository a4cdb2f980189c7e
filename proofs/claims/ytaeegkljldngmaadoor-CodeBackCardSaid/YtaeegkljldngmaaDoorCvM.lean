/-
  The verifier in memory. No statement of the seat is proved here.
-/
import Derived.Test.YtaeegkljldngmaaDoorCvP
import Derived.Test.YtaeegkljldngmaaDoorMapI
namespace Go.Proofs.YtaeegkljldngmaaDoor
open Go.RowKit

def plsL (l : List Ins) : List Int := (List.range l.length).map fun i => (pl l i : Int)
def atL (l : List Ins) (k : Nat) : List (Int × Value) := ((pl l l.length : Int), .int .i64 (l.length : Int)) :: (List.range k).map fun i => ((pl l i : Int), .int .i64 (i : Int))
/-- what stays: the shape, the instructions, where they lie -/
structure VK where
  s : Shp
  l : List Ins
  g : Nat
  mb : Nat
  LA : Option Addr
  lc : Nat
  lv : Value
  pv : Value
/-- what turns -/
structure VD where
  rv : Value
  rs : List Rg
  sv : List Value
  ov : Value
  of : List Nat
  bv : Value
  body : List Int
  dv : Value
  dp : List Int
  fault : Int
def verC (K : VK) (D : VD) : Array Value := #[.int .i64 K.s.args, .int .i64 K.s.temps, .int .i64 K.s.fields, .slice K.LA K.s.lits.length K.lc, K.lv, K.pv, .int .i64 (pl K.l K.l.length : Int), .map (some K.mb), D.rv, D.ov, D.bv, D.dv, .int .i64 D.fault]
def Rg.cs (x : Rg) (v : Value) : List Value := [.int .i64 x.outer, .int .i64 x.deep, .int .i64 x.temps, .int .i64 x.fin, v, .int .i64 x.most]
def rgC : List Rg → List Value → List Value
  | [], _ => []
  | x :: r, vs => x.cs (vs.headD (.slice none 0 0)) ++ rgC r vs.tail
def natZ (l : List Nat) : List Int := l.map fun (i : Nat) => (i : Int)
def apart (a b : Value) : Prop := ∀ k, a.ownBlock = some k → b.ownBlock ≠ some k
def VD.rows (D : VD) (pv : Value) : List Value := pv :: D.ov :: D.bv :: D.dv :: D.sv
structure VM (base : Nat) (K : VK) (D : VD) (W : World) : Prop where
  blk : Blk W K.g 82 (verC K D)
  lit : Reads W base 1 K.LA K.s.lits.length (K.s.lits.map iv)
  ins : OwnIn W base K.lv K.l
  pls : OwnZ W base K.pv (plsL K.l)
  mp : MapI .i64 W K.mb (atL K.l K.l.length)
  rgs : W.ownsRow base 88 6 D.rv D.rs.length (rgC D.rs D.sv)
  oft : OwnZ W base D.ov (natZ D.of)
  bdy : OwnZ W base D.bv D.body
  dps : OwnZ W base D.dv D.dp
  stl : D.sv.length = D.rs.length
  sts : ∀ (k : Nat) (x : Rg) (v : Value), D.rs[k]? = some x → D.sv[k]? = some v → OwnZ W base v (natZ x.steps)
  sep : (D.rows K.pv).Pairwise apart
  geg : base ≤ K.g
  gem : base ≤ K.mb
/-- its blocks -/
def VB (K : VK) (D : VD) (k : Nat) : Prop := k = K.g ∨ k = K.mb ∨ K.lv.ownBlock = some k ∨ D.rv.ownBlock = some k ∨ ∃ v ∈ D.rows K.pv, v.ownBlock = some k
theorem rgC_len : ∀ (rs : List Rg) (vs : List Value), (rgC rs vs).length = rs.length * 6
  | [], _ => rfl
  | _ :: r, vs => by simp [rgC, rgC_len r, Rg.cs]; omega
theorem rgC_at : ∀ (rs : List Rg) (vs : List Value) (r : Nat) (x : Rg), rs[r]? = some x → ∀ j, j < 6 → (rgC rs vs)[r * 6 + j]? = (x.cs (vs.getD r (.slice none 0 0)))[j]?
  | y :: rs, vs, 0, x, h, j, hj => by
    simp only [List.getElem?_cons_zero, Option.some.injEq] at h
    subst h
    simp only [rgC]
    rw [List.getElem?_append_left (by simp [Rg.cs]; omega)]
    cases vs <;> simp
  | y :: rs, vs, r + 1, x, h, j, hj => by
    rw [List.getElem?_cons_succ] at h
    simp only [rgC]
    rw [List.getElem?_append_right (by simp [Rg.cs]; omega)]
    have : (r + 1) * 6 + j - (y.cs (vs.headD (.slice none 0 0))).length = r * 6 + j := by simp [Rg.cs]; omega
    rw [this, rgC_at rs vs.tail r x h j hj]
    cases vs <;> simp
theorem rgC_app : ∀ (rs : List Rg) (vs : List Value) (x : Rg) (v : Value), vs.length = rs.length → rgC (rs ++ [x]) (vs ++ [v]) = rgC rs vs ++ x.cs v
  | [], vs, x, v, h => by
    obtain rfl : vs = [] := List.eq_nil_of_length_eq_zero h
    simp [rgC]
  | y :: rs, [], x, v, h => by simp at h
  | y :: rs, u :: vs, x, v, h => by
    simp only [List.length_cons, Nat.add_right_cancel_iff] at h
    simp [rgC, rgC_app rs vs x v h]
theorem rgC_step : ∀ (rs : List Rg) (vs : List Value) (r : Nat) (v : Value) (st : List Nat), vs.length = rs.length → r < rs.length → rgC (rs.set r { rgAt rs r with steps := st }) (vs.set r v) = (rgC rs vs).set (r * 6 + 4) v
  | y :: rs, u :: vs, 0, v, st, h, hr => by simp [rgC, Rg.cs, rgAt]
  | y :: rs, u :: vs, r + 1, v, st, h, hr => by
    simp only [List.length_cons, Nat.add_right_cancel_iff] at h
    simp only [List.length_cons, Nat.add_lt_add_iff_right] at hr
    have := rgC_step rs vs r v st h hr
    have e : rgAt (y :: rs) (r + 1) = rgAt rs r := rfl
    simp only [List.set_cons_succ, rgC, List.headD_cons, List.tail_cons, e, this]
    rw [List.set_append_right _ _ (by simp [Rg.cs]; omega)]
    congr 2
    simp [Rg.cs]; omega
theorem rgC_most : ∀ (rs : List Rg) (vs : List Value) (r : Nat) (m : Int), vs.length = rs.length → r < rs.length → rgC (rs.set r { rgAt rs r with most := m }) vs = (rgC rs vs).set (r * 6 + 5) (.int .i64 m)
  | y :: rs, u :: vs, 0, m, h, hr => by simp [rgC, Rg.cs, rgAt]
  | y :: rs, u :: vs, r + 1, m, h, hr => by
    simp only [List.length_cons, Nat.add_right_cancel_iff] at h
    simp only [List.length_cons, Nat.add_lt_add_iff_right] at hr
    have := rgC_most rs vs r m h hr
    have e : rgAt (y :: rs) (r + 1) = rgAt rs r := rfl
    simp only [List.set_cons_succ, rgC, List.headD_cons, List.tail_cons, e, this]
    rw [List.set_append_right _ _ (by simp [Rg.cs]; omega)]
    congr 2
    simp [Rg.cs]; omega
/-- an element of a row of one's own -/
theorem own_at {w : World} {base size n : Nat} {e : TypeId} {v : Value} {xs : List Value} (h : w.ownsRow base e size v n xs) {i : Nat} (hi : i < n) : ∃ b c, v = .slice (some ⟨b, 0, none⟩) n c ∧ v.ownBlock = some b ∧ b < w.heap.size ∧ base ≤ b ∧ n ≤ c ∧ c ≤ maxLen ∧ ∀ j, j < size → w.cell? ⟨b, i * size + j, none⟩ = xs[i * size + j]? ∧ w.frozen? ⟨b, i * size + j, none⟩ = false := by
  obtain ⟨b, c, hv, hb, hlt⟩ := World.ownsRow.form h (by omega)
  subst hv
  have hf := own_form h
  obtain ⟨A, c', e1, h1, h2⟩ := hf
  injection e1 with _ _ e1
  subst e1
  refine ⟨b, c, rfl, by simp [Value.ownBlock], hlt, (h.lt b (by simp [Value.ownBlock])).1, h1, h2, fun j hj => ⟨World.ownsRow.cellAt h _ ?_, World.ownsRow.frozenAt h _⟩⟩
  have : (i + 1) * size ≤ n * size := Nat.mul_le_mul_right _ hi
  rw [Nat.add_mul] at this
  omega
section
variable {W W' : World} {base : Nat} {K : VK} {D : VD}
theorem VM.lt (h : VM base K D W) {k : Nat} (hk : VB K D k) : base ≤ k ∧ k < W.heap.size := by
  rcases hk with rfl | rfl | hk | hk | ⟨v, hv, hk⟩
  · exact ⟨h.geg, h.blk.lt⟩
  · exact ⟨h.gem, h.mp.lt⟩
  · exact World.ownsRow.lt h.ins k hk
  · exact World.ownsRow.lt h.rgs k hk
  · simp only [VD.rows, List.mem_cons] at hv
    rcases hv with rfl | rfl | rfl | rfl | hv
    · exact World.ownsRow.lt h.pls k hk
    · exact World.ownsRow.lt h.oft k hk
    · exact World.ownsRow.lt h.bdy k hk
    · exact World.ownsRow.lt h.dps k hk
    · obtain ⟨i, hi⟩ := List.getElem?_of_mem hv
      have h1 := (List.getElem?_eq_some_iff.1 hi).1
      have h2 : i < D.rs.length := by rw [← h.stl]; exact h1
      exact World.ownsRow.lt (h.sts i _ v (List.getElem?_eq_getElem h2) hi) k hk
theorem VM.keep (h : VM base K D W) (hk : ∀ k, VB K D k → W'.heap[k]? = W.heap[k]?) (hb : ∀ p : Addr, p.block < base → W'.cell? p = W.cell? p) : VM base K D W' := by
  have hr : ∀ v ∈ D.rows K.pv, ∀ k, v.ownBlock = some k → W'.heap[k]? = W.heap[k]? := fun v hv k e => hk k (.inr (.inr (.inr (.inr ⟨v, hv, e⟩))))
  exact ⟨(hk _ (.inl rfl)).trans h.blk, h.lit.keep hb, own_same h.ins fun k e => hk k (.inr (.inr (.inl e))), own_same h.pls (hr _ (by simp [VD.rows])), h.mp.keep (hk _ (.inr (.inl rfl))),
    own_same h.rgs fun k e => hk k (.inr (.inr (.inr (.inl e)))), own_same h.oft (hr _ (by simp [VD.rows])), own_same h.bdy (hr _ (by simp [VD.rows])), own_same h.dps (hr _ (by simp [VD.rows])), h.stl,
    fun k x v h1 h2 => own_same (h.sts k x v h1 h2) (hr _ (by simp only [VD.rows, List.mem_cons]; exact .inr (.inr (.inr (.inr (List.mem_of_getElem? h2)))))), h.sep, h.geg, h.gem⟩
theorem VM.below (h : VM base K D W) (hb : Below W.heap.size W W') (hB : base ≤ W.heap.size) : VM base K D W' :=
  h.keep (fun k e => hb.block k (h.lt e).2) fun p hp => hb.cell (by omega)
theorem VM.drewN (h : VM base K D W) (n : Nat) : VM base K D (W.drewN n) := h.keep (fun _ _ => rfl) fun _ _ => rfl
theorem VM.alloc (h : VM base K D W) (hB : base ≤ W.heap.size) (o : Obj) : VM base K D (W.alloc o) := h.below ((Below.refl _ _).alloc (Nat.le_refl _) o) hB
end
end Go.Proofs.YtaeegkljldngmaaDoor
