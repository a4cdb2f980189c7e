/-
  A map that the call itself has made, keyed by ints, to which new keys alone are added: its look-up, its store, its range.
-/
import Derived.Test.YtaeegkljldngmaaDoorWd
import Derived.MapKept
import Derived.Laws.IdiomRangeMap
import Derived.Carry
namespace Go.Proofs.YtaeegkljldngmaaDoor
open Go.RowKit Go.MapKept

/-- the entries, the k-th born as the k-th -/
def ents (q : IntKind) : List (Int × Value) → Nat → List MapEntry
  | [], _ => []
  | p :: r, i => { key := .int q p.1, val := p.2, born := i } :: ents q r (i + 1)
def MapI (q : IntKind) (w : World) (b : Nat) (f : List (Int × Value)) : Prop := w.heap[b]? = some (.map (ents q f 0).toArray f.length)
def getI : List (Int × Value) → Int → Option Value
  | [], _ => none
  | p :: r, z => if p.1 = z then some p.2 else getI r z
theorem ents_len (q : IntKind) : ∀ (f : List (Int × Value)) (i : Nat), (ents q f i).length = f.length
  | [], _ => rfl
  | _ :: r, i => by simp [ents, ents_len q r]
theorem ents_app (q : IntKind) (z : Int) (v : Value) : ∀ (f : List (Int × Value)) (i : Nat), ents q (f ++ [(z, v)]) i = ents q f i ++ [{ key := .int q z, val := v, born := i + f.length }]
  | [], _ => rfl
  | p :: r, i => by
    simp only [List.cons_append, ents, ents_app q z v r (i + 1), List.length_cons]
    congr 3
    congr 1
    omega
theorem find_ents (q : IntKind) (z : Int) : ∀ (f : List (Int × Value)) (i j : Nat), ∃ r, Instr.findNow (.int q) (.int q z) (ents q f i) j = some r ∧ r.map (·.2) = getI f z
  | [], _, _ => ⟨none, rfl, rfl⟩
  | p :: t, i, j => by
    obtain ⟨r, h1, h2⟩ := find_ents q z t (i + 1) (j + 1)
    by_cases h : p.1 = z
    · exact ⟨some (j, p.2), by simp [ents, Instr.findNow, Instr.sameNow, h], by simp [getI, h]⟩
    · have hz : (z == p.1) = false := by rw [beq_eq_false_iff_ne]; exact Ne.symm h
      exact ⟨r, by simp [ents, Instr.findNow, Instr.sameNow, hz, h1], by simp [getI, h, h2]⟩
theorem getI_app (f : List (Int × Value)) (z : Int) (v : Value) (y : Int) : getI (f ++ [(z, v)]) y = if (getI f y).isSome then getI f y else if z = y then some v else none := by
  induction f with
  | nil => simp [getI]
  | cons p r ih =>
    simp only [List.cons_append, getI]
    split
    · simp
    · exact ih
section
variable {P : Program} {w w' : World} {b : Nat} {q : IntKind} {f : List (Int × Value)} {t kt et : TypeId}
theorem MapI.keep (h : MapI q w b f) (hk : w'.heap[b]? = w.heap[b]?) : MapI q w' b f := hk.trans h
theorem MapI.lt (h : MapI q w b f) : b < w.heap.size := (Array.getElem?_eq_some_iff.1 h).1
theorem MapI.made (w : World) (q : IntKind) : MapI q (w.alloc (.map #[] 0)) w.heap.size [] := heap_alloc_new w _
/-- 'm[k]' -/
theorem run_lookupI {z0 : Value} (ht : P.underlying t = some (.map kt et)) (hk : P.underlying kt = some (.int q)) (hz : ∀ w, (zeroValue et).run P w = .ok z0 w) (h : MapI q w b f) (z : Int) :
    (Instr.lookup t (.map (some b)) (.int q z) false).run P w = .ok ((getI f z).getD z0) w := by
  obtain ⟨r, h1, h2⟩ := find_ents q z f 0 0
  have hf : (Instr.findKey kt (.int q z) (ents q f 0)).run P w = .ok r w := run_findKey hk h1
  cases r with
  | none =>
    rw [← h2]
    simp [Instr.lookup, run_underlying ht, MapKept.run_getObj_map h, run_checkKey hk (show IsKey (.int q) (.int q z) by simp [IsKey]), hf, hz, Result.andThen]
  | some p =>
    rw [← h2]
    simp [Instr.lookup, run_underlying ht, MapKept.run_getObj_map h, run_checkKey hk (show IsKey (.int q) (.int q z) by simp [IsKey]), hf, Result.andThen]
/-- 'v, ok := m[k]' -/
theorem run_lookupI2 {z0 : Value} (ht : P.underlying t = some (.map kt et)) (hk : P.underlying kt = some (.int q)) (hz : ∀ w, (zeroValue et).run P w = .ok z0 w) (h : MapI q w b f) (z : Int) :
    (Instr.lookup t (.map (some b)) (.int q z) true).run P w = .ok (.tuple #[(getI f z).getD z0, .bool (getI f z).isSome]) w := by
  obtain ⟨r, h1, h2⟩ := find_ents q z f 0 0
  have hf : (Instr.findKey kt (.int q z) (ents q f 0)).run P w = .ok r w := run_findKey hk h1
  cases r with
  | none =>
    rw [← h2]
    simp [Instr.lookup, run_underlying ht, MapKept.run_getObj_map h, run_checkKey hk (show IsKey (.int q) (.int q z) by simp [IsKey]), hf, hz, Result.andThen]
  | some p =>
    rw [← h2]
    simp [Instr.lookup, run_underlying ht, MapKept.run_getObj_map h, run_checkKey hk (show IsKey (.int q) (.int q z) by simp [IsKey]), hf, Result.andThen]
/-- the world behind a store at a new key -/
def mapPut (w : World) (q : IntKind) (b : Nat) (f : List (Int × Value)) (z : Int) (v : Value) : World := { w with heap := w.heap.setIfInBounds b (.map (ents q (f ++ [(z, v)]) 0).toArray (f.length + 1)) }
theorem run_updateI (ht : P.underlying t = some (.map kt et)) (hk : P.underlying kt = some (.int q)) (h : MapI q w b f) (z : Int) (v : Value) (hn : getI f z = none) :
    (Instr.mapUpdate t (.map (some b)) (.int q z) v).run P w = .ok () (mapPut w q b f z v) := by
  obtain ⟨r, h1, h2⟩ := find_ents q z f 0 0
  rw [hn] at h2
  have hr : r = none := by cases r with | none => rfl | some p => cases h2
  subst hr
  have hf : (Instr.findKey kt (.int q z) (ents q f 0)).run P w = .ok none w := run_findKey hk h1
  have he : (ents q f 0).toArray.push { key := .int q z, val := v, born := f.length } = (ents q (f ++ [(z, v)]) 0).toArray := by
    rw [ents_app]; simp
  have hs : ∀ o : Obj, (setObj b o).run P w = .ok () { w with heap := w.heap.setIfInBounds b o } := fun o => run_setObj_map o h
  simp only [Instr.mapUpdate, Sem.run_bind, run_underlying ht, MapKept.run_getObj_map h, run_checkKey hk (show IsKey (.int q) (.int q z) by simp [IsKey]), Result.andThen, hf, he, hs]
  rfl
theorem mapPut_size (w : World) (q : IntKind) (b : Nat) (f : List (Int × Value)) (z : Int) (v : Value) : (mapPut w q b f z v).heap.size = w.heap.size := by simp [mapPut]
theorem MapI.put (h : MapI q w b f) (z : Int) (v : Value) : MapI q (mapPut w q b f z v) b (f ++ [(z, v)]) := by
  have := (heap_set (o' := .map (ents q (f ++ [(z, v)]) 0).toArray (f.length + 1)) h).1
  unfold MapI
  rw [List.length_append]
  exact this
theorem MapI.put_far (h : MapI q w b f) (z : Int) (v : Value) {k : Nat} (hk : k ≠ b) : (mapPut w q b f z v).heap[k]? = w.heap[k]? :=
  (heap_set (o' := .map (ents q (f ++ [(z, v)]) 0).toArray (f.length + 1)) h).2 k hk
end
end Go.Proofs.YtaeegkljldngmaaDoor
