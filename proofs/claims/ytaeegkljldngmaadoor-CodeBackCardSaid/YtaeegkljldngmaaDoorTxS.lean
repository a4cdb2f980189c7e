/-
  Cutting a text at a byte, plain. No statement of the seat is proved here.
-/
import Derived.Lib.SplitLaws
import Derived.Lib.Split
namespace Go.Proofs.YtaeegkljldngmaaDoor

theorem occ_one (s : List UInt8) (c : UInt8) (i : Nat) : Lib.occAt s [c] i = (s[i]? == some c) := by
  unfold Lib.occAt
  have e : s[i]? = (s.drop i)[0]? := by simp
  rw [e]
  cases s.drop i with
  | nil => rfl
  | cons a t =>
    simp only [List.isPrefixOf, List.getElem?_cons_zero, Bool.and_true]
    rw [Bool.eq_iff_iff, beq_iff_eq, beq_iff_eq]
    exact ⟨fun h => h ▸ rfl, fun h => (Option.some.inj h).symm⟩
theorem index_at (l r : List UInt8) (c : UInt8) (h : c ∉ l) : Lib.index (l ++ c :: r) [c] = (l.length : Int) := by
  refine Lib.index_first (by simp) ?_ fun j hj => ?_
  · rw [occ_one]; simp
  · rw [occ_one, List.getElem?_append_left hj, List.getElem?_eq_getElem hj]
    have : l[j] ≠ c := fun e => h (e ▸ List.getElem_mem hj)
    simpa using this
theorem index_no (l : List UInt8) (c : UInt8) (h : c ∉ l) : Lib.index l [c] = -1 := by
  refine Lib.index_none fun j hj => ?_
  rw [occ_one]
  cases e : l[j]? with
  | none => rfl
  | some b =>
    have : b ≠ c := fun e2 => h (e2 ▸ List.mem_of_getElem? e)
    simpa using this
def joinL (c : UInt8) : List (List UInt8) → List UInt8
  | [] => []
  | [l] => l
  | l :: m :: ls => l ++ c :: joinL c (m :: ls)
theorem split_join (c : UInt8) : ∀ (ls : List (List UInt8)), ls ≠ [] → (∀ l ∈ ls, c ∉ l) → Lib.split (joinL c ls) [c] = ls
  | [], h, _ => absurd rfl h
  | [l], _, h => by
    have := index_no l c (h l (by simp))
    unfold Lib.split joinL
    rw [Lib.count_miss this]
    rfl
  | l :: m :: ls, _, h => by
    have hi := index_at l (joinL c (m :: ls)) c (h l (by simp))
    have ih := split_join c (m :: ls) (by simp) fun x hx => h x (by simp [hx])
    unfold Lib.split at ih ⊢
    unfold joinL
    rw [Lib.count_hit (by simp) hi, Nat.add_comm 1]
    have hd : (l ++ c :: joinL c (m :: ls)).drop (l.length + [c].length) = joinL c (m :: ls) := by simp
    rw [hd]
    unfold Lib.splitK
    rw [hi, if_neg (by rw [beq_iff_eq]; omega), Int.toNat_natCast, hd, ih]
    simp
def txt (l : List UInt8) : ByteArray := ⟨l.toArray⟩
theorem txt_data (l : List UInt8) : (txt l).data.toList = l := rfl
theorem txt_of (b : ByteArray) : txt b.data.toList = b := rfl
theorem splitB_join (c : UInt8) (ls : List (List UInt8)) (hne : ls ≠ []) (h : ∀ l ∈ ls, c ∉ l) : Lib.splitB ⟨#[c]⟩ 0 (Lib.countB (txt (joinL c ls)) ⟨#[c]⟩) (txt (joinL c ls)) = ls.map txt ∧ Lib.countB (txt (joinL c ls)) ⟨#[c]⟩ + 1 = ls.length := by
  have h1 := Lib.splitB_data ⟨#[c]⟩ 0 (Lib.countB (txt (joinL c ls)) ⟨#[c]⟩) (txt (joinL c ls))
  have h2 := split_join c ls hne h
  have h3 : (Lib.splitB ⟨#[c]⟩ 0 (Lib.countB (txt (joinL c ls)) ⟨#[c]⟩) (txt (joinL c ls))).map (·.data.toList) = ls := h1.trans h2
  have h4 := congrArg (List.map txt) h3
  rw [List.map_map] at h4
  have h5 : (txt ∘ fun x : ByteArray => x.data.toList) = id := by funext x; exact txt_of x
  rw [h5, List.map_id] at h4
  refine ⟨h4, ?_⟩
  have h6 := Lib.splitB_all ⟨#[c]⟩ (Nat.le_refl 1) 0 _ (txt (joinL c ls)) rfl
  rw [h4] at h6
  simpa using h6.symm
end Go.Proofs.YtaeegkljldngmaaDoor
