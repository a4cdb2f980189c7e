/-
  Arguments opened for the walk of OopBytes: a slice of bytes, a slice of words, each with the reach's bound on its length. No statement of the seat is proved here.
-/
import Derived.Test.YtlopmhnakehnaaaDoorFrameD
import Derived.Test.YtlopmhnakehnaaaDoorWordsO
import Derived.OpenShut
import Derived.ProofKit
import Derived.Lib.SmallJoins
import Derived.SizedLaws
namespace Go.Proofs.YtlopmhnakehnaaaDoor
open Go.Joins Go.ChangeShapes Go.WideShapes Go.RowKit Go.Deep

section
variable {H : Type} {enc : TypeId × Value → H} {P : Program} {w : World} {base : Nat} {spare : Nat → Bool} {held : Bool}
theorem u8_of_wf {z : Int} (h : (Lit.int .u8 z).wf = true) : bv (UInt8.ofNat z.toNat) = .int .u8 z := by
  simp [Lit.wf, IntKind.min, IntKind.max, IntKind.signed, IntKind.bits] at h
  unfold bv
  have : (UInt8.ofNat z.toNat).toNat = z.toNat := by simp [UInt8.toNat_ofNat']; omega
  rw [this, Int.toNat_of_nonneg (by omega)]

/-- a slice of bytes that came in reads as a list of bytes -/
theorem bytes_in {t e : TypeId} {fuel : Nat} {v : Value} {x : DataW H × List MemPlace} (ht : P.underlying t = some (.slice e)) (he : P.underlying e = some (.int .u8)) (hc : P.cellsOf e = 1)
    (h : DataW.trod enc P w base spare held fuel t [v] = some x) :
    ∃ (A : Option Addr) (n c : Nat) (bs : List UInt8), v = .slice A n c ∧ RdB w w.heap.size A n bs ∧ (n = 0 ∨ ∃ el sp, x.1 = .slice el sp ∧ el.length = n) := by
  rcases open_ints ht he hc h with ⟨hcs, _⟩ | ⟨a, l, c, zs, hcs, _, hl, hm, hz, hx, hcell, hwz⟩
  · simp at hcs
    exact ⟨none, 0, 0, [], hcs, Reads.none_, .inl rfl⟩
  · simp at hcs
    have hlz : l ≤ zs.length := by rw [hz]; split <;> omega
    have hmap : ((zs.take l).map fun z => UInt8.ofNat z.toNat).map bv = (zs.take l).map (Value.int .u8) := by
      rw [List.map_map]
      exact List.map_congr_left fun z hz' => u8_of_wf (hwz z (List.mem_of_mem_take hz'))
    refine ⟨some a, l, c, (zs.take l).map fun z => UInt8.ofNat z.toNat, hcs, ⟨?_, fun h0 => ⟨a, rfl, ?_, fun j u hu => ?_⟩⟩, .inr ⟨_, _, by rw [hx], by simp [lits]; omega⟩⟩
    · simp; omega
    · have := World.block_lt_of_cell? _ _ (hcell 0 (by omega))
      rwa [block_of_add] at this
    · rw [hmap, List.getElem?_map] at hu
      by_cases hj : j < l
      · rw [hcell j (by omega)]
        rw [List.getElem?_take_of_lt hj, List.getElem?_eq_getElem (by omega)] at hu
        simp only [Option.map_some, Option.some.injEq] at hu
        rw [← hu, List.getD, List.getElem?_eq_getElem (by omega)]
        rfl
      · rw [List.getElem?_eq_none (by simp; omega)] at hu
        simp at hu

theorem u32n_of_wf {z : Int} (h : (Lit.int .u32 z).wf = true) : wv z.toNat = .int .u32 z ∧ z.toNat < 4294967296 := by
  obtain ⟨h1, h2⟩ := u32_of_wf h
  unfold wv
  exact ⟨by rw [Int.toNat_of_nonneg h1], by omega⟩
/-- a slice of words that came in reads as a list of words -/
theorem words_in {t e : TypeId} {fuel : Nat} {v : Value} {x : DataW H × List MemPlace} (ht : P.underlying t = some (.slice e)) (he : P.underlying e = some (.int .u32)) (hc : P.cellsOf e = 1)
    (h : DataW.trod enc P w base spare held fuel t [v] = some x) :
    ∃ (A : Option Addr) (n c : Nat) (ws : List Nat), v = .slice A n c ∧ RdW w w.heap.size A n ws ∧ (n = 0 ∨ ∃ el sp, x.1 = .slice el sp ∧ el.length = n) ∧ ∀ y ∈ ws, y < 4294967296 := by
  rcases open_ints ht he hc h with ⟨hcs, _⟩ | ⟨a, l, c, zs, hcs, _, hl, hm, hz, hx, hcell, hwz⟩
  · simp at hcs
    exact ⟨none, 0, 0, [], hcs, Reads.none_, .inl rfl, by simp⟩
  · simp at hcs
    have hlz : l ≤ zs.length := by rw [hz]; split <;> omega
    have hmap : ((zs.take l).map fun z => z.toNat).map wv = (zs.take l).map (Value.int .u32) := by
      rw [List.map_map]
      exact List.map_congr_left fun z hz' => (u32n_of_wf (hwz z (List.mem_of_mem_take hz'))).1
    refine ⟨some a, l, c, (zs.take l).map fun z => z.toNat, hcs, ⟨?_, fun h0 => ⟨a, rfl, ?_, fun j u hu => ?_⟩⟩, .inr ⟨_, _, by rw [hx], by simp [lits]; omega⟩, fun y hy => ?_⟩
    · simp; omega
    · have := World.block_lt_of_cell? _ _ (hcell 0 (by omega))
      rwa [block_of_add] at this
    · rw [hmap, List.getElem?_map] at hu
      by_cases hj : j < l
      · rw [hcell j (by omega)]
        rw [List.getElem?_take_of_lt hj, List.getElem?_eq_getElem (by omega)] at hu
        simp only [Option.map_some, Option.some.injEq] at hu
        rw [← hu, List.getD, List.getElem?_eq_getElem (by omega)]
        rfl
      · rw [List.getElem?_eq_none (by simp; omega)] at hu
        simp at hu
    · obtain ⟨z, hz', rfl⟩ := List.mem_map.1 hy
      exact (u32n_of_wf (hwz z (List.mem_of_mem_take hz'))).2
end
end Go.Proofs.YtlopmhnakehnaaaDoor
