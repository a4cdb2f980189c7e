/-
  Roads that came in. No statement of the seat is proved here.
-/
import Derived.Test.YtjhkfpemcplaaaaFrameV
import Derived.Test.YtjhkfpemcplaaaaFrameD
import Derived.Test.YtjhkfpemcplaaaaEnP
namespace Go.Proofs.Ytjhkfpemcplaaaa
open Go.Joins Go.ChangeShapes Go.WideShapes Go.RowKit Go.Deep

section
variable {H : Type} {enc : TypeId × Value → H} {w : World} {base : Nat} {spare : Nat → Bool} {held : Bool}
set_option maxRecDepth 20000 in
theorem road_in {fuel : Nat} {cs : List Value} {x : DataW H × List MemPlace} (h : DataW.trod enc Try.prog w base spare held fuel 84 cs = some x) (hw : Wt Try.prog 84 x.1) : ∃ d : Rd, cs = d.v.toList ∧ d.In w := by
  have c84 : Try.prog.cellsOf 84 = 7 := by kernel_rfl
  have c35 : Try.prog.cellsOf 35 = 4 := by kernel_rfl
  have c33 : Try.prog.cellsOf 33 = 1 := by kernel_rfl
  have c32 : Try.prog.cellsOf 32 = 1 := by kernel_rfl
  have c22 : Try.prog.cellsOf 22 = 1 := by kernel_rfl
  have c9 : Try.prog.cellsOf 9 = 1 := by kernel_rfl
  have c3 : Try.prog.cellsOf 3 = 1 := by kernel_rfl
  obtain ⟨x0, x1, x2, x3, m, hx, hl, g0, g1, g2, g3⟩ := trod_s4 Try.underlying84 h
  rw [c84] at hl
  match cs, hl with
  | [v0, v1, v2, v3, v4, v5, v6], _ =>
  simp only [c3, c35, List.drop_succ_cons, List.drop_zero, List.take_succ_cons, List.take_zero] at g0 g1 g2 g3
  obtain ⟨K, e0, _, _⟩ := DataW.trod_int Try.underlying3 g0
  obtain ⟨I, e1, _, _⟩ := DataW.trod_int Try.underlying3 g1
  obtain ⟨Z, e2, _, _⟩ := DataW.trod_int Try.underlying3 g2
  obtain ⟨y0, y1, y2, y3, m1, hy, _, a0, a1, a2, a3⟩ := trod_s4 Try.underlying35 g3
  simp only [c32, c22, c33, c9, List.drop_succ_cons, List.drop_zero, List.take_succ_cons, List.take_zero] at a0 a1 a2 a3
  obtain ⟨xk, e3, _, _⟩ := DataW.trod_int Try.underlying32 a0
  obtain ⟨xh, e4, _, wf2⟩ := DataW.trod_int Try.underlying22 a1
  obtain ⟨xA, xn, xc, ns, e5, _, _, hrx, hu⟩ := ints_in Try.underlying33 Try.underlying3 c3 a2
  obtain ⟨str, e6, _, _⟩ := DataW.trod_string Try.underlying9 a3
  simp only [List.cons.injEq, and_true] at e0 e1 e2 e3 e4 e6
  obtain ⟨xh, rfl, hxh⟩ := u64_of_wf wf2
  subst e0 e1 e2 e3 e4 e5 e6
  have hn : xn * Try.prog.bytesOf 3 ≤ reachBytes := by
    refine slice_len Try.underlying33 a2 ?_
    rw [hx] at hw
    have h1 : Wt Try.prog 35 x3.1 := wt_agg Try.underlying84 hw (j := 3) rfl rfl
    rw [hy] at h1
    exact wt_agg Try.underlying35 h1 (j := 2) rfl rfl
  have hb : Try.prog.bytesOf 3 = 8 := by kernel_rfl
  have h9 : reachBytes = 140737488351232 := rfl
  rw [hb, h9] at hn
  exact ⟨⟨K, I, Z, xk, xh, xA, xn, xc, str, ns⟩, rfl, ⟨hrx, hu, hxh, by dsimp only; omega⟩⟩
set_option maxRecDepth 20000 in
/-- a slice of roads that came in -/
theorem roads_in {fuel : Nat} {v : Value} {x : DataW H × List MemPlace} (h : DataW.trod enc Try.prog w base spare held fuel 73 [v] = some x) (hw : Wt Try.prog 73 x.1) :
    ∃ (A : Option Addr) (c : Nat) (ds : List Rd), v = .slice A ds.length c ∧ RsIn w A ds ∧ ds.length ≤ 1760000000000 := by
  have c84 : Try.prog.cellsOf 84 = 7 := by kernel_rfl
  have hsl : ∀ A n c, v = .slice A n c → n ≤ 1760000000000 := by
    intro A n c e
    subst e
    have h1 := slice_len Try.underlying73 h hw
    have hb : Try.prog.bytesOf 84 = 80 := by kernel_rfl
    have : reachBytes = 140737488351232 := rfl
    rw [hb] at h1
    omega
  rcases DataW.trod_slice Try.underlying73 h with ⟨h0, hy⟩ | ⟨a, len, cap, elems, rest, n', hn', hcs, hy, hba, hlc', hcm, hel, hse, _, _⟩
  · simp only [List.cons.injEq, and_true] at h0
    exact ⟨none, 0, [], h0, ⟨⟨by simp [rCells], fun h => by simp at h⟩, fun d hd => by cases hd⟩, by simp⟩
  · simp only [List.cons.injEq, and_true] at hcs
    rw [c84] at hse
    rw [hy] at hw
    have hwe := (wt_slice Try.underlying73 hw).2
    obtain ⟨ds, hlen, hds⟩ := list_of (R := fun i (d : Rd) => w.cells? base (a.add (i * 7)) 7 = some d.v.toList ∧ d.In w) len (fun i hil => by
      have h1 := hse i hil
      have he : elems[i]? = some (elems[i]'(by omega)) := List.getElem?_eq_getElem (by omega)
      rw [he] at h1
      obtain ⟨cs', hc1, hc2⟩ := Option.bind_eq_some_iff.1 h1
      obtain ⟨d, e, hi⟩ := road_in hc2 (hwe _ (List.mem_map_of_mem (List.getElem_mem _)))
      exact ⟨d, by rw [hc1, e], hi⟩)
    refine ⟨some a, cap, ds, by rw [hlen]; exact hcs, ⟨⟨rCells_len ds, fun h0 => ⟨a, rfl, ?_, fun j u hu => ?_⟩⟩, fun d hd => ?_⟩, by rw [hlen]; exact hsl _ _ _ hcs⟩
    · obtain ⟨d, hd⟩ : ∃ d, ds[0]? = some d := ⟨_, List.getElem?_eq_getElem (by omega)⟩
      obtain ⟨_, _, hat⟩ := World.cells?_some (hds 0 d hd).1
      have h1 := (hat 0 (show 0 < 7 by omega)).trans (show d.v.toList[0]? = some (.int .i64 d.K) from rfl)
      have := World.block_lt_of_cell? _ _ h1
      rwa [block_of_add, block_of_add] at this
    · have hjl : j < ds.length * 7 := by rw [← rCells_len]; exact (List.getElem?_eq_some_iff.1 hu).1
      obtain ⟨d, hd⟩ : ∃ d, ds[j / 7]? = some d := ⟨_, List.getElem?_eq_getElem (by omega)⟩
      have h1 := r_at ds (j / 7) d (j % 7) (Nat.mod_lt _ (by decide)) hd
      have hj : j / 7 * 7 + j % 7 = j := by omega
      rw [hj, hu] at h1
      obtain ⟨_, hcl, hat⟩ := World.cells?_some (hds (j / 7) d hd).1
      have h2 := hat (j % 7) (Nat.mod_lt j (show 0 < 7 by decide))
      rw [add_of_add, hj] at h2
      rw [h2]
      exact h1.symm
    · obtain ⟨k, hk⟩ := List.getElem?_of_mem hd
      exact (hds k d hk).2
end
end Go.Proofs.Ytjhkfpemcplaaaa
