/-
  The walks of may and sameFrames. No statement of the seat is proved here.
-/
import Derived.Test.YtjhkfpemcplaaaaClP
namespace Go.Proofs.Ytjhkfpemcplaaaa
open Go.RowKit

set_option maxRecDepth 20000 in
theorem mayc_any (nonce : Nat) (win pat : Int) (w : World) : Calls Try.prog 11 #[.int .u64 (nonce : Int), .int .i64 win, .int .i64 pat] w fun e w' => e = .returned (.bool (mayCl nonce win pat)) ∧ w = w' := by
  by_cases h : 1 ≤ nonce ∧ 1 ≤ win ∧ win ≤ 16 ∧ 1 ≤ pat ∧ pat ≤ 1000
  · have e : mayCl nonce win pat = true := by simp [mayCl, h]
    obtain ⟨h1, h2, h3, h4, h5⟩ := h
    have d1 : ((nonce : Int) != 0) = true := by simp; omega
    rw [e]
    clear e h1
    go_enter Try.func11, Try.ntmps11
    go_wp2
    go_ret
    exact ⟨rfl, rfl⟩
  · have e : mayCl nonce win pat = false := by
      cases h9 : mayCl nonce win pat with
      | false => rfl
      | true => simp [mayCl] at h9; omega
    rw [e]
    have h2 : nonce = 0 ∨ (1 ≤ nonce ∧ win < 1) ∨ (1 ≤ nonce ∧ 1 ≤ win ∧ 16 < win) ∨ (1 ≤ nonce ∧ 1 ≤ win ∧ win ≤ 16 ∧ pat < 1) ∨ (1 ≤ nonce ∧ 1 ≤ win ∧ win ≤ 16 ∧ 1 ≤ pat ∧ 1000 < pat) := by omega
    clear h e
    rcases h2 with rfl | ⟨h1, h2⟩ | ⟨h1, h2, h3⟩ | ⟨h1, h2, h3, h4⟩ | ⟨h1, h2, h3, h4, h5⟩
    · go_enter Try.func11, Try.ntmps11
      go_wp2
      go_ret
      exact ⟨rfl, rfl⟩
    all_goals
      have d1 : ((nonce : Int) != 0) = true := by simp; omega
      try (have d5 : decide (pat ≤ 1000) = false := by simp; omega)
      clear h1
      go_enter Try.func11, Try.ntmps11
      go_wp2
      go_ret
      first | exact ⟨rfl, rfl⟩ | (refine ⟨?_, rfl⟩; simp; omega)
set_option maxRecDepth 20000 in
set_option maxHeartbeats 4000000 in
theorem sameF_any {b1 b2 : Nat} {v1 v2 : Value} {l1 l2 : List (QX (List UInt8))} {w : World} (h1 : RowK kB b1 w v1 l1) (h2 : RowK kB b2 w v2 l2) (he : l1.map (·.1) = l2.map (·.1)) :
    Calls Try.prog 65 #[v1, v2] w fun e w' => e = .returned (.bool true) ∧ Below w.heap.size w w' := by
  have HA := Lib.hid h1
  have HB := Lib.hid h2
  have HE := Lib.hid he
  have hl : l2.length = l1.length := by have := congrArg List.length he; simpa using this.symm
  obtain ⟨A1, c1, rfl, n1, n2⟩ := h1.form
  have n3 : l1.length ≤ 9223372036854775807 := by simp only [maxLen] at n2; omega
  clear n1 n2
  obtain ⟨A2, c2, rfl, _, _⟩ := h2.form
  rw [hl] at HB ⊢
  clear h1 h2 he
  go_enter Try.func65, Try.ntmps65
  go_wp2
  go_loopw [5] (fun V wr => ∃ i : Nat, i ≤ l1.length ∧ V = .int .i64 (i : Int) ∧ Below w.heap.size w wr) (fun V _ => l1.length - (intOf V).toNat)
  case atStart => exact ⟨0, Nat.zero_le _, rfl, Below.refl _ _⟩
  case round =>
    obtain ⟨i, hi9, rfl, hbr⟩ := hrel
    by_cases hlt : i < l1.length
    · obtain ⟨q1, hq1⟩ : ∃ q, l1[i]? = some q := ⟨_, List.getElem?_eq_getElem hlt⟩
      obtain ⟨q2, hq2⟩ : ∃ q, l2[i]? = some q := ⟨_, List.getElem?_eq_getElem (by omega)⟩
      have hqq : q2.1 = q1.1 := by
        have h3 := congrArg (fun l => l[i]?) HE.out
        simp only [List.getElem?_map, hq1, hq2, Option.map_some, Option.some.injEq] at h3
        exact h3.symm
      have r1 := HA.out.below hbr
      have r2 : RowK kB b2 wr (.slice A2 l2.length c2) l2 := by have := HB.out.below hbr; rw [hl]; exact this
      obtain ⟨g1, d1, e1, _, _, k1⟩ := r1.at_ kB_len hq1
      obtain ⟨g2, d2, e2, _, _, k2⟩ := r2.at_ kB_len hq2
      injection e1 with ea _ ec
      injection e2 with eb _ ed
      subst ea eb ec ed
      have x1 : wr.cell? ⟨g1, i, none⟩ = some (.slice q1.2.1 q1.1.length q1.2.2) := by
        have := k1 0 _ rfl
        simpa [kB, Kd.val] using this
      have x2 : wr.cell? ⟨g2, i, none⟩ = some (.slice q2.2.1 q1.1.length q2.2.2) := by
        have := k2 0 _ rfl
        rw [← hqq]
        simpa [kB, Kd.val] using this
      have o1 : RdB wr wr.heap.size q1.2.1 q1.1.length q1.1 := OwnB.reads (e := 5) (c := q1.2.2) (r1.els q1 (List.mem_of_getElem? hq1)) rfl
      have o2 : RdB wr wr.heap.size q2.2.1 q1.1.length q1.1 := by
        have := OwnB.reads (e := 5) (c := q2.2.2) (r2.els q2 (List.mem_of_getElem? hq2)) rfl
        rw [hqq] at this
        exact this
      have y1 : (convert 37 9 (.slice q1.2.1 q1.1.length q1.2.2)).run Try.prog wr.drew = .ok (.string ⟨q1.1.toArray⟩) wr.drew := run_string_of _ 37 9 5 (o1.below (Below.refl _ _).drew) Try.underlying37 Try.underlying5 Try.underlying9
      have y2 : (convert 37 9 (.slice q2.2.1 q1.1.length q2.2.2)).run Try.prog wr.drew = .ok (.string ⟨q1.1.toArray⟩) wr.drew := run_string_of _ 37 9 5 (o2.below (Below.refl _ _).drew) Try.underlying37 Try.underlying5 Try.underlying9
      have l3 : (0 : Int) ≤ (i : Int) := by omega
      have l4 : (i : Int) < (l1.length : Int) := by omega
      have HBR := Lib.hid hbr
      have HLT := Lib.hid hlt
      clear k1 k2 r1 r2 o1 o2 hq1 hq2 hbr
      go_upto_region 6 with fail
      go_region_held3 (fun W => W.cell? ⟨g1, i, none⟩ = some (.slice q1.2.1 q1.1.length q1.2.2) ∧ W.cell? ⟨g2, i, none⟩ = some (.slice q2.2.1 q1.1.length q2.2.2) ∧ (convert 37 9 (.slice q1.2.1 q1.1.length q1.2.2)).run Try.prog W = .ok (.string ⟨q1.1.toArray⟩) W ∧ (convert 37 9 (.slice q2.2.1 q1.1.length q2.2.2)).run Try.prog W = .ok (.string ⟨q1.1.toArray⟩) W)
        (go_keep)
        (fail)
      all_goals
        go_wp2
        go_roundw
        case rel => exact ⟨i + 1, HLT.out, by go_num, HBR.out.drew⟩
        case measure => have := HLT.out; simp [intOf]; omega
    · obtain rfl : i = l1.length := by omega
      go_wp2
      go_ret
      exact ⟨rfl, hbr⟩
end Go.Proofs.Ytjhkfpemcplaaaa
