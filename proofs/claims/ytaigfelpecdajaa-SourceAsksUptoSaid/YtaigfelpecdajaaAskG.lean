/-
  slices.Grow at nil; slices.Concat over lists of strings.
-/
import Derived.Test.YtaigfelpecdajaaAskF
import Derived.Lib.AppendZeros
namespace Go.Proofs.Ytaigfelpecdajaa
open Go.RowKit

def GrowP (w : World) (e : Ending) (w' : World) : Prop := ∃ c, ∃ A, e = .returned (.slice A 0 c) ∧ OwnS w' w.heap.size (.slice A 0 c) [] ∧ Below w.heap.size w w'
theorem grow_made (w : World) (n : Nat) (hn : n ≤ 4000000) :
    OwnS (w.drew.alloc (.cells (Builtin.zeroCells (Value.string ⟨#[]⟩).cells n ++ Builtin.zeroCells (Value.string ⟨#[]⟩).cells (grownCap w n 0 9 - n)) 9)) w.heap.size (.slice (some ⟨w.heap.size, 0, none⟩) 0 (grownCap w n 0 9)) [] := by
  have h1 := grownCap_ge w n 0 9
  have h2 : grownCap w n 0 9 ≤ maxLen := grownCap_le_maxLen w n 0 9 (by simp only [maxLen]; omega)
  exact World.ownsRow_made (base := w.heap.size) (e := 9) (size := 1) w.drew _ (grownCap w n 0 9) (Nat.le_refl _) h2 (by
    have hz : (Value.string ⟨#[]⟩).cells.size = 1 := rfl
    simp only [Array.size_append, size_zeroCells, hz]; omega)
set_option maxRecDepth 20000 in
set_option maxHeartbeats 1000000 in
theorem grow_any (n : Nat) (w : World) (hn : n ≤ 4000000) : Calls Try.prog 57 #[.slice none 0 0, .int .i64 (n : Int)] w (GrowP w) := by
  obtain ⟨i0, hi, hz0, hz1, hz2⟩ := info_parts info9
  by_cases h0 : n = 0
  · subst h0
    go_enter Try.func57, Try.ntmps57
    go_wp2
    go_ret
    exact ⟨_, _, rfl, OwnS.nil _ _, Below.refl _ _⟩
  · have HR := Lib.hid fun ty => Lib.run_append_nil_zeros (P := Try.prog) w 23 3 ty 9 i0 _ .i64 .i64 Try.underlying23 Try.underlying3 hi hz0 n (by omega) (by rw [hz1]; omega) (by omega) (by rw [hz2]; omega)
    have HG := Lib.hid (grow_made w n hn)
    have HB : Hid (Below w.heap.size w (w.drew.alloc (.cells (Builtin.zeroCells (Value.string ⟨#[]⟩).cells n ++ Builtin.zeroCells (Value.string ⟨#[]⟩).cells (grownCap w n 0 9 - n)) 9))) := Lib.hid ((Below.refl _ w).drew.alloc (Nat.le_refl _) _)
    have hc1 : n ≤ grownCap w n 0 9 := grownCap_ge w n 0 9
    have hc2 : grownCap w n 0 9 ≤ 9223372036854775807 := grownCap_le_maxLen w n 0 9 (by simp only [maxLen]; omega)
    generalize grownCap w n 0 9 = G at *
    generalize w.drew.alloc (.cells (Builtin.zeroCells (Value.string ⟨#[]⟩).cells n ++ Builtin.zeroCells (Value.string ⟨#[]⟩).cells (G - n)) 9) = w1 at *
    have p0 : (0 : Int) < n := by omega
    clear hi hz0 hz1 hz2
    go_enter Try.func57, Try.ntmps57
    go_wp2_with (at_builtin; refine Lib.wpList_append_run _ rfl _ _ _ _ rfl _ _ rfl rfl _ _ (HR.out _) ?_)
    go_ret
    exact ⟨_, _, rfl, HG.out, HB.out⟩
/-- a part: where it lies, its texts, its room -/
abbrev PartS := Option Addr × List ByteArray × Nat
def partV (p : PartS) : Value := .slice p.1 p.2.1.length p.2.2
def joinS (ps : List PartS) : List ByteArray := ps.flatMap fun p => p.2.1
theorem join_drop {ps : List PartS} {k : Nat} {A : Option Addr} {l : List ByteArray} {c : Nat} (h : ps[k]? = some (A, l, c)) : joinS (ps.drop k) = l ++ joinS (ps.drop (k + 1)) := by
  have h1 : k < ps.length := by
    rcases Nat.lt_or_ge k ps.length with h' | h'
    · exact h'
    · rw [List.getElem?_eq_none h'] at h; cases h
  rw [List.drop_eq_getElem_cons h1]
  rw [List.getElem?_eq_getElem h1] at h
  rw [Option.some.inj h]
  rfl
theorem join_end {ps : List PartS} {k : Nat} (h : ps.length ≤ k) : joinS (ps.drop k) = [] := by rw [List.drop_eq_nil_of_le h]; rfl
structure PartsAt (w : World) (g : Nat) (ps : List PartS) : Prop where
  cell : ∀ i A l c, ps[i]? = some (A, l, c) → w.cell? ⟨g, i, none⟩ = some (.slice A l.length c) ∧ RdS w w.heap.size A l.length l
def ConcP (w : World) (l : List ByteArray) (e : Ending) (w' : World) : Prop := ∃ v', e = .returned v' ∧ OwnS w' w.heap.size v' l ∧ Below w.heap.size w w'
set_option maxRecDepth 20000 in
set_option maxHeartbeats 2000000 in
theorem concat_any (g cap : Nat) (ps : List PartS) (w : World) (h : PartsAt w g ps) (hg : g < w.heap.size) (hp : ps.length ≤ 1000) (hn : (joinS ps).length ≤ 4000000) :
    Calls Try.prog 43 #[.slice (some ⟨g, 0, none⟩) ps.length cap] w (ConcP w (joinS ps)) := by
  have H := Lib.hid h
  have HN := Lib.hid hn
  obtain ⟨i0, hi, hz0, hz1, hz2⟩ := info_parts info9
  clear h
  go_enter Try.func43, Try.ntmps43
  go_wp2
  go_loopw [3, 11] (fun u i wr => ∃ k d : Nat, k ≤ ps.length ∧ i = .int .i64 k ∧ u = .int .i64 d ∧ d + (joinS (ps.drop k)).length = (joinS ps).length ∧ w = wr) (fun _ i _ => ps.length - (intOf i).toNat)
  case atStart => exact ⟨0, 0, Nat.zero_le _, rfl, rfl, by simp, rfl⟩
  case round =>
    obtain ⟨k, d, hk, rfl, rfl, hd, rfl⟩ := hrel
    by_cases hkl : k < ps.length
    · obtain ⟨⟨A, l, c⟩, hx⟩ : ∃ p, ps[k]? = some p := ⟨_, List.getElem?_eq_getElem hkl⟩
      obtain ⟨hc, -⟩ := H.out.cell k A l c hx
      have HD : Hid (d + l.length + (joinS (ps.drop (k + 1))).length = (joinS ps).length) := Lib.hid (by rw [← hd, join_drop hx, List.length_append]; omega)
      have l1 : (0 : Int) ≤ (k : Int) := by omega
      have l2 : (k : Int) < (ps.length : Int) := by omega
      have l3 : d + l.length ≤ 4000000 := by have := HD.out; omega
      have l4 : ¬ ((d : Int) + (l.length : Int) < 0) := by omega
      clear hx hd
      go_wp2
      go_roundw
      case rel => exact ⟨k + 1, d + l.length, hkl, by go_num, by go_num, HD.out, by first | rfl | trivial⟩
      case measure => simp [intOf]; omega
    · have hd2 : d = (joinS ps).length := by rw [← hd, join_end (by omega)]; simp
      subst hd2
      clear hd
      go_wp2_with fail
      refine (grow_any (joinS ps).length w HN.out).mono ?_
      rintro e w1 ⟨c1, A1, rfl, ho, hb⟩
      have HO := Lib.hid ho
      have HB := Lib.hid hb
      clear ho hb
      go_wp2
      go_loopw [6, 27] (fun u i wr => ∃ k : Nat, k ≤ ps.length ∧ i = .int .i64 k ∧ ∃ l', OwnS wr w.heap.size u l' ∧ Below w.heap.size w wr ∧ l' ++ joinS (ps.drop k) = joinS ps) (fun _ i _ => ps.length - (intOf i).toNat)
      case atStart => exact ⟨0, Nat.zero_le _, rfl, [], HO.out, HB.out, rfl⟩
      case round =>
        obtain ⟨j, hj, rfl, l', ho', hb', hf⟩ := hrel
        have HO' := Lib.hid ho'
        have HB' := Lib.hid hb'
        have HF := Lib.hid hf
        obtain ⟨A', c', rfl, -, -⟩ := OwnS.form ho'
        clear ho' hb' hf
        by_cases hjl : j < ps.length
        · obtain ⟨⟨A, l, c⟩, hx⟩ : ∃ p, ps[j]? = some p := ⟨_, List.getElem?_eq_getElem hjl⟩
          obtain ⟨hc0, hr0⟩ := H.out.cell j A l c hx
          have hc : wr.cell? ⟨g, j, none⟩ = some (.slice A l.length c) := by rw [HB'.out.cell (p := ⟨g, j, none⟩) hg]; exact hc0
          have HR := Lib.hid (hr0.below HB'.out)
          have HD : Hid ((l' ++ l) ++ joinS (ps.drop (j + 1)) = joinS ps) := Lib.hid (by rw [← HF.out, join_drop hx, List.append_assoc])
          have HL : Hid (l'.length + l.length ≤ 4000000) := Lib.hid (by have h := congrArg List.length HD.out; simp only [List.length_append] at h; omega)
          have l1 : (0 : Int) ≤ (j : Int) := by omega
          have l2 : (j : Int) < (ps.length : Int) := by omega
          clear hx hc0 hr0
          go_wp2_with (at_builtin; refine wpList_append_any _ rfl (.tmp 31) (.tmp 32) 23 rfl w.heap.size 9 i0 _ 1 16 Try.underlying23 hi hz0 hz1 hz2 rfl (by decide) _ _ (l'.map Value.string) rfl HO'.out _ _ _ _ (l.map Value.string) rfl HR.out (strs_one _) (by have := HL.out; simp only [maxLen]; omega) (by have := HL.out; omega) HB'.out.size ?_; intro v1 w1 hown1 hgrow1 hv1; have HO1 := Lib.hid hown1; have HG1 := Lib.hid hgrow1; clear hown1 hgrow1 hv1)
          go_roundw
          case rel => exact ⟨j + 1, hjl, by go_num, l' ++ l, by
              show w1.ownsRow w.heap.size 9 1 v1 (l' ++ l).length ((l' ++ l).map Value.string)
              rw [List.length_append, List.map_append]; exact HO1.out, HB'.out.grown HG1.out HB'.out.size (fun k hk => OwnS.base HO'.out hk), HD.out⟩
          case measure => simp [intOf]; omega
        · have HF2 : Hid (l' = joinS ps) := Lib.hid (by have h := HF.out; rw [join_end (by omega), List.append_nil] at h; exact h)
          go_wp2
          go_ret
          exact ⟨_, rfl, by rw [← HF2.out]; exact HO'.out, HB'.out⟩
end Go.Proofs.Ytaigfelpecdajaa
