/-
  The walk of SourceLexes: both lexers tell the same.
-/
import Derived.Test.YtaigfelpecdajaaRefF
namespace Go.Proofs.Ytaigfelpecdajaa
open Go.RowKit

theorem tks_get : ∀ {l : List Lx.Tk} {j : Nat} {t : Lx.Tk}, l[j]? = some t → ∀ i, i < 3 → (tksC l)[j * 3 + i]? = (tkC t)[i]?
  | a :: l, 0, t, h, i, hi => by
    obtain rfl : a = t := by simpa using h
    rw [show tksC (a :: l) = tkC a ++ tksC l from rfl, Nat.zero_mul, Nat.zero_add, List.getElem?_append_left (by simpa [tkC] using hi)]
  | a :: l, j + 1, t, h, i, hi => by
    have ih := tks_get (l := l) (j := j) (t := t) (by simpa using h) i hi
    rw [show tksC (a :: l) = tkC a ++ tksC l from rfl, List.getElem?_append_right (by simp [tkC]; omega)]
    rw [← ih]
    congr 1
    simp [tkC]; omega
  | [], j, t, h, i, hi => by simp at h
theorem OwnT.at_ {w : World} {base g c : Nat} {l : List Lx.Tk} (h : OwnT w base (.slice (some ⟨g, 0, none⟩) l.length c) l) {j : Nat} {k p : Nat} {t : List UInt8} (hj : l[j]? = some (k, t, p)) :
    w.cell? ⟨g, j * 3, none⟩ = some (.int .i64 (k : Int)) ∧ w.cell? ⟨g, j * 3 + 1, none⟩ = some (.string ⟨t.toArray⟩) ∧ w.cell? ⟨g, j * 3 + 2, none⟩ = some (.int .i64 (p : Int)) := by
  have hl : j < l.length := by
    rcases Nat.lt_or_ge j l.length with h1 | h1
    · exact h1
    · rw [List.getElem?_eq_none h1] at hj; cases hj
  have key : ∀ i, i < 3 → w.cell? ⟨g, j * 3 + i, none⟩ = (tkC (k, t, p))[i]? := fun i hi => by
    rw [World.ownsRow.cellAt h (j * 3 + i) (by omega), tks_get hj i hi]
  exact ⟨key 0 (by omega), key 1 (by omega), key 2 (by omega)⟩
set_option maxRecDepth 20000 in
set_option maxHeartbeats 4000000 in
theorem lexes_any (s : ByteArray) (w : World) (hm : s.size ≤ 9223372036854775807) : Calls Try.prog 4 #[.string s] w fun e w' => e = .returned (.bool true) ∧ Below w.heap.size w w' := by
  have H1 := Lib.hid (lex_any s w hm)
  have H2 := Lib.hid fun w => rlex_any s w hm
  go_enter Try.func4, Try.ntmps4
  go_wp2_with fail
  refine H1.out.mono ?_
  rintro e w1 ⟨hb1, v1, rfl, ho1⟩
  have HB1 := Lib.hid hb1
  have HO1 := Lib.hid ho1
  clear hb1 ho1 H1
  go_wp2_with fail
  refine (H2.out w1).mono ?_
  rintro e w2 ⟨hb2, v2, rfl, ho2⟩
  have HO2 := Lib.hid ho2
  have HO1' : Hid (OwnT w2 w.heap.size v1 (Lx.lexT s.data.toList).1) := Lib.hid (World.ownsRow.kept HO1.out (only_of_below hb2 none) (by cases v1.ownBlock <;> simp))
  have HB2 := Lib.hid (bnext HB1.out hb2)
  have HLEN : Hid ((Lx.lexT s.data.toList).1.length ≤ 9223372036854775807) := Lib.hid (by
    obtain ⟨A, c, _, h1, h2⟩ := OwnT.form HO1'.out
    simp only [maxLen] at h2
    omega)
  clear hb2 ho2 HO1 HB1 H2
  generalize Lx.lexT s.data.toList = R at *
  obtain ⟨T, p, er⟩ := R
  have hlen := HLEN.out
  have HO1 : Hid (OwnT w2 w.heap.size v1 T) := HO1'
  have HO2 : Hid (OwnT w2 w1.heap.size v2 T) := HO2
  obtain ⟨A1, c1, rfl, _, _⟩ := OwnT.form HO1.out
  obtain ⟨A2, c2, rfl, _, _⟩ := OwnT.form HO2.out
  dsimp only at hlen ⊢
  clear HLEN HO1'
  go_wp2
  go_loopw [9] (fun e wr => ∃ j : Nat, j ≤ T.length ∧ e = .int .i64 j ∧ Below w2.heap.size w2 wr) (fun e _ => T.length - (intOf e).toNat)
  case atStart => exact ⟨0, Nat.zero_le _, rfl, Below.refl _ _⟩
  case round =>
    obtain ⟨j, hj, rfl, hb⟩ := hrel
    have HB := Lib.hid hb
    by_cases hjl : j < T.length
    · have HO3 : OwnT wr w.heap.size (.slice A1 T.length c1) T := World.ownsRow.kept HO1.out (only_of_below hb none) (by cases (Value.slice A1 T.length c1).ownBlock <;> simp)
      have HO4 : OwnT wr w1.heap.size (.slice A2 T.length c2) T := World.ownsRow.kept HO2.out (only_of_below hb none) (by cases (Value.slice A2 T.length c2).ownBlock <;> simp)
      obtain ⟨g1, cp1, e1, _⟩ := World.ownsRow.form HO3 (by omega)
      obtain ⟨g2, cp2, e2, _⟩ := World.ownsRow.form HO4 (by omega)
      injection e1 with e1 _ e1c
      injection e2 with e2 _ e2c
      subst e1 e1c e2 e2c
      have hx : T[j]? = some T[j] := List.getElem?_eq_getElem hjl
      obtain ⟨⟨k, t, p'⟩, hkt⟩ : ∃ q, T[j] = q := ⟨_, rfl⟩
      rw [hkt] at hx
      obtain ⟨a1, a2, a3⟩ := HO3.at_ hx
      obtain ⟨b1, b2, b3⟩ := HO4.at_ hx
      have l1 : (0 : Int) ≤ (j : Int) := by omega
      have l2 : (j : Int) < (T.length : Int) := by omega
      clear HO3 HO4 hx hkt hb
      go_wp2
      go_quiet (fail)
      go_wp2
      go_roundw
      case rel => exact ⟨j + 1, hjl, by go_num, below_drewN HB.out nq⟩
      case measure => simp [intOf]; omega
    · go_wp2
      go_ret
      exact ⟨rfl, bnext HB2.out HB.out⟩
end Go.Proofs.Ytaigfelpecdajaa
