/-
  Contracts of the reader's text and done, and of the document's Text.
-/
import Derived.Test.YtjhkfpemcplaaaaSgn
namespace Go.Proofs.Ytjhkfpemcplaaaa
open Go.RowKit

/-- a text as the program reads it, what is left, whether something was bad -/
def txtP (l : List UInt8) (b : Bool) : List UInt8 × List UInt8 × Bool :=
  if 512 < (cnt l b).1 then ([], (cnt l b).2.1, true)
  else if (cnt l b).1 ≤ (cnt l b).2.1.length then ((cnt l b).2.1.take (cnt l b).1, (cnt l b).2.1.drop (cnt l b).1, (cnt l b).2.2)
  else ([], [], true)
/-- as the document does -/
def txtD (l : List UInt8) (b : Bool) : List UInt8 × List UInt8 × Bool :=
  if (cnt l b).2.2 = true ∨ 512 < (cnt l b).1 ∨ (cnt l b).2.1.length < (cnt l b).1 then ([], (cnt l b).2.1, true)
  else ((cnt l b).2.1.take (cnt l b).1, (cnt l b).2.1.drop (cnt l b).1, false)
def TxtPost (w : World) (T B g : Nat) (r : List UInt8 × List UInt8 × Bool) (e : Ending) (w' : World) : Prop :=
  e = .returned (.string ⟨r.1.toArray⟩) ∧ PartIs w' T B g r.2.1 r.2.2 ∧ w.grownBy w' (some g)

set_option maxRecDepth 20000 in
theorem txt_any (B g : Nat) (l : List UInt8) (b : Bool) (w : World) (h : PartIs w 151 B g l b) : Calls Try.prog 95 #[.pointer (some ⟨g, 0, none⟩)] w (TxtPost w 151 B g (txtP l b)) := by
  have HC := Lib.hid (cnt_any B g l b w h)
  have hlt := cnt_lt l b
  unfold CntPost at HC
  unfold TxtPost txtP
  generalize cnt l b = r at HC hlt ⊢
  obtain ⟨m, l', b'⟩ := r
  dsimp only at HC hlt ⊢
  clear h
  by_cases h5 : 512 < m
  · rw [if_pos h5]
    have d : decide ((512 : Int) < (m : Int)) = true := by simp; omega
    go_enter Try.func95, Try.ntmps95
    go_wp2_with fail
    refine HC.out.mono ?_
    rintro e w1 ⟨rfl, hp1, hg1⟩
    clear HC
    obtain ⟨c1, f1⟩ := hp1.cells
    have HP := Lib.hid (And.intro hp1.setBad (only_setCell (p := ⟨g, 1, none⟩) hg1 (.inl rfl) (.bool true)))
    clear hp1 hg1
    go_wp2
    go_ret
    exact ⟨rfl, HP.out⟩
  · rw [if_neg h5]
    have d : decide ((512 : Int) < (m : Int)) = false := by simp; omega
    by_cases hm : m ≤ l'.length
    · rw [if_pos hm]
      go_enter Try.func95, Try.ntmps95
      go_wp2_with fail
      refine HC.out.mono ?_
      rintro e w1 ⟨rfl, hp1, hg1⟩
      clear HC
      have hk := Lib.hid (take_ok B g m l' b' w1 hp1 hm)
      clear hp1
      go_wp2_with fail
      refine hk.out.mono ?_
      rintro e w2 ⟨A, c, rfl, -, hr, hp, hg⟩
      have HP := Lib.hid (And.intro hp (hg1.trans hg))
      have cv := run_string_of (P := Try.prog) (c := c) w2 37 9 5 hr Try.underlying37 Try.underlying5 Try.underlying9
      clear hp hk hg hg1 hr
      go_wp2
      go_ret
      exact ⟨rfl, HP.out⟩
    · rw [if_neg hm]
      go_enter Try.func95, Try.ntmps95
      go_wp2_with fail
      refine HC.out.mono ?_
      rintro e w1 ⟨rfl, hp1, hg1⟩
      clear HC
      have hk := Lib.hid (take_bad B g m l' b' w1 hp1 (by omega))
      clear hp1
      go_wp2_with fail
      refine hk.out.mono ?_
      rintro e w2 ⟨A, c, rfl, -, hr, hp, hg⟩
      have HP := Lib.hid (And.intro hp (hg1.trans hg))
      have cv := run_string_of (P := Try.prog) (c := c) w2 37 9 5 hr Try.underlying37 Try.underlying5 Try.underlying9
      clear hp hk hg hg1 hr
      go_wp2
      go_ret
      exact ⟨rfl, HP.out⟩

set_option maxRecDepth 20000 in
theorem done_any (B g : Nat) (l : List UInt8) (b : Bool) (w : World) (h : PartIs w 151 B g l b) : Calls Try.prog 97 #[.pointer (some ⟨g, 0, none⟩)] w fun e w' => e = .returned (.bool (!b && l.isEmpty)) ∧ ∃ k, w' = w.drewN k := by
  obtain ⟨h1, h2, A, c, hb, hr, hc⟩ := h
  have c0 := hb.cell 0
  have c1 := hb.cell 1
  simp at c0 c1
  cases b
  · have e : (!false && l.isEmpty) = decide ((l.length : Int) = 0) := by cases l <;> simp <;> omega
    rw [e]
    go_enter Try.func97, Try.ntmps97
    go_wp2
    go_ret
    exact ⟨ret_bool (by rw [Bool.eq_iff_iff]; simp), 0, rfl⟩
  · have e : (!true && l.isEmpty) = false := by simp
    rw [e]
    go_enter Try.func97, Try.ntmps97
    go_wp2
    go_ret
    exact ⟨rfl, 0, rfl⟩
theorem take_endT {T B g n c c' : Nat} {l : List UInt8} {b : Bool} {w : World} {A A' : Option Addr} (h1 : B ≤ g) (h2 : l.length ≤ 9223372036854775807) (hb : Blk w g T #[.slice A l.length c, .bool b])
    (hr : RdB w B A l.length l) (hc : l.length ≤ c) (hn : n ≤ l.length) (hA : A' = if c = n then A else A.map (·.add n)) (hc' : c' = c - n) :
    TakePost w T B g n (l.take n) (l.drop n) b (.returned (.slice A n c)) (w.setCell ⟨g, 0, none⟩ (.slice A' (l.length - n) c')) := by
  have hcut := Reads.cut hr hn hc
  have hcut' : RdB w B A' (l.drop n).length (l.drop n) := by
    rw [hA, List.length_drop]
    show Reads w B 1 _ _ ((l.drop n).map bv)
    rw [List.map_drop]
    simpa using hcut
  have hne : ∀ B', B' ≤ g → B' ≤ (⟨g, 0, none⟩ : Addr).block := fun _ h => h
  have htake : RdB w B A n (l.take n) := by
    refine ⟨by simp; omega, fun h0 => ?_⟩
    obtain ⟨ad, e, hbk, hcell⟩ := hr.2 (by omega)
    refine ⟨ad, e, hbk, fun j u hu => hcell j u ?_⟩
    rw [List.map_take, List.getElem?_take] at hu
    split at hu
    · exact hu
    · cases hu
  refine ⟨A, c, rfl, by simp; omega, htake.setCell (hne B h1) _, ⟨h1, by simp; omega, A', c', ?_, hcut'.setCell (hne B h1) _, by simp; omega⟩, only_setCell (p := ⟨g, 0, none⟩) (World.grownBy.refl w _) (.inl rfl) _⟩
  have h3 := hb.set_ 0 (.slice A' (l.length - n) c')
  rw [List.length_drop]
  simpa using h3

set_option maxRecDepth 20000 in
theorem rtxt_any (B g : Nat) (l : List UInt8) (b : Bool) (w : World) (h : PartIs w 110 B g l b) : Calls Try.prog 62 #[.pointer (some ⟨g, 0, none⟩)] w (TxtPost w 110 B g (txtD l b)) := by
  have HC := Lib.hid (rcnt_any B g l b w h)
  have hlt := cnt_lt l b
  unfold CntPost at HC
  unfold TxtPost txtD
  generalize cnt l b = r at HC hlt ⊢
  obtain ⟨m, l', b'⟩ := r
  dsimp only at HC hlt ⊢
  clear h
  by_cases h5 : b' = true ∨ 512 < m ∨ l'.length < m
  · rw [if_pos h5]
    go_enter Try.func62, Try.ntmps62
    go_wp2_with fail
    refine HC.out.mono ?_
    rintro e w1 ⟨rfl, hp1, hg1⟩
    clear HC
    obtain ⟨h1, h2, A, c, hb, hr, hc⟩ := id hp1
    have c0 := hb.cell 0
    have c1 := hb.cell 1
    have f1 := hb.frozen 1
    simp at c0 c1
    have HP := Lib.hid (And.intro hp1.setBad (only_setCell (p := ⟨g, 1, none⟩) hg1 (.inl rfl) (.bool true)))
    have hl : IntKind.u64.wrap (l'.length : Int) = (l'.length : Int) := by rw [IntKind.wrap_u64]; omega
    clear hp1 hg1 hb hr hc
    cases b'
    · by_cases h6 : 512 < m
      · have d : decide ((512 : Int) < (m : Int)) = true := by simp; omega
        clear h5
        go_wp2
        go_ret
        exact ⟨rfl, HP.out⟩
      · have h7 : l'.length < m := by rcases h5 with h5 | h5 | h5 <;> first | exact absurd h5 (by decide) | omega
        have d : decide ((512 : Int) < (m : Int)) = false := by simp; omega
        have d2 : decide ((l'.length : Int) < (m : Int)) = true := by simp; omega
        clear h5
        go_wp2
        go_ret
        exact ⟨rfl, HP.out⟩
    · clear h5
      go_wp2
      go_ret
      exact ⟨rfl, HP.out⟩
  · rw [if_neg h5]
    obtain ⟨e1, e2, e3⟩ : b' = false ∧ m ≤ 512 ∧ m ≤ l'.length := by
      refine ⟨by cases b' <;> simp_all, by omega, by omega⟩
    subst e1
    clear h5
    go_enter Try.func62, Try.ntmps62
    go_wp2_with fail
    refine HC.out.mono ?_
    rintro e w1 ⟨rfl, hp1, hg1⟩
    clear HC
    obtain ⟨h1, h2, A, c, hb, hr, hc⟩ := hp1
    have c0 := hb.cell 0
    have c1 := hb.cell 1
    have f0 := hb.frozen 0
    have f1 := hb.frozen 1
    simp at c0 c1
    have hl : IntKind.u64.wrap (l'.length : Int) = (l'.length : Int) := by rw [IntKind.wrap_u64]; omega
    have d : decide ((512 : Int) < (m : Int)) = false := by simp; omega
    have d2 : decide ((l'.length : Int) < (m : Int)) = false := by simp; omega
    have hrt : RdB w1 B A m (l'.take m) := by
      refine ⟨by simp; omega, fun h0 => ?_⟩
      obtain ⟨ad, e, hbk, hcell⟩ := hr.2 (by omega)
      refine ⟨ad, e, hbk, fun j u hu => hcell j u ?_⟩
      rw [List.map_take, List.getElem?_take] at hu
      split at hu
      · exact hu
      · cases hu
    have cv := run_string_of (P := Try.prog) (c := c) w1 37 9 5 hrt Try.underlying37 Try.underlying5 Try.underlying9
    have hk : Hid (∀ A' c', (A' = if c = m then A else A.map (·.add m)) → c' = c - m → TakePost w1 110 B g m (l'.take m) (l'.drop m) false (.returned (.slice A m c)) (w1.setCell ⟨g, 0, none⟩ (.slice A' (l'.length - m) c'))) :=
      Lib.hid fun _ _ e1 e2 => take_endT h1 h2 hb hr hc e3 e1 e2
    clear hrt hr hb
    by_cases hcm : c = m
    · subst hcm
      have h3 := Lib.hid (hk.out A 0 (by simp) (by simp))
      clear hk
      go_wp2
      go_ret
      obtain ⟨A2, c2, -, -, -, hp, hg⟩ := h3.out
      rw [show l'.length - c = 0 from by omega] at hp hg
      exact ⟨rfl, hp, hg1.trans hg⟩
    · have h3 := Lib.hid (hk.out (A.map (·.add m)) (c - m) (by rw [if_neg hcm]) rfl)
      clear hk
      go_wp2
      go_ret
      obtain ⟨A2, c2, -, -, -, hp, hg⟩ := h3.out
      exact ⟨rfl, hp, hg1.trans hg⟩
end Go.Proofs.Ytjhkfpemcplaaaa
