/-
  Show's contract: an oop's text.
-/
import Derived.Test.YtlopmhnakehnaaaDoorBase
import Derived.Test.YtlopmhnakehnaaaDoorNum
import Derived.Test.YtlopmhnakehnaaaDoorShelf
import Derived.Laws.Concat
import Derived.Laws.Strings
import Derived.Lib.AppendIntMem
namespace Go.Proofs.YtlopmhnakehnaaaDoor
open Go Go.RowKit

/-- the text of an oop -/
def showS (o : Int) : ByteArray := if o = 0 then ⟨#[45]⟩ else if o % 2 = 1 then ⟨(Lib.itoa (valN o)).toArray⟩ else ⟨#[64]⟩ ++ ⟨(Lib.itoa (o / 2)).toArray⟩
theorem show_any (o : Int) (w : World) (h1 : 0 ≤ o) (h2 : o ≤ 4294967295) (htab : Lib.TabIs Tryd.prog w "internal/strconv.uint64pow10" .u64 Lib.pow10Tab) :
    Calls Tryd.prog 34 #[.int .u32 o] w fun e w' => e = .returned (.string (showS o)) ∧ Below w.heap.size w w' := by
  by_cases h0 : o = 0
  · subst h0
    clear htab
    go_enter Tryd.func34, Tryd.ntmps34
    go_wp2_with (go_at_call 20; refine (kind_any 0 _ (by decide) (by decide)).mono ?_; rintro e w' ⟨rfl, rfl⟩)
    go_ret
    exact ⟨rfl, Below.refl _ _⟩
  · by_cases h3 : o % 2 = 1
    · have hk : kindN o = 1 := by unfold kindN; rw [if_neg h0, if_pos h3]
      have es : showS o = ⟨(Lib.itoa (valN o)).toArray⟩ := by unfold showS; rw [if_neg h0, if_pos h3]
      have b1 : -9223372036854775808 ≤ valN o := by unfold valN; split <;> omega
      have b2 : valN o ≤ 9223372036854775807 := by unfold valN; split <;> omega
      rw [es]
      clear es h3
      have ht := Lib.hid htab
      clear htab
      go_enter Tryd.func34, Tryd.ntmps34
      go_wp2_with (first
        | (go_at_call 20; refine (kind_any o _ h1 h2).mono ?_; rintro e w' ⟨rfl, rfl⟩; rw [hk])
        | (go_at_call 14; refine (value_yes o _ h1 h2 hk).mono ?_; rintro e w' ⟨rfl, rfl⟩)
        | (go_at_call 38; refine (Tryd.strconv_Itoa (valN o) b1 b2 _ ht.out).mono ?_; rintro e w' ⟨rfl, k, os, rfl⟩))
      go_ret
      exact ⟨rfl, Lib.below_grow _ _ (Nat.le_refl _) _ _⟩
    · have hk : kindN o = 2 := by unfold kindN; rw [if_neg h0, if_neg h3]
      have es : showS o = ⟨#[64]⟩ ++ ⟨(Lib.itoa (o / 2)).toArray⟩ := by unfold showS; rw [if_neg h0, if_neg h3]
      have b1 : -9223372036854775808 ≤ o / 2 := by omega
      have b2 : o / 2 ≤ 9223372036854775807 := by omega
      have b3 : ¬ 9223372036854775807 < 1 + (Lib.itoa (o / 2)).length := by
        have := (itoa_len (n := o / 2) (by omega) (by omega)).1
        omega
      rw [es]
      clear es h3
      have ht := Lib.hid htab
      clear htab
      go_enter Tryd.func34, Tryd.ntmps34
      go_wp2_with (first
        | (go_at_call 20; refine (kind_any o _ h1 h2).mono ?_; rintro e w' ⟨rfl, rfl⟩; rw [hk])
        | (go_at_call 38; refine (Tryd.strconv_Itoa (o / 2) b1 b2 _ ht.out).mono ?_; rintro e w' ⟨rfl, k, os, rfl⟩))
      go_ret
      exact ⟨rfl, Lib.below_grow _ _ (Nat.le_refl _) _ _⟩
end Go.Proofs.YtlopmhnakehnaaaDoor
