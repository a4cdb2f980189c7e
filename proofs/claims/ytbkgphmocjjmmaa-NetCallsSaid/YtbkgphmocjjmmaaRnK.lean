/-
  The document's Act f21 at a net, every kind of act: it comes to what ActC says.
-/
import Derived.Test.YtbkgphmocjjmmaaRnJ
import Derived.Test.YtbkgphmocjjmmaaNtZ
namespace Go.Proofs.Ytbkgphmocjjmmaa
open Go.RowKit

theorem sideN_in {z : Int} {s : Bool} (h : z = sideN s) : 1 ≤ z ∧ z ≤ 2 := by cases s <;> simp only [sideN] at h <;> omega
theorem sideB_out {z : Int} (h : sideB z = false) : z < 1 ∨ 2 < z := by simp [sideB] at h; omega
theorem take_add (S : Ns) (s : Bool) (i k : Nat) : (S.add s k 1).take s i = (S.take s i).add s k 1 := rfl
theorem move_add (S : Ns) (s : Bool) (i j : Nat) (q : Pk) : (S.add s 5 1).move s i j q = (S.move s i j q).add s 5 1 := rfl
theorem flip_add (S : Ns) (s : Bool) (i : Nat) (q : Pk) : (S.add s 6 1).flip s i q = (S.flip s i q).add s 6 1 := rfl
/-- an act at the document's net -/
theorem ract_net (g : Nat) (S : Ns) (v : Bool → Value) (l : Bool → List LP) (K : Int) (a : Ac) (A : Option Addr) (n c B : Nat) (w : World) (h : NetR w g S v l) (hk : S.ok K) (hK : K ≤ 4611686018427387900) (hsm : S.sm) (hr : RdB w B A n a.b) (hB : B ≤ w.heap.size) {S' : Ns} {num er : Int} {b : List UInt8} (ha : ActC S a S' num b er) :
    Calls Try.prog 21 #[.pointer (some ⟨g, 0, none⟩), actV a.k a.z a.i a.j (a.m.toNat : Int) A n c] w (RStepP w g v l S' num b er) := by
  obtain ⟨k, z, i, j, m, b0⟩ := a
  have hn : b0.length = n := by have := Reads.len1 hr; omega
  cases ha with
  | conn0 h1 h2 => exact ract_conn0 g S v l k z i j m.toNat A n c w h h1 h2
  | conn h1 h2 => exact ract_conn g S v l k z i j m.toNat A n c w h K hk hK h1 h2
  | bad h1 =>
    rcases h1 with h1 | h1
    · exact ract_bad1 g S v l k z i j m.toNat A n c w h h1
    · exact ract_bad2 g S v l k z i j m.toNat A n c w h h1
  | side h1 h2 h3 =>
    rcases sideB_out h3 with h4 | h4
    · exact ract_side1 g S v l k z i j m.toNat A n c w h h1 h2 h4
    · exact ract_side2 g S v l k z i j m.toNat A n c w h h1 h2 h4
  | long s h1 h2 h3 => exact ract_long g S v l k z i j m.toNat A n c w h h1 (sideN_in h2) (by rw [← hn]; exact h3)
  | down2 h1 h2 => exact ract_down2 g S v l k z i j m.toNat A n c w h h1 h2
  | down3 s h1 h2 h3 h4 => exact ract_down3 g S v l k z i j m.toNat A n c w h h1 (sideN_in h2) (by rw [← hn]; exact h3) h4
  | down4 s h1 h2 h3 h4 => exact ract_down4 g S v l k z i j m.toNat A n c w h h1 h2 (sideN_in h3) h4
  | cut h1 h2 => exact ract_cut g S v l k z i j m.toNat A n c w h K hk hK h1 h2
  | full s h1 h2 h3 h4 h5 => exact ract_full g S v l s k z i j m.toNat A n c w h h1 h2 (by rw [← hn]; exact h3) h4 h5
  | send s h1 h2 h3 h4 h5 => exact ract_send g S v l K s k z i j m.toNat A n c B b0 w h hk hK h1 h2 (by rw [← hn]; exact h3) h4 h5 hr hB
  | range s h1 h2 h3 h4 h5 => exact ract_at g S v l k z i j m.toNat A n c w h s h1 h2 h3 h4 fun W hW => rat_err g S v l s k z i j m.toNat A n c W hW (by rw [hW.len s]; exact h5)
  | deliver s i q h1 h2 h3 h4 h5 =>
    simp only at h1 h4; subst h1; subst h4
    refine ract_at g S v l 4 z i j m.toNat A n c w h s (by omega) (by omega) h2 h3 fun W hW => ?_
    obtain ⟨p, hp, rfl⟩ := hW.at_pk h5
    exact rat_4 g S v l K s i p z j m.toNat A n c W hW hk hK hp
  | drop s i q h1 h2 h3 h4 h5 =>
    simp only at h1 h4; subst h1; subst h4
    refine ract_at g S v l 5 z i j m.toNat A n c w h s (by omega) (by omega) h2 h3 fun W hW => ?_
    obtain ⟨p, hp, rfl⟩ := hW.at_pk h5
    exact rat_5 g S v l K s i p z j m.toNat A n c W hW hk hK hp
  | dfull s i q h1 h2 h3 h4 h5 h6 =>
    simp only at h1 h4; subst h1; subst h4
    refine ract_at g S v l 6 z i j m.toNat A n c w h s (by omega) (by omega) h2 h3 fun W hW => ?_
    obtain ⟨p, hp, rfl⟩ := hW.at_pk h5
    exact rat_6f g S v l s i p z j m.toNat A n c W hW hp (by rw [hW.len s]; omega)
  | double s i q h1 h2 h3 h4 h5 h6 =>
    simp only at h1 h4; subst h1; subst h4
    have hbl := hsm s _ (List.mem_of_getElem? h5)
    refine ract_at g S v l 6 z i j m.toNat A n c w h s (by omega) (by omega) h2 h3 fun W hW => ?_
    obtain ⟨p, hp, rfl⟩ := hW.at_pk h5
    exact rat_6 g S v l K s i p z j m.toNat A n c W hW hk hK hp (by rw [hW.len s]; exact h6) (by omega)
  | mrange s i q h1 h2 h3 h4 h5 h6 =>
    simp only at h1 h4; subst h1; subst h4
    refine ract_at g S v l 7 z i j m.toNat A n c w h s (by omega) (by omega) h2 h3 fun W hW => ?_
    obtain ⟨p, hp, rfl⟩ := hW.at_pk h5
    exact rat_7n g S v l s i p z j m.toNat A n c W hW hp (by rw [hW.len s]; exact h6)
  | move s i j q h1 h2 h3 h4 h5 h6 h7 =>
    simp only at h1 h4 h6; subst h1; subst h4; subst h6
    refine ract_at g S v l 7 z i j m.toNat A n c w h s (by omega) (by omega) h2 h3 fun W hW => ?_
    obtain ⟨p, hp, rfl⟩ := hW.at_pk h5
    exact rat_7 g S v l K s i j p z m.toNat A n c W hW hk hK hp (by rw [hW.len s]; exact h7)
  | frange s i q h1 h2 h3 h4 h5 h6 =>
    simp only at h1 h4; subst h1; subst h4
    refine ract_at g S v l 8 z i j m.toNat A n c w h s (by omega) (by omega) h2 h3 fun W hW => ?_
    obtain ⟨p, hp, rfl⟩ := hW.at_pk h5
    exact rat_8n g S v l s i p z j m A n c 8 W hW hp (by omega) h6
  | flip s i j q x h1 h2 h3 h4 h5 h6 h7 h8 =>
    simp only at h1 h4 h6; subst h1; subst h4; subst h6
    have hbl := hsm s _ (List.mem_of_getElem? h5)
    refine ract_at g S v l 8 z i j m.toNat A n c w h s (by omega) (by omega) h2 h3 fun W hW => ?_
    obtain ⟨p, hp, rfl⟩ := hW.at_pk h5
    exact rat_8 g S v l K s i j x m p z A n c 8 W hW hk hK hp (by omega) h7 h8 (by omega)
end Go.Proofs.Ytbkgphmocjjmmaa
