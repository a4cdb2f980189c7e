/-
  Contracts of the two readers: the program's part (take, byte, count) and the document's Source (Byte, Count).
-/
import Derived.Test.YtjhkfpemcplaaaaDec
import Derived.Test.YtjhkfpemcplaaaaCounts
namespace Go.Proofs.Ytjhkfpemcplaaaa
open Go.RowKit

/-- block g is a reader: what is left reads l, below block B; b: something was bad -/
def PartIs (w : World) (T B g : Nat) (l : List UInt8) (b : Bool) : Prop :=
  B ≤ g ∧ l.length ≤ 9223372036854775807 ∧ ∃ A c, Blk w g T #[.slice A l.length c, .bool b] ∧ RdB w B A l.length l ∧ l.length ≤ c
theorem PartIs.grown {w w' : World} {T B g : Nat} {l : List UInt8} {b : Bool} {row : Option Nat} (h : PartIs w T B g l b) (hg : w.grownBy w' row) (hr : ∀ k, row = some k → B ≤ k) (hne : row ≠ some g) : PartIs w' T B g l b := by
  obtain ⟨h1, h2, A, c, hb, hr', hc⟩ := h
  have := hb.lt
  exact ⟨h1, h2, A, c, hb.grown hg (fun e => hne e.symm), hr'.grown hg (by omega) hr, hc⟩

def TakePost (w : World) (T B g : Nat) (m : Nat) (got rest : List UInt8) (b : Bool) (e : Ending) (w' : World) : Prop :=
  ∃ A c, e = .returned (.slice A m c) ∧ m = got.length ∧ RdB w' B A m got ∧ PartIs w' T B g rest b ∧ w.grownBy w' (some g)

set_option maxHeartbeats 400000 in
theorem take_bad (B g n : Nat) (l : List UInt8) (b : Bool) (w : World) (h : PartIs w 151 B g l b) (hn : l.length < n) :
    Calls Try.prog 93 #[.pointer (some ⟨g, 0, none⟩), .int .i64 n] w (TakePost w 151 B g 0 [] [] true) := by
  obtain ⟨h1, h2, A, c, hb, hr, hc⟩ := h
  have c0 := hb.cell 0
  have c1 := hb.cell 1
  have f0 := hb.frozen 0
  have f1 := hb.frozen 1
  simp at c0 c1
  go_enter Try.func93, Try.ntmps93
  go_wp2
  go_ret
  refine ⟨none, 0, rfl, rfl, Reads.none_, ⟨h1, by simp, none, 0, ?_, Reads.none_, by simp⟩, ?_⟩
  · have h3 := (hb.set_ 1 (.bool true)).set_ 0 (.slice none 0 0)
    simpa using h3
  · exact only_setCell (p := ⟨g, 0, none⟩) (only_setCell (p := ⟨g, 1, none⟩) (World.grownBy.refl w _) (.inl rfl) _) (.inl rfl) _
theorem take_end {B g n c c' : Nat} {l : List UInt8} {b : Bool} {w : World} {A A' : Option Addr} (h1 : B ≤ g) (h2 : l.length ≤ 9223372036854775807) (hb : Blk w g 151 #[.slice A l.length c, .bool b])
    (hr : RdB w B A l.length l) (hc : l.length ≤ c) (hn : n ≤ l.length) (hA : A' = if c = n then A else A.map (·.add n)) (hc' : c' = c - n) :
    TakePost w 151 B g n (l.take n) (l.drop n) b (.returned (.slice A n c)) (w.setCell ⟨g, 0, none⟩ (.slice A' (l.length - n) c')) := by
  have hcut := Reads.cut hr hn hc
  have hcut' : RdB w B A' (l.drop n).length (l.drop n) := by
    rw [hA, List.length_drop]
    show Reads w B 1 _ _ ((l.drop n).map bv)
    rw [List.map_drop]
    simpa using hcut
  have hne : ∀ B', B' ≤ g → B' ≤ (⟨g, 0, none⟩ : Addr).block := fun _ h => h
  have htake : RdB w B A n (l.take n) := by
    refine ⟨by simp; omega, fun h0 => ?_⟩
    obtain ⟨ad, e, hbk, hcell⟩ := hr.2 (by omega)
    refine ⟨ad, e, hbk, fun j u hu => hcell j u ?_⟩
    rw [List.map_take, List.getElem?_take] at hu
    split at hu
    · exact hu
    · cases hu
  refine ⟨A, c, rfl, by simp; omega, htake.setCell (hne B h1) _, ⟨h1, by simp; omega, A', c', ?_, hcut'.setCell (hne B h1) _, by simp; omega⟩, only_setCell (p := ⟨g, 0, none⟩) (World.grownBy.refl w _) (.inl rfl) _⟩
  have h3 := hb.set_ 0 (.slice A' (l.length - n) c')
  rw [List.length_drop]
  simpa using h3
set_option maxHeartbeats 400000 in
theorem take_ok (B g n : Nat) (l : List UInt8) (b : Bool) (w : World) (h : PartIs w 151 B g l b) (hn : n ≤ l.length)  :
    Calls Try.prog 93 #[.pointer (some ⟨g, 0, none⟩), .int .i64 n] w (TakePost w 151 B g n (l.take n) (l.drop n) b) := by
  obtain ⟨h1, h2, A, c, hb, hr, hc⟩ := h
  have c0 := hb.cell 0
  have c1 := hb.cell 1
  have f0 := hb.frozen 0
  have f1 := hb.frozen 1
  simp at c0 c1
  have hk : Hid (∀ A' c', (A' = if c = n then A else A.map (·.add n)) → c' = c - n → TakePost w 151 B g n (l.take n) (l.drop n) b (.returned (.slice A n c)) (w.setCell ⟨g, 0, none⟩ (.slice A' (l.length - n) c'))) :=
    Lib.hid fun _ _ e1 e2 => take_end h1 h2 hb hr hc hn e1 e2
  by_cases hcn : c = n
  · subst hcn
    go_enter Try.func93, Try.ntmps93
    go_wp2
    go_ret
    have h3 := hk.out A 0 (by simp) (by simp)
    rw [show l.length - c = 0 from by omega] at h3
    exact h3
  · go_enter Try.func93, Try.ntmps93
    go_wp2
    go_ret
    exact hk.out _ _ (by rw [if_neg hcn]) rfl

def BytePost (k : IntKind) (w : World) (T B g : Nat) (l : List UInt8) (b : Bool) (e : Ending) (w' : World) : Prop :=
  e = .returned (.int k (byteV l : Nat)) ∧ PartIs w' T B g l.tail (b || l.isEmpty) ∧ w.grownBy w' (some g)

set_option maxHeartbeats 400000 in
theorem byte_any (B g : Nat) (l : List UInt8) (b : Bool) (w : World) (h : PartIs w 151 B g l b) :
    Calls Try.prog 89 #[.pointer (some ⟨g, 0, none⟩)] w (BytePost .u8 w 151 B g l b) := by
  cases l with
  | nil =>
    have hk := Lib.hid (take_bad B g 1 [] b w h (by simp))
    clear h
    go_enter Try.func89, Try.ntmps89
    go_wp2_with fail
    refine hk.out.mono ?_
    rintro e w1 ⟨A, c, rfl, -, hr, hp, hg⟩
    have HP := Lib.hid hp
    clear hp hk
    go_wp2
    go_ret
    exact ⟨rfl, by simpa using HP.out, hg⟩
  | cons x l =>
    have hk := Lib.hid (take_ok B g 1 (x :: l) b w h (by simp))
    clear h
    go_enter Try.func89, Try.ntmps89
    go_wp2_with fail
    refine hk.out.mono ?_
    rintro e w1 ⟨A, c, rfl, -, hr, hp, hg⟩
    have HP := Lib.hid hp
    clear hp hk
    obtain ⟨ad, y, rfl, hb, hx, hc⟩ := Reads.byte (bs := [x]) hr (k := 0) (by omega)
    simp at hx
    subst hx
    have hc' : w1.cell? ad = some (.int .u8 (x.toNat : Int)) := by simpa [Addr.add] using hc
    go_wp2
    go_ret
    exact ⟨rfl, by simpa using HP.out, hg⟩

set_option maxHeartbeats 400000 in
theorem rbyte_any (B g : Nat) (l : List UInt8) (b : Bool) (w : World) (h : PartIs w 110 B g l b) :
    Calls Try.prog 45 #[.pointer (some ⟨g, 0, none⟩)] w (BytePost .i64 w 110 B g l b) := by
  obtain ⟨h1, h2, A, c, hb, hr, hc⟩ := h
  have c0 := hb.cell 0
  have c1 := hb.cell 1
  have f0 := hb.frozen 0
  have f1 := hb.frozen 1
  simp at c0 c1
  cases l with
  | nil =>
    go_enter Try.func45, Try.ntmps45
    go_wp2
    go_ret
    refine ⟨rfl, ⟨h1, by simp, A, c, ?_, hr.setCell (p := ⟨g, 1, none⟩) h1 _, by simp⟩, only_setCell (p := ⟨g, 1, none⟩) (World.grownBy.refl w _) (.inl rfl) _⟩
    have h3 := hb.set_ 1 (.bool true)
    simpa using h3
  | cons x l =>
    obtain ⟨ad, y, rfl, hbk, hx, hcell⟩ := Reads.byte hr (k := 0) (by simp)
    simp at hx
    subst hx
    have hc' : w.cell? ad = some (.int .u8 (x.toNat : Int)) := by simpa [Addr.add] using hcell
    have hk : Hid (∀ A' c', (A' = if c = 1 then some ad else some (ad.add 1)) → c' = c - 1 → BytePost .i64 w 110 B g (x :: l) b (.returned (.int .i64 (x.toNat : Int))) (w.setCell ⟨g, 0, none⟩ (.slice A' l.length c'))) := Lib.hid fun A' c' e1 e2 => by
      have hcut := Reads.cut hr (k := 1) (by simp) hc
      have hcut' : RdB w B A' l.length l := by
        rw [e1]
        simpa using hcut
      refine ⟨rfl, ⟨h1, by simp at h2 ⊢; omega, A', c', ?_, hcut'.setCell (p := ⟨g, 0, none⟩) h1 _, by simp at hc ⊢; omega⟩, only_setCell (p := ⟨g, 0, none⟩) (World.grownBy.refl w _) (.inl rfl) _⟩
      have h3 := hb.set_ 0 (.slice A' l.length c')
      simpa using h3
    simp at hc h2 c0
    clear hcell hr hb
    have hx8 := u8_lt x
    by_cases hcn : c = 1
    · subst hcn
      obtain rfl : l = [] := List.eq_nil_of_length_eq_zero (by omega)
      have hk2 := Lib.hid (hk.out (some ad) 0 (by simp) (by simp))
      clear hk
      go_enter Try.func45, Try.ntmps45
      go_wp2
      go_ret
      exact hk2.out
    · go_enter Try.func45, Try.ntmps45
      go_wp2
      go_ret
      exact hk.out _ _ (by simp [Addr.add, hcn]) rfl
end Go.Proofs.Ytjhkfpemcplaaaa
