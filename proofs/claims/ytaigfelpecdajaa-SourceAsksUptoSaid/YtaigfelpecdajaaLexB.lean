/-
  The walk of the lexer's put: a token behind the others.
-/
import Derived.Test.YtaigfelpecdajaaLexA
import Derived.Deep.RegionLaw
import Derived.Deep.RegionLawGrows
namespace Go.Proofs.Ytaigfelpecdajaa
open Go.RowKit

/-- a token's cells -/
def tkC (t : Lx.Tk) : List Value := [.int .i64 (t.1 : Int), .string ⟨t.2.1.toArray⟩, .int .i64 (t.2.2 : Int)]
def tksC (l : List Lx.Tk) : List Value := l.flatMap tkC
theorem tksC_len (l : List Lx.Tk) : (tksC l).length = l.length * 3 := by
  induction l with
  | nil => rfl
  | cons a l ih => simp only [tksC, List.flatMap_cons, List.length_append, List.length_cons] at ih ⊢; rw [ih]; simp [tkC]; omega
theorem tkC_one (t : Lx.Tk) : ∀ u ∈ tkC t, u.oneCell' = true := by
  intro u hu
  simp only [tkC, List.mem_cons, List.not_mem_nil, or_false] at hu
  rcases hu with rfl | rfl | rfl <;> rfl
abbrev OwnT (w : World) (base : Nat) (v : Value) (l : List Lx.Tk) : Prop := w.ownsRow base 44 3 v l.length (tksC l)
theorem info44 : (Try.prog.info? 44).map (fun i => (i.zero, i.size, i.bytes)) = some (some (.agg #[.int .i64 0, .string ⟨#[]⟩, .int .i64 0]), 3, 32) := by kernel_rfl
/-- a lexer: its text, its place, its tokens -/
def LxS (w : World) (base g : Nat) (s : ByteArray) (at_ : Int) (v : Value) (l : List Lx.Tk) : Prop :=
  Blk w g 54 #[.string s, .int .i64 at_, v] ∧ OwnT w base v l ∧ base ≤ g
theorem OwnT.form {w : World} {base : Nat} {v : Value} {l : List Lx.Tk} (h : OwnT w base v l) : ∃ A c, v = .slice A l.length c ∧ l.length ≤ c ∧ c ≤ maxLen := by
  rcases h.2 with ⟨rfl, h0⟩ | ⟨g, cap, cur, rfl, _, _, hn, hm, _⟩
  · have := tksC_len l
    rw [h0] at this
    have h1 : l.length = 0 := by simp at this; omega
    exact ⟨none, 0, by rw [h1], by omega, by simp⟩
  · exact ⟨_, cap, rfl, hn, hm⟩
theorem LxS.lxr {w : World} {base g : Nat} {s : ByteArray} {at_ : Int} {v : Value} {l : List Lx.Tk} (h : LxS w base g s at_ v l) : Lxr w g s := ⟨h.1.cell 0, h.1.lt⟩
theorem LxS.below {w w' : World} {base g : Nat} {s : ByteArray} {at_ : Int} {v : Value} {l : List Lx.Tk} (h : LxS w base g s at_ v l) (hb : Below w.heap.size w w') : LxS w' base g s at_ v l :=
  ⟨h.1.below hb h.1.lt, World.ownsRow.kept h.2.1 (only_of_below hb none) (by cases v.ownBlock <;> simp), h.2.2⟩
theorem Reads.builtN (w : World) (t : TypeId) (cs : List Value) (n size : Nat) (h : cs.length = n * size) : Reads (w.alloc (.cells cs.toArray t)) (w.heap.size + 1) size (some ⟨w.heap.size, 0, none⟩) n cs :=
  ⟨h, fun hn => by
    rcases Nat.eq_zero_or_pos cs.length with h0 | h0
    · obtain rfl : cs = [] := List.eq_nil_of_length_eq_zero h0
      exact ⟨_, rfl, by simp, fun j u hu => by simp at hu⟩
    · obtain ⟨ad, e, hb, hc⟩ := (Reads.built w t cs).2 h0
      exact ⟨ad, e, hb, hc⟩⟩
theorem OwnT.snoc {w : World} {base : Nat} {v : Value} {l : List Lx.Tk} {t : Lx.Tk} (h : w.ownsRow base 44 3 v (l.length + 1) (tksC l ++ tkC t)) : OwnT w base v (l ++ [t]) := by
  show w.ownsRow base 44 3 v (l ++ [t]).length (tksC (l ++ [t]))
  rw [List.length_append]
  have e : tksC (l ++ [t]) = tksC l ++ tkC t := by simp [tksC]
  rw [e]
  exact h
theorem own_baseT {w : World} {base k n size : Nat} {e : TypeId} {v : Value} {xs : List Value} (h : w.ownsRow base e size v n xs) (hk : v.ownBlock = some k) : base ≤ k := by
  rcases h.2 with ⟨rfl, _⟩ | ⟨g', cap, cur, rfl, hb, _⟩
  · cases hk
  · have : g' = k := by simpa [Value.ownBlock] using hk
    omega
/-- what stands behind the store of the slice with a token more -/
theorem LxS.put {w w1 : World} {base g : Nat} {s : ByteArray} {at_ : Int} {v : Value} {l : List Lx.Tk} {o : Obj} (h : LxS w base g s at_ v l) (hb : base ≤ w.heap.size) (hg : (w.alloc o).drew.grownBy w1 v.ownBlock) :
    Blk w1 g 54 #[.string s, .int .i64 at_, v] ∧ Below base w w1 := by
  have hne : some g ≠ v.ownBlock := fun e => own_blk_ne h.2.1 h.1 (by decide) e.symm
  refine ⟨((h.1.alloc o).drew).grown hg hne, ?_⟩
  exact (((Below.refl base w).alloc hb o).drew).grown hg (by simp; omega) fun k hk => own_baseT h.2.1 hk
theorem LxS.done {w w1 : World} {base g : Nat} {s : ByteArray} {at_ en : Int} {v v1 : Value} {l : List Lx.Tk} {t : Lx.Tk} (h : Blk w1 g 54 #[.string s, .int .i64 at_, v] ∧ Below base w w1) (hbg : base ≤ g)
    (ho : w1.ownsRow base 44 3 v1 (l.length + 1) (tksC l ++ tkC t)) : Below base w ((w1.setCell ⟨g, 2, none⟩ v1).setCell ⟨g, 1, none⟩ (.int .i64 en)) ∧ ∃ v', LxS ((w1.setCell ⟨g, 2, none⟩ v1).setCell ⟨g, 1, none⟩ (.int .i64 en)) base g s en v' (l ++ [t]) := by
  have h2 : Blk ((w1.setCell ⟨g, 2, none⟩ v1).setCell ⟨g, 1, none⟩ (.int .i64 en)) g 54 #[.string s, .int .i64 en, v1] := (h.1.set_ 2 v1).set_ 1 (.int .i64 en)
  have ho2 : ((w1.setCell ⟨g, 2, none⟩ v1).setCell ⟨g, 1, none⟩ (.int .i64 en)).ownsRow base 44 3 v1 (l.length + 1) (tksC l ++ tkC t) := by
    have e1 := World.ownsRow.kept ho (only_setCell (p := ⟨g, 2, none⟩) (World.grownBy.refl w1 (some g)) (.inl rfl) v1) (.inr (own_blk_ne ho h.1 (by decide)))
    exact World.ownsRow.kept e1 (only_setCell (p := ⟨g, 1, none⟩) (World.grownBy.refl _ (some g)) (.inl rfl) _) (.inr (own_blk_ne e1 (h.1.set_ 2 v1) (by decide)))
  exact ⟨(h.2.setCell hbg _).setCell hbg _, v1, h2, OwnT.snoc ho2, hbg⟩
set_option maxRecDepth 20000 in
set_option maxHeartbeats 2000000 in
theorem lput_any (base g : Nat) (s : ByteArray) (at_ : Nat) (v : Value) (l : List Lx.Tk) (kd : Nat) (t : List UInt8) (en : Int) (w : World) (h : LxS w base g s at_ v l) (hb0 : base ≤ w.heap.size) (hl : l.length ≤ 65536) :
    Calls Try.prog 49 #[.pointer (some ⟨g, 0, none⟩), .int .i64 (kd : Int), .string ⟨t.toArray⟩, .int .i64 en] w fun e w' => e = .returned (.tuple #[]) ∧ Below base w w' ∧ ∃ v', LxS w' base g s en v' (l ++ [(kd, t, at_)]) := by
  obtain ⟨hB, hO, hbg⟩ := h
  obtain ⟨i0, hi, hz0, hz1, hz2⟩ := info_parts info44
  have hc1 : w.cell? ⟨g, 1, none⟩ = some (.int .i64 (at_ : Int)) := hB.cell 1
  have hc2 : w.cell? ⟨g, 2, none⟩ = some v := hB.cell 2
  have hg : g < w.heap.size := hB.lt
  have hcA : ∀ o, (w.alloc o).cell? ⟨g, 2, none⟩ = some v := fun o => (hB.alloc o).cell 2
  obtain ⟨A, c, rfl, _, _⟩ := OwnT.form hO
  go_enter Try.func49, Try.ntmps49
  go_wp2
  go_region_law (first | (refine step_append_any _ rfl (.tmp 12) (.tmp 20) 35 rfl base 44 i0 _ 3 32 Try.underlying35 hi hz0 hz1 hz2 rfl (by decide) (.slice A l.length c) l.length (tksC l) (by simp [Act.eval]) ((hO.alloc _).drew) (w.heap.size + 1) (some ⟨w.heap.size, 0, none⟩) 1 1 (tkC (kd, t, at_)) (by simp [Act.eval]) (Reads.drew (Reads.builtN w 44 (tkC (kd, t, at_)) 1 3 rfl)) (tkC_one _) (by simp only [maxLen]; omega) (by omega) (by simp; omega) ?_; intro v1 w1 hown1 hgrow1 hv1; have HP := Lib.hid (LxS.put (s := s) (at_ := (at_ : Int)) ⟨hB, hO, hbg⟩ hb0 hgrow1); have HO1 := Lib.hid hown1; obtain ⟨A1, c1, rfl, _, _⟩ := OwnT.form (OwnT.snoc hown1); have hcc1 := HP.out.1.cell 2; have hff1 := HP.out.1.frozen 2; have hcc0 := HP.out.1.cell 1; have hff0 := HP.out.1.frozen 1; clear hown1 hgrow1 hv1))
  all_goals
    have HD := Lib.hid (LxS.done (en := en) (t := (kd, t, at_)) HP.out hbg HO1.out)
    clear hcc1 hcc0
    have hcc3 : (w1.setCell ⟨g, 2, none⟩ (.slice A1 (l.length + 1) c1)).cell? ⟨g, 1, none⟩ = some (.int .i64 (at_ : Int)) := (HP.out.1.set_ 2 _).cell 1
    have hff3 : (w1.setCell ⟨g, 2, none⟩ (.slice A1 (l.length + 1) c1)).frozen? ⟨g, 1, none⟩ = false := (HP.out.1.set_ 2 _).frozen 1
    go_wp2
    go_end0
    exact ⟨rfl, by have h := HD.out; rw [List.length_append] at h; exact h⟩
end Go.Proofs.Ytaigfelpecdajaa
