/-
  The walks of Clone, told, put.
-/
import Derived.Test.YtbkgphmocjjmmaaNtB
import Derived.WalkSpells
namespace Go.Proofs.Ytbkgphmocjjmmaa
open Go.RowKit

theorem info5 : (Try.prog.info? 5).map (fun i => (i.zero, i.size, i.bytes)) = some (some (.int .u8 0), 1, 1) := by kernel_rfl
theorem info36 : (Try.prog.info? 36).map (fun i => (i.zero, i.size, i.bytes)) = some (some (.agg #[.int .i64 0, .slice none 0 0]), 2, 32) := by kernel_rfl
theorem below_lit {w w' : World} {v' : Value} {cs : Array Value} {t : TypeId} {n c : Nat} (h : App (w.alloc (.cells cs t)) (.slice (some ⟨w.heap.size, 0, none⟩) n c) w' v') : Below w.heap.size w w' :=
  ((Below.refl _ _).alloc (Nat.le_refl _) _).trans (h.below (by simp) (fun k hk => by
    simp only [Value.ownBlock, Option.some.injEq] at hk
    omega))
def CloneP (w : World) (bs : List UInt8) (e : Ending) (w' : World) : Prop := ∃ A c, e = .returned (.slice A bs.length c) ∧ OwnB 5 w' w.heap.size (.slice A bs.length c) bs ∧ Below w.heap.size w w'
set_option maxRecDepth 20000 in
set_option maxHeartbeats 1000000 in
theorem clone_any (A : Option Addr) (m c B : Nat) (bs : List UInt8) (w : World) (h : RdB w B A m bs) (hB : B ≤ w.heap.size) (hm : bs.length ≤ 140737488355328) : Calls Try.prog 46 #[.slice A m c] w (CloneP w bs) := by
  have hl := h.len1
  cases A with
  | none =>
    have hm0 : bs = [] := by
      rcases Nat.eq_zero_or_pos m with h0 | h0
      · exact List.eq_nil_of_length_eq_zero (by omega)
      · obtain ⟨ad, e, _⟩ := h.2 h0; cases e
    subst hm0
    have h0 : m = 0 := by simpa using hl.symm
    subst h0
    clear hl h hm
    have q23 : ∀ (w : World) (a : Option Addr) (n c n' c' : Nat), (binOp .eql 23 (.slice a n c) (.slice none n' c')).run Try.prog w = .ok (.bool a.isNone) w := fun w a n c n' c' => Lib.run_eql_slice_nil w _ _ a n c n' c' Try.underlying23
    go_enter Try.func46, Try.ntmps46
    go_wp2
    go_ret
    exact ⟨none, 0, rfl, OwnB.nil _ _ _, Below.refl _ _⟩
  | some a =>
    subst hl
    have H := Lib.hid h
    have HE : Hid (OwnB 5 (w.alloc (.cells #[] 5)) w.heap.size (.slice (some ⟨w.heap.size, 0, none⟩) 0 0) []) := Lib.hid (OwnB.built 5 w w.heap.size #[] [] (Nat.le_refl _) (by simp) rfl)
    clear h
    have q23 : ∀ (w : World) (a : Option Addr) (n c n' c' : Nat), (binOp .eql 23 (.slice a n c) (.slice none n' c')).run Try.prog w = .ok (.bool a.isNone) w := fun w a n c n' c' => Lib.run_eql_slice_nil w _ _ a n c n' c' Try.underlying23
    go_enter Try.func46, Try.ntmps46
    go_wp2_with (at_builtin; refine wpList_app rfl (.tmp 5) (.tmp 6) 23 rfl w.heap.size 5 info5 Try.underlying23 _ [] rfl HE.out _ _ _ _ bs rfl (H.out.alloc hB _) (by simp; omega) (by simp) ?_; intro v1 w1 hown happ; rw [List.nil_append] at hown; have HO := Lib.hid hown; have HB := Lib.hid (below_lit happ); obtain ⟨A1, c1, rfl, _, _⟩ := own_form hown; clear hown happ)
    go_ret
    exact ⟨A1, c1, rfl, HO.out, HB.out⟩
def ToldP (w : World) (num : Int) (bs : List UInt8) (e : Ending) (w' : World) : Prop := ∃ A c, e = .returned (.agg #[.int .i64 num, .slice A bs.length c]) ∧ OwnB 5 w' w.heap.size (.slice A bs.length c) bs ∧ Below w.heap.size w w'
set_option maxRecDepth 20000 in
set_option maxHeartbeats 1000000 in
theorem told_any (num : Int) (A : Option Addr) (m c B : Nat) (bs : List UInt8) (w : World) (h : RdB w B A m bs) (hB : B ≤ w.heap.size) (hm : bs.length ≤ 140737488355328) : Calls Try.prog 36 #[.agg #[.int .i64 num, .slice A m c]] w (ToldP w num bs) := by
  have HC := Lib.hid fun (o o' : Obj) => clone_any A m c B bs ((w.alloc o).alloc o') ((h.alloc hB o).alloc (by simp; omega) o') (by simp; omega) hm
  clear h hm
  go_enter Try.func36, Try.ntmps36
  go_wp2_with fail
  refine (HC.out _ _).mono ?_
  rintro e w1 ⟨A1, c1, rfl, ho, hb⟩
  have HB := Lib.hid hb
  have HO := Lib.hid ho
  have HX : Hid (Blk w1 w.heap.size 36 #[.int .i64 num, .slice A m c]) := Lib.hid (((Blk.new w 36 _).alloc _).below hb (by simp; omega))
  have HY : Hid (Blk w1 (w.heap.size + 1) 36 #[.int .i64 0, .slice none 0 0]) := Lib.hid ((Blk.new' _ 36 _ _ (by simp)).below hb (by simp))
  have x0 := HX.out.cell 0
  have x1 := HX.out.cell 1
  have f1 := HX.out.frozen 1
  have y0 := HY.out.cell 0
  have y1 := HY.out.cell 1
  have g0 := HY.out.frozen 0
  have g1 := HY.out.frozen 1
  clear ho hb HC
  go_wp2
  have hb2 : Blk (((w1.setCell ⟨w.heap.size, 1, none⟩ (.slice A1 bs.length c1)).setCell ⟨w.heap.size + 1, 0, none⟩ (.int .i64 num)).setCell ⟨w.heap.size + 1, 1, none⟩ (.slice A1 bs.length c1)) (w.heap.size + 1) 36 #[.int .i64 num, .slice A1 bs.length c1] := ((HY.out.far (by simp) _).set_ 0 _).set_ 1 _
  have hB2 : Below w.heap.size w (((w1.setCell ⟨w.heap.size, 1, none⟩ (.slice A1 bs.length c1)).setCell ⟨w.heap.size + 1, 0, none⟩ (.int .i64 num)).setCell ⟨w.heap.size + 1, 1, none⟩ (.slice A1 bs.length c1)) :=
    (((((((Below.refl _ _).alloc (Nat.le_refl _) _).alloc (by simp) _).trans (HB.out.mono (by simp; omega))).setCell (by simp) _).setCell (by simp) _).setCell (by simp) _)
  have hO2 : OwnB 5 (((w1.setCell ⟨w.heap.size, 1, none⟩ (.slice A1 bs.length c1)).setCell ⟨w.heap.size + 1, 0, none⟩ (.int .i64 num)).setCell ⟨w.heap.size + 1, 1, none⟩ (.slice A1 bs.length c1)) w.heap.size (.slice A1 bs.length c1) bs :=
    own_base (((HO.out.far HX.out (by decide) 1 _).far (HY.out.far (by simp) _) (by decide) 0 _).far ((HY.out.far (by simp) _).set_ 0 _) (by decide) 1 _) (by simp; omega)
  clear x0 x1 f1 y0 y1 g0 g1
  generalize ((w1.setCell ⟨w.heap.size, 1, none⟩ (.slice A1 bs.length c1)).setCell ⟨w.heap.size + 1, 0, none⟩ (.int .i64 num)).setCell ⟨w.heap.size + 1, 1, none⟩ (.slice A1 bs.length c1) = wf at hb2 hB2 hO2 ⊢
  have t0 := hb2.cell 0
  have t1 := hb2.cell 1
  exact bodyPost_ret (v := .agg #[.int .i64 num, .slice A1 bs.length c1]) (by simp [results, Try.results36, go_sem, t0, t1]) rfl ⟨A1, c1, rfl, hO2, hB2⟩
end Go.Proofs.Ytbkgphmocjjmmaa
