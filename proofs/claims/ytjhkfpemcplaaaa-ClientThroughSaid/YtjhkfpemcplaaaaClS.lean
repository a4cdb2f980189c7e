/-
  The walks of Clone and told. No statement of the seat is proved here.
-/
import Derived.Test.YtjhkfpemcplaaaaClQ
namespace Go.Proofs.Ytjhkfpemcplaaaa
open Go.RowKit

theorem own_empty (w : World) (e : TypeId) (size base : Nat) (hb : base ≤ w.heap.size) : (w.alloc (.cells #[] e)).ownsRow base e size (.slice (some ⟨w.heap.size, 0, none⟩) 0 0) 0 [] :=
  ⟨by simp, .inr ⟨w.heap.size, 0, #[], rfl, hb, Blk.new w e #[], Nat.le_refl _, by simp, by simp, by simp⟩⟩
theorem vcells_flat (vs : List (Nat × Int)) : ∀ u ∈ vcells vs, u.oneCell' = true := by
  intro u hu
  simp only [vcells, List.mem_flatMap, List.mem_cons, List.not_mem_nil, or_false] at hu
  obtain ⟨x, _, rfl | rfl⟩ := hu <;> rfl
theorem info68' : (Try.prog.info? 68).map (fun i => (i.zero, i.size, i.bytes)) = some (some (.agg #[.int .u64 0, .int .i64 0]), 2, 16) := by kernel_rfl
def CloP (w : World) (vs : List (Nat × Int)) (e : Ending) (w' : World) : Prop := ∃ A c, e = .returned (.slice A vs.length c) ∧ w'.ownsRow w.heap.size 68 2 (.slice A vs.length c) vs.length (vcells vs) ∧ Below w.heap.size w w'
set_option maxRecDepth 20000 in
theorem clone_any (A : Option Addr) (n c : Nat) (vs : List (Nat × Int)) (w : World) (hr : Reads w w.heap.size 2 A n (vcells vs)) (hn : vs.length = n) (hm : n ≤ 8796093022208) :
    Calls Try.prog 81 #[.slice A n c] w (CloP w vs) := by
  cases A with
  | none =>
    obtain rfl : n = 0 := by
      rcases Nat.eq_zero_or_pos n with h | h
      · exact h
      · obtain ⟨ad, e, _⟩ := hr.2 (by omega); cases e
    have h0 : vs = [] := List.length_eq_zero_iff.1 hn
    subst h0
    have HF : Hid (CloP w [] (.returned (.slice none 0 0)) w) := Lib.hid ⟨none, 0, rfl, World.ownsRow_nil _ _ _ _, Below.refl _ _⟩
    clear hr hn
    have hne : ∀ w : World, (binOp BinOp.eql 51 (.slice none 0 c) (.slice none 0 0)).run Try.prog w = .ok (.bool true) w := fun w => by kernel_rfl
    go_enter Try.func81, Try.ntmps81
    go_wp2
    go_ret
    exact HF.out
  | some ad =>
    have HR := Lib.hid hr
    have HN := Lib.hid hn
    obtain ⟨i0, hi, hz0, hz1, hz2⟩ := info_parts info68'
    clear hr hn
    have hne : ∀ w : World, (binOp BinOp.eql 51 (.slice (some ad) n c) (.slice none 0 0)).run Try.prog w = .ok (.bool false) w := fun w => by kernel_rfl
    go_enter Try.func81, Try.ntmps81
    go_wp2_with (at_builtin; refine wpList_append_any _ rfl (.tmp 5) (.tmp 6) 51 rfl w.heap.size 68 i0 _ 2 16 Try.underlying51 hi hz0 hz1 hz2 rfl (by decide) (.slice (some ⟨w.heap.size, 0, none⟩) 0 0) 0 [] rfl (own_empty w 68 2 _ (Nat.le_refl _)) w.heap.size (some ad) n c (vcells vs) rfl (HR.out.alloc (Nat.le_refl _) _) (vcells_flat vs) (by simp only [maxLen]; omega) (by omega) (by simp) ?_; intro v5 w5 hr5 hg5 hv5; have HR5 := Lib.hid hr5; have HG5 := Lib.hid hg5; clear hr5 hg5 hv5)
    have hB : Below w.heap.size w w5 := ((Below.refl _ _).alloc (Nat.le_refl _) _).trans_grown (own_empty w 68 2 _ (Nat.le_refl _)) HG5.out
    have h5 := HR5.out
    rw [Nat.zero_add, List.nil_append, ← HN.out] at h5
    obtain ⟨A5, c5, rfl, _, _⟩ := own_formL h5
    go_ret
    exact ⟨A5, c5, rfl, h5, hB⟩
def TolP (w : World) (r : Rp) (e : Ending) (w' : World) : Prop := ∃ A c, e = .returned (.agg #[.int .i64 r.err, .slice A r.vals.length c, .string ⟨r.text.toArray⟩]) ∧ w'.ownsRow w.heap.size 68 2 (.slice A r.vals.length c) r.vals.length (vcells r.vals) ∧ Below w.heap.size w w'
set_option maxRecDepth 20000 in
set_option maxHeartbeats 2000000 in
theorem told_any (r : Rp) (A : Option Addr) (n c : Nat) (w : World) (hr : Reads w w.heap.size 2 A n (vcells r.vals)) (hn : r.vals.length = n) (hm : n ≤ 8796093022208) :
    Calls Try.prog 55 #[.agg #[.int .i64 r.err, .slice A n c, .string ⟨r.text.toArray⟩]] w (TolP w r) := by
  obtain ⟨err, vs, text⟩ := r
  dsimp only at hr hn
  unfold TolP
  dsimp only
  have z53 : ∀ w : World, (zeroValue 53).run Try.prog w = .ok (.agg #[.int .i64 0, .slice none 0 0, .string ByteArray.empty]) w := fun w => by kernel_rfl
  obtain ⟨w1, hw1⟩ : ∃ w1, (w.alloc (.cells #[.int .i64 err, .slice A n c, .string ⟨text.toArray⟩] 53)).alloc (.cells #[.int .i64 0, .slice none 0 0, .string ByteArray.empty] 53) = w1 := ⟨_, rfl⟩
  have hb1 : Below w.heap.size w w1 := hw1 ▸ ((Below.refl _ _).alloc (Nat.le_refl _) _).alloc (by simp) _
  have hX : Blk w1 w.heap.size 53 #[.int .i64 err, .slice A n c, .string ⟨text.toArray⟩] := hw1 ▸ (Blk.new w 53 _).alloc _
  have hY : Blk w1 (w.heap.size + 1) 53 #[.int .i64 0, .slice none 0 0, .string ByteArray.empty] := hw1 ▸ Blk.new' _ 53 _ _ (by simp)
  have HCL := Lib.hid (clone_any A n c vs w1 ((hr.below hb1).more hb1.size) hn hm)
  have HB1 := Lib.hid hb1
  have HX := Lib.hid hX
  have HY := Lib.hid hY
  have x1 : w1.cell? ⟨w.heap.size, 1, none⟩ = some (.slice A n c) := hX.cell 1
  clear hr hn hb1 hX hY
  go_enter Try.func55, Try.ntmps55
  go_upto_region 1 with fail
  clear hw1
  go_upto_region 2 with (go_at_call 81; refine HCL.out.mono ?_; rintro e w2 ⟨A2, c2, rfl, ho, hb⟩; have HO := Lib.hid ho; have HB2 := Lib.hid hb; have hx2 : Blk w2 w.heap.size 53 #[.int .i64 err, .slice A n c, .string ⟨text.toArray⟩] := (hb.block _ HX.out.lt).trans HX.out; have hy2 : Blk w2 (w.heap.size + 1) 53 #[.int .i64 0, .slice none 0 0, .string ByteArray.empty] := (hb.block _ HY.out.lt).trans HY.out; have u0 : w2.cell? ⟨w.heap.size, 0, none⟩ = some (.int .i64 err) := hx2.cell 0; have u1 : w2.cell? ⟨w.heap.size, 1, none⟩ = some (.slice A n c) := hx2.cell 1; have u2 : w2.cell? ⟨w.heap.size, 2, none⟩ = some (.string ⟨text.toArray⟩) := hx2.cell 2; have y0 : w2.cell? ⟨w.heap.size + 1, 0, none⟩ = some (.int .i64 0) := hy2.cell 0; have y1 : w2.cell? ⟨w.heap.size + 1, 1, none⟩ = some (.slice none 0 0) := hy2.cell 1; have y2 : w2.cell? ⟨w.heap.size + 1, 2, none⟩ = some (.string ByteArray.empty) := hy2.cell 2; have f1 := hx2.frozen 1; have k0 := hy2.frozen 0; have k1 := hy2.frozen 1; have k2 := hy2.frozen 2; have l1 := hx2.lt; have l2 := hy2.lt; clear ho hb hx2 hy2 x1)
  have HQ : Hid (∃ A c, Ending.returned (.agg #[.int .i64 err, .slice A2 vs.length c2, .string ⟨text.toArray⟩]) = .returned (.agg #[.int .i64 err, .slice A vs.length c, .string ⟨text.toArray⟩]) ∧ ((((w2.setCell ⟨w.heap.size, 1, none⟩ (.slice A2 vs.length c2)).setCell ⟨w.heap.size + 1, 0, none⟩ (.int .i64 err)).setCell ⟨w.heap.size + 1, 1, none⟩ (.slice A2 vs.length c2)).setCell ⟨w.heap.size + 1, 2, none⟩ (.string ⟨text.toArray⟩)).ownsRow w.heap.size 68 2 (.slice A vs.length c) vs.length (vcells vs) ∧ Below w.heap.size w ((((w2.setCell ⟨w.heap.size, 1, none⟩ (.slice A2 vs.length c2)).setCell ⟨w.heap.size + 1, 0, none⟩ (.int .i64 err)).setCell ⟨w.heap.size + 1, 1, none⟩ (.slice A2 vs.length c2)).setCell ⟨w.heap.size + 1, 2, none⟩ (.string ⟨text.toArray⟩))) := Lib.hid (by
    refine ⟨A2, c2, rfl, own_base (own_same HO.out fun k hk => ?_) HB1.out.size, ?_⟩
    · have h1 := (World.ownsRow.lt HO.out k hk).1
      have h2 := HY.out.lt
      rw [Below.heap_setCell _ _ _ _ (by dsimp only; omega), Below.heap_setCell _ _ _ _ (by dsimp only; omega), Below.heap_setCell _ _ _ _ (by dsimp only; omega), Below.heap_setCell _ _ _ _ (by dsimp only; omega)]
    · exact ((((HB1.out.trans (HB2.out.mono HB1.out.size)).setCell (p := ⟨w.heap.size, 1, none⟩) (Nat.le_refl _) _).setCell (p := ⟨w.heap.size + 1, 0, none⟩) (Nat.le_succ _) _).setCell (p := ⟨w.heap.size + 1, 1, none⟩) (Nat.le_succ _) _).setCell (p := ⟨w.heap.size + 1, 2, none⟩) (Nat.le_succ _) _)
  clear HO HB2 HCL HB1 HX HY hm
  go_wp2
  exact bodyPost_ret (v := .agg #[.int .i64 err, .slice A2 vs.length c2, .string ⟨text.toArray⟩]) (by simp [results, Try.results55, go_sem, *]) rfl HQ.out
end Go.Proofs.Ytjhkfpemcplaaaa
