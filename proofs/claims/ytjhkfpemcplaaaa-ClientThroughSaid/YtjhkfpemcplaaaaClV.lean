/-
  The walk of twin. No statement of the seat is proved here.
-/
import Derived.Test.YtjhkfpemcplaaaaClS
namespace Go.Proofs.Ytjhkfpemcplaaaa
open Go.RowKit

theorem info3' : (Try.prog.info? 3).map (fun i => (i.zero, i.size, i.bytes)) = some (some (.int .i64 0), 1, 8) := by kernel_rfl
def TwiP (w : World) (kind : Int) (hd : Nat) (ns : List Int) (s : ByteArray) (e : Ending) (w' : World) : Prop :=
  ∃ A c, e = .returned (.agg #[.int .i64 kind, .int .u64 (hd : Int), .slice A ns.length c, .string s]) ∧ w'.ownsRow w.heap.size 3 1 (.slice A ns.length c) ns.length (ns.map (Value.int .i64)) ∧ Below w.heap.size w w'
set_option maxRecDepth 20000 in
set_option maxHeartbeats 2000000 in
theorem twin_any (kind : Int) (hd : Nat) (A : Option Addr) (n c : Nat) (ns : List Int) (s : ByteArray) (w : World) (hr : RdI w w.heap.size A n ns) (hm : n * 8 ≤ 140737488355328) :
    Calls Try.prog 19 #[.agg #[.int .i64 kind, .int .u64 (hd : Int), .slice A n c, .string s]] w (TwiP w kind hd ns s) := by
  have hn : ns.length = n := by have := hr.1; simpa using this
  have z35 : ∀ w : World, (zeroValue 35).run Try.prog w = .ok (.agg #[.int .i64 0, .int .u64 0, .slice none 0 0, .string ByteArray.empty]) w := fun w => by kernel_rfl
  obtain ⟨w1, hw1⟩ : ∃ w1, (w.alloc (.cells #[.int .i64 kind, .int .u64 (hd : Int), .slice A n c, .string s] 35)).alloc (.cells #[.int .i64 0, .int .u64 0, .slice none 0 0, .string ByteArray.empty] 35) = w1 := ⟨_, rfl⟩
  have hb1 : Below w.heap.size w w1 := hw1 ▸ ((Below.refl _ _).alloc (Nat.le_refl _) _).alloc (by simp) _
  have hX : Blk w1 w.heap.size 35 #[.int .i64 kind, .int .u64 (hd : Int), .slice A n c, .string s] := hw1 ▸ (Blk.new w 35 _).alloc _
  have hY : Blk w1 (w.heap.size + 1) 35 #[.int .i64 0, .int .u64 0, .slice none 0 0, .string ByteArray.empty] := hw1 ▸ Blk.new' _ 35 _ _ (by simp)
  have HR := Lib.hid ((hr.below hb1).more hb1.size)
  have HB1 := Lib.hid hb1
  have HX := Lib.hid hX
  have HY := Lib.hid hY
  have HN := Lib.hid hn
  obtain ⟨i0, hi, hz0, hz1, hz2⟩ := info_parts info3'
  have hgn : w.heap.size ≠ w1.heap.size := by have := hX.lt; omega
  have hgm := hX.lt
  have x2 : (w1.alloc (.cells #[] 3)).cell? ⟨w.heap.size, 2, none⟩ = some (.slice A n c) := (hX.alloc _).cell 2
  have x1 : w1.cell? ⟨w.heap.size, 2, none⟩ = some (.slice A n c) := hX.cell 2
  clear hr hn hb1 hX hY
  go_enter Try.func19, Try.ntmps19
  go_upto_region 1 with fail
  clear hw1
  go_upto_region 2 with (at_builtin; refine wpList_append_any _ rfl (.tmp 3) (.tmp 5) 33 rfl w1.heap.size 3 i0 _ 1 8 Try.underlying33 hi hz0 hz1 hz2 rfl (by decide) (.slice (some ⟨w1.heap.size, 0, none⟩) 0 0) 0 [] rfl (own_empty w1 3 1 _ (Nat.le_refl _)) w1.heap.size A n c (ns.map (Value.int .i64)) rfl (HR.out.alloc (Nat.le_refl _) _) (by simp [Value.oneCell']) (by simp only [maxLen]; omega) (by omega) (by simp) ?_; intro v2 w2 hr5 hg5 hv5; have hB : Below w1.heap.size w1 w2 := ((Below.refl _ _).alloc (Nat.le_refl _) _).trans_grown (own_empty w1 3 1 _ (Nat.le_refl _)) hg5; rw [Nat.zero_add, List.nil_append, ← HN.out] at hr5; obtain ⟨A2, c2, rfl, _, _⟩ := own_formL hr5; have HO := Lib.hid hr5; have HB2 := Lib.hid hB; have hx2 : Blk w2 w.heap.size 35 #[.int .i64 kind, .int .u64 (hd : Int), .slice A n c, .string s] := (hB.block _ HX.out.lt).trans HX.out; have hy2 : Blk w2 (w.heap.size + 1) 35 #[.int .i64 0, .int .u64 0, .slice none 0 0, .string ByteArray.empty] := (hB.block _ HY.out.lt).trans HY.out; have u0 : w2.cell? ⟨w.heap.size, 0, none⟩ = some (.int .i64 kind) := hx2.cell 0; have u1 : w2.cell? ⟨w.heap.size, 1, none⟩ = some (.int .u64 (hd : Int)) := hx2.cell 1; have u2 : w2.cell? ⟨w.heap.size, 2, none⟩ = some (.slice A n c) := hx2.cell 2; have u3 : w2.cell? ⟨w.heap.size, 3, none⟩ = some (.string s) := hx2.cell 3; have y0 : w2.cell? ⟨w.heap.size + 1, 0, none⟩ = some (.int .i64 0) := hy2.cell 0; have y1 : w2.cell? ⟨w.heap.size + 1, 1, none⟩ = some (.int .u64 0) := hy2.cell 1; have y2 : w2.cell? ⟨w.heap.size + 1, 2, none⟩ = some (.slice none 0 0) := hy2.cell 2; have y3 : w2.cell? ⟨w.heap.size + 1, 3, none⟩ = some (.string ByteArray.empty) := hy2.cell 3; have f1 := hx2.frozen 2; have k0 := hy2.frozen 0; have k1 := hy2.frozen 1; have k2 := hy2.frozen 2; have k3 := hy2.frozen 3; have l1 := hx2.lt; have l2 := hy2.lt; clear hr5 hg5 hv5 hB hx2 hy2 x1 x2 hgn hgm)
  have HQ : Hid (TwiP w kind hd ns s (.returned (.agg #[.int .i64 kind, .int .u64 (hd : Int), .slice A2 ns.length c2, .string s])) (((((w2.setCell ⟨w.heap.size, 2, none⟩ (.slice A2 ns.length c2)).setCell ⟨w.heap.size + 1, 0, none⟩ (.int .i64 kind)).setCell ⟨w.heap.size + 1, 1, none⟩ (.int .u64 (hd : Int))).setCell ⟨w.heap.size + 1, 2, none⟩ (.slice A2 ns.length c2)).setCell ⟨w.heap.size + 1, 3, none⟩ (.string s))) := Lib.hid (by
    refine ⟨A2, c2, rfl, own_base (own_same HO.out fun k hk => ?_) HB1.out.size, ?_⟩
    · have h1 := (World.ownsRow.lt HO.out k hk).1
      have h2 := HY.out.lt
      rw [Below.heap_setCell _ _ _ _ (by dsimp only; omega), Below.heap_setCell _ _ _ _ (by dsimp only; omega), Below.heap_setCell _ _ _ _ (by dsimp only; omega), Below.heap_setCell _ _ _ _ (by dsimp only; omega), Below.heap_setCell _ _ _ _ (by dsimp only; omega)]
    · exact (((((HB1.out.trans (HB2.out.mono HB1.out.size)).setCell (p := ⟨w.heap.size, 2, none⟩) (Nat.le_refl _) _).setCell (p := ⟨w.heap.size + 1, 0, none⟩) (Nat.le_succ _) _).setCell (p := ⟨w.heap.size + 1, 1, none⟩) (Nat.le_succ _) _).setCell (p := ⟨w.heap.size + 1, 2, none⟩) (Nat.le_succ _) _).setCell (p := ⟨w.heap.size + 1, 3, none⟩) (Nat.le_succ _) _)
  clear HO HB2 HB1 HX HY hm HR
  go_wp2
  exact bodyPost_ret (v := .agg #[.int .i64 kind, .int .u64 (hd : Int), .slice A2 ns.length c2, .string s]) (by simp [results, Try.results19, go_sem, *]) rfl HQ.out
end Go.Proofs.Ytjhkfpemcplaaaa
