/-
  The program's line f26 at a line that Print wrote. No statement of the seat is proved here.
-/
import Derived.Test.YtaeegkljldngmaaDoorTxC
import Derived.Test.YtaeegkljldngmaaDoorCdX
import Derived.Test.YtaeegkljldngmaaDoorCdK
import Derived.Test.YtaeegkljldngmaaDoorHeldX
import Derived.Laws.Concat
import Derived.Laws.Strings
import Derived.Lib.AppendIntMem
import Derived.Deep.RegionHeld3
import Derived.Deep.DeepCutAuto
import Derived.Deep.CutBlock
import Derived.Deep.DeepMust
namespace Go.Proofs.YtaeegkljldngmaaDoor
open Go.RowKit

theorem info93 : (Tryd.prog.info? 93).map (fun i => (i.zero, i.size, i.bytes)) = some (some (.pointer none), 1, 8) := by kernel_rfl
def ptO (g : Nat) (o : Nat) : Value := .pointer (some ⟨g, o, none⟩)
theorem ptO_one (g : Nat) (l : List Nat) : ∀ u ∈ l.map (ptO g), u.oneCell' = true := by
  intro u hu
  obtain ⟨o, _, rfl⟩ := List.mem_map.1 hu
  rfl
/-- pointers into a box, in a row of the call's own -/
abbrev OwnT (w : World) (base : Nat) (v : Value) (g : Nat) (l : List Nat) : Prop := w.ownsRow base 93 1 v l.length (l.map (ptO g))
theorem ix4 (a b c d : Value) (w : World) : (Instr.index 101 (.agg #[a, b, c, d]) (.int .i64 0)).run Tryd.prog w = .ok a w ∧ (Instr.index 101 (.agg #[a, b, c, d]) (.int .i64 1)).run Tryd.prog w = .ok b w ∧ (Instr.index 101 (.agg #[a, b, c, d]) (.int .i64 2)).run Tryd.prog w = .ok c w ∧ (Instr.index 101 (.agg #[a, b, c, d]) (.int .i64 3)).run Tryd.prog w = .ok d w := ⟨by kernel_rfl, by kernel_rfl, by kernel_rfl, by kernel_rfl⟩
theorem own_drewN {w : World} {base : Nat} {e : TypeId} {size n : Nat} {v : Value} {xs : List Value} (h : w.ownsRow base e size v n xs) (k : Nat) : (w.drewN k).ownsRow base e size v n xs := h
theorem app_t {w : World} {ops : Array Oper} {rest : List Oper} {o : Oper} {a : Act} {Q : Exit → Act → World → Prop}
    (hgd : o.guard = none) (s x : Operand) (ho : o.op = .call { callee := .builtin .append, args := #[s, x], argTypes := #[100, 100] })
    (base g : Nat) (v : Value) (l : List Nat) (hs : a.eval s = v) (hown : OwnT w base v g l) (B : Nat) (A : Option Addr) (m c : Nat) (news : List Nat) (hx : a.eval x = .slice A m c) (hr : Reads w B 1 A m (news.map (ptO g)))
    (hb : l.length + m ≤ 1000) (hbase : base ≤ w.heap.size)
    (h : ∀ v' w', OwnT w' base v' g (l ++ news) → App w v w' v' → wpList Tryd.prog ops Q rest (a.put o.dst v') w') : wpList Tryd.prog ops Q (o :: rest) a w := by
  obtain ⟨i0, hi, hz0, hz1, hz2⟩ := info_parts info93
  refine wpList_append_any w hgd s x 100 ho base 93 i0 _ 1 8 Tryd.underlying100 hi hz0 hz1 hz2 rfl (by decide) v l.length (l.map (ptO g)) hs hown B A m c (news.map (ptO g)) hx hr (ptO_one _ _) (by simp only [maxLen]; omega) (by omega) hbase fun v' w' h1 h2 h3 => h v' w' ?_ ⟨h2, ?_⟩
  · have hl : news.length = m := by have := hr.1; simpa using this
    show w'.ownsRow base 93 1 v' (l ++ news).length ((l ++ news).map (ptO g))
    rw [List.length_append, List.map_append, hl]
    exact h1
  · rcases h3 with e | e
    · exact .inl e
    · exact .inr ⟨_, e, Nat.le_refl _⟩
theorem ptO_at {w : World} {base g n c j o : Nat} {A : Option Addr} {l : List Nat} (h : w.ownsRow base 93 1 (.slice A n c) l.length (l.map (ptO g))) (ho : l[j]? = some o) : ∃ b, A = some ⟨b, 0, none⟩ ∧ b < w.heap.size ∧ w.cell? ⟨b, j, none⟩ = some (.pointer (some ⟨g, o, none⟩)) := by
  have hj := (List.getElem?_eq_some_iff.1 ho).1
  obtain ⟨b, cap, hv, _, hlt⟩ := World.ownsRow.form h (by omega)
  injection hv with e1 e2 e3
  subst e1 e2 e3
  have h1 := World.ownsRow.cells h (g := b) rfl j (ptO g o) (by simp [ho])
  refine ⟨b, rfl, hlt, ?_⟩
  have e : (⟨b, 0, none⟩ : Addr).add j = ⟨b, j, none⟩ := by unfold Addr.add; split <;> simp_all
  rw [e] at h1
  exact h1
theorem own_set {w : World} {base g i : Nat} {e t : TypeId} {size n : Nat} {v u : Value} {xs : List Value} {cs : Array Value} (h : w.ownsRow base e size v n xs) (hb : Blk w g t cs) (hne : e ≠ t) : (w.setCell ⟨g, i, none⟩ u).ownsRow base e size v n xs :=
  own_chg h ((Chg.refl (· = g) w).setCell (p := ⟨g, i, none⟩) (fun _ => rfl) u) fun k hk e => own_blk_ne h hb hne (by rw [hk, e])
theorem own_bel {w w' : World} {base : Nat} {e : TypeId} {size n : Nat} {v : Value} {xs : List Value} (h : w.ownsRow base e size v n xs) (hb : Below w.heap.size w w') : w'.ownsRow base e size v n xs :=
  own_same h fun k hk => hb.block k (World.ownsRow.lt h k hk).2
def LnP (x : Ins) (w : World) (e : Ending) (w' : World) : Prop := e = .returned (.tuple #[x.val, .int .i64 0]) ∧ Below w.heap.size w w'
theorem pow10_named : Tryd.prog.globalNamed "internal/strconv.uint64pow10" = some 0 := by kernel_rfl
theorem itoa_any (n : Int) (w : World) (h0 : -9223372036854775808 ≤ n) (h1 : n ≤ 9223372036854775807) (htab : Lib.TabIs Tryd.prog w "internal/strconv.uint64pow10" .u64 Lib.pow10Tab) :
    Calls Tryd.prog 19 #[.int .i64 n] w fun e w' => e = .returned (.string (txt (Lib.itoa n))) ∧ Below w.heap.size w w' :=
  (Tryd.strconv_Itoa n h0 h1 w htab).mono fun e w' h => by
    obtain ⟨rfl, k, os, rfl⟩ := h
    exact ⟨rfl, Lib.below_grow _ _ (Nat.le_refl _) _ _⟩
theorem sel_step {h : Int} (hk : HasOk h) {k : Nat} (hk4 : k < 4) (b : Bool) (hb : b = (if k = 3 then hT h else has3 h k)) : selO h (k + 1) = selO h k ++ (if b then [k + 1] else []) := by
  subst hb
  obtain rfl | rfl | rfl | rfl : k = 0 ∨ k = 1 ∨ k = 2 ∨ k = 3 := by omega
  all_goals rcases hk with rfl | rfl | rfl | rfl | rfl <;> decide
theorem sel_len {h : Int} (hk : HasOk h) (k : Nat) : (selO h k).length ≤ 4 := by
  match k with
  | 0 => simp [selO]
  | 1 => rcases hk with rfl | rfl | rfl | rfl | rfl <;> decide
  | 2 => rcases hk with rfl | rfl | rfl | rfl | rfl <;> decide
  | 3 => rcases hk with rfl | rfl | rfl | rfl | rfl <;> decide
  | k + 4 => exact offs_len hk
/-- the line's boxes -/
structure LnB (w wr : World) (gw g4 g7 g8 : Nat) (cw c4 c7 c8 : Array Value) : Prop where
  bel : Below w.heap.size w wr
  bw : Blk wr gw 9 cw
  b4 : Blk wr g4 34 c4
  b7 : Blk wr g7 34 c7
  b8 : Blk wr g8 50 c8
  n4 : w.heap.size ≤ g4
  n7 : w.heap.size ≤ g7
  d47 : g4 ≠ g7
theorem LnB.below {w wr w' : World} {gw g4 g7 g8 : Nat} {cw c4 c7 c8 : Array Value} (h : LnB w wr gw g4 g7 g8 cw c4 c7 c8) (hb : Below wr.heap.size wr w') : LnB w w' gw g4 g7 g8 cw c4 c7 c8 :=
  ⟨h.bel.trans (hb.mono h.bel.size), h.bw.below hb h.bw.lt, h.b4.below hb h.b4.lt, h.b7.below hb h.b7.lt, h.b8.below hb h.b8.lt, h.n4, h.n7, h.d47⟩
theorem LnB.alloc {w wr : World} {gw g4 g7 g8 : Nat} {cw c4 c7 c8 : Array Value} (h : LnB w wr gw g4 g7 g8 cw c4 c7 c8) (o : Obj) : LnB w (wr.alloc o) gw g4 g7 g8 cw c4 c7 c8 := h.below ((Below.refl _ _).alloc (Nat.le_refl _) o)
theorem LnB.set7 {w wr : World} {gw g4 g7 g8 : Nat} {cw c4 c7 c8 : Array Value} (h : LnB w wr gw g4 g7 g8 cw c4 c7 c8) (i : Nat) (u : Value) : LnB w (wr.setCell ⟨g7, i, none⟩ u) gw g4 g7 g8 cw c4 (c7.setIfInBounds i u) c8 :=
  ⟨h.bel.setCell (p := ⟨g7, i, none⟩) h.n7 u, h.bw.far (p := ⟨g7, i, none⟩) (h.bw.ne_ h.b7 (by decide)) u, h.b4.far (p := ⟨g7, i, none⟩) h.d47 u, h.b7.set_ i u, h.b8.far (p := ⟨g7, i, none⟩) (h.b8.ne_ h.b7 (by decide)) u, h.n4, h.n7, h.d47⟩
theorem line_end {x : Ins} {w W : World} {gw g7 g8 : Nat} {cw c7 c8 : Array Value} {tmps : Array Value} (h : LnB w W gw w.heap.size g7 g8 cw #[.int .i64 0, .int .i64 0, .int .i64 0, .int .i64 0, .int .i64 0] c7 c8) (h4 : tmps.getD 4 undef = .pointer (some ⟨w.heap.size, 0, none⟩)) (h5 : tmps.getD 5 undef = .int .i64 0) :
    bodyPost Tryd.prog Tryd.f26 (LnP x w) Exit.ret { tmps := tmps, defers := [] } (((((W.setCell ⟨w.heap.size, 0, none⟩ (.int .i64 x.op)).setCell ⟨w.heap.size, 1, none⟩ (.int .i64 x.a)).setCell ⟨w.heap.size, 2, none⟩ (.int .i64 x.b)).setCell ⟨w.heap.size, 3, none⟩ (.int .i64 x.c)).setCell ⟨w.heap.size, 4, none⟩ (.int .i64 x.z)) := by
  have hb : Blk (((((W.setCell ⟨w.heap.size, 0, none⟩ (.int .i64 x.op)).setCell ⟨w.heap.size, 1, none⟩ (.int .i64 x.a)).setCell ⟨w.heap.size, 2, none⟩ (.int .i64 x.b)).setCell ⟨w.heap.size, 3, none⟩ (.int .i64 x.c)).setCell ⟨w.heap.size, 4, none⟩ (.int .i64 x.z)) w.heap.size 34 #[.int .i64 x.op, .int .i64 x.a, .int .i64 x.b, .int .i64 x.c, .int .i64 x.z] := ((((h.b4.set_ 0 _).set_ 1 _).set_ 2 _).set_ 3 _).set_ 4 _
  have hw : Below w.heap.size w (((((W.setCell ⟨w.heap.size, 0, none⟩ (.int .i64 x.op)).setCell ⟨w.heap.size, 1, none⟩ (.int .i64 x.a)).setCell ⟨w.heap.size, 2, none⟩ (.int .i64 x.b)).setCell ⟨w.heap.size, 3, none⟩ (.int .i64 x.c)).setCell ⟨w.heap.size, 4, none⟩ (.int .i64 x.z)) := ((((h.bel.setCell (p := ⟨w.heap.size, 0, none⟩) (Nat.le_refl _) _).setCell (p := ⟨w.heap.size, 1, none⟩) (Nat.le_refl _) _).setCell (p := ⟨w.heap.size, 2, none⟩) (Nat.le_refl _) _).setCell (p := ⟨w.heap.size, 3, none⟩) (Nat.le_refl _) _).setCell (p := ⟨w.heap.size, 4, none⟩) (Nat.le_refl _) _
  generalize (((((W.setCell ⟨w.heap.size, 0, none⟩ (.int .i64 x.op)).setCell ⟨w.heap.size, 1, none⟩ (.int .i64 x.a)).setCell ⟨w.heap.size, 2, none⟩ (.int .i64 x.b)).setCell ⟨w.heap.size, 3, none⟩ (.int .i64 x.c)).setCell ⟨w.heap.size, 4, none⟩ (.int .i64 x.z)) = wf at *
  rw [Array.getD_eq_getD_getElem?] at h4 h5
  have r0 : wf.cell? ⟨w.heap.size, 0, none⟩ = some (.int .i64 x.op) := hb.cell 0
  have r1 : wf.cell? ⟨w.heap.size, 1, none⟩ = some (.int .i64 x.a) := hb.cell 1
  have r2 : wf.cell? ⟨w.heap.size, 2, none⟩ = some (.int .i64 x.b) := hb.cell 2
  have r3 : wf.cell? ⟨w.heap.size, 3, none⟩ = some (.int .i64 x.c) := hb.cell 3
  have r4 : wf.cell? ⟨w.heap.size, 4, none⟩ = some (.int .i64 x.z) := hb.cell 4
  exact bodyPost_ret (v := .tuple #[.agg #[.int .i64 x.op, .int .i64 x.a, .int .i64 x.b, .int .i64 x.c, .int .i64 x.z], .int .i64 0]) (by simp [results, Tryd.results26, go_sem, h4, h5, r0, r1, r2, r3, r4]) rfl ⟨rfl, hw⟩
set_option maxRecDepth 100000 in
set_option maxHeartbeats 8000000 in
theorem line_any (x : Ins) (at_ m : Int) (w : World) (hx : mayE x = 0) (h0 : 0 ≤ at_) (h1 : at_ ≤ 32767) (hg : jmpO x.op = true → 0 ≤ goalI x at_ ∧ goalI x at_ ≤ 32767)
    (hm : w.cell? ⟨1, 0, none⟩ = some (.int .i64 m)) (htab : Lib.TabIs Tryd.prog w "internal/strconv.uint64pow10" .u64 Lib.pow10Tab) :
    Calls Tryd.prog 26 #[.string (txt (lineL x at_)), .int .i64 at_] w (LnP x w) := by
  obtain ⟨hin, hfit⟩ := mayE_ok hx
  obtain ⟨k26, hk1, hk2, hk3, hk4⟩ := nm_ent hin
  have hline : (lineL x at_).length < 4294967281 := by
    have := line_len hx h0 h1 hg
    have := (size_cast hin).2.2
    omega
  have hok := hasOk_O x.op
  have H24 := Lib.hid fun w hm => split_any 32 (wordsL x at_) (txt (lineL x at_)) m w (by rw [words_line x at_ hok]) (wordsL_ne x at_) (words_no at_ hin) (by rw [words_line x at_ hok]; exact hline) hm
  have HWL := Lib.hid (words_len x at_)
  have HWA := Lib.hid fun j o ho => words_at x at_ (j := j) (o := o) ho
  have HW0 : Hid ((wordsL x at_)[0]? = some (Lib.itoa at_)) := Lib.hid rfl
  have HW1 : Hid ((wordsL x at_)[1]? = some (nmO x.op).data.toList) := Lib.hid rfl
  have HCW : Hid (∀ (w : World) (g i : Nat) (l : List UInt8), Blk w g 9 ((wordsL x at_).map fun l => Value.string (txt l)).toArray → (wordsL x at_)[i]? = some l → w.cell? ⟨g, i, none⟩ = some (.string (txt l))) := Lib.hid fun w g i l hb hl => by
    rw [hb.cell i, List.getElem?_toArray, List.getElem?_map, hl]
    rfl
  have H19 := Lib.hid fun w ht => itoa_any at_ w (by omega) (by omega) ht
  have H39 : Hid (∀ w, Calls Tryd.prog 39 #[.string (txt (nmO x.op).data.toList)] w fun e w' => e = .returned (.int .i64 x.op) ∧ Below w.heap.size w w') := Lib.hid fun w => by
    rw [txt_of, hk2, hk1]
    exact named_any k26.1 hk4 k26.2 w
  have H14 := Lib.hid (show ∀ w, Calls Tryd.prog 14 #[.int .i64 x.op] w (fun e w' => e = .returned (.tuple #[.agg #[.string (ent x.op).nm, .int .i64 (ent x.op).has, .int .i64 (ent x.op).take, .int .i64 (ent x.op).put, .bool (ent x.op).ends], .bool true]) ∧ Below w.heap.size w w') from fun w => by
    have h := ops_any x.op w
    rw [hin] at h
    exact h)
  have hent : (ent x.op).has = hasO x.op := (hasO_ent hin).symm
  have H15 := Lib.hid (show ∀ w, Calls Tryd.prog 15 #[.agg #[.string (ent x.op).nm, .int .i64 (ent x.op).has, .int .i64 (ent x.op).take, .int .i64 (ent x.op).put, .bool (ent x.op).ends], .agg #[.int .i64 x.op, .int .i64 x.a, .int .i64 x.b, .int .i64 x.c, .int .i64 x.z]] w (fun e w' => e = .returned (.bool true) ∧ Below w.heap.size w w') from fun w => by
    have h := fits_ok (ent x.op) x w (hasOk_ent _ hin)
    rw [hent, hfit] at h
    exact h)
  have H21 := Lib.hid (show ∀ w, Calls Tryd.prog 21 #[.agg #[.string (ent x.op).nm, .int .i64 (ent x.op).has, .int .i64 (ent x.op).take, .int .i64 (ent x.op).put, .bool (ent x.op).ends]] w (fun e w' => e = .returned (.int .i64 (szO x.op)) ∧ Below w.heap.size w w') from fun w => by
    have h := size_ok (ent x.op) w (hasOk_ent _ hin)
    rw [hent, ← szO_in hin] at h
    exact h)
  have H20 := Lib.hid fun w => (jmp_any x.op w).mono fun e w' (h : e = .returned (.bool (jmpO x.op)) ∧ w' = w) => (⟨h.1, h.2.symm⟩ : e = .returned (.bool (jmpO x.op)) ∧ w = w')
  have H40 : Hid (jmpO x.op = true → ∀ o w, Calls Tryd.prog 40 #[.string (txt (wordW x at_ o)), .string ⟨#[45, 62]⟩] w fun e w' => e = .returned (.tuple #[.string (txt (Lib.itoa (numW x at_ o))), .bool true]) ∧ w = w') := Lib.hid fun hj o w => by
    refine (Tryd.strings_CutPrefix (txt (wordW x at_ o)) ⟨#[45, 62]⟩ w).mono fun e w' h => ?_
    obtain ⟨h1, h2⟩ := h
    have e1 : (txt (wordW x at_ o)).data.toList = 45 :: 62 :: Lib.itoa (goalI x at_) := by rw [txt_data]; unfold wordW; rw [if_pos hj]
    have e2 : numW x at_ o = goalI x at_ := if_pos hj
    rw [e1, show (⟨#[45, 62]⟩ : ByteArray).data.toList = [45, 62] from rfl, (arrow_cut _).1, (arrow_cut _).2] at h1
    rw [e2]
    exact ⟨h1, h2.symm⟩
  have HWJ : Hid (jmpO x.op = false → ∀ o, wordW x at_ o = Lib.itoa (numW x at_ o)) := Lib.hid fun hj o => by
    unfold wordW numW
    rw [hj]
    rfl
  have H41 : Hid (∀ o w, 1 ≤ o → Calls Tryd.prog 41 #[.string (txt (Lib.itoa (numW x at_ o)))] w fun e w' => e = .returned (.tuple #[.int .i64 (numW x at_ o), .bool true]) ∧ Below w.heap.size w w') := Lib.hid fun o w ho => number_any _ w (num_bound hx hg ho).1 (num_bound hx hg ho).2
  have HF0 := Lib.hid (fill_zero x at_ (hasO x.op))
  have HFS := Lib.hid fun j o ho => fill_step x at_ hok (j := j) (o := o) ho
  have HFC := Lib.hid fun j o ho => fill_cell x at_ (hasO x.op) j (o := o) ho
  have HFN : Hid (jmpO x.op = false → fillC x at_ (hasO x.op) (offL (hasO x.op)).length = #[.int .i64 x.op, .int .i64 x.a, .int .i64 x.b, .int .i64 x.c, .int .i64 x.z]) := Lib.hid fun hj => fill_no at_ hx hj
  have HFJ : Hid (jmpO x.op = true → fillC x at_ (hasO x.op) (offL (hasO x.op)).length = #[.int .i64 x.op, .int .i64 0, .int .i64 0, .int .i64 0, .int .i64 (goalI x at_)] ∧ x.a = 0 ∧ x.b = 0 ∧ x.c = 0 ∧ 0 ≤ goalI x at_ ∧ goalI x at_ ≤ 32767 ∧ goalI x at_ - (at_ + szO x.op) = x.z) := Lib.hid fun hj => ⟨fill_jmp at_ hj, (jmp_zero hx hj).1, (jmp_zero hx hj).2.1, (jmp_zero hx hj).2.2, (hg hj).1, (hg hj).2, by unfold goalI; omega⟩
  have HSS := Lib.hid fun k (h : k < 4) => sel_step hok h
  have HSL := Lib.hid fun k => sel_len hok k
  have HOA := Lib.hid fun j o ho => offs_at hok (j := j) (o := o) ho
  have HOK := Lib.hid hok
  have HS4 : Hid (selO (hasO x.op) 4 = offL (hasO x.op)) := Lib.hid rfl
  have HENT := Lib.hid hent
  have hm1 : 1 < w.heap.size := World.block_lt_of_cell? _ _ hm
  have HM := Lib.hid hm
  have HT := Lib.hid htab
  generalize hS : txt (lineL x at_) = S at *
  obtain ⟨n1, hn1⟩ : ∃ n1, txt (nmO x.op).data.toList = n1 := ⟨_, rfl⟩
  have HN1 := Lib.hid hn1
  rw [hn1] at H39
  clear hn1
  have HB1 : Hid (Below w.heap.size w (w.alloc (.cells #[.int .i64 0, .int .i64 0, .int .i64 0, .int .i64 0, .int .i64 0] 34))) := Lib.hid ((Below.refl _ _).alloc (Nat.le_refl _) _)
  have HX4 := Lib.hid (Blk.new w 34 #[.int .i64 0, .int .i64 0, .int .i64 0, .int .i64 0, .int .i64 0])
  have HM1 := Lib.hid ((HB1.out.cell hm1).trans HM.out)
  have z34 := zero34
  have ix := ix4
  clear hm htab hline hS hk1 hk2 hk3 hk4 hent
  go_enter Tryd.func26, Tryd.ntmps26
  go_upto_region 1 with fail
  generalize w.alloc (.cells #[.int .i64 0, .int .i64 0, .int .i64 0, .int .i64 0, .int .i64 0] 34) = w1 at *
  have hw1 := HX4.out.lt
  have HXW := Lib.hid (Blk.new w1 9 ((wordsL x at_).map fun l => Value.string (txt l)).toArray)
  have HB2 := Lib.hid (HB1.out.alloc HB1.out.size (.cells ((wordsL x at_).map fun l => Value.string (txt l)).toArray 9))
  have HX4b := Lib.hid (HX4.out.alloc (.cells ((wordsL x at_).map fun l => Value.string (txt l)).toArray 9))
  go_upto_region 2 with (go_at_call 24; refine (H24.out _ HM1.out).mono ?_; rintro e w2 ⟨rfl, rfl⟩)
  generalize w1.alloc (.cells ((wordsL x at_).map fun l => Value.string (txt l)).toArray 9) = w2 at *
  have hgw := HXW.out.lt
  have c0 : w2.cell? ⟨w1.heap.size, 0, none⟩ = some (.string (txt (Lib.itoa at_))) := HCW.out _ _ _ _ HXW.out HW0.out
  have HT2 := Lib.hid (fun W (h : Below w2.heap.size w2 W) => Joins.tab_stays pow10_named HT.out (HB2.out.trans (h.mono HB2.out.size)) (Nat.le_refl _))
  have HC0 := Lib.hid c0
  have HIT := Lib.hid (H19.out _ (HT2.out _ (Below.refl _ _).drew))
  generalize hNW : (wordsL x at_).length = nW at *
  have hn2 : 2 ≤ nW := by have := HWL.out; omega
  have hn3 : ¬ (nW : Int) < 2 := by omega
  have hn0 : (0 : Int) < (nW : Int) := by omega
  have hn1 : (1 : Int) < (nW : Int) := by omega
  have hp0 : 0 < nW := by omega
  have hp1 : 1 < nW := by omega
  have q0 : ((txt (Lib.itoa at_)).toList == (txt (Lib.itoa at_)).toList) = true := by simp
  generalize hs0 : txt (Lib.itoa at_) = s0 at *
  clear HB1 HM1 H24 hNW
  go_region_held3 (fun W => W.cell? ⟨w1.heap.size, 0, none⟩ = some (.string s0))
    (first | go_keep | exact (hb3.cell (p := ⟨w1.heap.size, 0, none⟩) hgw).trans HC0.out)
    ((go_at_call 19; (with_reducible refine HIT.out.mono ?_); rintro e w3 ⟨rfl, hb3⟩))
  have hb3 : Below w2.heap.size w2 w3 := ((Below.refl w2.heap.size w2).drew).trans hb3
  have HB3 := Lib.hid (HB2.out.trans (hb3.mono HB2.out.size))
  have HX4c := Lib.hid (HX4b.out.below hb3 HX4b.out.lt)
  have HXWc := Lib.hid (HXW.out.below hb3 HXW.out.lt)
  have hw23 := hb3.size
  have c1 : w3.cell? ⟨w1.heap.size, 1, none⟩ = some (.string n1) := by
    have := HCW.out _ _ _ _ HXWc.out HW1.out
    rw [HN1.out] at this
    exact this
  clear HC0 c0 hb3 HX4b HXW HX4 HIT HB2
  generalize hop : x.op = op at *
  go_upto_region 5 with (go_at_call 39; refine (H39.out _).mono ?_; rintro e w4 ⟨rfl, hb4⟩; have HB4 := Lib.hid (HB3.out.trans (hb4.mono HB3.out.size)); have HX4d := Lib.hid (HX4c.out.below hb4 HX4c.out.lt); have HXWd := Lib.hid (HXWc.out.below hb4 HXWc.out.lt); have hw34 := hb4.size; clear hb4)
  have HB5 := Lib.hid (HB4.out.alloc HB4.out.size (.cells #[.int .i64 op, .int .i64 0, .int .i64 0, .int .i64 0, .int .i64 0] 34))
  have HX7 := Lib.hid (Blk.new w4 34 #[.int .i64 op, .int .i64 0, .int .i64 0, .int .i64 0, .int .i64 0])
  have HX4e := Lib.hid (HX4d.out.alloc (.cells #[.int .i64 op, .int .i64 0, .int .i64 0, .int .i64 0, .int .i64 0] 34))
  have HXWe := Lib.hid (HXWd.out.alloc (.cells #[.int .i64 op, .int .i64 0, .int .i64 0, .int .i64 0, .int .i64 0] 34))
  generalize w4.alloc (.cells #[.int .i64 op, .int .i64 0, .int .i64 0, .int .i64 0, .int .i64 0] 34) = w5 at *
  have hw45 := HX7.out.lt
  have f0 : w5.cell? ⟨w4.heap.size, 0, none⟩ = some (.int .i64 op) := HX7.out.cell 0
  generalize ent op = en at *
  obtain ⟨nm, has, take, put, ends⟩ := en
  have henh := HENT.out
  dsimp only at henh H14 H15 H21
  subst henh
  generalize hasO op = has at *
  clear HENT c1 HX4c HX4d HXWc HXWd HB3 HB4 H39
  go_upto_region 6 with (go_at_call 14; refine (H14.out _).mono ?_; rintro e w6 ⟨rfl, hb6⟩; have HB6 := Lib.hid (HB5.out.trans (hb6.mono HB5.out.size)); have HX4f := Lib.hid (HX4e.out.below hb6 HX4e.out.lt); have HXWf := Lib.hid (HXWe.out.below hb6 HXWe.out.lt); have HX7f := Lib.hid (HX7.out.below hb6 HX7.out.lt); have hw56 := hb6.size; clear hb6)
  have HL7 : Hid (LnB w (w6.alloc (.cells #[.string nm, .int .i64 has, .int .i64 take, .int .i64 put, .bool ends] 50)) w1.heap.size w.heap.size w4.heap.size w6.heap.size ((wordsL x at_).map fun l => Value.string (txt l)).toArray #[.int .i64 0, .int .i64 0, .int .i64 0, .int .i64 0, .int .i64 0] #[.int .i64 op, .int .i64 0, .int .i64 0, .int .i64 0, .int .i64 0] #[.string nm, .int .i64 has, .int .i64 take, .int .i64 put, .bool ends]) :=
    Lib.hid ⟨HB6.out.alloc HB6.out.size _, HXWf.out.alloc _, HX4f.out.alloc _, HX7f.out.alloc _, Blk.new w6 50 _, Nat.le_refl _, by omega, by omega⟩
  have hw67 : w6.heap.size < (w6.alloc (.cells #[.string nm, .int .i64 has, .int .i64 take, .int .i64 put, .bool ends] 50)).heap.size := HL7.out.b8.lt
  generalize w6.alloc (.cells #[.string nm, .int .i64 has, .int .i64 take, .int .i64 put, .bool ends] 50) = w7 at *
  generalize hgw' : w1.heap.size = gw at *
  generalize hg7 : w4.heap.size = g7 at *
  generalize hg8 : w6.heap.size = g8 at *
  clear f0 HX4e HXWe HX7 HX4f HXWf HX7f HB5 HB6 H14 hgw'
  have hgw7 : gw < w7.heap.size := by omega
  have hg77 : g7 < w7.heap.size := by omega
  have hg47 : w.heap.size < w7.heap.size := by omega
  clear hw1 hgw hw23 hw34 hw45 hw56 hg7 hg8
  go_upto_block 0 with fail
  go_cut [10] (fun v wx => ∃ w8, w8 = wx ∧ OwnT w8 w7.heap.size v g7 (offL has) ∧ Below w7.heap.size w7 w8)
  case first =>
    as_aux_lemma =>
    go_wp2
    go_loopw [10, 53] (fun v i wx => ∃ k : Nat, k ≤ 4 ∧ i = .int .i64 (k : Int) ∧ OwnT wx w7.heap.size v g7 (selO has k) ∧ Below w7.heap.size w7 wx) (fun _ i _ => 4 - (intOf i).toNat)
    case atStart => exact ⟨0, by omega, rfl, World.ownsRow_nil _ _ _ _, Below.refl _ _⟩
    case round =>
      obtain ⟨k, hk, rfl, hown, hbel⟩ := hrel
      obtain ⟨A1, cc, rfl, hx1, hx2⟩ := own_form hown
      have HO := Lib.hid hown
      have HB := Lib.hid hbel
      have hws := hbel.size
      have e1 : wr.cell? ⟨g8, 1, none⟩ = some (.int .i64 has) := (HL7.out.below HB.out).b8.cell 1
      clear hown hbel hx1 hx2
      by_cases hk4 : k < 4
      · have hsl := HSL.out k
        have x0 := fun a b c d w => (ix4 a b c d w).1
        have x1 := fun a b c d w => (ix4 a b c d w).2.1
        have x2 := fun a b c d w => (ix4 a b c d w).2.2.1
        have x3 := fun a b c d w => (ix4 a b c d w).2.2.2
        obtain rfl | rfl | rfl | rfl : k = 0 ∨ k = 1 ∨ k = 2 ∨ k = 3 := by omega
        · simp only [show ((0 : Nat) : Int) = 0 from rfl]
          obtain rfl | rfl | rfl | rfl | rfl := HOK.out
          all_goals have HOn := Lib.hid fun n => own_drewN HO.out n
          all_goals have HBn := Lib.hid fun n => below_drewN HB.out n
          all_goals go_wp2
          all_goals go_quiet (fail)
          all_goals go_wp2_with (at_builtin; (refine app_t rfl (.tmp 63) (.tmp 65) rfl w7.heap.size g7 _ _ rfl ((HOn.out _).alloc _) _ _ 1 1 [1] rfl (Reads.builtN' _ 93 _ ([1].map (ptO g7)) 1 1 rfl rfl) (by omega) (by simp; omega) ?_); intro v2 w9 ho2 ha2; have HO2 := Lib.hid ho2; have HB2 := Lib.hid (below_app (Nat.le_refl _) ((HBn.out _).alloc hws _) ha2 ((HOn.out _).alloc _)); clear ho2 ha2)
          all_goals go_roundw
          all_goals first | (case rel => exact ⟨1, by omega, rfl, by first | exact HO2.out | exact HO.out | exact HOn.out _, by first | exact HB2.out | exact HBn.out _ | exact HB.out⟩) | skip
          all_goals decide
        · simp only [show ((1 : Nat) : Int) = 1 from rfl]
          obtain rfl | rfl | rfl | rfl | rfl := HOK.out
          all_goals have HOn := Lib.hid fun n => own_drewN HO.out n
          all_goals have HBn := Lib.hid fun n => below_drewN HB.out n
          all_goals go_wp2
          all_goals go_quiet (fail)
          all_goals go_wp2_with (at_builtin; (refine app_t rfl (.tmp 63) (.tmp 65) rfl w7.heap.size g7 _ _ rfl ((HOn.out _).alloc _) _ _ 1 1 [2] rfl (Reads.builtN' _ 93 _ ([2].map (ptO g7)) 1 1 rfl rfl) (by omega) (by simp; omega) ?_); intro v2 w9 ho2 ha2; have HO2 := Lib.hid ho2; have HB2 := Lib.hid (below_app (Nat.le_refl _) ((HBn.out _).alloc hws _) ha2 ((HOn.out _).alloc _)); clear ho2 ha2)
          all_goals go_roundw
          all_goals first | (case rel => exact ⟨2, by omega, rfl, by first | exact HO2.out | exact HO.out | exact HOn.out _, by first | exact HB2.out | exact HBn.out _ | exact HB.out⟩) | skip
          all_goals decide
        · simp only [show ((2 : Nat) : Int) = 2 from rfl]
          obtain rfl | rfl | rfl | rfl | rfl := HOK.out
          all_goals have HOn := Lib.hid fun n => own_drewN HO.out n
          all_goals have HBn := Lib.hid fun n => below_drewN HB.out n
          all_goals go_wp2
          all_goals go_quiet (fail)
          all_goals go_wp2_with (at_builtin; (refine app_t rfl (.tmp 63) (.tmp 65) rfl w7.heap.size g7 _ _ rfl ((HOn.out _).alloc _) _ _ 1 1 [3] rfl (Reads.builtN' _ 93 _ ([3].map (ptO g7)) 1 1 rfl rfl) (by omega) (by simp; omega) ?_); intro v2 w9 ho2 ha2; have HO2 := Lib.hid ho2; have HB2 := Lib.hid (below_app (Nat.le_refl _) ((HBn.out _).alloc hws _) ha2 ((HOn.out _).alloc _)); clear ho2 ha2)
          all_goals go_roundw
          all_goals first | (case rel => exact ⟨3, by omega, rfl, by first | exact HO2.out | exact HO.out | exact HOn.out _, by first | exact HB2.out | exact HBn.out _ | exact HB.out⟩) | skip
          all_goals decide
        · simp only [show ((3 : Nat) : Int) = 3 from rfl]
          obtain rfl | rfl | rfl | rfl | rfl := HOK.out
          all_goals have HOn := Lib.hid fun n => own_drewN HO.out n
          all_goals have HBn := Lib.hid fun n => below_drewN HB.out n
          all_goals go_wp2
          all_goals go_quiet (fail)
          all_goals go_wp2_with (at_builtin; (refine app_t rfl (.tmp 63) (.tmp 65) rfl w7.heap.size g7 _ _ rfl ((HOn.out _).alloc _) _ _ 1 1 [4] rfl (Reads.builtN' _ 93 _ ([4].map (ptO g7)) 1 1 rfl rfl) (by omega) (by simp; omega) ?_); intro v2 w9 ho2 ha2; have HO2 := Lib.hid ho2; have HB2 := Lib.hid (below_app (Nat.le_refl _) ((HBn.out _).alloc hws _) ha2 ((HOn.out _).alloc _)); clear ho2 ha2)
          all_goals go_roundw
          all_goals first | (case rel => exact ⟨4, by omega, rfl, by first | exact HO2.out | exact HO.out | exact HOn.out _, by first | exact HB2.out | exact HBn.out _ | exact HB.out⟩) | skip
          all_goals decide
      · obtain rfl : k = 4 := by omega
        go_wp2
        go_meet
        exact ⟨_, rfl, by have := HO.out; rw [HS4.out] at this; exact this, HB.out⟩
  case rest =>
    as_aux_lemma =>
    obtain ⟨w8, rfl, hown, hbel⟩ := hcut
    obtain ⟨A1, cc, rfl, hx1, hx2⟩ := own_form hown
    have HO := Lib.hid hown
    have HL8 := Lib.hid (HL7.out.below hbel)
    have hw78 := hbel.size
    have hol := HSL.out 4
    rw [HS4.out] at hol
    have HOL : Hid (∀ k, k < (offL has).length → ∃ o, (offL has)[k]? = some o) := Lib.hid fun k h => ⟨_, List.getElem?_eq_getElem h⟩
    have hHWL := HWL.out
    clear hown hbel hx1 hx2 HS4 HSS HL7 HSL HWL hn2 hn3 hn0 hn1 hp0 hp1
    generalize hno : (offL has).length = no at *
    clear hno
    have q1 : ((nW : Int) != 2 + (no : Int)) = false := by
      have : (nW : Int) = 2 + (no : Int) := by omega
      simp [this]
    have q2 : IntKind.i64.wrap (2 + (no : Int)) = 2 + (no : Int) := by rw [IntKind.wrap_i64]; omega
    have HHW := Lib.hid hHWL
    clear hHWL
    go_upto_block 2 with fail
    generalize hcw : ((wordsL x at_).map fun l => Value.string (txt l)).toArray = cw at *
    have HL8' : Hid (LnB w w8 gw w.heap.size g7 g8 cw #[.int .i64 0, .int .i64 0, .int .i64 0, .int .i64 0, .int .i64 0] (fillC x at_ has 0) #[.string nm, .int .i64 has, .int .i64 take, .int .i64 put, .bool ends]) := Lib.hid (by rw [HF0.out]; exact HL8.out)
    clear hcw HL8
    go_cut [] (fun wx => ∃ w9, w9 = wx ∧ LnB w w9 gw w.heap.size g7 g8 cw #[.int .i64 0, .int .i64 0, .int .i64 0, .int .i64 0, .int .i64 0] (fillC x at_ has no) #[.string nm, .int .i64 has, .int .i64 take, .int .i64 put, .bool ends])
    case first =>
      as_aux_lemma =>
      go_wp2
      go_loopw [77] (fun i wx => ∃ k : Nat, k ≤ no ∧ i = .int .i64 (k : Int) ∧ w8.heap.size ≤ wx.heap.size ∧ LnB w wx gw w.heap.size g7 g8 cw #[.int .i64 0, .int .i64 0, .int .i64 0, .int .i64 0, .int .i64 0] (fillC x at_ has k) #[.string nm, .int .i64 has, .int .i64 take, .int .i64 put, .bool ends] ∧ wx.ownsRow w7.heap.size 93 1 (.slice A1 no cc) (offL has).length ((offL has).map (ptO g7))) (fun i _ => no - (intOf i).toNat)
      case atStart => exact ⟨0, Nat.zero_le _, rfl, Nat.le_refl _, HL8'.out, HO.out⟩
      case round =>
        obtain ⟨k, hk, rfl, hwx, hL, hown⟩ := hrel
        have HL := Lib.hid hL
        have HO1 := Lib.hid hown
        clear hL hown
        by_cases hkn : k < no
        · obtain ⟨o, ho⟩ := HOL.out k hkn
          obtain ⟨bS, hA1, hbS, cp⟩ := ptO_at HO1.out ho
          subst hA1
          obtain ⟨ho1, ho2⟩ := HOA.out k o ho
          have cwd : wr.cell? ⟨gw, 2 + k, none⟩ = some (.string (txt (wordW x at_ o))) := HCW.out _ _ _ _ HL.out.bw (HWA.out k o ho)
          have c0 : wr.cell? ⟨g7, 0, none⟩ = some (.int .i64 op) := by rw [← hop]; exact HL.out.b7.cell 0
          have l1 : (0 : Int) ≤ (k : Int) := by omega
          have l2 : (k : Int) < (no : Int) := by omega
          have l3 : IntKind.i64.wrap (2 + (k : Int)) = 2 + (k : Int) := by rw [IntKind.wrap_i64]; omega
          have l4 : (2 + (k : Int)).toNat = 2 + k := by omega
          have l5 : (0 : Int) ≤ 2 + (k : Int) := by omega
          have l6 : 2 + (k : Int) < (nW : Int) := by have := HHW.out; omega
          have HFSk := Lib.hid (HFS.out k o ho)
          have H41o := Lib.hid fun w => H41.out o w ho1
          have H40o := Lib.hid fun h => H40.out h o
          have HWJo := Lib.hid fun h => HWJ.out h o
          obtain ⟨u, hu⟩ : ∃ u, fillV x at_ has k o = .int .i64 u := ⟨_, rfl⟩
          have HCU : Hid (∀ W, LnB w W gw w.heap.size g7 g8 cw #[.int .i64 0, .int .i64 0, .int .i64 0, .int .i64 0, .int .i64 0] (fillC x at_ has k) #[.string nm, .int .i64 has, .int .i64 take, .int .i64 put, .bool ends] → W.cell? ⟨g7, o, none⟩ = some (.int .i64 u)) := Lib.hid fun W h => by
            rw [h.b7.cell o, HFC.out k o ⟨ho1, ho2⟩, hu]
          clear ho hk hu
          generalize numW x at_ o = z at *
          generalize hwz : txt (wordW x at_ o) = wz at *
          generalize hzz : txt (Lib.itoa z) = zz at *
          cases hj : jmpO op with
          | true =>
            rw [hj] at H20
            have H40t := Lib.hid (H40o.out hj)
            clear hj hwz hzz
            go_wp2_with (first
              | (go_at_call 20; refine (H20.out _).mono ?_; rintro e wa ⟨rfl, rfl⟩)
              | (go_at_call 40; refine (H40t.out _).mono ?_; rintro e wb ⟨rfl, rfl⟩)
              | (go_at_call 41; refine (H41o.out _).mono ?_; rintro e wc ⟨rfl, hbc⟩; have HLc := Lib.hid (HL.out.below hbc); have HOc := Lib.hid (own_bel HO1.out hbc); have cu := HCU.out _ HLc.out; have fu : wc.frozen? ⟨g7, o, none⟩ = false := HLc.out.b7.frozen o; have hwc := hbc.size; clear hbc))
            go_roundw
            case rel => exact ⟨k + 1, by omega, by go_num, by simp; omega, by have := HLc.out.set7 o (.int .i64 z); rw [HFSk.out] at this; exact this, own_set HOc.out HLc.out.b7 (by decide)⟩
            case measure => simp [intOf]; omega
          | false =>
            rw [hj] at H20
            rw [show wz = zz by rw [← hwz, ← hzz, HWJo.out hj]] at cwd
            clear hj hwz hzz
            go_wp2_with (first
              | (go_at_call 20; refine (H20.out _).mono ?_; rintro e wa ⟨rfl, rfl⟩)
              | (go_at_call 41; refine (H41o.out _).mono ?_; rintro e wc ⟨rfl, hbc⟩; have HLc := Lib.hid (HL.out.below hbc); have HOc := Lib.hid (own_bel HO1.out hbc); have cu := HCU.out _ HLc.out; have fu : wc.frozen? ⟨g7, o, none⟩ = false := HLc.out.b7.frozen o; have hwc := hbc.size; clear hbc))
            go_roundw
            case rel => exact ⟨k + 1, by omega, by go_num, by simp; omega, by have := HLc.out.set7 o (.int .i64 z); rw [HFSk.out] at this; exact this, own_set HOc.out HLc.out.b7 (by decide)⟩
            case measure => simp [intOf]; omega
        · obtain rfl : k = no := by omega
          go_wp2
          go_meet
          exact ⟨_, rfl, HL.out⟩
    case rest =>
      obtain ⟨w9, rfl, hL9⟩ := hcut
      have HL9 := Lib.hid hL9
      clear hL9 HO HL8' hol q1 q2 HFS HFC HOA HOL HWA HCW HW0 HW1 HF0 H40 H41 HWJ
      cases hj : jmpO op with
      | false =>
        rw [hj] at H20
        rw [HFN.out hj] at HL9
        clear hj HFN HFJ H21
        have d0 : w9.cell? ⟨g7, 0, none⟩ = some (.int .i64 op) := HL9.out.b7.cell 0
        have d1 : w9.cell? ⟨g7, 1, none⟩ = some (.int .i64 x.a) := HL9.out.b7.cell 1
        have d2 : w9.cell? ⟨g7, 2, none⟩ = some (.int .i64 x.b) := HL9.out.b7.cell 2
        have d3 : w9.cell? ⟨g7, 3, none⟩ = some (.int .i64 x.c) := HL9.out.b7.cell 3
        have d4 : w9.cell? ⟨g7, 4, none⟩ = some (.int .i64 x.z) := HL9.out.b7.cell 4
        have e0 : w9.cell? ⟨g8, 0, none⟩ = some (.string nm) := HL9.out.b8.cell 0
        have e1 : w9.cell? ⟨g8, 1, none⟩ = some (.int .i64 has) := HL9.out.b8.cell 1
        have e2 : w9.cell? ⟨g8, 2, none⟩ = some (.int .i64 take) := HL9.out.b8.cell 2
        have e3 : w9.cell? ⟨g8, 3, none⟩ = some (.int .i64 put) := HL9.out.b8.cell 3
        have e4 : w9.cell? ⟨g8, 4, none⟩ = some (.bool ends) := HL9.out.b8.cell 4
        go_upto_region 37 with (first
          | (go_at_call 20; refine (H20.out _).mono ?_; rintro e wa ⟨rfl, rfl⟩)
          | (go_at_call 15; refine (H15.out _).mono ?_; rintro e w10 ⟨rfl, hb10⟩; have HLa := Lib.hid (HL9.out.below hb10); clear hb10))
        clear d0 d1 d2 d3 d4 e0 e1 e2 e3 e4
        have d0 : w10.cell? ⟨g7, 0, none⟩ = some (.int .i64 op) := HLa.out.b7.cell 0
        have d1 : w10.cell? ⟨g7, 1, none⟩ = some (.int .i64 x.a) := HLa.out.b7.cell 1
        have d2 : w10.cell? ⟨g7, 2, none⟩ = some (.int .i64 x.b) := HLa.out.b7.cell 2
        have d3 : w10.cell? ⟨g7, 3, none⟩ = some (.int .i64 x.c) := HLa.out.b7.cell 3
        have d4 : w10.cell? ⟨g7, 4, none⟩ = some (.int .i64 x.z) := HLa.out.b7.cell 4
        have f0 : w10.cell? ⟨w.heap.size, 0, none⟩ = some (.int .i64 0) := HLa.out.b4.cell 0
        have f1 : w10.cell? ⟨w.heap.size, 1, none⟩ = some (.int .i64 0) := HLa.out.b4.cell 1
        have f2 : w10.cell? ⟨w.heap.size, 2, none⟩ = some (.int .i64 0) := HLa.out.b4.cell 2
        have f3 : w10.cell? ⟨w.heap.size, 3, none⟩ = some (.int .i64 0) := HLa.out.b4.cell 3
        have f4 : w10.cell? ⟨w.heap.size, 4, none⟩ = some (.int .i64 0) := HLa.out.b4.cell 4
        have y0 : w10.frozen? ⟨w.heap.size, 0, none⟩ = false := HLa.out.b4.frozen 0
        have y1 : w10.frozen? ⟨w.heap.size, 1, none⟩ = false := HLa.out.b4.frozen 1
        have y2 : w10.frozen? ⟨w.heap.size, 2, none⟩ = false := HLa.out.b4.frozen 2
        have y3 : w10.frozen? ⟨w.heap.size, 3, none⟩ = false := HLa.out.b4.frozen 3
        have y4 : w10.frozen? ⟨w.heap.size, 4, none⟩ = false := HLa.out.b4.frozen 4
        go_wp2
        subst hop
        exact line_end HLa.out rfl rfl
      | true =>
        rw [hj] at H20
        obtain ⟨hF, ha, hb, hc, hg1, hg2, hgz⟩ := HFJ.out hj
        rw [hF] at HL9
        clear hj HFN HFJ hF
        generalize goalI x at_ = gl at *
        have HWR : Hid (IntKind.i64.wrap (gl - IntKind.i64.wrap (at_ + szO op)) = x.z) := Lib.hid (by have := szO_pos hin; rw [IntKind.wrap_i64, IntKind.wrap_i64]; omega)
        clear hgz
        have d0 : w9.cell? ⟨g7, 0, none⟩ = some (.int .i64 op) := HL9.out.b7.cell 0
        have d1 : w9.cell? ⟨g7, 1, none⟩ = some (.int .i64 0) := HL9.out.b7.cell 1
        have d2 : w9.cell? ⟨g7, 2, none⟩ = some (.int .i64 0) := HL9.out.b7.cell 2
        have d3 : w9.cell? ⟨g7, 3, none⟩ = some (.int .i64 0) := HL9.out.b7.cell 3
        have d4 : w9.cell? ⟨g7, 4, none⟩ = some (.int .i64 gl) := HL9.out.b7.cell 4
        have e0 : w9.cell? ⟨g8, 0, none⟩ = some (.string nm) := HL9.out.b8.cell 0
        have e1 : w9.cell? ⟨g8, 1, none⟩ = some (.int .i64 has) := HL9.out.b8.cell 1
        have e2 : w9.cell? ⟨g8, 2, none⟩ = some (.int .i64 take) := HL9.out.b8.cell 2
        have e3 : w9.cell? ⟨g8, 3, none⟩ = some (.int .i64 put) := HL9.out.b8.cell 3
        have e4 : w9.cell? ⟨g8, 4, none⟩ = some (.bool ends) := HL9.out.b8.cell 4
        have n1 : ¬ gl < 0 := by omega
        have n2 : ¬ (32767 : Int) < gl := by omega
        have n3 : (decide (gl < 0)) = false := by simp; omega
        have n4 : (decide ((32767 : Int) < gl)) = false := by simp; omega
        go_upto_region 34 with (go_at_call 20; refine (H20.out _).mono ?_; rintro e wa ⟨rfl, rfl⟩)
        have hS5 : (fun W : World => W.cell? ⟨g7, 4, none⟩ = some (.int .i64 gl) ∧ W.cell? ⟨g8, 0, none⟩ = some (.string nm) ∧ W.cell? ⟨g8, 1, none⟩ = some (.int .i64 has) ∧ W.cell? ⟨g8, 2, none⟩ = some (.int .i64 take) ∧ W.cell? ⟨g8, 3, none⟩ = some (.int .i64 put) ∧ W.cell? ⟨g8, 4, none⟩ = some (.bool ends)) w9.drew := ⟨d4, e0, e1, e2, e3, e4⟩
        have HLd : Hid (LnB w w9.drew gw w.heap.size g7 g8 cw #[.int .i64 0, .int .i64 0, .int .i64 0, .int .i64 0, .int .i64 0] #[.int .i64 op, .int .i64 0, .int .i64 0, .int .i64 0, .int .i64 gl] #[.string nm, .int .i64 has, .int .i64 take, .int .i64 put, .bool ends]) := Lib.hid ⟨HL9.out.bel.drew, HL9.out.bw, HL9.out.b4, HL9.out.b7, HL9.out.b8, HL9.out.n4, HL9.out.n7, HL9.out.d47⟩
        clear d0 d1 d2 d3 d4 e0 e1 e2 e3 e4
        refine wp_region_x (s := 8) (S := fun W => W.cell? ⟨g7, 4, none⟩ = some (.int .i64 gl) ∧ W.cell? ⟨g8, 0, none⟩ = some (.string nm) ∧ W.cell? ⟨g8, 1, none⟩ = some (.int .i64 has) ∧ W.cell? ⟨g8, 2, none⟩ = some (.int .i64 take) ∧ W.cell? ⟨g8, 3, none⟩ = some (.int .i64 put) ∧ W.cell? ⟨g8, 4, none⟩ = some (.bool ends)) (by kernel_rfl) hS5 (fun hHeld => ?_)
        refine wpAnyX_take (i := 0) (v := ?_) (by simp only [List.getElem?_toArray, List.getElem?_cons_zero]; rfl) (by kernel_rfl) (by kernel_rfl) (by kernel_rfl) (by kernel_rfl) (by exact fun _ _ _ h => h) (Or.inl ⟨by rfl, ?_⟩) (by assumption) ?_
        rotate_left
        · intro w hSw; (try dsimp only at hSw); go_split_ands; go_simp <;> with_reducible rfl
        try simp only [Act.put, List.setIfInBounds_toArray, List.set_cons_zero, List.set_cons_succ]
        refine wpAnyX_take (i := 1) (v := ?_) (by simp only [List.getElem?_toArray, List.getElem?_cons_succ, List.getElem?_cons_zero]; rfl) (by kernel_rfl) (by kernel_rfl) (by kernel_rfl) (by kernel_rfl) (by exact fun _ _ _ h => h) (Or.inl ⟨by rfl, ?_⟩) (by assumption) ?_
        rotate_left
        · intro w hSw; (try dsimp only at hSw); go_split_ands; go_simp <;> with_reducible rfl
        try simp only [Act.put, List.setIfInBounds_toArray, List.set_cons_zero, List.set_cons_succ]
        refine wpAnyX_take (i := 2) (v := ?_) (by simp only [List.getElem?_toArray, List.getElem?_cons_succ, List.getElem?_cons_zero]; rfl) (by kernel_rfl) (by kernel_rfl) (by kernel_rfl) (by kernel_rfl) (by exact fun _ _ _ h => h) (Or.inl ⟨by rfl, ?_⟩) (by assumption) ?_
        rotate_left
        · intro w hSw; (try dsimp only at hSw); go_split_ands; go_simp <;> with_reducible rfl
        try simp only [Act.put, List.setIfInBounds_toArray, List.set_cons_zero, List.set_cons_succ]
        refine wpAnyX_take (i := 3) (v := ?_) (by simp only [List.getElem?_toArray, List.getElem?_cons_succ, List.getElem?_cons_zero]; rfl) (by kernel_rfl) (by kernel_rfl) (by kernel_rfl) (by kernel_rfl) (by exact fun _ _ _ h => h) (Or.inl ⟨by rfl, ?_⟩) (by assumption) ?_
        rotate_left
        · intro w hSw; (try dsimp only at hSw); go_split_ands; go_simp <;> with_reducible rfl
        try simp only [Act.put, List.setIfInBounds_toArray, List.set_cons_zero, List.set_cons_succ]
        refine wpAnyX_one (i := 4) (by kernel_rfl) (by simp only [List.getElem?_toArray, List.getElem?_cons_succ, List.getElem?_cons_zero]; rfl) (fun K2 hK2 => ?_)
        go_simp
        go_at_call 21
        refine (H21.out _).mono ?_
        rintro e wb ⟨rfl, hbb⟩
        have HLb := Lib.hid (HLd.out.below hbb)
        clear hbb
        have hSb : (fun W : World => W.cell? ⟨g7, 4, none⟩ = some (.int .i64 gl) ∧ W.cell? ⟨g8, 0, none⟩ = some (.string nm) ∧ W.cell? ⟨g8, 1, none⟩ = some (.int .i64 has) ∧ W.cell? ⟨g8, 2, none⟩ = some (.int .i64 take) ∧ W.cell? ⟨g8, 3, none⟩ = some (.int .i64 put) ∧ W.cell? ⟨g8, 4, none⟩ = some (.bool ends)) wb := ⟨HLb.out.b7.cell 4, HLb.out.b8.cell 0, HLb.out.b8.cell 1, HLb.out.b8.cell 2, HLb.out.b8.cell 3, HLb.out.b8.cell 4⟩
        try go_simp
        refine hK2.out _ _ (hSb) (fun hHeld => ?_)
        clear hK2 K2
        try simp only [Act.put, List.setIfInBounds_toArray, List.set_cons_zero, List.set_cons_succ]
        refine wpAnyX_take (i := 5) (v := ?_) (by simp only [List.getElem?_toArray, List.getElem?_cons_succ, List.getElem?_cons_zero]; rfl) (by kernel_rfl) (by kernel_rfl) (by kernel_rfl) (by kernel_rfl) (by exact fun _ _ _ h => h) (Or.inl ⟨by rfl, ?_⟩) (by assumption) ?_
        rotate_left
        · intro w hSw; (try dsimp only at hSw); go_split_ands; go_simp <;> with_reducible rfl
        try simp only [Act.put, List.setIfInBounds_toArray, List.set_cons_zero, List.set_cons_succ]
        refine wpAnyX_take (i := 6) (v := ?_) (by simp only [List.getElem?_toArray, List.getElem?_cons_succ, List.getElem?_cons_zero]; rfl) (by kernel_rfl) (by kernel_rfl) (by kernel_rfl) (by kernel_rfl) (by exact fun _ _ _ h => h) (Or.inl ⟨by rfl, ?_⟩) (by assumption) ?_
        rotate_left
        · intro w hSw; (try dsimp only at hSw); go_split_ands; go_simp <;> with_reducible rfl
        try simp only [Act.put, List.setIfInBounds_toArray, List.set_cons_zero, List.set_cons_succ]
        refine wpAnyX_take (i := 7) (v := ?_) (by simp only [List.getElem?_toArray, List.getElem?_cons_succ, List.getElem?_cons_zero]; rfl) (by kernel_rfl) (by kernel_rfl) (by kernel_rfl) (by kernel_rfl) (by exact fun _ _ _ h => h) (Or.inl ⟨by rfl, ?_⟩) (by assumption) ?_
        rotate_left
        · intro w hSw; (try dsimp only at hSw); go_split_ands; go_simp <;> with_reducible rfl
        try simp only [Act.put, List.setIfInBounds_toArray, List.set_cons_zero, List.set_cons_succ]
        refine wpAnyX_last (by kernel_rfl) (by simp only [List.getElem?_toArray, List.getElem?_cons_succ, List.getElem?_cons_zero]; rfl) (fun K2 hK2 => ?_)
        have x4 : wb.cell? ⟨g7, 4, none⟩ = some (.int .i64 gl) := HLb.out.b7.cell 4
        have fz : wb.frozen? ⟨g7, 4, none⟩ = false := HLb.out.b7.frozen 4
        go_simp
        refine hK2.out _ _ ?_
        clear hK2 K2
        try simp only [Act.put, List.setIfInBounds_toArray, List.set_cons_zero, List.set_cons_succ]
        refine wpAnyX_done (by kernel_rfl) ?_ _
        rw [HWR.out]
        have HLz : Hid (LnB w (wb.setCell ⟨g7, 4, none⟩ (.int .i64 x.z)) gw w.heap.size g7 g8 cw #[.int .i64 0, .int .i64 0, .int .i64 0, .int .i64 0, .int .i64 0] #[.int .i64 op, .int .i64 x.a, .int .i64 x.b, .int .i64 x.c, .int .i64 x.z] #[.string nm, .int .i64 has, .int .i64 take, .int .i64 put, .bool ends]) := Lib.hid (by rw [ha, hb, hc]; exact HLb.out.set7 4 (.int .i64 x.z))
        clear hS5 hSb x4 fz HLd HLb ha hb hc
        generalize wb.setCell ⟨g7, 4, none⟩ (.int .i64 x.z) = wz at *
        have d0 : wz.cell? ⟨g7, 0, none⟩ = some (.int .i64 op) := HLz.out.b7.cell 0
        have d1 : wz.cell? ⟨g7, 1, none⟩ = some (.int .i64 x.a) := HLz.out.b7.cell 1
        have d2 : wz.cell? ⟨g7, 2, none⟩ = some (.int .i64 x.b) := HLz.out.b7.cell 2
        have d3 : wz.cell? ⟨g7, 3, none⟩ = some (.int .i64 x.c) := HLz.out.b7.cell 3
        have d4 : wz.cell? ⟨g7, 4, none⟩ = some (.int .i64 x.z) := HLz.out.b7.cell 4
        have e0 : wz.cell? ⟨g8, 0, none⟩ = some (.string nm) := HLz.out.b8.cell 0
        have e1 : wz.cell? ⟨g8, 1, none⟩ = some (.int .i64 has) := HLz.out.b8.cell 1
        have e2 : wz.cell? ⟨g8, 2, none⟩ = some (.int .i64 take) := HLz.out.b8.cell 2
        have e3 : wz.cell? ⟨g8, 3, none⟩ = some (.int .i64 put) := HLz.out.b8.cell 3
        have e4 : wz.cell? ⟨g8, 4, none⟩ = some (.bool ends) := HLz.out.b8.cell 4
        go_upto_region 37 with (first
          | (go_at_call 15; refine (H15.out _).mono ?_; rintro e w10 ⟨rfl, hb10⟩; have HLa := Lib.hid (HLz.out.below hb10); clear hb10))
        clear d0 d1 d2 d3 d4 e0 e1 e2 e3 e4
        have d0 : w10.cell? ⟨g7, 0, none⟩ = some (.int .i64 op) := HLa.out.b7.cell 0
        have d1 : w10.cell? ⟨g7, 1, none⟩ = some (.int .i64 x.a) := HLa.out.b7.cell 1
        have d2 : w10.cell? ⟨g7, 2, none⟩ = some (.int .i64 x.b) := HLa.out.b7.cell 2
        have d3 : w10.cell? ⟨g7, 3, none⟩ = some (.int .i64 x.c) := HLa.out.b7.cell 3
        have d4 : w10.cell? ⟨g7, 4, none⟩ = some (.int .i64 x.z) := HLa.out.b7.cell 4
        have f0 : w10.cell? ⟨w.heap.size, 0, none⟩ = some (.int .i64 0) := HLa.out.b4.cell 0
        have f1 : w10.cell? ⟨w.heap.size, 1, none⟩ = some (.int .i64 0) := HLa.out.b4.cell 1
        have f2 : w10.cell? ⟨w.heap.size, 2, none⟩ = some (.int .i64 0) := HLa.out.b4.cell 2
        have f3 : w10.cell? ⟨w.heap.size, 3, none⟩ = some (.int .i64 0) := HLa.out.b4.cell 3
        have f4 : w10.cell? ⟨w.heap.size, 4, none⟩ = some (.int .i64 0) := HLa.out.b4.cell 4
        have y0 : w10.frozen? ⟨w.heap.size, 0, none⟩ = false := HLa.out.b4.frozen 0
        have y1 : w10.frozen? ⟨w.heap.size, 1, none⟩ = false := HLa.out.b4.frozen 1
        have y2 : w10.frozen? ⟨w.heap.size, 2, none⟩ = false := HLa.out.b4.frozen 2
        have y3 : w10.frozen? ⟨w.heap.size, 3, none⟩ = false := HLa.out.b4.frozen 3
        have y4 : w10.frozen? ⟨w.heap.size, 4, none⟩ = false := HLa.out.b4.frozen 4
        go_wp2
        subst hop
        exact line_end HLa.out rfl rfl
end Go.Proofs.YtaeegkljldngmaaDoor
