/-
  Read's contract at an oop's own text.
-/
import Derived.Test.YtlopmhnakehnaaaDoorShow
import Derived.Laws.RangeString
import Derived.Laws.RangeAny
import Derived.Lib.OthersKept
import Derived.Lib.SmallJoins
namespace Go.Proofs.YtlopmhnakehnaaaDoor
open Go Go.RowKit

theorem below3 {w W W' : World} {t : ByteArray} (h1 : Below w.heap.size w W) (h2 : Below (Lib.bytesWorld W 5 t).heap.size (Lib.bytesWorld W 5 t) W') : Below w.heap.size w W' := by
  have h3 := h1.trans ((Joins.below_bytesWorld W.heap.size W 5 t (Nat.le_refl _)).mono h1.size)
  exact h3.trans (h2.mono h3.size)
theorem pow10_named : Tryd.prog.globalNamed "internal/strconv.uint64pow10" = some 3 := by kernel_rfl
theorem read_none (w : World) : Calls Tryd.prog 33 #[.string ⟨#[45]⟩] w fun e w' => e = .returned (.tuple #[.int .u32 0, .int .i64 0]) ∧ Below w.heap.size w w' := by
  go_enter Tryd.func33, Tryd.ntmps33
  go_wp2
  go_ret2
  exact ⟨rfl, Below.refl _ _⟩
set_option maxRecDepth 1000000 in
set_option maxHeartbeats 4000000 in
theorem read_one (s : ByteArray) (n o : Int) (w : World) (hs : s.size ≤ 18) (hd : (s.toList == [45]) = false) (ha : ∀ (i : Nat) (h : i < s.size), (s[i]'h).toNat < 128 ∧ (s[i]'h).toNat ≠ 64)
    (hat : Lib.atoi s.data.toList = some n) (hn1 : -1073741824 ≤ n) (hn2 : n ≤ 1073741823) (h1 : 0 ≤ o) (h2 : o ≤ 4294967295) (ho : (2 * n + 1) % 4294967296 = o) (hsh : showS o = s)
    (htab : Lib.TabIs Tryd.prog w "internal/strconv.uint64pow10" .u64 Lib.pow10Tab) :
    Calls Tryd.prog 33 #[.string s] w fun e w' => e = .returned (.tuple #[.int .u32 o, .int .i64 0]) ∧ Below w.heap.size w w' := by
  have Ha := Lib.hid ha
  have Hat := Lib.hid hat
  have Ho := Lib.hid ho
  have Hsh := Lib.hid hsh
  have Ht := Lib.hid htab
  clear ha hat ho hsh htab
  go_enter Tryd.func33, Tryd.ntmps33
  go_wp2
  go_loopw [4, 5] (fun f d w' => f = .func (.func 9) #[] #[] ∧ d = .string s ∧ ∃ pos : Nat, w' = w.iter s pos) (fun _ _ w' => s.size - w'.iterPos w.heap.size)
  case atStart => exact ⟨rfl, rfl, 0, rfl⟩
  case round =>
    obtain ⟨rfl, rfl, pos, rfl⟩ := hrel
    by_cases hp : pos < s.size
    · have hl := (Ha.out pos hp).1
      have hm := (Ha.out pos hp).2
      have hnx : ∀ ty, (Instr.next (.pointer (some ⟨w.heap.size, 0, none⟩)) true ty).run Tryd.prog (w.iter s pos) = _ := fun ty => run_next_ascii w s pos ty hp hl
      generalize hc : ((s[pos]'hp).toNat : Int) = c at hnx
      have hm' : (c == 64) = false := by
        rw [beq_eq_false_iff_ne]
        omega
      have hq : (0:Int) ≤ (pos : Int) := by omega
      clear hl hm
      go_wp2
      all_goals
        go_roundw
        case rel => exact ⟨rfl, rfl, _, rfl⟩
        case measure =>
          simp
          omega
    · have hnx : ∀ ty, (Instr.next (.pointer (some ⟨w.heap.size, 0, none⟩)) true ty).run Tryd.prog (w.iter s pos) = _ := fun ty => run_next_end w s pos ty hp
      have hb1 : Below w.heap.size w (w.iter s pos) := (Below.refl _ w).alloc (Nat.le_refl _) _
      generalize w.iter s pos = W at *
      clear hp
      go_wp2_with (first
        | (go_at_call 37; refine (Tryd.strconv_Atoi s n hs Hat.out _).mono ?_; rintro e w' ⟨rfl, t, rfl⟩)
        | (go_at_call 9; refine (small_in n _ hn1 hn2).mono ?_; rintro e w' ⟨rfl, rfl⟩; rw [Ho.out])
        | (go_at_call 34; refine (show_any o _ h1 h2 (Joins.tab_stays pow10_named Ht.out (hb1.trans ((Joins.below_bytesWorld _ _ _ _ (Nat.le_refl _)).mono hb1.size)) (Nat.le_refl _))).mono ?_; rintro e w' ⟨rfl, hb2⟩; rw [Hsh.out]))
      go_ret2
      refine ⟨rfl, ?_⟩
      exact below3 hb1 hb2
set_option maxRecDepth 1000000 in
set_option maxHeartbeats 4000000 in
theorem read_two (s : ByteArray) (n o : Int) (w : World) (hs : s.size ≤ 18) (hd : (s.toList == [45]) = false) (hp0 : 0 < s.size) (ha : ∀ (i : Nat) (h : i < s.size), (s[i]'h).toNat < 128 ∧ (i = 0 → (s[i]'h).toNat = 64))
    (d : ByteArray) (hdl : d.size ≤ 18) (hdx : s.extract 1 s.size = d) (hat : Lib.atoi d.data.toList = some n) (hn1 : 1 ≤ n) (hn2 : n ≤ 2147483647) (h1 : 0 ≤ o) (h2 : o ≤ 4294967295) (ho : 2 * n = o) (hsh : showS o = s)
    (htab : Lib.TabIs Tryd.prog w "internal/strconv.uint64pow10" .u64 Lib.pow10Tab) :
    Calls Tryd.prog 33 #[.string s] w fun e w' => e = .returned (.tuple #[.int .u32 o, .int .i64 0]) ∧ Below w.heap.size w w' := by
  have Ha := Lib.hid ha
  have Hat := Lib.hid hat
  have Ho := Lib.hid ho
  have Hsh := Lib.hid hsh
  have Ht := Lib.hid htab
  clear ha hat ho hsh htab
  go_enter Tryd.func33, Tryd.ntmps33
  go_wp2
  go_loopw [4, 5] (fun f e w' => ∃ pos : Nat, w' = w.iter s pos ∧ ((pos = 0 ∧ f = .func (.func 9) #[] #[] ∧ e = .string s) ∨ (0 < pos ∧ f = .func (.func 19) #[] #[] ∧ e = .string d))) (fun _ _ w' => s.size - w'.iterPos w.heap.size)
  case atStart => exact ⟨0, rfl, .inl ⟨rfl, rfl, rfl⟩⟩
  case round =>
    obtain ⟨pos, rfl, hc⟩ := hrel
    by_cases hp : pos < s.size
    · have hl := (Ha.out pos hp).1
      have hm := (Ha.out pos hp).2
      have hnx : ∀ ty, (Instr.next (.pointer (some ⟨w.heap.size, 0, none⟩)) true ty).run Tryd.prog (w.iter s pos) = _ := fun ty => run_next_ascii w s pos ty hp hl
      rcases hc with ⟨rfl, rfl, rfl⟩ | ⟨hq, rfl, rfl⟩
      · have hm' := hm rfl
        rw [show ((s[0]'hp).toNat : Int) = 64 by omega] at hnx
        have h1s : 1 ≤ s.size := by omega
        clear hl hm hm'
        go_wp2
        go_roundw
        case rel => exact ⟨_, rfl, .inr ⟨by omega, rfl, rfl⟩⟩
        case measure =>
          simp
          omega
      · generalize hc : ((s[pos]'hp).toNat : Int) = c at hnx
        have hm' : ((pos : Int) == 0) = false := by
          rw [beq_eq_false_iff_ne]
          omega
        have hq' : (0:Int) ≤ (pos : Int) := by omega
        clear hl hm
        go_wp2
        go_roundw
        case rel => exact ⟨_, rfl, .inr ⟨by omega, rfl, rfl⟩⟩
        case measure =>
          simp
          omega
    · have hnx : ∀ ty, (Instr.next (.pointer (some ⟨w.heap.size, 0, none⟩)) true ty).run Tryd.prog (w.iter s pos) = _ := fun ty => run_next_end w s pos ty hp
      have hb1 : Below w.heap.size w (w.iter s pos) := (Below.refl _ w).alloc (Nat.le_refl _) _
      rcases hc with ⟨rfl, rfl, rfl⟩ | ⟨hq, rfl, rfl⟩
      · exact absurd hp0 hp
      generalize w.iter s pos = W at *
      clear hp hq
      go_wp2_with (first
        | (go_at_call 37; refine (Tryd.strconv_Atoi d n hdl Hat.out _).mono ?_; rintro e w' ⟨rfl, t, rfl⟩)
        | (go_at_call 19; refine (at_in n _ hn1 hn2).mono ?_; rintro e w' ⟨rfl, rfl⟩; rw [Ho.out])
        | (go_at_call 34; refine (show_any o _ h1 h2 (Joins.tab_stays pow10_named Ht.out (hb1.trans ((Joins.below_bytesWorld _ _ _ _ (Nat.le_refl _)).mono hb1.size)) (Nat.le_refl _))).mono ?_; rintro e w' ⟨rfl, hb2⟩; rw [Hsh.out]))
      go_ret2
      refine ⟨rfl, ?_⟩
      exact below3 hb1 hb2
theorem ba_get (l : List UInt8) (i : Nat) (h : i < (ByteArray.mk l.toArray).size) : (ByteArray.mk l.toArray)[i]'h = l[i]'(by have h' : i < l.toArray.size := h; simpa using h') := by
  show (l.toArray)[i]'_ = _
  simp
theorem val_bounds (o : Int) (h1 : 0 ≤ o) (h2 : o ≤ 4294967295) (h3 : o % 2 = 1) : -1073741824 ≤ valN o ∧ valN o ≤ 1073741823 ∧ (2 * valN o + 1) % 4294967296 = o := by
  unfold valN
  split <;> omega
theorem at_itoa (o : Int) : (⟨#[64]⟩ : ByteArray) ++ ⟨(Lib.itoa (o / 2)).toArray⟩ = ⟨(64 :: Lib.itoa (o / 2)).toArray⟩ := by
  show (⟨[64].toArray⟩ : ByteArray) ++ _ = _
  rw [ByteArray.mk_append_mk]
  rfl
/-- Read at an oop's own text. -/
theorem read_show (o : Int) (w : World) (h1 : 0 ≤ o) (h2 : o ≤ 4294967295) (htab : Lib.TabIs Tryd.prog w "internal/strconv.uint64pow10" .u64 Lib.pow10Tab) :
    Calls Tryd.prog 33 #[.string (showS o)] w fun e w' => e = .returned (.tuple #[.int .u32 o, .int .i64 0]) ∧ Below w.heap.size w w' := by
  by_cases h0 : o = 0
  · subst h0
    exact read_none w
  · by_cases h3 : o % 2 = 1
    · obtain ⟨v1, v2, v3⟩ := val_bounds o h1 h2 h3
      have es : showS o = ⟨(Lib.itoa (valN o)).toArray⟩ := by unfold showS; rw [if_neg h0, if_pos h3]
      have hl := (itoa_len (n := valN o) (by omega) (by omega)).1
      refine read_one (showS o) (valN o) o w ?_ ?_ ?_ ?_ v1 v2 h1 h2 v3 rfl htab
      · rw [es]
        show (Lib.itoa (valN o)).toArray.size ≤ 18
        simp
        omega
      · rw [es, ByteArray.toList_mk, beq_eq_false_iff_ne]
        exact itoa_ne _
      · rw [es]
        intro i h
        rw [ba_get]
        exact itoa_ascii _ _ (List.getElem_mem _)
      · rw [es]
        show Lib.atoi (Lib.itoa (valN o)).toArray.toList = _
        rw [List.toList_toArray]
        exact atoi_itoa _
    · have es : showS o = ⟨(64 :: Lib.itoa (o / 2)).toArray⟩ := by unfold showS; rw [if_neg h0, if_neg h3, at_itoa]
      have hl := (itoa_len (n := o / 2) (by omega) (by omega)).1
      refine read_two (showS o) (o / 2) o w ?_ ?_ ?_ ?_ ⟨(Lib.itoa (o / 2)).toArray⟩ ?_ ?_ ?_ (by omega) (by omega) h1 h2 (by omega) rfl htab
      · rw [es]
        show (64 :: Lib.itoa (o / 2)).toArray.size ≤ 18
        simp
        omega
      · rw [es, ByteArray.toList_mk, beq_eq_false_iff_ne]
        intro h
        simp at h
      · rw [es]
        show 0 < (64 :: Lib.itoa (o / 2)).toArray.size
        simp
      · rw [es]
        intro i h
        rw [ba_get]
        cases i with
        | zero =>
          rw [List.getElem_cons_zero]
          exact ⟨by decide, fun _ => by decide⟩
        | succ i =>
          rw [List.getElem_cons_succ]
          exact ⟨(itoa_ascii _ _ (List.getElem_mem _)).1, fun h => absurd h (by omega)⟩
      · show (Lib.itoa (o / 2)).toArray.size ≤ 18
        simp
        omega
      · rw [es]
        apply ByteArray.ext
        rw [ByteArray.data_extract]
        show (64 :: Lib.itoa (o / 2)).toArray.extract 1 (64 :: Lib.itoa (o / 2)).toArray.size = _
        simp
      · show Lib.atoi (Lib.itoa (o / 2)).toArray.toList = _
        rw [List.toList_toArray]
        exact atoi_itoa _
end Go.Proofs.YtlopmhnakehnaaaDoor
