/-
  Parts RefA, RefB, LxK, RefC, RefD of the proof. No statement of the seat is proved here.
-/
import Derived.Test.YtbnlnndeajjenaaGreatP24
import Derived.Laws.MakeOwn
import Derived.Test.YtbnlnndeajjenaaGreatP04
set_option maxHeartbeats 4000000
namespace Go.Proofs.YtbnlnndeajjenaaGreat
open Go.RowKit
set_option maxRecDepth 100000 in
theorem letB_range (x : UInt8) : Lx.letB x = (decide (97 ≤ x.toNat ∧ x.toNat ≤ 122) || decide (65 ≤ x.toNat ∧ x.toNat ≤ 90) || decide (x.toNat = 95)) := by
 have := Lx.all_u8 (p := fun x => Lx.letB x == (decide (97 ≤ x.toNat ∧ x.toNat ≤ 122) || decide (65 ≤ x.toNat ∧ x.toNat ≤ 90) || decide (x.toNat = 95))) (by decide) x
 simpa using this
set_option maxRecDepth 100000 in
theorem digB_rangeB (x : UInt8) : Lx.digB x = decide (48 ≤ x.toNat ∧ x.toNat ≤ 57) := by
 have := Lx.all_u8 (p := fun x => Lx.digB x == decide (48 ≤ x.toNat ∧ x.toNat ≤ 57)) (by decide) x
 simpa using this
set_option maxRecDepth 100000 in
theorem binB_in (x : UInt8) : [43, 45, 42, 47, 92, 60, 62, 61, 126, 64, 37, 38, 63, 33, 44].contains x = Lx.binB x := by
 have := Lx.all_u8 (p := fun x => [43, 45, 42, 47, 92, 60, 62, 61, 126, 64, 37, 38, 63, 33, 44].contains x == Lx.binB x) (by decide) x
 simpa using this
set_option maxRecDepth 100000 in
theorem blank_in (x : UInt8) : [9, 10, 12, 13, 32].contains x = (Lx.cls x == 1) := by
 have := Lx.all_u8 (p := fun x => [9, 10, 12, 13, 32].contains x == (Lx.cls x == 1)) (by decide) x
 simpa using this
set_option maxRecDepth 100000 in
theorem mark_in (x : UInt8) : [40, 41, 91, 93, 123, 125, 46, 59, 94, 58, 124].contains x = (Lx.cls x == 5) := by
 have := Lx.all_u8 (p := fun x => [40, 41, 91, 93, 123, 125, 46, 59, 94, 58, 124].contains x == (Lx.cls x == 5)) (by decide) x
 simpa using this
set_option maxRecDepth 20000 in
theorem rletter_any (x : UInt8) (w : World) : Calls Tryz.prog 55 #[.int .u8 (x.toNat : Int)] w fun e w' => e = .returned (.bool (Lx.letB x)) ∧ w = w' := by
 have h1 := x.toNat_lt
 have HE := Hd (letB_range x)
 by_cases a : 97 ≤ x.toNat
 ·have a' : (97 : Int) ≤ (x.toNat : Int) := by omega
  by_cases b : x.toNat ≤ 122
  ·have b' : (x.toNat : Int) ≤ 122 := by omega
   go_enter Tryz.func55, Tryz.ntmps55
   go_wp2
   go_ret
   exact ⟨ret_bool (by rw [HE.out]; simp [a, b]), rfl⟩
  ·have b' : ¬ (x.toNat : Int) ≤ 122 := by omega
   have c' : (65 : Int) ≤ (x.toNat : Int) := by omega
   have d' : ¬ (x.toNat : Int) ≤ 90 := by omega
   have e' : ((x.toNat : Int) == 95) = false := by rw [beq_eq_false_iff_ne]; omega
   go_enter Tryz.func55, Tryz.ntmps55
   go_wp2
   go_ret
   exact ⟨ret_bool (by rw [HE.out]; simp; omega), rfl⟩
 ·have a' : ¬ (97 : Int) ≤ (x.toNat : Int) := by omega
  by_cases c : 65 ≤ x.toNat
  ·have c' : (65 : Int) ≤ (x.toNat : Int) := by omega
   by_cases d : x.toNat ≤ 90
   ·have d' : (x.toNat : Int) ≤ 90 := by omega
    go_enter Tryz.func55, Tryz.ntmps55
    go_wp2
    go_ret
    exact ⟨ret_bool (by rw [HE.out]; simp; omega), rfl⟩
   ·have d' : ¬ (x.toNat : Int) ≤ 90 := by omega
    go_enter Tryz.func55, Tryz.ntmps55
    go_wp2
    go_ret
    exact ⟨ret_bool (by rw [HE.out, Bool.eq_iff_iff]; simp; omega), rfl⟩
  ·have c' : ¬ (65 : Int) ≤ (x.toNat : Int) := by omega
   go_enter Tryz.func55, Tryz.ntmps55
   go_wp2
   go_ret
   exact ⟨ret_bool (by rw [HE.out, Bool.eq_iff_iff]; simp; omega), rfl⟩
set_option maxRecDepth 20000 in
theorem rdigit_any (x : UInt8) (w : World) : Calls Tryz.prog 56 #[.int .u8 (x.toNat : Int)] w fun e w' => e = .returned (.bool (Lx.digB x)) ∧ w = w' := by
 have h1 := x.toNat_lt
 have HE := Hd (digB_rangeB x)
 by_cases a : 48 ≤ x.toNat
 ·have a' : (48 : Int) ≤ (x.toNat : Int) := by omega
  go_enter Tryz.func56, Tryz.ntmps56
  go_wp2
  go_ret
  exact ⟨ret_bool (by rw [HE.out, Bool.eq_iff_iff]; simp; omega), rfl⟩
 ·have a' : ¬ (48 : Int) ≤ (x.toNat : Int) := by omega
  go_enter Tryz.func56, Tryz.ntmps56
  go_wp2
  go_ret
  exact ⟨ret_bool (by rw [HE.out, Bool.eq_iff_iff]; simp; omega), rfl⟩
set_option maxRecDepth 20000 in
theorem rfigure_any (x : UInt8) (w : World) : Calls Tryz.prog 84 #[.int .u8 (x.toNat : Int)] w fun e w' => e = .returned (.bool (Lx.figB x)) ∧ w = w' := by
 have h1 := x.toNat_lt
 cases hd : Lx.digB x with
 | true =>
  have HE : Hid (Lx.figB x = true) := Hd (by unfold Lx.figB; rw [hd]; rfl)
  go_enter Tryz.func84, Tryz.ntmps84
  go_wp2_with (go_at_call 56; refine (rdigit_any x _).mono ?_; rintro e w' ⟨rfl, rfl⟩; rw [hd])
  go_ret
  exact ⟨ret_bool (by rw [HE.out]), rfl⟩
 | false =>
  have HE : Hid (Lx.figB x = decide (65 ≤ x.toNat ∧ x.toNat ≤ 90)) := Hd (by unfold Lx.figB Lx.capB; rw [hd]; rfl)
  by_cases a : 65 ≤ x.toNat
  ·have a' : (65 : Int) ≤ (x.toNat : Int) := by omega
   go_enter Tryz.func84, Tryz.ntmps84
   go_wp2_with (go_at_call 56; refine (rdigit_any x _).mono ?_; rintro e w' ⟨rfl, rfl⟩; rw [hd])
   go_ret
   exact ⟨ret_bool (by rw [HE.out, Bool.eq_iff_iff]; simp; omega), rfl⟩
  ·have a' : ¬ (65 : Int) ≤ (x.toNat : Int) := by omega
   go_enter Tryz.func84, Tryz.ntmps84
   go_wp2_with (go_at_call 56; refine (rdigit_any x _).mono ?_; rintro e w' ⟨rfl, rfl⟩; rw [hd])
   go_ret
   exact ⟨ret_bool (by rw [HE.out, Bool.eq_iff_iff]; simp; omega), rfl⟩
def atN (l : List UInt8) (i : Nat) : UInt8 := (l[i]?).getD 0
theorem atN_in {s : ByteArray} {i : Nat} (h : i < s.size) : atN s.data.toList i = s[i]'h := by unfold atN; rw [get_in h]; rfl
theorem atN_out {s : ByteArray} {i : Nat} (h : ¬ i < s.size) : atN s.data.toList i = 0 := by unfold atN; rw [get_out h]; rfl
set_option maxRecDepth 20000 in
theorem rat_any (s : ByteArray) (j : Int) (i : Nat) (w : World) (hj : j = i) :
  Calls Tryz.prog 57 #[.string s, .int .i64 j] w fun e w' => e = .returned (.int .u8 ((atN s.data.toList i).toNat : Int)) ∧ w = w' := by
 subst hj
 by_cases h : i < s.size
 ·have HE := Hd (atN_in h)
  go_enter Tryz.func57, Tryz.ntmps57
  go_wp2
  go_ret
  exact ⟨ret_int (by rw [HE.out]), rfl⟩
 ·have HE := Hd (atN_out h)
  go_enter Tryz.func57, Tryz.ntmps57
  go_wp2
  go_ret
  exact ⟨ret_int (by rw [HE.out]; rfl), rfl⟩
def hasB (l : List UInt8) (x : UInt8) : Bool := l.contains x
set_option maxRecDepth 20000 in
theorem rin_any (s : ByteArray) (x : UInt8) (w : World) (hs : s.size ≤ 65536) : Calls Tryz.prog 54 #[.string s, .int .u8 (x.toNat : Int)] w fun e w' => e = .returned (.bool (hasB s.data.toList x)) ∧ w = w' := by
 go_enter Tryz.func54, Tryz.ntmps54
 go_wp2
 go_loop [5] (fun e => ∃ k : Nat, k ≤ s.size ∧ e = .int .i64 k ∧ (∀ j, j < k → s.data.toList[j]? ≠ some x)) (fun e => s.size - (intOf e).toNat)
 case atStart => exact ⟨0, Nat.zero_le _, rfl, fun j hj => absurd hj (by omega)⟩
 case round =>
  obtain ⟨k, hk, rfl, hno⟩ := hrel
  have HNO := Hd hno
  clear hno
  by_cases hkl : k < s.size
  ·have HX := Hd (get_in hkl)
   by_cases he : s[k]'hkl = x
   ·have d : (((s[k]'hkl).toNat : Int) == (x.toNat : Int)) = true := eqb_yes rfl he
    have HE : Hid (hasB s.data.toList x = true) := Hd (by
     unfold hasB
     rw [List.contains_iff_mem]
     exact List.mem_of_getElem? (by rw [HX.out, he]))
    clear he
    go_wp2
    go_ret
    exact ⟨ret_bool (by rw [HE.out]), rfl⟩
   ·have d : (((s[k]'hkl).toNat : Int) == (x.toNat : Int)) = false := eqb_no rfl he
    go_wp2
    go_round
    case rel => exact ⟨k + 1, hkl, by go_num, fun j hj => by
     by_cases e : j = k
     ·subst e; rw [HX.out]; exact fun h => he (Option.some.inj h)
     ·exact HNO.out j (by omega)⟩
    case measure => simp [intOf]; omega
  ·have HE : Hid (hasB s.data.toList x = false) := Hd (by
    unfold hasB
    rw [← Bool.not_eq_true, List.contains_iff_mem]
    intro hm
    obtain ⟨j, hj, e⟩ := List.getElem_of_mem hm
    have hj' : j < s.size := by simpa using hj
    exact HNO.out j (by omega) (by rw [List.getElem?_eq_getElem hj, e]))
   go_wp2
   go_ret
   exact ⟨ret_bool (by rw [HE.out]), rfl⟩
set_option maxRecDepth 20000 in
theorem rbinary_any (x : UInt8) (w : World) : Calls Tryz.prog 62 #[.int .u8 (x.toNat : Int)] w fun e w' => e = .returned (.bool (Lx.binB x)) ∧ w = w' := by
 have HE : Hid (hasB [43, 45, 42, 47, 92, 60, 62, 61, 126, 64, 37, 38, 63, 33, 44] x = Lx.binB x) := Hd (binB_in x)
 go_enter Tryz.func62, Tryz.ntmps62
 go_wp2_with fail
 refine (rin_any ⟨#[43, 45, 42, 47, 92, 60, 62, 61, 126, 64, 37, 38, 63, 33, 44]⟩ x _ (by decide)).mono ?_
 rintro e w' ⟨rfl, rfl⟩
 rw [show ([43, 45, 42, 47, 92, 60, 62, 61, 126, 64, 37, 38, 63, 33, 44] : List UInt8) = (⟨#[43, 45, 42, 47, 92, 60, 62, 61, 126, 64, 37, 38, 63, 33, 44]⟩ : ByteArray).data.toList from rfl] at HE
 rw [HE.out]
 go_wp2
 go_ret
 exact ⟨rfl, rfl⟩
theorem binGo_in2 {s : ByteArray} {i : Nat} (h : i < s.size) : Lx.binGo s.data.toList i = (Lx.binB (s[i]'h) && !(s[i]'h == 45 && (s.data.toList[i + 1]?.map Lx.digB).getD false)) := by
 unfold Lx.binGo
 rw [get_in h]
set_option maxRecDepth 20000 in
theorem rrun_any (s : ByteArray) (j : Int) (i : Nat) (w : World) (hs : s.size ≤ 65536) (hj : j = i) (hi : i < s.size) :
  Calls Tryz.prog 63 #[.string s, .int .i64 j] w fun e w' => e = .returned (.int .i64 (Lx.binF s.data.toList (i + 1))) ∧ w = w' := by
 subst hj
 go_enter Tryz.func63, Tryz.ntmps63
 go_wp2
 go_loopw [5] (fun e wr => ∃ k : Nat, k ≤ s.size ∧ e = .int .i64 k ∧ Lx.binF s.data.toList k = Lx.binF s.data.toList (i + 1) ∧ w = wr) (fun e _ => s.size - (intOf e).toNat)
 case atStart => exact ⟨i + 1, hi, by go_num, rfl, rfl⟩
 case round =>
  obtain ⟨k, hk, rfl, hf, rfl⟩ := hrel
  have HF := Hd hf
  clear hf
  have HSTEP := Hd fun (h1 : Lx.binGo s.data.toList k = true) => (Lx.binF_step h1).trans HF.out
  have HSTOP := Hd fun (h1 : Lx.binGo s.data.toList k = false) => (Lx.binF_stop h1).symm.trans HF.out
  by_cases hlt : k < s.size
  ·have HG := Hd (binGo_in2 hlt)
   cases hb : Lx.binB (s[k]'hlt) with
   | false =>
    have HZ := Hd (HSTOP.out (by rw [HG.out, hb]; rfl))
    go_wp2_with (go_at_call 62; refine (rbinary_any _ _).mono ?_; rintro e w' ⟨rfl, rfl⟩; rw [hb])
    go_ret
    exact ⟨ret_int (by rw [← HZ.out]), rfl⟩
   | true =>
    by_cases h45 : s[k]'hlt = 45
    ·have d45 : (((s[k]'hlt).toNat : Int) == 45) = true := eqb_yes (b := 45) rfl h45
     have H45 := Hd h45
     clear h45
     by_cases h1 : k + 1 < s.size
     ·cases hd : Lx.digB (s[k + 1]'h1) with
      | true =>
       have HZ := Hd (HSTOP.out (by rw [HG.out, hb, H45.out, get_in h1]; simp [hd]))
       go_wp2_with (first
        | (go_at_call 62; refine (rbinary_any _ _).mono ?_; rintro e w' ⟨rfl, rfl⟩; rw [hb])
        | (go_at_call 56; refine (rdigit_any _ _).mono ?_; rintro e w' ⟨rfl, rfl⟩; rw [hd]))
       go_ret
       exact ⟨ret_int (by rw [← HZ.out]), rfl⟩
      | false =>
       have HZ := Hd (HSTEP.out (by rw [HG.out, hb, H45.out, get_in h1]; simp [hd]))
       go_wp2_with (first
        | (go_at_call 62; refine (rbinary_any _ _).mono ?_; rintro e w' ⟨rfl, rfl⟩; rw [hb])
        | (go_at_call 56; refine (rdigit_any _ _).mono ?_; rintro e w' ⟨rfl, rfl⟩; rw [hd]))
       go_roundw
       case rel => exact ⟨k + 1, by omega, by go_num, HZ.out, by first | rfl | trivial⟩
       case measure => simp [intOf]; omega
     ·have HZ := Hd (HSTEP.out (by rw [HG.out, hb, get_out h1]; simp))
      go_wp2_with (first
       | (go_at_call 62; refine (rbinary_any _ _).mono ?_; rintro e w' ⟨rfl, rfl⟩; rw [hb]))
      go_roundw
      case rel => exact ⟨k + 1, by omega, by go_num, HZ.out, by first | rfl | trivial⟩
      case measure => simp [intOf]; omega
    ·have d45 : (((s[k]'hlt).toNat : Int) == 45) = false := eqb_no (b := 45) rfl h45
     have HZ := Hd (HSTEP.out (by rw [HG.out, hb]; simp [h45]))
     clear h45
     go_wp2_with (go_at_call 62; refine (rbinary_any _ _).mono ?_; rintro e w' ⟨rfl, rfl⟩; rw [hb])
     go_roundw
     case rel => exact ⟨k + 1, by omega, by go_num, HZ.out, by first | rfl | trivial⟩
     case measure => simp [intOf]; omega
  ·have HZ := Hd (HSTOP.out (binGo_out hlt))
   go_wp2
   go_ret
   exact ⟨ret_int (by rw [← HZ.out]), rfl⟩
def quoR (r : Option (List UInt8 × Nat)) : Value := match r with
 | none => .tuple #[.string ⟨#[]⟩, .int .i64 (-1)]
 | some (t, n) => .tuple #[.string ⟨t.toArray⟩, .int .i64 (n : Int)]
theorem quoRn : quoR none = .tuple #[.string ⟨#[]⟩, .int .i64 (-1)] := rfl
theorem quoRs (t : List UInt8) (n : Nat) : quoR (some (t, n)) = .tuple #[.string ⟨t.toArray⟩, .int .i64 (n : Int)] := rfl
set_option maxRecDepth 20000 in
theorem rquoted_any (s : ByteArray) (j : Int) (i : Nat) (w : World) (hs : s.size ≤ 65536) (hj : j = i) (hi : i < s.size) :
  Calls Tryz.prog 60 #[.string s, .int .i64 j] w fun e w' => e = .returned (quoR (Lx.qF s.data.toList i)) ∧ Below w.heap.size w w' := by
 subst hj
 go_enter Tryz.func60, Tryz.ntmps60
 go_wp2
 go_loopw [1, 6] (fun e v wr => ∃ (k : Nat) (acc : List UInt8), k ≤ s.size + 1 ∧ acc.length ≤ k ∧ e = .int .i64 k ∧ OwnB 5 wr w.heap.size v acc ∧ Lx.qOn acc k (Lx.qt (s.data.toList.drop k)) = Lx.qF s.data.toList i ∧ Below w.heap.size w wr) (fun e _ _ => s.size + 1 - (intOf e).toNat)
 case atStart => exact ⟨i + 1, [], by omega, by simp, by go_num, OwnB.nil 5 _ _, rfl, Below.refl _ _⟩
 case round =>
  obtain ⟨k, acc, hk, hacc, rfl, hown, hf, hb⟩ := hrel
  have HF := Hd hf
  have HB := Hd hb
  have HO := Hd hown
  obtain ⟨A, cp, rfl, _, _⟩ := OwnB.form hown
  clear hf hb hown
  have hsz := HB.out.size
  by_cases hlt : k < s.size
  ·have hx := get_in hlt
   by_cases h39 : s[k]'hlt = 39
   ·have d : (((s[k]'hlt).toNat : Int) != 39) = false := by rw [bne_eq_false_iff_eq, h39]; rfl
    have HX : Hid (s.data.toList[k]? = some 39) := Hd (by rw [hx, h39])
    clear hx h39
    by_cases h2 : s.data.toList[k + 1]? = some 39
    ·have hk1 : k + 1 < s.size := by
      rcases Nat.lt_or_ge (k + 1) s.size with h | h
      ·exact h
      ·rw [get_out (by omega)] at h2; cases h2
     have d2 : atN s.data.toList (k + 1) = 39 := by unfold atN; rw [h2]; rfl
     have d3 : ((k : Int) + 1 == (s.size : Int)) = false := by rw [beq_eq_false_iff_ne]; omega
     have HQ := Hd ((Lx.qOn_twice acc HX.out h2).symm.trans HF.out)
     clear h2
     go_wp2_with (first
      | (go_at_call 57; refine (rat_any s _ (k + 1) _ (by go_num)).mono ?_; rintro e w' ⟨rfl, rfl⟩; rw [d2])
      | (at_builtin; refine wpList_app rfl (.tmp 41) (.tmp 42) 70 rfl w.heap.size 5 info5' Tryz.underlying70 _ acc rfl (HO.out.alloc _) _ _ _ _ [39] rfl (read_one8 _ 39) (by simp; omega) (by simp; omega) ?_; intro v1 w1 hown1 happ1; have HO1 := Hd hown1; have HA1 := Hd happ1; clear hown1 happ1))
     go_roundw
     case rel => exact ⟨k + 2, acc ++ [39], by omega, by simp; omega, by go_num, HO1.out, HQ.out, bapp HB.out HO.out HA1.out⟩
     case measure => simp [intOf]; omega
    ·have HQ := Hd ((Lx.qOn_end acc HX.out h2).symm.trans HF.out)
     have hstr : (convert 70 9 (.slice A acc.length cp)).run Tryz.prog wr = .ok (.string ⟨acc.toArray⟩) wr := run_string_of wr 70 9 5 (OwnB.reads HO.out rfl) Tryz.underlying70 Tryz.underlying5 Tryz.underlying9
     by_cases hk1 : k + 1 < s.size
     ·have d2 : ((((atN s.data.toList (k + 1)).toNat : Nat) : Int) != 39) = true := by
       rw [bne_iff_ne]
       intro h
       have h' : atN s.data.toList (k + 1) = 39 := by rw [← UInt8.toNat_inj]; show _ = 39; omega
       rw [atN_in hk1] at h'
       exact h2 (by rw [get_in hk1, h'])
      clear h2
      go_wp2_with (first
       | (go_at_call 57; refine (rat_any s _ (k + 1) _ (by go_num)).mono ?_; rintro e w' ⟨rfl, rfl⟩))
      go_ret2
      exact ⟨by rw [← HQ.out]; rfl, HB.out⟩
     ·have d2 : atN s.data.toList (k + 1) = 0 := atN_out hk1
      clear h2
      go_wp2_with (first
       | (go_at_call 57; refine (rat_any s _ (k + 1) _ (by go_num)).mono ?_; rintro e w' ⟨rfl, rfl⟩; rw [d2]))
      go_ret2
      exact ⟨by rw [← HQ.out]; rfl, HB.out⟩
   ·have d : (((s[k]'hlt).toNat : Int) != 39) = true := by
     rw [bne_iff_ne]
     intro h
     exact h39 (by rw [← UInt8.toNat_inj]; show _ = 39; omega)
    have HQ := Hd ((Lx.qOn_plain acc hx h39).symm.trans HF.out)
    clear hx h39
    go_wp2_with (first
     | (at_builtin; refine wpList_app rfl (.tmp 19) (.tmp 23) 70 rfl w.heap.size 5 info5' Tryz.underlying70 _ acc rfl (HO.out.alloc _) _ _ _ _ [s[k]'hlt] rfl (read_one8 _ _) (by simp; omega) (by simp; omega) ?_; intro v1 w1 hown1 happ1; have HO1 := Hd hown1; have HA1 := Hd happ1; clear hown1 happ1))
    go_roundw
    case rel => exact ⟨k + 1, acc ++ [s[k]'hlt], by omega, by simp; omega, by go_num, HO1.out, HQ.out, bapp HB.out HO.out HA1.out⟩
    case measure => simp [intOf]; omega
  ·have HQ := Hd ((Lx.qOn_none acc (l := s.data.toList) (i := k) (by simp; omega)).symm.trans HF.out)
   go_wp2
   go_ret2
   exact ⟨by rw [← HQ.out]; rfl, HB.out⟩
theorem made_own (w : World) (n : Nat) (hn : n ≤ 1000000) : OwnB 5 (w.alloc (.cells (madeCells #[.int .u8 0] n) 5)) w.heap.size (.slice (some ⟨w.heap.size, 0, none⟩) n n) (List.replicate n 0) := by
 have h := World.ownsRow_lit (base := w.heap.size) (e := 5) (size := 1) w (madeCells #[.int .u8 0] n) n (Nat.le_refl _) (by simp only [maxLen]; omega) (by simp [madeCells])
 rw [toList_madeCells_one] at h
 show World.ownsRow _ _ _ _ _ (List.replicate n (0 : UInt8)).length ((List.replicate n (0 : UInt8)).map bv)
 rw [List.length_replicate, List.map_replicate]
 exact h
def GrowP (m : List Nat) (w : World) (e : Ending) (w' : World) : Prop := ∃ v', e = .returned v' ∧ OwnG w' w.heap.size v' m ∧ Below w.heap.size w w'
theorem mid_set0 {done : List Nat} {k d : Nat} : (done ++ List.replicate (k + 1) 0).set done.length d = (done ++ [d]) ++ List.replicate k 0 := by
 rw [List.replicate_succ]; exact mid_set
set_option maxRecDepth 20000 in
theorem grown_any (A : Option Addr) (cp base d : Nat) (m : List Nat) (w : World) (h : RdB w w.heap.size A m.length (Lx.dgB m)) (hm : Lx.Dg m) (hl : m.length ≤ 100000) (h36 : base ≤ 36) (hd : d < base) :
  Calls Tryz.prog 85 #[.slice A m.length cp, .int .i64 (base : Int), .int .i64 (d : Int)] w (GrowP (Lx.growF base m d) w) := by
 obtain ⟨i0, hi, hz0, hz1, hz2⟩ := info_parts info5'
 have hmk := fun (w : World) => run_make_rowN (P := Tryz.prog) 70 5 i0 (.int .u8 0) Tryz.underlying70 hi hz0 .i64 .i64 m.length m.length (Nat.le_refl _) (by rw [hz2]; omega) (by omega) w
 simp only [hz1, Nat.mul_one, Value.cells] at hmk
 have HMO := Hd (made_own w m.length (by omega))
 have H := Hd h
 have HDM := Hd hm
 have HD := Hd hd
 clear h hm hi hz0 hz1 hz2 hd
 go_enter Tryz.func85, Tryz.ntmps85
 go_wp2
 clear hmk
 go_loopw [2, 8] (fun s2 s8 wx => ∃ (j c : Nat) (done : List Nat), j ≤ m.length ∧ s8 = .int .i64 j ∧ s2 = .int .i64 c ∧ c < base ∧ done.length = j ∧ Lx.Dg done ∧ done ++ Lx.growF base (m.drop j) c = Lx.growF base m d ∧
  OwnG wx w.heap.size (.slice (some ⟨w.heap.size, 0, none⟩) m.length m.length) (done ++ List.replicate (m.length - j) 0) ∧ Below w.heap.size w wx) (fun _ s8 _ => m.length - (intOf s8).toNat)
 case atStart => exact ⟨0, d, [], Nat.zero_le _, rfl, rfl, HD.out, rfl, (fun x hx => by cases hx), rfl, by have h := HMO.out; show OwnB _ _ _ _ _; simp only [List.nil_append, Nat.sub_zero]; rw [show Lx.dgB (List.replicate m.length 0) = List.replicate m.length 0 from by simp [Lx.dgB]]; exact h, (Below.refl _ _).alloc (Nat.le_refl _) _⟩
 case round =>
  obtain ⟨j, c, done, hj, rfl, rfl, hcb, hdl, hdd, hgr, hown, hb⟩ := hrel
  have HO2 := Hd hown
  have HB2 := Hd hb
  have HGR := Hd hgr
  have HDD := Hd hdd
  have HDL := Hd hdl
  clear hown hb hgr hdd hdl
  by_cases hjl : j < m.length
  ·have hy10 : m[j] < 10 := HDM.out _ (List.getElem_mem hjl)
   have HDJ := Hd (drop_get hjl)
   obtain ⟨ad, x, rfl, hb1, hx, hc⟩ := (H.out.below HB2.out).byte hjl
   have hxv : (x.toNat : Int) = (m[j] : Nat) := by
    have e : x = UInt8.ofNat m[j] := by
     rw [Lx.dgB, List.getElem?_map, List.getElem?_eq_getElem hjl] at hx
     exact (Option.some.inj hx).symm
    rw [e]; exact ofNat_val (by omega)
   rw [hxv] at hc
   obtain ⟨y, hy⟩ : ∃ y, m[j] = y := ⟨_, rfl⟩
   rw [hy] at HDJ hy10 hc
   rw [HDJ.out] at HGR
   have hk : m.length - j = (m.length - (j + 1)) + 1 := by omega
   rw [hk] at HO2
   have HLL : Hid ((done ++ List.replicate ((m.length - (j + 1)) + 1) 0).length = m.length) := Hd (by simp [HDL.out]; omega)
   have c1 := (OwnG.at_ HO2.out HLL.out (i := j) (y := 0) (by rw [← HDL.out, List.replicate_succ]; exact mid_get) (by omega)).1
   have f1 := (OwnG.at_ HO2.out HLL.out (i := j) (y := 0) (by rw [← HDL.out, List.replicate_succ]; exact mid_get) (by omega)).2
   have HST := Hd (OwnG.stored HO2.out HLL.out done.length ((y * base + c) % 10) (by omega))
   rw [mid_set0, HDL.out] at HST
   have HQ0 : Hid ((((y * base + c) % 10 : Nat) : Int) = ((y : Int) * (base : Int) + (c : Int)) % 10) := Hd (by rw [Int.natCast_emod, Int.natCast_add, Int.natCast_mul]; rfl)
   have HQ : Hid ((((y * base + c) / 10 : Nat) : Int) = ((y : Int) * (base : Int) + (c : Int)) / 10) := Hd (by rw [Int.natCast_ediv, Int.natCast_add, Int.natCast_mul]; rfl)
   rw [HQ0.out] at HST
   have p1 : (0 : Int) ≤ (y : Int) * (base : Int) := Int.mul_nonneg (by omega) (by omega)
   have p2 : (y : Int) * (base : Int) ≤ 9 * 36 := Int.mul_le_mul (by omega) (by omega) (by omega) (by omega)
   have HCL := Hd (Lx.carry_lt hy10 hcb)
   clear hx hxv hy hk hb1
   go_wp2
   go_roundw
   case rel => exact ⟨j + 1, (y * base + c) / 10, done ++ [(y * base + c) % 10], hjl, by go_num, by rw [HQ.out], HCL.out, by simp [HDL.out], (fun z hz => by
    rcases List.mem_append.1 hz with hz | hz
    ·exact HDD.out z hz
    ·simp at hz; omega), by rw [← HGR.out]; simp [Lx.growF], HST.out, HB2.out.setCell (Nat.le_refl _) _⟩
   case measure => simp [intOf]; omega
  ·obtain rfl : j = m.length := by omega
   have HO3 : Hid (OwnG wr w.heap.size (.slice (some ⟨w.heap.size, 0, none⟩) m.length m.length) done) := Hd (by have := HO2.out; rwa [Nat.sub_self, List.replicate_zero, List.append_nil] at this)
   have HG3 : Hid (done ++ Lx.co c = Lx.growF base m d) := Hd (by have := HGR.out; rwa [List.drop_length] at this)
   have HGL := Hd (Lx.growF_len base m d)
   clear HO2 HGR hj hjl H HMO
   obtain ⟨wi, rfl⟩ : ∃ wi : World, wi = wr := ⟨_, rfl⟩
   go_wp2
   go_loopw [2, 7] (fun s2 v wx => ∃ (c : Nat) (cur : List Nat), s2 = .int .i64 c ∧ c < 100 ∧ cur ++ Lx.co c = Lx.growF base m d ∧ OwnG wx w.heap.size v cur ∧ Below w.heap.size w wx) (fun s2 _ _ => (intOf s2).toNat)
   case atStart => exact ⟨c, done, rfl, by omega, HG3.out, HO3.out, HB2.out⟩
   case round =>
    obtain ⟨c1, cur, rfl, hc100, hg4, hown, hb⟩ := hrel
    have HO4 := Hd hown
    have HB4 := Hd hb
    have HG4 := Hd hg4
    clear hown hb hg4
    by_cases h0 : 0 < c1
    ·have HCO := Hd (Lx.co_step h0 hc100)
     have HCL : Hid (cur.length ≤ m.length + 2) := Hd (by
      have h1 := HGL.out
      rw [← HG4.out, List.length_append] at h1
      omega)
     have HRD : Hid (RdB (wr.alloc (.cells #[.int .u8 ((c1 : Int) % 10)] 5)) (wr.heap.size + 1) (some ⟨wr.heap.size, 0, none⟩) 1 [UInt8.ofNat (c1 % 10)]) := Hd (by
      have h1 := read_one8 wr (UInt8.ofNat (c1 % 10))
      rw [ofNat_val (by omega), Int.natCast_emod] at h1
      exact h1)
     have HLD : Hid ((Lx.dgB cur).length + 1 ≤ 140737488355328) := Hd (by rw [Lx.dgB_len]; have := HCL.out; omega)
     go_wp2_with (at_builtin; refine wpList_app rfl (.tmp 38) (.tmp 42) 70 rfl w.heap.size 5 info5' Tryz.underlying70 _ (Lx.dgB cur) rfl (HO4.out.alloc _) _ _ _ _ [UInt8.ofNat (c1 % 10)] rfl HRD.out HLD.out (by have := HB4.out.size; simp; omega) ?_; intro v1 w1 hown1 happ1; have HO5 := Hd hown1; have HA5 := Hd happ1; clear hown1 happ1)
     go_roundw
     case rel => exact ⟨c1 / 10, cur ++ [c1 % 10], by rw [Int.natCast_ediv]; rfl, by omega, by rw [← HG4.out, HCO.out]; simp, by have h := HO5.out; rw [show Lx.dgB cur ++ [UInt8.ofNat (c1 % 10)] = Lx.dgB (cur ++ [c1 % 10]) from by simp [Lx.dgB]] at h; exact h, bapp HB4.out HO4.out HA5.out⟩
     case measure => simp [intOf]; omega
    ·obtain rfl : c1 = 0 := by omega
     have HE2 : Hid (cur = Lx.growF base m d) := Hd (by have := HG4.out; rwa [Lx.co_zero, List.append_nil] at this)
     go_wp2
     go_ret
     exact ⟨_, rfl, by rw [← HE2.out]; exact HO4.out, HB4.out⟩
end Go.Proofs.YtbnlnndeajjenaaGreat
namespace Go.Proofs.YtbnlnndeajjenaaGreat
namespace Lx
def stripT : Txt → Txt
 | [] => []
 | [x] => [x]
 | x :: y :: t => if x = 48 then stripT (y :: t) else x :: y :: t
theorem dig_val {x : UInt8} (h : digB x = true) : valF x = x.toNat - 48 ∧ valF x < 10 ∧ 48 ≤ x.toNat := by
 have hr := digB_range h
 have hc : capB x = false := by unfold capB; simp; omega
 rw [valF_dig hc]
 omega
theorem co_small {d : Nat} (h0 : ¬ d = 0) (h : d < 10) : co d = [d] := by
 unfold co; rw [if_neg h0, if_pos h]
theorem grow10 : ∀ (n : List Nat) (d : Nat), Dg n → d < 10 → (h : n ≠ []) → n.getLast h ≠ 0 → growF 10 n d = d :: n
 | [x], d, hn, hd, _, hl => by
  have hx := hn x (by simp)
  have hx0 : ¬ x = 0 := by simpa using hl
  have e1 : (x * 10 + d) % 10 = d := by omega
  have e2 : (x * 10 + d) / 10 = x := by omega
  simp only [growF, e1, e2, co_small hx0 hx]
 | x :: y :: t, d, hn, hd, _, hl => by
  have hx := hn x (by simp)
  have e1 : (x * 10 + d) % 10 = d := by omega
  have e2 : (x * 10 + d) / 10 = x := by omega
  have ih := grow10 (y :: t) x (fun z hz => hn z (List.mem_cons_of_mem _ hz)) hx (by simp) (by simpa using hl)
  have e3 : growF 10 (x :: y :: t) d = (x * 10 + d) % 10 :: growF 10 (y :: t) ((x * 10 + d) / 10) := rfl
  rw [e3, e1, e2, ih]
theorem decN10_on : ∀ (ds : Txt) (n : List Nat), (∀ x ∈ ds, digB x = true) → Dg n → (h : n ≠ []) → n.getLast h ≠ 0 → decN 10 n ds = some ((ds.map valF).reverse ++ n)
 | [], n, _, _, _, _ => by simp [decN]
 | x :: t, n, hds, hn, h, hl => by
  obtain ⟨_, hv, _⟩ := dig_val (hds x (by simp))
  have hg := grow10 n (valF x) hn hv h hl
  have e : decN 10 n (x :: t) = decN 10 (growF 10 n (valF x)) t := by simp only [decN, if_pos hv]
  rw [e, hg, decN10_on t (valF x :: n) (fun z hz => hds z (List.mem_cons_of_mem _ hz)) (fun z hz => by
   rcases List.mem_cons.1 hz with rfl | hz
   ·exact hv
   ·exact hn z hz) (by simp) (by rw [List.getLast_cons h]; exact hl)]
  simp
theorem decN10 : ∀ (ds : Txt), (∀ x ∈ ds, digB x = true) → ds ≠ [] → ∃ n, decN 10 [] ds = some n ∧ txtN (fixN n) = stripT ds ∧ n.length ≤ ds.length
 | [x], hds, _ => by
  obtain ⟨h1, hv, h48⟩ := dig_val (hds x (by simp))
  by_cases h0 : valF x = 0
  ·refine ⟨[], ?_, ?_, by simp⟩
   ·have e : decN 10 [] [x] = decN 10 (growF 10 [] (valF x)) [] := by simp only [decN, if_pos hv]
    rw [e, h0]; rfl
   ·have : x = 48 := by rw [← UInt8.toNat_inj]; show _ = 48; omega
    rw [this]; rfl
  ·refine ⟨[valF x], ?_, ?_, by simp⟩
   ·have e : decN 10 [] [x] = decN 10 (growF 10 [] (valF x)) [] := by simp only [decN, if_pos hv]
    have e2 : growF 10 [] (valF x) = co (valF x) := rfl
    rw [e, e2, co_small h0 hv]; rfl
   ·have e : (UInt8.ofNat (48 + valF x)) = x := by rw [← UInt8.toNat_inj, UInt8.toNat_ofNat']; omega
    show [UInt8.ofNat (48 + valF x)] = [x]
    rw [e]
 | x :: y :: t, hds, _ => by
  obtain ⟨h1, hv, h48⟩ := dig_val (hds x (by simp))
  have e : decN 10 [] (x :: y :: t) = decN 10 (growF 10 [] (valF x)) (y :: t) := by simp only [decN, if_pos hv]
  by_cases h0 : valF x = 0
  ·have hx : x = 48 := by rw [← UInt8.toNat_inj]; show _ = 48; omega
   obtain ⟨n, a, b, c⟩ := decN10 (y :: t) (fun z hz => hds z (List.mem_cons_of_mem _ hz)) (by simp)
   refine ⟨n, ?_, ?_, ?_⟩
   ·rw [e, h0]; exact a
   ·rw [b, hx]; simp [stripT]
   ·simp at c ⊢; omega
  ·have hx : ¬ x = 48 := fun h => h0 (by rw [h1, h]; rfl)
   have e2 : growF 10 [] (valF x) = co (valF x) := rfl
   have e3 := decN10_on (y :: t) [valF x] (fun z hz => hds z (List.mem_cons_of_mem _ hz)) (fun z hz => by simp at hz; omega) (by simp) (by simpa using h0)
   refine ⟨_, by rw [e, e2, co_small h0 hv, e3], ?_, by simp⟩
   have hne : ((y :: t).map valF).reverse ++ [valF x] ≠ [] := by simp
   have key : ∀ z, digB z = true → UInt8.ofNat (48 + valF z) = z := fun z hz => by
    obtain ⟨a, b, c⟩ := dig_val hz
    rw [← UInt8.toNat_inj, UInt8.toNat_ofNat']; omega
   unfold fixN
   rw [if_neg hne]
   unfold txtN stripT
   rw [if_neg hx, List.reverse_append, List.reverse_reverse]
   have hmap : ((y :: t).map valF).map (fun d => UInt8.ofNat (48 + d)) = y :: t := by
    rw [List.map_map]
    exact (List.map_congr_left (fun z hz => key z (hds z (List.mem_cons_of_mem _ hz)))).trans (List.map_id _)
   rw [List.map_append, hmap]
   show UInt8.ofNat (48 + valF x) :: (y :: t) = x :: y :: t
   rw [key x (hds x (by simp))]
theorem decF10 {ds : Txt} (h : ∀ x ∈ ds, digB x = true) (hne : ds ≠ []) (hl : ds.length ≤ 1000) : decF 10 ds = some (stripT ds) := by
 obtain ⟨n, a, b, c⟩ := decN10 ds h hne
 have hf : ¬ 1000 < (fixN n).length := by rw [fixN_len]; omega
 rw [decF_some (by omega) a hf, b]
theorem strip_step {l : Txt} {i j : Nat} (h : i + 1 < j) (hj : j ≤ l.length) (h0 : l[i]? = some 48) : stripT (cut l (i + 1) j) = stripT (cut l i j) := by
 have e : cut l i j = 48 :: cut l (i + 1) j := by
  unfold cut
  exact drop_at (by rw [List.getElem?_take_of_lt (by omega)]; exact h0)
 have hlen := cut_len l (i + 1) j hj
 match hc : cut l (i + 1) j with
 | [] => rw [hc] at hlen; simp at hlen; omega
 | y :: t => rw [e, hc]; simp [stripT]
theorem strip_stop {l : Txt} {i j : Nat} (hij : i < j) (hj : j ≤ l.length) {x : UInt8} (hx : l[i]? = some x) (h : ¬ (i + 1 < j ∧ x = 48)) : stripT (cut l i j) = cut l i j := by
 have e : cut l i j = x :: cut l (i + 1) j := by
  unfold cut
  exact drop_at (by rw [List.getElem?_take_of_lt (by omega)]; exact hx)
 have hlen := cut_len l (i + 1) j hj
 rw [e]
 match hc : cut l (i + 1) j with
 | [] => rfl
 | y :: t =>
  rw [hc] at hlen
  simp at hlen
  have : ¬ x = 48 := fun hx => h ⟨by omega, hx⟩
  simp [stripT, this]
end Lx
end Go.Proofs.YtbnlnndeajjenaaGreat
namespace Go.Proofs.YtbnlnndeajjenaaGreat
open Go.RowKit
theorem ret_str {a b : ByteArray} (h : a = b) : Ending.returned (.string a) = .returned (.string b) := by rw [h]
theorem txt_get {m : List Nat} {j : Nat} (hj : j < m.length) : (Lx.txtN m)[j]? = some (UInt8.ofNat (48 + m[m.length - 1 - j])) := by
 unfold Lx.txtN
 rw [List.getElem?_map, List.getElem?_reverse hj, List.getElem?_eq_getElem (by omega)]
 rfl
theorem take_set {t : List UInt8} {j n : Nat} {x : UInt8} (hx : t[j]? = some x) (hn : t.length = n) :
  (t.take j ++ List.replicate (n - j) 0).set j x = t.take (j + 1) ++ List.replicate (n - (j + 1)) 0 := by
 have hj : j < t.length := by
  rcases Nat.lt_or_ge j t.length with h | h
  ·exact h
  ·rw [List.getElem?_eq_none h] at hx; cases hx
 have hl : (t.take j).length = j := by simp; omega
 have e : n - j = (n - (j + 1)) + 1 := by omega
 rw [e, List.replicate_succ, List.set_append_right _ _ (by omega), hl, Nat.sub_self, List.set_cons_zero, List.take_add_one, hx]
 simp
set_option maxRecDepth 20000 in
theorem shown_any (A : Option Addr) (cp : Nat) (m : List Nat) (w : World) (h : RdB w w.heap.size A m.length (Lx.dgB m)) (hm : Lx.Dg m) (hl : m.length ≤ 100000) :
  Calls Tryz.prog 86 #[.slice A m.length cp] w fun e w' => e = .returned (.string ⟨(Lx.txtN (Lx.fixN m)).toArray⟩) ∧ Below w.heap.size w w' := by
 by_cases h0 : m = []
 ·subst h0
  go_enter Tryz.func86, Tryz.ntmps86
  go_wp2
  go_ret
  exact ⟨rfl, Below.refl _ _⟩
 ·have hpos : 0 < m.length := List.length_pos_iff.2 h0
  have HF : Hid (Lx.fixN m = m) := Hd (by unfold Lx.fixN; rw [if_neg h0])
  have d0 : ((m.length : Int) == 0) = false := by rw [beq_eq_false_iff_ne]; omega
  obtain ⟨i0, hi, hz0, hz1, hz2⟩ := info_parts info5'
  have hmk := fun (w : World) => run_make_rowN (P := Tryz.prog) 70 5 i0 (.int .u8 0) Tryz.underlying70 hi hz0 .i64 .i64 m.length m.length (Nat.le_refl _) (by rw [hz2]; omega) (by omega) w
  simp only [hz1, Nat.mul_one, Value.cells] at hmk
  have HMO := Hd (made_own w m.length (by omega))
  have H := Hd h
  have HDM := Hd hm
  clear h hm hi hz0 hz1 hz2 h0
  go_enter Tryz.func86, Tryz.ntmps86
  go_wp2
  clear hmk
  go_loopw [4] (fun e wx => ∃ j : Nat, j ≤ m.length ∧ e = .int .i64 j ∧ OwnB 5 wx w.heap.size (.slice (some ⟨w.heap.size, 0, none⟩) m.length m.length) ((Lx.txtN m).take j ++ List.replicate (m.length - j) 0) ∧ Below w.heap.size w wx) (fun e _ => m.length - (intOf e).toNat)
  case atStart => exact ⟨0, Nat.zero_le _, rfl, by have h := HMO.out; simpa using h, (Below.refl _ _).alloc (Nat.le_refl _) _⟩
  case round =>
   obtain ⟨j, hj, rfl, hown, hb⟩ := hrel
   have HO2 := Hd hown
   have HB2 := Hd hb
   by_cases hjl : j < m.length
   ·have hq : m.length - 1 - j < m.length := by omega
    have hy10 : m[m.length - 1 - j] < 10 := HDM.out _ (List.getElem_mem hq)
    obtain ⟨ad, x, rfl, hb1, hx, hc⟩ := (H.out.below HB2.out).byte hq
    have hxv : (x.toNat : Int) = (m[m.length - 1 - j] : Nat) := by
     have e : x = UInt8.ofNat m[m.length - 1 - j] := by
      rw [Lx.dgB, List.getElem?_map, List.getElem?_eq_getElem hq] at hx
      exact (Option.some.inj hx).symm
     rw [e]; exact ofNat_val (by omega)
    rw [hxv] at hc
    have htx := txt_get hjl
    obtain ⟨y, hy⟩ : ∃ y, m[m.length - 1 - j] = y := ⟨_, rfl⟩
    rw [hy] at hy10 hc htx
    have hlen : ((Lx.txtN m).take j ++ List.replicate (m.length - j) (0 : UInt8)).length = m.length := by simp [Lx.txtN_len]; omega
    have h6 : OwnB 5 wr w.heap.size (.slice (some ⟨w.heap.size, 0, none⟩) ((Lx.txtN m).take j ++ List.replicate (m.length - j) (0 : UInt8)).length m.length) ((Lx.txtN m).take j ++ List.replicate (m.length - j) 0) := by rw [hlen]; exact hown
    obtain ⟨c1, f1⟩ := h6.at_ (i := j) (by rw [hlen]; exact hjl)
    have h7 := h6.stored j (UInt8.ofNat (48 + y))
    rw [take_set htx (Lx.txtN_len m), show ((Lx.txtN m).take (j + 1) ++ List.replicate (m.length - (j + 1)) (0 : UInt8)).length = m.length from by simp [Lx.txtN_len]; omega] at h7
    unfold bv at h7
    rw [ofNat_val (by omega), show ((48 + y : Nat) : Int) = 48 + (y : Int) from by omega] at h7
    have HO7 := Hd h7
    obtain ⟨q, hqe⟩ : ∃ q : Nat, m.length - 1 - j = q := ⟨_, rfl⟩
    rw [hqe] at hc
    have l1 : (m.length : Int) - 1 - (j : Int) = (q : Int) := by omega
    have HL1 := Hd l1
    have hqn : q < m.length := by omega
    clear h7 h6 hown hb hx hxv htx hy hlen hqe l1 hq hb1
    have l2 : (0 : Int) ≤ (m.length : Int) - 1 - (j : Int) := by rw [HL1.out]; omega
    have l3 : (m.length : Int) - 1 - (j : Int) < (m.length : Int) := by rw [HL1.out]; omega
    have hc' : wr.cell? (ad.add (m.length - 1 - j)) = some (.int .u8 (y : Int)) := by
     have e : m.length - 1 - j = q := by have := HL1.out; omega
     rw [e]; exact hc
    go_wp2
    go_roundw
    case rel => exact ⟨j + 1, hjl, by go_num, HO7.out, HB2.out.setCell (Nat.le_refl _) _⟩
    case measure => simp [intOf]; omega
   ·obtain rfl : j = m.length := by omega
    have h8 : OwnB 5 wr w.heap.size (.slice (some ⟨w.heap.size, 0, none⟩) m.length m.length) (Lx.txtN m) := by
     have := HO2.out
     rwa [Nat.sub_self, List.replicate_zero, List.append_nil, List.take_of_length_le (by rw [Lx.txtN_len]; exact Nat.le_refl _)] at this
    have hst : (convert 70 9 (.slice (some ⟨w.heap.size, 0, none⟩) m.length m.length)).run Tryz.prog wr = .ok (.string ⟨(Lx.txtN m).toArray⟩) wr := run_string_of wr 70 9 5 (OwnB.reads h8 (Lx.txtN_len m).symm) Tryz.underlying70 Tryz.underlying5 Tryz.underlying9
    clear h8 hown hb
    go_wp2
    go_ret
    exact ⟨ret_str (by rw [HF.out]), HB2.out⟩
set_option maxRecDepth 100000 in
theorem fig0 : Lx.figB 0 = false := by decide
theorem figB_at {s : ByteArray} {i : Nat} : Lx.figB (atN s.data.toList i) = (s.data.toList[i]?.map Lx.figB).getD false := by
 unfold atN
 cases h : s.data.toList[i]? with
 | none => exact fig0
 | some x => rfl
theorem atN_yes {l : List UInt8} {i : Nat} {b : UInt8} (h : Lx.isAt l i b = true) : atN l i = b := by
 unfold Lx.isAt at h
 unfold atN
 have : l[i]? = some b := by simpa using h
 rw [this]; rfl
theorem atN_no {l : List UInt8} {i : Nat} {b : UInt8} (h : Lx.isAt l i b = false) (hb : ¬ b = 0) : ¬ atN l i = b := by
 unfold Lx.isAt at h
 unfold atN
 intro e
 cases hx : l[i]? with
 | none => rw [hx] at e; exact hb e.symm
 | some x => rw [hx] at e h; simp at e h; exact h e
theorem cut_snoc {l : List UInt8} {i q : Nat} {x : UInt8} (h : i ≤ q) (hx : l[q]? = some x) : Lx.cut l i (q + 1) = Lx.cut l i q ++ [x] := by
 have hl := Lx.get_lt hx
 unfold Lx.cut
 rw [List.take_add_one, hx, List.drop_append, show i - (l.take q).length = 0 from by simp; omega]
 rfl
theorem cut_cons {l : List UInt8} {q k : Nat} {x : UInt8} (h : q < k) (hx : l[q]? = some x) : Lx.cut l q k = x :: Lx.cut l (q + 1) k := by
 unfold Lx.cut
 exact Lx.drop_at (by rw [List.getElem?_take_of_lt h]; exact hx)
theorem cut_nil (l : List UInt8) (k : Nat) : Lx.cut l k k = [] := by
 unfold Lx.cut
 exact List.drop_eq_nil_of_le (by simp; omega)
theorem cut_at {l : List UInt8} {a x b : Nat} {y : UInt8} (h : a ≤ x) (hx : x < b) (hy : l[x]? = some y) : y ∈ Lx.cut l a b := by
 unfold Lx.cut
 refine List.mem_of_getElem? (i := x - a) ?_
 rw [List.getElem?_drop, show a + (x - a) = x from by omega, List.getElem?_take_of_lt hx]
 exact hy
theorem cut_mem {l : List UInt8} {i q j : Nat} {x : UInt8} (hq : q ≤ j) (hx : x ∈ Lx.cut l i q) : x ∈ Lx.cut l i j := by
 unfold Lx.cut at hx ⊢
 have e : l.take q = (l.take j).take q := by rw [List.take_take, Nat.min_eq_left hq]
 rw [e, List.drop_take] at hx
 exact List.mem_of_mem_take hx
theorem neb_no {x b : UInt8} {c : Int} (hc : c = (b.toNat : Int)) (h : x = b) : ((x.toNat : Int) != c) = false := by rw [hc, h]; simp
theorem neb_yes {x b : UInt8} {c : Int} (hc : c = (b.toNat : Int)) (h : ¬ x = b) : ((x.toNat : Int) != c) = true := by
 rw [bne_iff_ne, hc]
 intro e
 exact h (by rw [← UInt8.toNat_inj]; omega)
set_option maxRecDepth 20000 in
theorem rint_any (s : ByteArray) (i : Nat) (w : World) (hs : s.size ≤ 65536) (hi : i < s.size) (hdg : Lx.digB (s[i]'hi) = true) :
  Calls Tryz.prog 59 #[.string s, .int .i64 (i : Int)] w fun e w' => e = .returned (quoR (Lx.numF s.data.toList i)) ∧ Below w.heap.size w w' := by
 have HJ0 := Hd (Lx.run_pos (get_in hi) hdg)
 clear hdg
 go_enter Tryz.func59, Tryz.ntmps59
 go_upto_block 0 with fail
 go_cut [6] (fun s6 wx => s6 = .int .i64 (Lx.runF Lx.digB s.data.toList i : Nat) ∧ w = wx)
 case first =>
  go_wp2
  go_loopw [6] (fun e wx => ∃ k : Nat, k ≤ s.size ∧ e = .int .i64 k ∧ Lx.runF Lx.digB s.data.toList k = Lx.runF Lx.digB s.data.toList i ∧ w = wx) (fun e _ => s.size - (intOf e).toNat)
  case atStart => exact ⟨i, Nat.le_of_lt hi, rfl, rfl, rfl⟩
  case round =>
   obtain ⟨k, hk, rfl, hrun, rfl⟩ := hrel
   have HRUN := Hd hrun
   clear hrun
   by_cases hkl : k < s.size
   ·have HX := Hd (get_in hkl)
    cases hd : Lx.digB (s[k]'hkl) with
    | true =>
     have HST := Hd ((Lx.runF_step HX.out hd).trans HRUN.out)
     go_wp2_with (go_at_call 56; refine (rdigit_any _ _).mono ?_; rintro e w' ⟨rfl, rfl⟩; rw [hd])
     go_roundw
     case rel => exact ⟨k + 1, hkl, by go_num, HST.out, by first | rfl | trivial⟩
     case measure => simp [intOf]; omega
    | false =>
     have HST := Hd ((Lx.runF_stop HX.out hd).symm.trans HRUN.out)
     go_wp2_with (go_at_call 56; refine (rdigit_any _ _).mono ?_; rintro e w' ⟨rfl, rfl⟩; rw [hd])
     go_meet
     exact ⟨by rw [← HST.out], by first | rfl | trivial⟩
   ·have HST := Hd ((Lx.runF_end (p := Lx.digB) (l := s.data.toList) (i := k) (by simp; omega)).symm.trans HRUN.out)
    go_wp2
    go_meet
    exact ⟨by rw [← HST.out], by first | rfl | trivial⟩
 case rest =>
 obtain ⟨rfl, rfl⟩ := hcut
 have HJ2 : Hid (Lx.runF Lx.digB s.data.toList i ≤ s.size) := Hd (by have := Lx.runF_le Lx.digB s.data.toList i (by simp; exact Nat.le_of_lt hi); simpa using this)
 have HDS := Hd (Lx.cut_run_all Lx.digB s.data.toList i)
 have HNN := Hd fun h => Lx.numF_n (l := s.data.toList) (i := i) h
 have HNR := Hd fun h => Lx.numF_r (l := s.data.toList) (i := i) h
 have HNR2 := Hd fun h => Lx.numF_r2 (l := s.data.toList) (i := i) h
 generalize Lx.runF Lx.digB s.data.toList i = j at *
 have j1 := HJ0.out
 have j2 := HJ2.out
 have HCL : Hid ((Lx.cut s.data.toList i j).length = j - i) := Hd (Lx.cut_len _ _ _ (by simpa using j2))
 go_upto_region 4 with fail
 go_cut [37] (fun s37 wx => s37 = .bool (!Lx.rB s.data.toList j) ∧ w = wx)
 case first =>
  cases hr : Lx.isAt s.data.toList j 114 with
  | false =>
   have d : (((atN s.data.toList j).toNat : Int) != 114) = true := neb_yes (b := 114) rfl (atN_no hr (by decide))
   have HV : Hid (Lx.rB s.data.toList j = false) := Hd (rB_no hr)
   clear hr
   go_wp2_with (go_at_call 57; refine (rat_any s _ j _ rfl).mono ?_; rintro e w' ⟨rfl, rfl⟩)
   go_meet
   exact ⟨by rw [HV.out]; rfl, rfl⟩
  | true =>
   have d : (((atN s.data.toList j).toNat : Int) != 114) = false := neb_no (b := 114) rfl (atN_yes hr)
   have HV : Hid (Lx.rB s.data.toList j = Lx.figB (atN s.data.toList (j + 1))) := Hd (by unfold Lx.rB; rw [hr, figB_at]; rfl)
   clear hr
   go_wp2_with fail
   refine (rat_any s _ j _ rfl).mono ?_
   rintro e w' ⟨rfl, rfl⟩
   go_wp2_with fail
   refine (rat_any s _ (j + 1) _ (by go_num)).mono ?_
   rintro e w' ⟨rfl, rfl⟩
   go_wp2_with fail
   refine (rfigure_any _ _).mono ?_
   rintro e w' ⟨rfl, rfl⟩
   go_wp2
   go_meet
   exact ⟨by rw [HV.out], rfl⟩
 case rest =>
 obtain ⟨rfl, rfl⟩ := hcut
 go_upto_if 37 with fail
 by_cases hq : Lx.rB s.data.toList j = true
 ·rw [hq, Bool.not_true]
  have hj1 := rB_lt hq
  have HR1 := Hd (HNR.out hq)
  have HR2 := Hd (HNR2.out hq)
  clear hq
  go_upto_block 4 with fail
  go_cut [7] (fun s7 wx => s7 = .int .i64 (Lx.runF Lx.figB s.data.toList (j + 1) : Nat) ∧ w = wx)
  case first =>
   go_wp2
   go_loopw [7] (fun e wx => ∃ k : Nat, k ≤ s.size ∧ e = .int .i64 k ∧ Lx.runF Lx.figB s.data.toList k = Lx.runF Lx.figB s.data.toList (j + 1) ∧ w = wx) (fun e _ => s.size - (intOf e).toNat)
   case atStart => exact ⟨j + 1, Nat.le_of_lt hj1, by go_num, rfl, rfl⟩
   case round =>
    obtain ⟨k, hk, rfl, hrun, rfl⟩ := hrel
    have HRUN := Hd hrun
    clear hrun
    by_cases hkl : k < s.size
    ·have HX := Hd (get_in hkl)
     cases hd : Lx.figB (s[k]'hkl) with
     | true =>
      have HST := Hd ((Lx.runF_step HX.out hd).trans HRUN.out)
      go_wp2_with (go_at_call 84; refine (rfigure_any _ _).mono ?_; rintro e w' ⟨rfl, rfl⟩; rw [hd])
      go_roundw
      case rel => exact ⟨k + 1, hkl, by go_num, HST.out, by first | rfl | trivial⟩
      case measure => simp [intOf]; omega
     | false =>
      have HST := Hd ((Lx.runF_stop HX.out hd).symm.trans HRUN.out)
      go_wp2_with (go_at_call 84; refine (rfigure_any _ _).mono ?_; rintro e w' ⟨rfl, rfl⟩; rw [hd])
      go_meet
      exact ⟨by rw [← HST.out], by first | rfl | trivial⟩
    ·have HST := Hd ((Lx.runF_end (p := Lx.figB) (l := s.data.toList) (i := k) (by simp; omega)).symm.trans HRUN.out)
     go_wp2
     go_meet
     exact ⟨by rw [← HST.out], by first | rfl | trivial⟩
  case rest =>
  obtain ⟨rfl, rfl⟩ := hcut
  have HK1 := Hd (Lx.runF_ge Lx.figB s.data.toList (j + 1))
  have HK2 : Hid (Lx.runF Lx.figB s.data.toList (j + 1) ≤ s.size) := Hd (by have := Lx.runF_le Lx.figB s.data.toList (j + 1) (by simp; omega); simpa using this)
  have HFS := Hd (Lx.cut_run_all Lx.figB s.data.toList (j + 1))
  generalize Lx.runF Lx.figB s.data.toList (j + 1) = k at *
  have k1 := HK1.out
  have k2 := HK2.out
  have HCK : Hid ((Lx.cut s.data.toList (j + 1) k).length = k - (j + 1)) := Hd (Lx.cut_len _ _ _ (by simpa using k2))
  by_cases h2 : 2 < j - i
  ·have HE : Hid (Lx.numF s.data.toList i = none) := Hd (HR2.out h2)
   have l1 : (2 : Int) < (j : Int) - (i : Int) := by omega
   clear h2
   go_wp2
   go_ret2
   exact ⟨by rw [HE.out, quoRn]; rfl, Below.refl _ _⟩
  ·have HR3 := Hd (HR1.out h2)
   have l1 : ¬ (2 : Int) < (j : Int) - (i : Int) := by omega
   by_cases hlong : 1000 < k - (j + 1)
   ·have HE : Hid (Lx.numF s.data.toList i = none) := Hd (by rw [HR3.out, Lx.decF_bad (by rw [HCK.out]; omega)]; rfl)
    have l2 : (1000 : Int) < (k : Int) - (j : Int) - 1 := by omega
    clear hlong h2
    go_wp2
    go_ret2
    exact ⟨by rw [HE.out, quoRn]; rfl, Below.refl _ _⟩
   ·have l2 : ¬ (1000 : Int) < (k : Int) - (j : Int) - 1 := by omega
    have hji : j ≤ i + 2 := by omega
    have hkj : k ≤ j + 1001 := by omega
    clear hlong h2
    have HB99 : Hid (∀ q, q ≤ j → Lx.baseN (Lx.cut s.data.toList i q) 0 ≤ 99) := Hd fun q hq => Lx.baseN_le (fun x hx => HDS.out x (cut_mem hq hx)) (by simp [Lx.cut]; omega)
    go_wp2
    go_loop [8, 9] (fun s8 e => ∃ q : Nat, i ≤ q ∧ q ≤ j ∧ e = .int .i64 q ∧ s8 = .int .i64 (Lx.baseN (Lx.cut s.data.toList i q) 0 : Nat)) (fun _ e => j - (intOf e).toNat)
    case atStart => exact ⟨i, Nat.le_refl _, by omega, rfl, by rw [cut_nil]; rfl⟩
    case round =>
     obtain ⟨q, hiq, hqj, rfl, rfl⟩ := hrel
     by_cases hql : q < j
     ·have hqs : q < s.size := by omega
      have hx := get_in hqs
      have HTK := Hd (cut_snoc hiq hx)
      have hrg := Lx.digB_range (HDS.out (s[q]'hqs) (cut_mem (q := q + 1) hql (by rw [HTK.out]; simp)))
      have hb99 := HB99.out q hqj
      have HSN := Hd (Lx.baseN_snoc (Lx.cut s.data.toList i q) 0 (s[q]'hqs))
      generalize Lx.baseN (Lx.cut s.data.toList i q) 0 = bb at *
      clear hx
      have r1 := hrg.1
      have r2 := hrg.2
      go_wp2
      go_round
      case rel => exact ⟨q + 1, by omega, hql, by go_num, by rw [HTK.out, HSN.out, show ((10 * bb + ((s[q]'hqs).toNat - 48) : Nat) : Int) = (bb : Int) * 10 + (((s[q]'hqs).toNat : Int) - 48) from by omega]⟩
      case measure => simp [intOf]; omega
     ·obtain rfl : q = j := by omega
      have hb99 := HB99.out q (Nat.le_refl _)
      obtain ⟨b, hb⟩ : ∃ b, Lx.baseN (Lx.cut s.data.toList i q) 0 = b := ⟨_, rfl⟩
      rw [hb] at hb99 HR3 ⊢
      clear hb
      by_cases hb2 : b < 2
      ·have HE : Hid (Lx.numF s.data.toList i = none) := Hd (by rw [HR3.out, Lx.decF_bad (by omega)]; rfl)
       have l3 : (b : Int) < 2 := by omega
       go_wp2
       go_ret2
       exact ⟨by rw [HE.out, quoRn]; rfl, Below.refl _ _⟩
      ·have l3 : ¬ (b : Int) < 2 := by omega
       by_cases hb36 : 36 < b
       ·have HE : Hid (Lx.numF s.data.toList i = none) := Hd (by rw [HR3.out, Lx.decF_bad (by omega)]; rfl)
        have l4 : (36 : Int) < (b : Int) := by omega
        go_wp2
        go_ret2
        exact ⟨by rw [HE.out, quoRn]; rfl, Below.refl _ _⟩
       ·have l4 : ¬ (36 : Int) < (b : Int) := by omega
        have l5 : (b : Int) ≤ 36 := by omega
        have HG0 : Hid (¬ (b < 2 ∨ 36 < b ∨ 1000 < (Lx.cut s.data.toList (q + 1) k).length)) := Hd (by rw [HCK.out]; omega)
        clear hb2 hb36
        go_wp2
        go_loopw [10, 11] (fun v e wx => ∃ (x : Nat) (n : List Nat), q + 1 ≤ x ∧ x ≤ k ∧ e = .int .i64 x ∧ OwnG wx w.heap.size v n ∧ Lx.Dg n ∧ n.length ≤ 2 * (x - (q + 1)) ∧ Lx.decN b [] (Lx.cut s.data.toList (q + 1) k) = Lx.decN b n (Lx.cut s.data.toList x k) ∧ Below w.heap.size w wx) (fun _ e _ => k - (intOf e).toNat)
        case atStart => exact ⟨q + 1, [], Nat.le_refl _, k1, by go_num, OwnB.nil 5 _ _, (fun x hx => by cases hx), by simp, rfl, Below.refl _ _⟩
        case round =>
         obtain ⟨x, n, hqx, hxk, rfl, hown, hdg, hn, hdec, hb⟩ := hrel
         have HO := Hd hown
         have HDG := Hd hdg
         have HDEC := Hd hdec
         have HB := Hd hb
         have HLN := Hd hn
         obtain ⟨A, cp, rfl, _, _⟩ := OwnB.form hown
         rw [Lx.dgB_len] at HO ⊢
         have HRD := Hd (OwnB.reads HO.out (Lx.dgB_len n).symm)
         clear hown hdg hdec hb hn
         by_cases hxl : x < k
         ·have hxs : x < s.size := by omega
          have hgx := get_in hxs
          have HCC := Hd (cut_cons hxl hgx)
          have hfig : Lx.figB (s[x]'hxs) = true := HFS.out _ (cut_at hqx hxl hgx)
          have hr48 := Lx.figB_ge hfig
          have hr256 := (s[x]'hxs).toNat_lt
          have HGX := Hd hgx
          clear hgx
          go_upto_if 119 with fail
          go_cut [12] (fun s12 wx => s12 = .int .i64 (Lx.valF (s[x]'hxs) : Nat) ∧ wr = wx)
          case first =>
           by_cases hc : Lx.capB (s[x]'hxs) = true
           ·obtain ⟨e1, e2, e3⟩ := Lx.valF_cap hc
            have HV := Hd e1
            have e4 : (65 : Int) ≤ ((s[x]'hxs).toNat : Int) := by omega
            clear e1 hc
            go_wp2
            go_meet
            exact ⟨by rw [HV.out, show (((s[x]'hxs).toNat - 55 : Nat) : Int) = ((s[x]'hxs).toNat : Int) - 65 + 10 from by omega], rfl⟩
           ·have hc' : Lx.capB (s[x]'hxs) = false := by simpa using hc
            have HV := Hd (Lx.valF_dig hc')
            have e4 : ¬ (65 : Int) ≤ ((s[x]'hxs).toNat : Int) := by
             have hd : Lx.digB (s[x]'hxs) = true := by unfold Lx.figB at hfig; rw [hc'] at hfig; simpa using hfig
             have := Lx.digB_range hd
             omega
            clear hc hc'
            go_wp2
            go_meet
            exact ⟨by rw [HV.out, show (((s[x]'hxs).toNat - 48 : Nat) : Int) = ((s[x]'hxs).toNat : Int) - 48 from by omega], rfl⟩
          case rest =>
          obtain ⟨rfl, rfl⟩ := hcut
          have HSOME := Hd fun (h : Lx.valF (s[x]'hxs) < b) => show Lx.decN b n (Lx.cut s.data.toList x k) = Lx.decN b (Lx.growF b n (Lx.valF (s[x]'hxs))) (Lx.cut s.data.toList (x + 1) k) from by rw [HCC.out]; simp only [Lx.decN, if_pos h]
          have HNONE := Hd fun (h : ¬ Lx.valF (s[x]'hxs) < b) => show Lx.decN b n (Lx.cut s.data.toList x k) = none from by rw [HCC.out]; simp only [Lx.decN, if_neg h]
          obtain ⟨c, hc⟩ : ∃ c, Lx.valF (s[x]'hxs) = c := ⟨_, rfl⟩
          rw [hc] at HSOME HNONE ⊢
          clear hc hr48 hr256 hfig
          by_cases hcb : c < b
          ·have HS2 := Hd (HDEC.out.trans (HSOME.out hcb))
           have hci : (c : Int) < (b : Int) := by omega
           have dcb : decide (b ≤ c) = false := by simp; omega
           have HGL := Hd (Lx.growF_len b n c)
           have HGD := Hd (Lx.growF_dg (show b ≤ 36 by omega) n c HDG.out hcb)
           have HGC := Hd (grown_any A cp b c n wr HRD.out HDG.out (by have := HLN.out; omega) (by omega) hcb)
           clear hcb
           go_wp2_with fail
           refine HGC.out.mono ?_
           rintro e w1 ⟨v1, rfl, ho1, hb1⟩
           have HO1 := Hd (Joins.ownsRow_le ho1 HB.out.size)
           have HB1 := Hd (bnext HB.out hb1)
           clear ho1 hb1
           go_wp2
           go_roundw
           case rel => exact ⟨x + 1, Lx.growF b n c, by omega, hxl, by go_num, HO1.out, HGD.out, by have := HGL.out; have := HLN.out; omega, HS2.out, HB1.out⟩
           case measure => simp [intOf]; omega
          ·have HS2 := Hd (HDEC.out.trans (HNONE.out hcb))
           have HE : Hid (Lx.numF s.data.toList i = none) := Hd (by rw [HR3.out, Lx.decF_none HS2.out]; rfl)
           have hci : ¬ (c : Int) < (b : Int) := by omega
           clear hcb
           go_wp2
           go_ret2
           exact ⟨by rw [HE.out, quoRn]; rfl, HB.out⟩
         ·obtain rfl : x = k := by omega
          have HD : Hid (Lx.decN b [] (Lx.cut s.data.toList (q + 1) x) = some n) := Hd (by rw [HDEC.out, cut_nil]; rfl)
          by_cases hn : 1000 < n.length
          ·have HE : Hid (Lx.numF s.data.toList i = none) := Hd (by rw [HR3.out, Lx.decF_long HD.out (by rw [Lx.fixN_len]; exact hn)]; rfl)
           go_wp2
           go_ret2
           exact ⟨by rw [HE.out, quoRn]; rfl, HB.out⟩
          ·have HE : Hid (Lx.numF s.data.toList i = some (Lx.txtN (Lx.fixN n), x)) := Hd (by rw [HR3.out, Lx.decF_some HG0.out HD.out (by rw [Lx.fixN_len]; exact hn)]; rfl)
           go_wp2_with fail
           refine (shown_any A cp n _ HRD.out HDG.out (by omega)).mono ?_
           rintro e w1 ⟨rfl, hb1⟩
           have HB1 := Hd (bnext HB.out hb1)
           clear hb1
           go_wp2
           go_ret2
           exact ⟨by rw [HE.out, quoRs]; rfl, HB1.out⟩
 ·have hq' : Lx.rB s.data.toList j = false := by simpa using hq
  have HN := Hd (HNN.out hq')
  rw [hq', Bool.not_false]
  clear hq hq'
  by_cases hlong : 1000 < j - i
  ·have HE : Hid (Lx.numF s.data.toList i = none) := Hd (by rw [HN.out, Lx.decF_bad (by rw [HCL.out]; omega)]; rfl)
   have l1 : (1000 : Int) < (j : Int) - (i : Int) := by omega
   clear hlong
   go_wp2
   go_ret2
   exact ⟨by rw [HE.out, quoRn]; rfl, Below.refl _ _⟩
  ·have l1 : ¬ (1000 : Int) < (j : Int) - (i : Int) := by omega
   have HD : Hid (Lx.numF s.data.toList i = some (Lx.stripT (Lx.cut s.data.toList i j), j)) := Hd (by
    rw [HN.out, Lx.decF10 HDS.out (by intro e; have := HCL.out; rw [e] at this; simp at this; omega) (by rw [HCL.out]; omega)]
    rfl)
   clear hlong
   go_wp2
   go_loop [1] (fun e => ∃ k : Nat, i ≤ k ∧ k < j ∧ e = .int .i64 k ∧ Lx.stripT (Lx.cut s.data.toList k j) = Lx.stripT (Lx.cut s.data.toList i j)) (fun e => j - (intOf e).toNat)
   case atStart => exact ⟨i, Nat.le_refl _, by omega, rfl, rfl⟩
   case round =>
    obtain ⟨k, hik, hkj, rfl, hst⟩ := hrel
    have HST := Hd hst
    clear hst
    have hks : k < s.size := by omega
    by_cases h1 : k + 1 < j
    ·have l2 : (k : Int) + 1 < (j : Int) := by omega
     by_cases h48 : s[k]'hks = 48
     ·have d : (((s[k]'hks).toNat : Int) == 48) = true := eqb_yes (b := 48) rfl h48
      have HS2 := Hd ((Lx.strip_step h1 (by simpa using j2) (by rw [get_in hks, h48])).trans HST.out)
      clear h48
      go_wp2
      go_round
      case rel => exact ⟨k + 1, by omega, h1, by go_num, HS2.out⟩
      case measure => simp [intOf]; omega
     ·have d : (((s[k]'hks).toNat : Int) == 48) = false := eqb_no (b := 48) rfl h48
      have HS2 := Hd ((Lx.strip_stop hkj (by simpa using j2) (get_in hks) (fun h => h48 h.2)).symm.trans HST.out)
      have k3 : (k : Int) ≤ (j : Int) := by omega
      have k4 : (j : Int) ≤ (s.size : Int) := by omega
      clear h48
      go_wp2
      go_ret2
      exact ⟨by rw [HD.out, quoRs, str_cut s k j, HS2.out]; rfl, Below.refl _ _⟩
    ·have l2 : ¬ (k : Int) + 1 < (j : Int) := by omega
     have HS2 := Hd ((Lx.strip_stop hkj (by simpa using j2) (get_in hks) (fun h => h1 h.1)).symm.trans HST.out)
     have k3 : (k : Int) ≤ (j : Int) := by omega
     have k4 : (j : Int) ≤ (s.size : Int) := by omega
     clear h1
     go_wp2
     go_ret2
     exact ⟨by rw [HD.out, quoRs, str_cut s k j, HS2.out]; rfl, Below.refl _ _⟩
end Go.Proofs.YtbnlnndeajjenaaGreat
