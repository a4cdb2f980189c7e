/-
  Parts RefA, AryA, AryB, ShG, Wk of the proof. No statement of the seat is proved here.
-/
import Derived.Test.YtjhonaglmgmpiaaGreatDoorP10
import Derived.Test.YtjhonaglmgmpiaaGreatDoorP09
import Derived.Lib.ConvBytes
import Derived.Deep.CutBlock
import Derived.Shelf.Strings.Search3
import Derived.Shelf.Strings.Count
import Derived.Shelf.Strings.Split
import Derived.Test.YtjhonaglmgmpiaaGreatDoorProg
import Derived.Lib.SplitLaws
import Derived.Lib.IndexBytes
set_option maxHeartbeats 4000000
namespace Go.Proofs.YtjhonaglmgmpiaaGreatDoor
open Go.RowKit
set_option maxRecDepth 100000 in
theorem letB_range (x : UInt8) : Lx.letB x = (decide (97 ≤ x.toNat ∧ x.toNat ≤ 122) || decide (65 ≤ x.toNat ∧ x.toNat ≤ 90) || decide (x.toNat = 95)) := by
 have := Lx.all_u8 (p := fun x => Lx.letB x == (decide (97 ≤ x.toNat ∧ x.toNat ≤ 122) || decide (65 ≤ x.toNat ∧ x.toNat ≤ 90) || decide (x.toNat = 95))) (by decide) x
 simpa using this
set_option maxRecDepth 100000 in
theorem digB_rangeB (x : UInt8) : Lx.digB x = decide (48 ≤ x.toNat ∧ x.toNat ≤ 57) := by
 have := Lx.all_u8 (p := fun x => Lx.digB x == decide (48 ≤ x.toNat ∧ x.toNat ≤ 57)) (by decide) x
 simpa using this
set_option maxRecDepth 100000 in
theorem binB_in (x : UInt8) : [43, 45, 42, 47, 92, 60, 62, 61, 126, 64, 37, 38, 63, 33, 44].contains x = Lx.binB x := by
 have := Lx.all_u8 (p := fun x => [43, 45, 42, 47, 92, 60, 62, 61, 126, 64, 37, 38, 63, 33, 44].contains x == Lx.binB x) (by decide) x
 simpa using this
set_option maxRecDepth 100000 in
theorem blank_in (x : UInt8) : [9, 10, 12, 13, 32].contains x = (Lx.cls x == 1) := by
 have := Lx.all_u8 (p := fun x => [9, 10, 12, 13, 32].contains x == (Lx.cls x == 1)) (by decide) x
 simpa using this
set_option maxRecDepth 100000 in
theorem mark_in (x : UInt8) : [40, 41, 91, 93, 123, 125, 46, 59, 94, 58, 124].contains x = (Lx.cls x == 5) := by
 have := Lx.all_u8 (p := fun x => [40, 41, 91, 93, 123, 125, 46, 59, 94, 58, 124].contains x == (Lx.cls x == 5)) (by decide) x
 simpa using this
set_option maxRecDepth 20000 in
theorem rletter_any (x : UInt8) (w : World) : Calls Tryz.prog 39 #[.int .u8 (x.toNat : Int)] w fun e w' => e = .returned (.bool (Lx.letB x)) ∧ w = w' := by
 have h1 := x.toNat_lt
 have HE := Hd (letB_range x)
 by_cases a : 97 ≤ x.toNat
 ·have a' : (97 : Int) ≤ (x.toNat : Int) := by omega
  by_cases b : x.toNat ≤ 122
  ·have b' : (x.toNat : Int) ≤ 122 := by omega
   go_enter Tryz.func39, Tryz.ntmps39
   go_wp2
   go_ret
   exact ⟨ret_bool (by rw [HE.out]; simp [a, b]), rfl⟩
  ·have b' : ¬ (x.toNat : Int) ≤ 122 := by omega
   have c' : (65 : Int) ≤ (x.toNat : Int) := by omega
   have d' : ¬ (x.toNat : Int) ≤ 90 := by omega
   have e' : ((x.toNat : Int) == 95) = false := by rw [beq_eq_false_iff_ne]; omega
   go_enter Tryz.func39, Tryz.ntmps39
   go_wp2
   go_ret
   exact ⟨ret_bool (by rw [HE.out]; simp; omega), rfl⟩
 ·have a' : ¬ (97 : Int) ≤ (x.toNat : Int) := by omega
  by_cases c : 65 ≤ x.toNat
  ·have c' : (65 : Int) ≤ (x.toNat : Int) := by omega
   by_cases d : x.toNat ≤ 90
   ·have d' : (x.toNat : Int) ≤ 90 := by omega
    go_enter Tryz.func39, Tryz.ntmps39
    go_wp2
    go_ret
    exact ⟨ret_bool (by rw [HE.out]; simp; omega), rfl⟩
   ·have d' : ¬ (x.toNat : Int) ≤ 90 := by omega
    go_enter Tryz.func39, Tryz.ntmps39
    go_wp2
    go_ret
    exact ⟨ret_bool (by rw [HE.out, Bool.eq_iff_iff]; simp; omega), rfl⟩
  ·have c' : ¬ (65 : Int) ≤ (x.toNat : Int) := by omega
   go_enter Tryz.func39, Tryz.ntmps39
   go_wp2
   go_ret
   exact ⟨ret_bool (by rw [HE.out, Bool.eq_iff_iff]; simp; omega), rfl⟩
set_option maxRecDepth 20000 in
theorem rdigit_any (x : UInt8) (w : World) : Calls Tryz.prog 40 #[.int .u8 (x.toNat : Int)] w fun e w' => e = .returned (.bool (Lx.digB x)) ∧ w = w' := by
 have h1 := x.toNat_lt
 have HE := Hd (digB_rangeB x)
 by_cases a : 48 ≤ x.toNat
 ·have a' : (48 : Int) ≤ (x.toNat : Int) := by omega
  go_enter Tryz.func40, Tryz.ntmps40
  go_wp2
  go_ret
  exact ⟨ret_bool (by rw [HE.out, Bool.eq_iff_iff]; simp; omega), rfl⟩
 ·have a' : ¬ (48 : Int) ≤ (x.toNat : Int) := by omega
  go_enter Tryz.func40, Tryz.ntmps40
  go_wp2
  go_ret
  exact ⟨ret_bool (by rw [HE.out, Bool.eq_iff_iff]; simp; omega), rfl⟩
set_option maxRecDepth 20000 in
theorem rfigure_any (x : UInt8) (w : World) : Calls Tryz.prog 78 #[.int .u8 (x.toNat : Int)] w fun e w' => e = .returned (.bool (Lx.figB x)) ∧ w = w' := by
 have h1 := x.toNat_lt
 cases hd : Lx.digB x with
 | true =>
  have HE : Hid (Lx.figB x = true) := Hd (by unfold Lx.figB; rw [hd]; rfl)
  go_enter Tryz.func78, Tryz.ntmps78
  go_wp2_with (go_at_call 40; refine (rdigit_any x _).mono ?_; rintro e w' ⟨rfl, rfl⟩; rw [hd])
  go_ret
  exact ⟨ret_bool (by rw [HE.out]), rfl⟩
 | false =>
  have HE : Hid (Lx.figB x = decide (65 ≤ x.toNat ∧ x.toNat ≤ 90)) := Hd (by unfold Lx.figB Lx.capB; rw [hd]; rfl)
  by_cases a : 65 ≤ x.toNat
  ·have a' : (65 : Int) ≤ (x.toNat : Int) := by omega
   go_enter Tryz.func78, Tryz.ntmps78
   go_wp2_with (go_at_call 40; refine (rdigit_any x _).mono ?_; rintro e w' ⟨rfl, rfl⟩; rw [hd])
   go_ret
   exact ⟨ret_bool (by rw [HE.out, Bool.eq_iff_iff]; simp; omega), rfl⟩
  ·have a' : ¬ (65 : Int) ≤ (x.toNat : Int) := by omega
   go_enter Tryz.func78, Tryz.ntmps78
   go_wp2_with (go_at_call 40; refine (rdigit_any x _).mono ?_; rintro e w' ⟨rfl, rfl⟩; rw [hd])
   go_ret
   exact ⟨ret_bool (by rw [HE.out, Bool.eq_iff_iff]; simp; omega), rfl⟩
def atN (l : List UInt8) (i : Nat) : UInt8 := (l[i]?).getD 0
theorem atN_in {s : ByteArray} {i : Nat} (h : i < s.size) : atN s.data.toList i = s[i]'h := by unfold atN; rw [get_in h]; rfl
theorem atN_out {s : ByteArray} {i : Nat} (h : ¬ i < s.size) : atN s.data.toList i = 0 := by unfold atN; rw [get_out h]; rfl
set_option maxRecDepth 20000 in
theorem rat_any (s : ByteArray) (j : Int) (i : Nat) (w : World) (hj : j = i) :
  Calls Tryz.prog 41 #[.string s, .int .i64 j] w fun e w' => e = .returned (.int .u8 ((atN s.data.toList i).toNat : Int)) ∧ w = w' := by
 subst hj
 by_cases h : i < s.size
 ·have HE := Hd (atN_in h)
  go_enter Tryz.func41, Tryz.ntmps41
  go_wp2
  go_ret
  exact ⟨ret_int (by rw [HE.out]), rfl⟩
 ·have HE := Hd (atN_out h)
  go_enter Tryz.func41, Tryz.ntmps41
  go_wp2
  go_ret
  exact ⟨ret_int (by rw [HE.out]; rfl), rfl⟩
def hasB (l : List UInt8) (x : UInt8) : Bool := l.contains x
set_option maxRecDepth 20000 in
theorem rin_any (s : ByteArray) (x : UInt8) (w : World) (hs : s.size ≤ 65536) : Calls Tryz.prog 38 #[.string s, .int .u8 (x.toNat : Int)] w fun e w' => e = .returned (.bool (hasB s.data.toList x)) ∧ w = w' := by
 go_enter Tryz.func38, Tryz.ntmps38
 go_wp2
 go_loop [5] (fun e => ∃ k : Nat, k ≤ s.size ∧ e = .int .i64 k ∧ (∀ j, j < k → s.data.toList[j]? ≠ some x)) (fun e => s.size - (intOf e).toNat)
 case atStart => exact ⟨0, Nat.zero_le _, rfl, fun j hj => absurd hj (by omega)⟩
 case round =>
  obtain ⟨k, hk, rfl, hno⟩ := hrel
  have HNO := Hd hno
  clear hno
  by_cases hkl : k < s.size
  ·have HX := Hd (get_in hkl)
   by_cases he : s[k]'hkl = x
   ·have d : (((s[k]'hkl).toNat : Int) == (x.toNat : Int)) = true := eqb_yes rfl he
    have HE : Hid (hasB s.data.toList x = true) := Hd (by
     unfold hasB
     rw [List.contains_iff_mem]
     exact List.mem_of_getElem? (by rw [HX.out, he]))
    clear he
    go_wp2
    go_ret
    exact ⟨ret_bool (by rw [HE.out]), rfl⟩
   ·have d : (((s[k]'hkl).toNat : Int) == (x.toNat : Int)) = false := eqb_no rfl he
    go_wp2
    go_round
    case rel => exact ⟨k + 1, hkl, by go_num, fun j hj => by
     by_cases e : j = k
     ·subst e; rw [HX.out]; exact fun h => he (Option.some.inj h)
     ·exact HNO.out j (by omega)⟩
    case measure => simp [intOf]; omega
  ·have HE : Hid (hasB s.data.toList x = false) := Hd (by
    unfold hasB
    rw [← Bool.not_eq_true, List.contains_iff_mem]
    intro hm
    obtain ⟨j, hj, e⟩ := List.getElem_of_mem hm
    have hj' : j < s.size := by simpa using hj
    exact HNO.out j (by omega) (by rw [List.getElem?_eq_getElem hj, e]))
   go_wp2
   go_ret
   exact ⟨ret_bool (by rw [HE.out]), rfl⟩
set_option maxRecDepth 20000 in
theorem rbinary_any (x : UInt8) (w : World) : Calls Tryz.prog 46 #[.int .u8 (x.toNat : Int)] w fun e w' => e = .returned (.bool (Lx.binB x)) ∧ w = w' := by
 have HE : Hid (hasB [43, 45, 42, 47, 92, 60, 62, 61, 126, 64, 37, 38, 63, 33, 44] x = Lx.binB x) := Hd (binB_in x)
 go_enter Tryz.func46, Tryz.ntmps46
 go_wp2_with fail
 refine (rin_any ⟨#[43, 45, 42, 47, 92, 60, 62, 61, 126, 64, 37, 38, 63, 33, 44]⟩ x _ (by decide)).mono ?_
 rintro e w' ⟨rfl, rfl⟩
 rw [show ([43, 45, 42, 47, 92, 60, 62, 61, 126, 64, 37, 38, 63, 33, 44] : List UInt8) = (⟨#[43, 45, 42, 47, 92, 60, 62, 61, 126, 64, 37, 38, 63, 33, 44]⟩ : ByteArray).data.toList from rfl] at HE
 rw [HE.out]
 go_wp2
 go_ret
 exact ⟨rfl, rfl⟩
theorem binGo_in2 {s : ByteArray} {i : Nat} (h : i < s.size) : Lx.binGo s.data.toList i = (Lx.binB (s[i]'h) && !(s[i]'h == 45 && (s.data.toList[i + 1]?.map Lx.digB).getD false)) := by
 unfold Lx.binGo
 rw [get_in h]
set_option maxRecDepth 20000 in
theorem rrun_any (s : ByteArray) (j : Int) (i : Nat) (w : World) (hs : s.size ≤ 65536) (hj : j = i) (hi : i < s.size) :
  Calls Tryz.prog 47 #[.string s, .int .i64 j] w fun e w' => e = .returned (.int .i64 (Lx.binF s.data.toList (i + 1))) ∧ w = w' := by
 subst hj
 go_enter Tryz.func47, Tryz.ntmps47
 go_wp2
 go_loopw [5] (fun e wr => ∃ k : Nat, k ≤ s.size ∧ e = .int .i64 k ∧ Lx.binF s.data.toList k = Lx.binF s.data.toList (i + 1) ∧ w = wr) (fun e _ => s.size - (intOf e).toNat)
 case atStart => exact ⟨i + 1, hi, by go_num, rfl, rfl⟩
 case round =>
  obtain ⟨k, hk, rfl, hf, rfl⟩ := hrel
  have HF := Hd hf
  clear hf
  have HSTEP := Hd fun (h1 : Lx.binGo s.data.toList k = true) => (Lx.binF_step h1).trans HF.out
  have HSTOP := Hd fun (h1 : Lx.binGo s.data.toList k = false) => (Lx.binF_stop h1).symm.trans HF.out
  by_cases hlt : k < s.size
  ·have HG := Hd (binGo_in2 hlt)
   cases hb : Lx.binB (s[k]'hlt) with
   | false =>
    have HZ := Hd (HSTOP.out (by rw [HG.out, hb]; rfl))
    go_wp2_with (go_at_call 46; refine (rbinary_any _ _).mono ?_; rintro e w' ⟨rfl, rfl⟩; rw [hb])
    go_ret
    exact ⟨ret_int (by rw [← HZ.out]), rfl⟩
   | true =>
    by_cases h45 : s[k]'hlt = 45
    ·have d45 : (((s[k]'hlt).toNat : Int) == 45) = true := eqb_yes (b := 45) rfl h45
     have H45 := Hd h45
     clear h45
     by_cases h1 : k + 1 < s.size
     ·cases hd : Lx.digB (s[k + 1]'h1) with
      | true =>
       have HZ := Hd (HSTOP.out (by rw [HG.out, hb, H45.out, get_in h1]; simp [hd]))
       go_wp2_with (first
        | (go_at_call 46; refine (rbinary_any _ _).mono ?_; rintro e w' ⟨rfl, rfl⟩; rw [hb])
        | (go_at_call 40; refine (rdigit_any _ _).mono ?_; rintro e w' ⟨rfl, rfl⟩; rw [hd]))
       go_ret
       exact ⟨ret_int (by rw [← HZ.out]), rfl⟩
      | false =>
       have HZ := Hd (HSTEP.out (by rw [HG.out, hb, H45.out, get_in h1]; simp [hd]))
       go_wp2_with (first
        | (go_at_call 46; refine (rbinary_any _ _).mono ?_; rintro e w' ⟨rfl, rfl⟩; rw [hb])
        | (go_at_call 40; refine (rdigit_any _ _).mono ?_; rintro e w' ⟨rfl, rfl⟩; rw [hd]))
       go_roundw
       case rel => exact ⟨k + 1, by omega, by go_num, HZ.out, by first | rfl | trivial⟩
       case measure => simp [intOf]; omega
     ·have HZ := Hd (HSTEP.out (by rw [HG.out, hb, get_out h1]; simp))
      go_wp2_with (first
       | (go_at_call 46; refine (rbinary_any _ _).mono ?_; rintro e w' ⟨rfl, rfl⟩; rw [hb]))
      go_roundw
      case rel => exact ⟨k + 1, by omega, by go_num, HZ.out, by first | rfl | trivial⟩
      case measure => simp [intOf]; omega
    ·have d45 : (((s[k]'hlt).toNat : Int) == 45) = false := eqb_no (b := 45) rfl h45
     have HZ := Hd (HSTEP.out (by rw [HG.out, hb]; simp [h45]))
     clear h45
     go_wp2_with (go_at_call 46; refine (rbinary_any _ _).mono ?_; rintro e w' ⟨rfl, rfl⟩; rw [hb])
     go_roundw
     case rel => exact ⟨k + 1, by omega, by go_num, HZ.out, by first | rfl | trivial⟩
     case measure => simp [intOf]; omega
  ·have HZ := Hd (HSTOP.out (binGo_out hlt))
   go_wp2
   go_ret
   exact ⟨ret_int (by rw [← HZ.out]), rfl⟩
def quoR (r : Option (List UInt8 × Nat)) : Value := match r with
 | none => .tuple #[.string ⟨#[]⟩, .int .i64 (-1)]
 | some (t, n) => .tuple #[.string ⟨t.toArray⟩, .int .i64 (n : Int)]
theorem quoRn : quoR none = .tuple #[.string ⟨#[]⟩, .int .i64 (-1)] := rfl
theorem quoRs (t : List UInt8) (n : Nat) : quoR (some (t, n)) = .tuple #[.string ⟨t.toArray⟩, .int .i64 (n : Int)] := rfl
set_option maxRecDepth 20000 in
theorem rquoted_any (s : ByteArray) (j : Int) (i : Nat) (w : World) (hs : s.size ≤ 65536) (hj : j = i) (hi : i < s.size) :
  Calls Tryz.prog 44 #[.string s, .int .i64 j] w fun e w' => e = .returned (quoR (Lx.qF s.data.toList i)) ∧ Below w.heap.size w w' := by
 subst hj
 go_enter Tryz.func44, Tryz.ntmps44
 go_wp2
 go_loopw [1, 6] (fun e v wr => ∃ (k : Nat) (acc : List UInt8), k ≤ s.size + 1 ∧ acc.length ≤ k ∧ e = .int .i64 k ∧ OwnB 5 wr w.heap.size v acc ∧ Lx.qOn acc k (Lx.qt (s.data.toList.drop k)) = Lx.qF s.data.toList i ∧ Below w.heap.size w wr) (fun e _ _ => s.size + 1 - (intOf e).toNat)
 case atStart => exact ⟨i + 1, [], by omega, by simp, by go_num, OwnB.nil 5 _ _, rfl, Below.refl _ _⟩
 case round =>
  obtain ⟨k, acc, hk, hacc, rfl, hown, hf, hb⟩ := hrel
  have HF := Hd hf
  have HB := Hd hb
  have HO := Hd hown
  obtain ⟨A, cp, rfl, _, _⟩ := OwnB.form hown
  clear hf hb hown
  have hsz := HB.out.size
  by_cases hlt : k < s.size
  ·have hx := get_in hlt
   by_cases h39 : s[k]'hlt = 39
   ·have d : (((s[k]'hlt).toNat : Int) != 39) = false := by rw [bne_eq_false_iff_eq, h39]; rfl
    have HX : Hid (s.data.toList[k]? = some 39) := Hd (by rw [hx, h39])
    clear hx h39
    by_cases h2 : s.data.toList[k + 1]? = some 39
    ·have hk1 : k + 1 < s.size := by
      rcases Nat.lt_or_ge (k + 1) s.size with h | h
      ·exact h
      ·rw [get_out (by omega)] at h2; cases h2
     have d2 : atN s.data.toList (k + 1) = 39 := by unfold atN; rw [h2]; rfl
     have d3 : ((k : Int) + 1 == (s.size : Int)) = false := by rw [beq_eq_false_iff_ne]; omega
     have HQ := Hd ((Lx.qOn_twice acc HX.out h2).symm.trans HF.out)
     clear h2
     go_wp2_with (first
      | (go_at_call 41; refine (rat_any s _ (k + 1) _ (by go_num)).mono ?_; rintro e w' ⟨rfl, rfl⟩; rw [d2])
      | (at_builtin; refine wpList_app rfl (.tmp 41) (.tmp 42) 47 rfl w.heap.size 5 info5' Tryz.underlying47 _ acc rfl (HO.out.alloc _) _ _ _ _ [39] rfl (read_one8 _ 39) (by simp; omega) (by simp; omega) ?_; intro v1 w1 hown1 happ1; have HO1 := Hd hown1; have HA1 := Hd happ1; clear hown1 happ1))
     go_roundw
     case rel => exact ⟨k + 2, acc ++ [39], by omega, by simp; omega, by go_num, HO1.out, HQ.out, bapp HB.out HO.out HA1.out⟩
     case measure => simp [intOf]; omega
    ·have HQ := Hd ((Lx.qOn_end acc HX.out h2).symm.trans HF.out)
     have hstr : (convert 47 9 (.slice A acc.length cp)).run Tryz.prog wr = .ok (.string ⟨acc.toArray⟩) wr := run_string_of wr 47 9 5 (OwnB.reads HO.out rfl) Tryz.underlying47 Tryz.underlying5 Tryz.underlying9
     by_cases hk1 : k + 1 < s.size
     ·have d2 : ((((atN s.data.toList (k + 1)).toNat : Nat) : Int) != 39) = true := by
       rw [bne_iff_ne]
       intro h
       have h' : atN s.data.toList (k + 1) = 39 := by rw [← UInt8.toNat_inj]; show _ = 39; omega
       rw [atN_in hk1] at h'
       exact h2 (by rw [get_in hk1, h'])
      clear h2
      go_wp2_with (first
       | (go_at_call 41; refine (rat_any s _ (k + 1) _ (by go_num)).mono ?_; rintro e w' ⟨rfl, rfl⟩))
      go_ret2
      exact ⟨by rw [← HQ.out]; rfl, HB.out⟩
     ·have d2 : atN s.data.toList (k + 1) = 0 := atN_out hk1
      clear h2
      go_wp2_with (first
       | (go_at_call 41; refine (rat_any s _ (k + 1) _ (by go_num)).mono ?_; rintro e w' ⟨rfl, rfl⟩; rw [d2]))
      go_ret2
      exact ⟨by rw [← HQ.out]; rfl, HB.out⟩
   ·have d : (((s[k]'hlt).toNat : Int) != 39) = true := by
     rw [bne_iff_ne]
     intro h
     exact h39 (by rw [← UInt8.toNat_inj]; show _ = 39; omega)
    have HQ := Hd ((Lx.qOn_plain acc hx h39).symm.trans HF.out)
    clear hx h39
    go_wp2_with (first
     | (at_builtin; refine wpList_app rfl (.tmp 19) (.tmp 23) 47 rfl w.heap.size 5 info5' Tryz.underlying47 _ acc rfl (HO.out.alloc _) _ _ _ _ [s[k]'hlt] rfl (read_one8 _ _) (by simp; omega) (by simp; omega) ?_; intro v1 w1 hown1 happ1; have HO1 := Hd hown1; have HA1 := Hd happ1; clear hown1 happ1))
    go_roundw
    case rel => exact ⟨k + 1, acc ++ [s[k]'hlt], by omega, by simp; omega, by go_num, HO1.out, HQ.out, bapp HB.out HO.out HA1.out⟩
    case measure => simp [intOf]; omega
  ·have HQ := Hd ((Lx.qOn_none acc (l := s.data.toList) (i := k) (by simp; omega)).symm.trans HF.out)
   go_wp2
   go_ret2
   exact ⟨by rw [← HQ.out]; rfl, HB.out⟩
structure BW (W W1 : World) (g : Nat) (s : ByteArray) : Prop where
 lt : g < W1.heap.size
 cell : ∀ (k : Nat) (h : k < s.size), W1.cell? ⟨g, k, none⟩ = some (.int .u8 ((s[k]'h).toNat : Int))
theorem BW.below {W W1 W2 : World} {g : Nat} {s : ByteArray} (h : BW W W1 g s) (hb : Below W1.heap.size W1 W2) : BW W W2 g s :=
 ⟨Nat.lt_of_lt_of_le h.lt hb.size, fun k hk => by rw [hb.cell (p := ⟨g, k, none⟩) h.lt]; exact h.cell k hk⟩
theorem BW.new (W : World) (s : ByteArray) : BW W (Lib.bytesWorld W 5 s) W.heap.size s :=
 ⟨by rw [Lib.bytesWorld_size]; omega, fun k hk => by
  rw [Lib.bytesWorld_cell W 5 s k hk]
  have : s.data.toList.getD k 0 = s[k]'hk := by rw [List.getD_eq_getElem?_getD, get_in hk]; rfl
  rw [this]⟩
theorem bw_below (W : World) (s : ByteArray) : Below W.heap.size W (Lib.bytesWorld W 5 s) :=
 ⟨rfl, rfl, rfl, by rw [Lib.bytesWorld_size]; omega, fun k hk => Lib.bytesWorld_at_old W 5 s k hk⟩
theorem tl (s : ByteArray) : s.toList = s.data.toList := by cases s; exact ByteArray.toList_mk _
theorem all_drop {p : UInt8 → Bool} {s : ByteArray} {k : Nat} (h : k < s.size) : (s.data.toList.drop k).all p = (p (s[k]'h) && (s.data.toList.drop (k + 1)).all p) := by
 have hl : k < s.data.toList.length := by simpa using h
 rw [List.drop_eq_getElem_cons hl, List.all_cons]
 congr 1
theorem all_end {p : UInt8 → Bool} {s : ByteArray} {k : Nat} (h : s.size ≤ k) : (s.data.toList.drop k).all p = true := by
 rw [List.drop_eq_nil_of_le (by simpa using h)]; rfl
set_option maxRecDepth 20000 in
theorem isbin_any (s : ByteArray) (w : World) (hs : s.size ≤ 140737488355328) : Calls Tryz.prog 114 #[.string s] w fun e w' => e = .returned (.bool (Lx.binsB s.data.toList)) ∧ Below w.heap.size w w' := by
 have hcv := fun W => Lib.run_convert_string_bytes (P := Tryz.prog) W 9 47 5 s Tryz.underlying9 Tryz.underlying47 Tryz.underlying5
 have HE : Hid (Lx.binsB s.data.toList = if s.data.toList.all Lx.binB then !s.data.toList.isEmpty else s.data.toList == [124]) := Lib.hid rfl
 generalize Lx.binsB s.data.toList = R at *
 have HTL := Lib.hid (tl s)
 go_enter Tryz.func114, Tryz.ntmps114
 go_upto_block 0 with fail
 have HBW := Lib.hid (BW.new w s)
 have HB := Lib.hid (bw_below w s)
 generalize Lib.bytesWorld w 5 s = w1 at HBW HB ⊢
 generalize hg : w.heap.size = g at HBW HB ⊢
 have HG := Lib.hid hg
 clear hcv hg
 go_wp2
 go_loopw [8] (fun i wr => ∃ k : Nat, k ≤ s.size ∧ i = .int .i64 k ∧ (s.data.toList.drop k).all Lx.binB = s.data.toList.all Lx.binB ∧ BW w wr g s ∧ Below g w wr) (fun i _ => s.size - (intOf i).toNat)
 case atStart => exact ⟨0, Nat.zero_le _, rfl, rfl, HBW.out, HB.out⟩
 case round =>
  obtain ⟨k, hk, rfl, ha, hbw, hb⟩ := hrel
  have HA := Lib.hid ha
  have HW := Lib.hid hbw
  have HB2 := Lib.hid hb
  have hgs : g < wr.heap.size := hbw.lt
  clear ha hbw hb
  by_cases hlt : k < s.size
  ·have c1 := HW.out.cell k hlt
   have HD := Lib.hid (all_drop (p := Lx.binB) hlt)
   have HCL : Hid (Lx.binB (s[k]'hlt) = (Lx.cls (s[k]'hlt) == 4)) := Lib.hid rfl
   by_cases h4 : Lx.cls (s[k]'hlt) = 4
   ·have d4 : ((Lx.cls (s[k]'hlt) : Int) != 4) = false := by rw [h4]; rfl
    have HN : Hid ((s.data.toList.drop (k + 1)).all Lx.binB = s.data.toList.all Lx.binB) := Lib.hid (by rw [← HA.out, HD.out, HCL.out, h4]; rfl)
    clear h4
    go_wp2_with (go_at_call 131; refine (class_any _ _).mono ?_; rintro e w' ⟨rfl, hb'⟩; have HB3 := Lib.hid hb'; clear hb')
    go_roundw
    case rel => exact ⟨k + 1, hlt, by go_num, HN.out, HW.out.below HB3.out, HB2.out.trans (HB3.out.mono (by omega))⟩
    case measure => simp [intOf]; omega
   ·have d4 : ((Lx.cls (s[k]'hlt) : Int) != 4) = true := by rw [bne_iff_ne]; omega
    have HN : Hid (s.data.toList.all Lx.binB = false) := Lib.hid (by rw [← HA.out, HD.out, HCL.out, beq_eq_false_iff_ne.2 h4]; rfl)
    clear h4
    go_wp2_with (go_at_call 131; refine (class_any _ _).mono ?_; rintro e w' ⟨rfl, hb'⟩; have HB3 := Lib.hid hb'; clear hb')
    go_ret
    exact ⟨ret_bool (by rw [HE.out, HN.out, ← HTL.out]; rfl), by rw [HG.out]; exact HB2.out.trans (HB3.out.mono (by omega))⟩
  ·have HN : Hid (s.data.toList.all Lx.binB = true) := Lib.hid (by rw [← HA.out]; exact all_end (by omega))
   go_wp2
   go_ret
   exact ⟨ret_bool (by rw [HE.out, HN.out, ← HTL.out]; simp), by rw [HG.out]; exact HB2.out⟩
theorem empty_of {s : ByteArray} (h : s.size = 0) : s.data.toList = [] := List.eq_nil_of_length_eq_zero (by simpa using h)
theorem word_at {s : ByteArray} (h : 0 < s.size) : Lx.wordB s.data.toList = (Lx.letB (s[0]'h) && s.data.toList.all Lx.ldB) := by
 have hl : 0 < s.data.toList.length := by simpa using h
 have e : s.data.toList = s[0]'h :: s.data.toList.drop 1 := by
  have := List.drop_eq_getElem_cons hl
  rw [List.drop_zero] at this
  rw [this]
  congr 1
 rw [e]
 simp only [Lx.wordB, List.all_cons]
 cases hx : Lx.letB (s[0]'h) <;> simp [Lx.ldB, hx]
set_option maxRecDepth 20000 in
theorem isname_any (s : ByteArray) (w : World) (hs : s.size ≤ 140737488355328) : Calls Tryz.prog 113 #[.string s] w fun e w' => e = .returned (.bool (Lx.wordB s.data.toList)) ∧ Below w.heap.size w w' := by
 have HTL := Lib.hid (tl s)
 by_cases h0 : s.size = 0
 ·have t0 : s.toList.isEmpty = true := by rw [HTL.out, empty_of h0]; rfl
  have t1 : s.toList = [] := by rw [HTL.out, empty_of h0]
  have HE : Hid (Lx.wordB s.data.toList = false) := Lib.hid (by rw [empty_of h0]; rfl)
  clear h0
  go_enter Tryz.func113, Tryz.ntmps113
  go_wp2
  go_ret
  exact ⟨ret_bool (by rw [HE.out]), Below.refl _ _⟩
 ·have hp : 0 < s.size := by omega
  have t0 : s.toList.isEmpty = false := by rw [HTL.out, List.isEmpty_eq_false_iff]; intro h; apply h0; have := congrArg List.length h; simpa using this
  have t2 : (s.toList == []) = false := by rw [HTL.out, beq_eq_false_iff_ne]; intro h; apply h0; have := congrArg List.length h; simpa using this
  have HE := Lib.hid (word_at hp)
  have HCL : Hid (Lx.letB (s[0]'hp) = (Lx.cls (s[0]'hp) == 2)) := Lib.hid rfl
  by_cases h2 : Lx.cls (s[0]'hp) = 2
  ·have d2 : ((Lx.cls (s[0]'hp) : Int) != 2) = false := by rw [h2]; rfl
   have HR : Hid (Lx.wordB s.data.toList = s.data.toList.all Lx.ldB) := Lib.hid (by rw [HE.out, HCL.out, h2]; rfl)
   generalize Lx.wordB s.data.toList = R at *
   have hcv := fun W => Lib.run_convert_string_bytes (P := Tryz.prog) W 9 47 5 s Tryz.underlying9 Tryz.underlying47 Tryz.underlying5
   clear h2 h0
   go_enter Tryz.func113, Tryz.ntmps113
   go_upto_block 0 with (go_at_call 131; refine (class_any _ _).mono ?_; rintro e w1 ⟨rfl, hb'⟩; have HB1 := Lib.hid hb'; clear hb')
   have HBW := Lib.hid (BW.new w1 s)
   have HB := Lib.hid (HB1.out.trans ((bw_below w1 s).mono HB1.out.size))
   have hgw : w.heap.size ≤ w1.heap.size := HB1.out.size
   generalize Lib.bytesWorld w1 5 s = w2 at HBW HB ⊢
   generalize hg : w1.heap.size = g at HBW HB hgw ⊢
   clear hcv hg
   go_wp2
   go_loopw [17] (fun i wr => ∃ k : Nat, k ≤ s.size ∧ i = .int .i64 k ∧ (s.data.toList.drop k).all Lx.ldB = s.data.toList.all Lx.ldB ∧ BW w wr g s ∧ Below w.heap.size w wr) (fun i _ => s.size - (intOf i).toNat)
   case atStart => exact ⟨0, Nat.zero_le _, rfl, rfl, ⟨HBW.out.lt, HBW.out.cell⟩, HB.out⟩
   case round =>
    obtain ⟨k, hk, rfl, ha, hbw, hb⟩ := hrel
    have HA := Lib.hid ha
    have HW := Lib.hid hbw
    have HB2 := Lib.hid hb
    have hgs : g < wr.heap.size := hbw.lt
    clear ha hbw hb
    by_cases hlt : k < s.size
    ·have c1 := HW.out.cell k hlt
     have HD := Lib.hid (all_drop (p := Lx.ldB) hlt)
     have HLD : Hid (Lx.ldB (s[k]'hlt) = (Lx.cls (s[k]'hlt) == 2 || Lx.cls (s[k]'hlt) == 3)) := Lib.hid rfl
     by_cases h2 : Lx.cls (s[k]'hlt) = 2
     ·have d2' : ((Lx.cls (s[k]'hlt) : Int) != 2) = false := by rw [h2]; rfl
      have HN : Hid ((s.data.toList.drop (k + 1)).all Lx.ldB = s.data.toList.all Lx.ldB) := Lib.hid (by rw [← HA.out, HD.out, HLD.out, h2]; rfl)
      clear h2
      go_wp2_with (go_at_call 131; refine (class_any _ _).mono ?_; rintro e w' ⟨rfl, hb'⟩; have HB3 := Lib.hid hb'; clear hb')
      go_roundw
      case rel => exact ⟨k + 1, hlt, by go_num, HN.out, HW.out.below HB3.out, HB2.out.trans (HB3.out.mono (by omega))⟩
      case measure => simp [intOf]; omega
     ·have d2' : ((Lx.cls (s[k]'hlt) : Int) != 2) = true := by rw [bne_iff_ne]; omega
      by_cases h3 : Lx.cls (s[k]'hlt) = 3
      ·have d3' : ((Lx.cls (s[k]'hlt) : Int) != 3) = false := by rw [h3]; rfl
       have HN : Hid ((s.data.toList.drop (k + 1)).all Lx.ldB = s.data.toList.all Lx.ldB) := Lib.hid (by rw [← HA.out, HD.out, HLD.out, h3]; rfl)
       clear h2 h3
       go_wp2_with (go_at_call 131; refine (class_any _ _).mono ?_; rintro e w' ⟨rfl, hb'⟩; have HB3 := Lib.hid hb'; clear hb')
       go_roundw
       case rel => exact ⟨k + 1, hlt, by go_num, HN.out, HW.out.below HB3.out, HB2.out.trans (HB3.out.mono (by omega))⟩
       case measure => simp [intOf]; omega
      ·have d3' : ((Lx.cls (s[k]'hlt) : Int) != 3) = true := by rw [bne_iff_ne]; omega
       have HN : Hid (s.data.toList.all Lx.ldB = false) := Lib.hid (by rw [← HA.out, HD.out, HLD.out, beq_eq_false_iff_ne.2 h2, beq_eq_false_iff_ne.2 h3]; rfl)
       clear h2 h3
       go_wp2_with (go_at_call 131; refine (class_any _ _).mono ?_; rintro e w' ⟨rfl, hb'⟩; have HB3 := Lib.hid hb'; clear hb')
       go_ret
       exact ⟨ret_bool (by rw [HR.out, HN.out]), HB2.out.trans (HB3.out.mono (by omega))⟩
    ·have HN : Hid (s.data.toList.all Lx.ldB = true) := Lib.hid (by rw [← HA.out]; exact all_end (by omega))
     go_wp2
     go_ret
     exact ⟨ret_bool (by rw [HR.out, HN.out]), HB2.out⟩
  ·have d2 : ((Lx.cls (s[0]'hp) : Int) != 2) = true := by rw [bne_iff_ne]; omega
   have HR : Hid (Lx.wordB s.data.toList = false) := Lib.hid (by rw [HE.out, HCL.out, beq_eq_false_iff_ne.2 h2]; rfl)
   clear h2 h0
   go_enter Tryz.func113, Tryz.ntmps113
   go_wp2_with (go_at_call 131; refine (class_any _ _).mono ?_; rintro e w1 ⟨rfl, hb'⟩)
   go_ret
   exact ⟨ret_bool (by rw [HR.out]), hb'⟩
theorem extract_size_le (s : ByteArray) (a b : Nat) (hb : b ≤ s.size) : (s.extract a b).size ≤ s.size := by
 rw [ByteArray.size_extract]
 omega
theorem par_of {l : List UInt8} {r : Option Nat} (h : Lx.parL l [] 0 = r) : Lx.parN l = Lx.parV r := by unfold Lx.parN; rw [h]
set_option maxRecDepth 20000 in
theorem arity_any (s : ByteArray) (w : World) (hs : s.size ≤ 140737488355328) : Calls Tryz.prog 110 #[.string s] w fun e w' => e = .returned (.int .i64 (Lx.arityF s.data.toList)) ∧ Below w.heap.size w w' := by
 cases hw : Lx.wordB s.data.toList with
 | true =>
  have HE : Hid (Lx.arityF s.data.toList = 0) := Lib.hid (by unfold Lx.arityF; rw [hw]; rfl)
  go_enter Tryz.func110, Tryz.ntmps110
  go_wp2_with (go_at_call 113; refine (isname_any _ _ hs).mono ?_; rw [hw]; rintro e w1 ⟨rfl, hb'⟩)
  go_ret
  exact ⟨ret_int (by rw [HE.out]), hb'⟩
 | false =>
  cases hbn : Lx.binsB s.data.toList with
  | true =>
   have HE : Hid (Lx.arityF s.data.toList = 1) := Lib.hid (by unfold Lx.arityF; rw [hw, hbn]; rfl)
   go_enter Tryz.func110, Tryz.ntmps110
   go_wp2_with (first
    | (go_at_call 113; refine (isname_any _ _ hs).mono ?_; rw [hw]; rintro e w1 ⟨rfl, hb1⟩)
    | (go_at_call 114; refine (isbin_any _ _ hs).mono ?_; rw [hbn]; rintro e w2 ⟨rfl, hb2⟩))
   go_ret
   exact ⟨ret_int (by rw [HE.out]), hb1.trans (hb2.mono hb1.size)⟩
  | false =>
   have HE : Hid (Lx.arityF s.data.toList = Lx.parN s.data.toList) := Lib.hid (by unfold Lx.arityF; rw [hw, hbn]; rfl)
   generalize Lx.arityF s.data.toList = R at *
   have hcv := fun W => Lib.run_convert_string_bytes (P := Tryz.prog) W 9 47 5 s Tryz.underlying9 Tryz.underlying47 Tryz.underlying5
   go_enter Tryz.func110, Tryz.ntmps110
   go_upto_block 0 with (first
    | (go_at_call 113; refine (isname_any _ _ hs).mono ?_; rw [hw]; rintro e w1 ⟨rfl, hb1⟩; have HB1 := Lib.hid hb1; clear hb1)
    | (go_at_call 114; refine (isbin_any _ _ hs).mono ?_; rw [hbn]; rintro e w2 ⟨rfl, hb2⟩; have HB2 := Lib.hid (HB1.out.trans (hb2.mono HB1.out.size)); clear hb2))
   have HBW := Lib.hid (BW.new w2 s)
   have HB := Lib.hid (HB2.out.trans ((bw_below w2 s).mono HB2.out.size))
   have hgw : w.heap.size ≤ w2.heap.size := HB2.out.size
   generalize Lib.bytesWorld w2 5 s = w3 at HBW HB ⊢
   generalize hg : w2.heap.size = g at HBW HB hgw ⊢
   clear hcv hg hw hbn
   go_wp2
   go_loopw [3, 4, 14] (fun n a i wr => ∃ q p k : Nat, k ≤ s.size ∧ p ≤ k ∧ q ≤ k ∧ i = .int .i64 k ∧ a = .int .i64 p ∧ n = .int .i64 q ∧ Lx.parL (s.data.toList.drop k) (Lx.cut s.data.toList p k) q = Lx.parL s.data.toList [] 0 ∧ BW w wr g s ∧ Below w.heap.size w wr) (fun _ _ i _ => s.size - (intOf i).toNat)
   case atStart => exact ⟨0, 0, 0, Nat.zero_le _, Nat.le_refl _, Nat.le_refl _, rfl, rfl, rfl, by rw [Lx.cut_self]; rfl, ⟨HBW.out.lt, HBW.out.cell⟩, HB.out⟩
   case round =>
    obtain ⟨q, p, k, hk, hp, hq, rfl, rfl, rfl, ha, hbw, hb⟩ := hrel
    have HA := Lib.hid ha
    have HW := Lib.hid hbw
    have HB2 := Lib.hid hb
    have hgs : g < wr.heap.size := hbw.lt
    clear ha hbw hb
    by_cases hlt : k < s.size
    ·have c1 := HW.out.cell k hlt
     have hget := Lib.hid (get_in hlt)
     have HD := Lib.hid (Lx.parL_drop hget.out (Lx.cut s.data.toList p k) q)
     by_cases h58 : s[k]'hlt = 58
     ·have d58 : (((s[k]'hlt).toNat : Int) != 58) = false := by rw [h58]; rfl
      have HX := Lib.hid (extract_cut s p k)
      have hxs : (s.extract p k).size ≤ 140737488355328 := Nat.le_trans (extract_size_le s p k hk) hs
      have HDE : Hid (Lx.parL s.data.toList [] 0 = if Lx.wordB (Lx.cut s.data.toList p k) then Lx.parL (s.data.toList.drop (k + 1)) [] (q + 1) else none) := Lib.hid (by rw [← HA.out, HD.out, if_pos h58])
      clear h58
      have l1 : (p : Int) ≤ (k : Int) := by omega
      have l2 : (k : Int) ≤ (s.size : Int) := by omega
      cases hwd : Lx.wordB (Lx.cut s.data.toList p k) with
      | true =>
       have HN : Hid (Lx.parL (s.data.toList.drop (k + 1)) [] (q + 1) = Lx.parL s.data.toList [] 0) := Lib.hid (by rw [HDE.out, hwd]; rfl)
       go_wp2_with (go_at_call 113; refine (isname_any _ _ hxs).mono ?_; rw [HX.out, hwd]; rintro e w' ⟨rfl, hb'⟩; have HB3 := Lib.hid hb'; clear hb')
       go_roundw
       case rel => exact ⟨q + 1, k + 1, k + 1, hlt, Nat.le_refl _, by omega, by go_num, by go_num, by go_num, by rw [Lx.cut_self]; exact HN.out, HW.out.below HB3.out, HB2.out.trans (HB3.out.mono (by omega))⟩
       case measure => simp [intOf]; omega
      | false =>
       have HN : Hid (Lx.parN s.data.toList = -1) := Lib.hid (by rw [par_of (show _ = none from by rw [HDE.out, hwd]; rfl)]; rfl)
       go_wp2_with (go_at_call 113; refine (isname_any _ _ hxs).mono ?_; rw [HX.out, hwd]; rintro e w' ⟨rfl, hb'⟩; have HB3 := Lib.hid hb'; clear hb')
       go_ret
       exact ⟨ret_int (by rw [HE.out, HN.out]), HB2.out.trans (HB3.out.mono (by omega))⟩
     ·have d58 : (((s[k]'hlt).toNat : Int) != 58) = true := by rw [bne_iff_ne, ← show ((58 : UInt8).toNat : Int) = 58 from rfl]; intro h; apply h58; rw [← UInt8.toNat_inj]; omega
      have HN : Hid (Lx.parL (s.data.toList.drop (k + 1)) (Lx.cut s.data.toList p (k + 1)) q = Lx.parL s.data.toList [] 0) := Lib.hid (by rw [← HA.out, HD.out, if_neg h58, Lx.cut_snoc hget.out hp])
      clear h58
      go_wp2
      go_roundw
      case rel => exact ⟨q, p, k + 1, hlt, by omega, by omega, by go_num, rfl, rfl, HN.out, HW.out, HB2.out⟩
      case measure => simp [intOf]; omega
    ·obtain rfl : k = s.size := by omega
     have HPE : Hid (Lx.parL s.data.toList [] 0 = if p = s.size then some q else none) := Lib.hid (by
      have h := Lx.parL_end (l := s.data.toList) (a := p) (by simpa using hp) q
      rw [show s.data.toList.length = s.size from by simp] at h
      rw [← HA.out, h])
     by_cases hq0 : q = 0
     ·have d0 : ((q : Int) == 0) = true := by rw [hq0]; rfl
      have HN : Hid (Lx.parN s.data.toList = -1) := Lib.hid (by
       rw [par_of HPE.out, hq0]
       by_cases hps : p = s.size
       ·rw [if_pos hps]; rfl
       ·rw [if_neg hps]; rfl)
      clear hq0
      go_wp2
      go_ret
      exact ⟨ret_int (by rw [HE.out, HN.out]), HB2.out⟩
     ·have d0 : ((q : Int) == 0) = false := by rw [beq_eq_false_iff_ne]; omega
      by_cases hps : p = s.size
      ·have d1 : ((p : Int) != (s.size : Int)) = false := by rw [hps]; simp
       have HN : Hid (Lx.parN s.data.toList = q) := Lib.hid (by
        rw [par_of HPE.out, if_pos hps]
        obtain ⟨q', rfl⟩ : ∃ q', q = q' + 1 := ⟨q - 1, by omega⟩
        simp [Lx.parV])
       clear hps
       go_wp2
       go_ret
       exact ⟨ret_int (by rw [HE.out, HN.out]), HB2.out⟩
      ·have d1 : ((p : Int) != (s.size : Int)) = true := by rw [bne_iff_ne]; omega
       have HN : Hid (Lx.parN s.data.toList = -1) := Lib.hid (by rw [par_of HPE.out, if_neg hps]; rfl)
       clear hps
       go_wp2
       go_ret
       exact ⟨ret_int (by rw [HE.out, HN.out]), HB2.out⟩
end Go.Proofs.YtjhonaglmgmpiaaGreatDoor
namespace Go.Proofs
open Go.Shelf
def Tryz.lays143_ren : Go.Shelf.Ren := ⟨fun | 143 => 209 | 219 => 232 | 217 => 242 | 225 => 243 | 224 => 244 | 267 => 245 | 266 => 249 | 314 => 250 | n => n, fun | 9 => 9 | 3 => 3 | 4 => 4 | 5 => 5 | 46 => 191 | 146 => 218 | 51 => 189 | n => n, fun | 1 => 1 | n => n⟩
theorem Tryz.lays143 : Go.Proofs.Lays.n143 Tryz.prog Tryz.lays143_ren := {
  mixed := by kernel_rfl
  f143 := Tryz.func209.trans (congrArg some (by kernel_rfl))
  f217 := Tryz.func242.trans (congrArg some (by kernel_rfl))
  f219 := Tryz.func232.trans (congrArg some (by kernel_rfl))
  f224 := Tryz.func244.trans (congrArg some (by kernel_rfl))
  f225 := Tryz.func243.trans (congrArg some (by kernel_rfl))
  f266 := Tryz.func249.trans (congrArg some (by kernel_rfl))
  f267 := Tryz.func245.trans (congrArg some (by kernel_rfl))
  f314 := Tryz.func250.trans (congrArg some (by kernel_rfl))
  t3 := Tryz.underlying3
  a3 := Tryz.isAgg3
  z3 := Tryz.sizeOf3
  v3 := Tryz.zeroValue3
  t4 := Tryz.underlying4
  a4 := Tryz.isAgg4
  z4 := Tryz.sizeOf4
  v4 := Tryz.zeroValue4
  t5 := Tryz.underlying5
  a5 := Tryz.isAgg5
  z5 := Tryz.sizeOf5
  v5 := Tryz.zeroValue5
  t9 := Tryz.underlying9
  a9 := Tryz.isAgg9
  z9 := Tryz.sizeOf9
  v9 := Tryz.zeroValue9
  t46 := Tryz.underlying191
  a46 := Tryz.isAgg191
  z46 := Tryz.sizeOf191
  v46 := Tryz.zeroValue191
  t51 := Tryz.underlying189
  a51 := Tryz.isAgg189
  z51 := Tryz.sizeOf189
  v51 := Tryz.zeroValue189
  t146 := Tryz.underlying218
  a146 := Tryz.isAgg218
  z146 := Tryz.sizeOf218
  v146 := Tryz.zeroValue218
  g1 := by kernel_rfl }
open Go.RowKit Go.Lib in
theorem Tryz.strings_Index_one (s : ByteArray) (c : UInt8) (w : World) :
    Calls Tryz.prog 209 #[.string s, .string ⟨#[c]⟩] w fun e w' => e = .returned (.int .i64 (Lib.indexByte s.data.toList c)) ∧ w' = w := Any.strings_Index_one Tryz.lays143 s c w
open Go.RowKit Go.Lib in
def Tryz.lays138_ren : Go.Shelf.Ren := ⟨fun | 138 => 208 | 195 => 229 | 218 => 231 | 143 => 209 | 219 => 232 | 217 => 242 | 225 => 243 | 224 => 244 | 267 => 245 | 266 => 249 | 314 => 250 | n => n, fun | 9 => 9 | 3 => 3 | 4 => 4 | 5 => 5 | 0 => 0 | 46 => 191 | 146 => 218 | 51 => 189 | n => n, fun | 1 => 1 | n => n⟩
theorem Tryz.lays138 : Go.Proofs.Lays.n138 Tryz.prog Tryz.lays138_ren := {
  mixed := by kernel_rfl
  f138 := Tryz.func208.trans (congrArg some (by kernel_rfl))
  f143 := Tryz.func209.trans (congrArg some (by kernel_rfl))
  f195 := Tryz.func229.trans (congrArg some (by kernel_rfl))
  f217 := Tryz.func242.trans (congrArg some (by kernel_rfl))
  f218 := Tryz.func231.trans (congrArg some (by kernel_rfl))
  f219 := Tryz.func232.trans (congrArg some (by kernel_rfl))
  f224 := Tryz.func244.trans (congrArg some (by kernel_rfl))
  f225 := Tryz.func243.trans (congrArg some (by kernel_rfl))
  f266 := Tryz.func249.trans (congrArg some (by kernel_rfl))
  f267 := Tryz.func245.trans (congrArg some (by kernel_rfl))
  f314 := Tryz.func250.trans (congrArg some (by kernel_rfl))
  t0 := Tryz.underlying0
  a0 := Tryz.isAgg0
  z0 := Tryz.sizeOf0
  v0 := Tryz.zeroValue0
  t3 := Tryz.underlying3
  a3 := Tryz.isAgg3
  z3 := Tryz.sizeOf3
  v3 := Tryz.zeroValue3
  t4 := Tryz.underlying4
  a4 := Tryz.isAgg4
  z4 := Tryz.sizeOf4
  v4 := Tryz.zeroValue4
  t5 := Tryz.underlying5
  a5 := Tryz.isAgg5
  z5 := Tryz.sizeOf5
  v5 := Tryz.zeroValue5
  t9 := Tryz.underlying9
  a9 := Tryz.isAgg9
  z9 := Tryz.sizeOf9
  v9 := Tryz.zeroValue9
  t46 := Tryz.underlying191
  a46 := Tryz.isAgg191
  z46 := Tryz.sizeOf191
  v46 := Tryz.zeroValue191
  t51 := Tryz.underlying189
  a51 := Tryz.isAgg189
  z51 := Tryz.sizeOf189
  v51 := Tryz.zeroValue189
  t146 := Tryz.underlying218
  a146 := Tryz.isAgg218
  z146 := Tryz.sizeOf218
  v146 := Tryz.zeroValue218
  g1 := by kernel_rfl }
open Go.RowKit Go.Lib in
theorem Tryz.strings_Count_one (s : ByteArray) (c : UInt8) (w : World) :
    Calls Tryz.prog 208 #[.string s, .string ⟨#[c]⟩] w fun e w' => e = .returned (.int .i64 (Lib.countByte s.data.toList c)) ∧ w' = w := Any.strings_Count_one Tryz.lays138 s c w
open Go.RowKit Go.Lib in
def Tryz.lays221_ren : Go.Shelf.Ren := ⟨fun | 221 => 187 | 268 => 207 | 138 => 208 | 143 => 209 | 195 => 229 | 197 => 230 | 218 => 231 | 219 => 232 | 260 => 241 | 217 => 242 | 225 => 243 | 224 => 244 | 267 => 245 | 266 => 249 | 314 => 250 | n => n, fun | 9 => 9 | 3 => 3 | 31 => 24 | 4 => 4 | 0 => 0 | 105 => 197 | 21 => 21 | 5 => 5 | 46 => 191 | 119 => 214 | 139 => 217 | 138 => 216 | 146 => 218 | 51 => 189 | n => n, fun | 1 => 1 | 3 => 6 | 4 => 7 | n => n⟩
theorem Tryz.lays221 : Go.Proofs.Lays.n221 Tryz.prog Tryz.lays221_ren := {
  mixed := by kernel_rfl
  f138 := Tryz.func208.trans (congrArg some (by kernel_rfl))
  f143 := Tryz.func209.trans (congrArg some (by kernel_rfl))
  f195 := Tryz.func229.trans (congrArg some (by kernel_rfl))
  f197 := Tryz.func230.trans (congrArg some (by kernel_rfl))
  f217 := Tryz.func242.trans (congrArg some (by kernel_rfl))
  f218 := Tryz.func231.trans (congrArg some (by kernel_rfl))
  f219 := Tryz.func232.trans (congrArg some (by kernel_rfl))
  f221 := Tryz.func187.trans (congrArg some (by kernel_rfl))
  f224 := Tryz.func244.trans (congrArg some (by kernel_rfl))
  f225 := Tryz.func243.trans (congrArg some (by kernel_rfl))
  f260 := Tryz.func241.trans (congrArg some (by kernel_rfl))
  f266 := Tryz.func249.trans (congrArg some (by kernel_rfl))
  f267 := Tryz.func245.trans (congrArg some (by kernel_rfl))
  f268 := Tryz.func207.trans (congrArg some (by kernel_rfl))
  f314 := Tryz.func250.trans (congrArg some (by kernel_rfl))
  t0 := Tryz.underlying0
  a0 := Tryz.isAgg0
  z0 := Tryz.sizeOf0
  v0 := Tryz.zeroValue0
  t3 := Tryz.underlying3
  a3 := Tryz.isAgg3
  z3 := Tryz.sizeOf3
  v3 := Tryz.zeroValue3
  t4 := Tryz.underlying4
  a4 := Tryz.isAgg4
  z4 := Tryz.sizeOf4
  v4 := Tryz.zeroValue4
  t5 := Tryz.underlying5
  a5 := Tryz.isAgg5
  z5 := Tryz.sizeOf5
  v5 := Tryz.zeroValue5
  t9 := Tryz.underlying9
  a9 := Tryz.isAgg9
  z9 := Tryz.sizeOf9
  v9 := Tryz.zeroValue9
  t21 := Tryz.underlying21
  a21 := Tryz.isAgg21
  z21 := Tryz.sizeOf21
  v21 := Tryz.zeroValue21
  t31 := Tryz.underlying24
  a31 := Tryz.isAgg24
  z31 := Tryz.sizeOf24
  v31 := Tryz.zeroValue24
  t46 := Tryz.underlying191
  a46 := Tryz.isAgg191
  z46 := Tryz.sizeOf191
  v46 := Tryz.zeroValue191
  t51 := Tryz.underlying189
  a51 := Tryz.isAgg189
  z51 := Tryz.sizeOf189
  v51 := Tryz.zeroValue189
  t105 := Tryz.underlying197
  a105 := Tryz.isAgg197
  z105 := Tryz.sizeOf197
  v105 := Tryz.zeroValue197
  t119 := Tryz.underlying214
  a119 := Tryz.isAgg214
  z119 := Tryz.sizeOf214
  t138 := Tryz.underlying216
  a138 := Tryz.isAgg216
  z138 := Tryz.sizeOf216
  v138 := Tryz.zeroValue216
  t139 := Tryz.underlying217
  a139 := Tryz.isAgg217
  z139 := Tryz.sizeOf217
  v139 := Tryz.zeroValue217
  t146 := Tryz.underlying218
  a146 := Tryz.isAgg218
  z146 := Tryz.sizeOf218
  v146 := Tryz.zeroValue218
  g1 := by kernel_rfl
  g3 := by kernel_rfl
  g4 := by kernel_rfl }
end Go.Proofs
namespace Go.Proofs.YtjhonaglmgmpiaaGreatDoor
open Go.RowKit
namespace Lx
theorem kwsF_none {x : Txt} : ∀ {cur : Txt}, x.count 58 = 0 → Ps.kwsF cur x = [] := by
 induction x with
 | nil => intro cur _; rfl
 | cons c t ih =>
  intro cur h
  rw [List.count_cons] at h
  have hc : ¬ c = 58 := fun e => by subst e; simp at h
  rw [Ps.kwsF, if_neg hc]
  exact ih (by omega)
theorem kwsF_hit {x : Txt} : ∀ {cur : Txt} {i : Nat}, Lib.index x [58] = (i : Int) → Ps.kwsF cur x = (cur ++ x.take (i + 1)) :: Ps.kwsF [] (x.drop (i + 1)) ∧ x.count 58 = (x.drop (i + 1)).count 58 + 1 := by
 induction x with
 | nil => intro cur i h; rw [Lib.index_one] at h; unfold Lib.indexByte at h; omega
 | cons c t ih =>
  intro cur i h
  rw [Lib.index_one] at h
  unfold Lib.indexByte at h
  by_cases hc : c = 58
  ·subst hc
   rw [if_pos (by rfl)] at h
   obtain rfl : i = 0 := by omega
   rw [Ps.kwsF, if_pos rfl]
   exact ⟨rfl, by rw [List.count_cons]; rfl⟩
  ·rw [if_neg (by simpa using hc)] at h
   split at h
   ·omega
   ·rename_i hn
    have hg := Lib.indexByte_ge t 58
    have hn' : Lib.indexByte t 58 ≠ -1 := fun e => hn (by rw [e]; rfl)
    obtain ⟨j, rfl⟩ : ∃ j, i = j + 1 := ⟨i - 1, by omega⟩
    obtain ⟨h1, h2⟩ := ih (cur := cur ++ [c]) (i := j) (by rw [Lib.index_one]; omega)
    refine ⟨?_, ?_⟩
    ·rw [Ps.kwsF, if_neg hc, h1]; simp
    ·rw [List.count_cons, List.drop_succ_cons, ← h2]; simp [hc]
theorem split_kws : ∀ (k : Nat) (x : Txt), x.count 58 = k → ∃ r, Lib.splitK [58] 1 k x = Ps.kwsF [] x ++ [r] ∧ (Ps.kwsF [] x).length = k
 | 0, x, h => ⟨x, by rw [kwsF_none h]; rfl, by rw [kwsF_none h]; rfl⟩
 | k + 1, x, h => by
  unfold Lib.splitK
  have hm : ¬ (Lib.index x [58] == -1) = true := fun e => by
   have e := beq_iff_eq.1 e
   rw [Lib.index_one] at e
   have := Lib.indexByte_none e
   have hmem : (58 : UInt8) ∈ x := List.count_pos_iff.1 (by omega)
   obtain ⟨q, hq, hqe⟩ := List.getElem_of_mem hmem
   exact this q (by rw [List.getElem?_eq_getElem hq, hqe])
  rw [if_neg hm]
  have hg := Lib.indexByte_ge x 58
  rw [← Lib.index_one] at hg
  obtain ⟨i, hi⟩ : ∃ i : Nat, Lib.index x [58] = (i : Int) := ⟨(Lib.index x [58]).toNat, by have : Lib.index x [58] ≠ -1 := fun e => hm (by rw [e]; rfl); omega⟩
  obtain ⟨h1, h2⟩ := kwsF_hit (cur := []) hi
  rw [hi, h1]
  obtain ⟨r, h3, h4⟩ := split_kws k (x.drop (i + 1)) (by omega)
  refine ⟨r, ?_, by rw [List.length_cons, h4]⟩
  rw [show ((i : Int)).toNat = i from rfl, show ([58] : Txt).length = 1 from rfl, h3]
  rfl
end Lx
theorem countB_58 (x : Lx.Txt) : Lib.countB ⟨x.toArray⟩ ⟨#[58]⟩ = x.count 58 := by
 show Lib.count x.toArray.toList [58] = _
 rw [Lib.count_one]
set_option maxRecDepth 20000 in
theorem wsplit_any (x : Lx.Txt) (w : World) (hx : x.length < 4294967281) : Calls Tryz.prog 147 #[.string ⟨x.toArray⟩, .string ⟨#[58]⟩] w fun e w' => ∃ r : Lx.Txt, e = .returned (.slice (some ⟨w.heap.size, 0, none⟩) ((Ps.kws x).length + 1) ((Ps.kws x).length + 1)) ∧ w' = w.alloc (.cells ((Ps.kws x ++ [r]).map sv).toArray 9) := by
 obtain ⟨r, h1, h2⟩ := Lx.split_kws (x.count 58) x rfl
 have hcl : x.count 58 ≤ x.length := List.count_le_length
 have hsz := txt_size x
 have hN : (((Ps.kws x).length + 1 : Nat) : Int) = min (if (-1 : Int) < 0 then (Lib.countB ⟨x.toArray⟩ ⟨#[58]⟩ : Int) + 1 else -1) (((⟨x.toArray⟩ : ByteArray).size : Int) + 1) := by
  rw [countB_58, hsz, if_pos (by decide)]
  unfold Ps.kws
  rw [h2]
  omega
 have hB := Lib.splitB_data ⟨#[58]⟩ 1 (x.count 58) ⟨x.toArray⟩
 rw [show (⟨#[58]⟩ : ByteArray).data.toList = [58] from rfl, show (⟨x.toArray⟩ : ByteArray).data.toList = x by simp, h1] at hB
 generalize hS : Lib.splitB ⟨#[58]⟩ 1 (x.count 58) ⟨x.toArray⟩ = SB at hB
 have hlen : SB.length = (Ps.kws x).length + 1 := by have := congrArg List.length hB; simpa [Ps.kws] using this
 have hmap : SB.map Value.string = (Ps.kws x ++ [r]).map sv := by
  unfold Ps.kws
  rw [← hB, List.map_map]
  refine List.map_congr_left fun b _ => ?_
  show Value.string b = Value.string ⟨b.data.toList.toArray⟩
  rw [Array.toArray_toList]
 have HG := Hd (Any.strings_genSplit_core Tryz.lays221 info9 ⟨x.toArray⟩ ⟨#[58]⟩ 1 (-1) ((Ps.kws x).length + 1) w (by rw [hsz]; exact hx) (by decide) (by decide)
  (fun y c _ => (Any.strings_Index_one Tryz.lays143 y 58 _).mono fun e w' h => ⟨by rw [h.1]; show _ = Ending.returned (Value.int .i64 (Lib.index y.data.toList [58])); rw [Lib.index_one], h.2⟩)
  ((Any.strings_Count_one Tryz.lays138 ⟨x.toArray⟩ 58 w).mono fun e w' h => ⟨by rw [h.1]; show _ = Ending.returned (Value.int .i64 ((Lib.count x.toArray.toList [58] : Nat) : Int)); rw [Lib.count_one]; rfl, h.2⟩)
  (by decide) (by decide) hN)
 go_enter Tryz.func147, Tryz.ntmps147
 go_wp2_with (go_at_call 187; refine HG.out.mono ?_; rintro e w1 ⟨rfl, rfl⟩)
 have hk : (Ps.kws x).length = x.count 58 := h2
 have e1 : Lib.splitB ⟨#[58]⟩ 1 (Ps.kws x).length ⟨x.toArray⟩ = SB := by rw [hk, hS]
 have e2 : Lib.cellsOf SB ((Ps.kws x).length + 1) = ((Ps.kws x ++ [r]).map sv).toArray := by
  unfold Lib.cellsOf
  rw [hmap, hlen]
  simp
 go_ret
 rw [e1, hlen, e2]
 exact ⟨r, rfl, rfl⟩
set_option maxRecDepth 20000 in
theorem wkws_any (x : Lx.Txt) (w : World) (hx : x.length < 4294967281) : Calls Tryz.prog 115 #[.string ⟨x.toArray⟩] w fun e w' => ∃ r : Lx.Txt, e = .returned (.slice (some ⟨w.heap.size, 0, none⟩) (Ps.kws x).length ((Ps.kws x).length + 1)) ∧ w' = w.alloc (.cells ((Ps.kws x ++ [r]).map sv).toArray 9) := by
 have HS := Hd (wsplit_any x w hx)
 have hl : (Ps.kws x).length ≤ x.length := by
  obtain ⟨r, _, h2⟩ := Lx.split_kws (x.count 58) x rfl
  unfold Ps.kws
  rw [h2]
  exact List.count_le_length
 generalize (Ps.kws x).length = n at *
 generalize hq : (fun r : Lx.Txt => w.alloc (.cells ((Ps.kws x ++ [r]).map sv).toArray 9)) = W at *
 have hq2 : ∀ r : Lx.Txt, w.alloc (.cells ((Ps.kws x ++ [r]).map sv).toArray 9) = W r := fun r => by rw [← hq]
 simp only [hq2] at *
 clear hq hq2
 go_enter Tryz.func115, Tryz.ntmps115
 go_wp2_with (go_at_call 147; refine HS.out.mono ?_; rintro e w1 ⟨r, rfl, rfl⟩)
 go_ret
 exact ⟨_, rfl, rfl⟩
theorem txt_list (x : Lx.Txt) : (⟨x.toArray⟩ : ByteArray).data.toList = x := by simp
set_option maxRecDepth 20000 in
theorem wrankof_any (x : Lx.Txt) (w : World) (hx : x.length ≤ 140737488355328) : Calls Tryz.prog 195 #[.string ⟨x.toArray⟩] w fun e w' => e = .returned (.int .i64 (Ps.rankS x : Int)) ∧ Below w.heap.size w w' := by
 have HN := Hd fun W => isname_any ⟨x.toArray⟩ W (by rw [txt_size]; exact hx)
 have HB := Hd fun W => isbin_any ⟨x.toArray⟩ W (by rw [txt_size]; exact hx)
 rw [txt_list] at HN HB
 cases h1 : Lx.wordB x with
 | true =>
  have HE : Hid (Ps.rankS x = 0) := Hd (by unfold Ps.rankS; rw [h1]; rfl)
  rw [h1] at HN
  clear h1 HB hx
  go_enter Tryz.func195, Tryz.ntmps195
  go_wp2_with (go_at_call 113; refine (HN.out _).mono ?_; rintro e w1 ⟨rfl, hb⟩; have HB1 := Hd hb; clear hb)
  go_ret
  exact ⟨by rw [HE.out]; rfl, HB1.out⟩
 | false =>
  cases h2 : Lx.binsB x with
  | true =>
   have HE : Hid (Ps.rankS x = 1) := Hd (by unfold Ps.rankS; rw [h1, h2]; rfl)
   rw [h1] at HN
   rw [h2] at HB
   clear h1 h2 hx
   go_enter Tryz.func195, Tryz.ntmps195
   go_wp2_with (first
    | (go_at_call 113; refine (HN.out _).mono ?_; rintro e w1 ⟨rfl, hb⟩; have HB1 := Hd hb; clear hb)
    | (go_at_call 114; refine (HB.out _).mono ?_; rintro e w2 ⟨rfl, hb⟩; have HB2 := Hd (HB1.out.trans (hb.mono HB1.out.size)); clear hb))
   go_ret
   exact ⟨by rw [HE.out]; rfl, HB2.out⟩
  | false =>
   have HE : Hid (Ps.rankS x = 2) := Hd (by unfold Ps.rankS; rw [h1, h2]; rfl)
   rw [h1] at HN
   rw [h2] at HB
   clear h1 h2 hx
   go_enter Tryz.func195, Tryz.ntmps195
   go_wp2_with (first
    | (go_at_call 113; refine (HN.out _).mono ?_; rintro e w1 ⟨rfl, hb⟩; have HB1 := Hd hb; clear hb)
    | (go_at_call 114; refine (HB.out _).mono ?_; rintro e w2 ⟨rfl, hb⟩; have HB2 := Hd (HB1.out.trans (hb.mono HB1.out.size)); clear hb))
   go_ret
   exact ⟨by rw [HE.out]; rfl, HB2.out⟩
theorem rankS_le (x : Lx.Txt) : Ps.rankS x ≤ 2 := by
 unfold Ps.rankS
 repeat' split
 all_goals omega
def rankTr (t : Ps.Tr) : Nat := Ps.rankT t.kind t.name
set_option maxRecDepth 20000 in
theorem wrank_any {w : World} {S : Nat → Prop} {cs : List Value} {t : Ps.Tr} (h : TpIn w S cs t) (hx : t.name.length ≤ 140737488355328) (W : World) : Calls Tryz.prog 215 #[.agg cs.toArray] W fun e w' => e = .returned (.int .i64 (rankTr t : Int)) ∧ Below W.heap.size W w' := by
 cases h with
 | mk k name names temps nodes prim place z A1 c1 A2 c2 A3 c3 css h1 h2 hl h3 h4 h5 =>
  have HR := Hd fun W => wrankof_any name W hx
  have HE : Hid (rankTr (.mk k name names temps nodes prim place) = Ps.rankT k name) := Hd rfl
  clear h1 h2 hl h3 h4 h5 hx
  by_cases k4 : k = 4
  ·subst k4
   go_enter Tryz.func215, Tryz.ntmps215
   go_wp2
   go_ret
   exact ⟨by rw [HE.out]; rfl, new_below _ _⟩
  by_cases k6 : k = 6
  ·subst k6
   go_enter Tryz.func215, Tryz.ntmps215
   go_wp2
   go_ret
   exact ⟨by rw [HE.out]; rfl, new_below _ _⟩
  by_cases k5 : k = 5
  ·subst k5
   have HT : Hid (Ps.rankT 5 name = 1 + Ps.rankS name) := Hd rfl
   have hrs := rankS_le name
   generalize Ps.rankS name = rs at *
   have hrs2 : (rs : Int) ≤ 2 := by omega
   go_enter Tryz.func215, Tryz.ntmps215
   go_wp2_with (go_at_call 195; refine (HR.out _).mono ?_; rintro e w1 ⟨rfl, hb⟩; have HB1 := Hd ((new_below _ _).trans (hb.mono (new_below W _).size)); clear hb)
   go_ret
   exact ⟨by rw [HE.out, HT.out]; simp, HB1.out⟩
  ·have HT : Hid (Ps.rankT k name = 0) := Hd (by unfold Ps.rankT; rw [if_neg (by omega), if_neg k5])
   have d4 : ((k : Int) == 4) = false := beq_eq_false_iff_ne.2 (by omega)
   have d6 : ((k : Int) == 6) = false := beq_eq_false_iff_ne.2 (by omega)
   have d5 : ((k : Int) == 5) = false := beq_eq_false_iff_ne.2 (by omega)
   clear k4 k5 k6
   go_enter Tryz.func215, Tryz.ntmps215
   go_wp2
   go_ret
   exact ⟨by rw [HE.out, HT.out]; rfl, new_below _ _⟩
end Go.Proofs.YtjhonaglmgmpiaaGreatDoor
