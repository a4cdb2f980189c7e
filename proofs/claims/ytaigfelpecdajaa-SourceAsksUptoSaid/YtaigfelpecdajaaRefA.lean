/-
  The walks of the document's lexer: bytes, runs, strings.
-/
import Derived.Test.YtaigfelpecdajaaLexI
namespace Go.Proofs.Ytaigfelpecdajaa
open Go.RowKit

set_option maxRecDepth 100000 in
theorem letB_range (x : UInt8) : Lx.letB x = (decide (97 ≤ x.toNat ∧ x.toNat ≤ 122) || decide (65 ≤ x.toNat ∧ x.toNat ≤ 90) || decide (x.toNat = 95)) := by
  have := Lx.all_u8 (p := fun x => Lx.letB x == (decide (97 ≤ x.toNat ∧ x.toNat ≤ 122) || decide (65 ≤ x.toNat ∧ x.toNat ≤ 90) || decide (x.toNat = 95))) (by decide) x
  simpa using this
set_option maxRecDepth 100000 in
theorem digB_rangeB (x : UInt8) : Lx.digB x = decide (48 ≤ x.toNat ∧ x.toNat ≤ 57) := by
  have := Lx.all_u8 (p := fun x => Lx.digB x == decide (48 ≤ x.toNat ∧ x.toNat ≤ 57)) (by decide) x
  simpa using this
set_option maxRecDepth 100000 in
theorem binB_in (x : UInt8) : [43, 45, 42, 47, 92, 60, 62, 61, 126, 64, 37, 38, 63, 33, 44].contains x = Lx.binB x := by
  have := Lx.all_u8 (p := fun x => [43, 45, 42, 47, 92, 60, 62, 61, 126, 64, 37, 38, 63, 33, 44].contains x == Lx.binB x) (by decide) x
  simpa using this
set_option maxRecDepth 100000 in
theorem blank_in (x : UInt8) : [9, 10, 12, 13, 32].contains x = (Lx.cls x == 1) := by
  have := Lx.all_u8 (p := fun x => [9, 10, 12, 13, 32].contains x == (Lx.cls x == 1)) (by decide) x
  simpa using this
set_option maxRecDepth 100000 in
theorem mark_in (x : UInt8) : [40, 41, 91, 93, 123, 125, 46, 59, 94, 58, 124].contains x = (Lx.cls x == 5) := by
  have := Lx.all_u8 (p := fun x => [40, 41, 91, 93, 123, 125, 46, 59, 94, 58, 124].contains x == (Lx.cls x == 5)) (by decide) x
  simpa using this
set_option maxRecDepth 20000 in
theorem rletter_any (x : UInt8) (w : World) : Calls Try.prog 32 #[.int .u8 (x.toNat : Int)] w fun e w' => e = .returned (.bool (Lx.letB x)) ∧ w = w' := by
  have h1 := x.toNat_lt
  have HE := Lib.hid (letB_range x)
  by_cases a : 97 ≤ x.toNat
  · have a' : (97 : Int) ≤ (x.toNat : Int) := by omega
    by_cases b : x.toNat ≤ 122
    · have b' : (x.toNat : Int) ≤ 122 := by omega
      go_enter Try.func32, Try.ntmps32
      go_wp2
      go_ret
      exact ⟨ret_bool (by rw [HE.out]; simp [a, b]), rfl⟩
    · have b' : ¬ (x.toNat : Int) ≤ 122 := by omega
      have c' : (65 : Int) ≤ (x.toNat : Int) := by omega
      have d' : ¬ (x.toNat : Int) ≤ 90 := by omega
      have e' : ((x.toNat : Int) == 95) = false := by rw [beq_eq_false_iff_ne]; omega
      go_enter Try.func32, Try.ntmps32
      go_wp2
      go_ret
      exact ⟨ret_bool (by rw [HE.out]; simp; omega), rfl⟩
  · have a' : ¬ (97 : Int) ≤ (x.toNat : Int) := by omega
    by_cases c : 65 ≤ x.toNat
    · have c' : (65 : Int) ≤ (x.toNat : Int) := by omega
      by_cases d : x.toNat ≤ 90
      · have d' : (x.toNat : Int) ≤ 90 := by omega
        go_enter Try.func32, Try.ntmps32
        go_wp2
        go_ret
        exact ⟨ret_bool (by rw [HE.out]; simp; omega), rfl⟩
      · have d' : ¬ (x.toNat : Int) ≤ 90 := by omega
        go_enter Try.func32, Try.ntmps32
        go_wp2
        go_ret
        exact ⟨ret_bool (by rw [HE.out, Bool.eq_iff_iff]; simp; omega), rfl⟩
    · have c' : ¬ (65 : Int) ≤ (x.toNat : Int) := by omega
      go_enter Try.func32, Try.ntmps32
      go_wp2
      go_ret
      exact ⟨ret_bool (by rw [HE.out, Bool.eq_iff_iff]; simp; omega), rfl⟩
set_option maxRecDepth 20000 in
theorem rdigit_any (x : UInt8) (w : World) : Calls Try.prog 33 #[.int .u8 (x.toNat : Int)] w fun e w' => e = .returned (.bool (Lx.digB x)) ∧ w = w' := by
  have h1 := x.toNat_lt
  have HE := Lib.hid (digB_rangeB x)
  by_cases a : 48 ≤ x.toNat
  · have a' : (48 : Int) ≤ (x.toNat : Int) := by omega
    go_enter Try.func33, Try.ntmps33
    go_wp2
    go_ret
    exact ⟨ret_bool (by rw [HE.out, Bool.eq_iff_iff]; simp; omega), rfl⟩
  · have a' : ¬ (48 : Int) ≤ (x.toNat : Int) := by omega
    go_enter Try.func33, Try.ntmps33
    go_wp2
    go_ret
    exact ⟨ret_bool (by rw [HE.out, Bool.eq_iff_iff]; simp; omega), rfl⟩
set_option maxRecDepth 20000 in
theorem rfigure_any (x : UInt8) (w : World) : Calls Try.prog 54 #[.int .u8 (x.toNat : Int)] w fun e w' => e = .returned (.bool (Lx.figB x)) ∧ w = w' := by
  have h1 := x.toNat_lt
  cases hd : Lx.digB x with
  | true =>
    have HE : Hid (Lx.figB x = true) := Lib.hid (by unfold Lx.figB; rw [hd]; rfl)
    go_enter Try.func54, Try.ntmps54
    go_wp2_with (go_at_call 33; refine (rdigit_any x _).mono ?_; rintro e w' ⟨rfl, rfl⟩; rw [hd])
    go_ret
    exact ⟨ret_bool (by rw [HE.out]), rfl⟩
  | false =>
    have HE : Hid (Lx.figB x = decide (65 ≤ x.toNat ∧ x.toNat ≤ 90)) := Lib.hid (by unfold Lx.figB Lx.capB; rw [hd]; rfl)
    by_cases a : 65 ≤ x.toNat
    · have a' : (65 : Int) ≤ (x.toNat : Int) := by omega
      go_enter Try.func54, Try.ntmps54
      go_wp2_with (go_at_call 33; refine (rdigit_any x _).mono ?_; rintro e w' ⟨rfl, rfl⟩; rw [hd])
      go_ret
      exact ⟨ret_bool (by rw [HE.out, Bool.eq_iff_iff]; simp; omega), rfl⟩
    · have a' : ¬ (65 : Int) ≤ (x.toNat : Int) := by omega
      go_enter Try.func54, Try.ntmps54
      go_wp2_with (go_at_call 33; refine (rdigit_any x _).mono ?_; rintro e w' ⟨rfl, rfl⟩; rw [hd])
      go_ret
      exact ⟨ret_bool (by rw [HE.out, Bool.eq_iff_iff]; simp; omega), rfl⟩
def atN (l : List UInt8) (i : Nat) : UInt8 := (l[i]?).getD 0
theorem atN_in {s : ByteArray} {i : Nat} (h : i < s.size) : atN s.data.toList i = s[i]'h := by unfold atN; rw [get_in h]; rfl
theorem atN_out {s : ByteArray} {i : Nat} (h : ¬ i < s.size) : atN s.data.toList i = 0 := by unfold atN; rw [get_out h]; rfl
set_option maxRecDepth 20000 in
theorem rat_any (s : ByteArray) (j : Int) (i : Nat) (w : World) (hj : j = i) :
    Calls Try.prog 34 #[.string s, .int .i64 j] w fun e w' => e = .returned (.int .u8 ((atN s.data.toList i).toNat : Int)) ∧ w = w' := by
  subst hj
  by_cases h : i < s.size
  · have HE := Lib.hid (atN_in h)
    go_enter Try.func34, Try.ntmps34
    go_wp2
    go_ret
    exact ⟨ret_int (by rw [HE.out]), rfl⟩
  · have HE := Lib.hid (atN_out h)
    go_enter Try.func34, Try.ntmps34
    go_wp2
    go_ret
    exact ⟨ret_int (by rw [HE.out]; rfl), rfl⟩
def hasB (l : List UInt8) (x : UInt8) : Bool := l.contains x
set_option maxRecDepth 20000 in
set_option maxHeartbeats 1000000 in
theorem rin_any (s : ByteArray) (x : UInt8) (w : World) (hs : s.size ≤ 65536) : Calls Try.prog 31 #[.string s, .int .u8 (x.toNat : Int)] w fun e w' => e = .returned (.bool (hasB s.data.toList x)) ∧ w = w' := by
  go_enter Try.func31, Try.ntmps31
  go_wp2
  go_loop [5] (fun e => ∃ k : Nat, k ≤ s.size ∧ e = .int .i64 k ∧ (∀ j, j < k → s.data.toList[j]? ≠ some x)) (fun e => s.size - (intOf e).toNat)
  case atStart => exact ⟨0, Nat.zero_le _, rfl, fun j hj => absurd hj (by omega)⟩
  case round =>
    obtain ⟨k, hk, rfl, hno⟩ := hrel
    have HNO := Lib.hid hno
    clear hno
    by_cases hkl : k < s.size
    · have HX := Lib.hid (get_in hkl)
      by_cases he : s[k]'hkl = x
      · have d : (((s[k]'hkl).toNat : Int) == (x.toNat : Int)) = true := eqb_yes rfl he
        have HE : Hid (hasB s.data.toList x = true) := Lib.hid (by
          unfold hasB
          rw [List.contains_iff_mem]
          exact List.mem_of_getElem? (by rw [HX.out, he]))
        clear he
        go_wp2
        go_ret
        exact ⟨ret_bool (by rw [HE.out]), rfl⟩
      · have d : (((s[k]'hkl).toNat : Int) == (x.toNat : Int)) = false := eqb_no rfl he
        go_wp2
        go_round
        case rel => exact ⟨k + 1, hkl, by go_num, fun j hj => by
          by_cases e : j = k
          · subst e; rw [HX.out]; exact fun h => he (Option.some.inj h)
          · exact HNO.out j (by omega)⟩
        case measure => simp [intOf]; omega
    · have HE : Hid (hasB s.data.toList x = false) := Lib.hid (by
        unfold hasB
        rw [← Bool.not_eq_true, List.contains_iff_mem]
        intro hm
        obtain ⟨j, hj, e⟩ := List.getElem_of_mem hm
        have hj' : j < s.size := by simpa using hj
        exact HNO.out j (by omega) (by rw [List.getElem?_eq_getElem hj, e]))
      go_wp2
      go_ret
      exact ⟨ret_bool (by rw [HE.out]), rfl⟩
set_option maxRecDepth 20000 in
theorem rbinary_any (x : UInt8) (w : World) : Calls Try.prog 39 #[.int .u8 (x.toNat : Int)] w fun e w' => e = .returned (.bool (Lx.binB x)) ∧ w = w' := by
  have HE : Hid (hasB [43, 45, 42, 47, 92, 60, 62, 61, 126, 64, 37, 38, 63, 33, 44] x = Lx.binB x) := Lib.hid (binB_in x)
  go_enter Try.func39, Try.ntmps39
  go_wp2_with fail
  refine (rin_any ⟨#[43, 45, 42, 47, 92, 60, 62, 61, 126, 64, 37, 38, 63, 33, 44]⟩ x _ (by decide)).mono ?_
  rintro e w' ⟨rfl, rfl⟩
  rw [show ([43, 45, 42, 47, 92, 60, 62, 61, 126, 64, 37, 38, 63, 33, 44] : List UInt8) = (⟨#[43, 45, 42, 47, 92, 60, 62, 61, 126, 64, 37, 38, 63, 33, 44]⟩ : ByteArray).data.toList from rfl] at HE
  rw [HE.out]
  go_wp2
  go_ret
  exact ⟨rfl, rfl⟩
/-- the place behind the binary bytes from i on -/
theorem binGo_in2 {s : ByteArray} {i : Nat} (h : i < s.size) : Lx.binGo s.data.toList i = (Lx.binB (s[i]'h) && !(s[i]'h == 45 && (s.data.toList[i + 1]?.map Lx.digB).getD false)) := by
  unfold Lx.binGo
  rw [get_in h]
set_option maxRecDepth 20000 in
set_option maxHeartbeats 1000000 in
theorem rrun_any (s : ByteArray) (j : Int) (i : Nat) (w : World) (hs : s.size ≤ 65536) (hj : j = i) (hi : i < s.size) :
    Calls Try.prog 40 #[.string s, .int .i64 j] w fun e w' => e = .returned (.int .i64 (Lx.binF s.data.toList (i + 1))) ∧ w = w' := by
  subst hj
  go_enter Try.func40, Try.ntmps40
  go_wp2
  go_loopw [5] (fun e wr => ∃ k : Nat, k ≤ s.size ∧ e = .int .i64 k ∧ Lx.binF s.data.toList k = Lx.binF s.data.toList (i + 1) ∧ w = wr) (fun e _ => s.size - (intOf e).toNat)
  case atStart => exact ⟨i + 1, hi, by go_num, rfl, rfl⟩
  case round =>
    obtain ⟨k, hk, rfl, hf, rfl⟩ := hrel
    have HF := Lib.hid hf
    clear hf
    have HSTEP := Lib.hid fun (h1 : Lx.binGo s.data.toList k = true) => (Lx.binF_step h1).trans HF.out
    have HSTOP := Lib.hid fun (h1 : Lx.binGo s.data.toList k = false) => (Lx.binF_stop h1).symm.trans HF.out
    by_cases hlt : k < s.size
    · have HG := Lib.hid (binGo_in2 hlt)
      cases hb : Lx.binB (s[k]'hlt) with
      | false =>
        have HZ := Lib.hid (HSTOP.out (by rw [HG.out, hb]; rfl))
        go_wp2_with (go_at_call 39; refine (rbinary_any _ _).mono ?_; rintro e w' ⟨rfl, rfl⟩; rw [hb])
        go_ret
        exact ⟨ret_int (by rw [← HZ.out]), rfl⟩
      | true =>
        by_cases h45 : s[k]'hlt = 45
        · have d45 : (((s[k]'hlt).toNat : Int) == 45) = true := eqb_yes (b := 45) rfl h45
          have H45 := Lib.hid h45
          clear h45
          by_cases h1 : k + 1 < s.size
          · cases hd : Lx.digB (s[k + 1]'h1) with
            | true =>
              have HZ := Lib.hid (HSTOP.out (by rw [HG.out, hb, H45.out, get_in h1]; simp [hd]))
              go_wp2_with (first
                | (go_at_call 39; refine (rbinary_any _ _).mono ?_; rintro e w' ⟨rfl, rfl⟩; rw [hb])
                | (go_at_call 33; refine (rdigit_any _ _).mono ?_; rintro e w' ⟨rfl, rfl⟩; rw [hd]))
              go_ret
              exact ⟨ret_int (by rw [← HZ.out]), rfl⟩
            | false =>
              have HZ := Lib.hid (HSTEP.out (by rw [HG.out, hb, H45.out, get_in h1]; simp [hd]))
              go_wp2_with (first
                | (go_at_call 39; refine (rbinary_any _ _).mono ?_; rintro e w' ⟨rfl, rfl⟩; rw [hb])
                | (go_at_call 33; refine (rdigit_any _ _).mono ?_; rintro e w' ⟨rfl, rfl⟩; rw [hd]))
              go_roundw
              case rel => exact ⟨k + 1, by omega, by go_num, HZ.out, by first | rfl | trivial⟩
              case measure => simp [intOf]; omega
          · have HZ := Lib.hid (HSTEP.out (by rw [HG.out, hb, get_out h1]; simp))
            go_wp2_with (first
              | (go_at_call 39; refine (rbinary_any _ _).mono ?_; rintro e w' ⟨rfl, rfl⟩; rw [hb]))
            go_roundw
            case rel => exact ⟨k + 1, by omega, by go_num, HZ.out, by first | rfl | trivial⟩
            case measure => simp [intOf]; omega
        · have d45 : (((s[k]'hlt).toNat : Int) == 45) = false := eqb_no (b := 45) rfl h45
          have HZ := Lib.hid (HSTEP.out (by rw [HG.out, hb]; simp [h45]))
          clear h45
          go_wp2_with (go_at_call 39; refine (rbinary_any _ _).mono ?_; rintro e w' ⟨rfl, rfl⟩; rw [hb])
          go_roundw
          case rel => exact ⟨k + 1, by omega, by go_num, HZ.out, by first | rfl | trivial⟩
          case measure => simp [intOf]; omega
    · have HZ := Lib.hid (HSTOP.out (binGo_out hlt))
      go_wp2
      go_ret
      exact ⟨ret_int (by rw [← HZ.out]), rfl⟩
/-- what the document's quoted hands back -/
def quoR (r : Option (List UInt8 × Nat)) : Value := match r with
  | none => .tuple #[.string ⟨#[]⟩, .int .i64 (-1)]
  | some (t, n) => .tuple #[.string ⟨t.toArray⟩, .int .i64 (n : Int)]
theorem quoRn : quoR none = .tuple #[.string ⟨#[]⟩, .int .i64 (-1)] := rfl
theorem quoRs (t : List UInt8) (n : Nat) : quoR (some (t, n)) = .tuple #[.string ⟨t.toArray⟩, .int .i64 (n : Int)] := rfl
set_option maxRecDepth 20000 in
set_option maxHeartbeats 1000000 in
theorem rquoted_any (s : ByteArray) (j : Int) (i : Nat) (w : World) (hs : s.size ≤ 65536) (hj : j = i) (hi : i < s.size) :
    Calls Try.prog 37 #[.string s, .int .i64 j] w fun e w' => e = .returned (quoR (Lx.qF s.data.toList i)) ∧ Below w.heap.size w w' := by
  subst hj
  go_enter Try.func37, Try.ntmps37
  go_wp2
  go_loopw [1, 6] (fun e v wr => ∃ (k : Nat) (acc : List UInt8), k ≤ s.size + 1 ∧ acc.length ≤ k ∧ e = .int .i64 k ∧ OwnB 5 wr w.heap.size v acc ∧ Lx.qOn acc k (Lx.qt (s.data.toList.drop k)) = Lx.qF s.data.toList i ∧ Below w.heap.size w wr) (fun e _ _ => s.size + 1 - (intOf e).toNat)
  case atStart => exact ⟨i + 1, [], by omega, by simp, by go_num, OwnB.nil 5 _ _, rfl, Below.refl _ _⟩
  case round =>
    obtain ⟨k, acc, hk, hacc, rfl, hown, hf, hb⟩ := hrel
    have HF := Lib.hid hf
    have HB := Lib.hid hb
    have HO := Lib.hid hown
    obtain ⟨A, cp, rfl, _, _⟩ := OwnB.form hown
    clear hf hb hown
    have hsz := HB.out.size
    by_cases hlt : k < s.size
    · have hx := get_in hlt
      by_cases h39 : s[k]'hlt = 39
      · have d : (((s[k]'hlt).toNat : Int) != 39) = false := by rw [bne_eq_false_iff_eq, h39]; rfl
        have HX : Hid (s.data.toList[k]? = some 39) := Lib.hid (by rw [hx, h39])
        clear hx h39
        by_cases h2 : s.data.toList[k + 1]? = some 39
        · have hk1 : k + 1 < s.size := by
            rcases Nat.lt_or_ge (k + 1) s.size with h | h
            · exact h
            · rw [get_out (by omega)] at h2; cases h2
          have d2 : atN s.data.toList (k + 1) = 39 := by unfold atN; rw [h2]; rfl
          have d3 : ((k : Int) + 1 == (s.size : Int)) = false := by rw [beq_eq_false_iff_ne]; omega
          have HQ := Lib.hid ((Lx.qOn_twice acc HX.out h2).symm.trans HF.out)
          clear h2
          go_wp2_with (first
            | (go_at_call 34; refine (rat_any s _ (k + 1) _ (by go_num)).mono ?_; rintro e w' ⟨rfl, rfl⟩; rw [d2])
            | (at_builtin; refine wpList_app rfl (.tmp 41) (.tmp 42) 47 rfl w.heap.size 5 info5' Try.underlying47 _ acc rfl (HO.out.alloc _) _ _ _ _ [39] rfl (read_one8 _ 39) (by simp; omega) (by simp; omega) ?_; intro v1 w1 hown1 happ1; have HO1 := Lib.hid hown1; have HA1 := Lib.hid happ1; clear hown1 happ1))
          go_roundw
          case rel => exact ⟨k + 2, acc ++ [39], by omega, by simp; omega, by go_num, HO1.out, HQ.out, bapp HB.out HO.out HA1.out⟩
          case measure => simp [intOf]; omega
        · have HQ := Lib.hid ((Lx.qOn_end acc HX.out h2).symm.trans HF.out)
          have hstr : (convert 47 9 (.slice A acc.length cp)).run Try.prog wr = .ok (.string ⟨acc.toArray⟩) wr := run_string_of wr 47 9 5 (OwnB.reads HO.out rfl) Try.underlying47 Try.underlying5 Try.underlying9
          by_cases hk1 : k + 1 < s.size
          · have d2 : ((((atN s.data.toList (k + 1)).toNat : Nat) : Int) != 39) = true := by
              rw [bne_iff_ne]
              intro h
              have h' : atN s.data.toList (k + 1) = 39 := by rw [← UInt8.toNat_inj]; show _ = 39; omega
              rw [atN_in hk1] at h'
              exact h2 (by rw [get_in hk1, h'])
            clear h2
            go_wp2_with (first
              | (go_at_call 34; refine (rat_any s _ (k + 1) _ (by go_num)).mono ?_; rintro e w' ⟨rfl, rfl⟩))
            go_ret2
            exact ⟨by rw [← HQ.out]; rfl, HB.out⟩
          · have d2 : atN s.data.toList (k + 1) = 0 := atN_out hk1
            clear h2
            go_wp2_with (first
              | (go_at_call 34; refine (rat_any s _ (k + 1) _ (by go_num)).mono ?_; rintro e w' ⟨rfl, rfl⟩; rw [d2]))
            go_ret2
            exact ⟨by rw [← HQ.out]; rfl, HB.out⟩
      · have d : (((s[k]'hlt).toNat : Int) != 39) = true := by
          rw [bne_iff_ne]
          intro h
          exact h39 (by rw [← UInt8.toNat_inj]; show _ = 39; omega)
        have HQ := Lib.hid ((Lx.qOn_plain acc hx h39).symm.trans HF.out)
        clear hx h39
        go_wp2_with (first
          | (at_builtin; refine wpList_app rfl (.tmp 19) (.tmp 23) 47 rfl w.heap.size 5 info5' Try.underlying47 _ acc rfl (HO.out.alloc _) _ _ _ _ [s[k]'hlt] rfl (read_one8 _ _) (by simp; omega) (by simp; omega) ?_; intro v1 w1 hown1 happ1; have HO1 := Lib.hid hown1; have HA1 := Lib.hid happ1; clear hown1 happ1))
        go_roundw
        case rel => exact ⟨k + 1, acc ++ [s[k]'hlt], by omega, by simp; omega, by go_num, HO1.out, HQ.out, bapp HB.out HO.out HA1.out⟩
        case measure => simp [intOf]; omega
    · have HQ := Lib.hid ((Lx.qOn_none acc (l := s.data.toList) (i := k) (by simp; omega)).symm.trans HF.out)
      go_wp2
      go_ret2
      exact ⟨by rw [← HQ.out]; rfl, HB.out⟩
end Go.Proofs.Ytaigfelpecdajaa
