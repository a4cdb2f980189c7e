/-
  Selectors at the outside; is a name reserved; lists of strings joined.
-/
import Derived.Test.YtaigfelpecdajaaAskE
namespace Go.Proofs.Ytaigfelpecdajaa
open Go.RowKit

set_option maxRecDepth 20000 in
set_option maxHeartbeats 1000000 in
theorem selectors_any (f : Nat) (t : TrF f) (cs : List Value) (B : Nat) (w : World) (h : NodeAt f w B cs t) (hB : B ≤ w.heap.size) (hw : wtT f t ≤ 1048576) :
    Calls Try.prog 11 #[.agg cs.toArray] w (SelP w w.heap.size (.slice none 0 0) (selT f [] t)) := by
  match f, t, h, hw with
  | f + 1, t, h, hw =>
    have H := Lib.hid h
    obtain ⟨A1, c1, A2, c2, A3, c3, css, rfl, p1, p2, p3, p4, p5⟩ := h
    clear p1 p2 p3 p4 p5
    have HS := Lib.hid fun (o : Obj) => sel_any (f + 1) t _ B w.heap.size (.slice none 0 0) [] (w.alloc o) (H.out.below ((Below.refl _ _).alloc hB o)) (OwnS.nil _ _) hB (by simp) (by simpa using Nat.le_trans hw (by decide))
    generalize selT (f + 1) [] t = R at *
    obtain ⟨kd, nm, ns, ts, xs, pr, pl⟩ := t
    dsimp only at *
    clear hw
    go_enter Try.func11, Try.ntmps11
    go_wp2_with fail
    refine (HS.out _).mono ?_
    rintro e w' ⟨v', rfl, ho, ha⟩
    go_wp2
    go_ret
    exact ⟨_, rfl, ho, ha.from⟩

/-! ## Reserved names -/
def resL : List ByteArray := [⟨#[115, 101, 108, 102]⟩, ⟨#[115, 117, 112, 101, 114]⟩, ⟨#[110, 105, 108]⟩, ⟨#[116, 114, 117, 101]⟩, ⟨#[102, 97, 108, 115, 101]⟩, ⟨#[116, 104, 105, 115, 67, 111, 110, 116, 101, 120, 116]⟩]
set_option maxRecDepth 20000 in
set_option maxHeartbeats 1000000 in
theorem sReserved_any (s : ByteArray) (w : World) : Calls Try.prog 44 #[.string s] w fun e w' => e = .returned (.bool (hasS resL s)) ∧ Below w.heap.size w w' := by
  have HC := Lib.hid (sHas_any (some ⟨w.heap.size, 0, none⟩) 6 (w.heap.size + 1) resL s _ (Reads.built w 9 (resL.map Value.string)) (by decide))
  go_enter Try.func44, Try.ntmps44
  go_wp2_with fail
  refine HC.out.mono ?_
  rintro e w' ⟨rfl, rfl⟩
  go_wp2
  go_ret
  exact ⟨rfl, (Below.refl _ _).alloc (Nat.le_refl _) _⟩
set_option maxRecDepth 20000 in
set_option maxHeartbeats 4000000 in
theorem rReserved_any (s : ByteArray) (w : World) : Calls Try.prog 29 #[.string s] w fun e w' => e = .returned (.bool (hasS resL s)) ∧ w = w' := by
  have HE := Lib.hid (show hasS resL s = (eqS s ⟨#[115, 101, 108, 102]⟩ || eqS s ⟨#[115, 117, 112, 101, 114]⟩ || eqS s ⟨#[110, 105, 108]⟩ || eqS s ⟨#[116, 114, 117, 101]⟩ || eqS s ⟨#[102, 97, 108, 115, 101]⟩ || eqS s ⟨#[116, 104, 105, 115, 67, 111, 110, 116, 101, 120, 116]⟩) by simp [hasS, resL, Bool.or_assoc])
  generalize hasS resL s = R at *
  cases h0 : eqS s ⟨#[115, 101, 108, 102]⟩ with
  | true =>
    have t0 : (s.toList == [115, 101, 108, 102]) = true := by rw [← show (⟨#[115, 101, 108, 102]⟩ : ByteArray).toList = [115, 101, 108, 102] from ByteArray.toList_mk _, toList_eq, h0]
    have HR : Hid (R = true) := Lib.hid (by rw [HE.out]; simp [h0])
    clear h0
    go_enter Try.func29, Try.ntmps29
    go_wp2
    go_ret
    exact ⟨ret_bool (by rw [HR.out]), rfl⟩
  | false =>
    have t0 : (s.toList == [115, 101, 108, 102]) = false := by rw [← show (⟨#[115, 101, 108, 102]⟩ : ByteArray).toList = [115, 101, 108, 102] from ByteArray.toList_mk _, toList_eq, h0]
    cases h1 : eqS s ⟨#[115, 117, 112, 101, 114]⟩ with
    | true =>
      have t1 : (s.toList == [115, 117, 112, 101, 114]) = true := by rw [← show (⟨#[115, 117, 112, 101, 114]⟩ : ByteArray).toList = [115, 117, 112, 101, 114] from ByteArray.toList_mk _, toList_eq, h1]
      have HR : Hid (R = true) := Lib.hid (by rw [HE.out]; simp [h1])
      clear h0 h1
      go_enter Try.func29, Try.ntmps29
      go_wp2
      go_ret
      exact ⟨ret_bool (by rw [HR.out]), rfl⟩
    | false =>
      have t1 : (s.toList == [115, 117, 112, 101, 114]) = false := by rw [← show (⟨#[115, 117, 112, 101, 114]⟩ : ByteArray).toList = [115, 117, 112, 101, 114] from ByteArray.toList_mk _, toList_eq, h1]
      cases h2 : eqS s ⟨#[110, 105, 108]⟩ with
      | true =>
        have t2 : (s.toList == [110, 105, 108]) = true := by rw [← show (⟨#[110, 105, 108]⟩ : ByteArray).toList = [110, 105, 108] from ByteArray.toList_mk _, toList_eq, h2]
        have HR : Hid (R = true) := Lib.hid (by rw [HE.out]; simp [h2])
        clear h0 h1 h2
        go_enter Try.func29, Try.ntmps29
        go_wp2
        go_ret
        exact ⟨ret_bool (by rw [HR.out]), rfl⟩
      | false =>
        have t2 : (s.toList == [110, 105, 108]) = false := by rw [← show (⟨#[110, 105, 108]⟩ : ByteArray).toList = [110, 105, 108] from ByteArray.toList_mk _, toList_eq, h2]
        cases h3 : eqS s ⟨#[116, 114, 117, 101]⟩ with
        | true =>
          have t3 : (s.toList == [116, 114, 117, 101]) = true := by rw [← show (⟨#[116, 114, 117, 101]⟩ : ByteArray).toList = [116, 114, 117, 101] from ByteArray.toList_mk _, toList_eq, h3]
          have HR : Hid (R = true) := Lib.hid (by rw [HE.out]; simp [h3])
          clear h0 h1 h2 h3
          go_enter Try.func29, Try.ntmps29
          go_wp2
          go_ret
          exact ⟨ret_bool (by rw [HR.out]), rfl⟩
        | false =>
          have t3 : (s.toList == [116, 114, 117, 101]) = false := by rw [← show (⟨#[116, 114, 117, 101]⟩ : ByteArray).toList = [116, 114, 117, 101] from ByteArray.toList_mk _, toList_eq, h3]
          cases h4 : eqS s ⟨#[102, 97, 108, 115, 101]⟩ with
          | true =>
            have t4 : (s.toList == [102, 97, 108, 115, 101]) = true := by rw [← show (⟨#[102, 97, 108, 115, 101]⟩ : ByteArray).toList = [102, 97, 108, 115, 101] from ByteArray.toList_mk _, toList_eq, h4]
            have HR : Hid (R = true) := Lib.hid (by rw [HE.out]; simp [h4])
            clear h0 h1 h2 h3 h4
            go_enter Try.func29, Try.ntmps29
            go_wp2
            go_ret
            exact ⟨ret_bool (by rw [HR.out]), rfl⟩
          | false =>
            have t4 : (s.toList == [102, 97, 108, 115, 101]) = false := by rw [← show (⟨#[102, 97, 108, 115, 101]⟩ : ByteArray).toList = [102, 97, 108, 115, 101] from ByteArray.toList_mk _, toList_eq, h4]
            cases h5 : eqS s ⟨#[116, 104, 105, 115, 67, 111, 110, 116, 101, 120, 116]⟩ with
            | true =>
              have t5 : (s.toList == [116, 104, 105, 115, 67, 111, 110, 116, 101, 120, 116]) = true := by rw [← show (⟨#[116, 104, 105, 115, 67, 111, 110, 116, 101, 120, 116]⟩ : ByteArray).toList = [116, 104, 105, 115, 67, 111, 110, 116, 101, 120, 116] from ByteArray.toList_mk _, toList_eq, h5]
              have HR : Hid (R = true) := Lib.hid (by rw [HE.out]; simp [h5])
              clear h0 h1 h2 h3 h4 h5
              go_enter Try.func29, Try.ntmps29
              go_wp2
              go_ret
              exact ⟨ret_bool (by rw [HR.out]), rfl⟩
            | false =>
              have t5 : (s.toList == [116, 104, 105, 115, 67, 111, 110, 116, 101, 120, 116]) = false := by rw [← show (⟨#[116, 104, 105, 115, 67, 111, 110, 116, 101, 120, 116]⟩ : ByteArray).toList = [116, 104, 105, 115, 67, 111, 110, 116, 101, 120, 116] from ByteArray.toList_mk _, toList_eq, h5]
              have HR : Hid (R = false) := Lib.hid (by rw [HE.out]; simp [h0, h1, h2, h3, h4, h5])
              clear h0 h1 h2 h3 h4 h5
              go_enter Try.func29, Try.ntmps29
              go_wp2
              go_ret
              exact ⟨ret_bool (by rw [HR.out]), rfl⟩
end Go.Proofs.Ytaigfelpecdajaa
