/-
  The walks of the document's number texts.
-/
import Derived.Test.YtaigfelpecdajaaRefB
import Derived.Test.YtaigfelpecdajaaLxK
namespace Go.Proofs.Ytaigfelpecdajaa
open Go.RowKit

theorem ret_str {a b : ByteArray} (h : a = b) : Ending.returned (.string a) = .returned (.string b) := by rw [h]
theorem txt_get {m : List Nat} {j : Nat} (hj : j < m.length) : (Lx.txtN m)[j]? = some (UInt8.ofNat (48 + m[m.length - 1 - j])) := by
  unfold Lx.txtN
  rw [List.getElem?_map, List.getElem?_reverse hj, List.getElem?_eq_getElem (by omega)]
  rfl
theorem take_set {t : List UInt8} {j n : Nat} {x : UInt8} (hx : t[j]? = some x) (hn : t.length = n) :
    (t.take j ++ List.replicate (n - j) 0).set j x = t.take (j + 1) ++ List.replicate (n - (j + 1)) 0 := by
  have hj : j < t.length := by
    rcases Nat.lt_or_ge j t.length with h | h
    · exact h
    · rw [List.getElem?_eq_none h] at hx; cases hx
  have hl : (t.take j).length = j := by simp; omega
  have e : n - j = (n - (j + 1)) + 1 := by omega
  rw [e, List.replicate_succ, List.set_append_right _ _ (by omega), hl, Nat.sub_self, List.set_cons_zero, List.take_add_one, hx]
  simp
set_option maxRecDepth 20000 in
set_option maxHeartbeats 4000000 in
theorem shown_any (A : Option Addr) (cp : Nat) (m : List Nat) (w : World) (h : RdB w w.heap.size A m.length (Lx.dgB m)) (hm : Lx.Dg m) (hl : m.length ≤ 100000) :
    Calls Try.prog 56 #[.slice A m.length cp] w fun e w' => e = .returned (.string ⟨(Lx.txtN (Lx.fixN m)).toArray⟩) ∧ Below w.heap.size w w' := by
  by_cases h0 : m = []
  · subst h0
    go_enter Try.func56, Try.ntmps56
    go_wp2
    go_ret
    exact ⟨rfl, Below.refl _ _⟩
  · have hpos : 0 < m.length := List.length_pos_iff.2 h0
    have HF : Hid (Lx.fixN m = m) := Lib.hid (by unfold Lx.fixN; rw [if_neg h0])
    have d0 : ((m.length : Int) == 0) = false := by rw [beq_eq_false_iff_ne]; omega
    obtain ⟨i0, hi, hz0, hz1, hz2⟩ := info_parts info5'
    have hmk := fun (w : World) => run_make_rowN (P := Try.prog) 47 5 i0 (.int .u8 0) Try.underlying47 hi hz0 .i64 .i64 m.length m.length (Nat.le_refl _) (by rw [hz2]; omega) (by omega) w
    simp only [hz1, Nat.mul_one, Value.cells] at hmk
    have HMO := Lib.hid (made_own w m.length (by omega))
    have H := Lib.hid h
    have HDM := Lib.hid hm
    clear h hm hi hz0 hz1 hz2 h0
    go_enter Try.func56, Try.ntmps56
    go_wp2
    clear hmk
    go_loopw [4] (fun e wx => ∃ j : Nat, j ≤ m.length ∧ e = .int .i64 j ∧ OwnB 5 wx w.heap.size (.slice (some ⟨w.heap.size, 0, none⟩) m.length m.length) ((Lx.txtN m).take j ++ List.replicate (m.length - j) 0) ∧ Below w.heap.size w wx) (fun e _ => m.length - (intOf e).toNat)
    case atStart => exact ⟨0, Nat.zero_le _, rfl, by have h := HMO.out; simpa using h, (Below.refl _ _).alloc (Nat.le_refl _) _⟩
    case round =>
      obtain ⟨j, hj, rfl, hown, hb⟩ := hrel
      have HO2 := Lib.hid hown
      have HB2 := Lib.hid hb
      by_cases hjl : j < m.length
      · have hq : m.length - 1 - j < m.length := by omega
        have hy10 : m[m.length - 1 - j] < 10 := HDM.out _ (List.getElem_mem hq)
        obtain ⟨ad, x, rfl, hb1, hx, hc⟩ := (H.out.below HB2.out).byte hq
        have hxv : (x.toNat : Int) = (m[m.length - 1 - j] : Nat) := by
          have e : x = UInt8.ofNat m[m.length - 1 - j] := by
            rw [Lx.dgB, List.getElem?_map, List.getElem?_eq_getElem hq] at hx
            exact (Option.some.inj hx).symm
          rw [e]; exact ofNat_val (by omega)
        rw [hxv] at hc
        have htx := txt_get hjl
        obtain ⟨y, hy⟩ : ∃ y, m[m.length - 1 - j] = y := ⟨_, rfl⟩
        rw [hy] at hy10 hc htx
        have hlen : ((Lx.txtN m).take j ++ List.replicate (m.length - j) (0 : UInt8)).length = m.length := by simp [Lx.txtN_len]; omega
        have h6 : OwnB 5 wr w.heap.size (.slice (some ⟨w.heap.size, 0, none⟩) ((Lx.txtN m).take j ++ List.replicate (m.length - j) (0 : UInt8)).length m.length) ((Lx.txtN m).take j ++ List.replicate (m.length - j) 0) := by rw [hlen]; exact hown
        obtain ⟨c1, f1⟩ := h6.at_ (i := j) (by rw [hlen]; exact hjl)
        have h7 := h6.stored j (UInt8.ofNat (48 + y))
        rw [take_set htx (Lx.txtN_len m), show ((Lx.txtN m).take (j + 1) ++ List.replicate (m.length - (j + 1)) (0 : UInt8)).length = m.length from by simp [Lx.txtN_len]; omega] at h7
        unfold bv at h7
        rw [ofNat_val (by omega), show ((48 + y : Nat) : Int) = 48 + (y : Int) from by omega] at h7
        have HO7 := Lib.hid h7
        obtain ⟨q, hqe⟩ : ∃ q : Nat, m.length - 1 - j = q := ⟨_, rfl⟩
        rw [hqe] at hc
        have l1 : (m.length : Int) - 1 - (j : Int) = (q : Int) := by omega
        have HL1 := Lib.hid l1
        have hqn : q < m.length := by omega
        clear h7 h6 hown hb hx hxv htx hy hlen hqe l1 hq hb1
        have l2 : (0 : Int) ≤ (m.length : Int) - 1 - (j : Int) := by rw [HL1.out]; omega
        have l3 : (m.length : Int) - 1 - (j : Int) < (m.length : Int) := by rw [HL1.out]; omega
        have hc' : wr.cell? (ad.add (m.length - 1 - j)) = some (.int .u8 (y : Int)) := by
          have e : m.length - 1 - j = q := by have := HL1.out; omega
          rw [e]; exact hc
        go_wp2
        go_roundw
        case rel => exact ⟨j + 1, hjl, by go_num, HO7.out, HB2.out.setCell (Nat.le_refl _) _⟩
        case measure => simp [intOf]; omega
      · obtain rfl : j = m.length := by omega
        have h8 : OwnB 5 wr w.heap.size (.slice (some ⟨w.heap.size, 0, none⟩) m.length m.length) (Lx.txtN m) := by
          have := HO2.out
          rwa [Nat.sub_self, List.replicate_zero, List.append_nil, List.take_of_length_le (by rw [Lx.txtN_len]; exact Nat.le_refl _)] at this
        have hst : (convert 47 9 (.slice (some ⟨w.heap.size, 0, none⟩) m.length m.length)).run Try.prog wr = .ok (.string ⟨(Lx.txtN m).toArray⟩) wr := run_string_of wr 47 9 5 (OwnB.reads h8 (Lx.txtN_len m).symm) Try.underlying47 Try.underlying5 Try.underlying9
        clear h8 hown hb
        go_wp2
        go_ret
        exact ⟨ret_str (by rw [HF.out]), HB2.out⟩
end Go.Proofs.Ytaigfelpecdajaa
