/-
  The walks of the program's isName, isBinary, Arity.
-/
import Derived.Test.YtaigfelpecdajaaAryP
import Derived.Test.YtaigfelpecdajaaRefA
import Derived.Lib.ConvBytes
import Derived.Deep.CutBlock
namespace Go.Proofs.Ytaigfelpecdajaa
open Go.RowKit

/-- behind []byte(s) -/
structure BW (W W1 : World) (g : Nat) (s : ByteArray) : Prop where
  lt : g < W1.heap.size
  cell : ∀ (k : Nat) (h : k < s.size), W1.cell? ⟨g, k, none⟩ = some (.int .u8 ((s[k]'h).toNat : Int))
theorem BW.below {W W1 W2 : World} {g : Nat} {s : ByteArray} (h : BW W W1 g s) (hb : Below W1.heap.size W1 W2) : BW W W2 g s :=
  ⟨Nat.lt_of_lt_of_le h.lt hb.size, fun k hk => by rw [hb.cell (p := ⟨g, k, none⟩) h.lt]; exact h.cell k hk⟩
theorem BW.new (W : World) (s : ByteArray) : BW W (Lib.bytesWorld W 5 s) W.heap.size s :=
  ⟨by rw [Lib.bytesWorld_size]; omega, fun k hk => by
    rw [Lib.bytesWorld_cell W 5 s k hk]
    have : s.data.toList.getD k 0 = s[k]'hk := by rw [List.getD_eq_getElem?_getD, get_in hk]; rfl
    rw [this]⟩
theorem bw_below (W : World) (s : ByteArray) : Below W.heap.size W (Lib.bytesWorld W 5 s) :=
  ⟨rfl, rfl, rfl, by rw [Lib.bytesWorld_size]; omega, fun k hk => Lib.bytesWorld_at_old W 5 s k hk⟩
theorem tl (s : ByteArray) : s.toList = s.data.toList := by cases s; exact ByteArray.toList_mk _
theorem all_drop {p : UInt8 → Bool} {s : ByteArray} {k : Nat} (h : k < s.size) : (s.data.toList.drop k).all p = (p (s[k]'h) && (s.data.toList.drop (k + 1)).all p) := by
  have hl : k < s.data.toList.length := by simpa using h
  rw [List.drop_eq_getElem_cons hl, List.all_cons]
  congr 1
theorem all_end {p : UInt8 → Bool} {s : ByteArray} {k : Nat} (h : s.size ≤ k) : (s.data.toList.drop k).all p = true := by
  rw [List.drop_eq_nil_of_le (by simpa using h)]; rfl
set_option maxRecDepth 20000 in
set_option maxHeartbeats 1000000 in
theorem isbin_any (s : ByteArray) (w : World) (hs : s.size ≤ 1048576) : Calls Try.prog 22 #[.string s] w fun e w' => e = .returned (.bool (Lx.binsB s.data.toList)) ∧ Below w.heap.size w w' := by
  have hcv := fun W => Lib.run_convert_string_bytes (P := Try.prog) W 9 47 5 s Try.underlying9 Try.underlying47 Try.underlying5
  have HE : Hid (Lx.binsB s.data.toList = if s.data.toList.all Lx.binB then !s.data.toList.isEmpty else s.data.toList == [124]) := Lib.hid rfl
  generalize Lx.binsB s.data.toList = R at *
  have HTL := Lib.hid (tl s)
  go_enter Try.func22, Try.ntmps22
  go_upto_block 0 with fail
  have HBW := Lib.hid (BW.new w s)
  have HB := Lib.hid (bw_below w s)
  generalize Lib.bytesWorld w 5 s = w1 at HBW HB ⊢
  generalize hg : w.heap.size = g at HBW HB ⊢
  have HG := Lib.hid hg
  clear hcv hg
  go_wp2
  go_loopw [8] (fun i wr => ∃ k : Nat, k ≤ s.size ∧ i = .int .i64 k ∧ (s.data.toList.drop k).all Lx.binB = s.data.toList.all Lx.binB ∧ BW w wr g s ∧ Below g w wr) (fun i _ => s.size - (intOf i).toNat)
  case atStart => exact ⟨0, Nat.zero_le _, rfl, rfl, HBW.out, HB.out⟩
  case round =>
    obtain ⟨k, hk, rfl, ha, hbw, hb⟩ := hrel
    have HA := Lib.hid ha
    have HW := Lib.hid hbw
    have HB2 := Lib.hid hb
    have hgs : g < wr.heap.size := hbw.lt
    clear ha hbw hb
    by_cases hlt : k < s.size
    · have c1 := HW.out.cell k hlt
      have HD := Lib.hid (all_drop (p := Lx.binB) hlt)
      have HCL : Hid (Lx.binB (s[k]'hlt) = (Lx.cls (s[k]'hlt) == 4)) := Lib.hid rfl
      by_cases h4 : Lx.cls (s[k]'hlt) = 4
      · have d4 : ((Lx.cls (s[k]'hlt) : Int) != 4) = false := by rw [h4]; rfl
        have HN : Hid ((s.data.toList.drop (k + 1)).all Lx.binB = s.data.toList.all Lx.binB) := Lib.hid (by rw [← HA.out, HD.out, HCL.out, h4]; rfl)
        clear h4
        go_wp2_with (go_at_call 41; refine (class_any _ _).mono ?_; rintro e w' ⟨rfl, hb'⟩; have HB3 := Lib.hid hb'; clear hb')
        go_roundw
        case rel => exact ⟨k + 1, hlt, by go_num, HN.out, HW.out.below HB3.out, HB2.out.trans (HB3.out.mono (by omega))⟩
        case measure => simp [intOf]; omega
      · have d4 : ((Lx.cls (s[k]'hlt) : Int) != 4) = true := by rw [bne_iff_ne]; omega
        have HN : Hid (s.data.toList.all Lx.binB = false) := Lib.hid (by rw [← HA.out, HD.out, HCL.out, beq_eq_false_iff_ne.2 h4]; rfl)
        clear h4
        go_wp2_with (go_at_call 41; refine (class_any _ _).mono ?_; rintro e w' ⟨rfl, hb'⟩; have HB3 := Lib.hid hb'; clear hb')
        go_ret
        exact ⟨ret_bool (by rw [HE.out, HN.out, ← HTL.out]; rfl), by rw [HG.out]; exact HB2.out.trans (HB3.out.mono (by omega))⟩
    · have HN : Hid (s.data.toList.all Lx.binB = true) := Lib.hid (by rw [← HA.out]; exact all_end (by omega))
      go_wp2
      go_ret
      exact ⟨ret_bool (by rw [HE.out, HN.out, ← HTL.out]; simp), by rw [HG.out]; exact HB2.out⟩
theorem empty_of {s : ByteArray} (h : s.size = 0) : s.data.toList = [] := List.eq_nil_of_length_eq_zero (by simpa using h)
theorem word_at {s : ByteArray} (h : 0 < s.size) : Lx.wordB s.data.toList = (Lx.letB (s[0]'h) && s.data.toList.all Lx.ldB) := by
  have hl : 0 < s.data.toList.length := by simpa using h
  have e : s.data.toList = s[0]'h :: s.data.toList.drop 1 := by
    have := List.drop_eq_getElem_cons hl
    rw [List.drop_zero] at this
    rw [this]
    congr 1
  rw [e]
  simp only [Lx.wordB, List.all_cons]
  cases hx : Lx.letB (s[0]'h) <;> simp [Lx.ldB, hx]
set_option maxRecDepth 20000 in
set_option maxHeartbeats 1000000 in
theorem isname_any (s : ByteArray) (w : World) (hs : s.size ≤ 1048576) : Calls Try.prog 21 #[.string s] w fun e w' => e = .returned (.bool (Lx.wordB s.data.toList)) ∧ Below w.heap.size w w' := by
  have HTL := Lib.hid (tl s)
  by_cases h0 : s.size = 0
  · have t0 : s.toList.isEmpty = true := by rw [HTL.out, empty_of h0]; rfl
    have t1 : s.toList = [] := by rw [HTL.out, empty_of h0]
    have HE : Hid (Lx.wordB s.data.toList = false) := Lib.hid (by rw [empty_of h0]; rfl)
    clear h0
    go_enter Try.func21, Try.ntmps21
    go_wp2
    go_ret
    exact ⟨ret_bool (by rw [HE.out]), Below.refl _ _⟩
  · have hp : 0 < s.size := by omega
    have t0 : s.toList.isEmpty = false := by rw [HTL.out, List.isEmpty_eq_false_iff]; intro h; apply h0; have := congrArg List.length h; simpa using this
    have t2 : (s.toList == []) = false := by rw [HTL.out, beq_eq_false_iff_ne]; intro h; apply h0; have := congrArg List.length h; simpa using this
    have HE := Lib.hid (word_at hp)
    have HCL : Hid (Lx.letB (s[0]'hp) = (Lx.cls (s[0]'hp) == 2)) := Lib.hid rfl
    by_cases h2 : Lx.cls (s[0]'hp) = 2
    · have d2 : ((Lx.cls (s[0]'hp) : Int) != 2) = false := by rw [h2]; rfl
      have HR : Hid (Lx.wordB s.data.toList = s.data.toList.all Lx.ldB) := Lib.hid (by rw [HE.out, HCL.out, h2]; rfl)
      generalize Lx.wordB s.data.toList = R at *
      have hcv := fun W => Lib.run_convert_string_bytes (P := Try.prog) W 9 47 5 s Try.underlying9 Try.underlying47 Try.underlying5
      clear h2 h0
      go_enter Try.func21, Try.ntmps21
      go_upto_block 0 with (go_at_call 41; refine (class_any _ _).mono ?_; rintro e w1 ⟨rfl, hb'⟩; have HB1 := Lib.hid hb'; clear hb')
      have HBW := Lib.hid (BW.new w1 s)
      have HB := Lib.hid (HB1.out.trans ((bw_below w1 s).mono HB1.out.size))
      have hgw : w.heap.size ≤ w1.heap.size := HB1.out.size
      generalize Lib.bytesWorld w1 5 s = w2 at HBW HB ⊢
      generalize hg : w1.heap.size = g at HBW HB hgw ⊢
      clear hcv hg
      go_wp2
      go_loopw [17] (fun i wr => ∃ k : Nat, k ≤ s.size ∧ i = .int .i64 k ∧ (s.data.toList.drop k).all Lx.ldB = s.data.toList.all Lx.ldB ∧ BW w wr g s ∧ Below w.heap.size w wr) (fun i _ => s.size - (intOf i).toNat)
      case atStart => exact ⟨0, Nat.zero_le _, rfl, rfl, ⟨HBW.out.lt, HBW.out.cell⟩, HB.out⟩
      case round =>
        obtain ⟨k, hk, rfl, ha, hbw, hb⟩ := hrel
        have HA := Lib.hid ha
        have HW := Lib.hid hbw
        have HB2 := Lib.hid hb
        have hgs : g < wr.heap.size := hbw.lt
        clear ha hbw hb
        by_cases hlt : k < s.size
        · have c1 := HW.out.cell k hlt
          have HD := Lib.hid (all_drop (p := Lx.ldB) hlt)
          have HLD : Hid (Lx.ldB (s[k]'hlt) = (Lx.cls (s[k]'hlt) == 2 || Lx.cls (s[k]'hlt) == 3)) := Lib.hid rfl
          by_cases h2 : Lx.cls (s[k]'hlt) = 2
          · have d2' : ((Lx.cls (s[k]'hlt) : Int) != 2) = false := by rw [h2]; rfl
            have HN : Hid ((s.data.toList.drop (k + 1)).all Lx.ldB = s.data.toList.all Lx.ldB) := Lib.hid (by rw [← HA.out, HD.out, HLD.out, h2]; rfl)
            clear h2
            go_wp2_with (go_at_call 41; refine (class_any _ _).mono ?_; rintro e w' ⟨rfl, hb'⟩; have HB3 := Lib.hid hb'; clear hb')
            go_roundw
            case rel => exact ⟨k + 1, hlt, by go_num, HN.out, HW.out.below HB3.out, HB2.out.trans (HB3.out.mono (by omega))⟩
            case measure => simp [intOf]; omega
          · have d2' : ((Lx.cls (s[k]'hlt) : Int) != 2) = true := by rw [bne_iff_ne]; omega
            by_cases h3 : Lx.cls (s[k]'hlt) = 3
            · have d3' : ((Lx.cls (s[k]'hlt) : Int) != 3) = false := by rw [h3]; rfl
              have HN : Hid ((s.data.toList.drop (k + 1)).all Lx.ldB = s.data.toList.all Lx.ldB) := Lib.hid (by rw [← HA.out, HD.out, HLD.out, h3]; rfl)
              clear h2 h3
              go_wp2_with (go_at_call 41; refine (class_any _ _).mono ?_; rintro e w' ⟨rfl, hb'⟩; have HB3 := Lib.hid hb'; clear hb')
              go_roundw
              case rel => exact ⟨k + 1, hlt, by go_num, HN.out, HW.out.below HB3.out, HB2.out.trans (HB3.out.mono (by omega))⟩
              case measure => simp [intOf]; omega
            · have d3' : ((Lx.cls (s[k]'hlt) : Int) != 3) = true := by rw [bne_iff_ne]; omega
              have HN : Hid (s.data.toList.all Lx.ldB = false) := Lib.hid (by rw [← HA.out, HD.out, HLD.out, beq_eq_false_iff_ne.2 h2, beq_eq_false_iff_ne.2 h3]; rfl)
              clear h2 h3
              go_wp2_with (go_at_call 41; refine (class_any _ _).mono ?_; rintro e w' ⟨rfl, hb'⟩; have HB3 := Lib.hid hb'; clear hb')
              go_ret
              exact ⟨ret_bool (by rw [HR.out, HN.out]), HB2.out.trans (HB3.out.mono (by omega))⟩
        · have HN : Hid (s.data.toList.all Lx.ldB = true) := Lib.hid (by rw [← HA.out]; exact all_end (by omega))
          go_wp2
          go_ret
          exact ⟨ret_bool (by rw [HR.out, HN.out]), HB2.out⟩
    · have d2 : ((Lx.cls (s[0]'hp) : Int) != 2) = true := by rw [bne_iff_ne]; omega
      have HR : Hid (Lx.wordB s.data.toList = false) := Lib.hid (by rw [HE.out, HCL.out, beq_eq_false_iff_ne.2 h2]; rfl)
      clear h2 h0
      go_enter Try.func21, Try.ntmps21
      go_wp2_with (go_at_call 41; refine (class_any _ _).mono ?_; rintro e w1 ⟨rfl, hb'⟩)
      go_ret
      exact ⟨ret_bool (by rw [HR.out]), hb'⟩
end Go.Proofs.Ytaigfelpecdajaa
