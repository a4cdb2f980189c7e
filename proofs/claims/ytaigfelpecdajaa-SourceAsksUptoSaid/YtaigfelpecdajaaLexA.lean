/-
  The walks of the lexer's methods that only read.
-/
import Derived.Test.YtaigfelpecdajaaCls
import Derived.BigQuiet
import Derived.Deep.QuietTactic
import Derived.Deep.DeepCutAuto
namespace Go.Proofs.Ytaigfelpecdajaa
open Go.RowKit

/-- a lexer at block g over the text s -/
def Lxr (w : World) (g : Nat) (s : ByteArray) : Prop := w.cell? ⟨g, 0, none⟩ = some (.string s) ∧ g < w.heap.size
theorem Lxr.below {w w' : World} {g : Nat} {s : ByteArray} (h : Lxr w g s) (hb : Below w.heap.size w w') : Lxr w' g s :=
  ⟨by rw [hb.cell (p := ⟨g, 0, none⟩) h.2]; exact h.1, Nat.lt_of_lt_of_le h.2 hb.size⟩
theorem bnext {w w1 w2 : World} (h : Below w.heap.size w w1) (h2 : Below w1.heap.size w1 w2) : Below w.heap.size w w2 := h.trans (h2.mono h.size)
theorem own_base {e : TypeId} {w : World} {base k : Nat} {v : Value} {bs : List UInt8} (h : OwnB e w base v bs) (hk : v.ownBlock = some k) : base ≤ k := by
  rcases h.2 with ⟨rfl, _⟩ | ⟨g', cap, cur, rfl, hb, _⟩
  · cases hk
  · have : g' = k := by simpa [Value.ownBlock] using hk
    omega
/-- what was there stays, behind an append onto a row of the call's own -/
theorem bapp {w wr w1 : World} {o : Obj} {e : TypeId} {v v1 : Value} {bs : List UInt8} (hb : Below w.heap.size w wr) (ho : OwnB e wr w.heap.size v bs) (ha : App (wr.alloc o) v w1 v1) : Below w.heap.size w w1 :=
  (hb.alloc hb.size o).trans (ha.below (base := w.heap.size) (by have := hb.size; simp; omega) fun _ hk => own_base ho hk)
def clsAt (l : List UInt8) (i : Nat) : Nat := match l[i]? with
  | none => 0
  | some x => Lx.cls x
theorem get_in {s : ByteArray} {i : Nat} (h : i < s.size) : s.data.toList[i]? = some (s[i]'h) := by
  rw [Array.getElem?_toList, Array.getElem?_eq_getElem h]; rfl
theorem get_out {s : ByteArray} {i : Nat} (h : ¬ i < s.size) : s.data.toList[i]? = none := by
  rw [Array.getElem?_toList, Array.getElem?_eq_none (Nat.not_lt.1 h)]
theorem clsAt_in {s : ByteArray} {i : Nat} (h : i < s.size) : clsAt s.data.toList i = Lx.cls (s[i]'h) := by unfold clsAt; rw [get_in h]
theorem clsAt_out {s : ByteArray} {i : Nat} (h : ¬ i < s.size) : clsAt s.data.toList i = 0 := by unfold clsAt; rw [get_out h]
theorem isAt_in {s : ByteArray} {i : Nat} (h : i < s.size) (b : UInt8) : Lx.isAt s.data.toList i b = decide ((s[i]'h) = b) := by
  unfold Lx.isAt; rw [get_in h, Bool.eq_iff_iff]; simp
theorem isAt_out {s : ByteArray} {i : Nat} (h : ¬ i < s.size) (b : UInt8) : Lx.isAt s.data.toList i b = false := by
  unfold Lx.isAt; rw [get_out h]; rfl
theorem u8_eq_int (x b : UInt8) : ((x.toNat : Int) == (b.toNat : Int)) = decide (x = b) := by
  rw [Bool.eq_iff_iff]; simp [← UInt8.toNat_inj]; omega

set_option maxRecDepth 20000 in
theorem lclass_any (g : Nat) (s : ByteArray) (j : Int) (i : Nat) (w : World) (h : Lxr w g s) (hj : j = i) :
    Calls Try.prog 46 #[.pointer (some ⟨g, 0, none⟩), .int .i64 j] w fun e w' => e = .returned (.int .i64 (clsAt s.data.toList i)) ∧ Below w.heap.size w w' ∧ w'.cell? ⟨g, 0, none⟩ = some (.string s) := by
  subst hj
  have h0 := h
  have H := Lib.hid h0
  obtain ⟨hc, hg⟩ := h
  clear h0
  by_cases hlt : i < s.size
  · have HE := Lib.hid (clsAt_in hlt)
    go_enter Try.func46, Try.ntmps46
    go_wp2_with (go_at_call 41; refine (class_any _ _).mono ?_; rintro e w' ⟨rfl, hb⟩)
    go_ret
    exact ⟨ret_int (by rw [HE.out]), hb, (H.out.below hb).1⟩
  · have HE := Lib.hid (clsAt_out hlt)
    go_enter Try.func46, Try.ntmps46
    go_wp2_with (go_at_call 41; refine (class_any _ _).mono ?_; rintro e w' ⟨rfl, hb⟩)
    go_ret
    exact ⟨ret_int (by rw [HE.out]; rfl), Below.refl _ _, hc⟩
set_option maxRecDepth 20000 in
theorem lis_any (g : Nat) (s : ByteArray) (j : Int) (i : Nat) (b : UInt8) (c : Int) (w : World) (h : Lxr w g s) (hj : j = i) (hb : c = b.toNat) :
    Calls Try.prog 48 #[.pointer (some ⟨g, 0, none⟩), .int .i64 j, .int .u8 c] w fun e w' => e = .returned (.bool (Lx.isAt s.data.toList i b)) ∧ w = w' := by
  subst hj hb
  obtain ⟨hc, hg⟩ := h
  by_cases hlt : i < s.size
  · have HE := Lib.hid (isAt_in hlt b)
    have d := Lib.hid (u8_eq_int (s[i]'hlt) b)
    go_enter Try.func48, Try.ntmps48
    go_wp2
    go_ret
    exact ⟨ret_bool (by rw [HE.out]; exact d.out), rfl⟩
  · have HE := Lib.hid (isAt_out hlt b)
    go_enter Try.func48, Try.ntmps48
    go_wp2
    go_ret
    exact ⟨ret_bool (by rw [HE.out]), rfl⟩
theorem binGo_out {s : ByteArray} {i : Nat} (h : ¬ i < s.size) : Lx.binGo s.data.toList i = false := by unfold Lx.binGo; rw [get_out h]
theorem binGo_in {s : ByteArray} {i : Nat} (h : i < s.size) : Lx.binGo s.data.toList i = (Lx.cls (s[i]'h) == 4 && !(s[i]'h == 45 && clsAt s.data.toList (i + 1) == 3)) := by
  unfold Lx.binGo clsAt
  rw [get_in h]
  cases hq : s.data.toList[i + 1]? with
  | none => simp [Lx.binB]
  | some y => simp [Lx.binB, Lx.digB]
set_option maxRecDepth 20000 in
set_option maxHeartbeats 1000000 in
theorem lbinary_any (g : Nat) (s : ByteArray) (j : Int) (i : Nat) (w : World) (h : Lxr w g s) (hs : s.size ≤ 65536) (hj : j = i) (hi : i < s.size) :
    Calls Try.prog 51 #[.pointer (some ⟨g, 0, none⟩), .int .i64 j] w fun e w' => e = .returned (.int .i64 (Lx.binF s.data.toList (i + 1))) ∧ Below w.heap.size w w' := by
  subst hj
  have H := Lib.hid h
  clear h
  go_enter Try.func51, Try.ntmps51
  go_wp2
  go_loopw [5] (fun e wr => ∃ k : Nat, k ≤ s.size ∧ e = .int .i64 k ∧ Lx.binF s.data.toList k = Lx.binF s.data.toList (i + 1) ∧ Below w.heap.size w wr) (fun e _ => s.size - (intOf e).toNat)
  case atStart => exact ⟨i + 1, hi, by go_num, rfl, Below.refl _ _⟩
  case round =>
    obtain ⟨k, hk, rfl, hf, hb⟩ := hrel
    have HF := Lib.hid hf
    have HB := Lib.hid hb
    have HL := Lib.hid (H.out.below hb)
    clear hf hb
    have HSTEP := Lib.hid fun (h1 : Lx.binGo s.data.toList k = true) => (Lx.binF_step h1).trans HF.out
    have HSTOP := Lib.hid fun (h1 : Lx.binGo s.data.toList k = false) => (Lx.binF_stop h1).symm.trans HF.out
    by_cases hlt : k < s.size
    · have HG := Lib.hid (binGo_in hlt)
      have HC := Lib.hid (clsAt_in hlt)
      by_cases h4 : Lx.cls (s[k]'hlt) = 4
      · have d4 : ((clsAt s.data.toList k : Int) == 4) = true := by rw [HC.out, h4]; rfl
        have H4 := Lib.hid h4
        clear h4
        by_cases h45 : s[k]'hlt = 45
        · have d45 : (((s[k]'hlt).toNat : Int) == 45) = true := by rw [h45]; rfl
          have H45 := Lib.hid h45
          clear h45
          by_cases h3 : clsAt s.data.toList (k + 1) = 3
          · have d3 : ((clsAt s.data.toList (k + 1) : Int) == 3) = true := by rw [h3]; rfl
            have HZ : Hid (Lx.binGo s.data.toList k = false) := Lib.hid (by rw [HG.out, H4.out, H45.out, h3]; rfl)
            clear h3
            go_wp2_with (go_at_call 46; refine (lclass_any g s _ _ _ (by first | exact HL.out | exact HL.out.below (by assumption)) (by first | rfl | exact (Int.natCast_succ _).symm)).mono ?_; rintro e w' ⟨rfl, hb, hc⟩)
            go_ret
            exact ⟨ret_int (by rw [← HSTOP.out HZ.out]), bnext (bnext HB.out (by assumption)) hb⟩
          · have d3 : ((clsAt s.data.toList (k + 1) : Int) == 3) = false := by rw [beq_eq_false_iff_ne]; omega
            have HZ : Hid (Lx.binGo s.data.toList k = true) := Lib.hid (by rw [HG.out, H4.out, H45.out]; simp [h3])
            clear h3
            go_wp2_with (go_at_call 46; refine (lclass_any g s _ _ _ (by first | exact HL.out | exact HL.out.below (by assumption)) (by first | rfl | exact (Int.natCast_succ _).symm)).mono ?_; rintro e w' ⟨rfl, hb, hc⟩)
            go_roundw
            case rel => exact ⟨k + 1, by omega, by go_num, HSTEP.out HZ.out, bnext (bnext HB.out (by assumption)) hb⟩
            case measure => simp [intOf]; omega
        · have d45 : (((s[k]'hlt).toNat : Int) == 45) = false := by rw [← show ((45 : UInt8).toNat : Int) = 45 from rfl, u8_eq_int]; simpa using h45
          have HZ : Hid (Lx.binGo s.data.toList k = true) := Lib.hid (by rw [HG.out, H4.out]; simp [h45])
          clear h45
          go_wp2_with (go_at_call 46; refine (lclass_any g s _ _ _ (by first | exact HL.out | exact HL.out.below (by assumption)) (by first | rfl | exact (Int.natCast_succ _).symm)).mono ?_; rintro e w' ⟨rfl, hb, hc⟩)
          go_roundw
          case rel => exact ⟨k + 1, by omega, by go_num, HSTEP.out HZ.out, bnext HB.out hb⟩
          case measure => simp [intOf]; omega
      · have d4 : ((clsAt s.data.toList k : Int) == 4) = false := by rw [beq_eq_false_iff_ne, HC.out]; omega
        have HZ : Hid (Lx.binGo s.data.toList k = false) := Lib.hid (by rw [HG.out]; simp [h4])
        clear h4
        go_wp2_with (go_at_call 46; refine (lclass_any g s _ _ _ (by first | exact HL.out | exact HL.out.below (by assumption)) (by first | rfl | exact (Int.natCast_succ _).symm)).mono ?_; rintro e w' ⟨rfl, hb, hc⟩)
        go_ret
        exact ⟨ret_int (by rw [← HSTOP.out HZ.out]), bnext HB.out hb⟩
    · have d4 : ((clsAt s.data.toList k : Int) == 4) = false := by rw [clsAt_out hlt]; rfl
      have HZ : Hid (Lx.binGo s.data.toList k = false) := Lib.hid (binGo_out hlt)
      go_wp2_with (go_at_call 46; refine (lclass_any g s _ _ _ (by first | exact HL.out | exact HL.out.below (by assumption)) (by first | rfl | exact (Int.natCast_succ _).symm)).mono ?_; rintro e w' ⟨rfl, hb, hc⟩)
      go_ret
      exact ⟨ret_int (by rw [← HSTOP.out HZ.out]), bnext HB.out hb⟩
/-- the place of a class among some, or one below nought -/
def IdxP (cs : List Nat) (v : Nat) (w : World) (e : Ending) (w' : World) : Prop := ∃ r : Int, e = .returned (.int .i64 r) ∧ (0 ≤ r ↔ v ∈ cs) ∧ w = w'
theorem IdxP.yes {cs : List Nat} {v k : Nat} {w : World} (h : cs[k]? = some v) : IdxP cs v w (.returned (.int .i64 (k : Int))) w := ⟨k, rfl, ⟨fun _ => List.mem_of_getElem? h, fun _ => by omega⟩, rfl⟩
theorem IdxP.no {cs : List Nat} {v : Nat} {w : World} (h : ∀ j, j < cs.length → cs[j]? ≠ some v) : IdxP cs v w (.returned (.int .i64 (-1))) w :=
  ⟨-1, rfl, ⟨fun h => absurd h (by omega), fun hm => by
    obtain ⟨j, hj, e⟩ := List.getElem_of_mem hm
    exact absurd (by rw [List.getElem?_eq_getElem hj, e]) (h j hj)⟩, rfl⟩
set_option maxRecDepth 20000 in
set_option maxHeartbeats 1000000 in
theorem lidx_any (h c : Nat) (cs : List Nat) (v : Nat) (w : World) (hn : cs.length ≤ 1000) (hcell : ∀ (j x : Nat), cs[j]? = some x → w.cell? ⟨h, j, none⟩ = some (.int .i64 (x : Int))) :
    Calls Try.prog 62 #[.slice (some ⟨h, 0, none⟩) cs.length c, .int .i64 (v : Int)] w (IdxP cs v w) := by
  have H := Lib.hid hcell
  clear hcell
  go_enter Try.func62, Try.ntmps62
  go_wp2
  go_loopw [8] (fun i wr => ∃ k : Nat, k ≤ cs.length ∧ i = .int .i64 k ∧ (∀ j, j < k → cs[j]? ≠ some v) ∧ w = wr) (fun i _ => cs.length - (intOf i).toNat)
  case atStart => exact ⟨0, Nat.zero_le _, rfl, (fun j hj => absurd hj (by omega)), rfl⟩
  case round =>
    obtain ⟨k, hk, rfl, hno, rfl⟩ := hrel
    have HNO := Lib.hid hno
    clear hno
    by_cases hlt : k < cs.length
    · have hx : cs[k]? = some cs[k] := List.getElem?_eq_getElem hlt
      have hc := H.out k _ hx
      by_cases he : cs[k] = v
      · have d : ((v : Int) == ((cs[k] : Nat) : Int)) = true := by rw [he]; simp
        have HE := Lib.hid (IdxP.yes (w := w) (show cs[k]? = some v by rw [hx, he]))
        clear hx he
        go_wp2
        go_ret
        exact HE.out
      · have d : ((v : Int) == ((cs[k] : Nat) : Int)) = false := by rw [beq_eq_false_iff_ne]; omega
        have HX := Lib.hid hx
        clear hx
        go_wp2
        go_roundw
        case rel => exact ⟨k + 1, by omega, by go_num, (fun j hj => by
          by_cases e : j = k
          · subst e; rw [HX.out]; exact fun h => he (Option.some.inj h)
          · exact HNO.out j (by omega)), by first | rfl | trivial⟩
        case measure => simp [intOf]; omega
    · obtain rfl : k = cs.length := by omega
      have HE := Lib.hid (IdxP.no (w := w) (fun j hj => HNO.out j hj))
      go_wp2
      go_ret
      exact HE.out
set_option maxRecDepth 20000 in
theorem lhas_any (h c : Nat) (cs : List Nat) (v : Nat) (w : World) (hn : cs.length ≤ 1000) (hcell : ∀ (j x : Nat), cs[j]? = some x → w.cell? ⟨h, j, none⟩ = some (.int .i64 (x : Int))) :
    Calls Try.prog 59 #[.slice (some ⟨h, 0, none⟩) cs.length c, .int .i64 (v : Int)] w fun e w' => e = .returned (.bool (cs.contains v)) ∧ w = w' := by
  have H := Lib.hid hcell
  clear hcell
  go_enter Try.func59, Try.ntmps59
  go_wp2_with fail
  refine (lidx_any h c cs v w hn H.out).mono ?_
  rintro e w' ⟨r, rfl, hr, rfl⟩
  have HR := Lib.hid hr
  clear hr
  go_wp2
  go_ret
  exact ⟨ret_bool (by rw [Bool.eq_iff_iff]; simpa using HR.out), rfl⟩
set_option maxRecDepth 20000 in
set_option maxHeartbeats 1000000 in
theorem lrun_any (g : Nat) (s : ByteArray) (h c : Nat) (cs : List Nat) (p : UInt8 → Bool) (j : Int) (i : Nat) (w : World) (hL : Lxr w g s) (hs : s.size ≤ 65536) (hj : j = i) (hi : i ≤ s.size) (hh : h < w.heap.size)
    (hn : cs.length ≤ 1000) (hp : ∀ x, cs.contains (Lx.cls x) = p x) (hcell : ∀ (j x : Nat), cs[j]? = some x → w.cell? ⟨h, j, none⟩ = some (.int .i64 (x : Int))) :
    Calls Try.prog 47 #[.pointer (some ⟨g, 0, none⟩), .int .i64 j, .slice (some ⟨h, 0, none⟩) cs.length c] w fun e w' => e = .returned (.int .i64 (Lx.runF p s.data.toList i)) ∧ Below w.heap.size w w' := by
  subst hj
  have H := Lib.hid hL
  have HC := Lib.hid hcell
  have HP := Lib.hid hp
  clear hL hcell hp
  go_enter Try.func47, Try.ntmps47
  go_wp2
  go_loopw [1] (fun e wr => ∃ k : Nat, k ≤ s.size ∧ e = .int .i64 k ∧ Lx.runF p s.data.toList k = Lx.runF p s.data.toList i ∧ Below w.heap.size w wr) (fun e _ => s.size - (intOf e).toNat)
  case atStart => exact ⟨i, hi, rfl, rfl, Below.refl _ _⟩
  case round =>
    obtain ⟨k, hk, rfl, hf, hb⟩ := hrel
    have HF := Lib.hid hf
    have HB := Lib.hid hb
    have HL := Lib.hid (H.out.below hb)
    clear hf hb
    have HCELL : Hid (∀ w' : World, Below wr.heap.size wr w' → ∀ (j x : Nat), cs[j]? = some x → w'.cell? ⟨h, j, none⟩ = some (.int .i64 (x : Int))) :=
      Lib.hid fun w' hb j x hx => by rw [(bnext HB.out hb).cell (p := ⟨h, j, none⟩) hh]; exact HC.out j x hx
    by_cases hlt : k < s.size
    · have HT := Lib.hid (get_in hlt)
      have HA := Lib.hid (clsAt_in hlt)
      by_cases hq : p (s[k]'hlt) = true
      · have d : cs.contains (clsAt s.data.toList k) = true := by rw [HA.out, HP.out]; exact hq
        have HS := Lib.hid ((Lx.runF_step HT.out hq).trans HF.out)
        clear hq
        go_wp2_with (first
          | (go_at_call 46; refine (lclass_any g s _ _ _ HL.out rfl).mono ?_; rintro e w' ⟨rfl, hb, hc⟩)
          | (go_at_call 59; refine (lhas_any h c cs _ _ hn (HCELL.out _ (by assumption))).mono ?_; rintro e w'' ⟨rfl, rfl⟩; rw [d]))
        go_roundw
        case rel => exact ⟨k + 1, by omega, by go_num, HS.out, bnext HB.out (by assumption)⟩
        case measure => simp [intOf]; omega
      · have hq' : p (s[k]'hlt) = false := by simpa using hq
        have d : cs.contains (clsAt s.data.toList k) = false := by rw [HA.out, HP.out]; exact hq'
        have HS := Lib.hid ((Lx.runF_stop HT.out hq').symm.trans HF.out)
        clear hq hq'
        go_wp2_with (first
          | (go_at_call 46; refine (lclass_any g s _ _ _ HL.out rfl).mono ?_; rintro e w' ⟨rfl, hb, hc⟩)
          | (go_at_call 59; refine (lhas_any h c cs _ _ hn (HCELL.out _ (by assumption))).mono ?_; rintro e w'' ⟨rfl, rfl⟩; rw [d]))
        go_ret
        exact ⟨ret_int (by rw [HS.out]), bnext HB.out (by assumption)⟩
    · obtain rfl : k = s.size := by omega
      have HS := Lib.hid ((Lx.runF_end (p := p) (l := s.data.toList) (i := s.size) (by simp)).symm.trans HF.out)
      by_cases hd : cs.contains (clsAt s.data.toList s.size) = true
      · go_wp2_with (first
          | (go_at_call 46; refine (lclass_any g s _ _ _ HL.out rfl).mono ?_; rintro e w' ⟨rfl, hb, hc⟩)
          | (go_at_call 59; refine (lhas_any h c cs _ _ hn (HCELL.out _ (by assumption))).mono ?_; rintro e w'' ⟨rfl, rfl⟩; rw [hd]))
        go_ret
        exact ⟨ret_int (by rw [← HS.out]), bnext HB.out (by assumption)⟩
      · have hd' : cs.contains (clsAt s.data.toList s.size) = false := by simpa using hd
        clear hd
        go_wp2_with (first
          | (go_at_call 46; refine (lclass_any g s _ _ _ HL.out rfl).mono ?_; rintro e w' ⟨rfl, hb, hc⟩)
          | (go_at_call 59; refine (lhas_any h c cs _ _ hn (HCELL.out _ (by assumption))).mono ?_; rintro e w'' ⟨rfl, rfl⟩; rw [hd']))
        go_ret
        exact ⟨ret_int (by rw [← HS.out]), bnext HB.out (by assumption)⟩
theorem info5' : (Try.prog.info? 5).map (fun i => (i.zero, i.size, i.bytes)) = some (some (.int .u8 0), 1, 1) := by kernel_rfl
/-- what quoted hands back -/
def quoV (r : Option (List UInt8 × Nat)) : Value := match r with
  | none => .tuple #[.string ⟨#[]⟩, .int .i64 0, .bool false]
  | some (t, n) => .tuple #[.string ⟨t.toArray⟩, .int .i64 (n : Int), .bool true]
theorem eq39 (x : UInt8) (h : x = 39) : ((x.toNat : Int) == 39) = true := by rw [h]; rfl
theorem ne39 (x : UInt8) (h : ¬ x = 39) : ((x.toNat : Int) == 39) = false := by rw [← show ((39 : UInt8).toNat : Int) = 39 from rfl, u8_eq_int]; simpa using h
theorem read_one8 (w : World) (x : UInt8) : RdB (w.alloc (.cells #[.int .u8 (x.toNat : Int)] 5)) (w.heap.size + 1) (some ⟨w.heap.size, 0, none⟩) 1 [x] := Reads.built w 5 [bv x]
set_option maxRecDepth 20000 in
set_option maxHeartbeats 1000000 in
theorem lquoted_any (g : Nat) (s : ByteArray) (j : Int) (i : Nat) (w : World) (h : Lxr w g s) (hs : s.size ≤ 65536) (hj : j = i) (hi : i < s.size) :
    Calls Try.prog 52 #[.pointer (some ⟨g, 0, none⟩), .int .i64 j] w fun e w' => e = .returned (quoV (Lx.qF s.data.toList i)) ∧ Below w.heap.size w w' := by
  subst hj
  have H := Lib.hid h
  clear h
  go_enter Try.func52, Try.ntmps52
  go_wp2
  go_loopw [7, 8] (fun v e wr => ∃ (k : Nat) (acc : List UInt8), k ≤ s.size + 1 ∧ acc.length ≤ k ∧ e = .int .i64 k ∧ OwnB 5 wr w.heap.size v acc ∧ Lx.qOn acc k (Lx.qt (s.data.toList.drop k)) = Lx.qF s.data.toList i ∧ Below w.heap.size w wr) (fun _ e _ => s.size + 1 - (intOf e).toNat)
  case atStart => exact ⟨i + 1, [], by omega, by simp, by go_num, OwnB.nil 5 _ _, rfl, Below.refl _ _⟩
  case round =>
    obtain ⟨k, acc, hk, hacc, rfl, hown, hf, hb⟩ := hrel
    have HF := Lib.hid hf
    have HB := Lib.hid hb
    have HO := Lib.hid hown
    obtain ⟨hc, hg⟩ := H.out.below hb
    have HL : Hid (Lxr wr g s) := Lib.hid ⟨hc, hg⟩
    obtain ⟨A, cp, rfl, _, _⟩ := OwnB.form hown
    clear hf hb hown
    have hsz := HB.out.size
    by_cases hlt : k < s.size
    · have hx := get_in hlt
      by_cases h39 : s[k]'hlt = 39
      · have d := eq39 _ h39
        have HX : Hid (s.data.toList[k]? = some 39) := Lib.hid (by rw [hx, h39])
        have H39 := Lib.hid h39
        clear hx h39
        by_cases h2 : s.data.toList[k + 1]? = some 39
        · have d2 : Lx.isAt s.data.toList (k + 1) 39 = true := by unfold Lx.isAt; rw [h2]; rfl
          have HQ := Lib.hid ((Lx.qOn_twice acc HX.out h2).symm.trans HF.out)
          have hk1 : k + 1 < s.size := by
            rcases Nat.lt_or_ge (k + 1) s.size with h | h
            · exact h
            · rw [get_out (by omega)] at h2; cases h2
          have H2 := Lib.hid h2
          have H1 : Hid (s[k + 1]'hk1 = 39) := Lib.hid (by have := get_in hk1; rw [h2] at this; exact (Option.some.inj this).symm)
          clear h2
          go_wp2_with (first
            | (go_at_call 48; refine (lis_any g s _ (k + 1) 39 _ _ HL.out (by go_num) rfl).mono ?_; rintro e w' ⟨rfl, rfl⟩; rw [d2])
            | (at_builtin; refine wpList_app rfl (.tmp 38) (.tmp 45) 47 rfl w.heap.size 5 info5' Try.underlying47 _ acc rfl (HO.out.alloc _) _ _ _ _ [s[k + 1]'hk1] rfl (read_one8 _ _) (by simp; omega) (by simp; omega) ?_; intro v1 w1 hown1 happ1; have HO1 := Lib.hid hown1; have HA1 := Lib.hid happ1; clear hown1 happ1))
          go_roundw
          case rel => exact ⟨k + 2, acc ++ [39], by omega, by simp; omega, by go_num, by rw [← H1.out]; exact HO1.out, HQ.out, bapp HB.out HO.out HA1.out⟩
          case measure => simp [intOf]; omega
        · have d2 : Lx.isAt s.data.toList (k + 1) 39 = false := by unfold Lx.isAt; simpa using h2
          have HQ := Lib.hid ((Lx.qOn_end acc HX.out h2).symm.trans HF.out)
          clear h2
          have hstr : (convert 47 9 (.slice A acc.length cp)).run Try.prog wr = .ok (.string ⟨acc.toArray⟩) wr := run_string_of wr 47 9 5 (OwnB.reads HO.out rfl) Try.underlying47 Try.underlying5 Try.underlying9
          go_wp2_with (first
            | (go_at_call 48; refine (lis_any g s _ (k + 1) 39 _ _ HL.out (by go_num) rfl).mono ?_; rintro e w' ⟨rfl, rfl⟩; rw [d2]))
          go_ret3
          exact ⟨by rw [← HQ.out]; rfl, HB.out⟩
      · have d := ne39 _ h39
        have HQ := Lib.hid ((Lx.qOn_plain acc hx h39).symm.trans HF.out)
        clear hx h39
        go_wp2_with (first
          | (at_builtin; refine wpList_app rfl (.tmp 38) (.tmp 45) 47 rfl w.heap.size 5 info5' Try.underlying47 _ acc rfl (HO.out.alloc _) _ _ _ _ [s[k]'hlt] rfl (read_one8 _ _) (by simp; omega) (by simp; omega) ?_; intro v1 w1 hown1 happ1; have HO1 := Lib.hid hown1; have HA1 := Lib.hid happ1; clear hown1 happ1))
        go_roundw
        case rel => exact ⟨k + 1, acc ++ [s[k]'hlt], by omega, by simp; omega, by go_num, HO1.out, HQ.out, bapp HB.out HO.out HA1.out⟩
        case measure => simp [intOf]; omega
    · have HQ := Lib.hid ((Lx.qOn_none acc (l := s.data.toList) (i := k) (by simp; omega)).symm.trans HF.out)
      go_wp2
      go_ret3
      exact ⟨by rw [← HQ.out]; rfl, HB.out⟩
end Go.Proofs.Ytaigfelpecdajaa
