/-
  Parts LexA, LexB, Ps, PsA of the proof. No statement of the seat is proved here.
-/
import Derived.Test.YtjhonaglmgmpiaaGreatDoorP01
import Derived.BigQuiet
import Derived.Deep.QuietTactic
import Derived.Deep.DeepCutAuto
import Derived.Deep.RegionLaw
import Derived.Deep.RegionLawGrows
set_option maxHeartbeats 4000000
namespace Go.Proofs.YtjhonaglmgmpiaaGreatDoor
open Go.RowKit
def Lxr (w : World) (g : Nat) (s : ByteArray) : Prop := w.cell? ⟨g, 0, none⟩ = some (.string s) ∧ g < w.heap.size
theorem Lxr.below {w w' : World} {g : Nat} {s : ByteArray} (h : Lxr w g s) (hb : Below w.heap.size w w') : Lxr w' g s :=
 ⟨by rw [hb.cell (p := ⟨g, 0, none⟩) h.2]; exact h.1, Nat.lt_of_lt_of_le h.2 hb.size⟩
theorem bnext {w w1 w2 : World} (h : Below w.heap.size w w1) (h2 : Below w1.heap.size w1 w2) : Below w.heap.size w w2 := h.trans (h2.mono h.size)
theorem own_base {e : TypeId} {w : World} {base k : Nat} {v : Value} {bs : List UInt8} (h : OwnB e w base v bs) (hk : v.ownBlock = some k) : base ≤ k := by
 rcases h.2 with ⟨rfl, _⟩ | ⟨g', cap, cur, rfl, hb, _⟩
 ·cases hk
 ·have : g' = k := by simpa [Value.ownBlock] using hk
  omega
theorem bapp {w wr w1 : World} {o : Obj} {e : TypeId} {v v1 : Value} {bs : List UInt8} (hb : Below w.heap.size w wr) (ho : OwnB e wr w.heap.size v bs) (ha : App (wr.alloc o) v w1 v1) : Below w.heap.size w w1 :=
 (hb.alloc hb.size o).trans (ha.below (base := w.heap.size) (by have := hb.size; simp; omega) fun _ hk => own_base ho hk)
def clsAt (l : List UInt8) (i : Nat) : Nat := match l[i]? with
 | none => 0
 | some x => Lx.cls x
theorem get_in {s : ByteArray} {i : Nat} (h : i < s.size) : s.data.toList[i]? = some (s[i]'h) := by
 rw [Array.getElem?_toList, Array.getElem?_eq_getElem h]; rfl
theorem get_out {s : ByteArray} {i : Nat} (h : ¬ i < s.size) : s.data.toList[i]? = none := by
 rw [Array.getElem?_toList, Array.getElem?_eq_none (Nat.not_lt.1 h)]
theorem clsAt_in {s : ByteArray} {i : Nat} (h : i < s.size) : clsAt s.data.toList i = Lx.cls (s[i]'h) := by unfold clsAt; rw [get_in h]
theorem clsAt_out {s : ByteArray} {i : Nat} (h : ¬ i < s.size) : clsAt s.data.toList i = 0 := by unfold clsAt; rw [get_out h]
theorem isAt_in {s : ByteArray} {i : Nat} (h : i < s.size) (b : UInt8) : Lx.isAt s.data.toList i b = decide ((s[i]'h) = b) := by
 unfold Lx.isAt; rw [get_in h, Bool.eq_iff_iff]; simp
theorem isAt_out {s : ByteArray} {i : Nat} (h : ¬ i < s.size) (b : UInt8) : Lx.isAt s.data.toList i b = false := by
 unfold Lx.isAt; rw [get_out h]; rfl
theorem u8_eq_int (x b : UInt8) : ((x.toNat : Int) == (b.toNat : Int)) = decide (x = b) := by
 rw [Bool.eq_iff_iff]; simp [← UInt8.toNat_inj]; omega
set_option maxRecDepth 20000 in
theorem lclass_any (g : Nat) (s : ByteArray) (j : Int) (i : Nat) (w : World) (h : Lxr w g s) (hj : j = i) :
  Calls Tryz.prog 89 #[.pointer (some ⟨g, 0, none⟩), .int .i64 j] w fun e w' => e = .returned (.int .i64 (clsAt s.data.toList i)) ∧ Below w.heap.size w w' ∧ w'.cell? ⟨g, 0, none⟩ = some (.string s) := by
 subst hj
 have h0 := h
 have H := Hd h0
 obtain ⟨hc, hg⟩ := h
 clear h0
 by_cases hlt : i < s.size
 ·have HE := Hd (clsAt_in hlt)
  go_enter Tryz.func89, Tryz.ntmps89
  go_wp2_with (go_at_call 131; refine (class_any _ _).mono ?_; rintro e w' ⟨rfl, hb⟩)
  go_ret
  exact ⟨ret_int (by rw [HE.out]), hb, (H.out.below hb).1⟩
 ·have HE := Hd (clsAt_out hlt)
  go_enter Tryz.func89, Tryz.ntmps89
  go_wp2_with (go_at_call 131; refine (class_any _ _).mono ?_; rintro e w' ⟨rfl, hb⟩)
  go_ret
  exact ⟨ret_int (by rw [HE.out]; rfl), Below.refl _ _, hc⟩
set_option maxRecDepth 20000 in
theorem lis_any (g : Nat) (s : ByteArray) (j : Int) (i : Nat) (b : UInt8) (c : Int) (w : World) (h : Lxr w g s) (hj : j = i) (hb : c = b.toNat) :
  Calls Tryz.prog 91 #[.pointer (some ⟨g, 0, none⟩), .int .i64 j, .int .u8 c] w fun e w' => e = .returned (.bool (Lx.isAt s.data.toList i b)) ∧ w = w' := by
 subst hj hb
 obtain ⟨hc, hg⟩ := h
 by_cases hlt : i < s.size
 ·have HE := Hd (isAt_in hlt b)
  have d := Hd (u8_eq_int (s[i]'hlt) b)
  go_enter Tryz.func91, Tryz.ntmps91
  go_wp2
  go_ret
  exact ⟨ret_bool (by rw [HE.out]; exact d.out), rfl⟩
 ·have HE := Hd (isAt_out hlt b)
  go_enter Tryz.func91, Tryz.ntmps91
  go_wp2
  go_ret
  exact ⟨ret_bool (by rw [HE.out]), rfl⟩
theorem binGo_out {s : ByteArray} {i : Nat} (h : ¬ i < s.size) : Lx.binGo s.data.toList i = false := by unfold Lx.binGo; rw [get_out h]
theorem binGo_in {s : ByteArray} {i : Nat} (h : i < s.size) : Lx.binGo s.data.toList i = (Lx.cls (s[i]'h) == 4 && !(s[i]'h == 45 && clsAt s.data.toList (i + 1) == 3)) := by
 unfold Lx.binGo clsAt
 rw [get_in h]
 cases hq : s.data.toList[i + 1]? with
 | none => simp [Lx.binB]
 | some y => simp [Lx.binB, Lx.digB]
set_option maxRecDepth 20000 in
theorem lbinary_any (g : Nat) (s : ByteArray) (j : Int) (i : Nat) (w : World) (h : Lxr w g s) (hs : s.size ≤ 65536) (hj : j = i) (hi : i < s.size) :
  Calls Tryz.prog 94 #[.pointer (some ⟨g, 0, none⟩), .int .i64 j] w fun e w' => e = .returned (.int .i64 (Lx.binF s.data.toList (i + 1))) ∧ Below w.heap.size w w' := by
 subst hj
 have H := Hd h
 clear h
 go_enter Tryz.func94, Tryz.ntmps94
 go_wp2
 go_loopw [5] (fun e wr => ∃ k : Nat, k ≤ s.size ∧ e = .int .i64 k ∧ Lx.binF s.data.toList k = Lx.binF s.data.toList (i + 1) ∧ Below w.heap.size w wr) (fun e _ => s.size - (intOf e).toNat)
 case atStart => exact ⟨i + 1, hi, by go_num, rfl, Below.refl _ _⟩
 case round =>
  obtain ⟨k, hk, rfl, hf, hb⟩ := hrel
  have HF := Hd hf
  have HB := Hd hb
  have HL := Hd (H.out.below hb)
  clear hf hb
  have HSTEP := Hd fun (h1 : Lx.binGo s.data.toList k = true) => (Lx.binF_step h1).trans HF.out
  have HSTOP := Hd fun (h1 : Lx.binGo s.data.toList k = false) => (Lx.binF_stop h1).symm.trans HF.out
  by_cases hlt : k < s.size
  ·have HG := Hd (binGo_in hlt)
   have HC := Hd (clsAt_in hlt)
   by_cases h4 : Lx.cls (s[k]'hlt) = 4
   ·have d4 : ((clsAt s.data.toList k : Int) == 4) = true := by rw [HC.out, h4]; rfl
    have H4 := Hd h4
    clear h4
    by_cases h45 : s[k]'hlt = 45
    ·have d45 : (((s[k]'hlt).toNat : Int) == 45) = true := by rw [h45]; rfl
     have H45 := Hd h45
     clear h45
     by_cases h3 : clsAt s.data.toList (k + 1) = 3
     ·have d3 : ((clsAt s.data.toList (k + 1) : Int) == 3) = true := by rw [h3]; rfl
      have HZ : Hid (Lx.binGo s.data.toList k = false) := Hd (by rw [HG.out, H4.out, H45.out, h3]; rfl)
      clear h3
      go_wp2_with (go_at_call 89; refine (lclass_any g s _ _ _ (by first | exact HL.out | exact HL.out.below (by assumption)) (by first | rfl | exact (Int.natCast_succ _).symm)).mono ?_; rintro e w' ⟨rfl, hb, hc⟩)
      go_ret
      exact ⟨ret_int (by rw [← HSTOP.out HZ.out]), bnext (bnext HB.out (by assumption)) hb⟩
     ·have d3 : ((clsAt s.data.toList (k + 1) : Int) == 3) = false := by rw [beq_eq_false_iff_ne]; omega
      have HZ : Hid (Lx.binGo s.data.toList k = true) := Hd (by rw [HG.out, H4.out, H45.out]; simp [h3])
      clear h3
      go_wp2_with (go_at_call 89; refine (lclass_any g s _ _ _ (by first | exact HL.out | exact HL.out.below (by assumption)) (by first | rfl | exact (Int.natCast_succ _).symm)).mono ?_; rintro e w' ⟨rfl, hb, hc⟩)
      go_roundw
      case rel => exact ⟨k + 1, by omega, by go_num, HSTEP.out HZ.out, bnext (bnext HB.out (by assumption)) hb⟩
      case measure => simp [intOf]; omega
    ·have d45 : (((s[k]'hlt).toNat : Int) == 45) = false := by rw [← show ((45 : UInt8).toNat : Int) = 45 from rfl, u8_eq_int]; simpa using h45
     have HZ : Hid (Lx.binGo s.data.toList k = true) := Hd (by rw [HG.out, H4.out]; simp [h45])
     clear h45
     go_wp2_with (go_at_call 89; refine (lclass_any g s _ _ _ (by first | exact HL.out | exact HL.out.below (by assumption)) (by first | rfl | exact (Int.natCast_succ _).symm)).mono ?_; rintro e w' ⟨rfl, hb, hc⟩)
     go_roundw
     case rel => exact ⟨k + 1, by omega, by go_num, HSTEP.out HZ.out, bnext HB.out hb⟩
     case measure => simp [intOf]; omega
   ·have d4 : ((clsAt s.data.toList k : Int) == 4) = false := by rw [beq_eq_false_iff_ne, HC.out]; omega
    have HZ : Hid (Lx.binGo s.data.toList k = false) := Hd (by rw [HG.out]; simp [h4])
    clear h4
    go_wp2_with (go_at_call 89; refine (lclass_any g s _ _ _ (by first | exact HL.out | exact HL.out.below (by assumption)) (by first | rfl | exact (Int.natCast_succ _).symm)).mono ?_; rintro e w' ⟨rfl, hb, hc⟩)
    go_ret
    exact ⟨ret_int (by rw [← HSTOP.out HZ.out]), bnext HB.out hb⟩
  ·have d4 : ((clsAt s.data.toList k : Int) == 4) = false := by rw [clsAt_out hlt]; rfl
   have HZ : Hid (Lx.binGo s.data.toList k = false) := Hd (binGo_out hlt)
   go_wp2_with (go_at_call 89; refine (lclass_any g s _ _ _ (by first | exact HL.out | exact HL.out.below (by assumption)) (by first | rfl | exact (Int.natCast_succ _).symm)).mono ?_; rintro e w' ⟨rfl, hb, hc⟩)
   go_ret
   exact ⟨ret_int (by rw [← HSTOP.out HZ.out]), bnext HB.out hb⟩
def IdxP (cs : List Nat) (v : Nat) (w : World) (e : Ending) (w' : World) : Prop := ∃ r : Int, e = .returned (.int .i64 r) ∧ (0 ≤ r ↔ v ∈ cs) ∧ w = w'
theorem IdxP.yes {cs : List Nat} {v k : Nat} {w : World} (h : cs[k]? = some v) : IdxP cs v w (.returned (.int .i64 (k : Int))) w := ⟨k, rfl, ⟨fun _ => List.mem_of_getElem? h, fun _ => by omega⟩, rfl⟩
theorem IdxP.no {cs : List Nat} {v : Nat} {w : World} (h : ∀ j, j < cs.length → cs[j]? ≠ some v) : IdxP cs v w (.returned (.int .i64 (-1))) w :=
 ⟨-1, rfl, ⟨fun h => absurd h (by omega), fun hm => by
  obtain ⟨j, hj, e⟩ := List.getElem_of_mem hm
  exact absurd (by rw [List.getElem?_eq_getElem hj, e]) (h j hj)⟩, rfl⟩
set_option maxRecDepth 20000 in
theorem lidx_any (h c : Nat) (cs : List Nat) (v : Nat) (w : World) (hn : cs.length ≤ 1000) (hcell : ∀ (j x : Nat), cs[j]? = some x → w.cell? ⟨h, j, none⟩ = some (.int .i64 (x : Int))) :
  Calls Tryz.prog 167 #[.slice (some ⟨h, 0, none⟩) cs.length c, .int .i64 (v : Int)] w (IdxP cs v w) := by
 have H := Hd hcell
 clear hcell
 go_enter Tryz.func167, Tryz.ntmps167
 go_wp2
 go_loopw [8] (fun i wr => ∃ k : Nat, k ≤ cs.length ∧ i = .int .i64 k ∧ (∀ j, j < k → cs[j]? ≠ some v) ∧ w = wr) (fun i _ => cs.length - (intOf i).toNat)
 case atStart => exact ⟨0, Nat.zero_le _, rfl, (fun j hj => absurd hj (by omega)), rfl⟩
 case round =>
  obtain ⟨k, hk, rfl, hno, rfl⟩ := hrel
  have HNO := Hd hno
  clear hno
  by_cases hlt : k < cs.length
  ·have hx : cs[k]? = some cs[k] := List.getElem?_eq_getElem hlt
   have hc := H.out k _ hx
   by_cases he : cs[k] = v
   ·have d : ((v : Int) == ((cs[k] : Nat) : Int)) = true := by rw [he]; simp
    have HE := Hd (IdxP.yes (w := w) (show cs[k]? = some v by rw [hx, he]))
    clear hx he
    go_wp2
    go_ret
    exact HE.out
   ·have d : ((v : Int) == ((cs[k] : Nat) : Int)) = false := by rw [beq_eq_false_iff_ne]; omega
    have HX := Hd hx
    clear hx
    go_wp2
    go_roundw
    case rel => exact ⟨k + 1, by omega, by go_num, (fun j hj => by
     by_cases e : j = k
     ·subst e; rw [HX.out]; exact fun h => he (Option.some.inj h)
     ·exact HNO.out j (by omega)), by first | rfl | trivial⟩
    case measure => simp [intOf]; omega
  ·obtain rfl : k = cs.length := by omega
   have HE := Hd (IdxP.no (w := w) (fun j hj => HNO.out j hj))
   go_wp2
   go_ret
   exact HE.out
set_option maxRecDepth 20000 in
theorem lhas_any (h c : Nat) (cs : List Nat) (v : Nat) (w : World) (hn : cs.length ≤ 1000) (hcell : ∀ (j x : Nat), cs[j]? = some x → w.cell? ⟨h, j, none⟩ = some (.int .i64 (x : Int))) :
  Calls Tryz.prog 132 #[.slice (some ⟨h, 0, none⟩) cs.length c, .int .i64 (v : Int)] w fun e w' => e = .returned (.bool (cs.contains v)) ∧ w = w' := by
 have H := Hd hcell
 clear hcell
 go_enter Tryz.func132, Tryz.ntmps132
 go_wp2_with fail
 refine (lidx_any h c cs v w hn H.out).mono ?_
 rintro e w' ⟨r, rfl, hr, rfl⟩
 have HR := Hd hr
 clear hr
 go_wp2
 go_ret
 exact ⟨ret_bool (by rw [Bool.eq_iff_iff]; simpa using HR.out), rfl⟩
set_option maxRecDepth 20000 in
theorem lrun_any (g : Nat) (s : ByteArray) (h c : Nat) (cs : List Nat) (p : UInt8 → Bool) (j : Int) (i : Nat) (w : World) (hL : Lxr w g s) (hs : s.size ≤ 65536) (hj : j = i) (hi : i ≤ s.size) (hh : h < w.heap.size)
  (hn : cs.length ≤ 1000) (hp : ∀ x, cs.contains (Lx.cls x) = p x) (hcell : ∀ (j x : Nat), cs[j]? = some x → w.cell? ⟨h, j, none⟩ = some (.int .i64 (x : Int))) :
  Calls Tryz.prog 90 #[.pointer (some ⟨g, 0, none⟩), .int .i64 j, .slice (some ⟨h, 0, none⟩) cs.length c] w fun e w' => e = .returned (.int .i64 (Lx.runF p s.data.toList i)) ∧ Below w.heap.size w w' := by
 subst hj
 have H := Hd hL
 have HC := Hd hcell
 have HP := Hd hp
 clear hL hcell hp
 go_enter Tryz.func90, Tryz.ntmps90
 go_wp2
 go_loopw [1] (fun e wr => ∃ k : Nat, k ≤ s.size ∧ e = .int .i64 k ∧ Lx.runF p s.data.toList k = Lx.runF p s.data.toList i ∧ Below w.heap.size w wr) (fun e _ => s.size - (intOf e).toNat)
 case atStart => exact ⟨i, hi, rfl, rfl, Below.refl _ _⟩
 case round =>
  obtain ⟨k, hk, rfl, hf, hb⟩ := hrel
  have HF := Hd hf
  have HB := Hd hb
  have HL := Hd (H.out.below hb)
  clear hf hb
  have HCELL : Hid (∀ w' : World, Below wr.heap.size wr w' → ∀ (j x : Nat), cs[j]? = some x → w'.cell? ⟨h, j, none⟩ = some (.int .i64 (x : Int))) :=
   Hd fun w' hb j x hx => by rw [(bnext HB.out hb).cell (p := ⟨h, j, none⟩) hh]; exact HC.out j x hx
  by_cases hlt : k < s.size
  ·have HT := Hd (get_in hlt)
   have HA := Hd (clsAt_in hlt)
   by_cases hq : p (s[k]'hlt) = true
   ·have d : cs.contains (clsAt s.data.toList k) = true := by rw [HA.out, HP.out]; exact hq
    have HS := Hd ((Lx.runF_step HT.out hq).trans HF.out)
    clear hq
    go_wp2_with (first
     | (go_at_call 89; refine (lclass_any g s _ _ _ HL.out rfl).mono ?_; rintro e w' ⟨rfl, hb, hc⟩)
     | (go_at_call 132; refine (lhas_any h c cs _ _ hn (HCELL.out _ (by assumption))).mono ?_; rintro e w'' ⟨rfl, rfl⟩; rw [d]))
    go_roundw
    case rel => exact ⟨k + 1, by omega, by go_num, HS.out, bnext HB.out (by assumption)⟩
    case measure => simp [intOf]; omega
   ·have hq' : p (s[k]'hlt) = false := by simpa using hq
    have d : cs.contains (clsAt s.data.toList k) = false := by rw [HA.out, HP.out]; exact hq'
    have HS := Hd ((Lx.runF_stop HT.out hq').symm.trans HF.out)
    clear hq hq'
    go_wp2_with (first
     | (go_at_call 89; refine (lclass_any g s _ _ _ HL.out rfl).mono ?_; rintro e w' ⟨rfl, hb, hc⟩)
     | (go_at_call 132; refine (lhas_any h c cs _ _ hn (HCELL.out _ (by assumption))).mono ?_; rintro e w'' ⟨rfl, rfl⟩; rw [d]))
    go_ret
    exact ⟨ret_int (by rw [HS.out]), bnext HB.out (by assumption)⟩
  ·obtain rfl : k = s.size := by omega
   have HS := Hd ((Lx.runF_end (p := p) (l := s.data.toList) (i := s.size) (by simp)).symm.trans HF.out)
   by_cases hd : cs.contains (clsAt s.data.toList s.size) = true
   ·go_wp2_with (first
     | (go_at_call 89; refine (lclass_any g s _ _ _ HL.out rfl).mono ?_; rintro e w' ⟨rfl, hb, hc⟩)
     | (go_at_call 132; refine (lhas_any h c cs _ _ hn (HCELL.out _ (by assumption))).mono ?_; rintro e w'' ⟨rfl, rfl⟩; rw [hd]))
    go_ret
    exact ⟨ret_int (by rw [← HS.out]), bnext HB.out (by assumption)⟩
   ·have hd' : cs.contains (clsAt s.data.toList s.size) = false := by simpa using hd
    clear hd
    go_wp2_with (first
     | (go_at_call 89; refine (lclass_any g s _ _ _ HL.out rfl).mono ?_; rintro e w' ⟨rfl, hb, hc⟩)
     | (go_at_call 132; refine (lhas_any h c cs _ _ hn (HCELL.out _ (by assumption))).mono ?_; rintro e w'' ⟨rfl, rfl⟩; rw [hd']))
    go_ret
    exact ⟨ret_int (by rw [← HS.out]), bnext HB.out (by assumption)⟩
theorem info5' : (Tryz.prog.info? 5).map (fun i => (i.zero, i.size, i.bytes)) = some (some (.int .u8 0), 1, 1) := by kernel_rfl
def quoV (r : Option (List UInt8 × Nat)) : Value := match r with
 | none => .tuple #[.string ⟨#[]⟩, .int .i64 0, .bool false]
 | some (t, n) => .tuple #[.string ⟨t.toArray⟩, .int .i64 (n : Int), .bool true]
theorem eq39 (x : UInt8) (h : x = 39) : ((x.toNat : Int) == 39) = true := by rw [h]; rfl
theorem ne39 (x : UInt8) (h : ¬ x = 39) : ((x.toNat : Int) == 39) = false := by rw [← show ((39 : UInt8).toNat : Int) = 39 from rfl, u8_eq_int]; simpa using h
theorem read_one8 (w : World) (x : UInt8) : RdB (w.alloc (.cells #[.int .u8 (x.toNat : Int)] 5)) (w.heap.size + 1) (some ⟨w.heap.size, 0, none⟩) 1 [x] := Reads.built w 5 [bv x]
set_option maxRecDepth 20000 in
theorem lquoted_any (g : Nat) (s : ByteArray) (j : Int) (i : Nat) (w : World) (h : Lxr w g s) (hs : s.size ≤ 65536) (hj : j = i) (hi : i < s.size) :
  Calls Tryz.prog 95 #[.pointer (some ⟨g, 0, none⟩), .int .i64 j] w fun e w' => e = .returned (quoV (Lx.qF s.data.toList i)) ∧ Below w.heap.size w w' := by
 subst hj
 have H := Hd h
 clear h
 go_enter Tryz.func95, Tryz.ntmps95
 go_wp2
 go_loopw [7, 8] (fun v e wr => ∃ (k : Nat) (acc : List UInt8), k ≤ s.size + 1 ∧ acc.length ≤ k ∧ e = .int .i64 k ∧ OwnB 5 wr w.heap.size v acc ∧ Lx.qOn acc k (Lx.qt (s.data.toList.drop k)) = Lx.qF s.data.toList i ∧ Below w.heap.size w wr) (fun _ e _ => s.size + 1 - (intOf e).toNat)
 case atStart => exact ⟨i + 1, [], by omega, by simp, by go_num, OwnB.nil 5 _ _, rfl, Below.refl _ _⟩
 case round =>
  obtain ⟨k, acc, hk, hacc, rfl, hown, hf, hb⟩ := hrel
  have HF := Hd hf
  have HB := Hd hb
  have HO := Hd hown
  obtain ⟨hc, hg⟩ := H.out.below hb
  have HL : Hid (Lxr wr g s) := Hd ⟨hc, hg⟩
  obtain ⟨A, cp, rfl, _, _⟩ := OwnB.form hown
  clear hf hb hown
  have hsz := HB.out.size
  by_cases hlt : k < s.size
  ·have hx := get_in hlt
   by_cases h39 : s[k]'hlt = 39
   ·have d := eq39 _ h39
    have HX : Hid (s.data.toList[k]? = some 39) := Hd (by rw [hx, h39])
    have H39 := Hd h39
    clear hx h39
    by_cases h2 : s.data.toList[k + 1]? = some 39
    ·have d2 : Lx.isAt s.data.toList (k + 1) 39 = true := by unfold Lx.isAt; rw [h2]; rfl
     have HQ := Hd ((Lx.qOn_twice acc HX.out h2).symm.trans HF.out)
     have hk1 : k + 1 < s.size := by
      rcases Nat.lt_or_ge (k + 1) s.size with h | h
      ·exact h
      ·rw [get_out (by omega)] at h2; cases h2
     have H2 := Hd h2
     have H1 : Hid (s[k + 1]'hk1 = 39) := Hd (by have := get_in hk1; rw [h2] at this; exact (Option.some.inj this).symm)
     clear h2
     go_wp2_with (first
      | (go_at_call 91; refine (lis_any g s _ (k + 1) 39 _ _ HL.out (by go_num) rfl).mono ?_; rintro e w' ⟨rfl, rfl⟩; rw [d2])
      | (at_builtin; refine wpList_app rfl (.tmp 38) (.tmp 45) 47 rfl w.heap.size 5 info5' Tryz.underlying47 _ acc rfl (HO.out.alloc _) _ _ _ _ [s[k + 1]'hk1] rfl (read_one8 _ _) (by simp; omega) (by simp; omega) ?_; intro v1 w1 hown1 happ1; have HO1 := Hd hown1; have HA1 := Hd happ1; clear hown1 happ1))
     go_roundw
     case rel => exact ⟨k + 2, acc ++ [39], by omega, by simp; omega, by go_num, by rw [← H1.out]; exact HO1.out, HQ.out, bapp HB.out HO.out HA1.out⟩
     case measure => simp [intOf]; omega
    ·have d2 : Lx.isAt s.data.toList (k + 1) 39 = false := by unfold Lx.isAt; simpa using h2
     have HQ := Hd ((Lx.qOn_end acc HX.out h2).symm.trans HF.out)
     clear h2
     have hstr : (convert 47 9 (.slice A acc.length cp)).run Tryz.prog wr = .ok (.string ⟨acc.toArray⟩) wr := run_string_of wr 47 9 5 (OwnB.reads HO.out rfl) Tryz.underlying47 Tryz.underlying5 Tryz.underlying9
     go_wp2_with (first
      | (go_at_call 91; refine (lis_any g s _ (k + 1) 39 _ _ HL.out (by go_num) rfl).mono ?_; rintro e w' ⟨rfl, rfl⟩; rw [d2]))
     go_ret3
     exact ⟨by rw [← HQ.out]; rfl, HB.out⟩
   ·have d := ne39 _ h39
    have HQ := Hd ((Lx.qOn_plain acc hx h39).symm.trans HF.out)
    clear hx h39
    go_wp2_with (first
     | (at_builtin; refine wpList_app rfl (.tmp 38) (.tmp 45) 47 rfl w.heap.size 5 info5' Tryz.underlying47 _ acc rfl (HO.out.alloc _) _ _ _ _ [s[k]'hlt] rfl (read_one8 _ _) (by simp; omega) (by simp; omega) ?_; intro v1 w1 hown1 happ1; have HO1 := Hd hown1; have HA1 := Hd happ1; clear hown1 happ1))
    go_roundw
    case rel => exact ⟨k + 1, acc ++ [s[k]'hlt], by omega, by simp; omega, by go_num, HO1.out, HQ.out, bapp HB.out HO.out HA1.out⟩
    case measure => simp [intOf]; omega
  ·have HQ := Hd ((Lx.qOn_none acc (l := s.data.toList) (i := k) (by simp; omega)).symm.trans HF.out)
   go_wp2
   go_ret3
   exact ⟨by rw [← HQ.out]; rfl, HB.out⟩
def tkC (t : Lx.Tk) : List Value := [.int .i64 (t.1 : Int), .string ⟨t.2.1.toArray⟩, .int .i64 (t.2.2 : Int)]
def tksC (l : List Lx.Tk) : List Value := l.flatMap tkC
theorem tksC_len (l : List Lx.Tk) : (tksC l).length = l.length * 3 := by
 induction l with
 | nil => rfl
 | cons a l ih => simp only [tksC, List.flatMap_cons, List.length_append, List.length_cons] at ih ⊢; rw [ih]; simp [tkC]; omega
theorem tkC_one (t : Lx.Tk) : ∀ u ∈ tkC t, u.oneCell' = true := by
 intro u hu
 simp only [tkC, List.mem_cons, List.not_mem_nil, or_false] at hu
 rcases hu with rfl | rfl | rfl <;> rfl
abbrev OwnT (w : World) (base : Nat) (v : Value) (l : List Lx.Tk) : Prop := w.ownsRow base 37 3 v l.length (tksC l)
theorem info40 : (Tryz.prog.info? 37).map (fun i => (i.zero, i.size, i.bytes)) = some (some (.agg #[.int .i64 0, .string ⟨#[]⟩, .int .i64 0]), 3, 32) := by kernel_rfl
def LxS (w : World) (base g : Nat) (s : ByteArray) (at_ : Int) (v : Value) (l : List Lx.Tk) : Prop :=
 Blk w g 99 #[.string s, .int .i64 at_, v] ∧ OwnT w base v l ∧ base ≤ g
theorem OwnT.form {w : World} {base : Nat} {v : Value} {l : List Lx.Tk} (h : OwnT w base v l) : ∃ A c, v = .slice A l.length c ∧ l.length ≤ c ∧ c ≤ maxLen := by
 rcases h.2 with ⟨rfl, h0⟩ | ⟨g, cap, cur, rfl, _, _, hn, hm, _⟩
 ·have := tksC_len l
  rw [h0] at this
  have h1 : l.length = 0 := by simp at this; omega
  exact ⟨none, 0, by rw [h1], by omega, by simp⟩
 ·exact ⟨_, cap, rfl, hn, hm⟩
theorem LxS.lxr {w : World} {base g : Nat} {s : ByteArray} {at_ : Int} {v : Value} {l : List Lx.Tk} (h : LxS w base g s at_ v l) : Lxr w g s := ⟨h.1.cell 0, h.1.lt⟩
theorem LxS.below {w w' : World} {base g : Nat} {s : ByteArray} {at_ : Int} {v : Value} {l : List Lx.Tk} (h : LxS w base g s at_ v l) (hb : Below w.heap.size w w') : LxS w' base g s at_ v l :=
 ⟨h.1.below hb h.1.lt, World.ownsRow.kept h.2.1 (only_of_below hb none) (by cases v.ownBlock <;> simp), h.2.2⟩
theorem Reads.builtN (w : World) (t : TypeId) (cs : List Value) (n size : Nat) (h : cs.length = n * size) : Reads (w.alloc (.cells cs.toArray t)) (w.heap.size + 1) size (some ⟨w.heap.size, 0, none⟩) n cs :=
 ⟨h, fun hn => by
  rcases Nat.eq_zero_or_pos cs.length with h0 | h0
  ·obtain rfl : cs = [] := List.eq_nil_of_length_eq_zero h0
   exact ⟨_, rfl, by simp, fun j u hu => by simp at hu⟩
  ·obtain ⟨ad, e, hb, hc⟩ := (Reads.built w t cs).2 h0
   exact ⟨ad, e, hb, hc⟩⟩
theorem OwnT.snoc {w : World} {base : Nat} {v : Value} {l : List Lx.Tk} {t : Lx.Tk} (h : w.ownsRow base 37 3 v (l.length + 1) (tksC l ++ tkC t)) : OwnT w base v (l ++ [t]) := by
 show w.ownsRow base 37 3 v (l ++ [t]).length (tksC (l ++ [t]))
 rw [List.length_append]
 have e : tksC (l ++ [t]) = tksC l ++ tkC t := by simp [tksC]
 rw [e]
 exact h
theorem own_baseT {w : World} {base k n size : Nat} {e : TypeId} {v : Value} {xs : List Value} (h : w.ownsRow base e size v n xs) (hk : v.ownBlock = some k) : base ≤ k := by
 rcases h.2 with ⟨rfl, _⟩ | ⟨g', cap, cur, rfl, hb, _⟩
 ·cases hk
 ·have : g' = k := by simpa [Value.ownBlock] using hk
  omega
theorem LxS.put {w w1 : World} {base g : Nat} {s : ByteArray} {at_ : Int} {v : Value} {l : List Lx.Tk} {o : Obj} (h : LxS w base g s at_ v l) (hb : base ≤ w.heap.size) (hg : (w.alloc o).drew.grownBy w1 v.ownBlock) :
  Blk w1 g 99 #[.string s, .int .i64 at_, v] ∧ Below base w w1 := by
 have hne : some g ≠ v.ownBlock := fun e => own_blk_ne h.2.1 h.1 (by decide) e.symm
 refine ⟨((h.1.alloc o).drew).grown hg hne, ?_⟩
 exact (((Below.refl base w).alloc hb o).drew).grown hg (by simp; omega) fun k hk => own_baseT h.2.1 hk
theorem LxS.done {w w1 : World} {base g : Nat} {s : ByteArray} {at_ en : Int} {v v1 : Value} {l : List Lx.Tk} {t : Lx.Tk} (h : Blk w1 g 99 #[.string s, .int .i64 at_, v] ∧ Below base w w1) (hbg : base ≤ g)
  (ho : w1.ownsRow base 37 3 v1 (l.length + 1) (tksC l ++ tkC t)) : Below base w ((w1.setCell ⟨g, 2, none⟩ v1).setCell ⟨g, 1, none⟩ (.int .i64 en)) ∧ ∃ v', LxS ((w1.setCell ⟨g, 2, none⟩ v1).setCell ⟨g, 1, none⟩ (.int .i64 en)) base g s en v' (l ++ [t]) := by
 have h2 : Blk ((w1.setCell ⟨g, 2, none⟩ v1).setCell ⟨g, 1, none⟩ (.int .i64 en)) g 99 #[.string s, .int .i64 en, v1] := (h.1.set_ 2 v1).set_ 1 (.int .i64 en)
 have ho2 : ((w1.setCell ⟨g, 2, none⟩ v1).setCell ⟨g, 1, none⟩ (.int .i64 en)).ownsRow base 37 3 v1 (l.length + 1) (tksC l ++ tkC t) := by
  have e1 := World.ownsRow.kept ho (only_setCell (p := ⟨g, 2, none⟩) (World.grownBy.refl w1 (some g)) (.inl rfl) v1) (.inr (own_blk_ne ho h.1 (by decide)))
  exact World.ownsRow.kept e1 (only_setCell (p := ⟨g, 1, none⟩) (World.grownBy.refl _ (some g)) (.inl rfl) _) (.inr (own_blk_ne e1 (h.1.set_ 2 v1) (by decide)))
 exact ⟨(h.2.setCell hbg _).setCell hbg _, v1, h2, OwnT.snoc ho2, hbg⟩
set_option maxRecDepth 20000 in
theorem lput_any (base g : Nat) (s : ByteArray) (at_ : Nat) (v : Value) (l : List Lx.Tk) (kd : Nat) (t : List UInt8) (en : Int) (w : World) (h : LxS w base g s at_ v l) (hb0 : base ≤ w.heap.size) (hl : l.length ≤ 65536) :
  Calls Tryz.prog 92 #[.pointer (some ⟨g, 0, none⟩), .int .i64 (kd : Int), .string ⟨t.toArray⟩, .int .i64 en] w fun e w' => e = .returned (.tuple #[]) ∧ Below base w w' ∧ ∃ v', LxS w' base g s en v' (l ++ [(kd, t, at_)]) := by
 obtain ⟨hB, hO, hbg⟩ := h
 obtain ⟨i0, hi, hz0, hz1, hz2⟩ := info_parts info40
 have hc1 : w.cell? ⟨g, 1, none⟩ = some (.int .i64 (at_ : Int)) := hB.cell 1
 have hc2 : w.cell? ⟨g, 2, none⟩ = some v := hB.cell 2
 have hg : g < w.heap.size := hB.lt
 have hcA : ∀ o, (w.alloc o).cell? ⟨g, 2, none⟩ = some v := fun o => (hB.alloc o).cell 2
 obtain ⟨A, c, rfl, _, _⟩ := OwnT.form hO
 go_enter Tryz.func92, Tryz.ntmps92
 go_wp2
 go_region_law (first | (refine step_append_any _ rfl (.tmp 12) (.tmp 20) 31 rfl base 37 i0 _ 3 32 Tryz.underlying31 hi hz0 hz1 hz2 rfl (by decide) (.slice A l.length c) l.length (tksC l) (by simp [Act.eval]) ((hO.alloc _).drew) (w.heap.size + 1) (some ⟨w.heap.size, 0, none⟩) 1 1 (tkC (kd, t, at_)) (by simp [Act.eval]) (Reads.drew (Reads.builtN w 37 (tkC (kd, t, at_)) 1 3 rfl)) (tkC_one _) (by simp only [maxLen]; omega) (by omega) (by simp; omega) ?_; intro v1 w1 hown1 hgrow1 hv1; have HP := Hd (LxS.put (s := s) (at_ := (at_ : Int)) ⟨hB, hO, hbg⟩ hb0 hgrow1); have HO1 := Hd hown1; obtain ⟨A1, c1, rfl, _, _⟩ := OwnT.form (OwnT.snoc hown1); have hcc1 := HP.out.1.cell 2; have hff1 := HP.out.1.frozen 2; have hcc0 := HP.out.1.cell 1; have hff0 := HP.out.1.frozen 1; clear hown1 hgrow1 hv1))
 all_goals
  have HD := Hd (LxS.done (en := en) (t := (kd, t, at_)) HP.out hbg HO1.out)
  clear hcc1 hcc0
  have hcc3 : (w1.setCell ⟨g, 2, none⟩ (.slice A1 (l.length + 1) c1)).cell? ⟨g, 1, none⟩ = some (.int .i64 (at_ : Int)) := (HP.out.1.set_ 2 _).cell 1
  have hff3 : (w1.setCell ⟨g, 2, none⟩ (.slice A1 (l.length + 1) c1)).frozen? ⟨g, 1, none⟩ = false := (HP.out.1.set_ 2 _).frozen 1
  go_wp2
  go_end0
  exact ⟨rfl, by have h := HD.out; rw [List.length_append] at h; exact h⟩
end Go.Proofs.YtjhonaglmgmpiaaGreatDoor
namespace Go.Proofs.YtjhonaglmgmpiaaGreatDoor
namespace Ps
open Lx
inductive Tr where
 | mk (kind : Nat) (name : Txt) (names temps : List Txt) (nodes : List Tr) (prim place : Nat)
def Tr.zero : Tr := .mk 0 [] [] [] [] 0 0
def Tr.kind : Tr → Nat | .mk k _ _ _ _ _ _ => k
def Tr.name : Tr → Txt | .mk _ n _ _ _ _ _ => n
def Tr.nodes : Tr → List Tr | .mk _ _ _ _ l _ _ => l
def Tr.place : Tr → Nat | .mk _ _ _ _ _ _ p => p
def nd (kind : Nat) (name : Txt) (nodes : List Tr) (place : Nat) : Tr := .mk kind name [] [] nodes 0 place
structure PS where
 at_ : Nat
 deep : Int
 fault : Option (Nat × Nat)
section
variable (T : List Tk) (fin : Nat)
def nx (s : PS) : Tk := T.getD s.at_ (0, [], fin)
def isM (t : Tk) (x : Txt) : Bool := t.1 == 7 && t.2.1 == x
def is_ (s : PS) (x : Txt) : Bool := isM (nx T fin s) x
def adv (s : PS) : PS := { s with at_ := s.at_ + 1 }
def rf (s : PS) (place err : Nat) : PS := { s with fault := match s.fault with | none => some (place, err) | some f => some f }
def ok (s : PS) : Bool := s.fault.isNone
def odd (s : PS) : PS := rf s (nx T fin s).2.2 124
def want (kind : Nat) (text : Txt) (s : PS) : Tk × PS := if (nx T fin s).1 != kind || (!text.isEmpty && (nx T fin s).2.1 != text) then ((0, [], 0), odd T fin s) else (nx T fin s, adv s)
def opn (s : PS) : PS := adv { (if s.deep = 100 then rf s (nx T fin s).2.2 125 else s) with deep := s.deep + 1 }
def cls_ (x : Txt) (s : PS) : PS := (want T fin 7 x { s with deep := s.deep - 1 }).2
def binS (t : Tk) : Bool := t.1 == 3 || isM t [124]
def resv (x : Txt) : Bool := [[115, 101, 108, 102], [115, 117, 112, 101, 114], [110, 105, 108], [116, 114, 117, 101], [102, 97, 108, 115, 101], [116, 104, 105, 115, 67, 111, 110, 116, 101, 120, 116]].contains x
def decl (l : List Txt) (s : PS) : List Txt × PS :=
 let r := want T fin 1 [] s
 (l ++ [r.1.2.1], if ok r.2 && (resv r.1.2.1 || l.contains r.1.2.1) then rf r.2 r.1.2.2 126 else r.2)
def tmpL : Nat → List Txt → PS → List Txt × PS
 | 0, l, s => (l, s)
 | f + 1, l, s => if ok s && !is_ T fin s [124] then tmpL f (decl T fin l s).1 (decl T fin l s).2 else (l, s)
def temps (s : PS) : List Txt × PS := if is_ T fin s [124] then ((tmpL T fin (T.length + 2) [] (adv s)).1, adv (tmpL T fin (T.length + 2) [] (adv s)).2) else ([], s)
def simple (s : PS) : Option Tr × PS :=
 let t := nx T fin s
 if t.1 == 4 then (some (nd 9 t.2.1 [] t.2.2), adv s)
 else if t.1 == 5 then (some (nd 10 t.2.1 [] t.2.2), adv s)
 else if t.1 == 6 then (some (nd 11 t.2.1 [] t.2.2), adv s)
 else if t.1 == 3 && t.2.1 == [45] && decide (s.at_ + 1 < T.length) then
  let n := T.getD (s.at_ + 1) (0, [], fin)
  if n.1 == 4 && n.2.2 == t.2.2 + 1 then (some (nd 9 (if n.2.1 == [48] then [48] else 45 :: n.2.1) [] t.2.2), adv (adv s)) else (none, s)
 else (none, s)
def small (l : Txt) (limit : Nat) : Nat := l.foldl (fun n b => min (10 * n + (b - 48).toNat) (limit + 1)) 0
def smallS (t : Tk) (limit : Nat) (s : PS) : PS := if limit < small t.2.1 limit then rf s t.2.2 123 else s
def bytL : Nat → List Tr → PS → List Tr × PS
 | 0, l, s => (l, s)
 | f + 1, l, s => if ok s && !is_ T fin s [93] then
   let r := want T fin 4 [] s
   bytL f (l ++ [nd 9 r.1.2.1 [] r.1.2.2]) (if ok r.2 then smallS r.1 255 r.2 else r.2)
  else (l, s)
def shut (x : Txt) (s : PS) : PS := if ok s then cls_ T fin x s else s
def bytes (s : PS) : Tr × PS :=
 let r := bytL T fin (T.length + 2) [] (opn T fin s)
 (nd 13 [] r.1 (nx T fin s).2.2, shut T fin [93] r.2)
def unaL : Nat → Tr → PS → Tr × PS
 | 0, n, s => (n, s)
 | f + 1, n, s => if ok s && (nx T fin s).1 == 1 then unaL f (nd 5 (nx T fin s).2.1 [n] (nx T fin s).2.2) (adv s) else (n, s)
def argL : Nat → List Txt → PS → List Txt × PS
 | 0, l, s => (l, s)
 | f + 1, l, s => if ok s && is_ T fin s [58] then argL f (decl T fin l (adv s)).1 (decl T fin l (adv s)).2 else (l, s)
def closed (mark : Txt) (s : PS) : Bool := if mark.isEmpty then decide (T.length ≤ s.at_) else is_ T fin s mark
def sent (a n : Tr) : Bool := n.kind == 5 && !(a.place == n.place && a.kind == n.kind)
mutual
def expr : Nat → PS → Tr × PS
 | 0, s => (Tr.zero, s)
 | f + 1, s =>
  let t := nx T fin s
  if t.1 == 1 && decide (s.at_ + 1 < T.length) && isM (T.getD (s.at_ + 1) (0, [], fin)) [58, 61] then
   if resv t.2.1 then (Tr.zero, rf s t.2.2 126)
   else (nd 4 t.2.1 [(expr f (adv (adv s))).1] t.2.2, (expr f (adv (adv s))).2)
  else
   let a := prim f s
   let u := unaL T fin (T.length + 2) a.1 a.2
   let b := binL_ f u.1 u.2
   let k := keyw f b.1 b.2
   if !ok k.2 || !is_ T fin k.2 [59] then k
   else if !sent a.1 k.1 then (Tr.zero, odd T fin k.2)
   else
    let c := casL f [k.1.nodes.headD Tr.zero, nd 7 k.1.name k.1.nodes.tail k.1.place] k.2
    (nd 6 [] c.1 k.1.place, c.2)
def casL : Nat → List Tr → PS → List Tr × PS
 | 0, l, s => (l, s)
 | f + 1, l, s => if ok s && is_ T fin s [59] then casL f (l ++ [(msg f (adv s)).1]) (msg f (adv s)).2 else (l, s)
def msg : Nat → PS → Tr × PS
 | 0, s => (Tr.zero, s)
 | f + 1, s =>
  let t := nx T fin s
  if t.1 == 1 then (nd 7 t.2.1 [] t.2.2, adv s)
  else if binS t then
   let a := prim f (adv s)
   let u := unaL T fin (T.length + 2) a.1 a.2
   (nd 7 t.2.1 [u.1] t.2.2, u.2)
  else if t.1 == 2 then
   let k := keyL f [] [] s
   (nd 7 k.1 k.2.1 t.2.2, k.2.2)
  else (nd 7 [] [] t.2.2, odd T fin s)
def operand : Nat → PS → Tr × PS
 | 0, s => (Tr.zero, s)
 | f + 1, s =>
  let a := prim f s
  let u := unaL T fin (T.length + 2) a.1 a.2
  binL_ f u.1 u.2
def keyL : Nat → Txt → List Tr → PS → Txt × List Tr × PS
 | 0, n, l, s => (n, l, s)
 | f + 1, n, l, s => if ok s && (nx T fin s).1 == 2 then keyL f (n ++ (nx T fin s).2.1) (l ++ [(operand f (adv s)).1]) (operand f (adv s)).2 else (n, l, s)
def binL_ : Nat → Tr → PS → Tr × PS
 | 0, n, s => (n, s)
 | f + 1, n, s => if ok s && binS (nx T fin s) then
   let a := prim f (adv s)
   let u := unaL T fin (T.length + 2) a.1 a.2
   binL_ f (nd 5 (nx T fin s).2.1 [n, u.1] (nx T fin s).2.2) u.2
  else (n, s)
def keyw : Nat → Tr → PS → Tr × PS
 | 0, n, s => (n, s)
 | f + 1, n, s => if !ok s || (nx T fin s).1 != 2 then (n, s)
  else
   let k := keyL f [] [n] s
   (nd 5 k.1 k.2.1 (nx T fin s).2.2, k.2.2)
def prim : Nat → PS → Tr × PS
 | 0, s => (Tr.zero, s)
 | f + 1, s =>
  let t := nx T fin s
  if !ok s then (Tr.zero, s)
  else match (simple T fin s).1 with
  | some n => (n, (simple T fin s).2)
  | none =>
   if t.1 == 1 then (nd 8 t.2.1 [] t.2.2, adv s)
   else if isM t [35, 40] then arr f s
   else if isM t [35, 91] then bytes T fin s
   else if isM t [40] then
    let e := expr f (opn T fin s)
    (e.1, shut T fin [41] e.2)
   else if isM t [123] then
    let r := braL f [] (opn T fin s)
    (nd 14 [] r.1 t.2.2, shut T fin [125] r.2)
   else if isM t [91] then blk f s
   else (Tr.zero, odd T fin s)
def arr : Nat → PS → Tr × PS
 | 0, s => (Tr.zero, s)
 | f + 1, s =>
  let r := arrL f [] (opn T fin s)
  (nd 12 [] r.1 (nx T fin s).2.2, shut T fin [41] r.2)
def arrL : Nat → List Tr → PS → List Tr × PS
 | 0, l, s => (l, s)
 | f + 1, l, s => if ok s && !is_ T fin s [41] then arrL f (l ++ [(lit f s).1]) (lit f s).2 else (l, s)
def lit : Nat → PS → Tr × PS
 | 0, s => (Tr.zero, s)
 | f + 1, s =>
  let t := nx T fin s
  match (simple T fin s).1 with
  | some n => (n, (simple T fin s).2)
  | none =>
   if t.1 == 1 && (t.2.1 == [116, 114, 117, 101] || t.2.1 == [102, 97, 108, 115, 101] || t.2.1 == [110, 105, 108]) then (nd 8 t.2.1 [] t.2.2, adv s)
   else if t.1 == 1 || t.1 == 2 || binS t then (nd 11 t.2.1 [] t.2.2, adv s)
   else if isM t [35, 40] || isM t [40] then arr f s
   else if isM t [35, 91] then bytes T fin s
   else (Tr.zero, odd T fin s)
def braL : Nat → List Tr → PS → List Tr × PS
 | 0, l, s => (l, s)
 | f + 1, l, s => if ok s && !is_ T fin s [125] then
   let e := expr f s
   if !ok e.2 || !is_ T fin e.2 [46] then (l ++ [e.1], e.2) else braL f (l ++ [e.1]) (adv e.2)
  else (l, s)
def blk : Nat → PS → Tr × PS
 | 0, s => (Tr.zero, s)
 | f + 1, s =>
  let a := argL T fin (T.length + 2) [] (opn T fin s)
  let s1 := if ok a.2 && !a.1.isEmpty then (if is_ T fin a.2 [124] then adv a.2 else if is_ T fin a.2 [93] then a.2 else odd T fin a.2) else a.2
  let v := if ok s1 then temps T fin s1 else ([], s1)
  let r := stL f [93] [] v.2
  (.mk 2 [] a.1 v.1 r.1 0 (nx T fin s).2.2, shut T fin [93] r.2)
def stL : Nat → Txt → List Tr → PS → List Tr × PS
 | 0, _, l, s => (l, s)
 | f + 1, mark, l, s =>
  if !ok s || closed T fin mark s then (l, s)
  else if is_ T fin s [94] then
   let e := expr f (adv s)
   let s2 := if is_ T fin e.2 [46] then adv e.2 else e.2
   (l ++ [nd 3 [] [e.1] (nx T fin s).2.2], if ok s2 && !closed T fin mark s2 then odd T fin s2 else s2)
  else
   let e := expr f s
   if ok e.2 && is_ T fin e.2 [46] then stL f mark (l ++ [e.1]) (adv e.2)
   else (l ++ [e.1], if ok e.2 && !closed T fin mark e.2 then odd T fin e.2 else e.2)
end
def patL : Nat → Txt → List Txt → PS → Txt × List Txt × PS
 | 0, n, l, s => (n, l, s)
 | f + 1, n, l, s => if ok s && (nx T fin s).1 == 2 then patL f (n ++ (nx T fin s).2.1) (decl T fin l (adv s)).1 (decl T fin l (adv s)).2 else (n, l, s)
def pat (s : PS) : Txt × List Txt × PS :=
 let t := nx T fin s
 if t.1 == 1 then (t.2.1, [], adv s)
 else if binS t then (t.2.1, (decl T fin [] (adv s)).1, (decl T fin [] (adv s)).2)
 else if t.1 == 2 then patL T fin (T.length + 2) [] [] s
 else ([], [], odd T fin s)
def primi (s : PS) : Nat × PS :=
 let t := nx T fin s
 if ok s && t.1 == 3 && t.2.1 == [60] then
  let s1 := (want T fin 2 [112, 114, 105, 109, 105, 116, 105, 118, 101, 58] (adv s)).2
  let r := want T fin 4 [] s1
  (small r.1.2.1 255, (want T fin 3 [62] (smallS r.1 255 r.2)).2)
 else (0, s)
def meth (f : Nat) : Tr × PS :=
 let p := pat T fin ⟨0, 0, none⟩
 let q := primi T fin p.2.2
 let v := temps T fin q.2
 let r := stL T fin f [] [] v.2
 (.mk 1 p.1 p.2.1 v.1 r.1 q.1 0, r.2)
def doit (f : Nat) : Tr × PS :=
 let v := temps T fin ⟨0, 0, none⟩
 let r := stL T fin f [] [] v.2
 let l := if r.1.isEmpty then [nd 8 [110, 105, 108] [] fin] else r.1
 let x := l.getLastD Tr.zero
 (.mk 1 [100, 111, 73, 116] [] v.1 (l.dropLast ++ [if x.kind == 3 then x else nd 3 [] [x] x.place]) 0 0, r.2)
end
def finish (r : Tr × PS) : Tr × Nat × Nat := match r.2.fault with
 | some f => (Tr.zero, f.1, f.2)
 | none => (r.1, 0, 0)
def fuel (T : List Tk) : Nat := 10 * T.length + 20
end Ps
namespace Ps
open Lx
structure Le (s s' : PS) : Prop where
 at_ : s.at_ ≤ s'.at_
 fl : ∀ x, s.fault = some x → s'.fault = some x
theorem Le.refl (s : PS) : Le s s := ⟨Nat.le_refl _, fun _ h => h⟩
theorem Le.trans {a b c : PS} (h : Le a b) (k : Le b c) : Le a c := ⟨Nat.le_trans h.at_ k.at_, fun x hx => k.fl x (h.fl x hx)⟩
theorem le_adv (s : PS) : Le s (adv s) := ⟨Nat.le_succ _, fun _ h => h⟩
theorem le_rf (s : PS) (p e : Nat) : Le s (rf s p e) := ⟨Nat.le_refl _, fun x h => by unfold rf; rw [h]⟩
theorem ok_of {s s' : PS} (h : Le s s') (k : ok s' = true) : ok s = true := by
 unfold ok at *
 cases hs : s.fault with
 | none => rfl
 | some x => rw [h.fl x hs] at k; exact k
section
variable (T : List Tk) (fin : Nat)
theorem le_odd (s : PS) : Le s (odd T fin s) := le_rf _ _ _
theorem le_want (k : Nat) (x : Txt) (s : PS) : Le s (want T fin k x s).2 := by
 unfold want
 split
 ·exact le_odd T fin s
 ·exact le_adv s
theorem le_opn (s : PS) : Le s (opn T fin s) := by
 unfold opn
 have h : Le s (if s.deep = 100 then rf s (nx T fin s).2.2 125 else s) := by split; exact le_rf _ _ _; exact Le.refl s
 exact ⟨Nat.le_trans h.at_ (Nat.le_succ _), h.fl⟩
theorem le_cls (x : Txt) (s : PS) : Le s (cls_ T fin x s) := by
 unfold cls_
 have h := le_want T fin 7 x { s with deep := s.deep - 1 }
 exact ⟨h.at_, h.fl⟩
theorem le_shut (x : Txt) (s : PS) : Le s (shut T fin x s) := by
 unfold shut
 split
 ·exact le_cls T fin x s
 ·exact Le.refl s
theorem le_decl (l : List Txt) (s : PS) : Le s (decl T fin l s).2 := by
 unfold decl
 have h := le_want T fin 1 [] s
 dsimp only
 split
 ·exact h.trans (le_rf _ _ _)
 ·exact h
theorem le_tmpL : ∀ (f : Nat) (l : List Txt) (s : PS), Le s (tmpL T fin f l s).2
 | 0, _, s => Le.refl s
 | f + 1, l, s => by
  unfold tmpL
  split
  ·exact (le_decl T fin l s).trans (le_tmpL f _ _)
  ·exact Le.refl s
theorem le_temps (s : PS) : Le s (temps T fin s).2 := by
 unfold temps
 split
 ·exact ((le_adv s).trans (le_tmpL T fin _ [] (adv s))).trans (le_adv _)
 ·exact Le.refl s
theorem le_simple (s : PS) : Le s (simple T fin s).2 := by
 unfold simple
 dsimp only
 repeat' split
 all_goals first | exact Le.refl s | exact le_adv s | exact (le_adv s).trans (le_adv _)
theorem le_smallS (t : Tk) (n : Nat) (s : PS) : Le s (smallS t n s) := by
 unfold smallS
 split
 ·exact le_rf _ _ _
 ·exact Le.refl s
theorem le_bytL : ∀ (f : Nat) (l : List Tr) (s : PS), Le s (bytL T fin f l s).2
 | 0, _, s => Le.refl s
 | f + 1, l, s => by
  unfold bytL
  split
  ·refine Le.trans ?_ (le_bytL f _ _)
   have h := le_want T fin 4 [] s
   split
   ·exact h.trans (le_smallS _ _ _)
   ·exact h
  ·exact Le.refl s
theorem le_bytes (s : PS) : Le s (bytes T fin s).2 := ((le_opn T fin s).trans (le_bytL T fin _ [] _)).trans (le_shut T fin _ _)
theorem le_unaL : ∀ (f : Nat) (n : Tr) (s : PS), Le s (unaL T fin f n s).2
 | 0, _, s => Le.refl s
 | f + 1, n, s => by
  unfold unaL
  split
  ·exact (le_adv s).trans (le_unaL f _ _)
  ·exact Le.refl s
theorem le_argL : ∀ (f : Nat) (l : List Txt) (s : PS), Le s (argL T fin f l s).2
 | 0, _, s => Le.refl s
 | f + 1, l, s => by
  unfold argL
  split
  ·exact ((le_adv s).trans (le_decl T fin l _)).trans (le_argL f _ _)
  ·exact Le.refl s
structure LeAll (f : Nat) : Prop where
 expr : ∀ s, Le s (expr T fin f s).2
 casL : ∀ l s, Le s (casL T fin f l s).2
 msg : ∀ s, Le s (msg T fin f s).2
 operand : ∀ s, Le s (operand T fin f s).2
 keyL : ∀ n l s, Le s (keyL T fin f n l s).2.2
 binL_ : ∀ n s, Le s (binL_ T fin f n s).2
 keyw : ∀ n s, Le s (keyw T fin f n s).2
 prim : ∀ s, Le s (prim T fin f s).2
 arr : ∀ s, Le s (arr T fin f s).2
 arrL : ∀ l s, Le s (arrL T fin f l s).2
 lit : ∀ s, Le s (lit T fin f s).2
 braL : ∀ l s, Le s (braL T fin f l s).2
 blk : ∀ s, Le s (blk T fin f s).2
 stL : ∀ m l s, Le s (stL T fin f m l s).2
theorem leAll : ∀ f, LeAll T fin f
 | 0 => by
  constructor <;> (intros; first | exact Le.refl _ | (unfold Ps.expr; exact Le.refl _) | (unfold Ps.casL; exact Le.refl _) | (unfold Ps.msg; exact Le.refl _) | (unfold Ps.operand; exact Le.refl _) | (unfold Ps.keyL; exact Le.refl _) | (unfold Ps.binL_; exact Le.refl _) | (unfold Ps.keyw; exact Le.refl _) | (unfold Ps.prim; exact Le.refl _) | (unfold Ps.arr; exact Le.refl _) | (unfold Ps.arrL; exact Le.refl _) | (unfold Ps.lit; exact Le.refl _) | (unfold Ps.braL; exact Le.refl _) | (unfold Ps.blk; exact Le.refl _) | (unfold Ps.stL; exact Le.refl _))
 | f + 1 => by
  have ih := leAll f
  have two : ∀ s, Le s (Ps.unaL T fin (T.length + 2) (Ps.prim T fin f s).1 (Ps.prim T fin f s).2).2 := fun s => (ih.prim s).trans (le_unaL T fin _ _ _)
  have opr : ∀ s, Le s (Ps.binL_ T fin f (Ps.unaL T fin (T.length + 2) (Ps.prim T fin f s).1 (Ps.prim T fin f s).2).1 (Ps.unaL T fin (T.length + 2) (Ps.prim T fin f s).1 (Ps.prim T fin f s).2).2).2 := fun s => (two s).trans (ih.binL_ _ _)
  constructor
  ·intro s
   unfold Ps.expr
   dsimp only
   split
   ·split
    ·exact le_rf _ _ _
    ·exact ((le_adv s).trans (le_adv _)).trans (ih.expr _)
   ·have h := fun n => (opr s).trans (ih.keyw n _)
    split
    ·exact h _
    ·split
     ·exact (h _).trans (le_odd T fin _)
     ·exact (h _).trans (ih.casL _ _)
  ·intro l s
   unfold Ps.casL
   split
   ·exact ((le_adv s).trans (ih.msg _)).trans (ih.casL _ _)
   ·exact Le.refl s
  ·intro s
   unfold Ps.msg
   dsimp only
   repeat' split
   ·exact le_adv s
   ·exact (le_adv s).trans (two _)
   ·exact ih.keyL _ _ _
   ·exact le_odd T fin s
  ·intro s
   unfold Ps.operand
   exact opr s
  ·intro n l s
   unfold Ps.keyL
   split
   ·exact ((le_adv s).trans (ih.operand _)).trans (ih.keyL _ _ _)
   ·exact Le.refl s
  ·intro n s
   unfold Ps.binL_
   dsimp only
   split
   ·exact ((le_adv s).trans (two _)).trans (ih.binL_ _ _)
   ·exact Le.refl s
  ·intro n s
   unfold Ps.keyw
   dsimp only
   split
   ·exact Le.refl s
   ·exact ih.keyL _ _ _
  ·intro s
   unfold Ps.prim
   dsimp only
   split
   ·exact Le.refl s
   ·split
    ·exact le_simple T fin s
    ·repeat' split
     ·exact le_adv s
     ·exact ih.arr s
     ·exact le_bytes T fin s
     ·exact ((le_opn T fin s).trans (ih.expr _)).trans (le_shut T fin _ _)
     ·exact ((le_opn T fin s).trans (ih.braL _ _)).trans (le_shut T fin _ _)
     ·exact ih.blk s
     ·exact le_odd T fin s
  ·intro s
   unfold Ps.arr
   exact ((le_opn T fin s).trans (ih.arrL _ _)).trans (le_shut T fin _ _)
  ·intro l s
   unfold Ps.arrL
   split
   ·exact (ih.lit _).trans (ih.arrL _ _)
   ·exact Le.refl s
  ·intro s
   unfold Ps.lit
   dsimp only
   split
   ·exact le_simple T fin s
   ·repeat' split
    ·exact le_adv s
    ·exact le_adv s
    ·exact ih.arr s
    ·exact le_bytes T fin s
    ·exact le_odd T fin s
  ·intro l s
   unfold Ps.braL
   dsimp only
   split
   ·split
    ·exact ih.expr s
    ·exact ((ih.expr s).trans (le_adv _)).trans (ih.braL _ _)
   ·exact Le.refl s
  ·intro s
   unfold Ps.blk
   dsimp only
   have h1 := (le_opn T fin s).trans (le_argL T fin (T.length + 2) [] _)
   generalize Ps.argL T fin (T.length + 2) [] (opn T fin s) = a at *
   have h2 : Le s (if (ok a.2 && !a.1.isEmpty) = true then if Ps.is_ T fin a.2 [124] = true then adv a.2 else if Ps.is_ T fin a.2 [93] = true then a.2 else odd T fin a.2 else a.2) := by
    repeat' split
    ·exact h1.trans (le_adv _)
    ·exact h1
    ·exact h1.trans (le_odd T fin _)
    ·exact h1
   generalize (if (ok a.2 && !a.1.isEmpty) = true then if Ps.is_ T fin a.2 [124] = true then adv a.2 else if Ps.is_ T fin a.2 [93] = true then a.2 else odd T fin a.2 else a.2) = s1 at *
   have h3 : Le s (if ok s1 = true then temps T fin s1 else ([], s1)).2 := by
    split
    ·exact h2.trans (le_temps T fin s1)
    ·exact h2
   exact (h3.trans (ih.stL _ _ _)).trans (le_shut T fin _ _)
  ·intro m l s
   unfold Ps.stL
   dsimp only
   split
   ·exact Le.refl s
   ·split
    ·have h := (le_adv s).trans (ih.expr _)
     generalize Ps.expr T fin f (adv s) = e at *
     have h2 : Le s (if Ps.is_ T fin e.2 [46] = true then adv e.2 else e.2) := by
      split
      ·exact h.trans (le_adv _)
      ·exact h
     generalize (if Ps.is_ T fin e.2 [46] = true then adv e.2 else e.2) = s2 at *
     split
     ·exact h2.trans (le_odd T fin _)
     ·exact h2
    ·have h := ih.expr s
     generalize Ps.expr T fin f s = e at *
     split
     ·exact (h.trans (le_adv _)).trans (ih.stL _ _ _)
     ·split
      ·exact h.trans (le_odd T fin _)
      ·exact h
end
end Ps
end Go.Proofs.YtjhonaglmgmpiaaGreatDoor
