/-
  The program's Encode f10. No statement of the seat is proved here.
-/
import Derived.Test.YtaeegkljldngmaaDoorCdG
namespace Go.Proofs.YtaeegkljldngmaaDoor
open Go.RowKit

def inO (op : Int) : Bool := decide (1 ≤ op) && decide (op < 26)
theorem inO_yes {op : Int} (h : inO op = true) : 1 ≤ op ∧ op < 26 := by simpa [inO] using h
theorem inO_no {op : Int} (h : inO op = false) : op < 1 ∨ 26 ≤ op := by
  simp only [inO, Bool.and_eq_false_iff, decide_eq_false_iff_not] at h
  omega
def mayE (x : Ins) : Int := if inO x.op then (if fitH (hasO x.op) x then 0 else 51) else 50
def layI (x : Ins) : List UInt8 := layH (hasO x.op) x
theorem layI_len (x : Ins) : (layI x).length ≤ 6 := layH_len _ _
def encF : List UInt8 → List Ins → Int × List UInt8
  | acc, [] => if 32767 < acc.length then (2, []) else (0, acc)
  | acc, x :: r => if mayE x = 0 then encF (acc ++ layI x) r else (mayE x, [])
theorem hasO_ent {op : Int} (h : inO op = true) : hasO op = (ent op).has := if_pos (inO_yes h)
theorem hasOk_ent (op : Int) (h : inO op = true) : HasOk (ent op).has := by
  have := ent_has op.toNat
  rwa [Int.toNat_of_nonneg (by have := inO_yes h; omega)] at this
theorem hasOk_O (op : Int) : HasOk (hasO op) := by
  cases h : inO op with
  | true => rw [hasO_ent h]; exact hasOk_ent op h
  | false =>
    have := inO_no h
    exact .inl (if_neg (by omega))
theorem ops_any (op : Int) (w : World) : Calls Tryd.prog 14 #[.int .i64 op] w (OpsP w (if inO op then ent op else En.zero) (inO op)) := by
  cases h : inO op with
  | true =>
    have h1 := inO_yes h
    obtain ⟨k, rfl⟩ : ∃ k : Nat, op = k := ⟨op.toNat, by omega⟩
    exact ops_ok k w (by omega) (by omega)
  | false => exact ops_no op w (inO_no h)
theorem zero50 (w : World) : (zeroValue 50).run Tryd.prog w = .ok (.agg #[.string ⟨#[]⟩, .int .i64 0, .int .i64 0, .int .i64 0, .bool false]) w := by kernel_rfl
theorem zero34 (w : World) : (zeroValue 34).run Tryd.prog w = .ok (.agg #[.int .i64 0, .int .i64 0, .int .i64 0, .int .i64 0, .int .i64 0]) w := by kernel_rfl
/-- what Encode answers -/
def EncP (R : Int × List UInt8) (w : World) (e : Ending) (w' : World) : Prop := ∃ v, e = .returned (.tuple #[v, .int .i64 R.1]) ∧ OwnB 5 w' w.heap.size v R.2 ∧ Below w.heap.size w w'
theorem EncP.bad_ {R : Int × List UInt8} {w w' : World} {z : Int} (hR : (z, []) = R) (hb : Below w.heap.size w w') : EncP R w (.returned (.tuple #[.slice none 0 0, .int .i64 z])) w' := by
  subst hR
  exact ⟨_, rfl, OwnB.nil 5 _ _, hb⟩
theorem EncP.ok_ {R : Int × List UInt8} {w w' : World} {v : Value} {acc : List UInt8} (hR : (0, acc) = R) (ho : OwnB 5 w' w.heap.size v acc) (hb : Below w.heap.size w w') : EncP R w (.returned (.tuple #[v, .int .i64 0])) w' := by
  subst hR
  exact ⟨_, rfl, ho, hb⟩
theorem cs43 {x : Ins} {w : World} {b o : Nat} {k : Nat} (h : ∀ j u, x.cs[j]? = some u → w.cell? ⟨b, o + (k * 5 + j), none⟩ = some u) :
    w.cell? ⟨b, o + k * 5, none⟩ = some (.int .i64 x.op) ∧ w.cell? ⟨b, o + k * 5 + 1, none⟩ = some (.int .i64 x.a) ∧ w.cell? ⟨b, o + k * 5 + 2, none⟩ = some (.int .i64 x.b) ∧ w.cell? ⟨b, o + k * 5 + 3, none⟩ = some (.int .i64 x.c) ∧ w.cell? ⟨b, o + k * 5 + 4, none⟩ = some (.int .i64 x.z) :=
  ⟨h 0 _ rfl, h 1 _ rfl, h 2 _ rfl, h 3 _ rfl, h 4 _ rfl⟩
set_option maxRecDepth 100000 in
set_option maxHeartbeats 4000000 in
theorem Encode_any (A : Option Addr) (n c : Nat) (l : List Ins) (w : World) (hl : RdI w w.heap.size A n l) (hn : n ≤ 10000000) : Calls Tryd.prog 5 #[.slice A n c] w (EncP (encF [] l) w) := by
  obtain ⟨R, hR⟩ : ∃ R, encF [] l = R := ⟨_, rfl⟩
  rw [hR]
  have HR := Lib.hid hR
  have HL := Lib.hid hl
  have hln := hl.1
  have z74 := zero50
  have z43 := zero34
  subst hln
  clear hR hl
  go_enter Tryd.func5, Tryd.ntmps5
  go_wp2
  go_loopw [4, 11] (fun u i wr => ∃ (k : Nat) (acc : List UInt8), k ≤ l.length ∧ i = .int .i64 k ∧ OwnB 5 wr w.heap.size u acc ∧ Below w.heap.size w wr ∧ acc.length ≤ 6 * k ∧ encF acc (l.drop k) = R) (fun _ i _ => l.length - (intOf i).toNat)
  case atStart => exact ⟨0, [], by omega, rfl, OwnB.nil 5 _ _, Below.refl _ _, by simp, HR.out⟩
  case round =>
    obtain ⟨k, acc, hk, rfl, hown, hbel, hacc, hrest⟩ := hrel
    have HB := Lib.hid hbel
    have HO := Lib.hid hown
    have hws := hbel.size
    obtain ⟨Au, cu, rfl, hc1, hc2⟩ := hown.form
    clear hbel hown
    by_cases hlt : k < l.length
    · obtain ⟨x, hx⟩ : ∃ x, l[k]? = some x := ⟨_, List.getElem?_eq_getElem hlt⟩
      have hd : l.drop k = x :: l.drop (k + 1) := by
        rw [List.drop_eq_getElem_cons hlt]
        rw [List.getElem?_eq_getElem hlt] at hx
        injection hx with hx
        rw [hx]
      rw [hd] at hrest
      have HE := Lib.hid hrest
      obtain ⟨b, o, rfl, hb, hcs⟩ := (HL.out.below HB.out).2 k x hx
      obtain ⟨e0, e1, e2, e3, e4⟩ := cs43 hcs
      clear hrest hd hx hcs
      obtain ⟨op, a1, a2, a3, a4⟩ := x
      dsimp only at e0 e1 e2 e3 e4
      have l1 : (0 : Int) ≤ (k : Int) := by omega
      have l2 : (k : Int) < (l.length : Int) := by omega
      have hbw : b < wr.heap.size := by omega
      cases ho : inO op with
      | false =>
        have HM : Hid ((50, []) = R) := Lib.hid (by
          have := HE.out
          unfold encF at this
          rw [if_neg (by simp [mayE, ho])] at this
          simpa [mayE, ho] using this)
        have H30 := Lib.hid (show ∀ w, Calls Tryd.prog 14 #[.int .i64 op] w (fun e w' => e = .returned (.tuple #[.agg #[.string ⟨#[]⟩, .int .i64 0, .int .i64 0, .int .i64 0, .bool false], .bool false]) ∧ Below w.heap.size w w') from fun w => ops_no op w (inO_no ho))
        clear HE ho
        go_wp2_with fail
        refine (H30.out _).mono ?_
        rintro e w1 ⟨rfl, hb1⟩
        have HB1 : Hid (Below w.heap.size w w1) := Lib.hid ((HB.out.alloc HB.out.size _).trans (hb1.mono (by simp; omega)))
        clear hb1
        go_wp2
        go_ret2
        exact EncP.bad_ HM.out (HB1.out.alloc HB1.out.size _)
      | true =>
        have HOK := Lib.hid (hasOk_ent op ho)
        have HH := Lib.hid (hasO_ent ho)
        have h30 := (show ∀ w, Calls Tryd.prog 14 #[.int .i64 op] w (fun e w' => e = .returned (.tuple #[.agg #[.string (ent op).nm, .int .i64 (ent op).has, .int .i64 (ent op).take, .int .i64 (ent op).put, .bool (ent op).ends], .bool true]) ∧ Below w.heap.size w w') from fun w => by
          have h := ops_any op w
          rw [ho] at h
          exact h)
        have HE2 : Hid ((if fitH (ent op).has ⟨op, a1, a2, a3, a4⟩ = true then encF (acc ++ layH (ent op).has ⟨op, a1, a2, a3, a4⟩) (l.drop (k + 1)) else (51, [])) = R) := Lib.hid (by
          have := HE.out
          unfold encF at this
          simp only [mayE, ho, layI, HH.out] at this
          by_cases hf : fitH (ent op).has ⟨op, a1, a2, a3, a4⟩ = true
          · rw [if_pos hf]; simpa [hf] using this
          · rw [if_neg hf]; simpa [hf] using this)
        generalize ent op = en at *
        have h31 := fun w => fits_ok en ⟨op, a1, a2, a3, a4⟩ w HOK.out
        have h32 := fun v xs w hv hb hsz => encode_any w.heap.size v xs en ⟨op, a1, a2, a3, a4⟩ w hv hb HOK.out hsz
        obtain ⟨nm, has, take, put, ends⟩ := en
        dsimp only [Ins.val, En.val] at h30 h31 h32
        dsimp only at HE2
        have H30 := Lib.hid h30
        have H31 := Lib.hid h31
        have H32 := Lib.hid h32
        clear h30 h31 h32 HE ho HH
        have HC : Hid (acc.length ≤ 6 * k) := Lib.hid hacc
        clear hacc
        go_wp2_with fail
        refine (H30.out _).mono ?_
        rintro e w1 ⟨rfl, hb1⟩
        have HX1 := Lib.hid ((Blk.new wr 34 #[.int .i64 op, .int .i64 a1, .int .i64 a2, .int .i64 a3, .int .i64 a4]).below hb1 (by simp))
        have HB1 : Hid (Below w.heap.size w w1) := Lib.hid ((HB.out.alloc HB.out.size _).trans (hb1.mono (by simp; omega)))
        have HO1 : Hid (Below wr.heap.size wr w1) := Lib.hid (((Below.refl _ _).alloc (Nat.le_refl _) _).trans (hb1.mono (by simp)))
        have hz1 : wr.heap.size < w1.heap.size := HX1.out.lt
        have f0 : w1.cell? ⟨wr.heap.size, 0, none⟩ = some (.int .i64 op) := HX1.out.cell 0
        have f1 : w1.cell? ⟨wr.heap.size, 1, none⟩ = some (.int .i64 a1) := HX1.out.cell 1
        have f2 : w1.cell? ⟨wr.heap.size, 2, none⟩ = some (.int .i64 a2) := HX1.out.cell 2
        have f3 : w1.cell? ⟨wr.heap.size, 3, none⟩ = some (.int .i64 a3) := HX1.out.cell 3
        have f4 : w1.cell? ⟨wr.heap.size, 4, none⟩ = some (.int .i64 a4) := HX1.out.cell 4
        clear hb1
        go_wp2_with fail
        refine (H31.out _).mono ?_
        rintro e w2 ⟨rfl, hb2⟩
        clear f0 f1 f2 f3 f4
        have HX2 := Lib.hid ((HX1.out.alloc (.cells #[.string nm, .int .i64 has, .int .i64 take, .int .i64 put, .bool ends] 50)).below hb2 (by simp; omega))
        have HY2 := Lib.hid ((Blk.new w1 50 #[.string nm, .int .i64 has, .int .i64 take, .int .i64 put, .bool ends]).below hb2 (by simp))
        have HB2 : Hid (Below w.heap.size w w2) := Lib.hid ((HB1.out.alloc HB1.out.size _).trans (hb2.mono (by have := HB1.out.size; simp; omega)))
        have HO2 : Hid (Below wr.heap.size wr w2) := Lib.hid ((HO1.out.alloc HO1.out.size _).trans (hb2.mono (by have := HO1.out.size; simp; omega)))
        clear hb2
        cases hf : fitH has ⟨op, a1, a2, a3, a4⟩ with
        | false =>
          have HM : Hid ((51, []) = R) := Lib.hid (by have := HE2.out; rwa [if_neg (by rw [hf]; simp)] at this)
          clear hf
          go_wp2
          go_ret2
          exact EncP.bad_ HM.out HB2.out
        | true =>
          have HM := Lib.hid (show encF (acc ++ layH has ⟨op, a1, a2, a3, a4⟩) (l.drop (k + 1)) = R by have := HE2.out; rwa [if_pos hf] at this)
          clear hf
          have f0 : w2.cell? ⟨wr.heap.size, 0, none⟩ = some (.int .i64 op) := HX2.out.cell 0
          have f1 : w2.cell? ⟨wr.heap.size, 1, none⟩ = some (.int .i64 a1) := HX2.out.cell 1
          have f2 : w2.cell? ⟨wr.heap.size, 2, none⟩ = some (.int .i64 a2) := HX2.out.cell 2
          have f3 : w2.cell? ⟨wr.heap.size, 3, none⟩ = some (.int .i64 a3) := HX2.out.cell 3
          have f4 : w2.cell? ⟨wr.heap.size, 4, none⟩ = some (.int .i64 a4) := HX2.out.cell 4
          have g0 : w2.cell? ⟨w1.heap.size, 0, none⟩ = some (.string nm) := HY2.out.cell 0
          have g1 : w2.cell? ⟨w1.heap.size, 1, none⟩ = some (.int .i64 has) := HY2.out.cell 1
          have g2 : w2.cell? ⟨w1.heap.size, 2, none⟩ = some (.int .i64 take) := HY2.out.cell 2
          have g3 : w2.cell? ⟨w1.heap.size, 3, none⟩ = some (.int .i64 put) := HY2.out.cell 3
          have g4 : w2.cell? ⟨w1.heap.size, 4, none⟩ = some (.bool ends) := HY2.out.cell 4
          have HOW : Hid (OwnB 5 w2 w.heap.size (.slice Au acc.length cu) acc) := Lib.hid (World.ownsRow.kept HO.out (only_of_below HO2.out none) (by cases (Value.slice Au acc.length cu).ownBlock <;> simp))
          have H32b := Lib.hid (encode_any w.heap.size (.slice Au acc.length cu) acc ⟨nm, has, take, put, ends⟩ ⟨op, a1, a2, a3, a4⟩ w2 HOW.out HB2.out.size HOK.out (by have := HC.out; omega))
          go_wp2_with fail
          refine H32b.out.mono ?_
          rintro e w3 ⟨v3, rfl, ho3, ha3⟩
          have HO3 := Lib.hid ho3
          have HB3 := Lib.hid (HB2.out.trans (ha3.below HB2.out.size fun k hk => (World.ownsRow.lt HOW.out k hk).1))
          have HLE := layH_len has ⟨op, a1, a2, a3, a4⟩
          clear ho3 ha3 f0 f1 f2 f3 f4 g0 g1 g2 g3 g4 hbw hb
          go_wp2
          go_roundw
          case rel => exact ⟨k + 1, _, by omega, by go_num, HO3.out, HB3.out, by have := HC.out; simp; omega, HM.out⟩
          case measure => simp [intOf]; omega
    · have hke : l.drop k = [] := List.drop_eq_nil_of_le (by omega)
      rw [hke] at hrest
      unfold encF at hrest
      by_cases h32 : 32767 < acc.length
      · rw [if_pos h32] at hrest
        have HM := Lib.hid hrest
        clear hrest
        go_wp2
        go_ret2
        exact EncP.bad_ HM.out HB.out
      · rw [if_neg h32] at hrest
        have HM := Lib.hid hrest
        clear hrest
        go_wp2
        go_ret2
        exact EncP.ok_ HM.out HO.out HB.out
end Go.Proofs.YtaeegkljldngmaaDoor
