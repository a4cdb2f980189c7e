/-
  The program's Parse f9 at a text that Print wrote. No statement of the seat is proved here.
-/
import Derived.Test.YtaeegkljldngmaaDoorTxE
namespace Go.Proofs.YtaeegkljldngmaaDoor
open Go.RowKit

/-- the bytes of the first instructions -/
def bytK (l : List Ins) (k : Nat) : List UInt8 := bytesL (l.take k)
theorem bytK_next {l : List Ins} {k : Nat} {x : Ins} (h : l[k]? = some x) : bytK l (k + 1) = bytK l k ++ layI x := by
  unfold bytK bytesL
  rw [List.take_add_one, h]
  simp
theorem bytK_len {l : List Ins} (hl : ∀ x ∈ l, mayE x = 0) (k : Nat) (hk : k ≤ l.length) : (bytK l k).length = pl l k := by
  unfold bytK
  rw [bytesL_len _ fun x hx => hl x (List.mem_of_mem_take hx)]
  unfold pl
  rw [List.take_take, List.length_take]
  congr 4
  omega
theorem lines_at : ∀ (l : List Ins) (o k : Nat) (x : Ins), l[k]? = some x → (linesF l o)[k]? = some (lineL x ((o + pl l k : Nat) : Int))
  | y :: r, o, 0, x, h => by
    simp at h
    subst h
    simp [linesF, pl]
  | y :: r, o, k + 1, x, h => by
    rw [List.getElem?_cons_succ] at h
    have ih := lines_at r (o + y.size) k x h
    unfold linesF
    rw [List.getElem?_cons_succ, ih]
    unfold pl
    simp [Nat.add_assoc]
theorem textF_ne {l : List Ins} (h : l ≠ []) : textF l 0 ≠ [] := by
  rw [text_lines l 0 h]
  simp
theorem trim_text {l : List Ins} (h : l ≠ []) : Lib.trimSuffix (textF l 0) [10] = joinL 10 (linesF l 0) := by
  rw [text_lines l 0 h]
  unfold Lib.trimSuffix Lib.hasSuffix
  simp
theorem lines_ne {l : List Ins} (h : l ≠ []) : linesF l 0 ≠ [] := by
  cases l with
  | nil => exact absurd rfl h
  | cons x r => simp [linesF]
theorem ins_len : ∀ l : List Ins, (∀ x ∈ l, mayE x = 0) → l.length ≤ (bytesL l).length
  | [], _ => by simp
  | x :: r, h => by
    have h1 := ins_len r fun y hy => h y (by simp [hy])
    have h2 := bytes_size (h x (by simp))
    have h3 := (size_cast (mayE_ok (h x (by simp))).1).2.1
    have e : bytesL (x :: r) = layI x ++ bytesL r := rfl
    rw [e, List.length_append, h2, List.length_cons]
    omega
def PaP (l : List Ins) (w : World) (e : Ending) (w' : World) : Prop := ∃ v, e = .returned (.tuple #[v, .int .i64 0, .int .i64 0]) ∧ OwnB 5 w' w.heap.size v (bytesL l) ∧ Below w.heap.size w w'
set_option maxRecDepth 100000 in
set_option maxHeartbeats 4000000 in
theorem Parse_any (l : List Ins) (m : Int) (w : World) (hl : ∀ x ∈ l, mayE x = 0) (hlen : (bytesL l).length ≤ 32767) (hg : goalsF l 0)
    (hm : w.cell? ⟨1, 0, none⟩ = some (.int .i64 m)) (htab : Lib.TabIs Tryd.prog w "internal/strconv.uint64pow10" .u64 Lib.pow10Tab) :
    Calls Tryd.prog 9 #[.string (txt (textF l 0))] w (PaP l w) := by
  by_cases hne : l = []
  · subst hne
    have e : txt (textF [] 0) = ⟨#[]⟩ := rfl
    rw [e]
    clear hl hlen hg hm htab e
    go_enter Tryd.func9, Tryd.ntmps9
    go_wp2
    go_ret3
    exact ⟨_, rfl, OwnB.nil 5 _ _, Below.refl _ _⟩
  · have hll : l.length ≤ 32767 := Nat.le_trans (ins_len l hl) hlen
    have htl := text_len l 0 hl hg (by omega)
    have hsz : (txt (textF l 0)).size ≤ 1048576 := by
      show (textF l 0).toArray.size ≤ _
      rw [List.size_toArray]
      omega
    have hs0 : ((txt (textF l 0)).toList == []) = false := by
      rw [beq_eq_false_iff_ne, ByteArray.toList_eq]
      exact textF_ne hne
    have H25 := Lib.hid fun w => (Tryd.strings_TrimSuffix (txt (textF l 0)) ⟨#[10]⟩ w (by omega)).mono fun e w' (h : e = .returned (.string ⟨(Lib.trimSuffix (textF l 0) [10]).toArray⟩) ∧ w' = w) => (by rw [trim_text hne] at h; exact ⟨h.1, h.2.symm⟩ : e = .returned (.string (txt (joinL 10 (linesF l 0)))) ∧ w = w')
    have hjl : (joinL 10 (linesF l 0)).length < 4294967281 := by
      have h1 := congrArg List.length (text_lines l 0 hne)
      rw [List.length_append] at h1
      have h2 : (txt (textF l 0)).size = (textF l 0).length := by show (textF l 0).toArray.size = _; rw [List.size_toArray]
      omega
    have H24 := Lib.hid (split_any 10 (linesF l 0) (txt (joinL 10 (linesF l 0))) m w rfl (lines_ne hne) (lines_no l 0 fun x hx => (mayE_ok (hl x hx)).1) hjl hm)
    rw [lines_len] at H24
    have HS : Hid (∀ W k x, Blk W w.heap.size 9 ((linesF l 0).map fun l => Value.string (txt l)).toArray → l[k]? = some x → W.cell? ⟨w.heap.size, k, none⟩ = some (.string (txt (lineL x (pl l k : Int))))) := Lib.hid fun W k x hb hx => by
      have h1 := lines_at l 0 k x hx
      rw [Nat.zero_add] at h1
      rw [hb.cell k, List.getElem?_toArray, List.getElem?_map, h1]
      rfl
    have HLN : Hid (∀ k x W, l[k]? = some x → Below w.heap.size w W → Calls Tryd.prog 26 #[.string (txt (lineL x (pl l k : Int))), .int .i64 (pl l k : Int)] W (LnP x W)) := Lib.hid fun k x W hx hb => by
      have h1 := goals_at l 0 k x hg hx
      rw [Nat.zero_add] at h1
      have h2 := plI_lt l k x hx
      have h3 := bytesL_len l hl
      have hm1 : 1 < w.heap.size := World.block_lt_of_cell? _ _ hm
      exact line_any x _ m W (hl x (List.mem_of_getElem? hx)) (by omega) (by omega) h1 ((hb.cell (p := ⟨1, 0, none⟩) hm1).trans hm) (Joins.tab_stays pow10_named htab hb (Nat.le_refl _))
    have HBN := Lib.hid fun k x (h : l[k]? = some x) => bytK_next h
    have HBL := Lib.hid fun k (h : k ≤ l.length) => bytK_len hl k h
    have HMX := Lib.hid fun k x (h : l[k]? = some x) => hl x (List.mem_of_getElem? h)
    have HPM : Hid (∀ k, k ≤ l.length → pl l k ≤ 32767) := Lib.hid fun k h => by
      have h1 := bytK_len hl k h
      have h2 : (bytK l k).length ≤ (bytesL l).length := by
        unfold bytK bytesL
        have : l.flatMap layI = (l.take k).flatMap layI ++ (l.drop k).flatMap layI := by rw [← List.flatMap_append, List.take_append_drop]
        rw [this, List.length_append]
        omega
      omega
    have HEND : Hid (bytK l l.length = bytesL l) := Lib.hid (by unfold bytK; rw [List.take_length])
    have HB1 : Hid (Below w.heap.size w (w.alloc (.cells ((linesF l 0).map fun l => Value.string (txt l)).toArray 9))) := Lib.hid ((Below.refl _ _).alloc (Nat.le_refl _) _)
    have HX1 := Lib.hid (Blk.new w 9 ((linesF l 0).map fun l => Value.string (txt l)).toArray)
    have hss : (txt (textF l 0)).size ≤ 1048576 := hsz
    generalize txt (textF l 0) = S at *
    generalize txt (joinL 10 (linesF l 0)) = S1 at *
    have t1 : ¬ (1048576 : Int) < (S.size : Int) := by omega
    have t2 : decide ((1048576 : Int) < (S.size : Int)) = false := by simp; omega
    clear hl hlen hg hm htab htl hsz hjl hss hne
    go_enter Tryd.func9, Tryd.ntmps9
    go_upto_block 0 with (first
      | (go_at_call 25; refine (H25.out _).mono ?_; rintro e w1 ⟨rfl, rfl⟩)
      | (go_at_call 24; refine H24.out.mono ?_; rintro e w1 ⟨rfl, rfl⟩))
    generalize w.alloc (.cells ((linesF l 0).map fun l => Value.string (txt l)).toArray 9) = w1 at *
    have hw1 := HX1.out.lt
    generalize ((linesF l 0).map fun l => Value.string (txt l)).toArray = cs at *
    go_cut [5] (fun v wx => ∃ w2, w2 = wx ∧ OwnB 5 w2 w1.heap.size v (bytesL l) ∧ Below w1.heap.size w1 w2)
    case first =>
      as_aux_lemma =>
      go_wp2
      go_loopw [5, 21] (fun v i wx => ∃ k : Nat, k ≤ l.length ∧ i = .int .i64 (k : Int) ∧ OwnB 5 wx w1.heap.size v (bytK l k) ∧ Below w1.heap.size w1 wx) (fun _ i _ => l.length - (intOf i).toNat)
      case atStart => exact ⟨0, Nat.zero_le _, rfl, OwnB.nil 5 _ _, Below.refl _ _⟩
      case round =>
        obtain ⟨k, hk, rfl, hown, hbel⟩ := hrel
        have hbk := HBL.out k hk
        have hpm := HPM.out k hk
        obtain ⟨Au, cu, rfl, _, _⟩ := hown.form
        rw [hbk] at hown
        have HO := Lib.hid hown
        have HB := Lib.hid hbel
        have hws := hbel.size
        have HBK := Lib.hid hbk
        rw [hbk]
        clear hown hbel hbk
        by_cases hkl : k < l.length
        · obtain ⟨x, hx⟩ : ∃ x, l[k]? = some x := ⟨_, List.getElem?_eq_getElem hkl⟩
          have cx := HS.out wr k x (HX1.out.below HB.out hw1) hx
          have HBW := Lib.hid (HB1.out.trans (HB.out.mono (by omega)))
          have h26 := HLN.out k x wr hx HBW.out
          have hmx := HMX.out k x hx
          have hin := (mayE_ok hmx).1
          have hent : (ent x.op).has = hasO x.op := (hasO_ent hin).symm
          have h14 := (show ∀ w, Calls Tryd.prog 14 #[.int .i64 x.op] w (fun e w' => e = .returned (.tuple #[.agg #[.string (ent x.op).nm, .int .i64 (ent x.op).has, .int .i64 (ent x.op).take, .int .i64 (ent x.op).put, .bool (ent x.op).ends], .bool true]) ∧ Below w.heap.size w w') from fun w => by
            have h := ops_any x.op w
            rw [hin] at h
            exact h)
          have h16 := fun v w hv hb => encode_any w1.heap.size v (bytK l k) (ent x.op) x w hv hb (hasOk_ent _ hin) (by have := HBK.out; omega)
          have HNX : Hid (bytK l k ++ layH (ent x.op).has x = bytK l (k + 1)) := Lib.hid (by rw [hent]; exact (HBN.out k x hx).symm)
          have hpn := HPM.out (k + 1) (by omega)
          have hbn := HBL.out (k + 1) (by omega)
          have l1 : (0 : Int) ≤ (k : Int) := by omega
          have l2 : (k : Int) < (l.length : Int) := by omega
          unfold LnP at h26
          clear hx hmx hin hent
          generalize pl l k = pk at *
          generalize ent x.op = en at *
          obtain ⟨nm, has, take, put, ends⟩ := en
          obtain ⟨op, xa, xb, xc, xz⟩ := x
          dsimp only [Ins.val, En.val] at h26 h14 h16 HNX
          have H26 := Lib.hid h26
          have H14 := Lib.hid h14
          have H16 := Lib.hid h16
          clear h26 h14 h16
          go_upto_region 10 with (go_at_call 26; refine H26.out.mono ?_; rintro e w3 ⟨rfl, hb3⟩; have HB3 := Lib.hid (HB.out.trans (hb3.mono hws)); have HO3 := Lib.hid (own_bel HO.out hb3); clear hb3)
          have hw3 := HB3.out.size
          have HX4 := Lib.hid (Blk.new w3 34 #[.int .i64 op, .int .i64 xa, .int .i64 xb, .int .i64 xc, .int .i64 xz])
          have HB4 := Lib.hid (HB3.out.alloc hw3 (.cells #[.int .i64 op, .int .i64 xa, .int .i64 xb, .int .i64 xc, .int .i64 xz] 34))
          have HO4 := Lib.hid (World.ownsRow.alloc HO3.out (.cells #[.int .i64 op, .int .i64 xa, .int .i64 xb, .int .i64 xc, .int .i64 xz] 34))
          generalize w3.alloc (.cells #[.int .i64 op, .int .i64 xa, .int .i64 xb, .int .i64 xc, .int .i64 xz] 34) = w4 at *
          generalize w3.heap.size = g8 at *
          have c0 : w4.cell? ⟨g8, 0, none⟩ = some (.int .i64 op) := HX4.out.cell 0
          clear HB3 HO3 cx HB HBW HO
          go_upto_region 13 with (go_at_call 14; refine (H14.out _).mono ?_; rintro e w5 ⟨rfl, hb5⟩; have HB5 := Lib.hid (HB4.out.trans (hb5.mono HB4.out.size)); have HO5 := Lib.hid (own_bel HO4.out hb5); have HX5 := Lib.hid (HX4.out.below hb5 HX4.out.lt); clear hb5)
          have hw5 := HB5.out.size
          have HY6 := Lib.hid (Blk.new w5 50 #[.string nm, .int .i64 has, .int .i64 take, .int .i64 put, .bool ends])
          have HX6 := Lib.hid (HX5.out.alloc (.cells #[.string nm, .int .i64 has, .int .i64 take, .int .i64 put, .bool ends] 50))
          have HB6 := Lib.hid (HB5.out.alloc hw5 (.cells #[.string nm, .int .i64 has, .int .i64 take, .int .i64 put, .bool ends] 50))
          have HO6 := Lib.hid (World.ownsRow.alloc HO5.out (.cells #[.string nm, .int .i64 has, .int .i64 take, .int .i64 put, .bool ends] 50))
          generalize w5.alloc (.cells #[.string nm, .int .i64 has, .int .i64 take, .int .i64 put, .bool ends] 50) = w6 at *
          generalize w5.heap.size = g10 at *
          have d0 : w6.cell? ⟨g8, 0, none⟩ = some (.int .i64 op) := HX6.out.cell 0
          have d1 : w6.cell? ⟨g8, 1, none⟩ = some (.int .i64 xa) := HX6.out.cell 1
          have d2 : w6.cell? ⟨g8, 2, none⟩ = some (.int .i64 xb) := HX6.out.cell 2
          have d3 : w6.cell? ⟨g8, 3, none⟩ = some (.int .i64 xc) := HX6.out.cell 3
          have d4 : w6.cell? ⟨g8, 4, none⟩ = some (.int .i64 xz) := HX6.out.cell 4
          have e0 : w6.cell? ⟨g10, 0, none⟩ = some (.string nm) := HY6.out.cell 0
          have e1 : w6.cell? ⟨g10, 1, none⟩ = some (.int .i64 has) := HY6.out.cell 1
          have e2 : w6.cell? ⟨g10, 2, none⟩ = some (.int .i64 take) := HY6.out.cell 2
          have e3 : w6.cell? ⟨g10, 3, none⟩ = some (.int .i64 put) := HY6.out.cell 3
          have e4 : w6.cell? ⟨g10, 4, none⟩ = some (.bool ends) := HY6.out.cell 4
          have H16b := Lib.hid (H16.out _ w6 HO6.out HB6.out.size)
          clear c0 HB4 HO4 HX4 HB5 HO5 HX5
          go_upto_region 14 with (go_at_call 16; refine H16b.out.mono ?_; rintro e w7 ⟨v7, rfl, ho7, ha7⟩; have HB7 := Lib.hid (HB6.out.trans (ha7.below HB6.out.size fun k hk => (World.ownsRow.lt HO6.out k hk).1)); have HO7 := Lib.hid ho7; clear ho7 ha7)
          have ho7 := HO7.out
          rw [HNX.out] at ho7
          obtain ⟨A7, c7, rfl, _, _⟩ := ho7.form
          have HO8 := Lib.hid ho7
          rw [hbn]
          have n1 : ¬ (32767 : Int) < ((pl l (k + 1) : Nat) : Int) := by omega
          have n2 : decide ((32767 : Int) < ((pl l (k + 1) : Nat) : Int)) = false := by simp; omega
          rw [hbn] at HO8
          have HBN1 := Lib.hid hbn
          clear ho7 d0 d1 d2 d3 d4 e0 e1 e2 e3 e4 H16b HO7 hbn
          go_wp2
          go_roundw
          case rel => exact ⟨k + 1, by omega, by go_num, HO8.out, HB7.out⟩
          case measure => simp [intOf]; omega
        · obtain rfl : k = l.length := by omega
          go_wp2
          go_meet
          exact ⟨_, rfl, by have := HO.out; rw [HEND.out] at this; exact this, HB.out⟩
    case rest =>
      obtain ⟨w2, rfl, hown, hbel⟩ := hcut
      have HO := Lib.hid hown
      have HB := Lib.hid (HB1.out.trans (hbel.mono (by omega)))
      clear hown hbel
      go_wp2
      go_ret3
      exact ⟨_, rfl, own_base HO.out (by omega), HB.out⟩
end Go.Proofs.YtaeegkljldngmaaDoor
