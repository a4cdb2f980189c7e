/-
  The program's Print f8 at bytes that Encode wrote. No statement of the seat is proved here.
-/
import Derived.Test.YtaeegkljldngmaaDoorTxE
namespace Go.Proofs.YtaeegkljldngmaaDoor
open Go.RowKit

theorem z_at {w : World} {base n c j : Nat} {A : Option Addr} {zs : List Int} {z : Int} (h : w.ownsRow base 3 1 (.slice A n c) zs.length (zs.map iv)) (ho : zs[j]? = some z) : ∃ b, A = some ⟨b, 0, none⟩ ∧ b < w.heap.size ∧ w.cell? ⟨b, j, none⟩ = some (.int .i64 z) := by
  have hj := (List.getElem?_eq_some_iff.1 ho).1
  obtain ⟨b, cap, hv, _, hlt⟩ := World.ownsRow.form h (by omega)
  injection hv with e1 e2 e3
  subst e1 e2 e3
  have h1 := World.ownsRow.cells h (g := b) rfl j (iv z) (by simp [ho])
  refine ⟨b, rfl, hlt, ?_⟩
  have e : (⟨b, 0, none⟩ : Addr).add j = ⟨b, j, none⟩ := by unfold Addr.add; split <;> simp_all
  rw [e] at h1
  exact h1
theorem in_at {w : World} {base n c k : Nat} {A : Option Addr} {l : List Ins} {x : Ins} (h : w.ownsRow base 34 5 (.slice A n c) l.length (insC l)) (hx : l[k]? = some x) : ∃ b, A = some ⟨b, 0, none⟩ ∧ b < w.heap.size ∧ w.cell? ⟨b, k * 5, none⟩ = some (.int .i64 x.op) ∧ w.cell? ⟨b, k * 5 + 1, none⟩ = some (.int .i64 x.a) ∧ w.cell? ⟨b, k * 5 + 2, none⟩ = some (.int .i64 x.b) ∧ w.cell? ⟨b, k * 5 + 3, none⟩ = some (.int .i64 x.c) ∧ w.cell? ⟨b, k * 5 + 4, none⟩ = some (.int .i64 x.z) := by
  have hj := (List.getElem?_eq_some_iff.1 hx).1
  obtain ⟨b, cap, hv, _, hlt⟩ := World.ownsRow.form h (by omega)
  injection hv with e1 e2 e3
  subst e1 e2 e3
  have key : ∀ j u, x.cs[j]? = some u → w.cell? ⟨b, k * 5 + j, none⟩ = some u := fun j u hu => by
    have h1 := World.ownsRow.cells h (g := b) rfl (k * 5 + j) u (flat_at (f := Ins.cs) (n := 5) (fun _ => rfl) hx hu)
    have e : (⟨b, 0, none⟩ : Addr).add (k * 5 + j) = ⟨b, k * 5 + j, none⟩ := by unfold Addr.add; split <;> simp_all
    rw [e] at h1
    exact h1
  exact ⟨b, rfl, hlt, key 0 _ rfl, key 1 _ rfl, key 2 _ rfl, key 3 _ rfl, key 4 _ rfl⟩
def PrP (l : List Ins) (w : World) (e : Ending) (w' : World) : Prop := e = .returned (.tuple #[.string (txt (textF l 0)), .int .i64 0]) ∧ Below w.heap.size w w'
/-- what is known of an instruction that is printed -/
structure PrX (x : Ins) (at_ : Int) : Prop where
  may : mayE x = 0
  a0 : 0 ≤ at_
  a1 : at_ ≤ 32767
  go : jmpO x.op = true → 0 ≤ goalI x at_ ∧ goalI x at_ ≤ 32767
theorem nm_size {x : Ins} (h : mayE x = 0) : (nmO x.op).size ≤ 11 := by
  obtain ⟨k, _, e2, _, _⟩ := nm_ent (mayE_ok h).1
  rw [e2]
  have := (names_no k).2.2.1
  rw [Array.length_toList] at this
  exact this
theorem txt_size (l : List UInt8) : (txt l).size = l.length := by
  show l.toArray.size = l.length
  simp
theorem fresh_bld (w : World) (B : Nat) (hB : B ≤ w.heap.size) : Lib.IsBuilderF 59 5 B w.heap.size (Lib.byteCells []) (w.alloc (.cells #[.pointer none, .slice none 0 0] 59)) :=
  .inl ⟨hB, .slice none 0 0, heap_alloc_new w _, World.ownsRowF_of (World.ownsRow_nil _ _ _ _), by simp [Value.ownBlock]⟩
theorem may_bounds {x : Ins} (h : mayE x = 0) : (0 ≤ x.a ∧ x.a ≤ 255) ∧ (0 ≤ x.b ∧ x.b ≤ 255) ∧ (0 ≤ x.c ∧ x.c ≤ 255) ∧ -32768 ≤ x.z ∧ x.z ≤ 32767 := by
  obtain ⟨_, hf⟩ := mayE_ok h
  have hk := hasOk_O x.op
  generalize hasO x.op = hh at *
  unfold fitH at hf
  simp only [Bool.and_eq_true] at hf
  obtain ⟨ha, hb, hc, hz⟩ := hf
  refine ⟨?_, ?_, ?_, ?_⟩
  · rcases hk with rfl | rfl | rfl | rfl | rfl <;> simp [okN, hA] at ha <;> omega
  · rcases hk with rfl | rfl | rfl | rfl | rfl <;> simp [okN, hB] at hb <;> omega
  · rcases hk with rfl | rfl | rfl | rfl | rfl <;> simp [okN, hC] at hc <;> omega
  · rcases hk with rfl | rfl | rfl | rfl | rfl <;> simp [hT] at hz <;> omega
theorem itoa_le {z : Int} (h1 : -2147483648 ≤ z) (h2 : z ≤ 2147483647) : (Lib.itoa z).length ≤ 11 := (itoa_len h1 h2).1
theorem ops_len {x : Ins} (h : mayE x = 0) : ∀ j, j ≤ 3 → (opsL (hasO x.op) x j).length ≤ 12 * j
  | 0, _ => by simp [opsL]
  | j + 1, hj => by
    have ih := ops_len h j (by omega)
    obtain ⟨h1, h2, h3, _⟩ := may_bounds h
    have hs : (Lib.itoa (sel3 x j)).length ≤ 11 := by
      obtain rfl | rfl | rfl : j = 0 ∨ j = 1 ∨ j = 2 := by omega
      · exact itoa_le (by show _ ≤ x.a; omega) (by show x.a ≤ _; omega)
      · exact itoa_le (by show _ ≤ x.b; omega) (by show x.b ≤ _; omega)
      · exact itoa_le (by show _ ≤ x.c; omega) (by show x.c ≤ _; omega)
    unfold opsL
    rw [List.length_append]
    split
    · rw [List.length_cons]; omega
    · simp; omega
/-- the line's first words as Print makes them -/
def headB (s0 nm : ByteArray) : ByteArray := s0 ++ ⟨#[32]⟩ ++ nm
theorem headB_data (l : List UInt8) (nm : ByteArray) : (txt l ++ ⟨#[32]⟩ ++ nm).data.toList = l ++ 32 :: nm.data.toList := by
  simp [txt, ByteArray.data_append]
theorem headB_size (s nm : ByteArray) : (s ++ ⟨#[32]⟩ ++ nm).size = s.size + 1 + nm.size := by
  rw [ByteArray.size_append, ByteArray.size_append]
  rfl
theorem sp_size (s : ByteArray) : ((⟨#[32]⟩ : ByteArray) ++ s).size = 1 + s.size := by
  rw [ByteArray.size_append]
  rfl
theorem arrow_size (s : ByteArray) : ((⟨#[32, 45, 62]⟩ : ByteArray) ++ s).size = 3 + s.size := by
  rw [ByteArray.size_append]
  rfl
theorem sp_data (l : List UInt8) : ((⟨#[32]⟩ : ByteArray) ++ txt l).data.toList = 32 :: l := by
  simp [txt, ByteArray.data_append]
theorem arrow_data (l : List UInt8) : ((⟨#[32, 45, 62]⟩ : ByteArray) ++ txt l).data.toList = 32 :: 45 :: 62 :: l := by
  simp [txt, ByteArray.data_append]
set_option maxRecDepth 100000 in
set_option maxHeartbeats 8000000 in
theorem Print_any (A : Option Addr) (n c : Nat) (l : List Ins) (w : World) (hr : RdB w w.heap.size A n (bytesL l)) (hl : ∀ x ∈ l, mayE x = 0) (hlen : (bytesL l).length ≤ 32767) (hg : goalsF l 0) (htab : Lib.TabIs Tryd.prog w "internal/strconv.uint64pow10" .u64 Lib.pow10Tab) :
    Calls Tryd.prog 8 #[.slice A n c] w (PrP l w) := by
  have hd := decL_bytes hl hlen
  have hsum := bytesL_len l hl
  have H6 := Lib.hid (show Calls Tryd.prog 6 #[.slice A n c] w (fun e w' => Below w.heap.size w w' ∧ ∃ lv pv, e = .returned (.tuple #[lv, pv, .int .i64 0, .int .i64 0]) ∧ OwnIn w' w.heap.size lv l ∧ OwnZ w' w.heap.size pv (natZ (plsN 0 l))) from (Decode_any A n c (bytesL l) w hr).mono fun e w' h => by rw [hd] at h; exact h)
  have HZ : Hid (∀ k x, l[k]? = some x → (natZ (plsN 0 l))[k]? = some (pl l k : Int)) := Lib.hid fun k x hx => by
    have h1 := plsN_at l 0 k (List.getElem?_eq_some_iff.1 hx).1
    unfold natZ
    rw [List.getElem?_map, h1]
    simp
  have HZL : Hid ((natZ (plsN 0 l)).length = l.length) := Lib.hid (by unfold natZ; rw [List.length_map, plsN_len])
  have HPX : Hid (∀ k x, l[k]? = some x → PrX x (pl l k : Int)) := Lib.hid fun k x hx => by
    have h1 := plI_lt l k x hx
    have h2 := goals_at l 0 k x hg hx
    rw [Nat.zero_add] at h2
    exact ⟨hl x (List.mem_of_getElem? hx), by omega, by omega, h2⟩
  have HTX : Hid (∀ k x, l[k]? = some x → textF (l.take (k + 1)) 0 = textF (l.take k) 0 ++ (lineL x (pl l k : Int) ++ [10])) := Lib.hid fun k x hx => by
    have h1 := textF_take l 0 k x hx
    rw [Nat.zero_add] at h1
    exact h1
  have HEND : Hid (textF (l.take l.length) 0 = textF l 0) := Lib.hid (by rw [List.take_length])
  have hll : l.length ≤ 32767 := by
    have : ∀ l : List Ins, (∀ x ∈ l, mayE x = 0) → l.length ≤ (bytesL l).length := by
      intro l
      induction l with
      | nil => intro _; simp
      | cons x r ih =>
        intro h
        have h1 := ih fun y hy => h y (by simp [hy])
        have h2 := bytes_size (h x (by simp))
        have h3 := (size_cast (mayE_ok (h x (by simp))).1).2.1
        have e : bytesL (x :: r) = layI x ++ bytesL r := rfl
        rw [e, List.length_append, h2, List.length_cons]
        omega
    have := this l hl
    omega
  have HT := Lib.hid htab
  generalize natZ (plsN 0 l) = zs at *
  clear hd hsum hg hl hlen htab hr
  go_enter Tryd.func8, Tryd.ntmps8
  go_upto_region 2 with (go_at_call 6; refine H6.out.mono ?_; rintro e w1 ⟨hb1, lv, pv, rfl, hi, hz⟩; have HB1 := Lib.hid hb1; have HI := Lib.hid hi; have HZ1 := Lib.hid hz; clear hb1 hi hz)
  have hi := HI.out
  have hz := HZ1.out
  obtain ⟨Al, cl, rfl, _, _⟩ := own_form hi
  obtain ⟨Ap, cp, rfl, _, _⟩ := own_form hz
  clear hi hz H6
  have hw1 := HB1.out.size
  have HP2 : Hid (PrS w w1.heap.size (.slice Al l.length cl) (.slice Ap zs.length cp) l zs (textF (l.take 0) 0) (w1.alloc (.cells #[.pointer none, .slice none 0 0] 59))) := Lib.hid ⟨HB1.out.alloc HB1.out.size _, fresh_bld w1 w.heap.size HB1.out.size, World.ownsRow.alloc HI.out _, World.ownsRow.alloc HZ1.out _⟩
  go_upto_region 5 with fail
  generalize w1.alloc (.cells #[.pointer none, .slice none 0 0] 59) = w2 at *
  generalize w1.heap.size = gb at *
  clear HB1 HI HZ1
  go_upto_block 0 with fail
  go_cut [] (fun wx => ∃ w3, w3 = wx ∧ PrS w gb (.slice Al l.length cl) (.slice Ap zs.length cp) l zs (textF l 0) w3)
  case first =>
    as_aux_lemma =>
    go_wp2
    go_loopw [27] (fun i wx => ∃ k : Nat, k ≤ l.length ∧ i = .int .i64 (k : Int) ∧ PrS w gb (.slice Al l.length cl) (.slice Ap zs.length cp) l zs (textF (l.take k) 0) wx ∧ (textF (l.take k) 0).length ≤ 200 * k) (fun i _ => l.length - (intOf i).toNat)
    case atStart => exact ⟨0, Nat.zero_le _, rfl, HP2.out, by simp [textF]⟩
    case round =>
      obtain ⟨k, hk, rfl, hP, hol⟩ := hrel
      have HP := Lib.hid hP
      clear hP
      by_cases hkl : k < l.length
      · obtain ⟨x, hx⟩ : ∃ x, l[k]? = some x := ⟨_, List.getElem?_eq_getElem hkl⟩
        obtain ⟨bl, hAl, hbl, x0, x1, x2, x3, x4⟩ := in_at HP.out.lo hx
        subst hAl
        have hpz := HZ.out k x hx
        have HXX := Lib.hid (HPX.out k x hx)
        have HTK := Lib.hid (HTX.out k x hx)
        have HLL := Lib.hid (line_len HXX.out.may HXX.out.a0 HXX.out.a1 HXX.out.go)
        have l1 : (0 : Int) ≤ (k : Int) := by omega
        have l2 : (k : Int) < (l.length : Int) := by omega
        have l3 : (k : Int) < (zs.length : Int) := by rw [HZL.out]; exact l2
        have hin := (mayE_ok HXX.out.may).1
        have hent : (ent x.op).has = hasO x.op := (hasO_ent hin).symm
        have H14 := Lib.hid (show ∀ w, Calls Tryd.prog 14 #[.int .i64 x.op] w (fun e w' => e = .returned (.tuple #[.agg #[.string (ent x.op).nm, .int .i64 (ent x.op).has, .int .i64 (ent x.op).take, .int .i64 (ent x.op).put, .bool (ent x.op).ends], .bool true]) ∧ Below w.heap.size w w') from fun w => by
          have h := ops_any x.op w
          rw [hin] at h
          exact h)
        have H21 := Lib.hid (show ∀ w, Calls Tryd.prog 21 #[.agg #[.string (ent x.op).nm, .int .i64 (ent x.op).has, .int .i64 (ent x.op).take, .int .i64 (ent x.op).put, .bool (ent x.op).ends]] w (fun e w' => e = .returned (.int .i64 (szO x.op)) ∧ Below w.heap.size w w') from fun w => by
          have h := size_ok (ent x.op) w (hasOk_ent _ hin)
          rw [hent, ← szO_in hin] at h
          exact h)
        have H20 := Lib.hid fun w => (jmp_any x.op w).mono fun e w' (h : e = .returned (.bool (jmpO x.op)) ∧ w' = w) => (⟨h.1, h.2.symm⟩ : e = .returned (.bool (jmpO x.op)) ∧ w = w')
        have hnm : nmO x.op = (ent x.op).nm := if_pos (inO_yes hin)
        have HNS := Lib.hid (nm_size HXX.out.may)
        have HOL := Lib.hid fun j h => ops_len HXX.out.may j h
        have HOP : Hid (∀ j, opsL (hasO x.op) x (j + 1) = opsL (hasO x.op) x j ++ (if has3 (hasO x.op) j then 32 :: Lib.itoa (sel3 x j) else [])) := Lib.hid fun j => rfl
        have HOP0 : Hid (opsL (hasO x.op) x 0 = []) := Lib.hid rfl
        have HLN : Hid (lineL x (pl l k : Int) = Lib.itoa (pl l k : Int) ++ 32 :: ((nmO x.op).data.toList ++ (opsL (hasO x.op) x 3 ++ tailL x (pl l k : Int)))) := Lib.hid rfl
        have HTJ : Hid (jmpO x.op = true → tailL x (pl l k : Int) = 32 :: 45 :: 62 :: Lib.itoa ((pl l k : Int) + szO x.op + x.z)) := Lib.hid fun h => if_pos h
        have HTN : Hid (jmpO x.op = false → tailL x (pl l k : Int) = if hT (hasO x.op) then 32 :: Lib.itoa x.z else []) := Lib.hid fun h => by unfold tailL; rw [h]; rfl
        have HJO := Lib.hid (@jmp_has x.op)
        have HOK := Lib.hid (hasOk_O x.op)
        have HBD := Lib.hid (may_bounds HXX.out.may)
        have hsz := szO_pos hin
        have ha0 := HXX.out.a0
        have ha1 := HXX.out.a1
        have HIT : Hid (∀ (z : Int) (W : World), -2147483648 ≤ z → z ≤ 2147483647 → Below w.heap.size w W → Calls Tryd.prog 19 #[.int .i64 z] W fun e w' => e = .returned (.string (txt (Lib.itoa z))) ∧ Below W.heap.size W w') := Lib.hid fun z W h1 h2 hb => itoa_any z W (by omega) (by omega) (Joins.tab_stays pow10_named HT.out hb (Nat.le_refl _))
        have HOB : Hid ((textF (l.take k) 0).length ≤ 200 * k) := Lib.hid hol
        have HRS : Hid (∀ y, textF (l.take k) 0 ++ (lineL x (pl l k : Int) ++ [10]) = y → textF (l.take (k + 1)) 0 = y) := Lib.hid fun y h => HTK.out.trans h
        have HLE : Hid ((textF (l.take k) 0 ++ (lineL x (pl l k : Int) ++ [10])).length ≤ 200 * (k + 1)) := Lib.hid (by
          have h1 := HLL.out
          have h2 := (size_cast hin).2.2
          rw [List.length_append, List.length_append]
          simp only [List.length_cons, List.length_nil]
          omega)
        rw [hent] at H14 H21
        rw [hnm] at HNS HLN
        clear hnm hent hin hol HPX HTX HXX HTK HLL hx
        generalize (pl l k : Int) = at_ at *
        generalize textF (l.take k) 0 = out at *
        generalize opsL (hasO x.op) x = opl at *
        generalize tailL x at_ = tl at *
        generalize hasO x.op = has at *
        generalize ent x.op = en at *
        obtain ⟨nm, has', take, put, ends⟩ := en
        obtain ⟨op, xa, xb, xc, xz⟩ := x
        dsimp only at x0 x1 x2 x3 x4 H14 H20 H21 HNS HLN HTJ HTN HJO HBD
        generalize szO op = sz at *
        have HP8 := Lib.hid (HP.out.pure ((Below.refl wr.heap.size wr).alloc (Nat.le_refl _) (.cells #[.int .i64 op, .int .i64 xa, .int .i64 xb, .int .i64 xc, .int .i64 xz] 34)))
        have HX8 := Lib.hid (Blk.new wr 34 #[.int .i64 op, .int .i64 xa, .int .i64 xb, .int .i64 xc, .int .i64 xz])
        go_upto_region 8 with fail
        generalize wr.alloc (.cells #[.int .i64 op, .int .i64 xa, .int .i64 xb, .int .i64 xc, .int .i64 xz] 34) = w4 at *
        generalize wr.heap.size = g10 at *
        have y0 : w4.cell? ⟨g10, 0, none⟩ = some (.int .i64 op) := HX8.out.cell 0
        clear x0 x1 x2 x3 x4 HP hbl
        go_upto_region 9 with (go_at_call 14; refine (H14.out _).mono ?_; rintro e w5 ⟨rfl, hb5⟩; have HP9 := Lib.hid (HP8.out.pure hb5); have HX9 := Lib.hid (HX8.out.below hb5 HX8.out.lt); clear hb5)
        have HPB : Hid (PrB w gb (.slice (some ⟨bl, 0, none⟩) l.length cl) (.slice Ap zs.length cp) l zs g10 w5.heap.size #[.int .i64 op, .int .i64 xa, .int .i64 xb, .int .i64 xc, .int .i64 xz] #[.string nm, .int .i64 has, .int .i64 take, .int .i64 put, .bool ends] out (w5.alloc (.cells #[.string nm, .int .i64 has, .int .i64 take, .int .i64 put, .bool ends] 50))) := Lib.hid ⟨HP9.out.pure ((Below.refl _ _).alloc (Nat.le_refl _) _), HX9.out.alloc _, Blk.new w5 50 _⟩
        generalize w5.alloc (.cells #[.string nm, .int .i64 has, .int .i64 take, .int .i64 put, .bool ends] 50) = w6 at *
        generalize w5.heap.size = g11 at *
        clear y0 HP8 HX8 HP9 HX9 H14
        obtain ⟨bp, hAp, hbp, p0⟩ := z_at HPB.out.s.po hpz
        subst hAp
        have HZA : Hid (∀ W out, PrB w gb (.slice (some ⟨bl, 0, none⟩) l.length cl) (.slice (some ⟨bp, 0, none⟩) zs.length cp) l zs g10 g11 #[.int .i64 op, .int .i64 xa, .int .i64 xb, .int .i64 xc, .int .i64 xz] #[.string nm, .int .i64 has, .int .i64 take, .int .i64 put, .bool ends] out W → W.cell? ⟨bp, k, none⟩ = some (.int .i64 at_)) := Lib.hid fun W out h => by
          obtain ⟨b2, h2, _, h3⟩ := z_at h.s.po hpz
          injection h2 with h2
          injection h2 with h2
          subst h2
          exact h3
        have HST : Hid (∀ W out s, PrB w gb (.slice (some ⟨bl, 0, none⟩) l.length cl) (.slice (some ⟨bp, 0, none⟩) zs.length cp) l zs g10 g11 #[.int .i64 op, .int .i64 xa, .int .i64 xb, .int .i64 xc, .int .i64 xz] #[.string nm, .int .i64 has, .int .i64 take, .int .i64 put, .bool ends] out W → out.length + s.size ≤ 100000000 → Calls Tryd.prog 18 #[.pointer (some ⟨gb, 0, none⟩), .string s] W fun e w' => e = .returned (.tuple #[.int .i64 s.size, .nilIface]) ∧ PrB w gb (.slice (some ⟨bl, 0, none⟩) l.length cl) (.slice (some ⟨bp, 0, none⟩) zs.length cp) l zs g10 g11 #[.int .i64 op, .int .i64 xa, .int .i64 xb, .int .i64 xc, .int .i64 xz] #[.string nm, .int .i64 has, .int .i64 take, .int .i64 put, .bool ends] (out ++ s.data.toList) w') := Lib.hid fun W out s h hs => h.str s hs
        have HSB : Hid (∀ W out, PrB w gb (.slice (some ⟨bl, 0, none⟩) l.length cl) (.slice (some ⟨bp, 0, none⟩) zs.length cp) l zs g10 g11 #[.int .i64 op, .int .i64 xa, .int .i64 xb, .int .i64 xc, .int .i64 xz] #[.string nm, .int .i64 has, .int .i64 take, .int .i64 put, .bool ends] out W → out.length ≤ 100000000 → Calls Tryd.prog 22 #[.pointer (some ⟨gb, 0, none⟩), .int .u8 10] W fun e w' => e = .returned .nilIface ∧ PrB w gb (.slice (some ⟨bl, 0, none⟩) l.length cl) (.slice (some ⟨bp, 0, none⟩) zs.length cp) l zs g10 g11 #[.int .i64 op, .int .i64 xa, .int .i64 xb, .int .i64 xc, .int .i64 xz] #[.string nm, .int .i64 has, .int .i64 take, .int .i64 put, .bool ends] (out ++ [10]) w') := Lib.hid fun W out h hs => h.byte 10 hs
        have HITa := Lib.hid (HIT.out at_ _ (by omega) (by omega) HPB.out.s.bel.drew)
        have hsa : (txt (Lib.itoa at_)).size ≤ 11 := by rw [txt_size]; exact itoa_le (by omega) (by omega)
        have hns := HNS.out
        have q0 : w6.cell? ⟨g11, 0, none⟩ = some (.string nm) := HPB.out.b11.cell 0
        have hdat := headB_data (Lib.itoa at_) nm
        have HDAT := Lib.hid hdat
        clear hdat hpz
        generalize hs0 : txt (Lib.itoa at_) = s0 at *
        have b3 : ¬ 9223372036854775807 < s0.size + 1 := by omega
        have b4 : ¬ 9223372036854775807 < s0.size + 1 + nm.size := by omega
        go_region_held3 (fun W => W.cell? ⟨bp, k, none⟩ = some (.int .i64 at_) ∧ W.cell? ⟨g11, 0, none⟩ = some (.string nm))
          (first | go_keep | exact ⟨HZA.out _ _ HPC.out, HPC.out.b11.cell 0⟩ | exact ⟨HZA.out _ _ HPD.out, HPD.out.b11.cell 0⟩)
          ((first
            | (go_at_call 19; ((with_reducible refine HITa.out.mono ?_); rintro e w7 ⟨rfl, hb7⟩; have HPC := Lib.hid (HPB.out.pure (((Below.refl _ w6).drew).trans hb7)); clear hb7))
            | (go_at_call 18; ((with_reducible refine (HST.out _ _ _ HPC.out (by rw [headB_size]; have := HOB.out; omega)).mono ?_); rintro e w8 ⟨rfl, hp8⟩; have HPD := Lib.hid hp8; clear hp8))))
        have HPE : Hid (PrB w gb (.slice (some ⟨bl, 0, none⟩) l.length cl) (.slice (some ⟨bp, 0, none⟩) zs.length cp) l zs g10 g11 #[.int .i64 op, .int .i64 xa, .int .i64 xb, .int .i64 xc, .int .i64 xz] #[.string nm, .int .i64 has, .int .i64 take, .int .i64 put, .bool ends] (out ++ (Lib.itoa at_ ++ 32 :: nm.data.toList) ++ opl 0) w8) := Lib.hid (by
          have h := HPD.out
          rw [HDAT.out] at h
          rw [HOP0.out, List.append_nil]
          exact h)
        obtain ⟨o1, ho1⟩ : ∃ o1, out ++ (Lib.itoa at_ ++ 32 :: nm.data.toList) = o1 := ⟨_, rfl⟩
        have ho1l : o1.length ≤ 200 * k + 30 := by
          have h1 := itoa_le (z := at_) (by omega) (by omega)
          have h2 : nm.data.toList.length = nm.size := Array.length_toList
          have h3 := HOB.out
          rw [← ho1]
          simp only [List.length_append, List.length_cons]
          omega
        rw [ho1] at HPE
        have HO1 := Lib.hid ho1
        clear ho1 HPD HPC HPB HITa q0 p0 b3 b4 HDAT hs0 hsa hns
        have r1 : w8.cell? ⟨g10, 1, none⟩ = some (.int .i64 xa) := HPE.out.b10.cell 1
        have r2 : w8.cell? ⟨g10, 2, none⟩ = some (.int .i64 xb) := HPE.out.b10.cell 2
        have r3 : w8.cell? ⟨g10, 3, none⟩ = some (.int .i64 xc) := HPE.out.b10.cell 3
        go_upto_block 2 with fail
        clear r1 r2 r3
        go_cut [] (fun wx => ∃ w9, w9 = wx ∧ PrB w gb (.slice (some ⟨bl, 0, none⟩) l.length cl) (.slice (some ⟨bp, 0, none⟩) zs.length cp) l zs g10 g11 #[.int .i64 op, .int .i64 xa, .int .i64 xb, .int .i64 xc, .int .i64 xz] #[.string nm, .int .i64 has, .int .i64 take, .int .i64 put, .bool ends] (o1 ++ opl 3) w9)
        case first =>
          as_aux_lemma =>
          go_wp2
          go_loopw [55] (fun i wx => ∃ j : Nat, j ≤ 3 ∧ i = .int .i64 (j : Int) ∧ PrB w gb (.slice (some ⟨bl, 0, none⟩) l.length cl) (.slice (some ⟨bp, 0, none⟩) zs.length cp) l zs g10 g11 #[.int .i64 op, .int .i64 xa, .int .i64 xb, .int .i64 xc, .int .i64 xz] #[.string nm, .int .i64 has, .int .i64 take, .int .i64 put, .bool ends] (o1 ++ opl j) wx) (fun i _ => 3 - (intOf i).toNat)
          case atStart => exact ⟨0, by omega, rfl, HPE.out⟩
          case round =>
            obtain ⟨j, hj3, rfl, hPJ⟩ := hrel
            have HPJ := Lib.hid hPJ
            have e1 : wr.cell? ⟨g11, 1, none⟩ = some (.int .i64 has) := hPJ.b11.cell 1
            clear hPJ
            by_cases hj : j < 3
            · have hbd := HBD.out
              obtain ⟨⟨ba1, ba2⟩, ⟨bb1, bb2⟩, ⟨bc1, bc2⟩, _, _⟩ := hbd
              have hol := HOL.out j (by omega)
              have x0 := idx0
              have x1 := idx1
              have x2 := idx2
              have HPN := Lib.hid fun n => HPJ.out.pure (below_drewN (Below.refl wr.heap.size wr) n)
              have HPD := Lib.hid fun n w9 (hb : Below (wr.drewN n).heap.size (wr.drewN n) w9) => (HPN.out n).pure hb
              obtain rfl | rfl | rfl : j = 0 ∨ j = 1 ∨ j = 2 := by omega
              · simp only [show ((0 : Nat) : Int) = 0 from rfl]
                have HV := Lib.hid fun n => HIT.out xa (wr.drewN n) (by omega) (by omega) (below_drewN HPJ.out.s.bel n)
                have hvs : (txt (Lib.itoa xa)).size ≤ 11 := by rw [txt_size]; exact itoa_le (by omega) (by omega)
                have HVD := Lib.hid (sp_data (Lib.itoa xa))
                have HSJ : Hid (opl 1 = opl 0 ++ (if has3 has 0 then 32 :: Lib.itoa xa else [])) := Lib.hid (HOP.out 0)
                generalize txt (Lib.itoa xa) = sv at *
                have b5 : ¬ 9223372036854775807 < 1 + sv.size := by omega
                obtain rfl | rfl | rfl | rfl | rfl := HOK.out
                all_goals go_wp2
                all_goals go_quiet (fail)
                all_goals go_wp2_with (first
                  | (go_at_call 19; (refine (HV.out _).mono ?_); rintro e w9 ⟨rfl, hb9⟩; have HPK := Lib.hid (HPD.out _ _ hb9); clear hb9)
                  | (go_at_call 18; (refine (HST.out _ _ _ HPK.out (by rw [sp_size]; simp; omega)).mono ?_); rintro e wa ⟨rfl, hpa⟩; have HPL := Lib.hid hpa; clear hpa))
                all_goals go_roundw
                all_goals first | (case rel => exact ⟨1, by omega, rfl, by first | (rw [HSJ.out, if_pos (by decide), ← List.append_assoc]; have := HPL.out; rw [HVD.out] at this; exact this) | (rw [HSJ.out, if_neg (by decide), List.append_nil]; exact HPN.out _)⟩) | skip
                all_goals decide
              · simp only [show ((1 : Nat) : Int) = 1 from rfl]
                have HV := Lib.hid fun n => HIT.out xb (wr.drewN n) (by omega) (by omega) (below_drewN HPJ.out.s.bel n)
                have hvs : (txt (Lib.itoa xb)).size ≤ 11 := by rw [txt_size]; exact itoa_le (by omega) (by omega)
                have HVD := Lib.hid (sp_data (Lib.itoa xb))
                have HSJ : Hid (opl 2 = opl 1 ++ (if has3 has 1 then 32 :: Lib.itoa xb else [])) := Lib.hid (HOP.out 1)
                generalize txt (Lib.itoa xb) = sv at *
                have b5 : ¬ 9223372036854775807 < 1 + sv.size := by omega
                obtain rfl | rfl | rfl | rfl | rfl := HOK.out
                all_goals go_wp2
                all_goals go_quiet (fail)
                all_goals go_wp2_with (first
                  | (go_at_call 19; (refine (HV.out _).mono ?_); rintro e w9 ⟨rfl, hb9⟩; have HPK := Lib.hid (HPD.out _ _ hb9); clear hb9)
                  | (go_at_call 18; (refine (HST.out _ _ _ HPK.out (by rw [sp_size]; simp; omega)).mono ?_); rintro e wa ⟨rfl, hpa⟩; have HPL := Lib.hid hpa; clear hpa))
                all_goals go_roundw
                all_goals first | (case rel => exact ⟨2, by omega, rfl, by first | (rw [HSJ.out, if_pos (by decide), ← List.append_assoc]; have := HPL.out; rw [HVD.out] at this; exact this) | (rw [HSJ.out, if_neg (by decide), List.append_nil]; exact HPN.out _)⟩) | skip
                all_goals decide
              · simp only [show ((2 : Nat) : Int) = 2 from rfl]
                have HV := Lib.hid fun n => HIT.out xc (wr.drewN n) (by omega) (by omega) (below_drewN HPJ.out.s.bel n)
                have hvs : (txt (Lib.itoa xc)).size ≤ 11 := by rw [txt_size]; exact itoa_le (by omega) (by omega)
                have HVD := Lib.hid (sp_data (Lib.itoa xc))
                have HSJ : Hid (opl 3 = opl 2 ++ (if has3 has 2 then 32 :: Lib.itoa xc else [])) := Lib.hid (HOP.out 2)
                generalize txt (Lib.itoa xc) = sv at *
                have b5 : ¬ 9223372036854775807 < 1 + sv.size := by omega
                obtain rfl | rfl | rfl | rfl | rfl := HOK.out
                all_goals go_wp2
                all_goals go_quiet (fail)
                all_goals go_wp2_with (first
                  | (go_at_call 19; (refine (HV.out _).mono ?_); rintro e w9 ⟨rfl, hb9⟩; have HPK := Lib.hid (HPD.out _ _ hb9); clear hb9)
                  | (go_at_call 18; (refine (HST.out _ _ _ HPK.out (by rw [sp_size]; simp; omega)).mono ?_); rintro e wa ⟨rfl, hpa⟩; have HPL := Lib.hid hpa; clear hpa))
                all_goals go_roundw
                all_goals first | (case rel => exact ⟨3, by omega, rfl, by first | (rw [HSJ.out, if_pos (by decide), ← List.append_assoc]; have := HPL.out; rw [HVD.out] at this; exact this) | (rw [HSJ.out, if_neg (by decide), List.append_nil]; exact HPN.out _)⟩) | skip
                all_goals decide
            · obtain rfl : j = 3 := by omega
              go_wp2
              go_meet
              exact ⟨_, rfl, HPJ.out⟩
        case rest =>
          obtain ⟨w9, rfl, hP9⟩ := hcut
          have hol3 := HOL.out 3 (by omega)
          have hbd := HBD.out
          obtain ⟨_, _, _, bz1, bz2⟩ := hbd
          obtain ⟨o2, ho2⟩ : ∃ o2, o1 ++ opl 3 = o2 := ⟨_, rfl⟩
          have ho2l : o2.length ≤ 200 * k + 70 := by rw [← ho2, List.length_append]; omega
          rw [ho2] at hP9
          have HP9 := Lib.hid hP9
          have HO2 := Lib.hid ho2
          have y0 : w9.cell? ⟨g10, 0, none⟩ = some (.int .i64 op) := hP9.b10.cell 0
          have HKP : Hid (∀ W out, PrB w gb (.slice (some ⟨bl, 0, none⟩) l.length cl) (.slice (some ⟨bp, 0, none⟩) zs.length cp) l zs g10 g11 #[.int .i64 op, .int .i64 xa, .int .i64 xb, .int .i64 xc, .int .i64 xz] #[.string nm, .int .i64 has, .int .i64 take, .int .i64 put, .bool ends] out W → W.cell? ⟨bp, k, none⟩ = some (.int .i64 at_) ∧ W.cell? ⟨g10, 4, none⟩ = some (.int .i64 xz) ∧ W.cell? ⟨g11, 0, none⟩ = some (.string nm) ∧ W.cell? ⟨g11, 1, none⟩ = some (.int .i64 has) ∧ W.cell? ⟨g11, 2, none⟩ = some (.int .i64 take) ∧ W.cell? ⟨g11, 3, none⟩ = some (.int .i64 put) ∧ W.cell? ⟨g11, 4, none⟩ = some (.bool ends)) := Lib.hid fun W out h => ⟨HZA.out W out h, h.b10.cell 4, h.b11.cell 0, h.b11.cell 1, h.b11.cell 2, h.b11.cell 3, h.b11.cell 4⟩
          clear hP9 ho2 HPE HOL HOP HOP0 ho1l hol3
          go_upto_block 4 with fail
          go_cut [] (fun wx => ∃ wd, wd = wx ∧ PrB w gb (.slice (some ⟨bl, 0, none⟩) l.length cl) (.slice (some ⟨bp, 0, none⟩) zs.length cp) l zs g10 g11 #[.int .i64 op, .int .i64 xa, .int .i64 xb, .int .i64 xc, .int .i64 xz] #[.string nm, .int .i64 has, .int .i64 take, .int .i64 put, .bool ends] (o2 ++ tl) wd)
          case first =>
            as_aux_lemma =>
            cases hj : jmpO op with
            | true =>
              rw [hj] at H20
              have HTL := Lib.hid (HTJ.out hj)
              have hw1 : IntKind.i64.wrap (at_ + sz) = at_ + sz := by rw [IntKind.wrap_i64]; omega
              have hw2 : IntKind.i64.wrap (at_ + sz + xz) = at_ + sz + xz := by rw [IntKind.wrap_i64]; omega
              obtain ⟨k0, k1, k2, k3, k4, k5, k6⟩ := HKP.out _ _ HP9.out
              have HIG := Lib.hid fun W => HIT.out (at_ + sz + xz) W (by omega) (by omega)
              have hgs : (txt (Lib.itoa (at_ + sz + xz))).size ≤ 11 := by rw [txt_size]; exact itoa_le (by omega) (by omega)
              have HGD := Lib.hid (arrow_data (Lib.itoa (at_ + sz + xz)))
              generalize txt (Lib.itoa (at_ + sz + xz)) = sv at *
              have b5 : ¬ 9223372036854775807 < 3 + sv.size := by omega
              clear hj
              go_upto_region 17 with (go_at_call 20; refine (H20.out _).mono ?_; rintro e wa ⟨rfl, rfl⟩)
              go_region_held3 (fun W => W.cell? ⟨bp, k, none⟩ = some (.int .i64 at_) ∧ W.cell? ⟨g10, 4, none⟩ = some (.int .i64 xz) ∧ W.cell? ⟨g11, 0, none⟩ = some (.string nm) ∧ W.cell? ⟨g11, 1, none⟩ = some (.int .i64 has) ∧ W.cell? ⟨g11, 2, none⟩ = some (.int .i64 take) ∧ W.cell? ⟨g11, 3, none⟩ = some (.int .i64 put) ∧ W.cell? ⟨g11, 4, none⟩ = some (.bool ends))
                (first | go_keep | exact HKP.out _ _ HPa.out | exact HKP.out _ _ HPb.out | exact HKP.out _ _ HPc.out)
                ((first
                  | (go_at_call 21; ((with_reducible refine (H21.out _).mono ?_); rintro e wa ⟨rfl, hba⟩; have HPa := Lib.hid (HP9.out.pure (((Below.refl _ w9).drew).trans hba)); clear hba))
                  | (go_at_call 19; ((with_reducible refine (HIG.out _ HPa.out.s.bel).mono ?_); rintro e wb ⟨rfl, hbb⟩; have HPb := Lib.hid (HPa.out.pure hbb); clear hbb))
                  | (go_at_call 18; ((with_reducible refine (HST.out _ _ _ HPb.out (by rw [arrow_size]; omega)).mono ?_); rintro e wc ⟨rfl, hpc⟩; have HPc := Lib.hid hpc; clear hpc))))
              go_wp2
              go_meet
              exact ⟨_, rfl, by rw [HTL.out]; have := HPc.out; rw [HGD.out] at this; exact this⟩
            | false =>
              rw [hj] at H20
              have HTL := Lib.hid (HTN.out hj)
              obtain ⟨k0, k1, k2, k3, k4, k5, k6⟩ := HKP.out _ _ HP9.out
              have HIG := Lib.hid fun W => HIT.out xz W (by omega) (by omega)
              have hgs : (txt (Lib.itoa xz)).size ≤ 11 := by rw [txt_size]; exact itoa_le (by omega) (by omega)
              have HGD := Lib.hid (sp_data (Lib.itoa xz))
              generalize txt (Lib.itoa xz) = sv at *
              have b5 : ¬ 9223372036854775807 < 1 + sv.size := by omega
              clear hj k0 k2 k4 k5 k6
              obtain rfl | rfl | rfl | rfl | rfl := HOK.out
              all_goals go_wp2_with (first
                | (go_at_call 20; refine (H20.out _).mono ?_; rintro e wa ⟨rfl, rfl⟩)
                | (go_at_call 19; refine (HIG.out _ HP9.out.s.bel).mono ?_; rintro e wb ⟨rfl, hbb⟩; have HPb := Lib.hid (HP9.out.pure hbb); clear hbb)
                | (go_at_call 18; refine (HST.out _ _ _ HPb.out (by rw [sp_size]; omega)).mono ?_; rintro e wc ⟨rfl, hpc⟩; have HPc := Lib.hid hpc; clear hpc))
              all_goals go_meet
              all_goals first
                | exact ⟨_, rfl, by rw [HTL.out, if_neg (by decide), List.append_nil]; exact HP9.out⟩
                | exact ⟨_, rfl, by rw [HTL.out, if_pos (by decide)]; have := HPc.out; rw [HGD.out] at this; exact this⟩
          case rest =>
            obtain ⟨wd, rfl, hPd⟩ := hcut
            have HPd := Lib.hid hPd
            have htl : (o2 ++ tl).length ≤ 200 * (k + 1) := by
              have h1 := HLE.out
              rw [HLN.out] at h1
              have h2 := HO1.out
              have h3 := HO2.out
              simp only [List.length_append, List.length_cons, List.length_nil] at h1 ⊢
              rw [← h3, ← h2]
              simp only [List.length_append, List.length_cons]
              omega
            clear hPd
            go_wp2_with (go_at_call 22; refine (HSB.out _ _ HPd.out (by omega)).mono ?_; rintro e we ⟨rfl, hpe⟩; have HPe := Lib.hid hpe; clear hpe)
            go_roundw
            case rel => exact ⟨k + 1, by omega, by go_num, by
              rw [HRS.out _ rfl, HLN.out]
              have h := HPe.out.s
              rw [← HO2.out, ← HO1.out] at h
              simpa [List.append_assoc] using h, by rw [HRS.out _ rfl]; exact HLE.out⟩
            case measure => simp [intOf]; omega
      · obtain rfl : k = l.length := by omega
        go_wp2
        go_meet
        exact ⟨_, rfl, by have := HP.out; rw [HEND.out] at this; exact this⟩
  case rest =>
    obtain ⟨w3, rfl, hP⟩ := hcut
    have HP := Lib.hid hP
    clear hP HP2 HEND HTX HPX HZ
    have HS := Lib.hid (Tryd.Builder_String_any_k w.heap.size gb (textF l 0) w3 HP.out.bld HP.out.bel.size)
    go_wp2_with (go_at_call 23; refine HS.out.mono ?_; rintro e w4 ⟨rfl, _, hb4, _⟩; have HB4 := Lib.hid (HP.out.bel.trans hb4); clear hb4)
    go_ret2
    exact ⟨rfl, HB4.out⟩
end Go.Proofs.YtaeegkljldngmaaDoor
