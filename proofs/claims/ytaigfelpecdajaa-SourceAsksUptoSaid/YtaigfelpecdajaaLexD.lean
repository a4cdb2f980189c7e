/-
  The walk of decimal: a number's decimal text.
-/
import Derived.Test.YtaigfelpecdajaaLexC
import Derived.Test.YtaigfelpecdajaaLxN
import Derived.Deep.CutBlock
import Derived.Deep.DeepCutAuto
namespace Go.Proofs.Ytaigfelpecdajaa
open Go.RowKit

def decV (r : Option (List UInt8)) : Value := match r with
  | none => .tuple #[.string ⟨#[]⟩, .bool false]
  | some t => .tuple #[.string ⟨t.toArray⟩, .bool true]
theorem decV_none {r : Option (List UInt8)} (h : r = none) : Ending.returned (.tuple #[.string ⟨#[]⟩, .bool false]) = .returned (decV r) := by rw [h]; rfl
theorem decV_some {r : Option (List UInt8)} {t : List UInt8} (h : r = some t) : Ending.returned (.tuple #[.string ⟨t.toArray⟩, .bool true]) = .returned (decV r) := by rw [h]; rfl
/-- a row of digits of the call's own -/
abbrev OwnG (w : World) (base : Nat) (v : Value) (m : List Nat) : Prop := OwnB 5 w base v (Lx.dgB m)
set_option maxRecDepth 20000 in
set_option maxHeartbeats 2000000 in
theorem decimal_bad (base : Nat) (d : ByteArray) (w : World) (h : base < 2 ∨ 36 < base ∨ 1000 < d.size) (hb : base ≤ 1000) (hd : d.size ≤ 65536) :
    Calls Try.prog 61 #[.int .i64 (base : Int), .string d] w fun e w' => e = .returned (decV (Lx.decF base d.data.toList)) ∧ w = w' := by
  have HE := Lib.hid (decV_none (Lx.decF_bad (base := base) (l := d.data.toList) (by simpa using h)))
  by_cases h1 : base < 2
  · have h2 : (base : Int) < 2 := by omega
    clear h
    go_enter Try.func61, Try.ntmps61
    go_wp2
    go_ret2
    exact ⟨HE.out, rfl⟩
  · have h2 : ¬ (base : Int) < 2 := by omega
    by_cases h3 : 36 < base
    · have h4 : (36 : Int) < (base : Int) := by omega
      clear h
      go_enter Try.func61, Try.ntmps61
      go_wp2
      go_ret2
      exact ⟨HE.out, rfl⟩
    · have h4 : ¬ (36 : Int) < (base : Int) := by omega
      have h5 : 1000 < d.size := by omega
      clear h
      go_enter Try.func61, Try.ntmps61
      go_wp2
      go_ret2
      exact ⟨HE.out, rfl⟩
theorem reads_bytes (w : World) (d : ByteArray) : RdB (Lib.bytesWorld w 5 d) (w.heap.size + 1) (some ⟨w.heap.size, 0, none⟩) d.size d.data.toList := by
  refine ⟨by simp, fun _ => ⟨_, rfl, by simp, fun j u hu => ?_⟩⟩
  have e : (⟨w.heap.size, 0, none⟩ : Addr).add j = ⟨w.heap.size, j, none⟩ := by unfold Addr.add; split <;> simp_all
  have hj : j < d.size := by
    rcases Nat.lt_or_ge j d.size with h | h
    · exact h
    · rw [List.getElem?_eq_none (by simp; exact h)] at hu; cases hu
  rw [e, Lib.bytesWorld_cell w 5 d j hj]
  rw [List.getElem?_map, get_in hj] at hu
  rw [← hu, List.getD, get_in hj]
  rfl
/-- the row of a text's bytes, which the conversion has marked -/
def DR (w : World) (b : Nat) (l : List UInt8) : Prop := ∃ C f, w.heap[b]? = some (.cells C 5 (f, f + 1)) ∧ ∀ (j : Nat) (x : UInt8), l[j]? = some x → C[j]? = some (bv x)
section
variable {w w1 : World} {b : Nat} {l : List UInt8}
theorem DR.new (w : World) (d : ByteArray) : DR (Lib.bytesWorld w 5 d) w.heap.size d.data.toList := by
  refine ⟨_, _, Lib.bytesWorld_at_new w 5 d, fun j x hx => ?_⟩
  have hj : j < d.size := by
    rcases Nat.lt_or_ge j d.size with h | h
    · exact h
    · rw [get_out (by omega)] at hx; cases hx
  have h := (reads_bytes w d).2 (by omega)
  obtain ⟨ad, e, _, hc⟩ := h
  injection e with e
  subst e
  have h2 := hc j (bv x) (by rw [List.getElem?_map, hx]; rfl)
  have e : (⟨w.heap.size, 0, none⟩ : Addr).add j = ⟨w.heap.size, j, none⟩ := by unfold Addr.add; split <;> simp_all
  rw [e, cell_of_row _ _ j _ 5 _ (Lib.bytesWorld_at_new w 5 d)] at h2
  exact h2
theorem DR.cell (h : DR w b l) {j : Nat} {x : UInt8} (hx : l[j]? = some x) : w.cell? ⟨b, j, none⟩ = some (.int .u8 (x.toNat : Int)) := by
  obtain ⟨C, f, hC, hc⟩ := h
  rw [cell_of_row _ _ j _ 5 _ hC]
  exact hc j x hx
theorem DR.lt (h : DR w b l) : b < w.heap.size := by
  obtain ⟨C, f, hC, hc⟩ := h
  rcases Nat.lt_or_ge b w.heap.size with hlt | hge
  · exact hlt
  · rw [Array.getElem?_eq_none hge] at hC; cases hC
theorem DR.ne_ (h : DR w b l) {base : Nat} {v : Value} {bs : List UInt8} (ho : OwnB 5 w base v bs) : v.ownBlock ≠ some b := by
  obtain ⟨C, f, hC, hc⟩ := h
  rcases ho.2 with ⟨rfl, _⟩ | ⟨g', cap, cur, rfl, _, hh, _⟩
  · simp [Value.ownBlock]
  · intro he
    have : g' = b := by simpa [Value.ownBlock] using he
    subst this
    rw [hh] at hC
    injection hC with hC
    injection hC with _ _ hf
    injection hf with h1 h2
    omega
theorem DR.of_block (h : DR w b l) (hb : w1.heap[b]? = w.heap[b]?) : DR w1 b l := by
  obtain ⟨C, f, hC, hc⟩ := h
  exact ⟨C, f, hb.trans hC, hc⟩
theorem DR.alloc (h : DR w b l) (o : Obj) : DR (w.alloc o) b l := h.of_block (Below.heap_alloc w o b h.lt)
theorem DR.app (h : DR w b l) {v v1 : Value} (ha : App w v w1 v1) (hne : v.ownBlock ≠ some b) : DR w1 b l := h.of_block (ha.1.block b h.lt (fun e => hne e.symm))
theorem DR.set_ (h : DR w b l) {g : Nat} (hne : g ≠ b) (i : Nat) (u : Value) : DR (w.setCell ⟨g, i, none⟩ u) b l := h.of_block (Below.heap_setCell w ⟨g, i, none⟩ u b (fun e => hne e.symm))
end
theorem ofNat_val {d : Nat} (h : d < 256) : ((UInt8.ofNat d).toNat : Int) = (d : Int) := by rw [UInt8.toNat_ofNat']; omega
/-- a store of a digit into a row of digits -/
theorem OwnG.stored {w : World} {base g c L : Nat} {m : List Nat} (h : OwnG w base (.slice (some ⟨g, 0, none⟩) L c) m) (hL : m.length = L) (i d : Nat) (hd : d < 256) :
    OwnG (w.setCell ⟨g, i, none⟩ (.int .u8 (d : Int))) base (.slice (some ⟨g, 0, none⟩) L c) (m.set i d) := by
  subst hL
  have h0 : OwnB 5 w base (.slice (some ⟨g, 0, none⟩) (Lx.dgB m).length c) (Lx.dgB m) := by rw [Lx.dgB_len]; exact h
  have h1 := h0.stored i (UInt8.ofNat d)
  unfold bv at h1
  rw [ofNat_val hd, Lx.dgB_set, Lx.dgB_len, List.length_set] at h1
  exact h1
theorem OwnG.at_ {w : World} {base g c L : Nat} {m : List Nat} (h : OwnG w base (.slice (some ⟨g, 0, none⟩) L c) m) (hL : m.length = L) {i y : Nat} (hy : m[i]? = some y) (h10 : y < 10) :
    w.cell? ⟨g, i, none⟩ = some (.int .u8 (y : Int)) ∧ w.frozen? ⟨g, i, none⟩ = false := by
  subst hL
  have h0 : OwnB 5 w base (.slice (some ⟨g, 0, none⟩) (Lx.dgB m).length c) (Lx.dgB m) := by rw [Lx.dgB_len]; exact h
  have hi : i < m.length := by
    rcases Nat.lt_or_ge i m.length with h | h
    · exact h
    · rw [List.getElem?_eq_none h] at hy; cases hy
  obtain ⟨c1, f1⟩ := h0.at_ (i := i) (by rw [Lx.dgB_len]; exact hi)
  have e : ((Lx.dgB m).getD i 0) = UInt8.ofNat y := by
    rw [List.getD, Lx.dgB, List.getElem?_map, hy]; rfl
  rw [e, ofNat_val (by omega)] at c1
  exact ⟨c1, f1⟩
theorem OwnG.own_ne {w : World} {base g c L b : Nat} {m : List Nat} {l : List UInt8} (h : OwnG w base (.slice (some ⟨g, 0, none⟩) L c) m) (hd : DR w b l) : g ≠ b := by
  have := hd.ne_ h
  simpa [Value.ownBlock] using this
theorem drop_get {m : List Nat} {j : Nat} (h : j < m.length) : m.drop j = m[j] :: m.drop (j + 1) := List.drop_eq_getElem_cons h
theorem mid_get {done t : List Nat} {y : Nat} : (done ++ y :: t)[done.length]? = some y := by simp
theorem mid_set {done t : List Nat} {y d : Nat} : (done ++ y :: t).set done.length d = (done ++ [d]) ++ t := by simp
/-- one digit's round -/
theorem grow_round {wx : World} {B g cp L base c y : Nat} {done t r : List Nat} (h : OwnG wx B (.slice (some ⟨g, 0, none⟩) L cp) (done ++ y :: t)) (hL : (done ++ y :: t).length = L)
    (hr : done ++ Lx.growF base (y :: t) c = r) (hd : Lx.Dg done) (hy : y < 10) (hc : c < base) :
    OwnG (wx.setCell ⟨g, done.length, none⟩ (.int .u8 (((c : Int) + (base : Int) * (y : Int)) % 10))) B (.slice (some ⟨g, 0, none⟩) L cp) ((done ++ [(y * base + c) % 10]) ++ t) ∧
      (done ++ [(y * base + c) % 10]) ++ Lx.growF base t ((y * base + c) / 10) = r ∧ Lx.Dg (done ++ [(y * base + c) % 10]) ∧ (y * base + c) / 10 < base := by
  have h1 := OwnG.stored h hL done.length ((y * base + c) % 10) (by omega)
  rw [mid_set] at h1
  have e : (((y * base + c) % 10 : Nat) : Int) = ((c : Int) + (base : Int) * (y : Int)) % 10 := by
    rw [Int.natCast_emod, Int.natCast_add, Int.natCast_mul, Int.add_comm, Int.mul_comm]; rfl
  rw [e] at h1
  refine ⟨h1, by rw [← hr]; simp [Lx.growF], fun x hx => ?_, Lx.carry_lt hy hc⟩
  rcases List.mem_append.1 hx with hx | hx
  · exact hd x hx
  · simp at hx; omega
set_option maxRecDepth 20000 in
set_option maxHeartbeats 4000000 in
theorem decimal_good (base : Nat) (d : ByteArray) (w : World) (h2 : 2 ≤ base) (h36 : base ≤ 36) (hd : d.size ≤ 1000) (hf : ∀ x ∈ d.data.toList, Lx.figB x = true) :
    Calls Try.prog 61 #[.int .i64 (base : Int), .string d] w fun e w' => e = .returned (decV (Lx.decF base d.data.toList)) ∧ Below w.heap.size w w' := by
  have HF := Lib.hid hf
  have hcv := fun (w : World) => Lib.run_convert_string_bytes (P := Try.prog) w 9 47 5 d Try.underlying9 Try.underlying47 Try.underlying5
  clear hf
  go_enter Try.func61, Try.ntmps61
  go_wp2
  clear hcv
  go_loopw [6, 28] (fun v i wr => ∃ (k : Nat) (n : List Nat), k ≤ d.size ∧ i = .int .i64 k ∧ OwnG wr w.heap.size v (Lx.fixN n) ∧ Lx.Dg n ∧ n.length ≤ 2 * k ∧ Lx.decN base [] d.data.toList = Lx.decN base n (d.data.toList.drop k) ∧
    Below w.heap.size w wr ∧ DR wr (w.heap.size + 1) d.data.toList) (fun _ i _ => d.size - (intOf i).toNat)
  case atStart =>
    have h1 : OwnB 5 (w.alloc (.cells #[.int .u8 0] 5)) w.heap.size (.slice (some ⟨w.heap.size, 0, none⟩) 1 1) [0] := OwnB.built 5 w w.heap.size _ [0] (Nat.le_refl _) (by simp) rfl
    have hsz : (w.alloc (.cells #[.int .u8 0] 5)).heap.size = w.heap.size + 1 := by simp
    have h2 := DR.new (w.alloc (.cells #[.int .u8 0] 5)) d
    rw [hsz] at h2
    have hb := (Joins.below_bytesWorld (w.alloc (.cells #[.int .u8 0] 5)).heap.size (w.alloc (.cells #[.int .u8 0] 5)) 5 d (Nat.le_refl _))
    refine ⟨0, [], Nat.zero_le _, rfl, ?_, (fun x hx => by cases hx), Nat.le_refl _, rfl, ?_, h2⟩
    · exact World.ownsRow.kept h1 (only_of_below hb none) (by simp [Value.ownBlock])
    · exact ((Below.refl _ _).alloc (Nat.le_refl _) _).trans (hb.mono (by rw [hsz]; omega))
  case round =>
    obtain ⟨k, n, hk, rfl, hown, hdg, hn, hdec, hb, hdr⟩ := hrel
    have HO := Lib.hid hown
    have HDG := Lib.hid hdg
    have HDEC := Lib.hid hdec
    have HB := Lib.hid hb
    have HDR := Lib.hid hdr
    have HN := Lib.hid hn
    clear hown hdg hdec hb hdr hn
    by_cases hlt : k < d.size
    · have hx := get_in hlt
      generalize d[k]'hlt = x at hx
      have hx48 := Lx.figB_ge (HF.out x (List.mem_of_getElem? hx))
      have hx256 := x.toNat_lt
      have hcell := HDR.out.cell hx
      have HX := Lib.hid hx
      clear hx
      go_upto_if 36 with (go_at_call 60; refine (cap_any x _).mono ?_; rintro e w' ⟨rfl, rfl⟩)
      go_cut [9] (fun s9 wx => s9 = .int .i64 (Lx.valF x) ∧ wr = wx)
      case first =>
        by_cases hc : Lx.capB x = true
        · obtain ⟨e1, e2, e3⟩ := Lx.valF_cap hc
          have HV := Lib.hid e1
          rw [hc]
          clear e1 hc
          go_wp2
          go_meet
          exact ⟨by rw [HV.out, show ((x.toNat - 55 : Nat) : Int) = (x.toNat : Int) - 65 + 10 from by omega], rfl⟩
        · have hc' : Lx.capB x = false := by simpa using hc
          have HV := Lib.hid (Lx.valF_dig hc')
          rw [hc']
          clear hc hc'
          go_wp2
          go_meet
          exact ⟨by rw [HV.out, show ((x.toNat - 48 : Nat) : Int) = (x.toNat : Int) - 48 from by omega], rfl⟩
      case rest =>
      obtain ⟨rfl, rfl⟩ := hcut
      clear hcell
      by_cases hv : Lx.valF x < base
      · have HG := Lib.hid ((Lx.decN_some HX.out hv).symm.trans HDEC.out.symm)
        have hm0 := Lx.fixN_pos n
        have hfg := Lx.grow_fix (base := base) (d := Lx.valF x) n (by omega)
        have HFG := Lib.hid hfg
        have HDF := Lib.hid (Lx.fixN_dg HDG.out)
        have HLN : Hid ((Lx.fixN n).length ≤ 2 * k + 1) := Lib.hid (by have := HN.out; unfold Lx.fixN; split <;> simp; omega)
        obtain ⟨m, hm⟩ : ∃ m, m = Lx.fixN n := ⟨_, rfl⟩
        obtain ⟨c0, hc0⟩ : ∃ c0, c0 = Lx.valF x := ⟨_, rfl⟩
        rw [← hm] at HO HDF HFG HLN hm0
        rw [← hc0] at HG HFG hv ⊢
        clear hfg hm hc0
        obtain ⟨g, cp, rfl, _⟩ := World.ownsRow.form HO.out (by rw [Lx.dgB_len]; exact hm0)
        have HNE := HDR.out.ne_ HO.out
        have hgne : g ≠ w.heap.size + 1 := by simpa [Value.ownBlock] using HNE
        have hgb : w.heap.size ≤ g := own_base HO.out rfl
        rw [Lx.dgB_len] at HO ⊢
        have hl := HLN.out
        clear HNE
        obtain ⟨wo, rfl⟩ : ∃ wo : World, wo = wr := ⟨_, rfl⟩
        have HV := Lib.hid hv
        have hbi : (base : Int) ≤ 36 := by omega
        have hvi : (c0 : Int) < (base : Int) := by omega
        have d43 : decide (base ≤ c0) = false := by simp; omega
        clear hv
        go_wp2
        go_loopw [9, 46] (fun s9 s46 wx => ∃ (j c : Nat) (done : List Nat), j ≤ m.length ∧ s46 = .int .i64 j ∧ s9 = .int .i64 c ∧ c < base ∧ done.length = j ∧ Lx.Dg done ∧ done ++ Lx.growF base (m.drop j) c = Lx.growF base m c0 ∧
          OwnG wx w.heap.size (.slice (some ⟨g, 0, none⟩) m.length cp) (done ++ m.drop j) ∧ Below w.heap.size w wx ∧ DR wx (w.heap.size + 1) d.data.toList) (fun _ s46 _ => m.length - (intOf s46).toNat)
        case atStart => exact ⟨0, c0, [], Nat.zero_le _, rfl, rfl, HV.out, rfl, (fun x hx => by cases hx), rfl, HO.out, HB.out, HDR.out⟩
        case round =>
          obtain ⟨j, c, done, hj, rfl, rfl, hcb, hdl, hdd, hgr, hown, hb, hdr⟩ := hrel
          have HO2 := Lib.hid hown
          have HB2 := Lib.hid hb
          have HDR2 := Lib.hid hdr
          have HGR := Lib.hid hgr
          have HDD := Lib.hid hdd
          have HDL := Lib.hid hdl
          clear hown hb hdr hgr hdd hdl
          by_cases hjl : j < m.length
          · have hy10 : m[j] < 10 := HDF.out _ (List.getElem_mem hjl)
            have HDJ := Lib.hid (drop_get hjl)
            obtain ⟨y, hy⟩ : ∃ y, m[j] = y := ⟨_, rfl⟩
            have HY := Lib.hid hy
            clear hy
            rw [HY.out] at HDJ hy10
            rw [HDJ.out] at HO2 HGR
            have HLL : Hid ((done ++ y :: m.drop (j + 1)).length = m.length) := Lib.hid (by simp [HDL.out]; omega)
            obtain ⟨c1, f1⟩ := OwnG.at_ HO2.out HLL.out (i := j) (y := y) (by rw [← HDL.out]; exact mid_get) hy10
            have HR := Lib.hid (grow_round HO2.out HLL.out HGR.out HDD.out hy10 hcb)
            rw [HDL.out] at HR
            have p1 : (0 : Int) ≤ (base : Int) * (y : Int) := Int.mul_nonneg (by omega) (by omega)
            have p2 : (base : Int) * (y : Int) ≤ 36 * 9 := Int.mul_le_mul (by omega) (by omega) (by omega) (by omega)
            have HQ : Hid ((((y * base + c) / 10 : Nat) : Int) = ((c : Int) + (base : Int) * (y : Int)) / 10) := Lib.hid (by rw [Int.natCast_ediv, Int.natCast_add, Int.natCast_mul, Int.add_comm, Int.mul_comm]; rfl)
            go_wp2
            go_roundw
            case rel => exact ⟨j + 1, (y * base + c) / 10, done ++ [(y * base + c) % 10], hjl, by go_num, by rw [HQ.out], HR.out.2.2.2, by simp [HDL.out], HR.out.2.2.1, HR.out.2.1, HR.out.1, HB2.out.setCell hgb _, HDR2.out.set_ hgne j _⟩
            case measure => simp [intOf]; omega
          · obtain rfl : j = m.length := by omega
            have HO3 : Hid (OwnG wr w.heap.size (.slice (some ⟨g, 0, none⟩) m.length cp) done) := Lib.hid (by have := HO2.out; rwa [List.drop_length, List.append_nil] at this)
            have HG3 : Hid (done ++ Lx.co c = Lx.growF base m c0) := Lib.hid (by have := HGR.out; rwa [List.drop_length] at this)
            have HGL := Lib.hid (Lx.growF_len base m c0)
            have HDG3 := Lib.hid (Lx.growF_dg h36 m c0 HDF.out HV.out)
            clear HO2 HGR hj hjl
            obtain ⟨wi, rfl⟩ : ∃ wi : World, wi = wr := ⟨_, rfl⟩
            go_wp2
            go_loopw [6, 9] (fun v s9 wx => ∃ (c : Nat) (cur : List Nat), s9 = .int .i64 c ∧ c < 100 ∧ cur ++ Lx.co c = Lx.growF base m c0 ∧ OwnG wx w.heap.size v cur ∧ Below w.heap.size w wx ∧ DR wx (w.heap.size + 1) d.data.toList) (fun _ s9 _ => (intOf s9).toNat)
            case atStart => exact ⟨c, done, rfl, by omega, HG3.out, HO3.out, HB2.out, HDR2.out⟩
            case round =>
              obtain ⟨c1, cur, rfl, hc100, hg4, hown, hb, hdr⟩ := hrel
              have HO4 := Lib.hid hown
              have HB4 := Lib.hid hb
              have HDR4 := Lib.hid hdr
              have HG4 := Lib.hid hg4
              clear hown hb hdr hg4
              by_cases h0 : 0 < c1
              · have HCO := Lib.hid (Lx.co_step h0 hc100)
                have HCL : Hid (cur.length ≤ 2 * k + 3) := Lib.hid (by
                  have h1 := HGL.out
                  rw [← HG4.out, List.length_append] at h1
                  have := HLN.out
                  omega)
                have HRD : Hid (RdB (wr.alloc (.cells #[.int .u8 ((c1 : Int) % 10)] 5)) (wr.heap.size + 1) (some ⟨wr.heap.size, 0, none⟩) 1 [UInt8.ofNat (c1 % 10)]) := Lib.hid (by
                  have h1 := read_one8 wr (UInt8.ofNat (c1 % 10))
                  rw [ofNat_val (by omega), Int.natCast_emod] at h1
                  exact h1)
                have HLD : Hid ((Lx.dgB cur).length + 1 ≤ 140737488355328) := Lib.hid (by rw [Lx.dgB_len]; have := HCL.out; omega)
                go_wp2_with (at_builtin; refine wpList_app rfl (.tmp 68) (.tmp 72) 47 rfl w.heap.size 5 info5' Try.underlying47 _ (Lx.dgB cur) rfl (HO4.out.alloc _) _ _ _ _ [UInt8.ofNat (c1 % 10)] rfl HRD.out HLD.out (by have := HB4.out.size; simp; omega) ?_; intro v1 w1 hown1 happ1; have HO5 := Lib.hid hown1; have HA5 := Lib.hid happ1; clear hown1 happ1)
                go_roundw
                case rel => exact ⟨c1 / 10, cur ++ [c1 % 10], by rw [Int.natCast_ediv]; rfl, by omega, by rw [← HG4.out, HCO.out]; simp, by have h := HO5.out; rw [show Lx.dgB cur ++ [UInt8.ofNat (c1 % 10)] = Lx.dgB (cur ++ [c1 % 10]) from by simp [Lx.dgB]] at h; exact h, bapp HB4.out HO4.out HA5.out, (HDR4.out.alloc _).app HA5.out (HDR4.out.ne_ HO4.out)⟩
                case measure => simp [intOf]; omega
              · obtain rfl : c1 = 0 := by omega
                have HE2 : Hid (cur = Lx.fixN (Lx.growF base n c0)) := Lib.hid (by have := HG4.out; rw [Lx.co_zero, List.append_nil] at this; rw [this, HFG.out])
                go_wp2
                go_roundw
                case rel => exact ⟨k + 1, Lx.growF base n c0, by omega, by go_num, by rw [← HE2.out]; exact HO4.out, Lx.growF_dg h36 n c0 HDG.out HV.out, by have := Lx.growF_len base n c0; have := HN.out; omega, HG.out.symm, HB4.out, HDR4.out⟩
                case measure => simp [intOf]; omega
      · have HE := Lib.hid (decV_none (Lx.decF_none (HDEC.out.trans (Lx.decN_none HX.out hv))))
        have hvi : (base : Int) ≤ (Lx.valF x : Int) := by omega
        clear hv
        go_wp2
        go_ret2
        exact ⟨HE.out, HB.out⟩
    · obtain rfl : k = d.size := by omega
      have hD : Lx.decN base [] d.data.toList = some n := HDEC.out.trans (Lx.decN_end (by simp))
      have hm0 := Lx.fixN_pos n
      have HDF := Lib.hid (Lx.fixN_dg HDG.out)
      have HLONG := Lib.hid fun (h : 1000 < (Lx.fixN n).length) => decV_none (Lx.decF_long hD h)
      have HFINE := Lib.hid fun (h : ¬ 1000 < (Lx.fixN n).length) => decV_some (Lx.decF_some (by simp; omega) hD h)
      clear hD
      generalize Lx.fixN n = m at *
      obtain ⟨g, cp, rfl, _⟩ := World.ownsRow.form HO.out (by rw [Lx.dgB_len]; exact hm0)
      have hgb : w.heap.size ≤ g := own_base HO.out rfl
      rw [Lx.dgB_len] at HO ⊢
      by_cases hlong : 1000 < m.length
      · have HE := Lib.hid (HLONG.out hlong)
        clear HDR
        go_wp2
        go_ret2
        exact ⟨HE.out, HB.out⟩
      · have HE := Lib.hid (HFINE.out hlong)
        have HO' : Hid (OwnB 5 wr w.heap.size (.slice (some ⟨g, 0, none⟩) (Lx.dgB m).length cp) (Lx.dgB m)) := Lib.hid (by rw [Lx.dgB_len]; exact HO.out)
        have HRV := fun w' => rev_any w.heap.size g cp (Lx.dgB m) w'
        rw [Lx.dgB_len] at HRV
        have HRV2 := Lib.hid HRV
        clear HRV HDR
        obtain ⟨wo, rfl⟩ : ∃ wo : World, wo = wr := ⟨_, rfl⟩
        go_wp2_with (go_at_call 63; refine (HRV2.out _ HO.out hm0 (by omega)).mono ?_; rintro e w1 ⟨rfl, hr1, hg1⟩; have HR1 := Lib.hid hr1; have HB1 := Lib.hid (HB.out.grown hg1 HB.out.size (fun k hk => by injection hk with hk; omega)); clear hr1 hg1)
        go_loopw [84] (fun i wx => ∃ k : Nat, k ≤ m.length ∧ i = .int .i64 k ∧ OwnB 5 wx w.heap.size (.slice (some ⟨g, 0, none⟩) m.length cp) (Lx.letK m k) ∧ Below w.heap.size w wx) (fun i _ => m.length - (intOf i).toNat)
        case atStart => exact ⟨0, Nat.zero_le _, rfl, by rw [Lx.letK_zero]; have h := HR1.out; exact h, HB1.out⟩
        case round =>
          obtain ⟨k, hk, rfl, hown, hb⟩ := hrel
          have HO6 := Lib.hid hown
          have HB6 := Lib.hid hb
          by_cases hkl : k < m.length
          · have hL := Lx.letK_len m k hk
            have h6 : OwnB 5 wr w.heap.size (.slice (some ⟨g, 0, none⟩) (Lx.letK m k).length cp) (Lx.letK m k) := by rw [hL]; exact hown
            obtain ⟨c1, f1⟩ := h6.at_ (i := k) (by rw [hL]; exact hkl)
            obtain ⟨e1, e2⟩ := Lx.letK_get HDF.out hkl
            have h7 := h6.stored k (UInt8.ofNat (48 + m.reverse.getD k 0))
            rw [Lx.letK_set hkl, Lx.letK_len m (k + 1) hkl] at h7
            unfold bv at h7
            rw [e1] at c1
            generalize m.reverse.getD k 0 = y at *
            rw [ofNat_val (by omega), show ((48 + y : Nat) : Int) = (y : Int) + 48 from by omega] at h7
            have HO7 := Lib.hid h7
            clear h7 h6 hown hb hL e1
            go_wp2
            go_roundw
            case rel => exact ⟨k + 1, hkl, by go_num, HO7.out, HB6.out.setCell hgb _⟩
            case measure => simp [intOf]; omega
          · obtain rfl : k = m.length := by omega
            have h8 : OwnB 5 wr w.heap.size (.slice (some ⟨g, 0, none⟩) m.length cp) (Lx.txtN m) := by rw [← Lx.letK_all]; exact hown
            have hst : (convert 47 9 (.slice (some ⟨g, 0, none⟩) m.length cp)).run Try.prog wr = .ok (.string ⟨(Lx.txtN m).toArray⟩) wr := run_string_of wr 47 9 5 (OwnB.reads h8 (Lx.txtN_len m).symm) Try.underlying47 Try.underlying5 Try.underlying9
            clear h8 hown hb
            go_wp2
            go_ret2
            exact ⟨HE.out, HB6.out⟩
end Go.Proofs.Ytaigfelpecdajaa
