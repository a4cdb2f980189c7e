/-
  Parts LexD, LexE of the proof. No statement of the seat is proved here.
-/
import Derived.Test.YtjhonaglmgmpiaaGreatDoorP06
import Derived.Test.YtjhonaglmgmpiaaGreatDoorP04
import Derived.Deep.CutBlock
import Derived.Deep.DeepCutAuto
set_option maxHeartbeats 4000000
namespace Go.Proofs.YtjhonaglmgmpiaaGreatDoor
open Go.RowKit
def decV (r : Option (List UInt8)) : Value := match r with
 | none => .tuple #[.string ⟨#[]⟩, .bool false]
 | some t => .tuple #[.string ⟨t.toArray⟩, .bool true]
theorem decV_none {r : Option (List UInt8)} (h : r = none) : Ending.returned (.tuple #[.string ⟨#[]⟩, .bool false]) = .returned (decV r) := by rw [h]; rfl
theorem decV_some {r : Option (List UInt8)} {t : List UInt8} (h : r = some t) : Ending.returned (.tuple #[.string ⟨t.toArray⟩, .bool true]) = .returned (decV r) := by rw [h]; rfl
abbrev OwnG (w : World) (base : Nat) (v : Value) (m : List Nat) : Prop := OwnB 5 w base v (Lx.dgB m)
set_option maxRecDepth 20000 in
theorem decimal_bad (base : Nat) (d : ByteArray) (w : World) (h : base < 2 ∨ 36 < base ∨ 1000 < d.size) (hb : base ≤ 1000) (hd : d.size ≤ 65536) :
  Calls Tryz.prog 134 #[.int .i64 (base : Int), .string d] w fun e w' => e = .returned (decV (Lx.decF base d.data.toList)) ∧ w = w' := by
 have HE := Hd (decV_none (Lx.decF_bad (base := base) (l := d.data.toList) (by simpa using h)))
 by_cases h1 : base < 2
 ·have h2 : (base : Int) < 2 := by omega
  clear h
  go_enter Tryz.func134, Tryz.ntmps134
  go_wp2
  go_ret2
  exact ⟨HE.out, rfl⟩
 ·have h2 : ¬ (base : Int) < 2 := by omega
  by_cases h3 : 36 < base
  ·have h4 : (36 : Int) < (base : Int) := by omega
   clear h
   go_enter Tryz.func134, Tryz.ntmps134
   go_wp2
   go_ret2
   exact ⟨HE.out, rfl⟩
  ·have h4 : ¬ (36 : Int) < (base : Int) := by omega
   have h5 : 1000 < d.size := by omega
   clear h
   go_enter Tryz.func134, Tryz.ntmps134
   go_wp2
   go_ret2
   exact ⟨HE.out, rfl⟩
theorem reads_bytes (w : World) (d : ByteArray) : RdB (Lib.bytesWorld w 5 d) (w.heap.size + 1) (some ⟨w.heap.size, 0, none⟩) d.size d.data.toList := by
 refine ⟨by simp, fun _ => ⟨_, rfl, by simp, fun j u hu => ?_⟩⟩
 have e : (⟨w.heap.size, 0, none⟩ : Addr).add j = ⟨w.heap.size, j, none⟩ := by unfold Addr.add; split <;> simp_all
 have hj : j < d.size := by
  rcases Nat.lt_or_ge j d.size with h | h
  ·exact h
  ·rw [List.getElem?_eq_none (by simp; exact h)] at hu; cases hu
 rw [e, Lib.bytesWorld_cell w 5 d j hj]
 rw [List.getElem?_map, get_in hj] at hu
 rw [← hu, List.getD, get_in hj]
 rfl
def DR (w : World) (b : Nat) (l : List UInt8) : Prop := ∃ C f, w.heap[b]? = some (.cells C 5 (f, f + 1)) ∧ ∀ (j : Nat) (x : UInt8), l[j]? = some x → C[j]? = some (bv x)
section
variable {w w1 : World} {b : Nat} {l : List UInt8}
theorem DR.new (w : World) (d : ByteArray) : DR (Lib.bytesWorld w 5 d) w.heap.size d.data.toList := by
 refine ⟨_, _, Lib.bytesWorld_at_new w 5 d, fun j x hx => ?_⟩
 have hj : j < d.size := by
  rcases Nat.lt_or_ge j d.size with h | h
  ·exact h
  ·rw [get_out (by omega)] at hx; cases hx
 have h := (reads_bytes w d).2 (by omega)
 obtain ⟨ad, e, _, hc⟩ := h
 injection e with e
 subst e
 have h2 := hc j (bv x) (by rw [List.getElem?_map, hx]; rfl)
 have e : (⟨w.heap.size, 0, none⟩ : Addr).add j = ⟨w.heap.size, j, none⟩ := by unfold Addr.add; split <;> simp_all
 rw [e, cell_of_row _ _ j _ 5 _ (Lib.bytesWorld_at_new w 5 d)] at h2
 exact h2
theorem DR.cell (h : DR w b l) {j : Nat} {x : UInt8} (hx : l[j]? = some x) : w.cell? ⟨b, j, none⟩ = some (.int .u8 (x.toNat : Int)) := by
 obtain ⟨C, f, hC, hc⟩ := h
 rw [cell_of_row _ _ j _ 5 _ hC]
 exact hc j x hx
theorem DR.lt (h : DR w b l) : b < w.heap.size := by
 obtain ⟨C, f, hC, hc⟩ := h
 rcases Nat.lt_or_ge b w.heap.size with hlt | hge
 ·exact hlt
 ·rw [Array.getElem?_eq_none hge] at hC; cases hC
theorem DR.ne_ (h : DR w b l) {base : Nat} {v : Value} {bs : List UInt8} (ho : OwnB 5 w base v bs) : v.ownBlock ≠ some b := by
 obtain ⟨C, f, hC, hc⟩ := h
 rcases ho.2 with ⟨rfl, _⟩ | ⟨g', cap, cur, rfl, _, hh, _⟩
 ·simp [Value.ownBlock]
 ·intro he
  have : g' = b := by simpa [Value.ownBlock] using he
  subst this
  rw [hh] at hC
  injection hC with hC
  injection hC with _ _ hf
  injection hf with h1 h2
  omega
theorem DR.of_block (h : DR w b l) (hb : w1.heap[b]? = w.heap[b]?) : DR w1 b l := by
 obtain ⟨C, f, hC, hc⟩ := h
 exact ⟨C, f, hb.trans hC, hc⟩
theorem DR.alloc (h : DR w b l) (o : Obj) : DR (w.alloc o) b l := h.of_block (Below.heap_alloc w o b h.lt)
theorem DR.app (h : DR w b l) {v v1 : Value} (ha : App w v w1 v1) (hne : v.ownBlock ≠ some b) : DR w1 b l := h.of_block (ha.1.block b h.lt (fun e => hne e.symm))
theorem DR.set_ (h : DR w b l) {g : Nat} (hne : g ≠ b) (i : Nat) (u : Value) : DR (w.setCell ⟨g, i, none⟩ u) b l := h.of_block (Below.heap_setCell w ⟨g, i, none⟩ u b (fun e => hne e.symm))
end
theorem ofNat_val {d : Nat} (h : d < 256) : ((UInt8.ofNat d).toNat : Int) = (d : Int) := by rw [UInt8.toNat_ofNat']; omega
theorem OwnG.stored {w : World} {base g c L : Nat} {m : List Nat} (h : OwnG w base (.slice (some ⟨g, 0, none⟩) L c) m) (hL : m.length = L) (i d : Nat) (hd : d < 256) :
  OwnG (w.setCell ⟨g, i, none⟩ (.int .u8 (d : Int))) base (.slice (some ⟨g, 0, none⟩) L c) (m.set i d) := by
 subst hL
 have h0 : OwnB 5 w base (.slice (some ⟨g, 0, none⟩) (Lx.dgB m).length c) (Lx.dgB m) := by rw [Lx.dgB_len]; exact h
 have h1 := h0.stored i (UInt8.ofNat d)
 unfold bv at h1
 rw [ofNat_val hd, Lx.dgB_set, Lx.dgB_len, List.length_set] at h1
 exact h1
theorem OwnG.at_ {w : World} {base g c L : Nat} {m : List Nat} (h : OwnG w base (.slice (some ⟨g, 0, none⟩) L c) m) (hL : m.length = L) {i y : Nat} (hy : m[i]? = some y) (h10 : y < 10) :
  w.cell? ⟨g, i, none⟩ = some (.int .u8 (y : Int)) ∧ w.frozen? ⟨g, i, none⟩ = false := by
 subst hL
 have h0 : OwnB 5 w base (.slice (some ⟨g, 0, none⟩) (Lx.dgB m).length c) (Lx.dgB m) := by rw [Lx.dgB_len]; exact h
 have hi : i < m.length := by
  rcases Nat.lt_or_ge i m.length with h | h
  ·exact h
  ·rw [List.getElem?_eq_none h] at hy; cases hy
 obtain ⟨c1, f1⟩ := h0.at_ (i := i) (by rw [Lx.dgB_len]; exact hi)
 have e : ((Lx.dgB m).getD i 0) = UInt8.ofNat y := by
  rw [List.getD, Lx.dgB, List.getElem?_map, hy]; rfl
 rw [e, ofNat_val (by omega)] at c1
 exact ⟨c1, f1⟩
theorem drop_get {m : List Nat} {j : Nat} (h : j < m.length) : m.drop j = m[j] :: m.drop (j + 1) := List.drop_eq_getElem_cons h
theorem mid_get {done t : List Nat} {y : Nat} : (done ++ y :: t)[done.length]? = some y := by simp
theorem mid_set {done t : List Nat} {y d : Nat} : (done ++ y :: t).set done.length d = (done ++ [d]) ++ t := by simp
theorem grow_round {wx : World} {B g cp L base c y : Nat} {done t r : List Nat} (h : OwnG wx B (.slice (some ⟨g, 0, none⟩) L cp) (done ++ y :: t)) (hL : (done ++ y :: t).length = L)
  (hr : done ++ Lx.growF base (y :: t) c = r) (hd : Lx.Dg done) (hy : y < 10) (hc : c < base) :
  OwnG (wx.setCell ⟨g, done.length, none⟩ (.int .u8 (((c : Int) + (base : Int) * (y : Int)) % 10))) B (.slice (some ⟨g, 0, none⟩) L cp) ((done ++ [(y * base + c) % 10]) ++ t) ∧
   (done ++ [(y * base + c) % 10]) ++ Lx.growF base t ((y * base + c) / 10) = r ∧ Lx.Dg (done ++ [(y * base + c) % 10]) ∧ (y * base + c) / 10 < base := by
 have h1 := OwnG.stored h hL done.length ((y * base + c) % 10) (by omega)
 rw [mid_set] at h1
 have e : (((y * base + c) % 10 : Nat) : Int) = ((c : Int) + (base : Int) * (y : Int)) % 10 := by
  rw [Int.natCast_emod, Int.natCast_add, Int.natCast_mul, Int.add_comm, Int.mul_comm]; rfl
 rw [e] at h1
 refine ⟨h1, by rw [← hr]; simp [Lx.growF], fun x hx => ?_, Lx.carry_lt hy hc⟩
 rcases List.mem_append.1 hx with hx | hx
 ·exact hd x hx
 ·simp at hx; omega
set_option maxRecDepth 20000 in
theorem decimal_good (base : Nat) (d : ByteArray) (w : World) (h2 : 2 ≤ base) (h36 : base ≤ 36) (hd : d.size ≤ 1000) (hf : ∀ x ∈ d.data.toList, Lx.figB x = true) :
  Calls Tryz.prog 134 #[.int .i64 (base : Int), .string d] w fun e w' => e = .returned (decV (Lx.decF base d.data.toList)) ∧ Below w.heap.size w w' := by
 have HF := Hd hf
 have hcv := fun (w : World) => Lib.run_convert_string_bytes (P := Tryz.prog) w 9 47 5 d Tryz.underlying9 Tryz.underlying47 Tryz.underlying5
 clear hf
 go_enter Tryz.func134, Tryz.ntmps134
 go_wp2
 clear hcv
 go_loopw [6, 28] (fun v i wr => ∃ (k : Nat) (n : List Nat), k ≤ d.size ∧ i = .int .i64 k ∧ OwnG wr w.heap.size v (Lx.fixN n) ∧ Lx.Dg n ∧ n.length ≤ 2 * k ∧ Lx.decN base [] d.data.toList = Lx.decN base n (d.data.toList.drop k) ∧
  Below w.heap.size w wr ∧ DR wr (w.heap.size + 1) d.data.toList) (fun _ i _ => d.size - (intOf i).toNat)
 case atStart =>
  have h1 : OwnB 5 (w.alloc (.cells #[.int .u8 0] 5)) w.heap.size (.slice (some ⟨w.heap.size, 0, none⟩) 1 1) [0] := OwnB.built 5 w w.heap.size _ [0] (Nat.le_refl _) (by simp) rfl
  have hsz : (w.alloc (.cells #[.int .u8 0] 5)).heap.size = w.heap.size + 1 := by simp
  have h2 := DR.new (w.alloc (.cells #[.int .u8 0] 5)) d
  rw [hsz] at h2
  have hb := (Joins.below_bytesWorld (w.alloc (.cells #[.int .u8 0] 5)).heap.size (w.alloc (.cells #[.int .u8 0] 5)) 5 d (Nat.le_refl _))
  refine ⟨0, [], Nat.zero_le _, rfl, ?_, (fun x hx => by cases hx), Nat.le_refl _, rfl, ?_, h2⟩
  ·exact World.ownsRow.kept h1 (only_of_below hb none) (by simp [Value.ownBlock])
  ·exact ((Below.refl _ _).alloc (Nat.le_refl _) _).trans (hb.mono (by rw [hsz]; omega))
 case round =>
  obtain ⟨k, n, hk, rfl, hown, hdg, hn, hdec, hb, hdr⟩ := hrel
  have HO := Hd hown
  have HDG := Hd hdg
  have HDEC := Hd hdec
  have HB := Hd hb
  have HDR := Hd hdr
  have HN := Hd hn
  clear hown hdg hdec hb hdr hn
  by_cases hlt : k < d.size
  ·have hx := get_in hlt
   generalize d[k]'hlt = x at hx
   have hx48 := Lx.figB_ge (HF.out x (List.mem_of_getElem? hx))
   have hx256 := x.toNat_lt
   have hcell := HDR.out.cell hx
   have HX := Hd hx
   clear hx
   go_upto_if 36 with (go_at_call 133; refine (cap_any x _).mono ?_; rintro e w' ⟨rfl, rfl⟩)
   go_cut [9] (fun s9 wx => s9 = .int .i64 (Lx.valF x) ∧ wr = wx)
   case first =>
    by_cases hc : Lx.capB x = true
    ·obtain ⟨e1, e2, e3⟩ := Lx.valF_cap hc
     have HV := Hd e1
     rw [hc]
     clear e1 hc
     go_wp2
     go_meet
     exact ⟨by rw [HV.out, show ((x.toNat - 55 : Nat) : Int) = (x.toNat : Int) - 65 + 10 from by omega], rfl⟩
    ·have hc' : Lx.capB x = false := by simpa using hc
     have HV := Hd (Lx.valF_dig hc')
     rw [hc']
     clear hc hc'
     go_wp2
     go_meet
     exact ⟨by rw [HV.out, show ((x.toNat - 48 : Nat) : Int) = (x.toNat : Int) - 48 from by omega], rfl⟩
   case rest =>
   obtain ⟨rfl, rfl⟩ := hcut
   clear hcell
   by_cases hv : Lx.valF x < base
   ·have HG := Hd ((Lx.decN_some HX.out hv).symm.trans HDEC.out.symm)
    have hm0 := Lx.fixN_pos n
    have hfg := Lx.grow_fix (base := base) (d := Lx.valF x) n (by omega)
    have HFG := Hd hfg
    have HDF := Hd (Lx.fixN_dg HDG.out)
    have HLN : Hid ((Lx.fixN n).length ≤ 2 * k + 1) := Hd (by have := HN.out; unfold Lx.fixN; split <;> simp; omega)
    obtain ⟨m, hm⟩ : ∃ m, m = Lx.fixN n := ⟨_, rfl⟩
    obtain ⟨c0, hc0⟩ : ∃ c0, c0 = Lx.valF x := ⟨_, rfl⟩
    rw [← hm] at HO HDF HFG HLN hm0
    rw [← hc0] at HG HFG hv ⊢
    clear hfg hm hc0
    obtain ⟨g, cp, rfl, _⟩ := World.ownsRow.form HO.out (by rw [Lx.dgB_len]; exact hm0)
    have HNE := HDR.out.ne_ HO.out
    have hgne : g ≠ w.heap.size + 1 := by simpa [Value.ownBlock] using HNE
    have hgb : w.heap.size ≤ g := own_base HO.out rfl
    rw [Lx.dgB_len] at HO ⊢
    have hl := HLN.out
    clear HNE
    obtain ⟨wo, rfl⟩ : ∃ wo : World, wo = wr := ⟨_, rfl⟩
    have HV := Hd hv
    have hbi : (base : Int) ≤ 36 := by omega
    have hvi : (c0 : Int) < (base : Int) := by omega
    have d43 : decide (base ≤ c0) = false := by simp; omega
    clear hv
    go_wp2
    go_loopw [9, 46] (fun s9 s46 wx => ∃ (j c : Nat) (done : List Nat), j ≤ m.length ∧ s46 = .int .i64 j ∧ s9 = .int .i64 c ∧ c < base ∧ done.length = j ∧ Lx.Dg done ∧ done ++ Lx.growF base (m.drop j) c = Lx.growF base m c0 ∧
     OwnG wx w.heap.size (.slice (some ⟨g, 0, none⟩) m.length cp) (done ++ m.drop j) ∧ Below w.heap.size w wx ∧ DR wx (w.heap.size + 1) d.data.toList) (fun _ s46 _ => m.length - (intOf s46).toNat)
    case atStart => exact ⟨0, c0, [], Nat.zero_le _, rfl, rfl, HV.out, rfl, (fun x hx => by cases hx), rfl, HO.out, HB.out, HDR.out⟩
    case round =>
     obtain ⟨j, c, done, hj, rfl, rfl, hcb, hdl, hdd, hgr, hown, hb, hdr⟩ := hrel
     have HO2 := Hd hown
     have HB2 := Hd hb
     have HDR2 := Hd hdr
     have HGR := Hd hgr
     have HDD := Hd hdd
     have HDL := Hd hdl
     clear hown hb hdr hgr hdd hdl
     by_cases hjl : j < m.length
     ·have hy10 : m[j] < 10 := HDF.out _ (List.getElem_mem hjl)
      have HDJ := Hd (drop_get hjl)
      obtain ⟨y, hy⟩ : ∃ y, m[j] = y := ⟨_, rfl⟩
      have HY := Hd hy
      clear hy
      rw [HY.out] at HDJ hy10
      rw [HDJ.out] at HO2 HGR
      have HLL : Hid ((done ++ y :: m.drop (j + 1)).length = m.length) := Hd (by simp [HDL.out]; omega)
      obtain ⟨c1, f1⟩ := OwnG.at_ HO2.out HLL.out (i := j) (y := y) (by rw [← HDL.out]; exact mid_get) hy10
      have HR := Hd (grow_round HO2.out HLL.out HGR.out HDD.out hy10 hcb)
      rw [HDL.out] at HR
      have p1 : (0 : Int) ≤ (base : Int) * (y : Int) := Int.mul_nonneg (by omega) (by omega)
      have p2 : (base : Int) * (y : Int) ≤ 36 * 9 := Int.mul_le_mul (by omega) (by omega) (by omega) (by omega)
      have HQ : Hid ((((y * base + c) / 10 : Nat) : Int) = ((c : Int) + (base : Int) * (y : Int)) / 10) := Hd (by rw [Int.natCast_ediv, Int.natCast_add, Int.natCast_mul, Int.add_comm, Int.mul_comm]; rfl)
      go_wp2
      go_roundw
      case rel => exact ⟨j + 1, (y * base + c) / 10, done ++ [(y * base + c) % 10], hjl, by go_num, by rw [HQ.out], HR.out.2.2.2, by simp [HDL.out], HR.out.2.2.1, HR.out.2.1, HR.out.1, HB2.out.setCell hgb _, HDR2.out.set_ hgne j _⟩
      case measure => simp [intOf]; omega
     ·obtain rfl : j = m.length := by omega
      have HO3 : Hid (OwnG wr w.heap.size (.slice (some ⟨g, 0, none⟩) m.length cp) done) := Hd (by have := HO2.out; rwa [List.drop_length, List.append_nil] at this)
      have HG3 : Hid (done ++ Lx.co c = Lx.growF base m c0) := Hd (by have := HGR.out; rwa [List.drop_length] at this)
      have HGL := Hd (Lx.growF_len base m c0)
      have HDG3 := Hd (Lx.growF_dg h36 m c0 HDF.out HV.out)
      clear HO2 HGR hj hjl
      obtain ⟨wi, rfl⟩ : ∃ wi : World, wi = wr := ⟨_, rfl⟩
      go_wp2
      go_loopw [6, 9] (fun v s9 wx => ∃ (c : Nat) (cur : List Nat), s9 = .int .i64 c ∧ c < 100 ∧ cur ++ Lx.co c = Lx.growF base m c0 ∧ OwnG wx w.heap.size v cur ∧ Below w.heap.size w wx ∧ DR wx (w.heap.size + 1) d.data.toList) (fun _ s9 _ => (intOf s9).toNat)
      case atStart => exact ⟨c, done, rfl, by omega, HG3.out, HO3.out, HB2.out, HDR2.out⟩
      case round =>
       obtain ⟨c1, cur, rfl, hc100, hg4, hown, hb, hdr⟩ := hrel
       have HO4 := Hd hown
       have HB4 := Hd hb
       have HDR4 := Hd hdr
       have HG4 := Hd hg4
       clear hown hb hdr hg4
       by_cases h0 : 0 < c1
       ·have HCO := Hd (Lx.co_step h0 hc100)
        have HCL : Hid (cur.length ≤ 2 * k + 3) := Hd (by
         have h1 := HGL.out
         rw [← HG4.out, List.length_append] at h1
         have := HLN.out
         omega)
        have HRD : Hid (RdB (wr.alloc (.cells #[.int .u8 ((c1 : Int) % 10)] 5)) (wr.heap.size + 1) (some ⟨wr.heap.size, 0, none⟩) 1 [UInt8.ofNat (c1 % 10)]) := Hd (by
         have h1 := read_one8 wr (UInt8.ofNat (c1 % 10))
         rw [ofNat_val (by omega), Int.natCast_emod] at h1
         exact h1)
        have HLD : Hid ((Lx.dgB cur).length + 1 ≤ 140737488355328) := Hd (by rw [Lx.dgB_len]; have := HCL.out; omega)
        go_wp2_with (at_builtin; refine wpList_app rfl (.tmp 68) (.tmp 72) 47 rfl w.heap.size 5 info5' Tryz.underlying47 _ (Lx.dgB cur) rfl (HO4.out.alloc _) _ _ _ _ [UInt8.ofNat (c1 % 10)] rfl HRD.out HLD.out (by have := HB4.out.size; simp; omega) ?_; intro v1 w1 hown1 happ1; have HO5 := Hd hown1; have HA5 := Hd happ1; clear hown1 happ1)
        go_roundw
        case rel => exact ⟨c1 / 10, cur ++ [c1 % 10], by rw [Int.natCast_ediv]; rfl, by omega, by rw [← HG4.out, HCO.out]; simp, by have h := HO5.out; rw [show Lx.dgB cur ++ [UInt8.ofNat (c1 % 10)] = Lx.dgB (cur ++ [c1 % 10]) from by simp [Lx.dgB]] at h; exact h, bapp HB4.out HO4.out HA5.out, (HDR4.out.alloc _).app HA5.out (HDR4.out.ne_ HO4.out)⟩
        case measure => simp [intOf]; omega
       ·obtain rfl : c1 = 0 := by omega
        have HE2 : Hid (cur = Lx.fixN (Lx.growF base n c0)) := Hd (by have := HG4.out; rw [Lx.co_zero, List.append_nil] at this; rw [this, HFG.out])
        go_wp2
        go_roundw
        case rel => exact ⟨k + 1, Lx.growF base n c0, by omega, by go_num, by rw [← HE2.out]; exact HO4.out, Lx.growF_dg h36 n c0 HDG.out HV.out, by have := Lx.growF_len base n c0; have := HN.out; omega, HG.out.symm, HB4.out, HDR4.out⟩
        case measure => simp [intOf]; omega
   ·have HE := Hd (decV_none (Lx.decF_none (HDEC.out.trans (Lx.decN_none HX.out hv))))
    have hvi : (base : Int) ≤ (Lx.valF x : Int) := by omega
    clear hv
    go_wp2
    go_ret2
    exact ⟨HE.out, HB.out⟩
  ·obtain rfl : k = d.size := by omega
   have hD : Lx.decN base [] d.data.toList = some n := HDEC.out.trans (Lx.decN_end (by simp))
   have hm0 := Lx.fixN_pos n
   have HDF := Hd (Lx.fixN_dg HDG.out)
   have HLONG := Hd fun (h : 1000 < (Lx.fixN n).length) => decV_none (Lx.decF_long hD h)
   have HFINE := Hd fun (h : ¬ 1000 < (Lx.fixN n).length) => decV_some (Lx.decF_some (by simp; omega) hD h)
   clear hD
   generalize Lx.fixN n = m at *
   obtain ⟨g, cp, rfl, _⟩ := World.ownsRow.form HO.out (by rw [Lx.dgB_len]; exact hm0)
   have hgb : w.heap.size ≤ g := own_base HO.out rfl
   rw [Lx.dgB_len] at HO ⊢
   by_cases hlong : 1000 < m.length
   ·have HE := Hd (HLONG.out hlong)
    clear HDR
    go_wp2
    go_ret2
    exact ⟨HE.out, HB.out⟩
   ·have HE := Hd (HFINE.out hlong)
    have HO' : Hid (OwnB 5 wr w.heap.size (.slice (some ⟨g, 0, none⟩) (Lx.dgB m).length cp) (Lx.dgB m)) := Hd (by rw [Lx.dgB_len]; exact HO.out)
    have HRV := fun w' => rev_any w.heap.size g cp (Lx.dgB m) w'
    rw [Lx.dgB_len] at HRV
    have HRV2 := Hd HRV
    clear HRV HDR
    obtain ⟨wo, rfl⟩ : ∃ wo : World, wo = wr := ⟨_, rfl⟩
    go_wp2_with (go_at_call 168; refine (HRV2.out _ HO.out hm0 (by omega)).mono ?_; rintro e w1 ⟨rfl, hr1, hg1⟩; have HR1 := Hd hr1; have HB1 := Hd (HB.out.grown hg1 HB.out.size (fun k hk => by injection hk with hk; omega)); clear hr1 hg1)
    go_loopw [84] (fun i wx => ∃ k : Nat, k ≤ m.length ∧ i = .int .i64 k ∧ OwnB 5 wx w.heap.size (.slice (some ⟨g, 0, none⟩) m.length cp) (Lx.letK m k) ∧ Below w.heap.size w wx) (fun i _ => m.length - (intOf i).toNat)
    case atStart => exact ⟨0, Nat.zero_le _, rfl, by rw [Lx.letK_zero]; have h := HR1.out; exact h, HB1.out⟩
    case round =>
     obtain ⟨k, hk, rfl, hown, hb⟩ := hrel
     have HO6 := Hd hown
     have HB6 := Hd hb
     by_cases hkl : k < m.length
     ·have hL := Lx.letK_len m k hk
      have h6 : OwnB 5 wr w.heap.size (.slice (some ⟨g, 0, none⟩) (Lx.letK m k).length cp) (Lx.letK m k) := by rw [hL]; exact hown
      obtain ⟨c1, f1⟩ := h6.at_ (i := k) (by rw [hL]; exact hkl)
      obtain ⟨e1, e2⟩ := Lx.letK_get HDF.out hkl
      have h7 := h6.stored k (UInt8.ofNat (48 + m.reverse.getD k 0))
      rw [Lx.letK_set hkl, Lx.letK_len m (k + 1) hkl] at h7
      unfold bv at h7
      rw [e1] at c1
      generalize m.reverse.getD k 0 = y at *
      rw [ofNat_val (by omega), show ((48 + y : Nat) : Int) = (y : Int) + 48 from by omega] at h7
      have HO7 := Hd h7
      clear h7 h6 hown hb hL e1
      go_wp2
      go_roundw
      case rel => exact ⟨k + 1, hkl, by go_num, HO7.out, HB6.out.setCell hgb _⟩
      case measure => simp [intOf]; omega
     ·obtain rfl : k = m.length := by omega
      have h8 : OwnB 5 wr w.heap.size (.slice (some ⟨g, 0, none⟩) m.length cp) (Lx.txtN m) := by rw [← Lx.letK_all]; exact hown
      have hst : (convert 47 9 (.slice (some ⟨g, 0, none⟩) m.length cp)).run Tryz.prog wr = .ok (.string ⟨(Lx.txtN m).toArray⟩) wr := run_string_of wr 47 9 5 (OwnB.reads h8 (Lx.txtN_len m).symm) Tryz.underlying47 Tryz.underlying5 Tryz.underlying9
      clear h8 hown hb
      go_wp2
      go_ret2
      exact ⟨HE.out, HB6.out⟩
theorem extract_cut (s : ByteArray) (a b : Nat) : (s.extract a b).data.toList = Lx.cut s.data.toList a b := by
 rw [ByteArray.data_extract, Array.toList_extract, List.extract_eq_take_drop]
 unfold Lx.cut
 rw [List.drop_take]
theorem LxS.drew {w : World} {base g : Nat} {s : ByteArray} {at_ : Int} {v : Value} {l : List Lx.Tk} (h : LxS w base g s at_ v l) : LxS w.drew base g s at_ v l := h
theorem LxS.drewN {w : World} {base g : Nat} {s : ByteArray} {at_ : Int} {v : Value} {l : List Lx.Tk} (h : LxS w base g s at_ v l) (n : Nat) : LxS (w.drewN n) base g s at_ v l := h
def TokP (base g : Nat) (s : ByteArray) (l : List Lx.Tk) (at_ : Nat) (st : Lx.Stp) (w : World) (e : Ending) (w' : World) : Prop :=
 Below base w w' ∧ ((st.err = 0 ∧ e = .returned (.tuple #[.int .i64 0, .int .i64 0]) ∧ ∃ v', LxS w' base g s (st.next : Int) v' (if st.kind = 0 then l else l ++ [(st.kind, st.text, at_)])) ∨
  (¬ st.err = 0 ∧ e = .returned (.tuple #[.int .i64 (st.place : Int), .int .i64 (st.err : Int)])))
theorem TokP.bad_ {base g : Nat} {s : ByteArray} {l : List Lx.Tk} {at_ : Nat} {w w' : World} {st : Lx.Stp} {p er : Nat} (hst : st = Lx.bad p er) (he : ¬ er = 0) (hb : Below base w w') :
  TokP base g s l at_ st w (.returned (.tuple #[.int .i64 (p : Int), .int .i64 (er : Int)])) w' := by
 subst hst
 exact ⟨hb, .inr ⟨he, rfl⟩⟩
theorem TokP.tok_ {base g : Nat} {s : ByteArray} {l : List Lx.Tk} {at_ : Nat} {w w' : World} {st : Lx.Stp} {k n : Nat} {t : List UInt8} (hst : st = Lx.tok k t n) (hk : ¬ k = 0) (hb : Below base w w')
  (h : ∃ v', LxS w' base g s (n : Int) v' (l ++ [(k, t, at_)])) : TokP base g s l at_ st w (.returned (.tuple #[.int .i64 0, .int .i64 0])) w' := by
 subst hst
 refine ⟨hb, .inl ⟨rfl, rfl, ?_⟩⟩
 show ∃ v', LxS w' base g s (n : Int) v' (if k = 0 then l else l ++ [(k, t, at_)])
 rw [if_neg hk]
 exact h
theorem bnextB {B : Nat} {w w1 w2 : World} (h : Below B w w1) (h2 : Below w1.heap.size w1 w2) (hB : B ≤ w.heap.size) : Below B w w2 := h.trans (h2.mono (Nat.le_trans hB h.size))
theorem decimal_any (base : Nat) (d : ByteArray) (w : World) (hb : base ≤ 1000) (hd : d.size ≤ 65536) (hf : ∀ x ∈ d.data.toList, Lx.figB x = true) :
  Calls Tryz.prog 134 #[.int .i64 (base : Int), .string d] w fun e w' => e = .returned (decV (Lx.decF base d.data.toList)) ∧ Below w.heap.size w w' := by
 by_cases h : base < 2 ∨ 36 < base ∨ 1000 < d.size
 ·exact (decimal_bad base d w h hb hd).mono fun e w' ⟨he, hw⟩ => ⟨he, by subst hw; exact Below.refl _ _⟩
 ·exact decimal_good base d w (by omega) (by omega) (by omega) hf
theorem has_dig (x : UInt8) : [3].contains (Lx.cls x) = Lx.digB x := by
 rw [Bool.eq_iff_iff]; simp [Lx.digB]
theorem has_ld (x : UInt8) : [2, 3].contains (Lx.cls x) = Lx.ldB x := by
 rw [Bool.eq_iff_iff]; simp [Lx.ldB, Lx.letB, Lx.digB]
theorem cells_one (w : World) (a : Nat) : ∀ (j x : Nat), [a][j]? = some x → (w.alloc (.cells #[.int .i64 (a : Int)] 128)).cell? ⟨w.heap.size, j, none⟩ = some (.int .i64 (x : Int)) := by
 intro j x hx
 rw [(Blk.new w 128 #[.int .i64 (a : Int)]).cell j]
 match j, hx with
 | 0, hx => cases hx; rfl
theorem cells_two (w : World) (a b : Nat) : ∀ (j x : Nat), [a, b][j]? = some x → (w.alloc (.cells #[.int .i64 (a : Int), .int .i64 (b : Int)] 128)).cell? ⟨w.heap.size, j, none⟩ = some (.int .i64 (x : Int)) := by
 intro j x hx
 rw [(Blk.new w 128 #[.int .i64 (a : Int), .int .i64 (b : Int)]).cell j]
 match j, hx with
 | 0, hx => cases hx; rfl
 | 1, hx => cases hx; rfl
theorem lrun_dig (g : Nat) (s : ByteArray) (i : Nat) (w : World) (hL : Lxr w g s) (hs : s.size ≤ 65536) (hi : i ≤ s.size) :
  Calls Tryz.prog 90 #[.pointer (some ⟨g, 0, none⟩), .int .i64 (i : Int), .slice (some ⟨w.heap.size, 0, none⟩) 1 1] (w.alloc (.cells #[.int .i64 3] 128)) fun e w' => e = .returned (.int .i64 (Lx.runF Lx.digB s.data.toList i)) ∧ Below w.heap.size w w' :=
 (lrun_any g s w.heap.size 1 [3] Lx.digB i i _ (hL.below ((Below.refl _ _).alloc (Nat.le_refl _) _)) hs rfl hi (by simp) (by simp) has_dig (cells_one w 3)).mono fun e w' ⟨he, hb⟩ => ⟨he, bnext ((Below.refl _ _).alloc (Nat.le_refl _) _) hb⟩
theorem lrun_ld (g : Nat) (s : ByteArray) (i : Nat) (w : World) (hL : Lxr w g s) (hs : s.size ≤ 65536) (hi : i ≤ s.size) :
  Calls Tryz.prog 90 #[.pointer (some ⟨g, 0, none⟩), .int .i64 (i : Int), .slice (some ⟨w.heap.size, 0, none⟩) 2 2] (w.alloc (.cells #[.int .i64 2, .int .i64 3] 128)) fun e w' => e = .returned (.int .i64 (Lx.runF Lx.ldB s.data.toList i)) ∧ Below w.heap.size w w' :=
 (lrun_any g s w.heap.size 2 [2, 3] Lx.ldB i i _ (hL.below ((Below.refl _ _).alloc (Nat.le_refl _) _)) hs rfl hi (by simp) (by simp) has_ld (cells_two w 2 3)).mono fun e w' ⟨he, hb⟩ => ⟨he, bnext ((Below.refl _ _).alloc (Nat.le_refl _) _) hb⟩
theorem decVn : decV none = .tuple #[.string ⟨#[]⟩, .bool false] := rfl
theorem decVs (t : List UInt8) : decV (some t) = .tuple #[.string ⟨t.toArray⟩, .bool true] := rfl
theorem rB_lt {s : ByteArray} {j : Nat} (h : Lx.rB s.data.toList j = true) : j + 1 < s.size := by
 rcases Nat.lt_or_ge (j + 1) s.size with h1 | h1
 ·exact h1
 ·rw [show Lx.rB s.data.toList j = false from by unfold Lx.rB; rw [get_out (by omega)]; simp] at h; cases h
theorem size_cut {t : ByteArray} {l : List UInt8} {a b : Nat} (h : t.data.toList = Lx.cut l a b) (hb : b ≤ l.length) : t.size = b - a := by
 rw [← Lx.cut_len l a b hb, ← h]; simp
theorem numS_none {l : List UInt8} {i : Nat} (h : Lx.numF l i = none) : Lx.numS l i = Lx.bad i 123 := by unfold Lx.numS; rw [h]
theorem numS_some {l : List UInt8} {i : Nat} {r : List UInt8 × Nat} (h : Lx.numF l i = some r) : Lx.numS l i = Lx.tok 4 r.1 r.2 := by unfold Lx.numS; rw [h]
theorem rB_no {s : ByteArray} {j : Nat} (h : Lx.isAt s.data.toList j 114 = false) : Lx.rB s.data.toList j = false := by unfold Lx.rB; rw [h]; rfl
theorem rB_out {s : ByteArray} {j : Nat} (h : ¬ j + 1 < s.size) : Lx.rB s.data.toList j = false := by unfold Lx.rB; rw [get_out h]; simp
theorem rB_in {s : ByteArray} {j : Nat} (h1 : Lx.isAt s.data.toList j 114 = true) (h : j + 1 < s.size) : Lx.rB s.data.toList j = Lx.figB (s[j + 1]'h) := by unfold Lx.rB; rw [h1, get_in h]; simp
set_option maxRecDepth 20000 in
theorem lnumber_any (base g : Nat) (s : ByteArray) (i : Nat) (v : Value) (l : List Lx.Tk) (w : World) (h : LxS w base g s (i : Int) v l) (hb0 : base ≤ w.heap.size) (hl : l.length ≤ 65536) (hs : s.size ≤ 65536) (hi : i < s.size) :
  Calls Tryz.prog 93 #[.pointer (some ⟨g, 0, none⟩)] w (TokP base g s l i (Lx.numS s.data.toList i) w) := by
 have H := Hd h
 have hc1 : w.cell? ⟨g, 1, none⟩ = some (.int .i64 (i : Int)) := h.1.cell 1
 have hg : g < w.heap.size := h.1.lt
 clear h
 go_enter Tryz.func93, Tryz.ntmps93
 go_wp2_with (go_at_call 90; refine (lrun_dig g s i w H.out.lxr hs (by omega)).mono ?_; rintro e w1 ⟨rfl, hb1⟩)
 have HJ1 := Hd (Lx.runF_ge Lx.digB s.data.toList i)
 have HJ2 : Hid (Lx.runF Lx.digB s.data.toList i ≤ s.size) := Hd (by have := Lx.runF_le Lx.digB s.data.toList i (by simp; exact Nat.le_of_lt hi); simpa using this)
 obtain ⟨j, hj⟩ : ∃ j, Lx.runF Lx.digB s.data.toList i = j := ⟨_, rfl⟩
 have HJ := Hd hj
 rw [hj] at HJ1 HJ2 ⊢
 clear hj hc1 hg
 have HS1 := Hd (H.out.below hb1)
 have HB1 := Hd hb1
 clear hb1
 have hc0 : w1.cell? ⟨g, 0, none⟩ = some (.string s) := HS1.out.1.cell 0
 have hc1 : w1.cell? ⟨g, 1, none⟩ = some (.int .i64 (i : Int)) := HS1.out.1.cell 1
 have j1 := HJ1.out
 have j2 := HJ2.out
 go_quiet (fail)
 have HS2 := Hd (HS1.out.drewN nq)
 have HB2 := Hd (below_drewN HB1.out nq)
 generalize w1.drewN nq = w2 at HS2 HB2 ⊢
 clear hc0 hc1 HS1 HB1 w1
 go_upto_region 3 with fail
 go_cut [58] (fun s58 wx => s58 = .bool (Lx.rB s.data.toList j) ∧ LxS wx base g s (i : Int) v l ∧ Below w.heap.size w wx)
 case first =>
  have hc0 : w2.cell? ⟨g, 0, none⟩ = some (.string s) := HS2.out.1.cell 0
  by_cases hr : Lx.isAt s.data.toList j 114 = true
  ·by_cases h1 : j + 1 < s.size
   ·have HRB := Hd (rB_in hr h1)
    have HCL := Hd (clsAt_in h1)
    by_cases h3 : Lx.cls (s[j + 1]'h1) = 3
    ·have d3 : ((clsAt s.data.toList (j + 1) : Int) == 3) = true := by rw [HCL.out, h3]; rfl
     have HV : Hid (Lx.rB s.data.toList j = true) := Hd (by rw [HRB.out]; unfold Lx.figB Lx.digB; rw [h3]; rfl)
     clear h3
     go_wp2_with (first
      | (go_at_call 91; refine (lis_any g s _ j 114 _ _ HS2.out.lxr rfl rfl).mono ?_; rintro e w' ⟨rfl, rfl⟩; rw [hr])
      | (go_at_call 89; refine (lclass_any g s _ (j + 1) _ HS2.out.lxr (by go_num)).mono ?_; rintro e w' ⟨rfl, hb, hc⟩))
     go_meet
     exact ⟨by rw [HV.out], HS2.out.below (by assumption), bnext HB2.out (by assumption)⟩
    ·have d3 : ((clsAt s.data.toList (j + 1) : Int) == 3) = false := by rw [beq_eq_false_iff_ne, HCL.out]; omega
     have HV : Hid (Lx.rB s.data.toList j = Lx.capB (s[j + 1]'h1)) := Hd (by rw [HRB.out]; unfold Lx.figB Lx.digB; simp [h3])
     clear h3
     go_wp2_with (first
      | (go_at_call 91; refine (lis_any g s _ j 114 _ _ HS2.out.lxr rfl rfl).mono ?_; rintro e w' ⟨rfl, rfl⟩; rw [hr])
      | (go_at_call 89; refine (lclass_any g s _ (j + 1) _ HS2.out.lxr (by go_num)).mono ?_; rintro e w' ⟨rfl, hb, hc⟩)
      | (go_at_call 133; refine (cap_any _ _).mono ?_; rintro e w'' ⟨rfl, rfl⟩))
     go_meet
     exact ⟨by rw [HV.out], HS2.out.below (by assumption), bnext HB2.out (by assumption)⟩
   ·have HV : Hid (Lx.rB s.data.toList j = false) := Hd (rB_out h1)
    go_wp2_with (first
     | (go_at_call 91; refine (lis_any g s _ j 114 _ _ HS2.out.lxr rfl rfl).mono ?_; rintro e w' ⟨rfl, rfl⟩; rw [hr]))
    go_meet
    exact ⟨by rw [HV.out], HS2.out, HB2.out⟩
  ·have hr' : Lx.isAt s.data.toList j 114 = false := by simpa using hr
   have HV : Hid (Lx.rB s.data.toList j = false) := Hd (rB_no hr')
   clear hr
   go_wp2_with (first
    | (go_at_call 91; refine (lis_any g s _ j 114 _ _ HS2.out.lxr rfl rfl).mono ?_; rintro e w' ⟨rfl, rfl⟩; rw [hr']))
   go_meet
   exact ⟨by rw [HV.out], HS2.out, HB2.out⟩
 case rest =>
 obtain ⟨rfl, hS, hB⟩ := hcut
 obtain ⟨t0, ht0⟩ : ∃ t0, s.extract i j = t0 := ⟨_, rfl⟩
 have HT0 : Hid (t0.data.toList = Lx.cut s.data.toList i j) := Hd (by rw [← ht0, extract_cut])
 have HT1 : Hid (t0.size = j - i) := Hd (size_cut HT0.out (by simpa using HJ2.out))
 rw [ht0]
 have HS3 := Hd hS
 have HB3 := Hd hB
 clear hS hB ht0 HS2 HB2
 go_upto_if 58 with fail
 go_cut [4, 5, 6] (fun s4 s5 s6 wx => ∃ (k b : Nat) (t : ByteArray), s4 = .int .i64 k ∧ s5 = .int .i64 b ∧ s6 = .string t ∧ Lx.numF s.data.toList i = (Lx.decF b t.data.toList).map (fun u => (u, k)) ∧
  (∀ x ∈ t.data.toList, Lx.figB x = true) ∧ b ≤ 99 ∧ t.size ≤ 65536 ∧ k ≤ s.size ∧ LxS wx base g s (i : Int) v l ∧ Below w.heap.size w wx)
 case first =>
  by_cases hq : Lx.rB s.data.toList j = true
  ·rw [hq]
   have hj1 := rB_lt hq
   have HQ := Hd hq
   clear hq
   go_upto_block 0 with fail
   go_cut [4] (fun s4 wx => s4 = .int .i64 (Lx.runF Lx.figB s.data.toList (j + 1) : Nat) ∧ LxS wx base g s (i : Int) v l ∧ Below w.heap.size w wx)
   case first =>
    go_wp2
    go_loopw [4] (fun e wx => ∃ k : Nat, k ≤ s.size ∧ j + 1 ≤ k ∧ e = .int .i64 k ∧ Lx.runF Lx.figB s.data.toList k = Lx.runF Lx.figB s.data.toList (j + 1) ∧ LxS wx base g s (i : Int) v l ∧ Below w.heap.size w wx) (fun e _ => s.size - (intOf e).toNat)
    case atStart => exact ⟨j + 1, by omega, Nat.le_refl _, by go_num, rfl, HS3.out, HB3.out⟩
    case round =>
     obtain ⟨k, hk, hjk, rfl, hrun, hS, hB⟩ := hrel
     have HRUN := Hd hrun
     have HS4 := Hd hS
     have HB4 := Hd hB
     clear hrun hS hB
     by_cases hkl : k < s.size
     ·have hc0 : wr.cell? ⟨g, 0, none⟩ = some (.string s) := HS4.out.1.cell 0
      have HC := Hd (clsAt_in hkl)
      have HX := Hd (get_in hkl)
      by_cases hf : Lx.figB (s[k]'hkl) = true
      ·have HST := Hd ((Lx.runF_step HX.out hf).trans HRUN.out)
       by_cases h3 : Lx.cls (s[k]'hkl) = 3
       ·have d3 : ((clsAt s.data.toList k : Int) == 3) = true := by rw [HC.out, h3]; rfl
        clear h3 hf
        go_wp2_with (first
         | (go_at_call 89; refine (lclass_any g s _ k _ HS4.out.lxr rfl).mono ?_; rintro e w' ⟨rfl, hb, hc⟩))
        go_roundw
        case rel => exact ⟨k + 1, hkl, by omega, by go_num, HST.out, HS4.out.below (by assumption), bnext HB4.out (by assumption)⟩
        case measure => simp [intOf]; omega
       ·have d3 : ((clsAt s.data.toList k : Int) == 3) = false := by rw [beq_eq_false_iff_ne, HC.out]; omega
        have hcap : Lx.capB (s[k]'hkl) = true := by
         unfold Lx.figB Lx.digB at hf
         simpa [h3] using hf
        clear h3 hf
        go_wp2_with (first
         | (go_at_call 89; refine (lclass_any g s _ k _ HS4.out.lxr rfl).mono ?_; rintro e w' ⟨rfl, hb, hc⟩)
         | (go_at_call 133; refine (cap_any _ _).mono ?_; rintro e w'' ⟨rfl, rfl⟩; rw [hcap]))
        go_roundw
        case rel => exact ⟨k + 1, hkl, by omega, by go_num, HST.out, HS4.out.below (by assumption), bnext HB4.out (by assumption)⟩
        case measure => simp [intOf]; omega
      ·have hf' : Lx.figB (s[k]'hkl) = false := by simpa using hf
       have HST := Hd ((Lx.runF_stop HX.out hf').symm.trans HRUN.out)
       have d3 : ((clsAt s.data.toList k : Int) == 3) = false := by
        rw [beq_eq_false_iff_ne, HC.out]
        intro h3
        rw [show Lx.figB (s[k]'hkl) = true from by unfold Lx.figB Lx.digB; rw [show Lx.cls (s[k]'hkl) = 3 from by omega]; rfl] at hf'
        cases hf'
       have hcap : Lx.capB (s[k]'hkl) = false := by
        unfold Lx.figB at hf'
        simp at hf'
        exact hf'.2
       clear hf hf'
       go_wp2_with (first
        | (go_at_call 89; refine (lclass_any g s _ k _ HS4.out.lxr rfl).mono ?_; rintro e w' ⟨rfl, hb, hc⟩)
        | (go_at_call 133; refine (cap_any _ _).mono ?_; rintro e w'' ⟨rfl, rfl⟩; rw [hcap]))
       go_meet
       exact ⟨by rw [HST.out], HS4.out.below (by assumption), bnext HB4.out (by assumption)⟩
     ·obtain rfl : k = s.size := by omega
      have HST := Hd ((Lx.runF_end (p := Lx.figB) (l := s.data.toList) (i := s.size) (by simp)).symm.trans HRUN.out)
      have hc0 : wr.cell? ⟨g, 0, none⟩ = some (.string s) := HS4.out.1.cell 0
      go_wp2
      go_meet
      exact ⟨by rw [← HST.out], HS4.out, HB4.out⟩
   case rest =>
   obtain ⟨rfl, hS, hB⟩ := hcut
   have HK1 := Hd (Lx.runF_ge Lx.figB s.data.toList (j + 1))
   have HK2 : Hid (Lx.runF Lx.figB s.data.toList (j + 1) ≤ s.size) := Hd (by have := Lx.runF_le Lx.figB s.data.toList (j + 1) (by simp; omega); simpa using this)
   have HCR := Hd (Lx.cut_run_all Lx.figB s.data.toList (j + 1))
   have HNR := Hd fun (h2 : ¬ 2 < j - i) => Lx.numF_r (l := s.data.toList) (i := i) (by rw [HJ.out]; exact HQ.out) (by rw [HJ.out]; exact h2)
   have HNR2 := Hd fun (h2 : 2 < j - i) => Lx.numF_r2 (l := s.data.toList) (i := i) (by rw [HJ.out]; exact HQ.out) (by rw [HJ.out]; exact h2)
   rw [HJ.out] at HNR
   generalize Lx.runF Lx.figB s.data.toList (j + 1) = k at *
   have HS4 := Hd hS
   have HB4 := Hd hB
   clear hS hB
   by_cases h2 : 2 < j - i
   ·have HE := Hd (numS_none (HNR2.out h2))
    have ht2 : 2 < t0.size := by rw [HT1.out]; exact h2
    have hc1 : wc.cell? ⟨g, 1, none⟩ = some (.int .i64 (i : Int)) := HS4.out.1.cell 1
    clear h2
    go_wp2
    go_ret2
    exact TokP.bad_ (p := i) (er := 123) HE.out (by decide) (HB4.out.mono hb0)
   ·have ht2 : t0.size ≤ 2 := by rw [HT1.out]; omega
    have HNM := Hd (HNR.out h2)
    have HDG : Hid (∀ x ∈ t0.data.toList, Lx.digB x = true) := Hd (by
     rw [HT0.out, ← HJ.out]
     exact Lx.cut_run_all Lx.digB _ _)
    have hcv := fun (w : World) => Lib.run_convert_string_bytes (P := Tryz.prog) w 9 47 5 t0 Tryz.underlying9 Tryz.underlying47 Tryz.underlying5
    have HDR := Hd (DR.new wc t0)
    have HBW := Hd (Joins.below_bytesWorld wc.heap.size wc 5 t0 (Nat.le_refl _))
    have HBN : Hid (∀ q, Lx.baseN (t0.data.toList.take q) 0 ≤ 99) := Hd fun q => Lx.baseN_le (fun x hx => HDG.out x (List.mem_of_mem_take hx)) (by simp; omega)
    clear h2
    go_wp2
    clear hcv
    generalize Lib.bytesWorld wc 5 t0 = wb at HDR HBW ⊢
    go_loop [5, 96] (fun s5 e => ∃ q : Nat, q ≤ t0.size ∧ e = .int .i64 q ∧ s5 = .int .i64 (Lx.baseN (t0.data.toList.take q) 0 : Nat)) (fun _ e => t0.size - (intOf e).toNat)
    case atStart => exact ⟨0, Nat.zero_le _, rfl, rfl⟩
    case round =>
     obtain ⟨q, hq, rfl, rfl⟩ := hrel
     have hb99 := HBN.out q
     by_cases hql : q < t0.size
     ·have hx := get_in hql
      have HTK : Hid (t0.data.toList.take (q + 1) = t0.data.toList.take q ++ [t0[q]'hql]) := Hd (by rw [List.take_add_one, hx]; rfl)
      have hcell := HDR.out.cell hx
      have hrg := Lx.digB_range (HDG.out _ (List.mem_of_getElem? hx))
      generalize t0[q]'hql = x at *
      have HS := Hd (Lx.baseN_snoc (t0.data.toList.take q) 0 x)
      generalize Lx.baseN (t0.data.toList.take q) 0 = bb at *
      clear hx
      have r1 := hrg.1
      have r2 := hrg.2
      go_wp2
      go_round
      case rel => exact ⟨q + 1, hql, by go_num, by rw [HTK.out, HS.out, show ((10 * bb + (x.toNat - 48) : Nat) : Int) = 10 * (bb : Int) + ((x.toNat : Int) - 48) from by omega]⟩
      case measure => simp [intOf]; omega
     ·obtain rfl : q = t0.size := by omega
      have HTA : Hid (t0.data.toList.take t0.size = t0.data.toList) := Hd (List.take_of_length_le (by simp))
      rw [HTA.out] at hb99 ⊢
      have HS9 := Hd (HS4.out.below HBW.out)
      have hc0 : wb.cell? ⟨g, 0, none⟩ = some (.string s) := HS9.out.1.cell 0
      have k1 := HK1.out
      have k2 := HK2.out
      have k3 : (j : Int) + 1 ≤ (k : Int) := by omega
      have k4 : (0 : Int) ≤ (j : Int) + 1 := by omega
      have k5 : (k : Int) ≤ (s.size : Int) := by omega
      go_wp2
      go_meet
      have HEX : Hid ((s.extract (j + 1) k).data.toList = Lx.cut s.data.toList (j + 1) k) := Hd (extract_cut s (j + 1) k)
      exact ⟨k, _, s.extract (j + 1) k, rfl, rfl, rfl, by rw [HEX.out, HT0.out]; exact HNM.out, by rw [HEX.out]; exact HCR.out, hb99, by rw [size_cut HEX.out (by simpa using k2)]; omega, k2, HS9.out, bnext HB4.out HBW.out⟩
  ·have hq' : Lx.rB s.data.toList j = false := by simpa using hq
   rw [hq']
   have HN : Hid (Lx.numF s.data.toList i = (Lx.decF 10 t0.data.toList).map (fun u => (u, j))) := Hd (by rw [HT0.out, ← HJ.out]; exact Lx.numF_n (by rw [HJ.out]; exact hq'))
   have HF0 : Hid (∀ x ∈ t0.data.toList, Lx.figB x = true) := Hd (by
    rw [HT0.out, ← HJ.out]
    exact fun x hx => Lx.digB_fig (Lx.cut_run_all Lx.digB _ _ x hx))
   clear hq hq'
   go_wp2
   go_meet
   exact ⟨j, 10, t0, rfl, rfl, rfl, HN.out, HF0.out, by omega, by rw [HT1.out]; omega, j2, HS3.out, HB3.out⟩
 case rest =>
 obtain ⟨k, b, t, rfl, rfl, rfl, hnum, hfig, hb99, ht, hk, hS, hB⟩ := hcut
 have HNUM := Hd hnum
 have HS5 := Hd hS
 have HB5 := Hd hB
 have HFIG := Hd hfig
 clear hnum hS hB hfig HS3 HB3
 cases hd : Lx.decF b t.data.toList with
 | none =>
  have HE := Hd (numS_none (show Lx.numF s.data.toList i = none by rw [HNUM.out, hd]; rfl))
  have HD := Hd hd
  clear hd
  go_wp2_with (go_at_call 134; refine (decimal_any b t _ (by omega) ht HFIG.out).mono ?_; rintro e w' ⟨rfl, hb⟩; rw [HD.out, decVn]; have hc1 : w'.cell? ⟨g, 1, none⟩ = some (.int .i64 (i : Int)) := (HS5.out.below hb).1.cell 1)
  go_ret2
  exact TokP.bad_ (p := i) (er := 123) HE.out (by decide) ((bnext HB5.out (by assumption)).mono hb0)
 | some u =>
  have HE := Hd (numS_some (show Lx.numF s.data.toList i = some (u, k) by rw [HNUM.out, hd]; rfl))
  have HD := Hd hd
  clear hd
  go_wp2_with (first
   | (go_at_call 134; refine (decimal_any b t _ (by omega) ht HFIG.out).mono ?_; rintro e w' ⟨rfl, hb⟩; rw [HD.out, decVs]; have HS6 := Hd (HS5.out.below hb); have HB6 := Hd (bnext HB5.out hb); clear hb)
   | (go_at_call 92; refine (lput_any base g s i v l 4 u _ _ HS6.out (Nat.le_trans hb0 HB6.out.size) hl).mono ?_; rintro e w'' ⟨rfl, hb7, hs7⟩; have HB7 := Hd hb7; have HS7 := Hd hs7; clear hb7 hs7))
  go_ret2
  exact TokP.tok_ HE.out (by decide) ((HB6.out.mono hb0).trans HB7.out) HS7.out
end Go.Proofs.YtjhonaglmgmpiaaGreatDoor
