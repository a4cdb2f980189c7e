/-
  Parts LxK, RefC, RefD, RefE of the proof. No statement of the seat is proved here.
-/
import Derived.Test.YtjhonaglmgmpiaaGreatDoorP04
import Derived.Test.YtjhonaglmgmpiaaGreatDoorP23
set_option maxHeartbeats 4000000
namespace Go.Proofs.YtjhonaglmgmpiaaGreatDoor
namespace Lx
def stripT : Txt → Txt
 | [] => []
 | [x] => [x]
 | x :: y :: t => if x = 48 then stripT (y :: t) else x :: y :: t
theorem dig_val {x : UInt8} (h : digB x = true) : valF x = x.toNat - 48 ∧ valF x < 10 ∧ 48 ≤ x.toNat := by
 have hr := digB_range h
 have hc : capB x = false := by unfold capB; simp; omega
 rw [valF_dig hc]
 omega
theorem co_small {d : Nat} (h0 : ¬ d = 0) (h : d < 10) : co d = [d] := by
 unfold co; rw [if_neg h0, if_pos h]
theorem grow10 : ∀ (n : List Nat) (d : Nat), Dg n → d < 10 → (h : n ≠ []) → n.getLast h ≠ 0 → growF 10 n d = d :: n
 | [x], d, hn, hd, _, hl => by
  have hx := hn x (by simp)
  have hx0 : ¬ x = 0 := by simpa using hl
  have e1 : (x * 10 + d) % 10 = d := by omega
  have e2 : (x * 10 + d) / 10 = x := by omega
  simp only [growF, e1, e2, co_small hx0 hx]
 | x :: y :: t, d, hn, hd, _, hl => by
  have hx := hn x (by simp)
  have e1 : (x * 10 + d) % 10 = d := by omega
  have e2 : (x * 10 + d) / 10 = x := by omega
  have ih := grow10 (y :: t) x (fun z hz => hn z (List.mem_cons_of_mem _ hz)) hx (by simp) (by simpa using hl)
  have e3 : growF 10 (x :: y :: t) d = (x * 10 + d) % 10 :: growF 10 (y :: t) ((x * 10 + d) / 10) := rfl
  rw [e3, e1, e2, ih]
theorem decN10_on : ∀ (ds : Txt) (n : List Nat), (∀ x ∈ ds, digB x = true) → Dg n → (h : n ≠ []) → n.getLast h ≠ 0 → decN 10 n ds = some ((ds.map valF).reverse ++ n)
 | [], n, _, _, _, _ => by simp [decN]
 | x :: t, n, hds, hn, h, hl => by
  obtain ⟨_, hv, _⟩ := dig_val (hds x (by simp))
  have hg := grow10 n (valF x) hn hv h hl
  have e : decN 10 n (x :: t) = decN 10 (growF 10 n (valF x)) t := by simp only [decN, if_pos hv]
  rw [e, hg, decN10_on t (valF x :: n) (fun z hz => hds z (List.mem_cons_of_mem _ hz)) (fun z hz => by
   rcases List.mem_cons.1 hz with rfl | hz
   ·exact hv
   ·exact hn z hz) (by simp) (by rw [List.getLast_cons h]; exact hl)]
  simp
theorem decN10 : ∀ (ds : Txt), (∀ x ∈ ds, digB x = true) → ds ≠ [] → ∃ n, decN 10 [] ds = some n ∧ txtN (fixN n) = stripT ds ∧ n.length ≤ ds.length
 | [x], hds, _ => by
  obtain ⟨h1, hv, h48⟩ := dig_val (hds x (by simp))
  by_cases h0 : valF x = 0
  ·refine ⟨[], ?_, ?_, by simp⟩
   ·have e : decN 10 [] [x] = decN 10 (growF 10 [] (valF x)) [] := by simp only [decN, if_pos hv]
    rw [e, h0]; rfl
   ·have : x = 48 := by rw [← UInt8.toNat_inj]; show _ = 48; omega
    rw [this]; rfl
  ·refine ⟨[valF x], ?_, ?_, by simp⟩
   ·have e : decN 10 [] [x] = decN 10 (growF 10 [] (valF x)) [] := by simp only [decN, if_pos hv]
    have e2 : growF 10 [] (valF x) = co (valF x) := rfl
    rw [e, e2, co_small h0 hv]; rfl
   ·have e : (UInt8.ofNat (48 + valF x)) = x := by rw [← UInt8.toNat_inj, UInt8.toNat_ofNat']; omega
    show [UInt8.ofNat (48 + valF x)] = [x]
    rw [e]
 | x :: y :: t, hds, _ => by
  obtain ⟨h1, hv, h48⟩ := dig_val (hds x (by simp))
  have e : decN 10 [] (x :: y :: t) = decN 10 (growF 10 [] (valF x)) (y :: t) := by simp only [decN, if_pos hv]
  by_cases h0 : valF x = 0
  ·have hx : x = 48 := by rw [← UInt8.toNat_inj]; show _ = 48; omega
   obtain ⟨n, a, b, c⟩ := decN10 (y :: t) (fun z hz => hds z (List.mem_cons_of_mem _ hz)) (by simp)
   refine ⟨n, ?_, ?_, ?_⟩
   ·rw [e, h0]; exact a
   ·rw [b, hx]; simp [stripT]
   ·simp at c ⊢; omega
  ·have hx : ¬ x = 48 := fun h => h0 (by rw [h1, h]; rfl)
   have e2 : growF 10 [] (valF x) = co (valF x) := rfl
   have e3 := decN10_on (y :: t) [valF x] (fun z hz => hds z (List.mem_cons_of_mem _ hz)) (fun z hz => by simp at hz; omega) (by simp) (by simpa using h0)
   refine ⟨_, by rw [e, e2, co_small h0 hv, e3], ?_, by simp⟩
   have hne : ((y :: t).map valF).reverse ++ [valF x] ≠ [] := by simp
   have key : ∀ z, digB z = true → UInt8.ofNat (48 + valF z) = z := fun z hz => by
    obtain ⟨a, b, c⟩ := dig_val hz
    rw [← UInt8.toNat_inj, UInt8.toNat_ofNat']; omega
   unfold fixN
   rw [if_neg hne]
   unfold txtN stripT
   rw [if_neg hx, List.reverse_append, List.reverse_reverse]
   have hmap : ((y :: t).map valF).map (fun d => UInt8.ofNat (48 + d)) = y :: t := by
    rw [List.map_map]
    exact (List.map_congr_left (fun z hz => key z (hds z (List.mem_cons_of_mem _ hz)))).trans (List.map_id _)
   rw [List.map_append, hmap]
   show UInt8.ofNat (48 + valF x) :: (y :: t) = x :: y :: t
   rw [key x (hds x (by simp))]
theorem decF10 {ds : Txt} (h : ∀ x ∈ ds, digB x = true) (hne : ds ≠ []) (hl : ds.length ≤ 1000) : decF 10 ds = some (stripT ds) := by
 obtain ⟨n, a, b, c⟩ := decN10 ds h hne
 have hf : ¬ 1000 < (fixN n).length := by rw [fixN_len]; omega
 rw [decF_some (by omega) a hf, b]
theorem strip_step {l : Txt} {i j : Nat} (h : i + 1 < j) (hj : j ≤ l.length) (h0 : l[i]? = some 48) : stripT (cut l (i + 1) j) = stripT (cut l i j) := by
 have e : cut l i j = 48 :: cut l (i + 1) j := by
  unfold cut
  exact drop_at (by rw [List.getElem?_take_of_lt (by omega)]; exact h0)
 have hlen := cut_len l (i + 1) j hj
 match hc : cut l (i + 1) j with
 | [] => rw [hc] at hlen; simp at hlen; omega
 | y :: t => rw [e, hc]; simp [stripT]
theorem strip_stop {l : Txt} {i j : Nat} (hij : i < j) (hj : j ≤ l.length) {x : UInt8} (hx : l[i]? = some x) (h : ¬ (i + 1 < j ∧ x = 48)) : stripT (cut l i j) = cut l i j := by
 have e : cut l i j = x :: cut l (i + 1) j := by
  unfold cut
  exact drop_at (by rw [List.getElem?_take_of_lt (by omega)]; exact hx)
 have hlen := cut_len l (i + 1) j hj
 rw [e]
 match hc : cut l (i + 1) j with
 | [] => rfl
 | y :: t =>
  rw [hc] at hlen
  simp at hlen
  have : ¬ x = 48 := fun hx => h ⟨by omega, hx⟩
  simp [stripT, this]
end Lx
end Go.Proofs.YtjhonaglmgmpiaaGreatDoor
namespace Go.Proofs.YtjhonaglmgmpiaaGreatDoor
open Go.RowKit
theorem ret_str {a b : ByteArray} (h : a = b) : Ending.returned (.string a) = .returned (.string b) := by rw [h]
theorem txt_get {m : List Nat} {j : Nat} (hj : j < m.length) : (Lx.txtN m)[j]? = some (UInt8.ofNat (48 + m[m.length - 1 - j])) := by
 unfold Lx.txtN
 rw [List.getElem?_map, List.getElem?_reverse hj, List.getElem?_eq_getElem (by omega)]
 rfl
theorem take_set {t : List UInt8} {j n : Nat} {x : UInt8} (hx : t[j]? = some x) (hn : t.length = n) :
  (t.take j ++ List.replicate (n - j) 0).set j x = t.take (j + 1) ++ List.replicate (n - (j + 1)) 0 := by
 have hj : j < t.length := by
  rcases Nat.lt_or_ge j t.length with h | h
  ·exact h
  ·rw [List.getElem?_eq_none h] at hx; cases hx
 have hl : (t.take j).length = j := by simp; omega
 have e : n - j = (n - (j + 1)) + 1 := by omega
 rw [e, List.replicate_succ, List.set_append_right _ _ (by omega), hl, Nat.sub_self, List.set_cons_zero, List.take_add_one, hx]
 simp
set_option maxRecDepth 20000 in
theorem shown_any (A : Option Addr) (cp : Nat) (m : List Nat) (w : World) (h : RdB w w.heap.size A m.length (Lx.dgB m)) (hm : Lx.Dg m) (hl : m.length ≤ 100000) :
  Calls Tryz.prog 80 #[.slice A m.length cp] w fun e w' => e = .returned (.string ⟨(Lx.txtN (Lx.fixN m)).toArray⟩) ∧ Below w.heap.size w w' := by
 by_cases h0 : m = []
 ·subst h0
  go_enter Tryz.func80, Tryz.ntmps80
  go_wp2
  go_ret
  exact ⟨rfl, Below.refl _ _⟩
 ·have hpos : 0 < m.length := List.length_pos_iff.2 h0
  have HF : Hid (Lx.fixN m = m) := Hd (by unfold Lx.fixN; rw [if_neg h0])
  have d0 : ((m.length : Int) == 0) = false := by rw [beq_eq_false_iff_ne]; omega
  obtain ⟨i0, hi, hz0, hz1, hz2⟩ := info_parts info5'
  have hmk := fun (w : World) => run_make_rowN (P := Tryz.prog) 47 5 i0 (.int .u8 0) Tryz.underlying47 hi hz0 .i64 .i64 m.length m.length (Nat.le_refl _) (by rw [hz2]; omega) (by omega) w
  simp only [hz1, Nat.mul_one, Value.cells] at hmk
  have HMO := Hd (made_own w m.length (by omega))
  have H := Hd h
  have HDM := Hd hm
  clear h hm hi hz0 hz1 hz2 h0
  go_enter Tryz.func80, Tryz.ntmps80
  go_wp2
  clear hmk
  go_loopw [4] (fun e wx => ∃ j : Nat, j ≤ m.length ∧ e = .int .i64 j ∧ OwnB 5 wx w.heap.size (.slice (some ⟨w.heap.size, 0, none⟩) m.length m.length) ((Lx.txtN m).take j ++ List.replicate (m.length - j) 0) ∧ Below w.heap.size w wx) (fun e _ => m.length - (intOf e).toNat)
  case atStart => exact ⟨0, Nat.zero_le _, rfl, by have h := HMO.out; simpa using h, (Below.refl _ _).alloc (Nat.le_refl _) _⟩
  case round =>
   obtain ⟨j, hj, rfl, hown, hb⟩ := hrel
   have HO2 := Hd hown
   have HB2 := Hd hb
   by_cases hjl : j < m.length
   ·have hq : m.length - 1 - j < m.length := by omega
    have hy10 : m[m.length - 1 - j] < 10 := HDM.out _ (List.getElem_mem hq)
    obtain ⟨ad, x, rfl, hb1, hx, hc⟩ := (H.out.below HB2.out).byte hq
    have hxv : (x.toNat : Int) = (m[m.length - 1 - j] : Nat) := by
     have e : x = UInt8.ofNat m[m.length - 1 - j] := by
      rw [Lx.dgB, List.getElem?_map, List.getElem?_eq_getElem hq] at hx
      exact (Option.some.inj hx).symm
     rw [e]; exact ofNat_val (by omega)
    rw [hxv] at hc
    have htx := txt_get hjl
    obtain ⟨y, hy⟩ : ∃ y, m[m.length - 1 - j] = y := ⟨_, rfl⟩
    rw [hy] at hy10 hc htx
    have hlen : ((Lx.txtN m).take j ++ List.replicate (m.length - j) (0 : UInt8)).length = m.length := by simp [Lx.txtN_len]; omega
    have h6 : OwnB 5 wr w.heap.size (.slice (some ⟨w.heap.size, 0, none⟩) ((Lx.txtN m).take j ++ List.replicate (m.length - j) (0 : UInt8)).length m.length) ((Lx.txtN m).take j ++ List.replicate (m.length - j) 0) := by rw [hlen]; exact hown
    obtain ⟨c1, f1⟩ := h6.at_ (i := j) (by rw [hlen]; exact hjl)
    have h7 := h6.stored j (UInt8.ofNat (48 + y))
    rw [take_set htx (Lx.txtN_len m), show ((Lx.txtN m).take (j + 1) ++ List.replicate (m.length - (j + 1)) (0 : UInt8)).length = m.length from by simp [Lx.txtN_len]; omega] at h7
    unfold bv at h7
    rw [ofNat_val (by omega), show ((48 + y : Nat) : Int) = 48 + (y : Int) from by omega] at h7
    have HO7 := Hd h7
    obtain ⟨q, hqe⟩ : ∃ q : Nat, m.length - 1 - j = q := ⟨_, rfl⟩
    rw [hqe] at hc
    have l1 : (m.length : Int) - 1 - (j : Int) = (q : Int) := by omega
    have HL1 := Hd l1
    have hqn : q < m.length := by omega
    clear h7 h6 hown hb hx hxv htx hy hlen hqe l1 hq hb1
    have l2 : (0 : Int) ≤ (m.length : Int) - 1 - (j : Int) := by rw [HL1.out]; omega
    have l3 : (m.length : Int) - 1 - (j : Int) < (m.length : Int) := by rw [HL1.out]; omega
    have hc' : wr.cell? (ad.add (m.length - 1 - j)) = some (.int .u8 (y : Int)) := by
     have e : m.length - 1 - j = q := by have := HL1.out; omega
     rw [e]; exact hc
    go_wp2
    go_roundw
    case rel => exact ⟨j + 1, hjl, by go_num, HO7.out, HB2.out.setCell (Nat.le_refl _) _⟩
    case measure => simp [intOf]; omega
   ·obtain rfl : j = m.length := by omega
    have h8 : OwnB 5 wr w.heap.size (.slice (some ⟨w.heap.size, 0, none⟩) m.length m.length) (Lx.txtN m) := by
     have := HO2.out
     rwa [Nat.sub_self, List.replicate_zero, List.append_nil, List.take_of_length_le (by rw [Lx.txtN_len]; exact Nat.le_refl _)] at this
    have hst : (convert 47 9 (.slice (some ⟨w.heap.size, 0, none⟩) m.length m.length)).run Tryz.prog wr = .ok (.string ⟨(Lx.txtN m).toArray⟩) wr := run_string_of wr 47 9 5 (OwnB.reads h8 (Lx.txtN_len m).symm) Tryz.underlying47 Tryz.underlying5 Tryz.underlying9
    clear h8 hown hb
    go_wp2
    go_ret
    exact ⟨ret_str (by rw [HF.out]), HB2.out⟩
set_option maxRecDepth 100000 in
theorem fig0 : Lx.figB 0 = false := by decide
theorem figB_at {s : ByteArray} {i : Nat} : Lx.figB (atN s.data.toList i) = (s.data.toList[i]?.map Lx.figB).getD false := by
 unfold atN
 cases h : s.data.toList[i]? with
 | none => exact fig0
 | some x => rfl
theorem atN_yes {l : List UInt8} {i : Nat} {b : UInt8} (h : Lx.isAt l i b = true) : atN l i = b := by
 unfold Lx.isAt at h
 unfold atN
 have : l[i]? = some b := by simpa using h
 rw [this]; rfl
theorem atN_no {l : List UInt8} {i : Nat} {b : UInt8} (h : Lx.isAt l i b = false) (hb : ¬ b = 0) : ¬ atN l i = b := by
 unfold Lx.isAt at h
 unfold atN
 intro e
 cases hx : l[i]? with
 | none => rw [hx] at e; exact hb e.symm
 | some x => rw [hx] at e h; simp at e h; exact h e
theorem cut_snoc {l : List UInt8} {i q : Nat} {x : UInt8} (h : i ≤ q) (hx : l[q]? = some x) : Lx.cut l i (q + 1) = Lx.cut l i q ++ [x] := by
 have hl := Lx.get_lt hx
 unfold Lx.cut
 rw [List.take_add_one, hx, List.drop_append, show i - (l.take q).length = 0 from by simp; omega]
 rfl
theorem cut_cons {l : List UInt8} {q k : Nat} {x : UInt8} (h : q < k) (hx : l[q]? = some x) : Lx.cut l q k = x :: Lx.cut l (q + 1) k := by
 unfold Lx.cut
 exact Lx.drop_at (by rw [List.getElem?_take_of_lt h]; exact hx)
theorem cut_nil (l : List UInt8) (k : Nat) : Lx.cut l k k = [] := by
 unfold Lx.cut
 exact List.drop_eq_nil_of_le (by simp; omega)
theorem cut_at {l : List UInt8} {a x b : Nat} {y : UInt8} (h : a ≤ x) (hx : x < b) (hy : l[x]? = some y) : y ∈ Lx.cut l a b := by
 unfold Lx.cut
 refine List.mem_of_getElem? (i := x - a) ?_
 rw [List.getElem?_drop, show a + (x - a) = x from by omega, List.getElem?_take_of_lt hx]
 exact hy
theorem cut_mem {l : List UInt8} {i q j : Nat} {x : UInt8} (hq : q ≤ j) (hx : x ∈ Lx.cut l i q) : x ∈ Lx.cut l i j := by
 unfold Lx.cut at hx ⊢
 have e : l.take q = (l.take j).take q := by rw [List.take_take, Nat.min_eq_left hq]
 rw [e, List.drop_take] at hx
 exact List.mem_of_mem_take hx
theorem neb_no {x b : UInt8} {c : Int} (hc : c = (b.toNat : Int)) (h : x = b) : ((x.toNat : Int) != c) = false := by rw [hc, h]; simp
theorem neb_yes {x b : UInt8} {c : Int} (hc : c = (b.toNat : Int)) (h : ¬ x = b) : ((x.toNat : Int) != c) = true := by
 rw [bne_iff_ne, hc]
 intro e
 exact h (by rw [← UInt8.toNat_inj]; omega)
set_option maxRecDepth 20000 in
theorem rint_any (s : ByteArray) (i : Nat) (w : World) (hs : s.size ≤ 65536) (hi : i < s.size) (hdg : Lx.digB (s[i]'hi) = true) :
  Calls Tryz.prog 43 #[.string s, .int .i64 (i : Int)] w fun e w' => e = .returned (quoR (Lx.numF s.data.toList i)) ∧ Below w.heap.size w w' := by
 have HJ0 := Hd (Lx.run_pos (get_in hi) hdg)
 clear hdg
 go_enter Tryz.func43, Tryz.ntmps43
 go_upto_block 0 with fail
 go_cut [6] (fun s6 wx => s6 = .int .i64 (Lx.runF Lx.digB s.data.toList i : Nat) ∧ w = wx)
 case first =>
  go_wp2
  go_loopw [6] (fun e wx => ∃ k : Nat, k ≤ s.size ∧ e = .int .i64 k ∧ Lx.runF Lx.digB s.data.toList k = Lx.runF Lx.digB s.data.toList i ∧ w = wx) (fun e _ => s.size - (intOf e).toNat)
  case atStart => exact ⟨i, Nat.le_of_lt hi, rfl, rfl, rfl⟩
  case round =>
   obtain ⟨k, hk, rfl, hrun, rfl⟩ := hrel
   have HRUN := Hd hrun
   clear hrun
   by_cases hkl : k < s.size
   ·have HX := Hd (get_in hkl)
    cases hd : Lx.digB (s[k]'hkl) with
    | true =>
     have HST := Hd ((Lx.runF_step HX.out hd).trans HRUN.out)
     go_wp2_with (go_at_call 40; refine (rdigit_any _ _).mono ?_; rintro e w' ⟨rfl, rfl⟩; rw [hd])
     go_roundw
     case rel => exact ⟨k + 1, hkl, by go_num, HST.out, by first | rfl | trivial⟩
     case measure => simp [intOf]; omega
    | false =>
     have HST := Hd ((Lx.runF_stop HX.out hd).symm.trans HRUN.out)
     go_wp2_with (go_at_call 40; refine (rdigit_any _ _).mono ?_; rintro e w' ⟨rfl, rfl⟩; rw [hd])
     go_meet
     exact ⟨by rw [← HST.out], by first | rfl | trivial⟩
   ·have HST := Hd ((Lx.runF_end (p := Lx.digB) (l := s.data.toList) (i := k) (by simp; omega)).symm.trans HRUN.out)
    go_wp2
    go_meet
    exact ⟨by rw [← HST.out], by first | rfl | trivial⟩
 case rest =>
 obtain ⟨rfl, rfl⟩ := hcut
 have HJ2 : Hid (Lx.runF Lx.digB s.data.toList i ≤ s.size) := Hd (by have := Lx.runF_le Lx.digB s.data.toList i (by simp; exact Nat.le_of_lt hi); simpa using this)
 have HDS := Hd (Lx.cut_run_all Lx.digB s.data.toList i)
 have HNN := Hd fun h => Lx.numF_n (l := s.data.toList) (i := i) h
 have HNR := Hd fun h => Lx.numF_r (l := s.data.toList) (i := i) h
 have HNR2 := Hd fun h => Lx.numF_r2 (l := s.data.toList) (i := i) h
 generalize Lx.runF Lx.digB s.data.toList i = j at *
 have j1 := HJ0.out
 have j2 := HJ2.out
 have HCL : Hid ((Lx.cut s.data.toList i j).length = j - i) := Hd (Lx.cut_len _ _ _ (by simpa using j2))
 go_upto_region 4 with fail
 go_cut [37] (fun s37 wx => s37 = .bool (!Lx.rB s.data.toList j) ∧ w = wx)
 case first =>
  cases hr : Lx.isAt s.data.toList j 114 with
  | false =>
   have d : (((atN s.data.toList j).toNat : Int) != 114) = true := neb_yes (b := 114) rfl (atN_no hr (by decide))
   have HV : Hid (Lx.rB s.data.toList j = false) := Hd (rB_no hr)
   clear hr
   go_wp2_with (go_at_call 41; refine (rat_any s _ j _ rfl).mono ?_; rintro e w' ⟨rfl, rfl⟩)
   go_meet
   exact ⟨by rw [HV.out]; rfl, rfl⟩
  | true =>
   have d : (((atN s.data.toList j).toNat : Int) != 114) = false := neb_no (b := 114) rfl (atN_yes hr)
   have HV : Hid (Lx.rB s.data.toList j = Lx.figB (atN s.data.toList (j + 1))) := Hd (by unfold Lx.rB; rw [hr, figB_at]; rfl)
   clear hr
   go_wp2_with fail
   refine (rat_any s _ j _ rfl).mono ?_
   rintro e w' ⟨rfl, rfl⟩
   go_wp2_with fail
   refine (rat_any s _ (j + 1) _ (by go_num)).mono ?_
   rintro e w' ⟨rfl, rfl⟩
   go_wp2_with fail
   refine (rfigure_any _ _).mono ?_
   rintro e w' ⟨rfl, rfl⟩
   go_wp2
   go_meet
   exact ⟨by rw [HV.out], rfl⟩
 case rest =>
 obtain ⟨rfl, rfl⟩ := hcut
 go_upto_if 37 with fail
 by_cases hq : Lx.rB s.data.toList j = true
 ·rw [hq, Bool.not_true]
  have hj1 := rB_lt hq
  have HR1 := Hd (HNR.out hq)
  have HR2 := Hd (HNR2.out hq)
  clear hq
  go_upto_block 4 with fail
  go_cut [7] (fun s7 wx => s7 = .int .i64 (Lx.runF Lx.figB s.data.toList (j + 1) : Nat) ∧ w = wx)
  case first =>
   go_wp2
   go_loopw [7] (fun e wx => ∃ k : Nat, k ≤ s.size ∧ e = .int .i64 k ∧ Lx.runF Lx.figB s.data.toList k = Lx.runF Lx.figB s.data.toList (j + 1) ∧ w = wx) (fun e _ => s.size - (intOf e).toNat)
   case atStart => exact ⟨j + 1, Nat.le_of_lt hj1, by go_num, rfl, rfl⟩
   case round =>
    obtain ⟨k, hk, rfl, hrun, rfl⟩ := hrel
    have HRUN := Hd hrun
    clear hrun
    by_cases hkl : k < s.size
    ·have HX := Hd (get_in hkl)
     cases hd : Lx.figB (s[k]'hkl) with
     | true =>
      have HST := Hd ((Lx.runF_step HX.out hd).trans HRUN.out)
      go_wp2_with (go_at_call 78; refine (rfigure_any _ _).mono ?_; rintro e w' ⟨rfl, rfl⟩; rw [hd])
      go_roundw
      case rel => exact ⟨k + 1, hkl, by go_num, HST.out, by first | rfl | trivial⟩
      case measure => simp [intOf]; omega
     | false =>
      have HST := Hd ((Lx.runF_stop HX.out hd).symm.trans HRUN.out)
      go_wp2_with (go_at_call 78; refine (rfigure_any _ _).mono ?_; rintro e w' ⟨rfl, rfl⟩; rw [hd])
      go_meet
      exact ⟨by rw [← HST.out], by first | rfl | trivial⟩
    ·have HST := Hd ((Lx.runF_end (p := Lx.figB) (l := s.data.toList) (i := k) (by simp; omega)).symm.trans HRUN.out)
     go_wp2
     go_meet
     exact ⟨by rw [← HST.out], by first | rfl | trivial⟩
  case rest =>
  obtain ⟨rfl, rfl⟩ := hcut
  have HK1 := Hd (Lx.runF_ge Lx.figB s.data.toList (j + 1))
  have HK2 : Hid (Lx.runF Lx.figB s.data.toList (j + 1) ≤ s.size) := Hd (by have := Lx.runF_le Lx.figB s.data.toList (j + 1) (by simp; omega); simpa using this)
  have HFS := Hd (Lx.cut_run_all Lx.figB s.data.toList (j + 1))
  generalize Lx.runF Lx.figB s.data.toList (j + 1) = k at *
  have k1 := HK1.out
  have k2 := HK2.out
  have HCK : Hid ((Lx.cut s.data.toList (j + 1) k).length = k - (j + 1)) := Hd (Lx.cut_len _ _ _ (by simpa using k2))
  by_cases h2 : 2 < j - i
  ·have HE : Hid (Lx.numF s.data.toList i = none) := Hd (HR2.out h2)
   have l1 : (2 : Int) < (j : Int) - (i : Int) := by omega
   clear h2
   go_wp2
   go_ret2
   exact ⟨by rw [HE.out, quoRn]; rfl, Below.refl _ _⟩
  ·have HR3 := Hd (HR1.out h2)
   have l1 : ¬ (2 : Int) < (j : Int) - (i : Int) := by omega
   by_cases hlong : 1000 < k - (j + 1)
   ·have HE : Hid (Lx.numF s.data.toList i = none) := Hd (by rw [HR3.out, Lx.decF_bad (by rw [HCK.out]; omega)]; rfl)
    have l2 : (1000 : Int) < (k : Int) - (j : Int) - 1 := by omega
    clear hlong h2
    go_wp2
    go_ret2
    exact ⟨by rw [HE.out, quoRn]; rfl, Below.refl _ _⟩
   ·have l2 : ¬ (1000 : Int) < (k : Int) - (j : Int) - 1 := by omega
    have hji : j ≤ i + 2 := by omega
    have hkj : k ≤ j + 1001 := by omega
    clear hlong h2
    have HB99 : Hid (∀ q, q ≤ j → Lx.baseN (Lx.cut s.data.toList i q) 0 ≤ 99) := Hd fun q hq => Lx.baseN_le (fun x hx => HDS.out x (cut_mem hq hx)) (by simp [Lx.cut]; omega)
    go_wp2
    go_loop [8, 9] (fun s8 e => ∃ q : Nat, i ≤ q ∧ q ≤ j ∧ e = .int .i64 q ∧ s8 = .int .i64 (Lx.baseN (Lx.cut s.data.toList i q) 0 : Nat)) (fun _ e => j - (intOf e).toNat)
    case atStart => exact ⟨i, Nat.le_refl _, by omega, rfl, by rw [cut_nil]; rfl⟩
    case round =>
     obtain ⟨q, hiq, hqj, rfl, rfl⟩ := hrel
     by_cases hql : q < j
     ·have hqs : q < s.size := by omega
      have hx := get_in hqs
      have HTK := Hd (cut_snoc hiq hx)
      have hrg := Lx.digB_range (HDS.out (s[q]'hqs) (cut_mem (q := q + 1) hql (by rw [HTK.out]; simp)))
      have hb99 := HB99.out q hqj
      have HSN := Hd (Lx.baseN_snoc (Lx.cut s.data.toList i q) 0 (s[q]'hqs))
      generalize Lx.baseN (Lx.cut s.data.toList i q) 0 = bb at *
      clear hx
      have r1 := hrg.1
      have r2 := hrg.2
      go_wp2
      go_round
      case rel => exact ⟨q + 1, by omega, hql, by go_num, by rw [HTK.out, HSN.out, show ((10 * bb + ((s[q]'hqs).toNat - 48) : Nat) : Int) = (bb : Int) * 10 + (((s[q]'hqs).toNat : Int) - 48) from by omega]⟩
      case measure => simp [intOf]; omega
     ·obtain rfl : q = j := by omega
      have hb99 := HB99.out q (Nat.le_refl _)
      obtain ⟨b, hb⟩ : ∃ b, Lx.baseN (Lx.cut s.data.toList i q) 0 = b := ⟨_, rfl⟩
      rw [hb] at hb99 HR3 ⊢
      clear hb
      by_cases hb2 : b < 2
      ·have HE : Hid (Lx.numF s.data.toList i = none) := Hd (by rw [HR3.out, Lx.decF_bad (by omega)]; rfl)
       have l3 : (b : Int) < 2 := by omega
       go_wp2
       go_ret2
       exact ⟨by rw [HE.out, quoRn]; rfl, Below.refl _ _⟩
      ·have l3 : ¬ (b : Int) < 2 := by omega
       by_cases hb36 : 36 < b
       ·have HE : Hid (Lx.numF s.data.toList i = none) := Hd (by rw [HR3.out, Lx.decF_bad (by omega)]; rfl)
        have l4 : (36 : Int) < (b : Int) := by omega
        go_wp2
        go_ret2
        exact ⟨by rw [HE.out, quoRn]; rfl, Below.refl _ _⟩
       ·have l4 : ¬ (36 : Int) < (b : Int) := by omega
        have l5 : (b : Int) ≤ 36 := by omega
        have HG0 : Hid (¬ (b < 2 ∨ 36 < b ∨ 1000 < (Lx.cut s.data.toList (q + 1) k).length)) := Hd (by rw [HCK.out]; omega)
        clear hb2 hb36
        go_wp2
        go_loopw [10, 11] (fun v e wx => ∃ (x : Nat) (n : List Nat), q + 1 ≤ x ∧ x ≤ k ∧ e = .int .i64 x ∧ OwnG wx w.heap.size v n ∧ Lx.Dg n ∧ n.length ≤ 2 * (x - (q + 1)) ∧ Lx.decN b [] (Lx.cut s.data.toList (q + 1) k) = Lx.decN b n (Lx.cut s.data.toList x k) ∧ Below w.heap.size w wx) (fun _ e _ => k - (intOf e).toNat)
        case atStart => exact ⟨q + 1, [], Nat.le_refl _, k1, by go_num, OwnB.nil 5 _ _, (fun x hx => by cases hx), by simp, rfl, Below.refl _ _⟩
        case round =>
         obtain ⟨x, n, hqx, hxk, rfl, hown, hdg, hn, hdec, hb⟩ := hrel
         have HO := Hd hown
         have HDG := Hd hdg
         have HDEC := Hd hdec
         have HB := Hd hb
         have HLN := Hd hn
         obtain ⟨A, cp, rfl, _, _⟩ := OwnB.form hown
         rw [Lx.dgB_len] at HO ⊢
         have HRD := Hd (OwnB.reads HO.out (Lx.dgB_len n).symm)
         clear hown hdg hdec hb hn
         by_cases hxl : x < k
         ·have hxs : x < s.size := by omega
          have hgx := get_in hxs
          have HCC := Hd (cut_cons hxl hgx)
          have hfig : Lx.figB (s[x]'hxs) = true := HFS.out _ (cut_at hqx hxl hgx)
          have hr48 := Lx.figB_ge hfig
          have hr256 := (s[x]'hxs).toNat_lt
          have HGX := Hd hgx
          clear hgx
          go_upto_if 119 with fail
          go_cut [12] (fun s12 wx => s12 = .int .i64 (Lx.valF (s[x]'hxs) : Nat) ∧ wr = wx)
          case first =>
           by_cases hc : Lx.capB (s[x]'hxs) = true
           ·obtain ⟨e1, e2, e3⟩ := Lx.valF_cap hc
            have HV := Hd e1
            have e4 : (65 : Int) ≤ ((s[x]'hxs).toNat : Int) := by omega
            clear e1 hc
            go_wp2
            go_meet
            exact ⟨by rw [HV.out, show (((s[x]'hxs).toNat - 55 : Nat) : Int) = ((s[x]'hxs).toNat : Int) - 65 + 10 from by omega], rfl⟩
           ·have hc' : Lx.capB (s[x]'hxs) = false := by simpa using hc
            have HV := Hd (Lx.valF_dig hc')
            have e4 : ¬ (65 : Int) ≤ ((s[x]'hxs).toNat : Int) := by
             have hd : Lx.digB (s[x]'hxs) = true := by unfold Lx.figB at hfig; rw [hc'] at hfig; simpa using hfig
             have := Lx.digB_range hd
             omega
            clear hc hc'
            go_wp2
            go_meet
            exact ⟨by rw [HV.out, show (((s[x]'hxs).toNat - 48 : Nat) : Int) = ((s[x]'hxs).toNat : Int) - 48 from by omega], rfl⟩
          case rest =>
          obtain ⟨rfl, rfl⟩ := hcut
          have HSOME := Hd fun (h : Lx.valF (s[x]'hxs) < b) => show Lx.decN b n (Lx.cut s.data.toList x k) = Lx.decN b (Lx.growF b n (Lx.valF (s[x]'hxs))) (Lx.cut s.data.toList (x + 1) k) from by rw [HCC.out]; simp only [Lx.decN, if_pos h]
          have HNONE := Hd fun (h : ¬ Lx.valF (s[x]'hxs) < b) => show Lx.decN b n (Lx.cut s.data.toList x k) = none from by rw [HCC.out]; simp only [Lx.decN, if_neg h]
          obtain ⟨c, hc⟩ : ∃ c, Lx.valF (s[x]'hxs) = c := ⟨_, rfl⟩
          rw [hc] at HSOME HNONE ⊢
          clear hc hr48 hr256 hfig
          by_cases hcb : c < b
          ·have HS2 := Hd (HDEC.out.trans (HSOME.out hcb))
           have hci : (c : Int) < (b : Int) := by omega
           have dcb : decide (b ≤ c) = false := by simp; omega
           have HGL := Hd (Lx.growF_len b n c)
           have HGD := Hd (Lx.growF_dg (show b ≤ 36 by omega) n c HDG.out hcb)
           have HGC := Hd (grown_any A cp b c n wr HRD.out HDG.out (by have := HLN.out; omega) (by omega) hcb)
           clear hcb
           go_wp2_with fail
           refine HGC.out.mono ?_
           rintro e w1 ⟨v1, rfl, ho1, hb1⟩
           have HO1 := Hd (Joins.ownsRow_le ho1 HB.out.size)
           have HB1 := Hd (bnext HB.out hb1)
           clear ho1 hb1
           go_wp2
           go_roundw
           case rel => exact ⟨x + 1, Lx.growF b n c, by omega, hxl, by go_num, HO1.out, HGD.out, by have := HGL.out; have := HLN.out; omega, HS2.out, HB1.out⟩
           case measure => simp [intOf]; omega
          ·have HS2 := Hd (HDEC.out.trans (HNONE.out hcb))
           have HE : Hid (Lx.numF s.data.toList i = none) := Hd (by rw [HR3.out, Lx.decF_none HS2.out]; rfl)
           have hci : ¬ (c : Int) < (b : Int) := by omega
           clear hcb
           go_wp2
           go_ret2
           exact ⟨by rw [HE.out, quoRn]; rfl, HB.out⟩
         ·obtain rfl : x = k := by omega
          have HD : Hid (Lx.decN b [] (Lx.cut s.data.toList (q + 1) x) = some n) := Hd (by rw [HDEC.out, cut_nil]; rfl)
          by_cases hn : 1000 < n.length
          ·have HE : Hid (Lx.numF s.data.toList i = none) := Hd (by rw [HR3.out, Lx.decF_long HD.out (by rw [Lx.fixN_len]; exact hn)]; rfl)
           go_wp2
           go_ret2
           exact ⟨by rw [HE.out, quoRn]; rfl, HB.out⟩
          ·have HE : Hid (Lx.numF s.data.toList i = some (Lx.txtN (Lx.fixN n), x)) := Hd (by rw [HR3.out, Lx.decF_some HG0.out HD.out (by rw [Lx.fixN_len]; exact hn)]; rfl)
           go_wp2_with fail
           refine (shown_any A cp n _ HRD.out HDG.out (by omega)).mono ?_
           rintro e w1 ⟨rfl, hb1⟩
           have HB1 := Hd (bnext HB.out hb1)
           clear hb1
           go_wp2
           go_ret2
           exact ⟨by rw [HE.out, quoRs]; rfl, HB1.out⟩
 ·have hq' : Lx.rB s.data.toList j = false := by simpa using hq
  have HN := Hd (HNN.out hq')
  rw [hq', Bool.not_false]
  clear hq hq'
  by_cases hlong : 1000 < j - i
  ·have HE : Hid (Lx.numF s.data.toList i = none) := Hd (by rw [HN.out, Lx.decF_bad (by rw [HCL.out]; omega)]; rfl)
   have l1 : (1000 : Int) < (j : Int) - (i : Int) := by omega
   clear hlong
   go_wp2
   go_ret2
   exact ⟨by rw [HE.out, quoRn]; rfl, Below.refl _ _⟩
  ·have l1 : ¬ (1000 : Int) < (j : Int) - (i : Int) := by omega
   have HD : Hid (Lx.numF s.data.toList i = some (Lx.stripT (Lx.cut s.data.toList i j), j)) := Hd (by
    rw [HN.out, Lx.decF10 HDS.out (by intro e; have := HCL.out; rw [e] at this; simp at this; omega) (by rw [HCL.out]; omega)]
    rfl)
   clear hlong
   go_wp2
   go_loop [1] (fun e => ∃ k : Nat, i ≤ k ∧ k < j ∧ e = .int .i64 k ∧ Lx.stripT (Lx.cut s.data.toList k j) = Lx.stripT (Lx.cut s.data.toList i j)) (fun e => j - (intOf e).toNat)
   case atStart => exact ⟨i, Nat.le_refl _, by omega, rfl, rfl⟩
   case round =>
    obtain ⟨k, hik, hkj, rfl, hst⟩ := hrel
    have HST := Hd hst
    clear hst
    have hks : k < s.size := by omega
    by_cases h1 : k + 1 < j
    ·have l2 : (k : Int) + 1 < (j : Int) := by omega
     by_cases h48 : s[k]'hks = 48
     ·have d : (((s[k]'hks).toNat : Int) == 48) = true := eqb_yes (b := 48) rfl h48
      have HS2 := Hd ((Lx.strip_step h1 (by simpa using j2) (by rw [get_in hks, h48])).trans HST.out)
      clear h48
      go_wp2
      go_round
      case rel => exact ⟨k + 1, by omega, h1, by go_num, HS2.out⟩
      case measure => simp [intOf]; omega
     ·have d : (((s[k]'hks).toNat : Int) == 48) = false := eqb_no (b := 48) rfl h48
      have HS2 := Hd ((Lx.strip_stop hkj (by simpa using j2) (get_in hks) (fun h => h48 h.2)).symm.trans HST.out)
      have k3 : (k : Int) ≤ (j : Int) := by omega
      have k4 : (j : Int) ≤ (s.size : Int) := by omega
      clear h48
      go_wp2
      go_ret2
      exact ⟨by rw [HD.out, quoRs, str_cut s k j, HS2.out]; rfl, Below.refl _ _⟩
    ·have l2 : ¬ (k : Int) + 1 < (j : Int) := by omega
     have HS2 := Hd ((Lx.strip_stop hkj (by simpa using j2) (get_in hks) (fun h => h1 h.1)).symm.trans HST.out)
     have k3 : (k : Int) ≤ (j : Int) := by omega
     have k4 : (j : Int) ≤ (s.size : Int) := by omega
     clear h1
     go_wp2
     go_ret2
     exact ⟨by rw [HD.out, quoRs, str_cut s k j, HS2.out]; rfl, Below.refl _ _⟩
set_option maxRecDepth 20000 in
theorem rput_any (base : Nat) (v : Value) (l : List Lx.Tk) (kd p : Nat) (kI pI : Int) (t : List UInt8) (w : World) (h : OwnT w base v l) (hb0 : base ≤ w.heap.size) (hl : l.length ≤ 65536) (hk : kI = kd) (hp : pI = p) :
  Calls Tryz.prog 42 #[v, .int .i64 kI, .string ⟨t.toArray⟩, .int .i64 pI] w fun e w' => ∃ v', e = .returned v' ∧ OwnT w' base v' (l ++ [(kd, t, p)]) ∧ Below base w w' := by
 subst hk hp
 obtain ⟨i0, hi, hz0, hz1, hz2⟩ := info_parts info40
 have HO := Hd h
 obtain ⟨A, c, rfl, _, _⟩ := OwnT.form h
 clear h
 go_enter Tryz.func42, Tryz.ntmps42
 go_wp2_with (at_builtin; refine wpList_append_any _ rfl (.tmp 9) (.tmp 14) 31 rfl base 37 i0 _ 3 32 Tryz.underlying31 hi hz0 hz1 hz2 rfl (by decide) _ _ (tksC l) rfl (HO.out.alloc _) _ _ _ _ (tkC (kd, t, p)) rfl (Reads.builtN w 37 (tkC (kd, t, p)) 1 3 rfl) (tkC_one _) (by simp only [maxLen]; omega) (by omega) (by simp; omega) ?_; intro v1 w1 hown1 hgrow1 hv1; have HO1 := Hd hown1; have HG1 := Hd hgrow1; clear hown1 hgrow1 hv1)
 go_ret
 exact ⟨_, rfl, OwnT.snoc HO1.out, (((Below.refl base w).alloc hb0 _)).grown HG1.out (by simp; omega) fun k hk => own_baseT HO.out hk⟩
def symV (st : Lx.Stp) : Value := if st.err = 0 then .tuple #[.string ⟨st.text.toArray⟩, .int .i64 (st.next : Int), .int .i64 0] else .tuple #[.string ⟨#[]⟩, .int .i64 (-1), .int .i64 (st.err : Int)]
theorem symV_tok {st : Lx.Stp} {k n : Nat} {t : List UInt8} (h : st = Lx.tok k t n) : symV st = .tuple #[.string ⟨t.toArray⟩, .int .i64 (n : Int), .int .i64 0] := by subst h; rfl
theorem symV_bad {st : Lx.Stp} {p e : Nat} (h : st = Lx.bad p e) (he : ¬ e = 0) : symV st = .tuple #[.string ⟨#[]⟩, .int .i64 (-1), .int .i64 (e : Int)] := by
 subst h
 unfold symV
 rw [if_neg (show ¬ (Lx.bad p e).err = 0 from he)]
 rfl
set_option maxRecDepth 20000 in
theorem rsym_none (s : ByteArray) (i : Nat) (w : World) (hs : s.size ≤ 65536) (hi : i < s.size) (h1 : ¬ i + 1 < s.size) :
  Calls Tryz.prog 45 #[.string s, .int .i64 (i : Int)] w fun e w' => e = .returned (symV (Lx.symF s.data.toList i)) ∧ Below w.heap.size w w' := by
 have HE := Hd (symF_none (l := s.data.toList) (i := i) (get_out h1))
 have d0 : Hid (((i : Int) + 1 == (s.size : Int)) = true) := Hd (by rw [beq_iff_eq]; omega)
 go_enter Tryz.func45, Tryz.ntmps45
 go_wp2_with fail
 refine (rat_any s _ (i + 1) _ (by go_num)).mono ?_
 rintro e w' ⟨rfl, rfl⟩
 have d1 := d0.out
 go_wp2
 go_ret3
 exact ⟨by rw [symV_bad HE.out (by decide)]; rfl, Below.refl _ _⟩
set_option maxRecDepth 20000 in
theorem rsym_let (s : ByteArray) (i : Nat) (w : World) (hs : s.size ≤ 65536) (h1 : i + 1 < s.size) (hc2 : Lx.cls (s[i + 1]'h1) = 2) :
  Calls Tryz.prog 45 #[.string s, .int .i64 (i : Int)] w fun e w' => e = .returned (symV (Lx.symF s.data.toList i)) ∧ Below w.heap.size w w' := by
 have d0 : ((i : Int) + 1 == (s.size : Int)) = false := by rw [beq_eq_false_iff_ne]; omega
 have HE := Hd (symF_let (get_in h1) hc2)
 have HL : Hid (Lx.letB (atN s.data.toList (i + 1)) = true) := Hd (by rw [atN_in h1]; unfold Lx.letB; rw [hc2]; rfl)
 clear hc2
 go_enter Tryz.func45, Tryz.ntmps45
 go_wp2_with fail
 refine (rat_any s _ (i + 1) _ (by go_num)).mono ?_
 rintro e w' ⟨rfl, rfl⟩
 go_wp2_with fail
 refine (rletter_any _ _).mono ?_
 rintro e w' ⟨rfl, rfl⟩
 rw [HL.out]
 go_upto_block 1 with fail
 go_cut [7] (fun s7 wx => s7 = .int .i64 (Lx.runF Lx.symB s.data.toList (i + 1) : Nat) ∧ w = wx)
 case first =>
  go_wp2
  go_loopw [7] (fun e wx => ∃ k : Nat, k ≤ s.size ∧ e = .int .i64 k ∧ Lx.runF Lx.symB s.data.toList k = Lx.runF Lx.symB s.data.toList (i + 1) ∧ w = wx) (fun e _ => s.size - (intOf e).toNat)
  case atStart => exact ⟨i + 1, Nat.le_of_lt h1, by go_num, rfl, rfl⟩
  case round =>
   obtain ⟨k, hk, rfl, hrun, rfl⟩ := hrel
   have HRUN := Hd hrun
   clear hrun
   by_cases hkl : k < s.size
   ·have HX := Hd (get_in hkl)
    by_cases hf : Lx.symB (s[k]'hkl) = true
    ·have HST := Hd ((Lx.runF_step HX.out hf).trans HRUN.out)
     cases hd2 : Lx.letB (s[k]'hkl) with
     | true =>
      clear hf
      go_wp2_with (go_at_call 39; refine (rletter_any _ _).mono ?_; rintro e w' ⟨rfl, rfl⟩; rw [hd2])
      go_roundw
      case rel => exact ⟨k + 1, hkl, by go_num, HST.out, by first | rfl | trivial⟩
      case measure => simp [intOf]; omega
     | false =>
      cases hd3 : Lx.digB (s[k]'hkl) with
      | true =>
       clear hf
       go_wp2_with (first
        | (go_at_call 39; refine (rletter_any _ _).mono ?_; rintro e w' ⟨rfl, rfl⟩; rw [hd2])
        | (go_at_call 40; refine (rdigit_any _ _).mono ?_; rintro e w' ⟨rfl, rfl⟩; rw [hd3]))
       go_roundw
       case rel => exact ⟨k + 1, hkl, by go_num, HST.out, by first | rfl | trivial⟩
       case measure => simp [intOf]; omega
      | false =>
       have d58 : (((s[k]'hkl).toNat : Int) == 58) = true := eqb_yes (b := 58) rfl (by
        unfold Lx.symB at hf
        rw [hd2, hd3] at hf
        simpa using hf)
       clear hf
       go_wp2_with (first
        | (go_at_call 39; refine (rletter_any _ _).mono ?_; rintro e w' ⟨rfl, rfl⟩; rw [hd2])
        | (go_at_call 40; refine (rdigit_any _ _).mono ?_; rintro e w' ⟨rfl, rfl⟩; rw [hd3]))
       go_roundw
       case rel => exact ⟨k + 1, hkl, by go_num, HST.out, by first | rfl | trivial⟩
       case measure => simp [intOf]; omega
    ·have hf' : Lx.symB (s[k]'hkl) = false := by simpa using hf
     have HST := Hd ((Lx.runF_stop HX.out hf').symm.trans HRUN.out)
     unfold Lx.symB at hf'
     simp only [Bool.or_eq_false_iff] at hf'
     have hd2 := hf'.1.1
     have hd3 := hf'.1.2
     have d58 : (((s[k]'hkl).toNat : Int) == 58) = false := eqb_no (b := 58) rfl (by simpa using hf'.2)
     clear hf hf'
     go_wp2_with (first
      | (go_at_call 39; refine (rletter_any _ _).mono ?_; rintro e w' ⟨rfl, rfl⟩; rw [hd2])
      | (go_at_call 40; refine (rdigit_any _ _).mono ?_; rintro e w' ⟨rfl, rfl⟩; rw [hd3]))
     go_meet
     exact ⟨by rw [← HST.out], by first | rfl | trivial⟩
   ·have HST := Hd ((Lx.runF_end (p := Lx.symB) (l := s.data.toList) (i := k) (by simp; omega)).symm.trans HRUN.out)
    go_wp2
    go_meet
    exact ⟨by rw [← HST.out], by first | rfl | trivial⟩
 case rest =>
 obtain ⟨rfl, rfl⟩ := hcut
 have HK1 := Lx.runF_ge Lx.symB s.data.toList (i + 1)
 have HK2 : Lx.runF Lx.symB s.data.toList (i + 1) ≤ s.size := by have := Lx.runF_le Lx.symB s.data.toList (i + 1) (by simp; omega); simpa using this
 generalize Lx.runF Lx.symB s.data.toList (i + 1) = k at *
 have k3 : (i : Int) + 1 ≤ (k : Int) := by omega
 have k4 : (k : Int) ≤ (s.size : Int) := by omega
 have k5 : (0 : Int) ≤ (i : Int) + 1 := by omega
 have k6 : i + 1 ≤ k := by omega
 go_wp2
 go_ret3
 exact ⟨by rw [symV_tok HE.out, ← str_cut]; rfl, Below.refl _ _⟩
set_option maxRecDepth 20000 in
theorem rsym_bin (s : ByteArray) (i : Nat) (w : World) (hs : s.size ≤ 65536) (h1 : i + 1 < s.size) (hc4 : Lx.cls (s[i + 1]'h1) = 4) :
  Calls Tryz.prog 45 #[.string s, .int .i64 (i : Int)] w fun e w' => e = .returned (symV (Lx.symF s.data.toList i)) ∧ Below w.heap.size w w' := by
 have d0 : ((i : Int) + 1 == (s.size : Int)) = false := by rw [beq_eq_false_iff_ne]; omega
 have HE := Hd (symF_bin (get_in h1) hc4)
 have HL : Hid (Lx.letB (atN s.data.toList (i + 1)) = false) := Hd (by rw [atN_in h1]; unfold Lx.letB; simp; omega)
 have HBN : Hid (Lx.binB (atN s.data.toList (i + 1)) = true) := Hd (by rw [atN_in h1]; unfold Lx.binB; rw [hc4]; rfl)
 clear hc4
 go_enter Tryz.func45, Tryz.ntmps45
 go_wp2_with fail
 refine (rat_any s _ (i + 1) _ (by go_num)).mono ?_
 rintro e w' ⟨rfl, rfl⟩
 go_wp2_with fail
 refine (rletter_any _ _).mono ?_
 rintro e w' ⟨rfl, rfl⟩
 rw [HL.out]
 go_wp2_with fail
 refine (rbinary_any _ _).mono ?_
 rintro e w' ⟨rfl, rfl⟩
 rw [HBN.out]
 go_wp2_with fail
 refine (rrun_any s _ (i + 1) _ hs (by go_num) h1).mono ?_
 rintro e w' ⟨rfl, rfl⟩
 rw [show i + 1 + 1 = i + 2 from rfl]
 have HK1 := Lx.binF_ge s.data.toList (i + 2)
 have HK2 : Lx.binF s.data.toList (i + 2) ≤ s.size := by have := Lx.binF_le s.data.toList (i + 2) (by simp; omega); simpa using this
 generalize Lx.binF s.data.toList (i + 2) = k at *
 have k3 : (i : Int) + 1 ≤ (k : Int) := by omega
 have k4 : (k : Int) ≤ (s.size : Int) := by omega
 have k5 : (0 : Int) ≤ (i : Int) + 1 := by omega
 have k6 : i + 1 ≤ k := by omega
 go_wp2
 go_ret3
 exact ⟨by rw [symV_tok HE.out, ← str_cut]; rfl, Below.refl _ _⟩
set_option maxRecDepth 20000 in
theorem rsym_bar (s : ByteArray) (i : Nat) (w : World) (hs : s.size ≤ 65536) (h1 : i + 1 < s.size) (hb : s[i + 1]'h1 = 124) :
  Calls Tryz.prog 45 #[.string s, .int .i64 (i : Int)] w fun e w' => e = .returned (symV (Lx.symF s.data.toList i)) ∧ Below w.heap.size w w' := by
 have d0 : ((i : Int) + 1 == (s.size : Int)) = false := by rw [beq_eq_false_iff_ne]; omega
 have HE := Hd (symF_bar (l := s.data.toList) (i := i) (by rw [get_in h1, hb]))
 have hcb : Lx.cls (s[i + 1]'h1) = 5 := by rw [hb]; decide
 have HL : Hid (Lx.letB (atN s.data.toList (i + 1)) = false) := Hd (by rw [atN_in h1]; unfold Lx.letB; simp; omega)
 have HBN : Hid (Lx.binB (atN s.data.toList (i + 1)) = false) := Hd (by rw [atN_in h1]; unfold Lx.binB; simp; omega)
 have e124 : (((atN s.data.toList (i + 1)).toNat : Int) == 124) = true := eqb_yes (b := 124) rfl (by rw [atN_in h1]; exact hb)
 clear hb hcb
 go_enter Tryz.func45, Tryz.ntmps45
 go_wp2_with fail
 refine (rat_any s _ (i + 1) _ (by go_num)).mono ?_
 rintro e w' ⟨rfl, rfl⟩
 go_wp2_with fail
 refine (rletter_any _ _).mono ?_
 rintro e w' ⟨rfl, rfl⟩
 rw [HL.out]
 go_wp2_with fail
 refine (rbinary_any _ _).mono ?_
 rintro e w' ⟨rfl, rfl⟩
 rw [HBN.out]
 go_wp2
 go_ret3
 exact ⟨by rw [symV_tok HE.out, show ((i + 2 : Nat) : Int) = (i : Int) + 1 + 1 from by omega]; rfl, Below.refl _ _⟩
set_option maxRecDepth 20000 in
theorem rsym_quo (s : ByteArray) (i : Nat) (w : World) (hs : s.size ≤ 65536) (h1 : i + 1 < s.size) (hb : s[i + 1]'h1 = 39) :
  Calls Tryz.prog 45 #[.string s, .int .i64 (i : Int)] w fun e w' => e = .returned (symV (Lx.symF s.data.toList i)) ∧ Below w.heap.size w w' := by
 have d0 : ((i : Int) + 1 == (s.size : Int)) = false := by rw [beq_eq_false_iff_ne]; omega
 have hcb : Lx.cls (s[i + 1]'h1) = 0 := by rw [hb]; decide
 have HX : Hid (s.data.toList[i + 1]? = some 39) := Hd (by rw [get_in h1, hb])
 have HL : Hid (Lx.letB (atN s.data.toList (i + 1)) = false) := Hd (by rw [atN_in h1]; unfold Lx.letB; simp; omega)
 have HBN : Hid (Lx.binB (atN s.data.toList (i + 1)) = false) := Hd (by rw [atN_in h1]; unfold Lx.binB; simp; omega)
 have e124 : (((atN s.data.toList (i + 1)).toNat : Int) == 124) = false := eqb_no (b := 124) rfl (by rw [atN_in h1]; rw [hb]; decide)
 have e39 : (((atN s.data.toList (i + 1)).toNat : Int) == 39) = true := eqb_yes (b := 39) rfl (by rw [atN_in h1]; exact hb)
 clear hb hcb
 cases hq : Lx.qF s.data.toList (i + 1) with
 | none =>
  have HE := Hd (symF_quo0 HX.out hq)
  have HQ := Hd hq
  clear hq
  go_enter Tryz.func45, Tryz.ntmps45
  go_wp2_with fail
  refine (rat_any s _ (i + 1) _ (by go_num)).mono ?_
  rintro e w' ⟨rfl, rfl⟩
  go_wp2_with fail
  refine (rletter_any _ _).mono ?_
  rintro e w' ⟨rfl, rfl⟩
  rw [HL.out]
  go_wp2_with fail
  refine (rbinary_any _ _).mono ?_
  rintro e w' ⟨rfl, rfl⟩
  rw [HBN.out]
  go_wp2_with fail
  refine (rquoted_any s _ (i + 1) _ hs (by go_num) h1).mono ?_
  rintro e w3 ⟨rfl, hb3⟩
  rw [HQ.out, quoRn]
  go_wp2
  go_ret3
  exact ⟨by rw [symV_bad HE.out (by decide)]; rfl, hb3⟩
 | some r =>
  obtain ⟨t, n⟩ := r
  have HE := Hd (symF_quo1 HX.out hq)
  have HQ := Hd hq
  clear hq
  go_enter Tryz.func45, Tryz.ntmps45
  go_wp2_with fail
  refine (rat_any s _ (i + 1) _ (by go_num)).mono ?_
  rintro e w' ⟨rfl, rfl⟩
  go_wp2_with fail
  refine (rletter_any _ _).mono ?_
  rintro e w' ⟨rfl, rfl⟩
  rw [HL.out]
  go_wp2_with fail
  refine (rbinary_any _ _).mono ?_
  rintro e w' ⟨rfl, rfl⟩
  rw [HBN.out]
  go_wp2_with fail
  refine (rquoted_any s _ (i + 1) _ hs (by go_num) h1).mono ?_
  rintro e w3 ⟨rfl, hb3⟩
  rw [HQ.out, quoRs]
  go_wp2
  go_ret3
  exact ⟨by rw [symV_tok HE.out]; rfl, hb3⟩
set_option maxRecDepth 20000 in
theorem rsym_else (s : ByteArray) (i : Nat) (w : World) (hs : s.size ≤ 65536) (h1 : i + 1 < s.size) (hc2 : ¬ Lx.cls (s[i + 1]'h1) = 2) (hc4 : ¬ Lx.cls (s[i + 1]'h1) = 4) (h124 : ¬ s[i + 1]'h1 = 124) (h39 : ¬ s[i + 1]'h1 = 39) (ho : ¬ (s[i + 1]'h1 = 40 ∨ s[i + 1]'h1 = 91)) :
  Calls Tryz.prog 45 #[.string s, .int .i64 (i : Int)] w fun e w' => e = .returned (symV (Lx.symF s.data.toList i)) ∧ Below w.heap.size w w' := by
 have d0 : ((i : Int) + 1 == (s.size : Int)) = false := by rw [beq_eq_false_iff_ne]; omega
 have HE := Hd (symF_else (get_in h1) hc2 hc4 h124 h39 ho)
 have HL : Hid (Lx.letB (atN s.data.toList (i + 1)) = false) := Hd (by rw [atN_in h1]; unfold Lx.letB; simp; omega)
 have HBN : Hid (Lx.binB (atN s.data.toList (i + 1)) = false) := Hd (by rw [atN_in h1]; unfold Lx.binB; simp; omega)
 have e124 : (((atN s.data.toList (i + 1)).toNat : Int) == 124) = false := eqb_no (b := 124) rfl (by rw [atN_in h1]; exact h124)
 have e39 : (((atN s.data.toList (i + 1)).toNat : Int) == 39) = false := eqb_no (b := 39) rfl (by rw [atN_in h1]; exact h39)
 clear hc2 hc4 h124 h39 ho
 go_enter Tryz.func45, Tryz.ntmps45
 go_wp2_with fail
 refine (rat_any s _ (i + 1) _ (by go_num)).mono ?_
 rintro e w' ⟨rfl, rfl⟩
 go_wp2_with fail
 refine (rletter_any _ _).mono ?_
 rintro e w' ⟨rfl, rfl⟩
 rw [HL.out]
 go_wp2_with fail
 refine (rbinary_any _ _).mono ?_
 rintro e w' ⟨rfl, rfl⟩
 rw [HBN.out]
 go_wp2
 go_ret3
 exact ⟨by rw [symV_bad HE.out (by decide)]; rfl, Below.refl _ _⟩
theorem rsymbol_any (s : ByteArray) (i : Nat) (w : World) (hs : s.size ≤ 65536) (hi : i < s.size) (ho : ∀ h1 : i + 1 < s.size, ¬ (s[i + 1]'h1 = 40 ∨ s[i + 1]'h1 = 91)) :
  Calls Tryz.prog 45 #[.string s, .int .i64 (i : Int)] w fun e w' => e = .returned (symV (Lx.symF s.data.toList i)) ∧ Below w.heap.size w w' := by
 by_cases h1 : i + 1 < s.size
 ·by_cases hc2 : Lx.cls (s[i + 1]'h1) = 2
  ·exact rsym_let s i w hs h1 hc2
  ·by_cases hc4 : Lx.cls (s[i + 1]'h1) = 4
   ·exact rsym_bin s i w hs h1 hc4
   ·by_cases h124 : s[i + 1]'h1 = 124
    ·exact rsym_bar s i w hs h1 h124
    ·by_cases h39 : s[i + 1]'h1 = 39
     ·exact rsym_quo s i w hs h1 h39
     ·exact rsym_else s i w hs h1 hc2 hc4 h124 h39 (ho h1)
 ·exact rsym_none s i w hs hi h1
end Go.Proofs.YtjhonaglmgmpiaaGreatDoor
