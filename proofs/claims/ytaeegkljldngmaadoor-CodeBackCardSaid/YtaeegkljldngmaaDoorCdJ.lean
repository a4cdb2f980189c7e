/-
  The program's decode f43. No statement of the seat is proved here.
-/
import Derived.Test.YtaeegkljldngmaaDoorCdI
import Derived.StillTailTactics
namespace Go.Proofs.YtaeegkljldngmaaDoor
open Go.RowKit

theorem pidx0 (a b c : Option Addr) (w : World) : (Instr.index 94 (.agg #[.pointer a, .pointer b, .pointer c]) (.int .i64 0)).run Tryd.prog w = .ok (.pointer a) w := by kernel_rfl
theorem pidx1 (a b c : Option Addr) (w : World) : (Instr.index 94 (.agg #[.pointer a, .pointer b, .pointer c]) (.int .i64 1)).run Tryd.prog w = .ok (.pointer b) w := by kernel_rfl
theorem pidx2 (a b c : Option Addr) (w : World) : (Instr.index 94 (.agg #[.pointer a, .pointer b, .pointer c]) (.int .i64 2)).run Tryd.prog w = .ok (.pointer c) w := by kernel_rfl
def DecP (bs : List UInt8) (at_ : Nat) (w : World) (e : Ending) (w' : World) : Prop :=
  Below w.heap.size w w' ∧ ((okAt bs at_ = true ∧ e = .returned (.tuple #[(insAt bs at_).val, .int .i64 ((at_ + (insAt bs at_).size : Nat) : Int), .bool true])) ∨ (okAt bs at_ = false ∧ e = .returned (.tuple #[.agg #[.int .i64 0, .int .i64 0, .int .i64 0, .int .i64 0, .int .i64 0], .int .i64 0, .bool false])))
theorem byte_at {w : World} {B n : Nat} {A : Option Addr} {bs : List UInt8} (h : RdB w B A n bs) {k : Nat} (hk : k < n) : ∃ b o, A = some ⟨b, o, none⟩ ∧ b < B ∧ w.cell? ⟨b, o + k, none⟩ = some (.int .u8 (bAt bs k)) := by
  obtain ⟨⟨b, off, spot⟩, x, e, hb, hx, hc⟩ := h.byte hk
  have hspot : spot = none := by
    obtain ⟨ad0, x0, e0, _, _, hc0⟩ := h.byte (k := 0) (by omega)
    rw [e] at e0
    injection e0 with e0
    subst e0
    simpa [Addr.add] using World.cell?_spot hc0
  subst hspot
  refine ⟨b, off, e, hb, ?_⟩
  have e2 : (⟨b, off, none⟩ : Addr).add k = ⟨b, off + k, none⟩ := by unfold Addr.add; split <;> simp_all
  rw [← e2, hc]
  unfold bAt
  rw [List.getD_eq_getElem?_getD, hx]
  rfl
theorem or_u16 (x y : UInt8) : bits .or .u16 ((x.toNat : Int) * 256) (y.toNat : Int) = (x.toNat : Int) * 256 + (y.toNat : Int) := by
  have hx := x.toNat_lt
  have hy := y.toNat_lt
  have h := u16_or_nat (256 * x.toNat) y.toNat (by omega) (by omega)
  have h1 : (256 * x.toNat) ||| y.toNat = 256 * x.toNat + y.toNat := by
    have := Nat.two_pow_add_eq_or_of_lt (i := 8) (b := y.toNat) (by omega) x.toNat
    rw [show 256 * x.toNat = 2 ^ 8 * x.toNat from by omega, ← this]
  rw [h1] at h
  have e : (x.toNat : Int) * 256 = ((256 * x.toNat : Nat) : Int) := by omega
  rw [e, h]
  omega
theorem wrap_i16 (x y : UInt8) : IntKind.i16.wrap ((x.toNat : Int) * 256 + (y.toNat : Int)) = i16 x y := by
  have hx := x.toNat_lt
  have hy := y.toNat_lt
  have e : ∀ n : Int, IntKind.i16.wrap n = (n + 32768) % 65536 - 32768 := fun n => by
    simp [IntKind.wrap, IntKind.bits, IntKind.signed]
    omega
  rw [e]
  unfold i16
  split <;> omega
def set5 (w : World) (g : Nat) (a b c d e : Value) : World := ((((w.setCell ⟨g, 0, none⟩ a).setCell ⟨g, 1, none⟩ b).setCell ⟨g, 2, none⟩ c).setCell ⟨g, 3, none⟩ d).setCell ⟨g, 4, none⟩ e
theorem set5_blk {w : World} {g : Nat} {t : TypeId} {x0 x1 x2 x3 x4 : Value} (h : Blk w g t #[x0, x1, x2, x3, x4]) (a b c d e : Value) : Blk (set5 w g a b c d e) g t #[a, b, c, d, e] :=
  ((((h.set_ 0 a).set_ 1 b).set_ 2 c).set_ 3 d).set_ 4 e
theorem set5_below {w w0 : World} {g B : Nat} (h : Below B w0 w) (hg : B ≤ g) (a b c d e : Value) : Below B w0 (set5 w g a b c d e) :=
  ((((h.setCell hg a).setCell hg b).setCell hg c).setCell hg d).setCell hg e
theorem set5_size (w : World) (g : Nat) (a b c d e : Value) : (set5 w g a b c d e).heap.size = w.heap.size := by simp [set5, World.setCell]
theorem dec_end {W : World} {tmps : Array Value} {g : Nat} {a b c d e n ok : Value} {Q : Ending → World → Prop} (h4 : tmps.getD 4 undef = .pointer (some ⟨g, 0, none⟩)) (h5 : tmps.getD 5 undef = n) (h6 : tmps.getD 6 undef = ok) (hb : Blk W g 34 #[a, b, c, d, e]) (hQ : Q (.returned (.tuple #[.agg #[a, b, c, d, e], n, ok])) W) :
    bodyPost Tryd.prog Tryd.f17 Q Exit.ret { tmps := tmps, defers := [] } W := by
  have h4' : tmps[4]?.getD undef = .pointer (some ⟨g, 0, none⟩) := by simpa using h4
  have h5' : tmps[5]?.getD undef = n := by simpa using h5
  have h6' : tmps[6]?.getD undef = ok := by simpa using h6
  have c0 : W.cell? ⟨g, 0, none⟩ = some a := hb.cell 0
  have c1 : W.cell? ⟨g, 1, none⟩ = some b := hb.cell 1
  have c2 : W.cell? ⟨g, 2, none⟩ = some c := hb.cell 2
  have c3 : W.cell? ⟨g, 3, none⟩ = some d := hb.cell 3
  have c4 : W.cell? ⟨g, 4, none⟩ = some e := hb.cell 4
  exact bodyPost_ret (v := .tuple #[.agg #[a, b, c, d, e], n, ok]) (by simp [results, Tryd.results17, go_sem, h4', h5', h6', c0, c1, c2, c3, c4]) rfl hQ
theorem cnt_lt {h : Int} {k : Nat} (hh : HasOk h) (hk : k < 3) (hb : has3 h k = true) : 1 + cnt3 h k + 1 ≤ szH h ∧ cnt3 h (k + 1) = cnt3 h k + 1 ∧ cnt3 h k = k := by
  obtain rfl | rfl | rfl : k = 0 ∨ k = 1 ∨ k = 2 := by omega
  all_goals obtain rfl | rfl | rfl | rfl | rfl := hh
  all_goals first | (exfalso; revert hb; decide) | decide
theorem cnt_same {h : Int} {k : Nat} (hh : HasOk h) (hk : k < 3) (hb : has3 h k = false) : cnt3 h (k + 1) = cnt3 h k := by
  obtain rfl | rfl | rfl : k = 0 ∨ k = 1 ∨ k = 2 := by omega
  all_goals obtain rfl | rfl | rfl | rfl | rfl := hh
  all_goals first | (exfalso; revert hb; decide) | decide
/-- while an instruction is read -/
structure DX (W0 : World) (b0 b1 bi : Nat) (ec : Array Value) (op h : Int) (bs : List UInt8) (at_ k : Nat) (W : World) : Prop where
  res : Blk W b0 34 #[.int .i64 0, .int .i64 0, .int .i64 0, .int .i64 0, .int .i64 0]
  ent : Blk W b1 50 ec
  ins : Blk W bi 34 #[.int .i64 op, .int .i64 (pA h bs at_ k), .int .i64 (pB h bs at_ k), .int .i64 (pC h bs at_ k), .int .i64 0]
  old : Below W0.heap.size W0 W
  ne : b0 ≠ bi
  ge : W0.heap.size ≤ bi
section
variable {W0 W : World} {b0 b1 bi at_ k : Nat} {ec : Array Value} {op h : Int} {bs : List UInt8}
theorem DX.drewN (x : DX W0 b0 b1 bi ec op h bs at_ k W) (n : Nat) : DX W0 b0 b1 bi ec op h bs at_ k (W.drewN n) := ⟨x.res.drewN n, x.ent.drewN n, x.ins.drewN n, below_drewN x.old n, x.ne, x.ge⟩
theorem DX.same (x : DX W0 b0 b1 bi ec op h bs at_ k W) (hk : k < 3) (hb : has3 h k = false) : DX W0 b0 b1 bi ec op h bs at_ (k + 1) W := by
  refine ⟨x.res, x.ent, ?_, x.old, x.ne, x.ge⟩
  have := x.ins
  obtain rfl | rfl | rfl : k = 0 ∨ k = 1 ∨ k = 2 := by omega
  all_goals simp only [has3] at hb
  all_goals simpa [pA, pB, pC, hb] using this
theorem DX.put (x : DX W0 b0 b1 bi ec op h bs at_ k W) (hk : k < 3) (hb : has3 h k = true) : DX W0 b0 b1 bi ec op h bs at_ (k + 1) (W.setCell ⟨bi, k + 1, none⟩ (.int .i64 (bAt bs (at_ + 1 + k)))) := by
  refine ⟨x.res.far x.ne _, x.ent.far (x.ent.ne_ x.ins (by decide)) _, ?_, x.old.setCell x.ge _, x.ne, x.ge⟩
  have := x.ins.set_ (k + 1) (.int .i64 (bAt bs (at_ + 1 + k)))
  obtain rfl | rfl | rfl : k = 0 ∨ k = 1 ∨ k = 2 := by omega
  all_goals simp only [has3] at hb
  all_goals simpa [pA, pB, pC, hb, Nat.add_assoc] using this
end
set_option maxRecDepth 100000 in
set_option maxHeartbeats 4000000 in
theorem decode_any (A : Option Addr) (n c : Nat) (bs : List UInt8) (at_ : Nat) (w : World) (hr : RdB w w.heap.size A n bs) (ha : at_ < n) (hn : n ≤ 32767) : Calls Tryd.prog 17 #[.slice A n c, .int .i64 (at_ : Int)] w (DecP bs at_ w) := by
  obtain ⟨gb, go, rfl, hab, hc0⟩ := byte_at hr ha
  have hlen := hr.len1
  have hcA : ∀ o, (w.alloc o).cell? ⟨gb, go + at_, none⟩ = some (.int .u8 (bAt bs at_)) := fun o => (World.cell?_alloc_lt w o ⟨gb, go + at_, none⟩ hab).trans hc0
  clear hc0
  have HRD := Lib.hid hr
  have HLN := Lib.hid hlen
  have hop := bAt_le bs at_
  have HOP : Hid (okAt bs at_ = (inO (bAt bs at_) && decide ((at_ : Int) + szO (bAt bs at_) ≤ (bs.length : Int)))) := Lib.hid rfl
  have HSO := Lib.hid fun h => (szO_in (op := bAt bs at_) h)
  have HIN : Hid (insAt bs at_ = insH (hasO (bAt bs at_)) bs at_) := Lib.hid rfl
  have HIP : Hid ((insAt bs at_).op = bAt bs at_) := Lib.hid rfl
  clear hr hlen
  generalize hOP : bAt bs at_ = op at *
  have HOPE := Lib.hid hOP
  clear hOP
  have z74 := zero50
  have z43 := zero34
  cases ho : inO op with
  | false =>
    have HF : Hid (okAt bs at_ = false) := Lib.hid (by rw [HOP.out, ho]; rfl)
    have H30 := Lib.hid (show ∀ w, Calls Tryd.prog 14 #[.int .i64 op] w (fun e w' => e = .returned (.tuple #[.agg #[.string ⟨#[]⟩, .int .i64 0, .int .i64 0, .int .i64 0, .bool false], .bool false]) ∧ Below w.heap.size w w') from fun w => ops_no op w (inO_no ho))
    clear ho
    go_enter Tryd.func17, Tryd.ntmps17
    go_wp2_with fail
    refine (H30.out _).mono ?_
    rintro e w1 ⟨rfl, hb1⟩
    have HX := Lib.hid ((Blk.new w 34 #[.int .i64 0, .int .i64 0, .int .i64 0, .int .i64 0, .int .i64 0]).below hb1 (by simp))
    have HB := Lib.hid (((Below.refl w.heap.size w).alloc (Nat.le_refl _) (.cells #[.int .i64 0, .int .i64 0, .int .i64 0, .int .i64 0, .int .i64 0] 34)).trans (hb1.mono (by simp)))
    have c0 : w1.cell? ⟨w.heap.size, 0, none⟩ = some (.int .i64 0) := HX.out.cell 0
    have c1 : w1.cell? ⟨w.heap.size, 1, none⟩ = some (.int .i64 0) := HX.out.cell 1
    have c2 : w1.cell? ⟨w.heap.size, 2, none⟩ = some (.int .i64 0) := HX.out.cell 2
    have c3 : w1.cell? ⟨w.heap.size, 3, none⟩ = some (.int .i64 0) := HX.out.cell 3
    have c4 : w1.cell? ⟨w.heap.size, 4, none⟩ = some (.int .i64 0) := HX.out.cell 4
    have f0 : w1.frozen? ⟨w.heap.size, 0, none⟩ = false := HX.out.frozen 0
    have f1 : w1.frozen? ⟨w.heap.size, 1, none⟩ = false := HX.out.frozen 1
    have f2 : w1.frozen? ⟨w.heap.size, 2, none⟩ = false := HX.out.frozen 2
    have f3 : w1.frozen? ⟨w.heap.size, 3, none⟩ = false := HX.out.frozen 3
    have f4 : w1.frozen? ⟨w.heap.size, 4, none⟩ = false := HX.out.frozen 4
    have hz1 := HX.out.lt
    clear hb1
    go_wp2
    have HE := Lib.hid (set5_blk HX.out (.int .i64 0) (.int .i64 0) (.int .i64 0) (.int .i64 0) (.int .i64 0))
    exact dec_end rfl rfl rfl (HE.out.alloc _) ⟨(set5_below HB.out (Nat.le_refl _) _ _ _ _ _).alloc (by rw [set5_size]; exact HB.out.size) _, .inr ⟨HF.out, rfl⟩⟩
  | true =>
    have HOK := hasOk_ent op ho
    have HH := hasO_ent ho
    have h30 := (show ∀ w, Calls Tryd.prog 14 #[.int .i64 op] w (fun e w' => e = .returned (.tuple #[.agg #[.string (ent op).nm, .int .i64 (ent op).has, .int .i64 (ent op).take, .int .i64 (ent op).put, .bool (ent op).ends], .bool true]) ∧ Below w.heap.size w w') from fun w => by
      have h := ops_any op w
      rw [ho] at h
      exact h)
    have hsz : szO op = szH (ent op).has := by rw [HSO.out ho, HH]
    have HIN2 := HIN.out
    have hok2 := HOP.out
    rw [hsz, ho] at hok2
    rw [HH] at HIN2
    have hsp := szO_pos ho
    rw [hsz] at hsp
    clear HSO HOP HIN HIP
    generalize ent op = en at *
    have h41 := fun w => size_ok en w HOK
    obtain ⟨nm, has, take, put, ends⟩ := en
    dsimp only [En.val] at h30 h41 HOK hsz HIN2 hok2 hsp
    have H30 := Lib.hid h30
    have H41 := Lib.hid h41
    obtain ⟨sz, HSZ⟩ : ∃ sz : Nat, Hid (szH has = sz) := ⟨(szH has).toNat, Lib.hid (by omega)⟩
    have hsl : 1 ≤ sz ∧ sz ≤ 6 := by have := HSZ.out; omega
    obtain ⟨hs1, hs6⟩ := hsl
    have HOKA : Hid (okAt bs at_ = decide (at_ + sz ≤ n)) := Lib.hid (by
      rw [hok2, HSZ.out, HLN.out]
      simp only [Bool.true_and]
      congr 1
      rw [eq_iff_iff]
      omega)
    have HSI : Hid ((insAt bs at_).size = sz) := Lib.hid (by
      rw [HIN2]
      show (szO (bAt bs at_)).toNat = sz
      rw [HOPE.out, hsz, HSZ.out]
      rfl)
    have HINS := Lib.hid HIN2
    have H41S := Lib.hid (show ∀ w, Calls Tryd.prog 21 #[.agg #[.string nm, .int .i64 has, .int .i64 take, .int .i64 put, .bool ends]] w fun x w' => x = .returned (.int .i64 (sz : Int)) ∧ Below w.heap.size w w' from fun w => by
      have := H41.out w
      rw [HSZ.out] at this
      exact this)
    clear h30 h41 hsz HIN2 hok2 hsp ho HH H41
    go_enter Tryd.func17, Tryd.ntmps17
    go_wp2_with fail
    refine (H30.out _).mono ?_
    rintro e w1 ⟨rfl, hb1⟩
    have HX := Lib.hid ((Blk.new w 34 #[.int .i64 0, .int .i64 0, .int .i64 0, .int .i64 0, .int .i64 0]).below hb1 (by simp))
    have HB := Lib.hid (((Below.refl w.heap.size w).alloc (Nat.le_refl _) (.cells #[.int .i64 0, .int .i64 0, .int .i64 0, .int .i64 0, .int .i64 0] 34)).trans (hb1.mono (by simp)))
    have hz1 := HX.out.lt
    clear hb1
    go_wp2_with fail
    refine (H41S.out _).mono ?_
    rintro e w2 ⟨rfl, hb2⟩
    have HX2 := Lib.hid ((HX.out.alloc (.cells #[.string nm, .int .i64 has, .int .i64 take, .int .i64 put, .bool ends] 50)).below hb2 (by simp; omega))
    have HY2 := Lib.hid ((Blk.new w1 50 #[.string nm, .int .i64 has, .int .i64 take, .int .i64 put, .bool ends]).below hb2 (by simp))
    have HB2 := Lib.hid ((HB.out.alloc HB.out.size (.cells #[.string nm, .int .i64 has, .int .i64 take, .int .i64 put, .bool ends] 50)).trans (hb2.mono (by have := HB.out.size; simp; omega)))
    have hz2 := HY2.out.lt
    clear hb2
    by_cases hfit : at_ + sz ≤ n
    · have hd : ¬ (n : Int) < (at_ : Int) + (sz : Int) := by omega
      have HT : Hid (okAt bs at_ = true) := Lib.hid (by rw [HOKA.out]; simp; omega)
      have c1 : w2.cell? ⟨w1.heap.size, 1, none⟩ = some (.int .i64 has) := HY2.out.cell 1
      go_wp2
      have HD0 : Hid (DX w w.heap.size w1.heap.size w2.heap.size #[.string nm, .int .i64 has, .int .i64 take, .int .i64 put, .bool ends] op has bs at_ 0 (w2.alloc (.cells #[.int .i64 op, .int .i64 0, .int .i64 0, .int .i64 0, .int .i64 0] 34))) :=
        Lib.hid ⟨HX2.out.alloc _, HY2.out.alloc _, Blk.new w2 34 _, HB2.out.alloc HB2.out.size _, by have := HX2.out.lt; omega, HB2.out.size⟩
      have hw2 : w.heap.size ≤ w2.heap.size := HB2.out.size
      clear c1
      go_loopw [11, 44] (fun u i wr => ∃ k nx : Nat, k ≤ 3 ∧ i = .int .i64 k ∧ u = .int .i64 nx ∧ Hid ((nx : Int) = at_ + 1 + cnt3 has k) ∧ DX w w.heap.size w1.heap.size w2.heap.size #[.string nm, .int .i64 has, .int .i64 take, .int .i64 put, .bool ends] op has bs at_ k wr) (fun _ i _ => 3 - (intOf i).toNat)
      case atStart => exact ⟨0, at_ + 1, by omega, rfl, by go_num, Lib.hid (by simp [cnt3]), HD0.out⟩
      case round =>
        obtain ⟨k, nx, hk, rfl, rfl, HNX, hD⟩ := hrel
        have HD := Lib.hid hD
        have c1 : wr.cell? ⟨w1.heap.size, 1, none⟩ = some (.int .i64 has) := hD.ent.cell 1
        have hbi := hD.ins.lt
        clear hD
        by_cases hk3 : k = 3
        · subst hk3
          have HIA : Hid (insAt bs at_ = ⟨op, pA has bs at_ 3, pB has bs at_ 3, pC has bs at_ 3, pZ has bs at_⟩) := Lib.hid (by rw [HINS.out]; unfold insH; rw [HOPE.out])
          have hres := HD.out.res
          have c10 : wr.cell? ⟨w2.heap.size, 0, none⟩ = some (.int .i64 op) := HD.out.ins.cell 0
          have c11 : wr.cell? ⟨w2.heap.size, 1, none⟩ = some (.int .i64 (pA has bs at_ 3)) := HD.out.ins.cell 1
          have c12 : wr.cell? ⟨w2.heap.size, 2, none⟩ = some (.int .i64 (pB has bs at_ 3)) := HD.out.ins.cell 2
          have c13 : wr.cell? ⟨w2.heap.size, 3, none⟩ = some (.int .i64 (pC has bs at_ 3)) := HD.out.ins.cell 3
          have c14 : wr.cell? ⟨w2.heap.size, 4, none⟩ = some (.int .i64 0) := HD.out.ins.cell 4
          have r0 : wr.cell? ⟨w.heap.size, 0, none⟩ = some (.int .i64 0) := hres.cell 0
          have r1 : wr.cell? ⟨w.heap.size, 1, none⟩ = some (.int .i64 0) := hres.cell 1
          have r2 : wr.cell? ⟨w.heap.size, 2, none⟩ = some (.int .i64 0) := hres.cell 2
          have r3 : wr.cell? ⟨w.heap.size, 3, none⟩ = some (.int .i64 0) := hres.cell 3
          have r4 : wr.cell? ⟨w.heap.size, 4, none⟩ = some (.int .i64 0) := hres.cell 4
          have s0 : wr.frozen? ⟨w.heap.size, 0, none⟩ = false := hres.frozen 0
          have s1 : wr.frozen? ⟨w.heap.size, 1, none⟩ = false := hres.frozen 1
          have s2 : wr.frozen? ⟨w.heap.size, 2, none⟩ = false := hres.frozen 2
          have s3 : wr.frozen? ⟨w.heap.size, 3, none⟩ = false := hres.frozen 3
          have s4 : wr.frozen? ⟨w.heap.size, 4, none⟩ = false := hres.frozen 4
          have s5 : wr.frozen? ⟨w2.heap.size, 4, none⟩ = false := HD.out.ins.frozen 4
          have hne := HD.out.ne
          clear hres
          generalize hpa : pA has bs at_ 3 = p1 at *
          generalize hpb : pB has bs at_ 3 = p2 at *
          generalize hpc : pC has bs at_ 3 = p3 at *
          have HPA := Lib.hid hpa
          have HPB := Lib.hid hpb
          have HPC := Lib.hid hpc
          clear hpa hpb hpc
          have HEND : Hid (∀ (z m : Int), z = pZ has bs at_ → m = (at_ : Int) + sz → Ending.returned (.tuple #[.agg #[.int .i64 op, .int .i64 p1, .int .i64 p2, .int .i64 p3, .int .i64 z], .int .i64 m, .bool true]) = Ending.returned (.tuple #[(insAt bs at_).val, .int .i64 ((at_ + (insAt bs at_).size : Nat) : Int), .bool true])) := Lib.hid (by
            intro z m hz hm
            subst hz hm
            rw [HSI.out, HIA.out, Int.natCast_add]
            rfl)
          simp only [show ((3 : Nat) : Int) = 3 from rfl]
          by_cases h8 : has = 8
          · subst h8
            have hn1 : nx + 1 < n := by have h1 := HNX.out; have h2 := HSZ.out; rw [show cnt3 8 3 = 0 from rfl] at h1; rw [show szH 8 = 3 from rfl] at h2; omega
            have HNE : Hid (nx = at_ + 1) := Lib.hid (by have := HNX.out; have e1 : cnt3 8 3 = 0 := rfl; rw [e1] at this; omega)
            obtain ⟨gb1, go1, had1, _, hx1⟩ := byte_at (HRD.out.below HD.out.old) (show nx < n by omega)
            obtain ⟨gb2, go2, had2, _, hx2⟩ := byte_at (HRD.out.below HD.out.old) hn1
            simp only [Option.some.injEq, Addr.mk.injEq, and_true] at had1 had2
            obtain ⟨rfl, rfl⟩ := had1
            obtain ⟨rfl, rfl⟩ := had2
            have HZ : Hid (pZ 8 bs at_ = i16 (bs.getD nx 0) (bs.getD (nx + 1) 0)) := Lib.hid (by rw [HNE.out]; rfl)
            unfold bAt at hx1 hx2
            generalize bs.getD nx 0 = x at *
            generalize bs.getD (nx + 1) 0 = y at *
            have hxb := u8_lt x
            have hyb := u8_lt y
            have l1 : (0 : Int) ≤ (nx : Int) := by omega
            have l2 : (nx : Int) < (n : Int) := by omega
            have l3 : IntKind.i64.wrap ((nx : Int) + 1) = (nx : Int) + 1 := by rw [IntKind.wrap_i64]; omega
            have l4 : (0 : Int) ≤ (nx : Int) + 1 := by omega
            have l5 : (nx : Int) + 1 < (n : Int) := by omega
            have l6 : ((nx : Int) + 1).toNat = nx + 1 := by omega
            have b1 := i16_le x y
            have m1 : IntKind.u16.wrap (x.toNat : Int) = (x.toNat : Int) := by rw [IntKind.wrap_u16]; omega
            have m2 : IntKind.u16.wrap ((x.toNat : Int) * 256) = (x.toNat : Int) * 256 := by rw [IntKind.wrap_u16]; omega
            have m3 : IntKind.u16.wrap (y.toNat : Int) = (y.toNat : Int) := by rw [IntKind.wrap_u16]; omega
            have m4 := or_u16 x y
            have m5 := wrap_i16 x y
            have m6 : IntKind.i64.wrap (i16 x y) = i16 x y := by rw [IntKind.wrap_i64]; omega
            go_upto_region 15 with fail
            go_still_tail 16, (by kernel_rfl)
            go_wp2
            have HF := Lib.hid (HEND.out (i16 x y) ((nx : Int) + 2) HZ.out.symm (by have h1 := HNX.out; have h2 := HSZ.out; rw [show cnt3 8 3 = 0 from rfl] at h1; rw [show szH 8 = 3 from rfl] at h2; omega))
            have HE := Lib.hid (set5_blk (HD.out.res.far (p := ⟨w2.heap.size, 4, none⟩) HD.out.ne (.int .i64 (i16 x y))) (.int .i64 op) (.int .i64 p1) (.int .i64 p2) (.int .i64 p3) (.int .i64 (i16 x y))).drew
            have HG := Lib.hid (set5_below (HD.out.old.setCell (p := ⟨w2.heap.size, 4, none⟩) HD.out.ge (.int .i64 (i16 x y))) (Nat.le_refl _) (.int .i64 op) (.int .i64 p1) (.int .i64 p2) (.int .i64 p3) (.int .i64 (i16 x y))).drew
            exact dec_end rfl rfl rfl HE.out ⟨HG.out, .inl ⟨HT.out, HF.out⟩⟩
          · by_cases h15 : has = 15
            · subst h15
              have hn1 : nx + 1 < n := by have h1 := HNX.out; have h2 := HSZ.out; rw [show cnt3 15 3 = 3 from rfl] at h1; rw [show szH 15 = 6 from rfl] at h2; omega
              have HNE : Hid (nx = at_ + 4) := Lib.hid (by have := HNX.out; have e1 : cnt3 15 3 = 3 := rfl; rw [e1] at this; omega)
              obtain ⟨gb1, go1, had1, _, hx1⟩ := byte_at (HRD.out.below HD.out.old) (show nx < n by omega)
              obtain ⟨gb2, go2, had2, _, hx2⟩ := byte_at (HRD.out.below HD.out.old) hn1
              simp only [Option.some.injEq, Addr.mk.injEq, and_true] at had1 had2
              obtain ⟨rfl, rfl⟩ := had1
              obtain ⟨rfl, rfl⟩ := had2
              have HZ : Hid (pZ 15 bs at_ = i16 (bs.getD nx 0) (bs.getD (nx + 1) 0)) := Lib.hid (by rw [HNE.out]; rfl)
              unfold bAt at hx1 hx2
              generalize bs.getD nx 0 = x at *
              generalize bs.getD (nx + 1) 0 = y at *
              have hxb := u8_lt x
              have hyb := u8_lt y
              have l1 : (0 : Int) ≤ (nx : Int) := by omega
              have l2 : (nx : Int) < (n : Int) := by omega
              have l3 : IntKind.i64.wrap ((nx : Int) + 1) = (nx : Int) + 1 := by rw [IntKind.wrap_i64]; omega
              have l4 : (0 : Int) ≤ (nx : Int) + 1 := by omega
              have l5 : (nx : Int) + 1 < (n : Int) := by omega
              have l6 : ((nx : Int) + 1).toNat = nx + 1 := by omega
              have b1 := i16_le x y
              have m1 : IntKind.u16.wrap (x.toNat : Int) = (x.toNat : Int) := by rw [IntKind.wrap_u16]; omega
              have m2 : IntKind.u16.wrap ((x.toNat : Int) * 256) = (x.toNat : Int) * 256 := by rw [IntKind.wrap_u16]; omega
              have m3 : IntKind.u16.wrap (y.toNat : Int) = (y.toNat : Int) := by rw [IntKind.wrap_u16]; omega
              have m4 := or_u16 x y
              have m5 := wrap_i16 x y
              have m6 : IntKind.i64.wrap (i16 x y) = i16 x y := by rw [IntKind.wrap_i64]; omega
              go_upto_region 15 with fail
              go_still_tail 16, (by kernel_rfl)
              go_wp2
              have HF := Lib.hid (HEND.out (i16 x y) ((nx : Int) + 2) HZ.out.symm (by have h1 := HNX.out; have h2 := HSZ.out; rw [show cnt3 15 3 = 3 from rfl] at h1; rw [show szH 15 = 6 from rfl] at h2; omega))
              have HE := Lib.hid (set5_blk (HD.out.res.far (p := ⟨w2.heap.size, 4, none⟩) HD.out.ne (.int .i64 (i16 x y))) (.int .i64 op) (.int .i64 p1) (.int .i64 p2) (.int .i64 p3) (.int .i64 (i16 x y))).drew
              have HG := Lib.hid (set5_below (HD.out.old.setCell (p := ⟨w2.heap.size, 4, none⟩) HD.out.ge (.int .i64 (i16 x y))) (Nat.le_refl _) (.int .i64 op) (.int .i64 p1) (.int .i64 p2) (.int .i64 p3) (.int .i64 (i16 x y))).drew
              exact dec_end rfl rfl rfl HE.out ⟨HG.out, .inl ⟨HT.out, HF.out⟩⟩
            · have HF : Hid (∀ z : Int, z = 0 → z = pZ has bs at_) := Lib.hid (fun z hz => by subst hz; unfold pZ; rw [if_neg h8, if_neg h15])
              have HM : Hid ((nx : Int) = at_ + sz) := Lib.hid (by
                have h1 := HNX.out
                have h2 := HSZ.out
                rcases HOK with rfl | rfl | rfl | rfl | rfl
                · rw [show cnt3 0 3 = 0 from rfl] at h1; rw [show szH 0 = 1 from rfl] at h2; omega
                · rw [show cnt3 1 3 = 1 from rfl] at h1; rw [show szH 1 = 2 from rfl] at h2; omega
                · rw [show cnt3 3 3 = 2 from rfl] at h1; rw [show szH 3 = 3 from rfl] at h2; omega
                · exact absurd rfl h8
                · exact absurd rfl h15)
              have hc : has = 0 ∨ has = 1 ∨ has = 3 := by
                rcases HOK with h | h | h | h | h
                · exact .inl h
                · exact .inr (.inl h)
                · exact .inr (.inr h)
                · exact absurd h h8
                · exact absurd h h15
              have HFM := Lib.hid (HEND.out 0 (nx : Int) (HF.out 0 rfl) HM.out)
              clear h8 h15 HOK HF HM
              rcases hc with rfl | rfl | rfl
              · go_wp2
                exact dec_end rfl rfl rfl (set5_blk HD.out.res (.int .i64 op) (.int .i64 p1) (.int .i64 p2) (.int .i64 p3) (.int .i64 0)) ⟨set5_below HD.out.old (Nat.le_refl _) (.int .i64 op) (.int .i64 p1) (.int .i64 p2) (.int .i64 p3) (.int .i64 0), .inl ⟨HT.out, HFM.out⟩⟩
              · go_wp2
                exact dec_end rfl rfl rfl (set5_blk HD.out.res (.int .i64 op) (.int .i64 p1) (.int .i64 p2) (.int .i64 p3) (.int .i64 0)) ⟨set5_below HD.out.old (Nat.le_refl _) (.int .i64 op) (.int .i64 p1) (.int .i64 p2) (.int .i64 p3) (.int .i64 0), .inl ⟨HT.out, HFM.out⟩⟩
              · go_wp2
                exact dec_end rfl rfl rfl (set5_blk HD.out.res (.int .i64 op) (.int .i64 p1) (.int .i64 p2) (.int .i64 p3) (.int .i64 0)) ⟨set5_below HD.out.old (Nat.le_refl _) (.int .i64 op) (.int .i64 p1) (.int .i64 p2) (.int .i64 p3) (.int .i64 0), .inl ⟨HT.out, HFM.out⟩⟩
        · have hkk : k < 3 := by omega
          have x0 := pidx0
          have x1 := pidx1
          have x2 := pidx2
          cases hb : has3 has k with
          | true =>
            obtain ⟨q1, q2, q3⟩ := cnt_lt HOK hkk hb
            have hnx : nx < n := by have := HNX.out; have := HSZ.out; omega
            have HNE : Hid (nx = at_ + 1 + k) := Lib.hid (by have := HNX.out; omega)
            have HNX2 : Hid (((nx + 1 : Nat) : Int) = at_ + 1 + cnt3 has (k + 1)) := Lib.hid (by have := HNX.out; omega)
            obtain ⟨gb', go', had, _, hcell⟩ := byte_at (HRD.out.below HD.out.old) hnx
            simp only [Option.some.injEq, Addr.mk.injEq, and_true] at had
            obtain ⟨rfl, rfl⟩ := had
            have HP := Lib.hid fun n => (HD.out.drewN n).put hkk hb
            rw [← HNE.out] at HP
            clear q1 q2 q3
            obtain ⟨hx0, hx1⟩ := bAt_le bs nx
            generalize bAt bs nx = bx at *
            obtain ⟨v1, i1⟩ : ∃ v, wr.cell? ⟨w2.heap.size, 1, none⟩ = some v := ⟨_, HD.out.ins.cell 1⟩
            obtain ⟨v2, i2⟩ : ∃ v, wr.cell? ⟨w2.heap.size, 2, none⟩ = some v := ⟨_, HD.out.ins.cell 2⟩
            obtain ⟨v3, i3⟩ : ∃ v, wr.cell? ⟨w2.heap.size, 3, none⟩ = some v := ⟨_, HD.out.ins.cell 3⟩
            have hfz : ∀ j, wr.frozen? ⟨w2.heap.size, j, none⟩ = false := fun j => HD.out.ins.frozen j
            obtain rfl | rfl | rfl : k = 0 ∨ k = 1 ∨ k = 2 := by omega
            all_goals obtain rfl | rfl | rfl | rfl | rfl := HOK
            all_goals first | (exfalso; revert hb; decide) | skip
            all_goals simp only [show ((0 : Nat) : Int) = 0 from rfl, show ((1 : Nat) : Int) = 1 from rfl, show ((2 : Nat) : Int) = 2 from rfl]
            all_goals clear hb
            all_goals go_wp2
            all_goals go_quiet (fail)
            all_goals go_wp2
            all_goals go_roundw
            all_goals first
              | (case rel => exact ⟨1, nx + 1, by omega, rfl, by go_num, HNX2, HP.out _⟩)
              | (case rel => exact ⟨2, nx + 1, by omega, rfl, by go_num, HNX2, HP.out _⟩)
              | (case rel => exact ⟨3, nx + 1, by omega, rfl, by go_num, HNX2, HP.out _⟩)
              | (case measure => decide)
          | false =>
            have hcs := cnt_same HOK hkk hb
            have HNX2 : Hid ((nx : Int) = at_ + 1 + cnt3 has (k + 1)) := Lib.hid (by have := HNX.out; omega)
            have HP := Lib.hid fun n => (HD.out.drewN n).same hkk hb
            clear hcs
            obtain rfl | rfl | rfl : k = 0 ∨ k = 1 ∨ k = 2 := by omega
            all_goals obtain rfl | rfl | rfl | rfl | rfl := HOK
            all_goals first | (exfalso; revert hb; decide) | skip
            all_goals simp only [show ((0 : Nat) : Int) = 0 from rfl, show ((1 : Nat) : Int) = 1 from rfl, show ((2 : Nat) : Int) = 2 from rfl]
            all_goals clear hb
            all_goals go_wp2
            all_goals go_quiet (fail)
            all_goals go_wp2
            all_goals go_roundw
            all_goals first
              | (case rel => exact ⟨1, nx, by omega, rfl, rfl, HNX2, HP.out _⟩)
              | (case rel => exact ⟨2, nx, by omega, rfl, rfl, HNX2, HP.out _⟩)
              | (case rel => exact ⟨3, nx, by omega, rfl, rfl, HNX2, HP.out _⟩)
              | (case measure => decide)
    · have HF : Hid (okAt bs at_ = false) := Lib.hid (by rw [HOKA.out]; simp; omega)
      have hd : (n : Int) < (at_ : Int) + (sz : Int) := by omega
      have c0 : w2.cell? ⟨w.heap.size, 0, none⟩ = some (.int .i64 0) := HX2.out.cell 0
      have c1 : w2.cell? ⟨w.heap.size, 1, none⟩ = some (.int .i64 0) := HX2.out.cell 1
      have c2 : w2.cell? ⟨w.heap.size, 2, none⟩ = some (.int .i64 0) := HX2.out.cell 2
      have c3 : w2.cell? ⟨w.heap.size, 3, none⟩ = some (.int .i64 0) := HX2.out.cell 3
      have c4 : w2.cell? ⟨w.heap.size, 4, none⟩ = some (.int .i64 0) := HX2.out.cell 4
      have f0 : w2.frozen? ⟨w.heap.size, 0, none⟩ = false := HX2.out.frozen 0
      have f1 : w2.frozen? ⟨w.heap.size, 1, none⟩ = false := HX2.out.frozen 1
      have f2 : w2.frozen? ⟨w.heap.size, 2, none⟩ = false := HX2.out.frozen 2
      have f3 : w2.frozen? ⟨w.heap.size, 3, none⟩ = false := HX2.out.frozen 3
      have f4 : w2.frozen? ⟨w.heap.size, 4, none⟩ = false := HX2.out.frozen 4
      clear hfit
      go_wp2
      have HE := Lib.hid (set5_blk HX2.out (.int .i64 0) (.int .i64 0) (.int .i64 0) (.int .i64 0) (.int .i64 0))
      exact dec_end rfl rfl rfl HE.out ⟨set5_below HB2.out (Nat.le_refl _) _ _ _ _ _, .inr ⟨HF.out, rfl⟩⟩
end Go.Proofs.YtaeegkljldngmaaDoor
