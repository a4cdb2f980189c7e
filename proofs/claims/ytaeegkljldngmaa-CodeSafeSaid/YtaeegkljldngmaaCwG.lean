/-
  The law CodeEncodes f3. No statement of the seat is proved here.
-/
import Derived.Test.YtaeegkljldngmaaCwD
import Derived.Test.YtaeegkljldngmaaCwF
import Derived.Test.YtaeegkljldngmaaCdX
namespace Go.Proofs.Ytaeegkljldngmaa
open Go.RowKit

theorem insL_refl (l : List Ins) : insL l l = true := (insL_iff l l).2 rfl
/-- a slice of instructions, as cells -/
theorem RdI.reads {w : World} {B n : Nat} {A : Option Addr} {l : List Ins} (h : RdI w B A n l) : Reads w B 5 A n (insC l) := by
  refine ⟨by rw [insC_len, h.1], fun h0 => ?_⟩
  have hln := h.1
  obtain ⟨x, hx⟩ : ∃ x, l[0]? = some x := ⟨_, List.getElem?_eq_getElem (by omega)⟩
  obtain ⟨b, o, rfl, hb, hc⟩ := h.2 0 x hx
  refine ⟨_, rfl, hb, fun j u hu => ?_⟩
  have hj : j < l.length * 5 := by rw [← insC_len]; exact (List.getElem?_eq_some_iff.1 hu).1
  obtain ⟨y, hy⟩ : ∃ y, l[j / 5]? = some y := ⟨_, List.getElem?_eq_getElem (by omega)⟩
  obtain ⟨b', o', e, _, hc'⟩ := h.2 (j / 5) y hy
  simp only [Option.some.injEq, Addr.mk.injEq, and_true] at e
  obtain ⟨rfl, rfl⟩ := e
  have hm : j % 5 < y.cs.length := Nat.mod_lt _ (by decide)
  have h1 := flat_at (f := Ins.cs) (n := 5) (fun _ => rfl) hy (List.getElem?_eq_getElem hm)
  rw [show j / 5 * 5 + j % 5 = j by omega] at h1
  have h2 : (insC l)[j]? = some (y.cs[j % 5]) := h1
  rw [h2] at hu
  injection hu with hu
  have h3 := hc' (j % 5) u (by rw [List.getElem?_eq_getElem hm, hu])
  have e : (⟨b, o, none⟩ : Addr).add j = ⟨b, o + j, none⟩ := by unfold Addr.add; split <;> simp_all
  rw [e]
  rw [show o + (j / 5 * 5 + j % 5) = o + j by omega] at h3
  exact h3
set_option maxRecDepth 100000 in
set_option maxHeartbeats 4000000 in
theorem encodes_any (A : Option Addr) (n c : Nat) (l : List Ins) (w : World) (hl : RdI w w.heap.size A n l) (hn : n ≤ 3518437208883) : Calls Try.prog 3 #[.slice A n c] w (AwP w) := by
  have H14 := Lib.hid awake_any
  have HL := Lib.hid hl
  have hlen := hl.1
  have HRD := Lib.hid hl.reads
  obtain ⟨er, bs, hR⟩ : ∃ er bs, encF [] l = (er, bs) := ⟨_, _, rfl⟩
  have H10 := Lib.hid fun w hl => Big.Encode_any A n c l w hl hn
  have H11 := Lib.hid fun w hl => Rencode_any A n c l w hl hn
  rw [hR] at H10 H11
  have HLN := Lib.hid hlen
  clear hl hlen hR
  go_enter Try.func3, Try.ntmps3
  go_upto_region 2 with (at_builtin; refine app_ins rfl _ _ rfl w.heap.size (.slice none 0 0) [] rfl (World.ownsRow_nil _ _ _ _) _ _ n c l rfl HRD.out (by simp; omega) (Nat.le_refl _) ?_; intro v1 w1 ho ha; have HO := Lib.hid ho; have HB1 := Lib.hid (ha.below (Nat.le_refl _) fun k hk => by simp [Value.ownBlock] at hk); clear ho ha)
  rw [List.nil_append] at HO
  obtain ⟨A1, c1, hv1, _, _⟩ := own_form HO.out
  rw [HLN.out] at hv1
  subst hv1
  have HL1 := Lib.hid ((HL.out.below HB1.out).more HB1.out.size)
  go_upto_region 3 with (go_at_call 10; refine (H10.out _ HL1.out).mono ?_; rintro e w2 ⟨v2, rfl, ho2, hb2⟩; have HV2 := Lib.hid ho2; have HBA := Lib.hid hb2; have HB2 := Lib.hid (HB1.out.trans (hb2.mono HB1.out.size)); clear ho2 hb2)
  have HL2 := Lib.hid ((HL.out.below HB2.out).more HB2.out.size)
  go_upto_region 4 with (go_at_call 11; refine (H11.out _ HL2.out).mono ?_; rintro e w3 ⟨v3, rfl, ho3, hb3⟩; have HV3 := Lib.hid ho3; have HBB := Lib.hid hb3; have HB3 := Lib.hid (HB2.out.trans (hb3.mono HB2.out.size)); clear ho3 hb3)
  have HVV : Hid (OwnB 5 w3 w1.heap.size v2 bs) := Lib.hid (own_same HV2.out fun k hk => HBB.out.block k (World.ownsRow.lt HV2.out k hk).2)
  have HO3 : Hid (w3.ownsRow w.heap.size 43 5 (.slice A1 n c1) n (insC l)) := Lib.hid (by
    have h1 : w1.ownsRow w.heap.size 43 5 (.slice A1 n c1) n (insC l) := by have := HO.out; unfold OwnIn at this; rw [HLN.out] at this; exact this
    exact own_same (own_same h1 fun k hk => HBA.out.block k (World.ownsRow.lt h1 k hk).2) fun k hk => HBB.out.block k (Nat.lt_of_lt_of_le (World.ownsRow.lt h1 k hk).2 HBA.out.size))
  obtain ⟨A2, c2, rfl, _, _⟩ := HVV.out.form
  obtain ⟨A3, c3, rfl, hx3, hm3⟩ := HV3.out.form
  unfold maxLen at hm3
  have H12 := Lib.hid (same_any A2 A3 bs.length bs.length c2 c3 _ _ bs bs w3 (HVV.out.reads rfl) (HV3.out.reads rfl) (by omega))
  have H13 := Lib.hid fun m => instrs_any A A1 n n c c1 _ _ l l (w3.drewN m) (((HL.out.below HB3.out).more HB3.out.size).drewN m) ((RdI.of_own HO3.out).drewN m) (by omega)
  rw [show decide (bs = bs) = true by simp] at H12
  rw [insL_refl] at H13
  have e1 : (er == er) = true := by simp
  clear HL HO HL1 HL2 H10 H11 HV2 HV3 HVV HO3 HBA HBB HB1 HB2 HRD hx3 hm3
  go_wp2_with (first
    | (go_at_call 12; refine H12.out.mono ?_; rintro e w4 ⟨rfl, m, rfl⟩)
    | (go_at_call 13; refine (H13.out _).mono ?_; rintro e w5 ⟨rfl, m5, rfl⟩)
    | (go_at_call 14; refine (H14.out _).mono ?_; rintro e w6 ⟨rfl, hb6⟩; have HB6 := Lib.hid hb6; clear hb6))
  go_ret
  exact ⟨rfl, HB3.out.trans ((below_drewN (Below.refl _ _) (m + m5)).mono HB3.out.size |>.trans (HB6.out.mono HB3.out.size))⟩
end Go.Proofs.Ytaeegkljldngmaa
