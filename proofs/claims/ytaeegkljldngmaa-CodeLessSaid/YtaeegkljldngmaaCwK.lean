/-
  The law CodeLess f4, where the splitting's contract is known. No statement of the seat is proved here.
-/
import Derived.Test.YtaeegkljldngmaaCvR
import Derived.Test.YtaeegkljldngmaaPlL
namespace Go.Proofs.Ytaeegkljldngmaa
open Go.RowKit

theorem info38 : (Try.prog.info? 38).map (fun i => (i.zero, i.size, i.bytes)) = some (some (.int .i64 0), 1, 8) := by kernel_rfl
abbrev OwnL (w : World) (base : Nat) (v : Value) (zs : List Int) : Prop := w.ownsRow base 38 1 v zs.length (zs.map iv)
section
variable {w : World} {ops : Array Oper} {rest : List Oper} {o : Oper} {a : Act} {Q : Exit → Act → World → Prop}
theorem app_l (hgd : o.guard = none) (s x : Operand) (ho : o.op = .call { callee := .builtin .append, args := #[s, x], argTypes := #[33, 33] })
    (base : Nat) (v : Value) (l : List Int) (hs : a.eval s = v) (hown : OwnL w base v l) (B : Nat) (A : Option Addr) (m c : Nat) (news : List Int) (hx : a.eval x = .slice A m c) (hr : Reads w B 1 A m (news.map iv))
    (hb : (l.length + m) * 8 ≤ 140737488355328) (hbase : base ≤ w.heap.size)
    (h : ∀ v' w', OwnL w' base v' (l ++ news) → App w v w' v' → wpList Try.prog ops Q rest (a.put o.dst v') w') : wpList Try.prog ops Q (o :: rest) a w := by
  obtain ⟨i0, hi, hz0, hz1, hz2⟩ := info_parts info38
  refine wpList_append_any w hgd s x 33 ho base 38 i0 _ 1 8 Try.underlying33 hi hz0 hz1 hz2 rfl (by decide) v l.length (l.map iv) hs hown B A m c (news.map iv) hx hr (iv_one _) (by simp only [maxLen]; omega) hb hbase fun v' w' h1 h2 h3 => h v' w' ?_ ⟨h2, ?_⟩
  · have hl : news.length = m := by have := hr.1; simpa using this
    show w'.ownsRow base 38 1 v' (l ++ news).length ((l ++ news).map iv)
    rw [List.length_append, List.map_append, hl]
    exact h1
  · rcases h3 with e | e
    · exact .inl e
    · exact .inr ⟨_, e, Nat.le_refl _⟩
end
/-- what passes passes with more -/
theorem verB_more {s t : Shp} {bs : List UInt8} (h : ShLe s t) (ha : s.args = t.args) (h1 : t.temps ≤ 63) (h2 : t.fields ≤ 255) (h3 : t.lits.length ≤ 255) (hv : (verB s bs).2.2 = 0) : verB t bs = verB s bs := by
  unfold verB at hv ⊢
  cases hs : shB s.args s.temps s.fields s.lits.length with
  | false => rw [hs] at hv; simp at hv
  | true =>
    have hy := shB_yes hs
    have ht := h.temps
    have hf := h.fields
    have hs2 : shB t.args t.temps t.fields t.lits.length = true := by
      rw [← ha]
      unfold shB hdrB
      simp only [Bool.and_eq_true, Bool.not_eq_true', Bool.or_eq_false_iff, decide_eq_false_iff_not, decide_eq_true_eq]
      omega
    rw [hs, if_pos rfl] at hv
    rw [hs2, if_pos rfl, if_pos rfl]
    by_cases hd : (decL bs).2.2.2 = 0
    · rw [if_pos hd] at hv
      rw [if_pos hd, if_pos hd]
      rcases decL_cases bs with ⟨_, e⟩ | ⟨_, ⟨l, ps, e, hw⟩ | ⟨p, e, _⟩⟩
      · rw [e] at hd; exact absurd hd (by decide)
      · rw [e] at hv ⊢
        exact ver_more h hw.ok hv
      · rw [e] at hd; exact absurd hd (show ¬ (50 : Int) = 0 by decide)
    · rw [if_neg hd] at hv
      exact absurd hv hd
/-- the greater shape while it is made -/
structure LsR (w : World) (bt : Nat) (a T F : Int) (zs : List Int) (v : Value) (W : World) : Prop where
  own : OwnL W w.heap.size v zs
  blk : Blk W bt 35 #[.int .i64 a, .int .i64 T, .int .i64 F, v]
  old : Below w.heap.size w W
  ge : w.heap.size ≤ bt
theorem LsR.put {w : World} {bt : Nat} {a T F : Int} {zs : List Int} {v u : Value} {w4 : World} (ho : OwnL w4 w.heap.size v zs) (hb : Blk w4 bt 35 #[.int .i64 a, .int .i64 T, .int .i64 F, u]) (hold : Below w.heap.size w w4) (hge : w.heap.size ≤ bt) : LsR w bt a T F zs v (w4.setCell ⟨bt, 3, none⟩ v) := by
  have hc : Chg (· = bt) w4 (w4.setCell ⟨bt, 3, none⟩ v) := (Chg.refl (· = bt) w4).setCell (p := ⟨bt, 3, none⟩) (fun _ => rfl) _
  exact ⟨own_chg ho hc fun j hj e => own_blk_ne ho hb (by decide) (by rw [hj, e]), hb.set_ 3 v, hold.setCell (p := ⟨bt, 3, none⟩) hge _, hge⟩
set_option maxRecDepth 100000 in
set_option maxHeartbeats 8000000 in
theorem less_any (A : Option Addr) (n c : Nat) (bs : List UInt8) (s : Shp) (LA : Option Addr) (lc : Nat) (more : Int) (w : World) (hr : RdB w w.heap.size A n bs) (hl : Reads w w.heap.size 1 LA s.lits.length (s.lits.map iv)) (hsp : ∀ s, SplitsOk s (decL bs).1) :
    Calls Try.prog 4 #[.slice A n c, .agg #[.int .i64 s.args, .int .i64 s.temps, .int .i64 s.fields, .slice LA s.lits.length lc], .int .i64 more] w (AwP w) := by
  have H14 := Lib.hid awake_any
  have HRD := Lib.hid hr
  have HL := Lib.hid hl
  have HSP := Lib.hid hsp
  obtain ⟨R, hR⟩ : ∃ R, verB s bs = R := ⟨_, rfl⟩
  have HR := Lib.hid hR
  have H15 := Lib.hid fun (t : Shp) (LA : Option Addr) (lc : Nat) (w : World) h1 h2 => verify_any A n c bs t LA lc w h1 h2 (hsp t)
  have HB1 : Hid (Below w.heap.size w (w.alloc (.cells #[.int .i64 s.args, .int .i64 s.temps, .int .i64 s.fields, .slice LA s.lits.length lc] 35))) := Lib.hid ((Below.refl _ _).alloc (Nat.le_refl _) _)
  have HX1 := Lib.hid (Blk.new w 35 #[.int .i64 s.args, .int .i64 s.temps, .int .i64 s.fields, .slice LA s.lits.length lc])
  clear hR hr hl hsp
  go_enter Try.func4, Try.ntmps4
  go_upto_region 1 with fail
  generalize w.alloc (.cells #[.int .i64 s.args, .int .i64 s.temps, .int .i64 s.fields, .slice LA s.lits.length lc] 35) = w1 at *
  have k0 : w1.cell? ⟨w.heap.size, 0, none⟩ = some (.int .i64 s.args) := HX1.out.cell 0
  have k1 : w1.cell? ⟨w.heap.size, 1, none⟩ = some (.int .i64 s.temps) := HX1.out.cell 1
  have k2 : w1.cell? ⟨w.heap.size, 2, none⟩ = some (.int .i64 s.fields) := HX1.out.cell 2
  have k3 : w1.cell? ⟨w.heap.size, 3, none⟩ = some (.slice LA s.lits.length lc) := HX1.out.cell 3
  have HV1 := Lib.hid (H15.out s LA lc w1 ((HRD.out.below HB1.out).more HB1.out.size) ((HL.out.below HB1.out).more HB1.out.size))
  rw [HR.out] at HV1
  obtain ⟨d, at_, er⟩ := R
  go_upto_region 2 with (go_at_call 15; refine HV1.out.mono ?_; rintro e w2 ⟨rfl, hb2⟩; have HB2 := Lib.hid (HB1.out.trans (hb2.mono HB1.out.size)); have HX2 := Lib.hid (HX1.out.below hb2 HX1.out.lt); clear hb2)
  clear k0 k1 k2 k3 HV1 HX1 HB1
  by_cases her : er = 0
  · subst her
    have hve : verB s bs = (d, at_, 0) := HR.out
    have hsh : shB s.args s.temps s.fields s.lits.length = true := by
      cases hb : shB s.args s.temps s.fields s.lits.length with
      | true => rfl
      | false =>
        unfold verB at hve
        rw [hb] at hve
        simp at hve
    have hy := shB_yes hsh
    clear hve hsh
    have h3 : more < 0 ∨ (0 ≤ more ∧ 40 < more) ∨ (0 ≤ more ∧ more ≤ 40) := by omega
    have k0 : w2.cell? ⟨w.heap.size, 0, none⟩ = some (.int .i64 s.args) := HX2.out.cell 0
    have k1 : w2.cell? ⟨w.heap.size, 1, none⟩ = some (.int .i64 s.temps) := HX2.out.cell 1
    have k2 : w2.cell? ⟨w.heap.size, 2, none⟩ = some (.int .i64 s.fields) := HX2.out.cell 2
    have k3 : w2.cell? ⟨w.heap.size, 3, none⟩ = some (.slice LA s.lits.length lc) := HX2.out.cell 3
    have hw2 := HX2.out.lt
    have z35 : ∀ w : World, (zeroValue 35).run Try.prog w = .ok (.agg #[.int .i64 0, .int .i64 0, .int .i64 0, .slice none 0 0]) w := fun w => by kernel_rfl
    rcases h3 with g1 | ⟨g1, g2⟩ | ⟨g1, g2⟩
    · go_upto_region 9 with fail
      obtain ⟨T, hT⟩ : ∃ T, (if 63 < s.temps + 1 then 63 else s.temps + 1) = T := ⟨_, rfl⟩
      obtain ⟨F, hF⟩ : ∃ F, (if 255 < s.fields + 1 then 255 else s.fields + 1) = F := ⟨_, rfl⟩
      have hT2 : s.temps ≤ T ∧ T ≤ 63 := by rw [← hT]; split <;> omega
      have hF2 : s.fields ≤ F ∧ F ≤ 255 := by rw [← hF]; split <;> omega
      simp only [hT, hF]
      clear hT hF
      have HX3 := Lib.hid (Blk.new w2 35 #[.int .i64 s.args, .int .i64 T, .int .i64 F, .slice LA s.lits.length lc])
      have HX4 := Lib.hid (HX2.out.alloc (.cells #[.int .i64 s.args, .int .i64 T, .int .i64 F, .slice LA s.lits.length lc] 35))
      have HB3 := Lib.hid (HB2.out.alloc HB2.out.size (.cells #[.int .i64 s.args, .int .i64 T, .int .i64 F, .slice LA s.lits.length lc] 35))
      have hbt : w.heap.size ≤ w2.heap.size := HB2.out.size
      clear HX2 HB2 k0 k1 k2 k3 hw2
      generalize w2.alloc (.cells #[.int .i64 s.args, .int .i64 T, .int .i64 F, .slice LA s.lits.length lc] 35) = w3 at *
      generalize w2.heap.size = bt at *
      have k3 : w3.cell? ⟨w.heap.size, 3, none⟩ = some (.slice LA s.lits.length lc) := HX4.out.cell 3
      have hbB : w.heap.size ≤ w3.heap.size := HB3.out.size
      have HLR := Lib.hid ((HL.out.below HB3.out).more hbB)
      have hl255 : s.lits.length ≤ 255 := by have := hy; omega
      go_upto_region 10 with (at_builtin; refine app_l rfl (.const (.slice none 0 0)) (.tmp 45) rfl w.heap.size (.slice none 0 0) [] rfl (World.ownsRow_nil _ _ _ _) _ LA s.lits.length lc s.lits rfl HLR.out (by simp; omega) hbB ?_; intro v4 w4 ho ha; rw [List.nil_append] at ho; have hx4 := ha.blk HX3.out (by simp [Value.ownBlock]); have q3 := hx4.frozen 3; have q4 := hx4.cell 3; have q5 := hx4.lt; have HLS := Lib.hid (LsR.put ho hx4 (HB3.out.trans (ha.below hbB fun k hk => by simp [Value.ownBlock] at hk)) hbt); obtain ⟨A4, c4, rfl, _, _⟩ := own_form ho; clear ho ha hx4)
      clear k3 HLR HX3 HX4 HB3 q3 q4 q5 hbB
      generalize w4.setCell ⟨bt, 3, none⟩ (.slice A4 s.lits.length c4) = w5 at *
      go_upto_block 0 with fail
      go_cut [11] (fun _ wx => ∃ (zs : List Int) (v : Value), (∃ mo, zs = s.lits ++ mo) ∧ zs.length ≤ 255 ∧ LsR w bt s.args T F zs v wx)
      case first =>
        go_wp2
        go_loopw [11] (fun i wx => ∃ (k : Nat) (zs : List Int) (v : Value), k ≤ 40 ∧ i = .int .i64 k ∧ (∃ mo, zs = s.lits ++ mo) ∧ zs.length ≤ 255 ∧ LsR w bt s.args T F zs v wx) (fun i _ => 41 - (intOf i).toNat)
        case atStart => exact ⟨0, s.lits, _, by omega, rfl, ⟨[], by simp⟩, hl255, HLS.out⟩
        case round =>
          obtain ⟨k, zs, v, hk, rfl, hmo, hz, hL⟩ := hrel
          have HLL := Lib.hid hL
          have HMO := Lib.hid hmo
          obtain ⟨n5, hn5⟩ : ∃ n5, zs.length = n5 := ⟨_, rfl⟩
          obtain ⟨A5, c5, hv5, -, -⟩ := own_form hL.own
          rw [hn5] at hv5 hz
          subst hv5
          have HN5 := Lib.hid hn5
          have k3 : wr.cell? ⟨bt, 3, none⟩ = some (.slice A5 n5 c5) := hL.blk.cell 3
          have hws := hL.old.size
          clear hL hmo hn5 HLS
          by_cases hkm : (k : Int) < 1 ∧ n5 < 255
          · obtain ⟨h1, h2⟩ := hkm
            have HOA := Lib.hid (World.ownsRow.alloc HLL.out.own (.cells #[.int .i64 ((k : Int) % 3)] 38))
            have HBA := Lib.hid (HLL.out.blk.alloc (.cells #[.int .i64 ((k : Int) % 3)] 38))
            have l1 : (0 : Int) ≤ (k : Int) := by omega
            have HLN : Hid ((zs ++ [(k : Int) % 3]).length = n5 + 1) := Lib.hid (by simp [HN5.out])
            have hb8 : (zs.length + 1) * 8 ≤ 140737488355328 := by rw [HN5.out]; omega
            go_wp2_with (at_builtin; refine app_l rfl (.tmp 60) (.tmp 63) rfl w.heap.size (.slice A5 n5 c5) zs rfl HOA.out _ _ 1 1 [(k : Int) % 3] rfl (Reads.builtN' _ 38 _ ([(k : Int) % 3].map iv) 1 1 rfl rfl) hb8 (by simp; omega) ?_; intro v6 w6 ho ha; have hx6 := ha.blk HBA.out (own_blk_ne HOA.out HBA.out (by decide)); have q3 := hx6.frozen 3; have q4 := hx6.cell 3; have q5 := hx6.lt; have HL6 := Lib.hid (LsR.put ho hx6 ((HLL.out.old.alloc hws _).trans (ha.below (by simp; omega) fun j hj => (World.ownsRow.lt HLL.out.own j hj).1)) HLL.out.ge); obtain ⟨A6, c6, hv6, -, -⟩ := own_form ho; rw [HLN.out] at hv6; subst hv6; clear ho ha hx6)
            go_roundw
            case rel => exact ⟨k + 1, _, _, by omega, by go_num, by obtain ⟨mo, e⟩ := HMO.out; exact ⟨mo ++ [(k : Int) % 3], by rw [e, List.append_assoc]⟩, by rw [HLN.out]; omega, HL6.out⟩
            case measure => simp [intOf]; omega
          · have hc : ¬ (k : Int) < 1 ∨ ((k : Int) < 1 ∧ 255 ≤ n5) := by omega
            clear hkm
            rcases hc with h1 | ⟨h1, h2⟩
            all_goals
              go_wp2
              go_meet
              exact ⟨zs, _, HMO.out, by rw [HN5.out]; exact hz, HLL.out⟩
      case rest =>
        obtain ⟨zs, v, hmo, hz, hL⟩ := hcut
        have HLL := Lib.hid hL
        obtain ⟨A7, c7, rfl, -, -⟩ := own_form hL.own
        have k0 : wc.cell? ⟨bt, 0, none⟩ = some (.int .i64 s.args) := hL.blk.cell 0
        have k1 : wc.cell? ⟨bt, 1, none⟩ = some (.int .i64 T) := hL.blk.cell 1
        have k2 : wc.cell? ⟨bt, 2, none⟩ = some (.int .i64 F) := hL.blk.cell 2
        have k3 : wc.cell? ⟨bt, 3, none⟩ = some (.slice A7 zs.length c7) := hL.blk.cell 3
        have hve : verB ⟨s.args, T, F, zs⟩ bs = (d, at_, 0) := by
          have e1 := HR.out
          rw [← e1]
          exact verB_more ⟨hT2.1, hF2.1, hmo⟩ rfl hT2.2 hF2.2 hz (by rw [e1])
        have HV2 := Lib.hid (H15.out ⟨s.args, T, F, zs⟩ A7 c7 wc ((HRD.out.below hL.old).more hL.old.size) (Reads.of_own hL.own))
        rw [hve] at HV2
        clear hve hmo hL HLS
        have e1 : (d == d) = true := by simp
        go_wp2_with (first
          | (go_at_call 15; refine HV2.out.mono ?_; rintro e w8 ⟨rfl, hb8⟩; have HB8 := Lib.hid (HLL.out.old.trans (hb8.mono HLL.out.old.size)); clear hb8)
          | (go_at_call 14; refine (H14.out _).mono ?_; rintro e w9 ⟨rfl, hb9⟩; have HB9 := Lib.hid (HB8.out.trans (hb9.mono HB8.out.size)); clear hb9))
        go_ret
        exact ⟨rfl, HB9.out⟩
    · go_upto_region 9 with fail
      obtain ⟨T, hT⟩ : ∃ T, (if 63 < s.temps + 1 then 63 else s.temps + 1) = T := ⟨_, rfl⟩
      obtain ⟨F, hF⟩ : ∃ F, (if 255 < s.fields + 1 then 255 else s.fields + 1) = F := ⟨_, rfl⟩
      have hT2 : s.temps ≤ T ∧ T ≤ 63 := by rw [← hT]; split <;> omega
      have hF2 : s.fields ≤ F ∧ F ≤ 255 := by rw [← hF]; split <;> omega
      simp only [hT, hF]
      clear hT hF
      have HX3 := Lib.hid (Blk.new w2 35 #[.int .i64 s.args, .int .i64 T, .int .i64 F, .slice LA s.lits.length lc])
      have HX4 := Lib.hid (HX2.out.alloc (.cells #[.int .i64 s.args, .int .i64 T, .int .i64 F, .slice LA s.lits.length lc] 35))
      have HB3 := Lib.hid (HB2.out.alloc HB2.out.size (.cells #[.int .i64 s.args, .int .i64 T, .int .i64 F, .slice LA s.lits.length lc] 35))
      have hbt : w.heap.size ≤ w2.heap.size := HB2.out.size
      clear HX2 HB2 k0 k1 k2 k3 hw2
      generalize w2.alloc (.cells #[.int .i64 s.args, .int .i64 T, .int .i64 F, .slice LA s.lits.length lc] 35) = w3 at *
      generalize w2.heap.size = bt at *
      have k3 : w3.cell? ⟨w.heap.size, 3, none⟩ = some (.slice LA s.lits.length lc) := HX4.out.cell 3
      have hbB : w.heap.size ≤ w3.heap.size := HB3.out.size
      have HLR := Lib.hid ((HL.out.below HB3.out).more hbB)
      have hl255 : s.lits.length ≤ 255 := by have := hy; omega
      go_upto_region 10 with (at_builtin; refine app_l rfl (.const (.slice none 0 0)) (.tmp 45) rfl w.heap.size (.slice none 0 0) [] rfl (World.ownsRow_nil _ _ _ _) _ LA s.lits.length lc s.lits rfl HLR.out (by simp; omega) hbB ?_; intro v4 w4 ho ha; rw [List.nil_append] at ho; have hx4 := ha.blk HX3.out (by simp [Value.ownBlock]); have q3 := hx4.frozen 3; have q4 := hx4.cell 3; have q5 := hx4.lt; have HLS := Lib.hid (LsR.put ho hx4 (HB3.out.trans (ha.below hbB fun k hk => by simp [Value.ownBlock] at hk)) hbt); obtain ⟨A4, c4, rfl, _, _⟩ := own_form ho; clear ho ha hx4)
      clear k3 HLR HX3 HX4 HB3 q3 q4 q5 hbB
      generalize w4.setCell ⟨bt, 3, none⟩ (.slice A4 s.lits.length c4) = w5 at *
      go_upto_block 0 with fail
      go_cut [11] (fun _ wx => ∃ (zs : List Int) (v : Value), (∃ mo, zs = s.lits ++ mo) ∧ zs.length ≤ 255 ∧ LsR w bt s.args T F zs v wx)
      case first =>
        go_wp2
        go_loopw [11] (fun i wx => ∃ (k : Nat) (zs : List Int) (v : Value), k ≤ 40 ∧ i = .int .i64 k ∧ (∃ mo, zs = s.lits ++ mo) ∧ zs.length ≤ 255 ∧ LsR w bt s.args T F zs v wx) (fun i _ => 41 - (intOf i).toNat)
        case atStart => exact ⟨0, s.lits, _, by omega, rfl, ⟨[], by simp⟩, hl255, HLS.out⟩
        case round =>
          obtain ⟨k, zs, v, hk, rfl, hmo, hz, hL⟩ := hrel
          have HLL := Lib.hid hL
          have HMO := Lib.hid hmo
          obtain ⟨n5, hn5⟩ : ∃ n5, zs.length = n5 := ⟨_, rfl⟩
          obtain ⟨A5, c5, hv5, -, -⟩ := own_form hL.own
          rw [hn5] at hv5 hz
          subst hv5
          have HN5 := Lib.hid hn5
          have k3 : wr.cell? ⟨bt, 3, none⟩ = some (.slice A5 n5 c5) := hL.blk.cell 3
          have hws := hL.old.size
          clear hL hmo hn5 HLS
          by_cases hkm : (k : Int) < 1 ∧ n5 < 255
          · obtain ⟨h1, h2⟩ := hkm
            have HOA := Lib.hid (World.ownsRow.alloc HLL.out.own (.cells #[.int .i64 ((k : Int) % 3)] 38))
            have HBA := Lib.hid (HLL.out.blk.alloc (.cells #[.int .i64 ((k : Int) % 3)] 38))
            have l1 : (0 : Int) ≤ (k : Int) := by omega
            have HLN : Hid ((zs ++ [(k : Int) % 3]).length = n5 + 1) := Lib.hid (by simp [HN5.out])
            have hb8 : (zs.length + 1) * 8 ≤ 140737488355328 := by rw [HN5.out]; omega
            go_wp2_with (at_builtin; refine app_l rfl (.tmp 60) (.tmp 63) rfl w.heap.size (.slice A5 n5 c5) zs rfl HOA.out _ _ 1 1 [(k : Int) % 3] rfl (Reads.builtN' _ 38 _ ([(k : Int) % 3].map iv) 1 1 rfl rfl) hb8 (by simp; omega) ?_; intro v6 w6 ho ha; have hx6 := ha.blk HBA.out (own_blk_ne HOA.out HBA.out (by decide)); have q3 := hx6.frozen 3; have q4 := hx6.cell 3; have q5 := hx6.lt; have HL6 := Lib.hid (LsR.put ho hx6 ((HLL.out.old.alloc hws _).trans (ha.below (by simp; omega) fun j hj => (World.ownsRow.lt HLL.out.own j hj).1)) HLL.out.ge); obtain ⟨A6, c6, hv6, -, -⟩ := own_form ho; rw [HLN.out] at hv6; subst hv6; clear ho ha hx6)
            go_roundw
            case rel => exact ⟨k + 1, _, _, by omega, by go_num, by obtain ⟨mo, e⟩ := HMO.out; exact ⟨mo ++ [(k : Int) % 3], by rw [e, List.append_assoc]⟩, by rw [HLN.out]; omega, HL6.out⟩
            case measure => simp [intOf]; omega
          · have hc : ¬ (k : Int) < 1 ∨ ((k : Int) < 1 ∧ 255 ≤ n5) := by omega
            clear hkm
            rcases hc with h1 | ⟨h1, h2⟩
            all_goals
              go_wp2
              go_meet
              exact ⟨zs, _, HMO.out, by rw [HN5.out]; exact hz, HLL.out⟩
      case rest =>
        obtain ⟨zs, v, hmo, hz, hL⟩ := hcut
        have HLL := Lib.hid hL
        obtain ⟨A7, c7, rfl, -, -⟩ := own_form hL.own
        have k0 : wc.cell? ⟨bt, 0, none⟩ = some (.int .i64 s.args) := hL.blk.cell 0
        have k1 : wc.cell? ⟨bt, 1, none⟩ = some (.int .i64 T) := hL.blk.cell 1
        have k2 : wc.cell? ⟨bt, 2, none⟩ = some (.int .i64 F) := hL.blk.cell 2
        have k3 : wc.cell? ⟨bt, 3, none⟩ = some (.slice A7 zs.length c7) := hL.blk.cell 3
        have hve : verB ⟨s.args, T, F, zs⟩ bs = (d, at_, 0) := by
          have e1 := HR.out
          rw [← e1]
          exact verB_more ⟨hT2.1, hF2.1, hmo⟩ rfl hT2.2 hF2.2 hz (by rw [e1])
        have HV2 := Lib.hid (H15.out ⟨s.args, T, F, zs⟩ A7 c7 wc ((HRD.out.below hL.old).more hL.old.size) (Reads.of_own hL.own))
        rw [hve] at HV2
        clear hve hmo hL HLS
        have e1 : (d == d) = true := by simp
        go_wp2_with (first
          | (go_at_call 15; refine HV2.out.mono ?_; rintro e w8 ⟨rfl, hb8⟩; have HB8 := Lib.hid (HLL.out.old.trans (hb8.mono HLL.out.old.size)); clear hb8)
          | (go_at_call 14; refine (H14.out _).mono ?_; rintro e w9 ⟨rfl, hb9⟩; have HB9 := Lib.hid (HB8.out.trans (hb9.mono HB8.out.size)); clear hb9))
        go_ret
        exact ⟨rfl, HB9.out⟩
    · go_upto_region 9 with fail
      obtain ⟨T, hT⟩ : ∃ T, (if 63 < s.temps + more then 63 else s.temps + more) = T := ⟨_, rfl⟩
      obtain ⟨F, hF⟩ : ∃ F, (if 255 < s.fields + more then 255 else s.fields + more) = F := ⟨_, rfl⟩
      have hT2 : s.temps ≤ T ∧ T ≤ 63 := by rw [← hT]; split <;> omega
      have hF2 : s.fields ≤ F ∧ F ≤ 255 := by rw [← hF]; split <;> omega
      simp only [hT, hF]
      clear hT hF
      have HX3 := Lib.hid (Blk.new w2 35 #[.int .i64 s.args, .int .i64 T, .int .i64 F, .slice LA s.lits.length lc])
      have HX4 := Lib.hid (HX2.out.alloc (.cells #[.int .i64 s.args, .int .i64 T, .int .i64 F, .slice LA s.lits.length lc] 35))
      have HB3 := Lib.hid (HB2.out.alloc HB2.out.size (.cells #[.int .i64 s.args, .int .i64 T, .int .i64 F, .slice LA s.lits.length lc] 35))
      have hbt : w.heap.size ≤ w2.heap.size := HB2.out.size
      clear HX2 HB2 k0 k1 k2 k3 hw2
      generalize w2.alloc (.cells #[.int .i64 s.args, .int .i64 T, .int .i64 F, .slice LA s.lits.length lc] 35) = w3 at *
      generalize w2.heap.size = bt at *
      have k3 : w3.cell? ⟨w.heap.size, 3, none⟩ = some (.slice LA s.lits.length lc) := HX4.out.cell 3
      have hbB : w.heap.size ≤ w3.heap.size := HB3.out.size
      have HLR := Lib.hid ((HL.out.below HB3.out).more hbB)
      have hl255 : s.lits.length ≤ 255 := by have := hy; omega
      go_upto_region 10 with (at_builtin; refine app_l rfl (.const (.slice none 0 0)) (.tmp 45) rfl w.heap.size (.slice none 0 0) [] rfl (World.ownsRow_nil _ _ _ _) _ LA s.lits.length lc s.lits rfl HLR.out (by simp; omega) hbB ?_; intro v4 w4 ho ha; rw [List.nil_append] at ho; have hx4 := ha.blk HX3.out (by simp [Value.ownBlock]); have q3 := hx4.frozen 3; have q4 := hx4.cell 3; have q5 := hx4.lt; have HLS := Lib.hid (LsR.put ho hx4 (HB3.out.trans (ha.below hbB fun k hk => by simp [Value.ownBlock] at hk)) hbt); obtain ⟨A4, c4, rfl, _, _⟩ := own_form ho; clear ho ha hx4)
      clear k3 HLR HX3 HX4 HB3 q3 q4 q5 hbB
      generalize w4.setCell ⟨bt, 3, none⟩ (.slice A4 s.lits.length c4) = w5 at *
      go_upto_block 0 with fail
      go_cut [11] (fun _ wx => ∃ (zs : List Int) (v : Value), (∃ mo, zs = s.lits ++ mo) ∧ zs.length ≤ 255 ∧ LsR w bt s.args T F zs v wx)
      case first =>
        go_wp2
        go_loopw [11] (fun i wx => ∃ (k : Nat) (zs : List Int) (v : Value), k ≤ 40 ∧ i = .int .i64 k ∧ (∃ mo, zs = s.lits ++ mo) ∧ zs.length ≤ 255 ∧ LsR w bt s.args T F zs v wx) (fun i _ => 41 - (intOf i).toNat)
        case atStart => exact ⟨0, s.lits, _, by omega, rfl, ⟨[], by simp⟩, hl255, HLS.out⟩
        case round =>
          obtain ⟨k, zs, v, hk, rfl, hmo, hz, hL⟩ := hrel
          have HLL := Lib.hid hL
          have HMO := Lib.hid hmo
          obtain ⟨n5, hn5⟩ : ∃ n5, zs.length = n5 := ⟨_, rfl⟩
          obtain ⟨A5, c5, hv5, -, -⟩ := own_form hL.own
          rw [hn5] at hv5 hz
          subst hv5
          have HN5 := Lib.hid hn5
          have k3 : wr.cell? ⟨bt, 3, none⟩ = some (.slice A5 n5 c5) := hL.blk.cell 3
          have hws := hL.old.size
          clear hL hmo hn5 HLS
          by_cases hkm : (k : Int) < more ∧ n5 < 255
          · obtain ⟨h1, h2⟩ := hkm
            have HOA := Lib.hid (World.ownsRow.alloc HLL.out.own (.cells #[.int .i64 ((k : Int) % 3)] 38))
            have HBA := Lib.hid (HLL.out.blk.alloc (.cells #[.int .i64 ((k : Int) % 3)] 38))
            have l1 : (0 : Int) ≤ (k : Int) := by omega
            have HLN : Hid ((zs ++ [(k : Int) % 3]).length = n5 + 1) := Lib.hid (by simp [HN5.out])
            have hb8 : (zs.length + 1) * 8 ≤ 140737488355328 := by rw [HN5.out]; omega
            go_wp2_with (at_builtin; refine app_l rfl (.tmp 60) (.tmp 63) rfl w.heap.size (.slice A5 n5 c5) zs rfl HOA.out _ _ 1 1 [(k : Int) % 3] rfl (Reads.builtN' _ 38 _ ([(k : Int) % 3].map iv) 1 1 rfl rfl) hb8 (by simp; omega) ?_; intro v6 w6 ho ha; have hx6 := ha.blk HBA.out (own_blk_ne HOA.out HBA.out (by decide)); have q3 := hx6.frozen 3; have q4 := hx6.cell 3; have q5 := hx6.lt; have HL6 := Lib.hid (LsR.put ho hx6 ((HLL.out.old.alloc hws _).trans (ha.below (by simp; omega) fun j hj => (World.ownsRow.lt HLL.out.own j hj).1)) HLL.out.ge); obtain ⟨A6, c6, hv6, -, -⟩ := own_form ho; rw [HLN.out] at hv6; subst hv6; clear ho ha hx6)
            go_roundw
            case rel => exact ⟨k + 1, _, _, by omega, by go_num, by obtain ⟨mo, e⟩ := HMO.out; exact ⟨mo ++ [(k : Int) % 3], by rw [e, List.append_assoc]⟩, by rw [HLN.out]; omega, HL6.out⟩
            case measure => simp [intOf]; omega
          · have hc : ¬ (k : Int) < more ∨ ((k : Int) < more ∧ 255 ≤ n5) := by omega
            clear hkm
            rcases hc with h1 | ⟨h1, h2⟩
            all_goals
              go_wp2
              go_meet
              exact ⟨zs, _, HMO.out, by rw [HN5.out]; exact hz, HLL.out⟩
      case rest =>
        obtain ⟨zs, v, hmo, hz, hL⟩ := hcut
        have HLL := Lib.hid hL
        obtain ⟨A7, c7, rfl, -, -⟩ := own_form hL.own
        have k0 : wc.cell? ⟨bt, 0, none⟩ = some (.int .i64 s.args) := hL.blk.cell 0
        have k1 : wc.cell? ⟨bt, 1, none⟩ = some (.int .i64 T) := hL.blk.cell 1
        have k2 : wc.cell? ⟨bt, 2, none⟩ = some (.int .i64 F) := hL.blk.cell 2
        have k3 : wc.cell? ⟨bt, 3, none⟩ = some (.slice A7 zs.length c7) := hL.blk.cell 3
        have hve : verB ⟨s.args, T, F, zs⟩ bs = (d, at_, 0) := by
          have e1 := HR.out
          rw [← e1]
          exact verB_more ⟨hT2.1, hF2.1, hmo⟩ rfl hT2.2 hF2.2 hz (by rw [e1])
        have HV2 := Lib.hid (H15.out ⟨s.args, T, F, zs⟩ A7 c7 wc ((HRD.out.below hL.old).more hL.old.size) (Reads.of_own hL.own))
        rw [hve] at HV2
        clear hve hmo hL HLS
        have e1 : (d == d) = true := by simp
        go_wp2_with (first
          | (go_at_call 15; refine HV2.out.mono ?_; rintro e w8 ⟨rfl, hb8⟩; have HB8 := Lib.hid (HLL.out.old.trans (hb8.mono HLL.out.old.size)); clear hb8)
          | (go_at_call 14; refine (H14.out _).mono ?_; rintro e w9 ⟨rfl, hb9⟩; have HB9 := Lib.hid (HB8.out.trans (hb9.mono HB8.out.size)); clear hb9))
        go_ret
        exact ⟨rfl, HB9.out⟩
  · have d1 : (er != 0) = true := by simpa using her
    clear her
    go_wp2_with (go_at_call 14; refine (H14.out _).mono ?_; rintro e w3 ⟨rfl, hb3⟩; have HB3 := Lib.hid (HB2.out.trans (hb3.mono HB2.out.size)); clear hb3)
    go_ret
    exact ⟨rfl, HB3.out⟩
end Go.Proofs.Ytaeegkljldngmaa
