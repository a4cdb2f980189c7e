/-
  The document's Feed at a reader that lies inside a toy. No statement of the seat is proved here.
-/
import Derived.Test.YtjhkfpemcplaaaaPb
namespace Go.Proofs.Ytjhkfpemcplaaaa
open Go.RowKit

/-- a toy's first five fields -/
structure TyX where
  a : Value
  b : Value
  c : Value
  d : Value
  e : Value
variable {X : TyX}
/-- what the document's reader is: what is kept lies from block N on -/
def XRt (X : TyX) (w : World) (g N : Nat) (A : Option Addr) (c : Nat) (kept : List UInt8) (d : Int) : Prop :=
  Blk w g 79 #[X.a, X.b, X.c, X.d, X.e, .slice A kept.length c, .int .i64 d] ∧ RdB w w.heap.size A kept.length kept ∧ kept.length ≤ c ∧ (∀ ad, A = some ad → N ≤ ad.block)
def RFeedT (X : TyX) (w : World) (g : Nat) (d : Int) (r : List Pk × List UInt8 × Nat) (e : Ending) (w' : World) : Prop :=
  ∃ V qs A' c', e = .returned V ∧ qs.map (·.1) = r.1 ∧ PkRow w' w.heap.size V qs ∧ XRt X w' g w.heap.size A' c' r.2.1 (d + (r.2.2 : Nat)) ∧ w.grownBy w' (some g)
/-- between two rounds -/
def LXt (X : TyX) (w1 : World) (g N : Nat) (d : Int) (all : List UInt8) (Ab : Option Addr) (cb : Nat) (qs : List (Pk × Option Addr × Nat)) (m : Nat) (b : List UInt8) (V : Value) (wr : World) : Prop :=
  b.length ≤ cb ∧ RdB w1 w1.heap.size Ab b.length b ∧ (∀ ad, Ab = some ad → N ≤ ad.block) ∧ w1.grownBy wr (some g) ∧ Blk wr g 79 #[X.a, X.b, X.c, X.d, X.e, .slice Ab b.length cb, .int .i64 (d + (m : Nat))] ∧ PkRow wr w1.heap.size V qs ∧
    feed all = (qs.map (·.1) ++ (feed b).1, (feed b).2.1, m + (feed b).2.2) ∧ 8 * qs.length + b.length + m ≤ all.length ∧ g < N
section
variable {w1 wr w' : World} {g N : Nat} {V : Value} {d : Int} {all b : List UInt8} {Ab : Option Addr} {cb m : Nat} {qs : List (Pk × Option Addr × Nat)}
theorem LXt.ne (h : LXt X w1 g N d all Ab cb qs m b V wr) : ∀ ad, Ab = some ad → ad.block ≠ g := fun ad e => by
  have h1 := h.2.2.1 ad e
  have h2 := h.2.2.2.2.2.2.2.2
  omega
theorem LXt.rd (h : LXt X w1 g N d all Ab cb qs m b V wr) : RdB wr wr.heap.size Ab b.length b := rd_keep h.2.1 h.ne (Nat.le_refl _) h.2.2.2.1
theorem LXt.grown0 (h : LXt X w1 g N d all Ab cb qs m b V wr) (hg : wr.grownBy w' none) : LXt X w1 g N d all Ab cb qs m b V w' :=
  ⟨h.1, h.2.1, h.2.2.1, grown_two h.2.2.2.1 hg, h.2.2.2.2.1.grown hg (by simp), h.2.2.2.2.2.1.kept hg, h.2.2.2.2.2.2⟩
theorem LXt.drewN (h : LXt X w1 g N d all Ab cb qs m b V wr) (k : Nat) : LXt X w1 g N d all Ab cb qs m b V (wr.drewN k) := h.grown0 (only_drewN (World.grownBy.refl wr none) k)
theorem LXt.dropped (h : LXt X w1 g N d all Ab cb qs m b V wr) (hs : stepB b = .drop) (A' : Option Addr) (n' c' : Nat) (v : Int) (hA : A' = if cb = 1 then Ab else Ab.map (·.add 1)) (hn : n' = b.length - 1) (hc : c' = cb - 1) (hv : v = d + (m : Int) + 1) :
    LXt X w1 g N d all A' c' qs (m + 1) b.tail V ((wr.setCell ⟨g, 5, none⟩ (.slice A' n' c')).setCell ⟨g, 6, none⟩ (.int .i64 v)) := by
  obtain ⟨h1, h2, h3, h4, h5, h6, h7, h8, h9⟩ := h
  have h0 : 0 < b.length := by
    rcases Nat.eq_zero_or_pos b.length with h0 | h0
    · rw [stepB_nil h0] at hs; cases hs
    · exact h0
  have hn2 : n' = b.tail.length := by rw [hn, List.length_tail]
  subst hn2 hv
  have hg1 : wr.grownBy (wr.setCell ⟨g, 5, none⟩ (.slice A' b.tail.length c')) (some g) := only_setCell (p := ⟨g, 5, none⟩) (World.grownBy.refl wr (some g)) (.inl rfl) _
  have hgc : wr.grownBy ((wr.setCell ⟨g, 5, none⟩ (.slice A' b.tail.length c')).setCell ⟨g, 6, none⟩ (.int .i64 (d + (m : Int) + 1))) (some g) := only_setCell (p := ⟨g, 6, none⟩) hg1 (.inl rfl) _
  have hset := (h5.set_ 5 (.slice A' b.tail.length c')).set_ 6 (.int .i64 (d + (m : Int) + 1))
  have hcut := cut_rd h2 (k := 1) (by omega) h1
  rw [List.drop_one] at hcut
  refine ⟨by rw [List.length_tail]; omega, by rw [hA, List.length_tail]; exact hcut, by rw [hA]; exact cut_ge h3, h4.trans hgc, ?_, h6.far h5 (by decide) (by decide) hgc, ?_, by rw [List.length_tail]; omega, h9⟩
  · simp at hset
    rw [show d + ((m + 1 : Nat) : Int) = d + (m : Int) + 1 from by omega]
    simpa using hset
  · rw [h7, feed_drop hs]
    simp only [Prod.mk.injEq, true_and]
    omega
theorem LXt.app_grown {w2 w3 : World} (h : LXt X w1 g N d all Ab cb qs m b V wr) (hg : wr.grownBy w2 none) (hg3 : w2.grownBy w3 V.ownBlock) : w1.grownBy w3 (some g) := by
  have hlt := (h.2.2.2.2.2.1.kept hg).1.lt
  have h42 := grown_two h.2.2.2.1 hg
  refine ⟨hg3.os.trans h42.os, hg3.tape.trans h42.tape, hg3.output.trans h42.output, Nat.le_trans h42.size hg3.size, fun i hi hr => (hg3.block i (Nat.lt_of_lt_of_le hi h42.size) (fun e => ?_)).trans (h42.block i hi hr)⟩
  have := (hlt i e.symm).1
  omega
/-- a frame taken: the row grown -/
theorem LXt.row {w2 w3 : World} (h : LXt X w1 g N d all Ab cb qs m b V wr) (hg : wr.grownBy w2 none) (hg3 : w2.grownBy w3 V.ownBlock) : Blk w3 g 79 #[X.a, X.b, X.c, X.d, X.e, .slice Ab b.length cb, .int .i64 (d + (m : Nat))] ∧ RdB w3 w3.heap.size Ab b.length b :=
  ⟨(h.2.2.2.2.1.grown hg (by simp)).grown hg3 (fun e => own_blk_ne (h.2.2.2.2.2.1.kept hg).1 (h.2.2.2.2.1.grown hg (by simp)) (by decide) e.symm), rd_keep h.2.1 h.ne (Nat.le_refl _) (h.app_grown hg hg3)⟩
theorem LXt.taken {w2 w3 : World} {p : Pk} {k : Nat} (h : LXt X w1 g N d all Ab cb qs m b V wr) (hs : stepB b = .take p k) {A2 : Option Addr} {c2 : Nat} (hg : wr.grownBy w2 none) (hq : OwnB 5 w2 w1.heap.size (.slice A2 p.body.length c2) p.body)
    (hg3 : w2.grownBy w3 V.ownBlock) {V' : Value} (ho : w3.ownsRow w1.heap.size 39 5 V' (qs.length + 1) (qs.flatMap pqCells ++ pqCells (p, A2, c2))) (A' : Option Addr) (n' c' : Nat) (hA : A' = if cb = k then Ab else Ab.map (·.add k)) (hn : n' = b.length - k) (hc : c' = cb - k) :
    LXt X w1 g N d all A' c' (qs ++ [(p, A2, c2)]) m (b.drop k) V' (w3.setCell ⟨g, 5, none⟩ (.slice A' n' c')) := by
  have hgg := h.app_grown hg hg3
  have hrow := h.row hg hg3
  obtain ⟨h1, h2, h3, h4, h5, h6, h7, h8, h9⟩ := h
  have hn2 : n' = (b.drop k).length := by rw [hn, List.length_drop]
  subst hn2
  obtain ⟨k8, kl, _, _, _, _⟩ := stepB_take hs
  have hcut := cut_rd h2 (k := k) (by omega) h1
  have h6' := (h6.kept hg).snoc hq hg3 ho
  have hgs : w3.grownBy (w3.setCell ⟨g, 5, none⟩ (.slice A' (b.drop k).length c')) (some g) := only_setCell (p := ⟨g, 5, none⟩) (World.grownBy.refl w3 (some g)) (.inl rfl) _
  have hset := hrow.1.set_ 5 (.slice A' (b.drop k).length c')
  refine ⟨by rw [List.length_drop]; omega, by rw [hA, List.length_drop]; exact hcut, by rw [hA]; exact cut_ge h3, hgg.trans hgs, by simpa using hset, h6'.far hrow.1 (by decide) (by decide) hgs, ?_, by rw [List.length_drop, List.length_append, List.length_singleton]; omega, h9⟩
  rw [h7, feed_take hs]
  simp
end
theorem LXt.mu {w1 wr : World} {g N : Nat} {V : Value} {d : Int} {all b : List UInt8} {Ab : Option Addr} {cb m : Nat} {qs : List (Pk × Option Addr × Nat)} (h : LXt X w1 g N d all Ab cb qs m b V wr) : slLen ((wr.cell? ⟨g, 5, none⟩).getD undef) = b.length := by
  have := h.2.2.2.2.1.cell 5
  rw [this]
  rfl
theorem tfeed_end {w w1 wr : World} {g : Nat} {V : Value} {d : Int} {all b : List UInt8} {Ab : Option Addr} {cb m : Nat} {qs : List (Pk × Option Addr × Nat)} (hg : w.grownBy w1 (some g)) (hsz : w.heap.size ≤ w1.heap.size) (h : LXt X w1 g w.heap.size d all Ab cb qs m b V wr)
    (hs : stepB b = .done) : RFeedT X w g d (feed all) (.returned V) wr := by
  have hf := h.2.2.2.2.2.2.1
  rw [feed_done hs] at hf
  rw [hf]
  exact ⟨V, qs, Ab, cb, rfl, by simp, h.2.2.2.2.2.1.base hsz, ⟨by simpa using h.2.2.2.2.1, h.rd, h.1, h.2.2.1⟩, hg.trans h.2.2.2.1⟩
theorem tfeed_two {w wa wb : World} {g : Nat} {cs : Array Value} {v1 v2 : Value} {xs : List UInt8} (hb : Blk w g 79 cs) (hown : OwnB 5 wa w.heap.size v1 xs) (h1 : App w (.slice none 0 0) wa v1) (h2 : App wa v1 wb v2) : Blk wb g 79 cs ∧ w.grownBy wb none := by
  have hg : w.grownBy wb none := by
    have a1 := h1.1
    have a2 := h2.1
    exact ⟨a2.os.trans a1.os, a2.tape.trans a1.tape, a2.output.trans a1.output, Nat.le_trans a1.size a2.size, fun k hk _ => (a2.block k (Nat.lt_of_lt_of_le hk a1.size) (fun e => by have := (hown.lt k e.symm).1; omega)).trans (a1.block k hk (by simp [Value.ownBlock]))⟩
  exact ⟨hb.grown hg (by simp), hg⟩
theorem tfeed_start {wx : World} {base g N cb : Nat} {d : Int} {all : List UInt8} {Ab : Option Addr} {A : Option Addr} {n c : Nat} (hown : wx.ownsRow base 5 1 (.slice Ab all.length cb) all.length (all.map bv)) (hb : Blk wx g 79 #[X.a, X.b, X.c, X.d, X.e, .slice A n c, .int .i64 d]) (hcb : all.length ≤ cb) (hN : g < N)
    (hNb : N ≤ base) : LXt X (wx.setCell ⟨g, 5, none⟩ (.slice Ab all.length cb)) g N d all Ab cb [] 0 all (.slice none 0 0) (wx.setCell ⟨g, 5, none⟩ (.slice Ab all.length cb)) := by
  have h1 := OwnB.far (bs := all) hown hb (by decide) 5 (.slice Ab all.length cb)
  have hset := hb.set_ 5 (.slice Ab all.length cb)
  refine ⟨hcb, Reads.of_own h1, fun ad e => ?_, World.grownBy.refl _ _, by simpa using hset, PkRow.nil _ _, by simp, by simp, hN⟩
  subst e
  have := (hown.lt ad.block (by simp [Value.ownBlock])).1
  omega

set_option maxRecDepth 20000 in
set_option maxHeartbeats 4000000 in
theorem tfeed_any (g N B : Nat) (Ak : Option Addr) (ck : Nat) (kept : List UInt8) (d : Int) (A : Option Addr) (nc c : Nat) (chunk : List UInt8) (w : World) (hX : XRt X w g N Ak ck kept d)
    (hr : RdB w B A nc chunk) (hB : B ≤ w.heap.size) (hlen : kept.length + nc ≤ 1099511627776) (hd0 : 0 ≤ d) (hd1 : d ≤ 1152921504606846976) :
    Calls Try.prog 63 #[.pointer (some ⟨g, 5, none⟩), .slice A nc c] w (RFeedT X w g d (feed (kept ++ chunk))) := by
  obtain ⟨hb, hk, hkc, hkb⟩ := hX
  have c0 := hb.cell 5
  simp at c0
  have hcl := hr.len1
  have HB := Lib.hid hb
  have HK := Lib.hid hk
  have HR := Lib.hid hr
  have HALL : Hid ((kept ++ chunk).length ≤ 1099511627776) := Lib.hid (by rw [List.length_append]; omega)
  have HAP : Hid (kept.length + chunk.length ≤ 140737488355328) := Lib.hid (by omega)
  have HAP0 : Hid (([] : List UInt8).length + kept.length ≤ 140737488355328) := Lib.hid (by simp; omega)
  obtain ⟨all, HAL⟩ : ∃ all, Hid (kept ++ chunk = all) := ⟨_, rfl⟩
  rw [HAL.out] at HALL
  have HPOST : Hid (∀ e w', RFeedT X w g d (feed all) e w' → RFeedT X w g d (feed (kept ++ chunk)) e w') := Lib.hid fun e w' h => by rw [HAL.out]; exact h
  clear hb hk hr hcl hlen hkc hkb
  go_enter Try.func63, Try.ntmps63
  go_wp2_with (first | (at_builtin; refine wpList_app rfl (.const (.slice none 0 0)) (.tmp 14) 37 rfl w.heap.size 5 info5 Try.underlying37 _ [] rfl (OwnB.nil 5 w _) _ Ak kept.length ck kept rfl HK.out HAP0.out (Nat.le_refl _) ?_; intro v1 w1 hown1 happ1; have hr1 := HR.out.grown happ1.1 hB (fun k hk => nomatch hk); have hs1 := happ1.size) | (at_builtin; refine wpList_app rfl (.tmp 15) (.tmp 16) 37 rfl w.heap.size 5 info5 Try.underlying37 v1 kept rfl hown1 B A nc c chunk rfl hr1 HAP.out hs1 ?_; intro v2 w2 hown2 happ2; have hown3 := own_eq hown2 HAL.out; clear hown2; obtain ⟨Ab, cb, rfl, hcb, hcm⟩ := OwnB.form hown3; have hw2 := tfeed_two HB.out hown1 happ1 happ2; have cf2 := hw2.1.frozen 5; have cc2 := hw2.1.cell 5; simp at cc2; clear c0 hr1 hs1 happ1 happ2 hown1 hcm))
  have h0 := tfeed_start hown3 hw2.1 hcb HB.out.lt (Nat.le_refl _)
  have HG1 : Hid (w.grownBy (w2.setCell ⟨g, 5, none⟩ (.slice Ab all.length cb)) (some g)) := Lib.hid (only_setCell (p := ⟨g, 5, none⟩) ⟨hw2.2.os, hw2.2.tape, hw2.2.output, hw2.2.size, fun k hk _ => hw2.2.block k hk (by simp)⟩ (.inl rfl) _)
  have HSZ : Hid (w.heap.size ≤ (w2.setCell ⟨g, 5, none⟩ (.slice Ab all.length cb)).heap.size) := Lib.hid HG1.out.size
  generalize w2.setCell ⟨g, 5, none⟩ (.slice Ab all.length cb) = w1 at h0 HG1 HSZ ⊢
  clear hown3 hw2 cf2 cc2 hcb
  go_loopw [5] (fun V wr => ∃ Ab cb qs m b, LXt X w1 g w.heap.size d all Ab cb qs m b V wr) (fun _ wr => slLen ((wr.cell? ⟨g, 5, none⟩).getD undef))
  case atStart => exact ⟨_, _, _, _, _, h0⟩
  case round =>
    rename_i V wr
    obtain ⟨Ab, cb, qs, m, b, hLK⟩ := hrel
    clear h0
    have hrd := hLK.rd
    have hbl := hLK.2.2.2.2.2.2.2.1
    have hbc := hLK.1
    have hblk := hLK.2.2.2.2.1
    have g0 := hblk.cell 5
    simp at g0
    have HLK := Lib.hid hLK
    clear hLK
    by_cases h0 : b.length = 0
    · have HEND := Lib.hid (tfeed_end HG1.out HSZ.out HLK.out (stepB_nil h0))
      have e0 : decide (0 < b.length) = false := by rw [decide_eq_false_iff_not]; omega
      clear h0 hblk hrd
      go_wp2_with fail
      go_ret
      exact HPOST.out _ _ HEND.out
    · have e0 : decide (0 < b.length) = true := by simp; omega
      have HPOS : Hid (0 < b.length) := Lib.hid (by omega)
      have hi0 : 0 < b.length := by omega
      have H0 := Lib.hid h0
      clear h0
      obtain ⟨bk, off, rfl, k0⟩ := byte_getD hrd (k := 0) (by have := HPOS.out; omega)
      by_cases h1 : b.getD 0 0 = 239
      · rw [h1] at k0
        have q0 : wr.cell? ⟨bk, off, none⟩ = some (.int .u8 239) := by simpa using k0
        clear k0
        by_cases h2 : 1 < b.length
        · have d2 : decide ((1 : Int) < (b.length : Int)) = true := by simp; omega
          have hi1 : (1 : Int) < (b.length : Int) := by omega
          obtain ⟨bk', off', e', k1⟩ := byte_getD hrd (k := 1) h2
          injection e' with e'
          injection e' with e1 e2
          subst e1 e2
          by_cases h3 : b.getD 1 0 = 30
          · rw [h3] at k1
            have q1 : wr.cell? ⟨bk, off + 1, none⟩ = some (.int .u8 30) := by simpa using k1
            clear k1
            by_cases h4 : b.length < 4
            · have d4 : decide ((b.length : Int) < 4) = true := by simp; omega
              have HEND := Lib.hid (tfeed_end HG1.out HSZ.out HLK.out (stepB_short H0.out h1 (.inr h3) h4))
              clear h1 h2 h3 h4 hblk hrd
              go_wp2_with fail
              go_ret
              exact HPOST.out _ _ HEND.out
            · have d4 : decide ((b.length : Int) < 4) = false := by simp; omega
              have hi2 : (2 : Int) < (b.length : Int) := by omega
              have hi3 : (3 : Int) < (b.length : Int) := by omega
              obtain ⟨bk', off', e', k2⟩ := byte_getD hrd (k := 2) (by omega)
              injection e' with e'
              injection e' with e1 e2
              subst e1 e2
              obtain ⟨bk', off', e', k3⟩ := byte_getD hrd (k := 3) (by omega)
              injection e' with e'
              injection e' with e1 e2
              subst e1 e2
              have b2 := u8_lt (b.getD 2 0)
              have b3 := u8_lt (b.getD 3 0)
              have hLb : lenOf b = (b.getD 2 0).toNat + 256 * (b.getD 3 0).toNat := rfl
              by_cases h5 : 1080 < lenOf b
              · have d5 : decide ((1088 : Int) < ((b.getD 2 0).toNat : Int) + 256 * ((b.getD 3 0).toNat : Int) + 8) = true := by simp only [decide_eq_true_eq]; omega
                have HS : Hid (stepB b = .drop) := Lib.hid (stepB_long H0.out h1 (.inr h3) h4 h5)
                have hcb : ¬ cb = 1 := by omega
                clear h1 h2 h3 h4 h5 hblk hrd hLb
                generalize (b.getD 2 0).toNat = x2 at *
                generalize (b.getD 3 0).toNat = x3 at *
                go_wp2_with fail
                go_quiet (fail)
                have HLKd := Lib.hid (HLK.out.drewN nq)
                have hblk2 := HLKd.out.2.2.2.2.1
                have g0 := hblk2.cell 5
                have gf0 := hblk2.frozen 5
                have g1 := hblk2.cell 6
                have gf1 := hblk2.frozen 6
                simp at g0 g1
                have l1 : wrap64 (d + (m : Int) + 1) = d + (m : Int) + 1 := drop_wrap hd0 hd1 (feed_room HLKd.out.2.2.2.2.2.2.2.1 HALL.out).2.2.1 (Nat.le_refl _)
                clear hblk2
                have HD := Lib.hid (HLKd.out.dropped HS.out _ (b.length - 1) (cb - 1) _ (by rw [if_neg hcb]) rfl rfl rfl)
                clear HLKd
                go_wp2_with fail
                go_roundw
                case rel => exact ⟨_, _, _, _, b.tail, HD.out⟩
                case measure => exact mu_lt HD.out.mu HLK.out.mu (by rw [List.length_tail]; have := HPOS.out; omega)
              · have d5 : decide ((1088 : Int) < ((b.getD 2 0).toNat : Int) + 256 * ((b.getD 3 0).toNat : Int) + 8) = false := by simp only [decide_eq_false_iff_not]; omega
                by_cases h6 : b.length < lenOf b + 8
                · have d6 : decide ((b.length : Int) < ((b.getD 2 0).toNat : Int) + 256 * ((b.getD 3 0).toNat : Int) + 8) = true := by simp only [decide_eq_true_eq]; omega
                  have HEND := Lib.hid fun k => tfeed_end HG1.out HSZ.out (HLK.out.drewN k) (stepB_wait H0.out h1 (.inr h3) h4 h5 h6)
                  clear h1 h2 h3 h4 h5 h6 hblk hrd hLb
                  generalize (b.getD 2 0).toNat = x2 at *
                  generalize (b.getD 3 0).toNat = x3 at *
                  go_wp2_with fail
                  go_quiet (fail)
                  go_wp2_with fail
                  go_ret
                  exact HPOST.out _ _ (HEND.out _)
                · have d6 : decide ((b.length : Int) < ((b.getD 2 0).toNat : Int) + 256 * ((b.getD 3 0).toNat : Int) + 8) = false := by simp only [decide_eq_false_iff_not]; omega
                  obtain ⟨⟨er, p⟩, hu⟩ : ∃ r, unp (b.take (lenOf b + 8)) = r := ⟨_, rfl⟩
                  have HU := Lib.hid fun k => unp_drawR (c := cb) (hrd.first (by omega : lenOf b + 8 ≤ b.length)) (by omega) (by omega) hu k
                  have HS := Lib.hid (stepB_whole H0.out h1 (.inr h3) h4 h5 h6 hu)
                  have HB6 := Lib.hid (by omega : lenOf b + 8 ≤ b.length)
                  have l6 : (0 : Int) ≤ ((b.getD 2 0).toNat : Int) + 256 * ((b.getD 3 0).toNat : Int) + 8 := by omega
                  have l7 : ((b.getD 2 0).toNat : Int) + 256 * ((b.getD 3 0).toNat : Int) + 8 ≤ (cb : Int) := by omega
                  have l9 : ((b.getD 2 0).toNat : Int) + 256 * ((b.getD 3 0).toNat : Int) + 8 ≤ (b.length : Int) := by omega
                  have l8 : (((b.getD 2 0).toNat : Int) + 256 * ((b.getD 3 0).toNat : Int) + 8).toNat = lenOf b + 8 := by omega
                  have hcb1 : ¬ cb = 1 := by omega
                  clear h1 h2 h3 h4 h5 h6 hblk hu hLb hrd
                  generalize lenOf b = L at *
                  generalize (b.getD 2 0).toNat = x2 at *
                  generalize (b.getD 3 0).toNat = x3 at *
                  go_wp2_with fail
                  go_quiet (fail)
                  go_wp2_with fail
                  refine (HU.out nq).mono ?_
                  rintro e w2 ⟨A2, c2, rfl, ho2, hb2⟩
                  dsimp only at ho2 ⊢
                  have HS0 := HS
                  go_upto_region 17 with fail
                  have hbx := Blk.new w2 39 #[.int .i64 p.kind, .int .u64 p.tok, .int .u64 p.seq, .int .u64 p.ack, .slice A2 p.body.length c2]
                  have hgx : wr.grownBy (w2.alloc (.cells #[.int .i64 p.kind, .int .u64 p.tok, .int .u64 p.seq, .int .u64 p.ack, .slice A2 p.body.length c2] 39)) none := only_alloc (only_of_below hb2 none) _
                  have ho3 := World.ownsRow.alloc ho2 (.cells #[.int .i64 p.kind, .int .u64 p.tok, .int .u64 p.seq, .int .u64 p.ack, .slice A2 p.body.length c2] 39)
                  have HLKd := Lib.hid (HLK.out.grown0 hgx)
                  generalize w2.alloc (.cells #[.int .i64 p.kind, .int .u64 p.tok, .int .u64 p.seq, .int .u64 p.ack, .slice A2 p.body.length c2] 39) = w3 at hbx hgx ho3 HLKd ⊢
                  generalize w2.heap.size = gx at hbx ⊢
                  clear ho2 hb2 w2 HU
                  by_cases he : er = 0
                  · subst he
                    have HST : Hid (stepB b = .take p (L + 8)) := Lib.hid (by have := HS.out; rwa [if_pos rfl] at this)
                    clear HS HS0
                    have x0 := hbx.cell 0
                    have x1 := hbx.cell 1
                    have y2 := hbx.cell 2
                    have y3 := hbx.cell 3
                    have x4 := hbx.cell 4
                    simp at x0 x1 y2 y3 x4
                    have hpk := (World.ownsRow.alloc HLKd.out.2.2.2.2.2.1.1 (.cells #[.int .i64 p.kind, .int .u64 p.tok, .int .u64 p.seq, .int .u64 p.ack, .slice A2 p.body.length c2] 39))
                    have hr5 := Reads.ofBlk (size := 5) (n := 1) (cs := [.int .i64 p.kind, .int .u64 p.tok, .int .u64 p.seq, .int .u64 p.ack, .slice A2 p.body.length c2]) (Blk.new w3 39 #[.int .i64 p.kind, .int .u64 p.tok, .int .u64 p.seq, .int .u64 p.ack, .slice A2 p.body.length c2]) rfl
                    have HRM := Lib.hid (feed_room HLKd.out.2.2.2.2.2.2.2.1 HALL.out)
                    have hs13 := HLKd.out.2.2.2.1.size
                    have hbs : w1.heap.size ≤ (w3.alloc (.cells #[.int .i64 p.kind, .int .u64 p.tok, .int .u64 p.seq, .int .u64 p.ack, .slice A2 p.body.length c2] 39)).heap.size := by simp; omega
                    have HOQ := Lib.hid (own_base (World.ownsRow.alloc ho3 (.cells #[.int .i64 p.kind, .int .u64 p.tok, .int .u64 p.seq, .int .u64 p.ack, .slice A2 p.body.length c2] 39)) (HLK.out.2.2.2.1.size))
                    clear hbx ho3 hs13
                    go_wp2_with (at_builtin; refine wpList_appE rfl _ _ _ rfl w1.heap.size 39 _ 5 56 info39 Try.underlying119 rfl (by decide) _ _ _ rfl hpk _ _ _ _ _ rfl hr5 (by simp [Value.oneCell']) (by have := HRM.out.1; simp only [maxLen]; omega) (by have := HRM.out.2.1; omega) hbs ?_; intro V2 w5 hown5 hg5; obtain ⟨A5, c5, rfl⟩ := own_form hown5; have hg35 := World.grownBy_alloc w3 (.cells #[.int .i64 p.kind, .int .u64 p.tok, .int .u64 p.seq, .int .u64 p.ack, .slice A2 p.body.length c2] 39) none; have HTK := Lib.hid fun A' n' c' hA hn hc => HLK.out.taken HST.out (grown_two hgx hg35) HOQ.out hg5 hown5 A' n' c' hA hn hc; have hrow := (HLK.out.row (grown_two hgx hg35) hg5).1; have gf5 := hrow.frozen 5; have gc5 := hrow.cell 5; simp at gc5; clear hrow hown5 hg5 hg35 hpk hr5 x0 x1 y2 y3 x4 hbs)
                    have HD := Lib.hid (HTK (if cb = L + 8 then some ⟨bk, off, none⟩ else some ⟨bk, off + (L + 8), none⟩) (b.length - (L + 8)) (cb - (L + 8)) (by split <;> rfl) rfl rfl)
                    go_roundw
                    case rel => exact ⟨_, _, _, _, _, HD.out⟩
                    case measure => exact mu_lt HD.out.mu HLK.out.mu (by rw [List.length_drop]; have := HPOS.out; omega)
                  · have t3 : ((er : Int) != 0) = true := by rw [bne_iff_ne]; omega
                    have HS : Hid (stepB b = .drop) := Lib.hid (by have := HS0.out; rwa [if_neg he] at this)
                    clear HS0 he hbx hgx ho3 q0 q1
                    have hcb := hcb1
                    have hblk2 := HLKd.out.2.2.2.2.1
                    have g0 := hblk2.cell 5
                    have gf0 := hblk2.frozen 5
                    have g1 := hblk2.cell 6
                    have gf1 := hblk2.frozen 6
                    simp at g0 g1
                    have l1 : wrap64 (d + (m : Int) + 1) = d + (m : Int) + 1 := drop_wrap hd0 hd1 (feed_room HLKd.out.2.2.2.2.2.2.2.1 HALL.out).2.2.1 (Nat.le_refl _)
                    clear hblk2
                    have HD := Lib.hid (HLKd.out.dropped HS.out _ (b.length - 1) (cb - 1) _ (by rw [if_neg hcb]) rfl rfl rfl)
                    clear HLKd
                    go_wp2_with fail
                    go_roundw
                    case rel => exact ⟨_, _, _, _, b.tail, HD.out⟩
                    case measure => exact mu_lt HD.out.mu HLK.out.mu (by rw [List.length_tail]; have := HPOS.out; omega)
          · have t1 : (((b.getD 1 0).toNat : Int) == 30) = false := getD_ne h3
            have HS : Hid (stepB b = .drop) := Lib.hid (stepB_head H0.out (.inr ⟨h2, h3⟩))
            have hcb : ¬ cb = 1 := by omega
            clear h1 h2 h3 hblk hrd
            have t2 : (((b.getD 1 0).toNat : Int) != 30) = true := by rw [bne, t1]; rfl
            generalize b.getD 1 0 = x1 at k1 t1 t2
            have HLKd := HLK
            have hblk2 := HLKd.out.2.2.2.2.1
            have g0 := hblk2.cell 5
            have gf0 := hblk2.frozen 5
            have g1 := hblk2.cell 6
            have gf1 := hblk2.frozen 6
            simp at g0 g1
            have l1 : wrap64 (d + (m : Int) + 1) = d + (m : Int) + 1 := drop_wrap hd0 hd1 (feed_room HLKd.out.2.2.2.2.2.2.2.1 HALL.out).2.2.1 (Nat.le_refl _)
            clear hblk2
            have HD := Lib.hid (HLKd.out.dropped HS.out _ (b.length - 1) (cb - 1) _ (by rw [if_neg hcb]) rfl rfl rfl)
            clear HLKd
            go_wp2_with fail
            go_roundw
            case rel => exact ⟨_, _, _, _, b.tail, HD.out⟩
            case measure => exact mu_lt HD.out.mu HLK.out.mu (by rw [List.length_tail]; have := HPOS.out; omega)
        · have d2 : decide ((1 : Int) < (b.length : Int)) = false := by simp; omega
          have d4 : decide ((b.length : Int) < 4) = true := by simp; omega
          have HEND := Lib.hid (tfeed_end HG1.out HSZ.out HLK.out (stepB_short H0.out h1 (.inl h2) (by omega)))
          clear h1 h2 hblk hrd
          go_wp2_with fail
          go_ret
          exact HPOST.out _ _ HEND.out
      · have t0 : (((b.getD 0 0).toNat : Int) == 239) = false := getD_ne h1
        have q0 : wr.cell? ⟨bk, off, none⟩ = some (.int .u8 ((b.getD 0 0).toNat : Int)) := by simpa using k0
        have HS : Hid (stepB b = .drop) := Lib.hid (stepB_head H0.out (.inl h1))
        have t2 : (((b.getD 0 0).toNat : Int) != 239) = true := by rw [bne, t0]; rfl
        clear h1 hblk hrd k0 hbc
        generalize b.getD 0 0 = x1 at q0 t0 t2
        have HLKd := HLK
        have hblk2 := HLKd.out.2.2.2.2.1
        have g0 := hblk2.cell 5
        have gf0 := hblk2.frozen 5
        have g1 := hblk2.cell 6
        have gf1 := hblk2.frozen 6
        simp at g0 g1
        have l1 : wrap64 (d + (m : Int) + 1) = d + (m : Int) + 1 := drop_wrap hd0 hd1 (feed_room HLKd.out.2.2.2.2.2.2.2.1 HALL.out).2.2.1 (Nat.le_refl _)
        clear hblk2
        by_cases hcb : cb = 1
        · subst hcb
          have HD := Lib.hid (HLKd.out.dropped HS.out _ (b.length - 1) 0 _ (by rw [if_pos rfl]) rfl rfl rfl)
          clear HLKd
          go_wp2_with fail
          go_roundw
          case rel => exact ⟨_, _, _, _, b.tail, HD.out⟩
          case measure => exact mu_lt HD.out.mu HLK.out.mu (by rw [List.length_tail]; have := HPOS.out; omega)
        · have HD := Lib.hid (HLKd.out.dropped HS.out _ (b.length - 1) (cb - 1) _ (by rw [if_neg hcb]) rfl rfl rfl)
          clear HLKd
          go_wp2_with fail
          go_roundw
          case rel => exact ⟨_, _, _, _, b.tail, HD.out⟩
          case measure => exact mu_lt HD.out.mu HLK.out.mu (by rw [List.length_tail]; have := HPOS.out; omega)
end Go.Proofs.Ytjhkfpemcplaaaa
