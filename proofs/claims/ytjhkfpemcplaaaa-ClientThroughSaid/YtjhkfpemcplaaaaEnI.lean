/-
  The link's lose. No statement of the seat is proved here.
-/
import Derived.Test.YtjhkfpemcplaaaaEnH
namespace Go.Proofs.Ytjhkfpemcplaaaa
open Go.RowKit

theorem flatB (l : List (QX (List UInt8))) : kB.flat l = l.map kB.val := by
  induction l with
  | nil => rfl
  | cons q l ih => unfold Kd.flat at *; rw [List.flatMap_cons, ih]; rfl
theorem flatB_len (l : List (QX (List UInt8))) : (kB.flat l).length = l.length := by rw [flatB, List.length_map]
/-- the row without one of its frames, made anew -/
theorem rowB_drop {w w6 : World} {base B : Nat} {v v6 : Value} {l : List (QX (List UInt8))} {j m : Nat} (h : RowO kB base w v l) (hb : Below w.heap.size w w6) (hbs : base ≤ B) (hr : w6.ownsRow B 37 1 v6 m ((kB.flat l).take j ++ (kB.flat l).drop (j + 1))) : RowO kB base w6 v6 (l.take j ++ l.drop (j + 1)) := by
  have e : kB.flat (l.take j ++ l.drop (j + 1)) = (kB.flat l).take j ++ (kB.flat l).drop (j + 1) := by rw [flatB, flatB, List.map_append, List.map_take, List.map_drop]
  have em : (l.take j ++ l.drop (j + 1)).length = m := by
    have := hr.1
    rw [← e, flatB_len] at this
    omega
  refine RowO.of ⟨by rw [em, e]; exact own_base hr hbs, fun q hq => ?_⟩
  have hm : q ∈ l := by
    rcases List.mem_append.1 hq with h1 | h1
    · exact List.mem_of_mem_take h1
    · exact List.mem_of_mem_drop h1
  exact own_same (h.els q hm) fun k hk => hb.block k (World.ownsRow.lt (h.els q hm) k hk).2
section
variable {w0 w w6 : World} {k : Lk} {c : Cl} {y : Ty} {D j m : Nat} {f : Nat → Nat} {v6 : Value}
theorem LkS.dropH (h : LkS w0 k c y D f w) (hb : Below w.heap.size w w6) (hr : w6.ownsRow w.heap.size 37 1 v6 m ((kB.flat k.hl).take j ++ (kB.flat k.hl).drop (j + 1))) :
    LkS w0 { k with hv := v6, hl := k.hl.take j ++ k.hl.drop (j + 1) } c y D (relab f w.heap.size 3) (w6.setCell ⟨k.gl, 2, none⟩ v6) := by
  have hrow := rowB_drop h.he hb h.old.size hr
  have hb2 : Blk w6 k.gl 81 _ := (hb.block _ h.lk.lt).trans h.lk
  have hc : Chg (fun i => i = k.gl) w6 (w6.setCell ⟨k.gl, 2, none⟩ v6) := (Chg.refl (fun i => i = k.gl) w6).setCell (p := ⟨k.gl, 2, none⟩) (fun _ => rfl) _
  refine h.setH ((Chg.of_below hb (fun i => f i = 3 ∧ w0.heap.size ≤ i ∨ i = k.gl)).trans hc fun i _ e => .inr e) (hb2.set_ 2 v6) (hrow.chg hc fun i hi e => ?_) (relab_old f _ 3) fun i hi => ?_
  · subst e
    rcases hi with e | ⟨x, hx, e⟩
    · exact OwnO.blk_ne hrow.row hb2 (by decide) e
    · exact own_blk_ne (hrow.els x hx) hb2 (by decide) e
  · rcases hi with e | ⟨x, hx, e⟩
    · exact relab_new (.inl (World.ownsRow.lt hr i e).1)
    · have hm : x ∈ k.hl := by
        rcases List.mem_append.1 hx with h1 | h1
        · exact List.mem_of_mem_take h1
        · exact List.mem_of_mem_drop h1
      have h3 := h.fh i (.inr ⟨x, hm, e⟩)
      rw [relab_old f _ 3 i (h.he.lt (.inr ⟨x, hm, e⟩)).2 (by rw [h3]; decide), h3]
theorem LkS.dropR (h : LkS w0 k c y D f w) (hb : Below w.heap.size w w6) (hr : w6.ownsRow w.heap.size 37 1 v6 m ((kB.flat k.rl).take j ++ (kB.flat k.rl).drop (j + 1))) :
    LkS w0 { k with rv := v6, rl := k.rl.take j ++ k.rl.drop (j + 1) } c y D (relab f w.heap.size 4) (w6.setCell ⟨k.gl, 3, none⟩ v6) := by
  have hrow := rowB_drop h.th hb h.old.size hr
  have hb2 : Blk w6 k.gl 81 _ := (hb.block _ h.lk.lt).trans h.lk
  have hc : Chg (fun i => i = k.gl) w6 (w6.setCell ⟨k.gl, 3, none⟩ v6) := (Chg.refl (fun i => i = k.gl) w6).setCell (p := ⟨k.gl, 3, none⟩) (fun _ => rfl) _
  refine h.setR ((Chg.of_below hb (fun i => f i = 4 ∧ w0.heap.size ≤ i ∨ i = k.gl)).trans hc fun i _ e => .inr e) (hb2.set_ 3 v6) (hrow.chg hc fun i hi e => ?_) (relab_old f _ 4) fun i hi => ?_
  · subst e
    rcases hi with e | ⟨x, hx, e⟩
    · exact OwnO.blk_ne hrow.row hb2 (by decide) e
    · exact own_blk_ne (hrow.els x hx) hb2 (by decide) e
  · rcases hi with e | ⟨x, hx, e⟩
    · exact relab_new (.inl (World.ownsRow.lt hr i e).1)
    · have hm : x ∈ k.rl := by
        rcases List.mem_append.1 hx with h1 | h1
        · exact List.mem_of_mem_take h1
        · exact List.mem_of_mem_drop h1
      have h3 := h.fr i (.inr ⟨x, hm, e⟩)
      rw [relab_old f _ 4 i (h.th.lt (.inr ⟨x, hm, e⟩)).2 (by rw [h3]; decide), h3]
end
/-- a frame is lost -/
def dropPl (l : List (List UInt8)) (i : Int) : List (List UInt8) := if l = [] ∨ i < 0 then l else l.take (i.toNat % l.length) ++ l.drop (i.toNat % l.length + 1)
def losePl (s : Pl) (cl : Bool) (i : Int) : Pl := if cl = true then { s with h := dropPl s.h i } else { s with r := dropPl s.r i }
set_option maxRecDepth 20000 in
set_option maxHeartbeats 4000000 in
theorem llose_true {w0 w : World} {gl gc gt D : Nat} {s : Pl} (i : Int) (h : LkX w0 gl gc gt s D w) (hh : s.h.length ≤ 1000) :
    Calls Try.prog 59 #[.pointer (some ⟨gl, 0, none⟩), .bool true, .int .i64 i] w (LinkP w0 gl gc gt (losePl s true i) D) := by
  obtain ⟨k, f, rfl, rfl, rfl, hk, hh1, hr1, hi1⟩ := h
  have HK := Lib.hid hk
  have HH1 := Lib.hid hh1
  have HR1 := Lib.hid hr1
  have HI1 := Lib.hid hi1
  obtain ⟨hA, hc, hhv, hcl, hcm⟩ := hk.he.form
  have hlen : k.hl.length = s.h.length := by have := congrArg List.length hh1; rw [List.length_map] at this; exact this
  have x2 : w.cell? ⟨k.gl, 2, none⟩ = some (.slice hA k.hl.length hc) := by rw [← hhv]; exact hk.lk.cell 2
  have hlk := hk.lk.lt
  obtain ⟨i0, hi, hz0, hz1, hz2⟩ := info_parts info37
  by_cases hbad : s.h = [] ∨ i < 0
  · have hpl : losePl s true i = s := by unfold losePl dropPl; simp [hbad]
    have HPL := Lib.hid hpl
    have HT : Hid (LkX w0 k.gl k.p.g k.t.g s D w) := Lib.hid ⟨k, f, rfl, rfl, rfl, hk, hh1, hr1, hi1⟩
    clear hk hh1 hr1 hi1 hpl
    by_cases h0 : s.h = []
    · have hl0 : k.hl.length = 0 := by rw [hlen, h0]; rfl
      rw [hl0] at x2
      clear hbad h0 hl0 hhv hcl hlen hh
      go_enter Try.func59, Try.ntmps59
      go_wp2
      refine Go.bodyPost_end (v := .tuple #[]) (by simp [results, Try.results59, go_sem]) rfl ⟨rfl, by rw [HPL.out]; exact HT.out⟩
    · have hi0 : i < 0 := hbad.resolve_left h0
      have hl0 : 0 < k.hl.length := by rw [hlen]; exact List.length_pos_iff.2 h0
      have t1 : ((k.hl.length : Int) == 0) = false := by rw [beq_eq_false_iff_ne]; omega
      clear hbad h0 hl0 hhv hcl hlen hh
      go_enter Try.func59, Try.ntmps59
      go_wp2
      refine Go.bodyPost_end (v := .tuple #[]) (by simp [results, Try.results59, go_sem]) rfl ⟨rfl, by rw [HPL.out]; exact HT.out⟩
  · have h0 : ¬ s.h = [] := fun e => hbad (.inl e)
    obtain ⟨i, rfl⟩ := Int.eq_ofNat_of_zero_le (show 0 ≤ i by have : ¬ i < 0 := fun e => hbad (.inr e); omega)
    have hpos : 0 < k.hl.length := by rw [hlen]; exact List.length_pos_iff.2 h0
    obtain ⟨j, hj⟩ : ∃ j, i % k.hl.length = j := ⟨_, rfl⟩
    have hjl : j < k.hl.length := by rw [← hj]; exact Nat.mod_lt _ hpos
    have hpl : losePl s true (i : Int) = { s with h := s.h.take j ++ s.h.drop (j + 1) } := by unfold losePl dropPl; rw [if_neg hbad]; simp [← hlen, hj]
    have HPL := Lib.hid hpl
    have hrow := hk.he.row
    rw [hhv] at hrow
    obtain ⟨hg, ho, rfl⟩ : ∃ hg ho, hA = some ⟨hg, ho, none⟩ := by
      rcases hrow.2 with ⟨_, e0⟩ | ⟨g, o, _, _, e0, _⟩
      · omega
      · injection e0 with e0 _ _
        exact ⟨g, o, e0⟩
    have hrd : Reads w w.heap.size 1 (some ⟨hg, ho, none⟩) k.hl.length (kB.flat k.hl) := hrow.reads
    have HRD := Lib.hid hrd
    have HFI : Hid (Reads w w.heap.size 1 (some ⟨hg, ho, none⟩) j ((kB.flat k.hl).take j)) := Lib.hid (by have := Reads.firstK hrd (k := j) (by omega); rwa [Nat.mul_one] at this)
    have HTL : Hid (Reads w w.heap.size 1 (if hc = j + 1 then some ⟨hg, ho, none⟩ else some ⟨hg, ho + (j + 1), none⟩) (k.hl.length - (j + 1)) ((kB.flat k.hl).drop (j + 1))) := Lib.hid (by have := Reads.cut hrd (k := j + 1) (cap := hc) (by omega) (by omega); simpa [Addr.add] using this)
    have t1 : ((k.hl.length : Int) == 0) = false := by rw [beq_eq_false_iff_ne]; omega
    have t2 : ((i : Int).tmod (k.hl.length : Int)) = (j : Int) := by rw [Int.tmod_eq_emod_of_nonneg (by omega), ← hj]; rfl
    have t3 : (0 : Int) ≤ (j : Int) := by omega
    have t4 : (j : Int) ≤ (hc : Int) := by omega
    have t5 : (0 : Int) ≤ (j : Int) + 1 := by omega
    have t6 : (j : Int) + 1 ≤ (k.hl.length : Int) := by omega
    have t7 : (0 : Int) ≤ (i : Int) := by omega
    have hhl : k.hl.length ≤ 1000 := by omega
    clear hk hh1 hr1 hi1 hpl hbad h0 hrow hrd hlen hh hj
    go_enter Try.func59, Try.ntmps59
    go_upto_region 7 with (at_builtin; (refine wpList_append_any _ rfl (.tmp 30) (.tmp 35) 31 rfl w.heap.size 37 i0 _ 1 24 Try.underlying31 hi hz0 hz1 hz2 rfl (by decide) (.slice none 0 0) 0 [] rfl (World.ownsRow_nil _ _ _ _) _ (some ⟨hg, ho, none⟩) j hc ((kB.flat k.hl).take j) rfl HFI.out (fun u hu => kB_one _ u (List.mem_of_mem_take hu)) (by simp only [maxLen]; omega) (by omega) (Nat.le_refl _) ?_; intro v5 w5 hr5 hg5 hv5; rw [Nat.zero_add, List.nil_append] at hr5; have HR5 := Lib.hid hr5; have HB5 : Hid (Below w.heap.size w w5) := Lib.hid ⟨hg5.os, hg5.tape, hg5.output, hg5.size, fun q hq => hg5.block q hq (by simp [Value.ownBlock])⟩; have z2 : w5.cell? ⟨k.gl, 2, none⟩ = some (.slice (some ⟨hg, ho, none⟩) k.hl.length hc) := (HB5.out.cell (p := ⟨k.gl, 2, none⟩) hlk).trans x2; obtain ⟨A5, c5, rfl, _, _⟩ := own_formL hr5; have hz5 : w.heap.size ≤ w5.heap.size := HB5.out.size; clear hr5 hg5 hv5))
    go_wp2_with (at_builtin; (refine wpList_append_any _ rfl (.tmp 38) (.tmp 44) 31 rfl w.heap.size 37 i0 _ 1 24 Try.underlying31 hi hz0 hz1 hz2 rfl (by decide) (.slice A5 j c5) j ((kB.flat k.hl).take j) rfl HR5.out _ (if hc = j + 1 then some ⟨hg, ho, none⟩ else some ⟨hg, ho + (j + 1), none⟩) (k.hl.length - (j + 1)) (hc - (j + 1)) ((kB.flat k.hl).drop (j + 1)) rfl (HTL.out.below HB5.out) (fun u hu => kB_one _ u (List.mem_of_mem_drop hu)) (by simp only [maxLen]; omega) (by omega) hz5 ?_; intro v6 w6 hr6 hg6 hv6; have HB6 : Hid (Below w.heap.size w w6) := Lib.hid (HB5.out.trans_grown HR5.out hg6); have HP6 := Lib.hid (HK.out.dropH HB6.out hr6); have hb6 : Blk w6 k.gl 81 #[.pointer (some ⟨k.p.g, 0, none⟩), .pointer (some ⟨k.t.g, 0, none⟩), k.hv, k.rv, k.iv] := (HB6.out.block _ hlk).trans HK.out.lk; have y2 := hb6.frozen 2; have y3 : w6.cell? ⟨k.gl, 2, none⟩ = some (.slice (some ⟨hg, ho, none⟩) k.hl.length hc) := (HB6.out.cell (p := ⟨k.gl, 2, none⟩) hlk).trans x2; obtain ⟨A6, c6, rfl, _, _⟩ := own_formL hr6; clear hr6 hg6 hv6 hb6))
    all_goals refine Go.bodyPost_end (v := .tuple #[]) (by simp [results, Try.results59, go_sem]) rfl ⟨rfl, by rw [HPL.out]; exact HP6.out.toX rfl rfl rfl (Nat.le_refl _) (by dsimp only; rw [List.map_append, List.map_take, List.map_drop, HH1.out]) HR1.out HI1.out⟩
set_option maxRecDepth 20000 in
set_option maxHeartbeats 4000000 in
theorem llose_false {w0 w : World} {gl gc gt D : Nat} {s : Pl} (i : Int) (h : LkX w0 gl gc gt s D w) (hh : s.r.length ≤ 1000) :
    Calls Try.prog 59 #[.pointer (some ⟨gl, 0, none⟩), .bool false, .int .i64 i] w (LinkP w0 gl gc gt (losePl s false i) D) := by
  obtain ⟨k, f, rfl, rfl, rfl, hk, hh1, hr1, hi1⟩ := h
  have HK := Lib.hid hk
  have HH1 := Lib.hid hh1
  have HR1 := Lib.hid hr1
  have HI1 := Lib.hid hi1
  obtain ⟨hA, hc, hhv, hcl, hcm⟩ := hk.th.form
  have hlen : k.rl.length = s.r.length := by have := congrArg List.length hr1; rw [List.length_map] at this; exact this
  have x2 : w.cell? ⟨k.gl, 3, none⟩ = some (.slice hA k.rl.length hc) := by rw [← hhv]; exact hk.lk.cell 3
  have hlk := hk.lk.lt
  obtain ⟨i0, hi, hz0, hz1, hz2⟩ := info_parts info37
  by_cases hbad : s.r = [] ∨ i < 0
  · have hpl : losePl s false i = s := by unfold losePl dropPl; simp [hbad]
    have HPL := Lib.hid hpl
    have HT : Hid (LkX w0 k.gl k.p.g k.t.g s D w) := Lib.hid ⟨k, f, rfl, rfl, rfl, hk, hh1, hr1, hi1⟩
    clear hk hh1 hr1 hi1 hpl
    by_cases h0 : s.r = []
    · have hl0 : k.rl.length = 0 := by rw [hlen, h0]; rfl
      rw [hl0] at x2
      clear hbad h0 hl0 hhv hcl hlen hh
      go_enter Try.func59, Try.ntmps59
      go_wp2
      refine Go.bodyPost_end (v := .tuple #[]) (by simp [results, Try.results59, go_sem]) rfl ⟨rfl, by rw [HPL.out]; exact HT.out⟩
    · have hi0 : i < 0 := hbad.resolve_left h0
      have hl0 : 0 < k.rl.length := by rw [hlen]; exact List.length_pos_iff.2 h0
      have t1 : ((k.rl.length : Int) == 0) = false := by rw [beq_eq_false_iff_ne]; omega
      clear hbad h0 hl0 hhv hcl hlen hh
      go_enter Try.func59, Try.ntmps59
      go_wp2
      refine Go.bodyPost_end (v := .tuple #[]) (by simp [results, Try.results59, go_sem]) rfl ⟨rfl, by rw [HPL.out]; exact HT.out⟩
  · have h0 : ¬ s.r = [] := fun e => hbad (.inl e)
    obtain ⟨i, rfl⟩ := Int.eq_ofNat_of_zero_le (show 0 ≤ i by have : ¬ i < 0 := fun e => hbad (.inr e); omega)
    have hpos : 0 < k.rl.length := by rw [hlen]; exact List.length_pos_iff.2 h0
    obtain ⟨j, hj⟩ : ∃ j, i % k.rl.length = j := ⟨_, rfl⟩
    have hjl : j < k.rl.length := by rw [← hj]; exact Nat.mod_lt _ hpos
    have hpl : losePl s false (i : Int) = { s with r := s.r.take j ++ s.r.drop (j + 1) } := by unfold losePl dropPl; rw [if_neg hbad]; simp [← hlen, hj]
    have HPL := Lib.hid hpl
    have hrow := hk.th.row
    rw [hhv] at hrow
    obtain ⟨hg, ho, rfl⟩ : ∃ hg ho, hA = some ⟨hg, ho, none⟩ := by
      rcases hrow.2 with ⟨_, e0⟩ | ⟨g, o, _, _, e0, _⟩
      · omega
      · injection e0 with e0 _ _
        exact ⟨g, o, e0⟩
    have hrd : Reads w w.heap.size 1 (some ⟨hg, ho, none⟩) k.rl.length (kB.flat k.rl) := hrow.reads
    have HRD := Lib.hid hrd
    have HFI : Hid (Reads w w.heap.size 1 (some ⟨hg, ho, none⟩) j ((kB.flat k.rl).take j)) := Lib.hid (by have := Reads.firstK hrd (k := j) (by omega); rwa [Nat.mul_one] at this)
    have HTL : Hid (Reads w w.heap.size 1 (if hc = j + 1 then some ⟨hg, ho, none⟩ else some ⟨hg, ho + (j + 1), none⟩) (k.rl.length - (j + 1)) ((kB.flat k.rl).drop (j + 1))) := Lib.hid (by have := Reads.cut hrd (k := j + 1) (cap := hc) (by omega) (by omega); simpa [Addr.add] using this)
    have t1 : ((k.rl.length : Int) == 0) = false := by rw [beq_eq_false_iff_ne]; omega
    have t2 : ((i : Int).tmod (k.rl.length : Int)) = (j : Int) := by rw [Int.tmod_eq_emod_of_nonneg (by omega), ← hj]; rfl
    have t3 : (0 : Int) ≤ (j : Int) := by omega
    have t4 : (j : Int) ≤ (hc : Int) := by omega
    have t5 : (0 : Int) ≤ (j : Int) + 1 := by omega
    have t6 : (j : Int) + 1 ≤ (k.rl.length : Int) := by omega
    have t7 : (0 : Int) ≤ (i : Int) := by omega
    have hhl : k.rl.length ≤ 1000 := by omega
    clear hk hh1 hr1 hi1 hpl hbad h0 hrow hrd hlen hh hj
    go_enter Try.func59, Try.ntmps59
    go_upto_region 7 with (at_builtin; (refine wpList_append_any _ rfl (.tmp 30) (.tmp 35) 31 rfl w.heap.size 37 i0 _ 1 24 Try.underlying31 hi hz0 hz1 hz2 rfl (by decide) (.slice none 0 0) 0 [] rfl (World.ownsRow_nil _ _ _ _) _ (some ⟨hg, ho, none⟩) j hc ((kB.flat k.rl).take j) rfl HFI.out (fun u hu => kB_one _ u (List.mem_of_mem_take hu)) (by simp only [maxLen]; omega) (by omega) (Nat.le_refl _) ?_; intro v5 w5 hr5 hg5 hv5; rw [Nat.zero_add, List.nil_append] at hr5; have HR5 := Lib.hid hr5; have HB5 : Hid (Below w.heap.size w w5) := Lib.hid ⟨hg5.os, hg5.tape, hg5.output, hg5.size, fun q hq => hg5.block q hq (by simp [Value.ownBlock])⟩; have z2 : w5.cell? ⟨k.gl, 3, none⟩ = some (.slice (some ⟨hg, ho, none⟩) k.rl.length hc) := (HB5.out.cell (p := ⟨k.gl, 3, none⟩) hlk).trans x2; obtain ⟨A5, c5, rfl, _, _⟩ := own_formL hr5; have hz5 : w.heap.size ≤ w5.heap.size := HB5.out.size; clear hr5 hg5 hv5))
    go_wp2_with (at_builtin; (refine wpList_append_any _ rfl (.tmp 38) (.tmp 44) 31 rfl w.heap.size 37 i0 _ 1 24 Try.underlying31 hi hz0 hz1 hz2 rfl (by decide) (.slice A5 j c5) j ((kB.flat k.rl).take j) rfl HR5.out _ (if hc = j + 1 then some ⟨hg, ho, none⟩ else some ⟨hg, ho + (j + 1), none⟩) (k.rl.length - (j + 1)) (hc - (j + 1)) ((kB.flat k.rl).drop (j + 1)) rfl (HTL.out.below HB5.out) (fun u hu => kB_one _ u (List.mem_of_mem_drop hu)) (by simp only [maxLen]; omega) (by omega) hz5 ?_; intro v6 w6 hr6 hg6 hv6; have HB6 : Hid (Below w.heap.size w w6) := Lib.hid (HB5.out.trans_grown HR5.out hg6); have HP6 := Lib.hid (HK.out.dropR HB6.out hr6); have hb6 : Blk w6 k.gl 81 #[.pointer (some ⟨k.p.g, 0, none⟩), .pointer (some ⟨k.t.g, 0, none⟩), k.hv, k.rv, k.iv] := (HB6.out.block _ hlk).trans HK.out.lk; have y2 := hb6.frozen 3; have y3 : w6.cell? ⟨k.gl, 3, none⟩ = some (.slice (some ⟨hg, ho, none⟩) k.rl.length hc) := (HB6.out.cell (p := ⟨k.gl, 3, none⟩) hlk).trans x2; obtain ⟨A6, c6, rfl, _, _⟩ := own_formL hr6; clear hr6 hg6 hv6 hb6))
    all_goals refine Go.bodyPost_end (v := .tuple #[]) (by simp [results, Try.results59, go_sem]) rfl ⟨rfl, by rw [HPL.out]; exact HP6.out.toX rfl rfl rfl (Nat.le_refl _) HH1.out (by dsimp only; rw [List.map_append, List.map_take, List.map_drop, HR1.out]) HI1.out⟩
end Go.Proofs.Ytjhkfpemcplaaaa
