/-
  The verifier's jumps f37, ends f38. No statement of the seat is proved here.
-/
import Derived.Test.YtaeegkljldngmaaDoorCvB
import Derived.Test.YtaeegkljldngmaaDoorCvC
namespace Go.Proofs.YtaeegkljldngmaaDoor
open Go.RowKit

/-! ## The map of places -/
theorem ix_spec (l : List Ins) (z : Int) : match ix l z with
    | some i => i ≤ l.length ∧ (pl l i : Int) = z
    | none => ∀ i, i ≤ l.length → (pl l i : Int) ≠ z := by
  unfold ix
  cases h : (List.range (l.length + 1)).find? (fun i => decide ((pl l i : Int) = z)) with
  | some i =>
    have h1 := List.find?_some h
    have h2 := List.mem_of_find?_eq_some h
    rw [List.mem_range] at h2
    exact ⟨by omega, by simpa using h1⟩
  | none =>
    intro i hi e
    rw [List.find?_eq_none] at h
    have := h i (List.mem_range.2 (by omega))
    simp [e] at this
theorem pl_lt {l : List Ins} (hok : ∀ x ∈ l, x.Ok) : ∀ {i j : Nat}, i < j → j ≤ l.length → pl l i < pl l j := by
  intro i j hij hj
  have h1 := pl_mono l j (i + 1) hij
  have h2 := pl_succ l i (by omega)
  have h3 := size_cast (inO_ok (hok _ (insD_mem (l := l) (i := i) (by omega))))
  omega
theorem pl_inj {l : List Ins} (hok : ∀ x ∈ l, x.Ok) {i j : Nat} (hi : i ≤ l.length) (hj : j ≤ l.length) (h : pl l i = pl l j) : i = j := by
  rcases Nat.lt_trichotomy i j with h1 | h1 | h1
  · have := pl_lt hok h1 hj; omega
  · exact h1
  · have := pl_lt hok h1 hi; omega
theorem getI_some {f : List (Int × Value)} {z : Int} {v : Value} (h : getI f z = some v) : ∃ p ∈ f, p.1 = z ∧ p.2 = v := by
  induction f with
  | nil => cases h
  | cons p r ih =>
    simp only [getI] at h
    split at h
    · rename_i e; injection h with h; exact ⟨p, by simp, e, h⟩
    · obtain ⟨q, hq, h1⟩ := ih h; exact ⟨q, List.mem_cons_of_mem _ hq, h1⟩
theorem getI_none {f : List (Int × Value)} {z : Int} (h : getI f z = none) : ∀ p ∈ f, p.1 ≠ z := by
  induction f with
  | nil => intro p hp; cases hp
  | cons q r ih =>
    simp only [getI] at h
    split at h
    · cases h
    · rename_i hne
      intro p hp
      rcases List.mem_cons.1 hp with e | e
      · subst e; exact hne
      · exact ih h p e
theorem at_mem {l : List Ins} {k : Nat} {p : Int × Value} (h : p ∈ atL l k) (hk : k ≤ l.length) : ∃ i, i ≤ l.length ∧ p = ((pl l i : Int), .int .i64 (i : Int)) := by
  simp only [atL, List.mem_cons, List.mem_map, List.mem_range] at h
  rcases h with rfl | ⟨i, hi, rfl⟩
  · exact ⟨l.length, Nat.le_refl _, rfl⟩
  · exact ⟨i, by omega, rfl⟩
theorem getI_at {l : List Ins} (hok : ∀ x ∈ l, x.Ok) (z : Int) : getI (atL l l.length) z = (ix l z).map fun i => Value.int .i64 (i : Int) := by
  have hs := ix_spec l z
  cases hg : getI (atL l l.length) z with
  | some v =>
    obtain ⟨p, hp, h1, h2⟩ := getI_some hg
    obtain ⟨i, hi, rfl⟩ := at_mem hp (Nat.le_refl _)
    dsimp only at h1 h2
    cases hx : ix l z with
    | none => rw [hx] at hs; exact absurd h1 (hs i hi)
    | some j =>
      rw [hx] at hs
      have : i = j := pl_inj hok hi hs.1 (by omega)
      subst this
      rw [← h2]; rfl
  | none =>
    have hn := getI_none hg
    cases hx : ix l z with
    | none => rfl
    | some j =>
      rw [hx] at hs
      exfalso
      by_cases hj : j = l.length
      · exact hn ((pl l l.length : Int), .int .i64 (l.length : Int)) (by simp [atL]) (by dsimp only; rw [← hj]; exact hs.2)
      · exact hn ((pl l j : Int), .int .i64 (j : Int)) (by simp only [atL, List.mem_cons, List.mem_map, List.mem_range]; exact .inr ⟨j, by omega, rfl⟩) hs.2
theorem zero3 (w : World) : (zeroValue 3).run Tryd.prog w = .ok (.int .i64 0) w := by kernel_rfl
section
variable {W W' : World} {base : Nat} {K : VK} {D : VD}
theorem VM.drew (h : VM base K D W) : VM base K D W.drew := h.keep (fun _ _ => rfl) fun _ _ => rfl
theorem VM.look (h : VM base K D W) (ok : KOk K) (z : Int) : (Instr.lookup 79 (.map (some K.mb)) (.int .i64 z) true).run Tryd.prog W = .ok (.tuple #[.int .i64 (((ix K.l z).getD 0 : Nat) : Int), .bool (ix K.l z).isSome]) W := by
  rw [run_lookupI2 (z0 := .int .i64 0) Tryd.underlying79 Tryd.underlying3 zero3 h.mp z, getI_at ok.ok]
  cases ix K.l z <;> rfl
theorem VM.look1 (h : VM base K D W) (ok : KOk K) (z : Int) : (Instr.lookup 79 (.map (some K.mb)) (.int .i64 z) false).run Tryd.prog W = .ok (.int .i64 (((ix K.l z).getD 0 : Nat) : Int)) W := by
  rw [run_lookupI (z0 := .int .i64 0) Tryd.underlying79 Tryd.underlying3 zero3 h.mp z, getI_at ok.ok]
  cases ix K.l z <;> rfl
theorem VM.oform (h : VM base K D W) (hn : 0 < D.of.length) : ∃ b c, D.ov = .slice (some ⟨b, 0, none⟩) D.of.length c := by
  have h1 := h.oft
  unfold OwnZ at h1
  rw [show (natZ D.of).length = D.of.length by simp [natZ]] at h1
  obtain ⟨b, c, e1, _⟩ := own_at h1 hn
  exact ⟨b, c, e1⟩
theorem VM.ocell (h : VM base K D W) {b c : Nat} (hd : D.ov = .slice (some ⟨b, 0, none⟩) D.of.length c) {i : Nat} (hi : i < D.of.length) :
    W.cell? ⟨K.g, 9, none⟩ = some (.slice (some ⟨b, 0, none⟩) D.of.length c) ∧ W.cell? ⟨b, i, none⟩ = some (.int .i64 ((D.of.getD i 0 : Nat) : Int)) := by
  have h1 := h.oft
  unfold OwnZ at h1
  rw [show (natZ D.of).length = D.of.length by simp [natZ], hd] at h1
  refine ⟨by rw [← hd]; exact h.blk.cell 9, ?_⟩
  rw [World.ownsRow.cellAt h1 i (by omega), List.getD_eq_getElem?_getD]
  simp only [natZ, List.getElem?_map]
  rw [List.getElem?_eq_getElem hi]
  rfl
end
/-! ## Jumps -/
def resJ (l : List Ins) : Option Nat → Int × Int
  | none => (0, 0)
  | some i => ((pl l i : Int), 52)
def JP (r : Int × Int) (W : World) (e : Ending) (w' : World) : Prop := e = .returned (.tuple #[.int .i64 r.1, .int .i64 r.2]) ∧ Below W.heap.size W w'
theorem JP.mk' {r : Int × Int} {W w' : World} {a b : Int} (h : (a, b) = r) (hb : Below W.heap.size W w') : JP r W (.returned (.tuple #[.int .i64 a, .int .i64 b])) w' := by
  subst h
  exact ⟨rfl, hb⟩
theorem isJ_no {op : Int} (h : isJ op = false) : ¬ op = 18 ∧ ¬ op = 19 ∧ ¬ op = 20 := by
  simp only [isJ, Bool.or_eq_false_iff, beq_eq_false_iff_ne, ne_eq] at h
  exact ⟨h.1.1, h.1.2, h.2⟩
theorem isJ_yes {op : Int} (h : isJ op = true) : op = 18 ∨ op = 19 ∨ op = 20 := by
  simp only [isJ, Bool.or_eq_true, beq_iff_eq] at h
  rcases h with (h | h) | h
  · exact .inl h
  · exact .inr (.inl h)
  · exact .inr (.inr h)
set_option maxRecDepth 100000 in
set_option maxHeartbeats 4000000 in
theorem jumps_any {base : Nat} {K : VK} {D : VD} {W : World} (h : VM base K D W) (hB : base ≤ W.heap.size) (ok : KOk K) (hof : D.of.length = K.l.length) :
    Calls Tryd.prog 30 #[.pointer (some ⟨K.g, 0, none⟩)] W (JP (resJ K.l (jumpsF K.l D.of K.l.length 0)) W) := by
  obtain ⟨R, hR⟩ : ∃ R, jumpsF K.l D.of K.l.length 0 = R := ⟨_, rfl⟩
  rw [hR]
  have HR := Lib.hid hR
  have HV := Lib.hid h
  have z43 := zero34
  obtain ⟨A0, cc0, hlv, hlc1, hlc2⟩ := own_form h.ins
  have c4 : W.cell? ⟨K.g, 4, none⟩ = some (.slice A0 K.l.length cc0) := by rw [← hlv]; exact h.blk.cell 4
  have hlen := ok.len
  have hz0 := jumpsF
  clear hz0 hR
  go_enter Tryd.func30, Tryd.ntmps30
  go_wp2
  clear c4
  go_loopw [13] (fun i wr => ∃ k : Nat, k ≤ K.l.length ∧ i = .int .i64 k ∧ Below W.heap.size W wr ∧ jumpsF K.l D.of (K.l.length - k) k = R) (fun i _ => K.l.length - (intOf i).toNat)
  case atStart => exact ⟨0, Nat.zero_le _, rfl, Below.refl _ _, HR.out⟩
  case round =>
    obtain ⟨k, hk, rfl, hbel, hrest⟩ := hrel
    have HB := Lib.hid hbel
    have HRE := Lib.hid hrest
    have hws := hbel.size
    have HVr := Lib.hid (h.below hbel hB)
    clear hbel hrest
    by_cases hlt : k < K.l.length
    · obtain ⟨f, hf⟩ : ∃ f, K.l.length - k = f + 1 := ⟨K.l.length - k - 1, by omega⟩
      have HNB : Hid (jBad K.l D.of k = false → jumpsF K.l D.of (K.l.length - (k + 1)) (k + 1) = R) := Lib.hid fun h => by
        have := HRE.out
        rw [hf] at this
        unfold jumpsF at this
        rw [h] at this
        rw [show K.l.length - (k + 1) = f by omega]
        exact this
      have HYB : Hid (jBad K.l D.of k = true → R = some k) := Lib.hid fun h => by
        have := HRE.out
        rw [hf] at this
        unfold jumpsF at this
        rw [h] at this
        exact this.symm
      obtain ⟨pb, pc, lb, lc, hp, hl⟩ := HV.out.forms (by omega)
      have hA0 : A0 = some ⟨lb, 0, none⟩ := by rw [hlv] at hl; injection hl
      subst hA0
      obtain ⟨_, e0, e1, e2, e3, e4⟩ := HVr.out.lcell hl hlt
      have HPC := Lib.hid fun W (h : VM base K D W) => h.pcell hp hlt
      have hlbw : lb < wr.heap.size := (World.ownsRow.lt HVr.out.ins lb (by rw [hl]; simp [Value.ownBlock])).2
      have l1 : (0 : Int) ≤ (k : Int) := by omega
      have l2 : (k : Int) < (K.l.length : Int) := by omega
      have HJB : Hid (jBad K.l D.of k = (isJ (insD K.l k).op && (match ix K.l (beh K.l k + (insD K.l k).z) with
        | none => true
        | some q => q == K.l.length || D.of.getD q 0 != D.of.getD k 0))) := Lib.hid rfl
      have HOK := Lib.hid (ok.at_ hlt)
      clear hf hl hp
      cases hj : isJ (insD K.l k).op with
      | false =>
        have HN := Lib.hid (HNB.out (by rw [HJB.out, hj]; rfl))
        obtain ⟨n1, n2, n3⟩ := isJ_no hj
        clear HNB HYB HJB hj HOK HPC
        generalize insD K.l k = x at *
        go_wp2
        go_roundw
        case rel => exact ⟨k + 1, by omega, by go_num, HB.out.alloc HB.out.size _, HN.out⟩
        case measure => simp [intOf]; omega
      | true =>
        have HBH := Lib.hid fun o => behind_any (HVr.out.alloc (Nat.le_trans hB hws) o).drew (by simp; omega) ok k hlt
        have hbe : Hid (beh K.l k = (pl K.l (k + 1) : Int)) := Lib.hid (ok.beh hlt)
        have hb1 : 0 ≤ beh K.l k ∧ beh K.l k ≤ 32767 := by
          have := ok.pl_le (k + 1) (by omega)
          have := hbe.out
          omega
        have hzb := HOK.out.z
        have HJ2 : Hid (jBad K.l D.of k = (match ix K.l (beh K.l k + (insD K.l k).z) with
        | none => true
        | some q => q == K.l.length || D.of.getD q 0 != D.of.getD k 0)) := Lib.hid (by rw [HJB.out, hj]; simp)
        have hop := isJ_yes hj
        have HLK := Lib.hid fun W (h : VM base K D W) => h.look ok (beh K.l k + (insD K.l k).z)
        have HIX := Lib.hid (ix_spec K.l (beh K.l k + (insD K.l k).z))
        clear hj HJB hbe HOK
        generalize hx : insD K.l k = x at *
        clear hx
        obtain ⟨op, a, b, c, z⟩ := x
        dsimp only at *
        generalize beh K.l k = bh at *
        have lw : IntKind.i64.wrap (bh + z) = bh + z := by rw [IntKind.wrap_i64]; omega
        have HC : Hid (∀ W', VM base K D W' → Blk W' wr.heap.size 34 #[.int .i64 op, .int .i64 a, .int .i64 b, .int .i64 c, .int .i64 z] → W'.cell? ⟨K.g, 7, none⟩ = some (.map (some K.mb)) ∧ W'.cell? ⟨wr.heap.size, 4, none⟩ = some (.int .i64 z) ∧ (Instr.lookup 79 (.map (some K.mb)) (.int .i64 (bh + z)) true).run Tryd.prog W' = .ok (.tuple #[.int .i64 (((ix K.l (bh + z)).getD 0 : Nat) : Int), .bool (ix K.l (bh + z)).isSome]) W') :=
          Lib.hid fun W' h hb => ⟨h.blk.cell 7, hb.cell 4, HLK.out W' h⟩
        have HV1 := Lib.hid (HVr.out.alloc (Nat.le_trans hB hws) (.cells #[.int .i64 op, .int .i64 a, .int .i64 b, .int .i64 c, .int .i64 z] 34))
        have HX1 := Lib.hid (Blk.new wr 34 #[.int .i64 op, .int .i64 a, .int .i64 b, .int .i64 c, .int .i64 z])
        have HB1 := Lib.hid (HB.out.alloc HB.out.size (.cells #[.int .i64 op, .int .i64 a, .int .i64 b, .int .i64 c, .int .i64 z] 34))
        have hg := HVr.out.blk.lt
        have c7 : wr.cell? ⟨K.g, 7, none⟩ = some (.map (some K.mb)) := HVr.out.blk.cell 7
        have hlk1 := (HC.out _ HV1.out HX1.out).2.2
        have hof2 := HV.out.oform (by omega)
        obtain ⟨ob, oc, hov⟩ := hof2
        have HOC := Lib.hid fun W' (h : VM base K D W') q (hq : q < D.of.length) => h.ocell hov hq
        have HP5 := Lib.hid fun W' (h : VM base K D W') => HPC.out W' h
        have HL4 : Hid (∀ W', VM base K D W' → W'.cell? ⟨K.g, 4, none⟩ = some (.slice (some ⟨lb, 0, none⟩) K.l.length cc0)) := Lib.hid fun W' h => by rw [← hlv]; exact h.blk.cell 4
        clear hov HLK
        generalize hix : ix K.l (bh + z) = ixv at *
        clear hix
        have hopf : Hid (op = 18 ∨ op = 19 ∨ op = 20) := Lib.hid hop
        clear HPC
        rcases hop with rfl | rfl | rfl
        all_goals
          go_upto_region 8 with fail
          have hS0 := (HC.out _ HV1.out.drew HX1.out.drew).2.2
          go_region_held3 (fun W' => W'.cell? ⟨K.g, 7, none⟩ = some (.map (some K.mb)) ∧ W'.cell? ⟨wr.heap.size, 4, none⟩ = some (.int .i64 z) ∧ (Instr.lookup 79 (.map (some K.mb)) (.int .i64 (bh + z)) true).run Tryd.prog W' = .ok (.tuple #[.int .i64 ((ixv.getD 0 : Nat) : Int), .bool ixv.isSome]) W')
            (first | go_keep | exact HC.out _ HV2.out HX2.out)
            (first | (go_at_call 43; ((with_reducible refine (HBH.out _).mono ?_); rintro e w1 ⟨rfl, hb1'⟩; have hbw := below_of_drew hb1'; clear hb1'; have HV2 := Lib.hid (HV1.out.below hbw (by simp; omega)); have HX2 := Lib.hid (HX1.out.below hbw (by simp)); have HB2 := Lib.hid (HB1.out.trans (hbw.mono (by simp; omega))); clear hbw)))
          all_goals
            go_upto_region 9 with fail
            clear hS0 c7 hlk1 HBH HC HV1 HX1 HB1
            have hg1 := HV2.out.blk.lt
            have p1 := (HP5.out w1 HV2.out).1
            have p2 := (HP5.out w1 HV2.out).2
            rcases ixv with _ | q
            · have HJ3 := Lib.hid (HYB.out HJ2.out)
              simp only [Option.getD_none, Option.isSome_none]
              clear HNB HYB HJ2 HIX
              go_quiet (fail)
              go_wp2
              go_ret2
              exact JP.mk' (by rw [HJ3.out]; rfl) (below_drewN HB2.out _)
            · simp only [Option.getD_some, Option.isSome_some]
              have hqn : q ≤ K.l.length := HIX.out.1
              have c4b := HL4.out w1 HV2.out
              by_cases hq : q = K.l.length
              · have HJ3 := Lib.hid (HYB.out (HJ2.out.trans (by subst hq; simp)))
                have d1 : ((q : Int) == (K.l.length : Int)) = true := by simp [hq]
                have d2 : (q == K.l.length) = true := by simp [hq]
                clear HNB HYB HJ2 HIX hq
                go_quiet (fail)
                go_wp2
                go_ret2
                exact JP.mk' (by rw [HJ3.out]; rfl) (below_drewN HB2.out _)
              · have d1 : ((q : Int) == (K.l.length : Int)) = false := by simp; omega
                have d2 : (q == K.l.length) = false := by simp [hq]
                obtain ⟨o1, o2⟩ := HOC.out w1 HV2.out q (by omega)
                obtain ⟨_, o3⟩ := HOC.out w1 HV2.out k (by omega)
                have l3 : (0 : Int) ≤ (q : Int) := by omega
                have l4 : (q : Int) < (D.of.length : Int) := by omega
                have l5 : (k : Int) < (D.of.length : Int) := by omega
                have HJ4 := Lib.hid (show jBad K.l D.of k = (D.of.getD q 0 != D.of.getD k 0) by rw [HJ2.out]; dsimp only; rw [d2]; rfl)
                clear HJ2 HIX hq
                generalize D.of.getD q 0 = x at *
                generalize D.of.getD k 0 = y at *
                cases hxy : (x != y) with
                | true =>
                  have HJ3 := Lib.hid (HYB.out (HJ4.out.trans hxy))
                  have d3 : ((x : Int) != (y : Int)) = true := by
                    rw [bne_iff_ne] at hxy ⊢
                    omega
                  clear HNB HYB HJ4
                  go_quiet (fail)
                  go_wp2
                  go_ret2
                  exact JP.mk' (by rw [HJ3.out]; rfl) (below_drewN HB2.out _)
                | false =>
                  have HJ3 := Lib.hid (HNB.out (HJ4.out.trans hxy))
                  have d3 : ((x : Int) != (y : Int)) = false := by
                    rw [bne_eq_false_iff_eq] at hxy ⊢
                    omega
                  clear HNB HYB HJ4
                  go_quiet (fail)
                  go_wp2
                  go_roundw
                  case rel => exact ⟨k + 1, by omega, by go_num, below_drewN HB2.out _, HJ3.out⟩
                  case measure => simp [intOf]; omega
    · have HE : Hid (R = none) := Lib.hid (by
        have := HRE.out
        rw [show K.l.length - k = 0 by omega] at this
        exact this.symm)
      go_wp2
      go_ret2
      exact JP.mk' (by rw [HE.out]; rfl) HB.out
end Go.Proofs.YtaeegkljldngmaaDoor
