/-
  The walk of the document's at f39: Move.
-/
import Derived.Test.YtbkgphmocjjmmaaRnG
namespace Go.Proofs.Ytbkgphmocjjmmaa
open Go.RowKit

/-- behind the third append of Move -/
theorem rmov_mid {w3 w4 w8 : World} {g i j : Nat} {S : Ns} {v : Bool → Value} {l : Bool → List LP} {s : Bool} {p : LP} {v1 v8 : Value} (h : NetR w3 g S v l) (hp : (l s)[i]? = some p) (hn4 : NetR w4 g (S.take s i) (upd v s v1) (upd l s ((l s).eraseIdx i))) (hc4 : Chg (· = g) w3 w4) 
    (hb8 : Below w4.heap.size w4 w8) (ho : w8.ownsRow w4.heap.size 36 2 v8 (j + 1 + (((l s).length - 1) - j)) ((lpCells (((l s).eraseIdx i).take j) ++ p.cells) ++ (lpCells ((l s).eraseIdx i)).drop (j * 2))) (hj : j ≤ (l s).length - 1) :
    w8.cell? ⟨g, rwayO s, none⟩ = some v1 ∧ w8.frozen? ⟨g, rwayO s, none⟩ = false ∧ NetR (w8.setCell ⟨g, rwayO s, none⟩ v8) g (S.move s i j p.pk) (upd v s v8) (upd l s (moved (l s) i j p)) ∧
    (∀ k, NetF g (upd v s v8) (upd l s (moved (l s) i j p)) k → NetF g v l k ∨ w3.heap.size ≤ k) ∧ Chg (NetF g v l) w3 (w8.setCell ⟨g, rwayO s, none⟩ v8) ∧ w4.heap.size ≤ w8.heap.size := by
  have hi : i < (l s).length := (List.getElem?_eq_some_iff.1 hp).1
  have hg3 := h.blk.lt
  have hg4 := hn4.blk.lt
  have hsz := hc4.size
  have hlen : ((l s).eraseIdx i).length = (l s).length - 1 := by rw [List.length_eraseIdx, if_pos hi]
  have e : j + 1 + (((l s).length - 1) - j) = (moved (l s) i j p).length := by
    unfold moved
    simp only [List.length_append, List.length_take, List.length_drop, List.length_singleton, hlen]
    omega
  have e2 : (lpCells (((l s).eraseIdx i).take j) ++ p.cells) ++ (lpCells ((l s).eraseIdx i)).drop (j * 2) = lpCells (moved (l s) i j p) := by
    unfold moved
    rw [lpCells_app, lpCells_app, ← lpCells_drop]
    simp [lpCells]
  rw [e, e2] at ho
  have hnv : ∀ k, v8.ownBlock = some k → w4.heap.size ≤ k := fun k hk => (World.ownsRow.lt ho k hk).1
  have hg8 : Blk w8 g 92 (layR (S.take s i) (upd v s v1)) := hn4.blk.below hb8 hg4
  have hc8 : Chg (· = g) w3 w8 := hc4.trans (Chg.of_below hb8 (fun _ => False)) (fun _ _ h => h.elim)
  have hc9 : Chg (· = g) w3 (w8.setCell ⟨g, rwayO s, none⟩ v8) := hc8.setCell (p := ⟨g, rwayO s, none⟩) (fun _ => rfl) v8
  have hcell : w8.cell? ⟨g, rwayO s, none⟩ = some v1 := by
    have := (hg8.cell (rwayO s)).trans (layR_under _ _ s)
    rw [upd_at] at this
    exact this
  have hperm := moved_perm hp j
  have hb9 : ∀ q ∈ l s, q.own (w8.setCell ⟨g, rwayO s, none⟩ v8) := fun q hq => own_chg (h.pks s q hq) hc9 (fun k e e2 => by subst e2; exact own_blk_ne (h.pks s q hq) h.blk (by decide) e)
  have hv' : v8.ownBlock = none ∨ v8.ownBlock = (v s).ownBlock ∨ ∃ k, v8.ownBlock = some k ∧ w3.heap.size ≤ k := by
    cases e : v8.ownBlock with
    | none => exact .inl rfl
    | some k => exact .inr (.inr ⟨k, rfl, by have := hnv k e; omega⟩)
  have hn : ∀ q ∈ moved (l s) i j p, q.blk = none ∨ (∃ r ∈ l s, q.blk = r.blk) ∨ ∃ k, q.blk = some k ∧ w3.heap.size ≤ k := fun q hq => .inr (.inl ⟨q, hperm.mem_iff.1 hq, rfl⟩)
  refine ⟨hcell, hg8.frozen _, h.upd s (w' := w8.setCell ⟨g, rwayO s, none⟩ v8) (S' := S.move s i j p.pk) ?_ ?_ (fun q hq => hb9 q (hperm.mem_iff.1 hq)) ?_ (pairwise_perm hperm (h.apart s)) hv' hn ?_, fun k hk => NetF.upd hv' hn hk, hc9.mono (fun k _ e => .inl e), hb8.size⟩
  · have := hg8.set_ (rwayO s) v8
    rwa [layR_setU (S.take s i) (upd v s v1) s v8 (moved (S.u s) i j p.pk), upd_two, show (S.take s i).setU s (moved (S.u s) i j p.pk) = S.move s i j p.pk from by simp [Ns.take, Ns.move, Ns.setU, upd_two]] at this
  · refine own_base (b2 := 0) (World.ownsRow.kept ho (only_setCell (p := ⟨g, rwayO s, none⟩) (World.grownBy.refl w8 (some g)) (.inl rfl) v8) (.inr (fun e => ?_))) (Nat.zero_le _)
    have := hnv g e
    omega
  · simp only [Ns.move, Ns.setU]
    rw [moved_map, h.is]
  · intro k hk
    obtain ⟨h1, _⟩ := h.other (by decide) (by decide) s hk
    refine hc9.block k ?_ h1
    rcases hk with hk | ⟨q, hq, hk⟩
    · exact (World.ownsRow.lt (h.row _) k hk).2
    · exact (World.ownsRow.lt (h.pks _ q hq) k hk).2
set_option maxRecDepth 20000 in
set_option maxHeartbeats 4000000 in
theorem rat_7n (g : Nat) (S : Ns) (v : Bool → Value) (l : Bool → List LP) (s : Bool) (i : Nat) (p : LP) (z j m : Int) (A : Option Addr) (n c : Nat) (w : World) (h : NetR w g S v l) (hp : (l s)[i]? = some p) (hj : j < 0 ∨ ((l s).length : Int) ≤ j) :
    Calls Try.prog 39 #[.pointer (some ⟨g, 0, none⟩), .int .i64 7, .int .i64 (idxN s), actV 7 z i j m A n c] w (RStepP w g v l S 0 [] 1) := by
  have u0 : w.cell? ⟨g, rwayO s, none⟩ = some (v s) := (h.blk.cell _).trans (layR_under _ _ s)
  obtain ⟨A1, c1, hv, _, _⟩ := own_form (h.row s)
  rw [hv] at u0
  have hg : g < w.heap.size := h.blk.lt
  have hi : i < (l s).length := (List.getElem?_eq_some_iff.1 hp).1
  have l0 : decide ((i : Int) < 0) = false := decide_eq_false (by omega)
  have l1 : (i : Int) < ((l s).length : Int) := by omega
  have HST := Lib.hid (RatS.start w 7 z i j m A n c)
  have H := Lib.hid h
  clear h hv hp
  unfold actV
  cases s
  all_goals
    simp only [idxN, rwayO] at *
    go_enter Try.func39, Try.ntmps39
    go_upto_region 1 with fail
    generalize (w.alloc (.cells #[.int .i64 7, .int .i64 z, .int .i64 i, .int .i64 j, .int .u8 m, .slice A n c] 55)).alloc (.cells #[.int .i64 0, .slice none 0 0] 36) = w1 at *
    have a2 : w1.cell? ⟨w.heap.size, 2, none⟩ = some (.int .i64 i) := HST.out.act.cell 2
    have u1 := (HST.out.old.cell (p := ⟨g, _, none⟩) hg).trans u0
    have hb1 := HST.out.res.lt
    have hg1 : g < w1.heap.size := by omega
    go_quiet (fail)
    have HS2 := Lib.hid (HST.out.drewN nq)
    generalize w1.drewN nq = w2 at HS2 ⊢
    clear a2 u1 hb1 hg1
    have a3 : w2.cell? ⟨w.heap.size, 3, none⟩ = some (.int .i64 j) := HS2.out.act.cell 3
    have u1 := (HS2.out.old.cell (p := ⟨g, _, none⟩) hg).trans u0
    have hb2 := HS2.out.res.lt
    have hg2 : g < w2.heap.size := by omega
    go_upto_region 16 with fail
    rcases hj with t1 | t2
    · have d1 : decide (j < 0) = true := decide_eq_true t1
      go_quiet (fail)
      have HS3 := Lib.hid (HS2.out.drewN nq)
      generalize w2.drewN nq = w3 at HS3 ⊢
      have r0 := HS3.out.res.cell 0
      have r1 := HS3.out.res.cell 1
      have f0 := HS3.out.res.frozen 0
      have f1 := HS3.out.res.frozen 1
      have hb3 := HS3.out.res.lt
      go_wp2
      clear r0 r1 f0 f1
      have HE := HS3.out.err H.out 1
      have t0 := HE.1.cell 0
      have t1 := HE.1.cell 1
      exact bodyPost_ret (v := .tuple #[.agg #[.int .i64 0, .slice none 0 0], .int .i64 1]) (by simp [results, Try.results39, go_sem, t0, t1]) rfl HE.2
    · have d1 : decide (j < 0) = false := decide_eq_false (by omega)
      go_quiet (fail)
      have HS3 := Lib.hid (HS2.out.drewN nq)
      generalize w2.drewN nq = w3 at HS3 ⊢
      have r0 := HS3.out.res.cell 0
      have r1 := HS3.out.res.cell 1
      have f0 := HS3.out.res.frozen 0
      have f1 := HS3.out.res.frozen 1
      have hb3 := HS3.out.res.lt
      go_wp2
      clear r0 r1 f0 f1
      have HE := HS3.out.err H.out 1
      have t0 := HE.1.cell 0
      have t1 := HE.1.cell 1
      exact bodyPost_ret (v := .tuple #[.agg #[.int .i64 0, .slice none 0 0], .int .i64 1]) (by simp [results, Try.results39, go_sem, t0, t1]) rfl HE.2
set_option maxRecDepth 20000 in
set_option maxHeartbeats 4000000 in
theorem rat_7 (g : Nat) (S : Ns) (v : Bool → Value) (l : Bool → List LP) (K : Int) (s : Bool) (i j : Nat) (p : LP) (z m : Int) (A : Option Addr) (n c : Nat) (w : World) (h : NetR w g S v l) (hk : S.ok K) (hK : K ≤ 4611686018427387900) (hp : (l s)[i]? = some p) (hj : j < (l s).length) :
    Calls Try.prog 39 #[.pointer (some ⟨g, 0, none⟩), .int .i64 7, .int .i64 (idxN s), actV 7 z i j m A n c] w (RStepP w g v l ((S.add s 5 1).move s i j p.pk) 0 [] 0) := by
  have u0 : w.cell? ⟨g, rwayO s, none⟩ = some (v s) := (h.blk.cell _).trans (layR_under _ _ s)
  have k0 : w.cell? ⟨g, rcntO s + 5, none⟩ = some (.int .i64 ((S.c s).get 5)) := (h.blk.cell _).trans (layR_get S v s 5 (by omega))
  have f0 := h.blk.frozen (rcntO s + 5)
  have hc0 := Cn.get_ok (hk.cn s) 5 (by omega)
  have e0 := hc0.1
  have e1 := Int.le_trans hc0.2 hK
  obtain ⟨A1, c1, hv, _, _⟩ := own_form (h.row s)
  rw [hv] at u0
  have hg : g < w.heap.size := h.blk.lt
  have hi : i < (l s).length := (List.getElem?_eq_some_iff.1 hp).1
  have hlen : ((l s).eraseIdx i).length = (l s).length - 1 := by rw [List.length_eraseIdx, if_pos hi]
  have HLL : Hid ((l s).length ≤ 64) := Lib.hid (by have := h.len s; have := hk.len s; have := hk.hi; omega)
  have l0 : decide ((i : Int) < 0) = false := decide_eq_false (by omega)
  have l1 : (i : Int) < ((l s).length : Int) := by omega
  have l3 : decide ((j : Int) < 0) = false := decide_eq_false (by omega)
  have l4 : (j : Int) < ((l s).length : Int) := by omega
  have l5 : (0 : Int) ≤ (j : Int) := by omega
  have hj64 : j < 64 := by have := HLL.out; omega
  have m3 : j ≤ (l s).length - 1 := by omega
  obtain ⟨i0, hi0, hz0, hz1, hz2⟩ := info_parts info36
  have HST := Lib.hid (RatS.start w 7 z i j m A n c)
  have H := Lib.hid h
  have HP := Lib.hid hp
  have HLN := Lib.hid hlen
  have HCT := Lib.hid fun (W : World) (hW : RatS w 7 z i j m A n c W) => hW.count h s 5 (by omega)
  have HOUT := Lib.hid fun (W : World) (hW : NetR W g (S.add s 5 1) v l) => rout_any g (S.add s 5 1) v l s i p W hW hp HLL.out
  have HMV := Lib.hid fun (w3 w4 w8 : World) (v1 v8 : Value) (h : NetR w3 g (S.add s 5 1) v l) => rmov_mid (w4 := w4) (w8 := w8) (v1 := v1) (v8 := v8) (j := j) h hp
  have HRW := Lib.hid fun (W : World) (v1 : Value) (hW : NetR W g ((S.add s 5 1).take s i) (upd v s v1) (upd l s ((l s).eraseIdx i))) => (show W.cell? ⟨g, rwayO s, none⟩ = some v1 ∧ RowP W v1 ((l s).eraseIdx i) from by
    have a := (hW.blk.cell _).trans (layR_under _ _ s)
    have b := hW.row s
    rw [upd_at] at a b
    rw [upd_at] at b
    exact ⟨a, b⟩)
  clear h hv hk hc0 hp hlen
  unfold actV
  generalize (S.c s).get 5 = cc at *
  cases s
  all_goals
    simp only [idxN, rwayO, rcntO] at *
    simp only [Nat.reduceAdd] at *
    go_enter Try.func39, Try.ntmps39
    go_upto_region 1 with fail
    generalize (w.alloc (.cells #[.int .i64 7, .int .i64 z, .int .i64 i, .int .i64 j, .int .u8 m, .slice A n c] 55)).alloc (.cells #[.int .i64 0, .slice none 0 0] 36) = w1 at *
    have a2 : w1.cell? ⟨w.heap.size, 2, none⟩ = some (.int .i64 i) := HST.out.act.cell 2
    have u1 := (HST.out.old.cell (p := ⟨g, _, none⟩) hg).trans u0
    have hb1 := HST.out.res.lt
    have hg1 : g < w1.heap.size := by omega
    go_quiet (fail)
    have HS2 := Lib.hid (HST.out.drewN nq)
    generalize w1.drewN nq = w2 at HS2 ⊢
    clear a2 u1 hb1 hg1
    have a3 : w2.cell? ⟨w.heap.size, 3, none⟩ = some (.int .i64 j) := HS2.out.act.cell 3
    have u1 := (HS2.out.old.cell (p := ⟨g, _, none⟩) hg).trans u0
    have hb2 := HS2.out.res.lt
    have hg2 : g < w2.heap.size := by omega
    go_upto_region 16 with fail
    go_quiet (fail)
    have HS3 := Lib.hid (HS2.out.drewN nq)
    generalize w2.drewN nq = w3 at HS3 ⊢
    clear a3 u1 hb2 hg2
    have k1 := (HS3.out.old.cell (p := ⟨g, _, none⟩) hg).trans k0
    have f1 := (HS3.out.old.frozen (p := ⟨g, _, none⟩) hg).trans f0
    have hb3 := HS3.out.res.lt
    have hg3 : g < w3.heap.size := by omega
    have HC2 := Lib.hid (HCT.out w3 HS3.out)
    go_upto_region 18 with fail
    go_region
    all_goals
      generalize (w3.setCell _ _).drew = w4 at HC2 ⊢
      have a2 : w4.cell? ⟨w.heap.size, 2, none⟩ = some (.int .i64 i) := HC2.out.act.cell 2
      have hb4 := HC2.out.res.lt
      clear k1 f1 hb3 hg3 k0 f0 u0
      go_wp2_with fail
      refine (HOUT.out w4 HC2.out.net).mono ?_
      rintro e w5 ⟨v1, rfl, hn5, hsub5, hnv5, hc5, ho5⟩
      have HN5 := Lib.hid hn5
      have HC5 := Lib.hid hc5
      have HO5 := Lib.hid ho5
      have ha5 := HC5.out.blk HC2.out.act (fun e => by omega)
      have hr5 := HC5.out.blk HC2.out.res (fun e => by omega)
      have HA5 := Lib.hid ha5
      have HR5 := Lib.hid hr5
      clear hn5 hsub5 hnv5 hc5 ho5 ha5 hr5 a2 hb4
      go_upto_region 21 with fail
      have hb6 : Below w5.heap.size w5 (w5.alloc (.cells #[.int .i64 p.pk.num, .slice p.A p.pk.bytes.length p.c] 36)) := (Below.refl _ _).alloc (Nat.le_refl _) _
      have HQ6 : Hid (Blk (w5.alloc (.cells #[.int .i64 p.pk.num, .slice p.A p.pk.bytes.length p.c] 36)) w5.heap.size 36 #[.int .i64 p.pk.num, .slice p.A p.pk.bytes.length p.c]) := Lib.hid (Blk.new w5 36 _)
      have HC6 : Hid (Chg (· = g) w4 (w5.alloc (.cells #[.int .i64 p.pk.num, .slice p.A p.pk.bytes.length p.c] 36))) := Lib.hid (HC5.out.alloc _)
      generalize w5.alloc (.cells #[.int .i64 p.pk.num, .slice p.A p.pk.bytes.length p.c] 36) = w6 at hb6 HQ6 HC6 ⊢
      have HB6 := Lib.hid hb6
      have HN6 := Lib.hid (HN5.out.below hb6)
      have HRW6 := Lib.hid (HRW.out w6 v1 HN6.out)
      obtain ⟨B1, d1, hv1, hv2, hv3⟩ := own_form HRW6.out.2
      rw [HLN.out] at hv1 hv2
      subst hv1
      have u6 := HRW6.out.1
      have hg6 := HN6.out.blk.lt
      have ha6 := HA5.out.below hb6 HA5.out.lt
      have a3 : w6.cell? ⟨w.heap.size, 3, none⟩ = some (.int .i64 j) := ha6.cell 3
      have hal := ha6.lt
      have m1 : (j : Int) ≤ (d1 : Int) := by omega
      have m2 : j ≤ d1 := by omega
      have HRD := Lib.hid (Reads.of_own (n := (l _).length - 1) (by have := HRW6.out.2; unfold RowP at this; rw [HLN.out] at this; exact this))
      clear hb6 ha6 hv3
      go_upto_region 21 with fail
      go_region_law (first
        | (refine step_append_any _ rfl (.tmp 144) (.tmp 153) 39 rfl w6.heap.size 36 i0 _ 2 32 Try.underlying39 hi0 hz0 hz1 hz2 rfl (by decide) (.slice none 0 0) 0 [] (by simp [Act.eval, Act.put]) (World.ownsRow_nil _ _ _ _) w6.heap.size B1 j d1 _ (by simp [Act.eval, Act.put]) (Reads.pre HRD.out.drew (by omega)) (by rw [← lpCells_take]; exact lp_one _) (by simp only [maxLen]; omega) (by omega) (by simp) ?_; intro v7 w7 hown7 hgrow7 hv7; have HO7 := Lib.hid hown7; have HG7 := Lib.hid hgrow7; clear hown7 hgrow7 hv7))
      all_goals
        obtain ⟨A7, n7, c7, hv7⟩ := own_slice HO7.out
        subst hv7
        have HO7b : Hid (w7.ownsRow w6.heap.size 36 2 (.slice A7 n7 c7) j ((lpCells ((l _).eraseIdx i)).take (j * 2))) := Lib.hid (by have := HO7.out; rw [Nat.zero_add, List.nil_append] at this; exact this)
        have HB7 : Hid (Below w6.heap.size w6 w7) := Lib.hid ((Below.refl _ _).drew.grown HG7.out (Nat.le_refl _) (fun k hk => by simp [Value.ownBlock] at hk))
        have HQ7 := Lib.hid (HQ6.out.below HB7.out HQ6.out.lt)
        have y0 : w7.cell? ⟨w5.heap.size, 0, none⟩ = some (.int .i64 p.pk.num) := HQ7.out.cell 0
        have y1 : w7.cell? ⟨w5.heap.size, 1, none⟩ = some (.slice p.A p.pk.bytes.length p.c) := HQ7.out.cell 1
        have u7 := (HB7.out.cell (p := ⟨g, _, none⟩) hg6).trans u6
        have a7 := (HB7.out.cell (p := ⟨w.heap.size, _, none⟩) hal).trans a3
        have hs7 := HB7.out.size
        have hq7 := HQ7.out.lt
        clear HO7 HG7 u6 a3
        go_upto_region 23 with (at_builtin; refine wpList_append_any _ rfl (.tmp 155) (.tmp 157) 39 rfl w6.heap.size 36 i0 _ 2 32 Try.underlying39 hi0 hz0 hz1 hz2 rfl (by decide) _ j _ rfl (World.ownsRow.alloc HO7b.out _) _ _ _ _ _ rfl (read_one2 _ _ _) (two_one _ _ _ _) (by simp only [maxLen]; omega) (by omega) (by simp; omega) ?_; intro v8 w8 hown8 hgrow8 hv8; have HO8 := Lib.hid hown8; have HG8 := Lib.hid hgrow8; have HV8 := Lib.hid hv8; clear hown8 hgrow8 hv8)
        obtain ⟨A8, n8, c8, hv8⟩ := own_slice HO8.out
        subst hv8
        have HB8 : Hid (Below w6.heap.size w6 w8) := Lib.hid ((HB7.out.alloc hs7 _).grown HG8.out (by simp; omega) (fun k (hk : (Value.slice A7 n7 c7).ownBlock = some k) => (World.ownsRow.lt HO7b.out k hk).1))
        have u8 := (HB8.out.cell (p := ⟨g, _, none⟩) hg6).trans HRW6.out.1
        have a8 := (HB8.out.cell (p := ⟨w.heap.size, _, none⟩) hal).trans (HA5.out.below HB6.out HA5.out.lt |>.cell 3)
        have hs8 := HB8.out.size
        have HO8b : Hid (w8.drew.ownsRow w6.heap.size 36 2 (.slice A8 n8 c8) (j + 1) (lpCells (((l _).eraseIdx i).take j) ++ p.cells)) := Lib.hid (by have := HO8.out; rw [← lpCells_take] at this; exact this)
        have HRD8 := Lib.hid ((Reads.cut (HRD.out.below HB8.out) (k := j) (cap := d1) (by omega) (by omega)).drew)
        clear y0 y1 u7 a7 hq7 HQ7 HO7b HG8 HV8
        go_region_law (first
          | (refine step_append_any _ rfl (.tmp 161) (.tmp 170) 39 rfl w6.heap.size 36 i0 _ 2 32 Try.underlying39 hi0 hz0 hz1 hz2 rfl (by decide) (.slice A8 n8 c8) (j + 1) _ (by simp [Act.eval, Act.put]) HO8b.out w6.heap.size (if d1 = j then B1 else B1.map (·.add (j * 2))) ((l _).length - 1 - j) (d1 - j) _ (by simp [Act.eval, Act.put]) HRD8.out (by rw [← lpCells_drop]; exact lp_one _) (by simp only [maxLen]; have := HLL.out; omega) (by have := HLL.out; omega) (by simp; omega) ?_; intro v9 w9 hown9 hgrow9 hv9; have HX := Lib.hid (HMV.out w4 w6 w9 _ v9 HC2.out.net HN6.out HC6.out (HB8.out.drew.grown hgrow9 (by simp; omega) (fun k hk => (World.ownsRow.lt HO8b.out k hk).1)) hown9 (by omega)); have u9 := HX.out.1; have f9 := HX.out.2.1; obtain ⟨A9, n9, c9, rfl⟩ := own_slice hown9; clear hown9 hgrow9 hv9))
        all_goals
          have HY := Lib.hid (HC2.out.done HS3.out H.out (num := 0) (bytes := []) (B := none) (d := 0) HX.out.2.2.1 HX.out.2.2.2.1 HX.out.2.2.2.2.1 (OwnQ.nil _ _ _) 0)
          simp only [List.length_nil] at HY
          clear HX a8 u8
          go_upto_region 24 with fail
          clear HO8 HO8b HRD8 HB8 HRD HRW6 u9 f9 hs8
          generalize w9.setCell _ _ = w10 at HY ⊢
          have r0 := HY.out.1.cell 0
          have r1 := HY.out.1.cell 1
          have s0 := HY.out.1.frozen 0
          have s1 := HY.out.1.frozen 1
          have hb10 := HY.out.1.lt
          go_wp2
          all_goals
            clear r0 r1 s0 s1
            have t0 := HY.out.2.1.cell 0
            have t1 := HY.out.2.1.cell 1
            exact bodyPost_ret (v := .tuple #[.agg #[.int .i64 0, .slice none 0 0], .int .i64 0]) (by simp [results, Try.results39, go_sem, t0, t1]) rfl HY.out.2.2
end Go.Proofs.Ytbkgphmocjjmmaa
