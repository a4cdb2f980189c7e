/-
  The walk of slices.Insert at packets: one packet, where there is room.
-/
import Derived.Test.YtbkgphmocjjmmaaNtH
import Derived.Lib.Overlaps
import Derived.Laws.Externs
namespace Go.Proofs.Ytbkgphmocjjmmaa
open Go.RowKit

section
variable {P : Program}
theorem run_copy_two (w : World) (dT sT ty elem : TypeId) (b o dLen dCap : Nat) (a : Addr) (sLen sCap : Nat) (cs : List Value)
    (hu : P.underlying dT = some (.slice elem)) (hs : (P.info? elem).map (·.size) = some 2) (hn : cs.length = Nat.min sLen dLen * 2)
    (hsrc : ∀ j v, cs[j]? = some v → w.cell? (a.add j) = some v) (hc : ∀ j, j < cs.length → (w.cell? ⟨b, o + j, none⟩).isSome = true) (hf : ∀ j, j < cs.length → w.frozen? ⟨b, o + j, none⟩ = false) (h1 : ∀ v ∈ cs, v.oneCell' = true) :
    (Builtin.copy_ #[dT, sT] ty #[.slice (some ⟨b, o, none⟩) dLen dCap, .slice (some a) sLen sCap]).run P w = .ok (goInt (Nat.min sLen dLen)) (w.setCells b o cs) := by
  have hl := run_loadCells_list (P := P) w a cs hsrc
  have hst := run_storeCells_cells (P := P) b o cs 0 w (by simpa using hc) (by simpa using hf) h1
  cases hq : P.info? elem with
  | none => simp [hq] at hs
  | some i =>
    have hi : i.size = 2 := by simpa [hq] using hs
    simp [Builtin.copy_, run_underlying hu, Builtin.lenOf, Builtin.firstCells, sizeOf, typeInfo, hq, hi, ← hn, hl, hst]
theorem wp_copy_runI (w : World) {o : Oper} {a : Act} {K : Act → World → Prop} {Q : Exit → Act → World → Prop} (d s : Operand) (t t' : TypeId)
    (ho : o.op = .call { callee := .builtin .copy, args := #[d, s], argTypes := #[t, t'] }) (v u : Value) (hd : a.eval d = v) (hs : a.eval s = u) {v' : Value} {w' : World}
    (hr : (Builtin.copy_ #[t, t'] o.type #[v, u]).run P w = .ok v' w') (h : K (a.put o.dst v') w') : o.wp P a w K Q := by
  unfold Oper.wp execOp
  simp only [ho, resolve, invoke, builtin, Sem.run_bind, Sem.run_pure, Result.andThen_ok, List.map_toArray, List.map_cons, List.map_nil, hd, hs, hr]
  exact h
theorem wpList_copy_runI (w : World) {ops : Array Oper} {rest : List Oper} {o : Oper} {a : Act} {Q : Exit → Act → World → Prop} (hgd : o.guard = none) (d s : Operand) (t t' : TypeId)
    (ho : o.op = .call { callee := .builtin .copy, args := #[d, s], argTypes := #[t, t'] }) (v u : Value) (hd : a.eval d = v) (hs : a.eval s = u) {v' : Value} {w' : World}
    (hr : (Builtin.copy_ #[t, t'] o.type #[v, u]).run P w = .ok v' w') (h : wpList P ops Q rest (a.put o.dst v') w') : wpList P ops Q (o :: rest) a w :=
  wpList_plain hgd fun _ hK => wp_copy_runI w d s t t' ho v u hd hs hr (hK _ _ h)
theorem step_copy_runI {ops : Array Oper} {o : Oper} {a : Act} {w : World} {K : Act → World → Prop} {Q : Exit → Act → World → Prop} {E : Prop}
    (hg : o.guard = none) (d x : Operand) (dT sT : TypeId) (hop : o.op = Op.call { callee := Callee.builtin Builtin.copy, args := #[d, x], argTypes := #[dT, sT] })
    (v u : Value) (hd : a.eval d = v) (hx : a.eval x = u) {v' : Value} {w' : World} (hr : (Builtin.copy_ #[dT, sT] o.type #[v, u]).run P w = .ok v' w') (hK : K (a.put o.dst v') w') :
    if Region.wanted o (yielded ops a.tmps) = true then Oper.wp P o a w K Q else E := by
  have hw : Region.wanted o (yielded ops a.tmps) = true := by simp [Region.wanted, hg]
  rw [if_pos hw]
  unfold Oper.wp
  simp [execOp, hop, resolve, invoke, builtin, hd, hx, hr, Result.andThen]
  exact hK
end
theorem size36 : (Try.prog.info? 36).map (·.size) = some 2 := by kernel_rfl
theorem sizeOf36 (w : World) : (Go.sizeOf 36).run Try.prog w = .ok 2 w := by kernel_rfl
/-- what Insert leaves -/
def InsP (w : World) (v : Value) (l' : List LP) (e : Ending) (w' : World) : Prop := ∃ v', e = .returned v' ∧ (v'.ownBlock = v.ownBlock ∨ ∃ k, v'.ownBlock = some k ∧ w.heap.size ≤ k) ∧ RowP w' v' l' ∧ Chg (fun k => v.ownBlock = some k) w w'
theorem cells_one {l : List LP} : ∀ u ∈ lpCells l, u.oneCell' = true := by
  intro u hu
  simp only [lpCells, List.mem_flatMap] at hu
  obtain ⟨p, _, hp⟩ := hu
  simp only [LP.cells, List.mem_cons, List.not_mem_nil, or_false] at hp
  rcases hp with rfl | rfl <;> rfl
set_option maxRecDepth 20000 in
set_option maxHeartbeats 2000000 in
theorem ins_end (v : Value) (l : List LP) (p : LP) (hb : Nat) (w : World) (h : RowP w v l) (hv : ∃ g c, v = .slice (some ⟨g, 0, none⟩) l.length c) (hp : Blk w hb 36 #[.int .i64 p.pk.num, .slice p.A p.pk.bytes.length p.c]) (hl : l.length ≤ 1000000) :
    Calls Try.prog 44 #[v, .int .i64 l.length, .slice (some ⟨hb, 0, none⟩) 1 1] w (InsP w v (l ++ [p])) := by
  obtain ⟨g, c, rfl⟩ := hv
  obtain ⟨i0, hi, hz0, hz1, hz2⟩ := info_parts info36
  have hrd : Reads w w.heap.size 2 (some ⟨hb, 0, none⟩) 1 [.int .i64 p.pk.num, .slice p.A p.pk.bytes.length p.c] := by
    refine ⟨rfl, fun _ => ⟨_, rfl, hp.lt, fun j u hu => ?_⟩⟩
    have e : (⟨hb, 0, none⟩ : Addr).add j = ⟨hb, j, none⟩ := by unfold Addr.add; split <;> simp_all
    rw [e, hp.cell]
    simpa using hu
  have HRD := Lib.hid hrd
  have H := Lib.hid h
  have hlc : (l.length : Int) ≤ (c : Int) := by
    obtain ⟨A, c', e, h1, _⟩ := own_form h
    injection e with _ _ e
    omega
  clear h hp hrd
  go_enter Try.func44, Try.ntmps44
  go_wp2_with (at_builtin; refine wpList_append_any _ rfl (.tmp 23) (.tmp 24) 39 rfl 0 36 i0 _ 2 32 Try.underlying39 hi hz0 hz1 hz2 rfl (by decide) _ l.length (lpCells l) rfl H.out _ _ _ _ _ rfl HRD.out (two_one _ _ _ _) (by simp only [maxLen]; omega) (by omega) (by omega) ?_; intro v1 w1 hown hgrow hv1; have HO := Lib.hid hown; have HG := Lib.hid hgrow; have HV := Lib.hid hv1; clear hown hgrow hv1)
  all_goals
    go_ret
    exact ⟨_, rfl, HV.out.imp id (fun e => ⟨_, e, Nat.le_refl _⟩), row_snoc HO.out, Chg.of_grown HG.out (fun k hk => hk)⟩
theorem shape_blk {w : World} {g : Nat} {t : TypeId} {cs : Array Value} (h : Blk w g t cs) : w.shape? g = some (t, cs.size) := by
  unfold World.shape?
  rw [show w.heap[g]? = some (.cells cs t (0, 0)) from h]
theorem ins_list {cur cs R : List Value} {a b : Value} {k N : Nat} (hk : k + 2 ≤ cur.length) (hN : N = k + 2 + cs.length) :
    List.take N (List.take k (List.take (k + 2) cur ++ cs ++ R) ++ [a, b] ++ List.drop (k + 2) (List.take (k + 2) cur ++ cs ++ R)) = List.take k cur ++ [a, b] ++ cs := by
  have hX : (List.take (k + 2) cur).length = k + 2 := by rw [List.length_take]; omega
  have e1 : List.take k (List.take (k + 2) cur ++ cs ++ R) = List.take k cur := by
    rw [List.append_assoc, List.take_append_of_le_length (by omega), List.take_take, Nat.min_eq_left (by omega)]
  have e2 : List.drop (k + 2) (List.take (k + 2) cur ++ cs ++ R) = cs ++ R := by
    rw [List.append_assoc]
    exact List.drop_left' hX
  rw [e1, e2, ← List.append_assoc]
  have hl : (List.take k cur ++ [a, b] ++ cs).length = N := by simp; omega
  rw [← hl, List.take_left]
theorem lpCells_ins (l : List LP) (p : LP) (i : Nat) : lpCells (l.take i ++ [p] ++ l.drop i) = (lpCells l).take (i * 2) ++ [.int .i64 p.pk.num, .slice p.A p.pk.bytes.length p.c] ++ (lpCells l).drop (i * 2) := by
  rw [lpCells_app, lpCells_app, lpCells_take, lpCells_drop]
  simp [lpCells, LP.cells, LP.val]
set_option maxRecDepth 20000 in
set_option maxHeartbeats 4000000 in
theorem ins_mid (v : Value) (l : List LP) (p : LP) (hb i : Nat) (w : World) (h : RowP w v l) (hi : i < l.length) (hv : ∃ g c, v = .slice (some ⟨g, 0, none⟩) l.length c ∧ l.length + 1 ≤ c) (hp : Blk w hb 36 #[.int .i64 p.pk.num, .slice p.A p.pk.bytes.length p.c]) (hne : v.ownBlock ≠ some hb) (hl : l.length ≤ 1000000) :
    Calls Try.prog 44 #[v, .int .i64 i, .slice (some ⟨hb, 0, none⟩) 1 1] w (InsP w v (l.take i ++ [p] ++ l.drop i)) := by
  obtain ⟨g0, c0, hv0, hroom⟩ := hv
  rcases h.2 with ⟨_, h0⟩ | ⟨g, cap, cur, hv1, _, hg, hnc, hcm, hcs, htk⟩
  · omega
  · rw [hv0] at hv1
    injection hv1 with e1 e2 e3
    injection e1 with e1
    injection e1 with e1
    subst e1 e3
    subst hv0
    simp only [maxLen] at hcm
    have hgb : hb ≠ g0 := fun e => hne (by subst e; simp [Value.ownBlock])
    have hB : Blk w g0 36 cur := hg
    have hcl0 : lpCells l = cur.toList.take (l.length * 2) := htk.symm
    obtain ⟨n, hn⟩ : ∃ n, n = l.length := ⟨_, rfl⟩
    obtain ⟨cs, HCS⟩ : ∃ cs, Hid (cs = (lpCells l).drop (i * 2)) := ⟨_, Lib.hid rfl⟩
    have hdl : cs.length = (n - i) * 2 := by rw [HCS.out, List.length_drop, lpCells_len]; omega
    have hcell : ∀ j u, cs[j]? = some u → w.cell? ⟨g0, i * 2 + j, none⟩ = some u := fun j u hu => by
      rw [hB.cell]
      rw [HCS.out, List.getElem?_drop, hcl0, List.getElem?_take] at hu
      split at hu
      · rw [Array.getElem?_toList] at hu; exact hu
      · cases hu
    have ad : ∀ b o j, (⟨b, o, none⟩ : Addr).add j = ⟨b, o + j, none⟩ := fun b o j => by unfold Addr.add; split <;> simp_all
    have hone : ∀ u ∈ cs, u.oneCell' = true := fun u hu => cells_one u (by rw [HCS.out] at hu; exact List.mem_of_mem_drop hu)
    have hov : ∀ lb cb, (callFunc 49 #[.slice (some ⟨hb, 0, none⟩) 1 1, .slice (some ⟨g0, (i + 1) * 2, none⟩) lb cb]).run Try.prog w = .ok (.value (.bool false)) w := fun lb cb => by
      rw [run_callFunc_extern Try.func49 (by kernel_rfl) (by kernel_rfl) (by kernel_rfl) (e := Extern.SlicesOverlaps.overlaps #[39, 39] #[4]) (by kernel_rfl),
        Lib.run_overlaps_apart w 39 4 36 Try.underlying39 2 sizeOf36 ⟨hb, 0, none⟩ ⟨g0, (i + 1) * 2, none⟩ 1 1 lb cb hgb 36 36 2 (c0 * 2) (shape_blk hp) (by rw [← hcs]; exact shape_blk hB) (by omega) (hp.frozen 0) (hp.frozen 2)]
      rfl
    have hcp1 : ∀ ty dl dc sl sc, Nat.min sl dl = n - i → (Builtin.copy_ #[39, 39] ty #[.slice (some ⟨g0, (i + 1) * 2, none⟩) dl dc, .slice (some ⟨g0, i * 2, none⟩) sl sc]).run Try.prog w.drew = .ok (goInt (n - i : Nat)) (w.drew.setCells g0 ((i + 1) * 2) cs) := fun ty dl dc sl sc e => by
      have := run_copy_two (P := Try.prog) w.drew 39 39 ty 36 g0 ((i + 1) * 2) dl dc ⟨g0, i * 2, none⟩ sl sc cs Try.underlying39 size36 (by rw [e]; exact hdl)
        (fun j u hj => by rw [ad]; exact hcell j u hj) (fun j hj => by show (w.cell? _).isSome = true; rw [hB.cell, Array.getElem?_eq_getElem (by omega)]; rfl) (fun j _ => hB.frozen _) hone
      rw [e] at this
      exact this
    have hB1 : Blk (w.drew.setCells g0 ((i + 1) * 2) cs) g0 36 (laid cur ((i + 1) * 2) cs) := Blk.setCells cs _ _ _ hB.drew (by omega)
    have hls : (laid cur ((i + 1) * 2) cs).size = c0 * 2 := by rw [laid_size _ _ _ (by omega)]; exact hcs
    have HC1 : Hid (Chg (fun k => some g0 = some k) w (w.drew.setCells g0 ((i + 1) * 2) cs)) := Lib.hid (Chg.setCells (F := fun k => some g0 = some k) (Chg.refl (fun k => some g0 = some k) w).drew rfl cs _)
    have hp1 : Blk (w.drew.setCells g0 ((i + 1) * 2) cs) hb 36 #[.int .i64 p.pk.num, .slice p.A p.pk.bytes.length p.c] := HC1.out.blk hp (by intro e; injection e with e; exact hgb e.symm)
    obtain ⟨W1, hW1⟩ : ∃ W1, W1 = w.drew.setCells g0 ((i + 1) * 2) cs := ⟨_, rfl⟩
    rw [← hW1] at hcp1 hB1 HC1 hp1
    have hcp2 : ∀ ty dl dc, Nat.min 1 dl = 1 → (Builtin.copy_ #[39, 39] ty #[.slice (some ⟨g0, i * 2, none⟩) dl dc, .slice (some ⟨hb, 0, none⟩) 1 1]).run Try.prog W1 = .ok (goInt (1 : Nat)) (W1.setCells g0 (i * 2) [.int .i64 p.pk.num, .slice p.A p.pk.bytes.length p.c]) := fun ty dl dc e => by
      have := run_copy_two (P := Try.prog) W1 39 39 ty 36 g0 (i * 2) dl dc ⟨hb, 0, none⟩ 1 1 [.int .i64 p.pk.num, .slice p.A p.pk.bytes.length p.c] Try.underlying39 size36 (by rw [e]; rfl)
        (fun j u hj => by rw [ad, Nat.zero_add, hp1.cell]; simpa using hj) (fun j hj => by rw [hB1.cell, Array.getElem?_eq_getElem (by rw [hls]; simp at hj; omega)]; rfl) (fun j _ => hB1.frozen _) (two_one _ _ _ _)
      rw [e] at this
      exact this
    have HFIN : Hid (InsP w (.slice (some ⟨g0, 0, none⟩) l.length c0) (l.take i ++ [p] ++ l.drop i) (.returned (.slice (some ⟨g0, 0, none⟩) (n + 1) c0)) (W1.setCells g0 (i * 2) [.int .i64 p.pk.num, .slice p.A p.pk.bytes.length p.c])) := Lib.hid (by
      have hlen : (l.take i ++ [p] ++ l.drop i).length = n + 1 := by simp; omega
      have hB2 := Blk.setCells [.int .i64 p.pk.num, .slice p.A p.pk.bytes.length p.c] (i * 2) W1 _ hB1 (by rw [hls]; simp; omega)
      refine ⟨_, rfl, .inl rfl, ⟨by rw [lpCells_len], .inr ⟨g0, c0, _, by rw [hlen], Nat.zero_le _, hB2, by omega, by simp only [maxLen]; omega, by rw [laid_size _ _ _ (by rw [hls]; simp; omega)]; exact hls, ?_⟩⟩, HC1.out.setCells (F := fun k => some g0 = some k) rfl _ _⟩
      rw [hlen, lpCells_ins, ← HCS.out, hcl0, List.take_take, Nat.min_eq_left (by omega)]
      simp only [laid]
      rw [show (i + 1) * 2 = i * 2 + 2 from by omega]
      exact ins_list (by rw [Array.length_toList]; omega) (by omega))
    have HN := Lib.hid hn
    have d1 : (i : Int) ≤ (l.length : Int) := by omega
    have d2 : ((i : Int) == (l.length : Int)) = false := by rw [beq_eq_false_iff_ne]; omega
    have d3 : ¬ (c0 : Int) < (l.length : Int) + 1 := by omega
    have d4 : (i : Int) + 1 ≤ (l.length : Int) + 1 := by omega
    have d5 : (i : Int) ≤ (l.length : Int) + 1 := by omega
    have d6 : ¬ c0 = i := by omega
    have d7 : ¬ c0 = i + 1 := by omega
    have d8 : (l.length : Int) + 1 ≤ (c0 : Int) := by omega
    rw [hn] at hcp1 HFIN
    have HW1 := Lib.hid hW1
    clear hW1 hB1 hls hcl0 hdl hcs htk hg hB h hn hp1 hp hcell hone hne ad
    go_enter Try.func44, Try.ntmps44
    go_wp2_with (simp only [hov])
    have HC1' := Lib.hid hcp1
    have HC2' := Lib.hid hcp2
    clear hcp1 hcp2 hov
    have w1 : IntKind.i64.wrap ((i : Int) + 1) = (i : Int) + 1 := by rw [IntKind.wrap_i64]; omega
    have w2 : (0 : Int) ≤ (i : Int) + 1 := by omega
    have w3 : ((i : Int) + 1).toNat = i + 1 := by omega
    have HCA := Lib.hid (HC1'.out 3 (l.length - i) (c0 - (i + 1)) (l.length + 1 - i) (c0 - i) (by simp only [Nat.min_def]; split <;> omega))
    go_region_law (refine step_copy_runI rfl (.tmp 73) (.tmp 76) 39 39 rfl (.slice (some ⟨g0, (i + 1) * 2, none⟩) (l.length - i) (c0 - (i + 1))) (.slice (some ⟨g0, i * 2, none⟩) (l.length + 1 - i) (c0 - i)) (by simp [Act.eval, Act.put]) (by simp [Act.eval, Act.put]) HCA.out ?_)
    have HCB := Lib.hid (HC2'.out 3 (l.length + 1 - i) (c0 - i) (by simp only [Nat.min_def]; split <;> omega))
    go_wp2_with (with_reducible refine wpList_copy_runI _ rfl (.tmp 80) (.tmp 81) 39 39 rfl (.slice (some ⟨g0, i * 2, none⟩) (l.length + 1 - i) (c0 - i)) (.slice (some ⟨hb, 0, none⟩) 1 1) rfl rfl HCB.out ?_)
    go_ret
    exact HFIN.out
end Go.Proofs.Ytbkgphmocjjmmaa
