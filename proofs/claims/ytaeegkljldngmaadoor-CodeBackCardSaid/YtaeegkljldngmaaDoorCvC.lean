/-
  The verifier turned: a fault, a depth; blame f40, hand f49. No statement of the seat is proved here.
-/
import Derived.Test.YtaeegkljldngmaaDoorCvA
namespace Go.Proofs.YtaeegkljldngmaaDoor
open Go.RowKit

theorem map_blk_ne {W : World} {q : IntKind} {mb k : Nat} {f : List (Int × Value)} (h : MapI q W mb f) {t : TypeId} {cs : Array Value} (hb : Blk W k t cs) : k ≠ mb := by
  rintro rfl
  unfold MapI at h
  unfold Blk at hb
  rw [h] at hb; cases hb
theorem map_own_ne {W : World} {q : IntKind} {mb base n size : Nat} {e : TypeId} {v : Value} {xs : List Value} {f : List (Int × Value)} (h : MapI q W mb f) (ho : W.ownsRow base e size v n xs) : v.ownBlock ≠ some mb := by
  intro hk
  rcases ho.2 with ⟨rfl, _⟩ | ⟨g, cap, cur, rfl, _, hg, _⟩
  · cases hk
  · have e : g = mb := by simpa [Value.ownBlock] using hk
    exact map_blk_ne h (show Blk W g _ cur from hg) e
section
variable {W W' : World} {base : Nat} {K : VK} {D D' : VD} {F : Nat → Prop}
/-- what stays where the shape's, the instructions' and the map's blocks stay -/
theorem VM.turn (h : VM base K D W) (hc : Chg F W W') (hB : base ≤ W.heap.size) (hF : ∀ k, F k → base ≤ k) (hl : ∀ k, K.lv.ownBlock = some k → ¬ F k) (hp : ∀ k, K.pv.ownBlock = some k → ¬ F k) (hm : ¬ F K.mb)
    (blk : Blk W' K.g 82 (verC K D')) (rgs : W'.ownsRow base 88 6 D'.rv D'.rs.length (rgC D'.rs D'.sv)) (oft : OwnZ W' base D'.ov (natZ D'.of)) (bdy : OwnZ W' base D'.bv D'.body) (dps : OwnZ W' base D'.dv D'.dp) (stl : D'.sv.length = D'.rs.length)
    (sts : ∀ (k : Nat) (x : Rg) (v : Value), D'.rs[k]? = some x → D'.sv[k]? = some v → OwnZ W' base v (natZ x.steps)) (sep : (D'.rows K.pv).Pairwise apart) : VM base K D' W' :=
  ⟨blk, h.lit.keep fun p hp => World.cell?_of_block (hc.block p.block (by omega) fun e => by have := hF _ e; omega), own_chg h.ins hc hl, own_chg h.pls hc hp, h.mp.keep (hc.block _ h.mp.lt hm), rgs, oft, bdy, dps, stl, sts, sep, h.geg, h.gem⟩
theorem VM.row (h : VM base K D W) {v : Value} (hv : v ∈ D.rows K.pv) : ∃ (n : Nat) (xs : List Value), W.ownsRow base 3 1 v n xs := by
  simp only [VD.rows, List.mem_cons] at hv
  rcases hv with rfl | rfl | rfl | rfl | hv
  · exact ⟨_, _, h.pls⟩
  · exact ⟨_, _, h.oft⟩
  · exact ⟨_, _, h.bdy⟩
  · exact ⟨_, _, h.dps⟩
  · obtain ⟨i, hi⟩ := List.getElem?_of_mem hv
    have h1 := (List.getElem?_eq_some_iff.1 hi).1
    have h2 : i < D.rs.length := by rw [← h.stl]; exact h1
    exact ⟨_, _, h.sts i _ v (List.getElem?_eq_getElem h2) hi⟩
/-- the fault is written -/
theorem VM.fault (h : VM base K D W) (hB : base ≤ W.heap.size) (z : Int) : VM base K { D with fault := z } (W.setCell ⟨K.g, 12, none⟩ (.int .i64 z)) ∧ Chg (VB K D) W (W.setCell ⟨K.g, 12, none⟩ (.int .i64 z)) := by
  have hc : Chg (· = K.g) W (W.setCell ⟨K.g, 12, none⟩ (.int .i64 z)) := (Chg.refl (· = K.g) W).setCell (p := ⟨K.g, 12, none⟩) (fun _ => rfl) _
  have hn : ∀ {e : TypeId} {n s : Nat} {v : Value} {xs : List Value}, W.ownsRow base e s v n xs → e ≠ 82 → ∀ k, v.ownBlock = some k → ¬ k = K.g := fun ho he k hk e => own_blk_ne ho h.blk he (by rw [hk, e])
  refine ⟨h.turn (D' := { D with fault := z }) hc hB (fun k e => by rw [e]; exact h.geg) (hn h.ins (by decide)) (hn h.pls (by decide)) (fun e => map_blk_ne h.mp h.blk e.symm) (h.blk.set_ 12 _) (own_chg h.rgs hc (hn h.rgs (by decide)))
    (own_chg h.oft hc (hn h.oft (by decide))) (own_chg h.bdy hc (hn h.bdy (by decide))) (own_chg h.dps hc (hn h.dps (by decide))) h.stl (fun k x v h1 h2 => own_chg (h.sts k x v h1 h2) hc (hn (h.sts k x v h1 h2) (by decide))) h.sep,
    hc.mono fun k _ e => .inl e⟩
theorem pairwise_at {α : Type} {R : α → α → Prop} {l : List α} (h : l.Pairwise R) {i j : Nat} (hij : i < j) {a b : α} (ha : l[i]? = some a) (hb : l[j]? = some b) : R a b := by
  obtain ⟨h1, rfl⟩ := List.getElem?_eq_some_iff.1 ha
  obtain ⟨h2, rfl⟩ := List.getElem?_eq_some_iff.1 hb
  exact List.pairwise_iff_getElem.1 h i j h1 h2 hij
theorem apart_symm {a b : Value} (h : apart a b) : apart b a := fun k hk hk' => h k hk' hk
/-- a row of the verifier is apart from the others -/
theorem VM.apart_of (h : VM base K D W) {i j : Nat} (hij : i ≠ j) {a b : Value} (ha : (D.rows K.pv)[i]? = some a) (hb : (D.rows K.pv)[j]? = some b) : apart a b := by
  rcases Nat.lt_or_gt_of_ne hij with h1 | h1
  · exact pairwise_at h.sep h1 ha hb
  · exact apart_symm (pairwise_at h.sep h1 hb ha)
/-- a depth is written -/
theorem VM.setdp (h : VM base K D W) (hB : base ≤ W.heap.size) {b c : Nat} (hd : D.dv = .slice (some ⟨b, 0, none⟩) D.dp.length c) (i : Nat) (d : Int) :
    VM base K { D with dp := D.dp.set i d } (W.setCell ⟨b, i, none⟩ (.int .i64 d)) ∧ Chg (VB K D) W (W.setCell ⟨b, i, none⟩ (.int .i64 d)) := by
  have hb : D.dv.ownBlock = some b := by rw [hd]; simp [Value.ownBlock]
  have hc : Chg (· = b) W (W.setCell ⟨b, i, none⟩ (.int .i64 d)) := (Chg.refl (· = b) W).setCell (p := ⟨b, i, none⟩) (fun _ => rfl) _
  have hn : ∀ {e : TypeId} {n s : Nat} {v : Value} {xs : List Value}, W.ownsRow base e s v n xs → e ≠ 3 → ∀ k, v.ownBlock = some k → ¬ k = b := fun ho he k hk e => own_apart ho h.dps he k hk (by rw [hb, e])
  have h3 : ∀ {v : Value} {j : Nat}, (D.rows K.pv)[j]? = some v → j ≠ 3 → ∀ k, v.ownBlock = some k → ¬ k = b := fun hv hj k hk e => h.apart_of hj hv (show (D.rows K.pv)[3]? = some D.dv from rfl) k hk (by rw [hb, e])
  have hdp := h.dps
  unfold OwnZ at hdp
  rw [hd] at hdp
  refine ⟨h.turn (D' := { D with dp := D.dp.set i d }) hc hB (fun k e => by subst e; exact (World.ownsRow.lt h.dps _ hb).1) (hn h.ins (by decide)) (h3 (j := 0) rfl (by decide)) (fun e => map_own_ne h.mp h.dps (by rw [hb, e])) ?_ (own_chg h.rgs hc (hn h.rgs (by decide)))
    (own_chg h.oft hc (h3 (j := 1) rfl (by decide))) (own_chg h.bdy hc (h3 (j := 2) rfl (by decide))) ?_ h.stl (fun k x v h1 h2 => own_chg (h.sts k x v h1 h2) hc (h3 (j := 4 + k) ?_ (by omega))) h.sep,
    hc.mono fun k _ e => .inr (.inr (.inr (.inr ⟨D.dv, by simp [VD.rows], by rw [hb, e]⟩)))⟩
  · exact hc.blk h.blk fun e => own_blk_ne h.dps h.blk (by decide) (by rw [hb, e])
  · have := (World.ownsRow.stored hdp i (.int .i64 d)).1
    show World.ownsRow _ _ _ _ D.dv (D.dp.set i d).length ((D.dp.set i d).map iv)
    rw [List.length_set, hd, List.map_set]
    exact this
  · simp only [VD.rows]
    rw [show 4 + k = k + 1 + 1 + 1 + 1 by omega]
    simpa using h2
theorem VM.dform (h : VM base K D W) (hn : 0 < D.dp.length) : ∃ b c, D.dv = .slice (some ⟨b, 0, none⟩) D.dp.length c := by
  obtain ⟨b, c, e1, _⟩ := own_at h.dps hn
  exact ⟨b, c, e1⟩
theorem VM.dcell (h : VM base K D W) {b c : Nat} (hd : D.dv = .slice (some ⟨b, 0, none⟩) D.dp.length c) {i : Nat} (hi : i < D.dp.length) :
    W.cell? ⟨K.g, 11, none⟩ = some (.slice (some ⟨b, 0, none⟩) D.dp.length c) ∧ W.cell? ⟨b, i, none⟩ = some (.int .i64 (D.dp.getD i 0)) ∧ W.frozen? ⟨b, i, none⟩ = false := by
  have h1 := h.dps
  unfold OwnZ at h1
  rw [hd] at h1
  refine ⟨by rw [← hd]; exact h.blk.cell 11, ?_, World.ownsRow.frozenAt h1 i⟩
  rw [World.ownsRow.cellAt h1 i (by omega), List.getD_eq_getElem?_getD, List.getElem?_map]
  rw [List.getElem?_eq_getElem hi]
  rfl
end
/-- what a mutator leaves: the verifier turned, its own blocks alone changed -/
def VP (base : Nat) (K : VK) (D D' : VD) (W w' : World) : Prop := VM base K D' w' ∧ Chg (VB K D) W w'
theorem VP.drewN {base : Nat} {K : VK} {D D' : VD} {W w' : World} (h : VP base K D D' W w') (n : Nat) : VP base K D D' W (w'.drewN n) := ⟨h.1.drewN n, ⟨h.2.os, h.2.tape, h.2.output, h.2.size, h.2.block⟩⟩
theorem VP.refl {base : Nat} {K : VK} {D : VD} {W : World} (h : VM base K D W) : VP base K D D W W := ⟨h, Chg.refl _ _⟩
set_option maxRecDepth 100000 in
set_option maxHeartbeats 2000000 in
theorem blame_any {base : Nat} {K : VK} {D : VD} {W : World} (h : VM base K D W) (hB : base ≤ W.heap.size) (i : Nat) (hi : i < K.l.length) (hlen : K.l.length ≤ 32767) :
    Calls Tryd.prog 33 #[.pointer (some ⟨K.g, 0, none⟩), .int .i64 (i : Int)] W fun e w' => e = .returned (.tuple #[]) ∧ VP base K D { D with fault := lower D.fault (pl K.l i) } W w' := by
  obtain ⟨pb, pc, lb, lc, hp, hl⟩ := h.forms (by omega)
  obtain ⟨c5, cp⟩ := h.pcell hp hi
  have c12 : W.cell? ⟨K.g, 12, none⟩ = some (.int .i64 D.fault) := h.blk.cell 12
  have f12 : W.frozen? ⟨K.g, 12, none⟩ = false := h.blk.frozen 12
  have hg := h.blk.lt
  have l1 : (0 : Int) ≤ (i : Int) := by omega
  have l2 : (i : Int) < (K.l.length : Int) := by omega
  have HF := Lib.hid (h.fault hB)
  have HR := Lib.hid (VP.refl h)
  have HL : Hid (lower D.fault (pl K.l i) = if D.fault < 0 ∨ (pl K.l i : Int) < D.fault then (pl K.l i : Int) else D.fault) := Lib.hid rfl
  have HD : Hid (D = { D with fault := D.fault }) := Lib.hid rfl
  clear h
  generalize hFL : lower D.fault (pl K.l i) = fl at *
  clear hFL
  generalize hft : D.fault = ft at *
  by_cases h0 : ft < 0
  · have HE : Hid (fl = (pl K.l i : Int)) := Lib.hid (by rw [HL.out, if_pos (.inl h0)])
    clear HL hl hp
    generalize pl K.l i = p at *
    generalize K.l.length = n at *
    clear hft HD
    go_enter Tryd.func33, Tryd.ntmps33
    go_wp2
    go_quiet (fail)
    go_wp2
    go_end0
    exact ⟨rfl, by rw [HE.out]; exact VP.drewN (HF.out _) _⟩
  · by_cases h1 : (pl K.l i : Int) < ft
    · have HE : Hid (fl = (pl K.l i : Int)) := Lib.hid (by rw [HL.out, if_pos (.inr h1)])
      have d0 : decide (ft < 0) = false := by simpa using h0
      have d1 : decide ((pl K.l i : Int) < ft) = true := by simpa using h1
      clear HL hl hp
      generalize pl K.l i = p at *
      generalize K.l.length = n at *
      clear hft HD
      go_enter Tryd.func33, Tryd.ntmps33
      go_wp2
      go_quiet (fail)
      go_wp2
      go_end0
      exact ⟨rfl, by rw [HE.out]; exact VP.drewN (HF.out _) _⟩
    · have HE : Hid (fl = ft) := Lib.hid (by rw [HL.out, if_neg (by omega)])
      have d0 : decide (ft < 0) = false := by simpa using h0
      have d1 : decide ((pl K.l i : Int) < ft) = false := by simpa using h1
      have HR2 : Hid (VP base K D { D with fault := ft } W W) := Lib.hid (by
        have e : ({ D with fault := ft } : VD) = D := by rw [← hft]
        rw [e]
        exact HR.out)
      clear HL hl hp
      generalize pl K.l i = p at *
      generalize K.l.length = n at *
      clear hft HD
      go_enter Tryd.func33, Tryd.ntmps33
      go_wp2
      go_quiet (fail)
      go_wp2
      go_end0
      exact ⟨rfl, by rw [HE.out]; exact VP.drewN HR2.out _⟩
theorem VP.trans {base : Nat} {K : VK} {D D1 D2 : VD} {W w1 w2 : World} (h : VP base K D D1 W w1) (k : VP base K D1 D2 w1 w2) (hs : ∀ k, VB K D1 k → VB K D k) : VP base K D D2 W w2 :=
  ⟨k.1, h.2.trans k.2 fun i _ hi => hs i hi⟩
/-- a depth handed on -/
def handD (l : List Ins) (i : Nat) (d : Int) (D : VD) : VD :=
  if D.dp.getD i 0 < 0 then { D with dp := D.dp.set i d } else if D.dp.getD i 0 = d then D else { D with fault := lower D.fault (pl l i) }
set_option maxRecDepth 100000 in
set_option maxHeartbeats 2000000 in
theorem hand_any {base : Nat} {K : VK} {D : VD} {W : World} (h : VM base K D W) (hB : base ≤ W.heap.size) (i : Nat) (hi : i < K.l.length) (hlen : K.l.length ≤ 32767) (hdl : D.dp.length = K.l.length) (d : Int) :
    Calls Tryd.prog 45 #[.pointer (some ⟨K.g, 0, none⟩), .int .i64 (i : Int), .int .i64 d] W fun e w' => e = .returned (.bool (decide (D.dp.getD i 0 < 0))) ∧ VP base K D (handD K.l i d D) W w' := by
  obtain ⟨b, c, hd⟩ := h.dform (by omega)
  obtain ⟨c11, cd, fd⟩ := h.dcell hd (i := i) (by omega)
  have hg := h.blk.lt
  have hbl := (World.ownsRow.lt h.dps b (by rw [hd]; simp [Value.ownBlock])).2
  have l1 : (0 : Int) ≤ (i : Int) := by omega
  have l2 : (i : Int) < (D.dp.length : Int) := by omega
  have hdlen : D.dp.length ≤ 32767 := by omega
  have HS := Lib.hid (h.setdp hB hd i d)
  have HBL := Lib.hid (blame_any h hB i hi hlen)
  have HR := Lib.hid (VP.refl h)
  have HH : Hid (handD K.l i d D = if D.dp.getD i 0 < 0 then { D with dp := D.dp.set i d } else if D.dp.getD i 0 = d then D else { D with fault := lower D.fault (pl K.l i) }) := Lib.hid rfl
  generalize hHD : handD K.l i d D = HDv at *
  clear hHD h
  generalize hx : D.dp.getD i 0 = x at *
  generalize hn : D.dp.length = n at *
  by_cases h0 : x < 0
  · have HE : Hid (HDv = { D with dp := D.dp.set i d }) := Lib.hid (by rw [HH.out, if_pos h0])
    clear HH hx hn hd hi hdl
    go_enter Tryd.func45, Tryd.ntmps45
    go_wp2
    go_ret
    exact ⟨ret_bool (by simp [h0]), by rw [HE.out]; exact HS.out⟩
  · by_cases h1 : x = d
    · have HE : Hid (HDv = D) := Lib.hid (by rw [HH.out, if_neg h0, if_pos h1])
      subst h1
      clear HH hx hn hd hi hdl
      go_enter Tryd.func45, Tryd.ntmps45
      go_wp2
      go_ret
      exact ⟨ret_bool (by simp [h0]), by rw [HE.out]; exact HR.out⟩
    · have HE : Hid (HDv = { D with fault := lower D.fault (pl K.l i) }) := Lib.hid (by rw [HH.out, if_neg h0, if_neg h1])
      have d1 : (x != d) = true := by simpa using h1
      clear HH hx hn hd hi hdl
      go_enter Tryd.func45, Tryd.ntmps45
      go_wp2_with (go_at_call 33; refine HBL.out.mono ?_; rintro e w1 ⟨rfl, hv⟩; have HV := Lib.hid hv; clear hv)
      go_ret
      exact ⟨ret_bool (by simp [h0]), by rw [HE.out]; exact HV.out⟩
end Go.Proofs.YtaeegkljldngmaaDoor
