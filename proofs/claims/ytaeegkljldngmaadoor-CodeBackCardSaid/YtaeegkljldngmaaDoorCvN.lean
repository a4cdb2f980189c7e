/-
  The verifier while it is made; split f36 and ends f38 where there is no instruction. No statement of the seat is proved here.
-/
import Derived.Test.YtaeegkljldngmaaDoorCvS
import Derived.Test.YtaeegkljldngmaaDoorPlV
import Derived.Test.YtaeegkljldngmaaDoorCvL
namespace Go.Proofs.YtaeegkljldngmaaDoor
open Go.RowKit

/-- the verifier ahead of its first step -/
def VD0 (dv : Value) (k : Nat) : VD := ⟨.slice none 0 0, [], [], .slice none 0 0, [], .slice none 0 0, [], dv, List.replicate k (-1), -1⟩
/-- while the places are noted -/
structure VM0 (base : Nat) (K : VK) (dv : Value) (k : Nat) (W0 W : World) : Prop where
  blk : Blk W K.g 82 (verC K (VD0 dv k))
  lit : Reads W base 1 K.LA K.s.lits.length (K.s.lits.map iv)
  ins : OwnIn W base K.lv K.l
  pls : OwnZ W base K.pv (plsL K.l)
  mp : MapI .i64 W K.mb (atL K.l k)
  dps : OwnZ W base dv (List.replicate k (-1))
  sep : apart K.pv dv
  old : Below base W0 W
  geg : base ≤ K.g
  gem : base ≤ K.mb
theorem VM0.vm {base : Nat} {K : VK} {dv : Value} {W0 W : World} (h : VM0 base K dv K.l.length W0 W) : VM base K (VD0 dv K.l.length) W := by
  refine ⟨h.blk, h.lit, h.ins, h.pls, h.mp, World.ownsRow_nil _ _ _ _, World.ownsRow_nil _ _ _ _, World.ownsRow_nil _ _ _ _, h.dps, rfl, fun k x v hx => by simp [VD0] at hx, ?_, h.geg, h.gem⟩
  have hn : ∀ v, apart (.slice none 0 0) v := fun v k hk => by simp [Value.ownBlock] at hk
  have hn2 : ∀ v, apart v (.slice none 0 0) := fun v k _ hk => by simp [Value.ownBlock] at hk
  simp only [VD.rows, VD0, List.pairwise_cons, List.mem_cons, List.not_mem_nil, or_false, forall_eq_or_imp, forall_eq]
  exact ⟨⟨hn2 _, hn2 _, h.sep⟩, ⟨hn _, hn _⟩, hn _, fun _ h => h.elim, List.Pairwise.nil⟩
theorem VM0.lts {base : Nat} {K : VK} {dv : Value} {k : Nat} {W0 W : World} (h : VM0 base K dv k W0 W) : K.g < W.heap.size ∧ K.mb < W.heap.size := ⟨h.blk.lt, h.mp.lt⟩
/-- a place is noted -/
theorem VM0.put {base : Nat} {K : VK} {dv : Value} {k : Nat} {W0 W : World} (h : VM0 base K dv k W0 W) {z : Int} {v : Value} : Blk (mapPut W .i64 K.mb (atL K.l k) z v) K.g 82 (verC K (VD0 dv k)) ∧ Reads (mapPut W .i64 K.mb (atL K.l k) z v) base 1 K.LA K.s.lits.length (K.s.lits.map iv) ∧
    OwnIn (mapPut W .i64 K.mb (atL K.l k) z v) base K.lv K.l ∧ OwnZ (mapPut W .i64 K.mb (atL K.l k) z v) base K.pv (plsL K.l) ∧ MapI .i64 (mapPut W .i64 K.mb (atL K.l k) z v) K.mb (atL K.l k ++ [(z, v)]) ∧ OwnZ (mapPut W .i64 K.mb (atL K.l k) z v) base dv (List.replicate k (-1)) ∧ Below base W0 (mapPut W .i64 K.mb (atL K.l k) z v) := by
  have keep : ∀ j, j ≠ K.mb → (mapPut W .i64 K.mb (atL K.l k) z v).heap[j]? = W.heap[j]? := fun j hj => h.mp.put_far z v hj
  have hge := h.gem
  refine ⟨(keep _ (map_blk_ne h.mp h.blk)).trans h.blk, h.lit.keep fun p hp => World.cell?_of_block (keep p.block (by omega)), own_same h.ins fun j hj => keep j fun e => map_own_ne h.mp h.ins (by rw [hj, e]), own_same h.pls fun j hj => keep j fun e => map_own_ne h.mp h.pls (by rw [hj, e]), h.mp.put z v, own_same h.dps fun j hj => keep j fun e => map_own_ne h.mp h.dps (by rw [hj, e]), ?_⟩
  exact h.old.trans ⟨rfl, rfl, rfl, by rw [mapPut_size]; exact Nat.le_refl _, fun i hi => keep i (by omega)⟩
theorem atL_succ (l : List Ins) (k : Nat) : atL l (k + 1) = atL l k ++ [((pl l k : Int), .int .i64 (k : Int))] := by simp [atL, List.range_succ]
theorem at_new {l : List Ins} (hok : ∀ x ∈ l, x.Ok) {k : Nat} (hk : k < l.length) : getI (atL l k) (pl l k : Int) = none := by
  cases h : getI (atL l k) (pl l k : Int) with
  | none => rfl
  | some v =>
    obtain ⟨p, hp, h1, _⟩ := getI_some h
    simp only [atL, List.mem_cons, List.mem_map, List.mem_range] at hp
    have := pl_lt hok hk (Nat.le_refl _)
    rcases hp with rfl | ⟨j, hj, rfl⟩
    · dsimp only at h1; omega
    · dsimp only at h1
      have := pl_lt hok hj (by omega)
      omega
/-- a depth is laid behind the others -/
theorem VM0.next {base : Nat} {K : VK} {dv v2 : Value} {k : Nat} {W0 W W2 : World} (h : VM0 base K dv k W0 W) (hB : base ≤ W.heap.size) (ho : OwnZ W2 base v2 (List.replicate k (-1) ++ [-1]))
    (ha : App ((mapPut W .i64 K.mb (atL K.l k) (pl K.l k : Int) (.int .i64 (k : Int))).alloc (.cells #[.int .i64 (-1)] 3)) dv W2 v2) : VM0 base K v2 (k + 1) W0 (W2.setCell ⟨K.g, 11, none⟩ v2) := by
  have hge := h.geg
  have hgm := h.gem
  have hgl := h.blk.lt
  have hml := h.mp.lt
  obtain ⟨p1, p2, p3, p4, p5, p6, p7⟩ := h.put (z := (pl K.l k : Int)) (v := .int .i64 (k : Int))
  rw [← atL_succ] at p5
  have hsz := mapPut_size W .i64 K.mb (atL K.l k) (pl K.l k : Int) (.int .i64 (k : Int))
  have hr := map_blk_ne h.mp h.blk
  generalize mapPut W .i64 K.mb (atL K.l k) (pl K.l k : Int) (.int .i64 (k : Int)) = W1 at *
  have q1 := p1.alloc (.cells #[.int .i64 (-1)] 3)
  have q3 := p3.alloc (.cells #[.int .i64 (-1)] 3)
  have q4 := p4.alloc (.cells #[.int .i64 (-1)] 3)
  have q6 := p6.alloc (.cells #[.int .i64 (-1)] 3)
  have q5 : MapI .i64 (W1.alloc (.cells #[.int .i64 (-1)] 3)) K.mb (atL K.l (k + 1)) := p5.keep (Below.heap_alloc _ _ _ p5.lt)
  have q7 : Below base W0 (W1.alloc (.cells #[.int .i64 (-1)] 3)) := p7.alloc (by omega) _
  have q2 : Reads (W1.alloc (.cells #[.int .i64 (-1)] 3)) base 1 K.LA K.s.lits.length (K.s.lits.map iv) := p2.keep fun p hp => ((Below.refl _ _).alloc (Nat.le_refl _) _).cell (by omega)
  have hsz2 : (W1.alloc (.cells #[.int .i64 (-1)] 3)).heap.size = W1.heap.size + 1 := (size_new _ _).symm
  generalize W1.alloc (.cells #[.int .i64 (-1)] 3) = W3 at *
  have hc := chg_app ha
  have hcb : Below base W3 W2 := hc.below (by omega) fun j hj e => by have := (World.ownsRow.lt q6 j e).1; omega
  have hng : ¬ dv.ownBlock = some K.g := own_blk_ne q6 q1 (by decide)
  have g1 := hc.blk q1 hng
  have hc2 : Chg (· = K.g) W2 (W2.setCell ⟨K.g, 11, none⟩ v2) := (Chg.refl (· = K.g) W2).setCell (p := ⟨K.g, 11, none⟩) (fun _ => rfl) _
  have hv2 : v2.ownBlock ≠ some K.g := own_blk_ne ho g1 (by decide)
  have hne : ∀ {e : TypeId} {n s : Nat} {v : Value} {xs : List Value}, W2.ownsRow base e s v n xs → e ≠ 82 → (W2.setCell ⟨K.g, 11, none⟩ v2).ownsRow base e s v n xs := fun ho he => own_chg ho hc2 fun j hj e => own_blk_ne ho g1 he (by rw [hj, e])
  have t3 : OwnIn W2 base K.lv K.l := own_chg q3 hc fun j hj e => own_apart q3 q6 (by decide) j hj e
  have t4 : OwnZ W2 base K.pv (plsL K.l) := own_chg q4 hc fun j hj e => h.sep j hj e
  have t5 : MapI .i64 W2 K.mb (atL K.l (k + 1)) := q5.keep (hc.block _ q5.lt fun e => map_own_ne q5 q6 e)
  refine ⟨?_, ?_, hne t3 (by decide), hne t4 (by decide), t5.keep (hc2.block _ t5.lt fun e => hr e.symm), ?_, ?_, ?_, hge, hgm⟩
  · have := g1.set_ 11 v2
    exact this
  · refine q2.keep fun p hp => ?_
    rw [World.cell?_of_block (hc2.block p.block (by have := hcb.size; omega) (by omega))]
    exact hcb.cell hp
  · have e : List.replicate (k + 1) (-1 : Int) = List.replicate k (-1) ++ [-1] := List.replicate_succ'
    rw [e]
    exact hne ho (by decide)
  · intro j hj e
    rcases ha.2 with h2 | ⟨b, h2, h3⟩
    · exact h.sep j hj (by rw [← h2]; exact e)
    · rw [h2] at e
      injection e with e
      subst e
      have := (World.ownsRow.lt q4 b hj).2
      omega
  · exact (q7.trans hcb).trans (hc2.below (by have := hcb.size; omega) fun j hj e => by omega)
set_option maxRecDepth 100000 in
set_option maxHeartbeats 4000000 in
theorem split_nil {base : Nat} {K : VK} {D : VD} {W : World} (h : VM base K D W) (hB : base ≤ W.heap.size) (hn : K.l = []) (hrs : D.rs = []) (hsv : D.sv = []) (hof : D.of = []) (hbo : D.body = []) :
    Calls Tryd.prog 29 #[.pointer (some ⟨K.g, 0, none⟩)] W (SplP base K D (splitF K.s K.l K.l.length 0 (sp0 K.s (pl K.l K.l.length))) W) := by
  have HR : Hid (splitF K.s K.l K.l.length 0 (sp0 K.s (pl K.l K.l.length)) = .ok (sp0 K.s (pl K.l K.l.length))) := Lib.hid (by rw [hn]; rfl)
  rw [HR.out]
  have c1 : W.cell? ⟨K.g, 1, none⟩ = some (.int .i64 K.s.temps) := h.blk.cell 1
  have c6 : W.cell? ⟨K.g, 6, none⟩ = some (.int .i64 (pl K.l K.l.length : Int)) := h.blk.cell 6
  have c8 : W.cell? ⟨K.g, 8, none⟩ = some D.rv := h.blk.cell 8
  have f8 : W.frozen? ⟨K.g, 8, none⟩ = false := h.blk.frozen 8
  have hg := h.blk.lt
  have z43 := zero34
  have HN := Lib.hid hn
  clear hn
  go_enter Tryd.func29, Tryd.ntmps29
  go_upto_region 1 with fail
  have HQ : Hid (∀ (v : Value) (o : Obj), ((W.setCell ⟨K.g, 8, none⟩ v).alloc o).drew.cell? ⟨K.g, 1, none⟩ = some (.int .i64 K.s.temps) ∧ ((W.setCell ⟨K.g, 8, none⟩ v).alloc o).drew.cell? ⟨K.g, 6, none⟩ = some (.int .i64 (pl K.l K.l.length : Int))) :=
    Lib.hid fun v o => ⟨((h.blk.set_ 8 v).alloc o).drew.cell 1, ((h.blk.set_ 8 v).alloc o).drew.cell 6⟩
  go_region
  clear c1 c6 c8 f8 HQ
  have HM0 := Lib.hid (h.begin0 hB hrs hsv)
  generalize (((W.setCell ⟨K.g, 8, none⟩ (.slice (some ⟨W.heap.size, 0, none⟩) 1 1)).alloc (.cells #[.int .i64 (-1), .int .i64 0, .int .i64 K.s.temps, .int .i64 (pl K.l K.l.length : Int), .slice none 0 0, .int .i64 0] 88)).drew) = W1 at HM0 ⊢
  obtain ⟨D1, m1, m2, m3, m4, m5, m6, m7, m8⟩ := HM0.out
  obtain ⟨A0, cc0, hlv, _, _⟩ := own_form h.ins
  have c4 : W1.cell? ⟨K.g, 4, none⟩ = some (.slice A0 0 cc0) := by
    have : W1.cell? ⟨K.g, 4, none⟩ = some K.lv := m1.blk.cell 4
    rw [this, hlv, HN.out]
    rfl
  have HM := Lib.hid m1
  have HE := Lib.hid (And.intro m2 (And.intro m3 (And.intro m4 (And.intro m5 (And.intro (m6.trans hof) (And.intro (m7.trans hbo) m8))))))
  clear HM0 m1 m2 m3 m4 m5 m6 m7 m8 hrs hsv hof hbo hg h hlv HR
  go_wp2
  refine wp_loop_rounds 1 ?_
  rw [rounds_succ]
  go_wp2
  go_ret2
  obtain ⟨e2, e3, e4, e5, e6, e7, e8⟩ := HE.out
  exact ⟨D1, HM.out, e8, e2, e3, e4, rfl, e5, e6, e7⟩
set_option maxRecDepth 100000 in
theorem ends_nil {base : Nat} {K : VK} {D : VD} {W : World} (h : VM base K D W) (hn : K.l = []) :
    Calls Tryd.prog 31 #[.pointer (some ⟨K.g, 0, none⟩)] W fun e w' => e = .returned (.tuple #[.int .i64 0, .int .i64 54]) ∧ w' = W := by
  obtain ⟨A0, cc0, hlv, _, _⟩ := own_form h.ins
  have c4 : W.cell? ⟨K.g, 4, none⟩ = some (.slice A0 0 cc0) := by
    have : W.cell? ⟨K.g, 4, none⟩ = some K.lv := h.blk.cell 4
    rw [this, hlv, hn]
    rfl
  clear h hn hlv
  go_enter Tryd.func31, Tryd.ntmps31
  go_wp2
  go_ret2
  exact ⟨rfl, rfl⟩
end Go.Proofs.YtaeegkljldngmaaDoor
