/-
  A region's depths in memory; the closure put f48. No statement of the seat is proved here.
-/
import Derived.Test.YtaeegkljldngmaaDoorCvG
namespace Go.Proofs.YtaeegkljldngmaaDoor
open Go.RowKit

def setMost (rs : List Rg) (q : Nat) (m : Int) : List Rg := rs.set q { rgAt rs q with most := m }
section
variable {W W' : World} {base : Nat} {K : VK} {D : VD}
theorem VM.setmost (h : VM base K D W) (hB : base ≤ W.heap.size) {rb rc q : Nat} (hrv : D.rv = .slice (some ⟨rb, 0, none⟩) D.rs.length rc) (hq : q < D.rs.length) (m : Int) :
    VM base K { D with rs := setMost D.rs q m } (W.setCell ⟨rb, q * 6 + 5, none⟩ (.int .i64 m)) ∧ Chg (VB K D) W (W.setCell ⟨rb, q * 6 + 5, none⟩ (.int .i64 m)) := by
  have hrb : D.rv.ownBlock = some rb := by rw [hrv]; simp [Value.ownBlock]
  have hc : Chg (· = rb) W (W.setCell ⟨rb, q * 6 + 5, none⟩ (.int .i64 m)) := (Chg.refl (· = rb) W).setCell (p := ⟨rb, q * 6 + 5, none⟩) (fun _ => rfl) _
  have hn : ∀ {e : TypeId} {n s : Nat} {v : Value} {xs : List Value}, W.ownsRow base e s v n xs → e ≠ 88 → ∀ k, v.ownBlock = some k → ¬ k = rb := fun ho he k hk e => own_apart ho h.rgs he k hk (by rw [hrb, e])
  have hr := h.rgs
  rw [hrv] at hr
  refine ⟨h.turn (D' := { D with rs := setMost D.rs q m }) hc hB (fun k e => by subst e; exact (World.ownsRow.lt h.rgs _ hrb).1) (hn h.ins (by decide)) (hn h.pls (by decide)) (fun e => map_own_ne h.mp h.rgs (by rw [hrb, e])) ?_ ?_
    (own_chg h.oft hc (hn h.oft (by decide))) (own_chg h.bdy hc (hn h.bdy (by decide))) (own_chg h.dps hc (hn h.dps (by decide))) (by simp [setMost, h.stl]) ?_ h.sep, hc.mono fun k _ e => .inr (.inr (.inr (.inl (by rw [hrb, e]))))⟩
  · exact hc.blk h.blk fun e => own_blk_ne h.rgs h.blk (by decide) (by rw [hrb, e])
  · show World.ownsRow _ _ _ _ D.rv (setMost D.rs q m).length (rgC (setMost D.rs q m) D.sv)
    unfold setMost
    rw [List.length_set, rgC_most _ _ _ _ h.stl hq, hrv]
    exact (World.ownsRow.stored hr (q * 6 + 5) (.int .i64 m)).1
  · intro k x u h1 h2
    simp only [setMost, List.getElem?_set] at h1
    by_cases e : q = k
    · subst e
      rw [if_pos rfl, if_pos hq] at h1
      injection h1 with h1
      subst h1
      exact own_chg (h.sts q (rgAt D.rs q) u (rgAt_some hq) h2) hc (hn (h.sts q (rgAt D.rs q) u (rgAt_some hq) h2) (by decide))
    · rw [if_neg e] at h1
      exact own_chg (h.sts k x u h1 h2) hc (hn (h.sts k x u h1 h2) (by decide))
end
def bvl (b : Bool) : Value := .bool b
/-- where a region's walk keeps what it has -/
structure WA where
  b2 : Nat
  b3 : Nat
  b4 : Nat
  b5 : Nat
  mr : Nat
  wv : Value
  rb : Nat
  rc : Nat
  q : Nat
def rankL (st : List Nat) : List (Int × Value) := (List.range st.length).map fun k => (((st.getD k 0 : Nat) : Int), .int .i64 (k : Int))
structure WkM (base : Nat) (K : VK) (A : WA) (st : List Nat) (D : VD) (S : Wk) (W : World) : Prop where
  vm : VM base K D W
  dp : D.dp = S.dp
  ft : D.fault = S.fault
  rv : D.rv = .slice (some ⟨A.rb, 0, none⟩) D.rs.length A.rc
  ql : A.q < D.rs.length
  ms : (rgAt D.rs A.q).most = S.most
  x2 : Blk W A.b2 78 #[.pointer (some ⟨K.g, 0, none⟩)]
  x3 : Blk W A.b3 86 #[.pointer (some ⟨A.rb, A.q * 6, none⟩)]
  x4 : Blk W A.b4 106 #[A.wv]
  x5 : Blk W A.b5 79 #[.map (some A.mr)]
  wt : W.ownsRow base 4 1 A.wv S.wt.length (S.wt.map bvl)
  rk : MapI .i64 W A.mr (rankL st)
  ne : A.mr ≠ K.mb
section
variable {base : Nat} {K : VK} {A : WA} {st : List Nat} {D D' : VD} {S S' : Wk} {W W' : World}
/-- the verifier's blocks are none of the walk's own -/
theorem WkM.not (h : WkM base K A st D S W) {k : Nat} (hk : VB K D k) : k ≠ A.b2 ∧ k ≠ A.b3 ∧ k ≠ A.b4 ∧ k ≠ A.b5 ∧ k ≠ A.mr ∧ A.wv.ownBlock ≠ some k := by
  have row : ∀ {e : TypeId} {n s : Nat} {v : Value} {xs : List Value}, W.ownsRow base e s v n xs → v.ownBlock = some k → e ≠ 78 → e ≠ 86 → e ≠ 106 → e ≠ 79 → e ≠ 4 → k ≠ A.b2 ∧ k ≠ A.b3 ∧ k ≠ A.b4 ∧ k ≠ A.b5 ∧ k ≠ A.mr ∧ A.wv.ownBlock ≠ some k := fun ho e h1 h2 h3 h4 h5 =>
    ⟨fun e' => own_blk_ne ho h.x2 h1 (by rw [e, e']), fun e' => own_blk_ne ho h.x3 h2 (by rw [e, e']), fun e' => own_blk_ne ho h.x4 h3 (by rw [e, e']), fun e' => own_blk_ne ho h.x5 h4 (by rw [e, e']), fun e' => map_own_ne h.rk ho (by rw [e, e']), fun e' => own_apart ho h.wt h5 k e e'⟩
  rcases hk with rfl | rfl | e | e | ⟨v, hv, e⟩
  · exact ⟨h.vm.blk.ne_ h.x2 (by decide), h.vm.blk.ne_ h.x3 (by decide), h.vm.blk.ne_ h.x4 (by decide), h.vm.blk.ne_ h.x5 (by decide), map_blk_ne h.rk h.vm.blk, own_blk_ne h.wt h.vm.blk (by decide)⟩
  · exact ⟨fun e => map_blk_ne h.vm.mp h.x2 e.symm, fun e => map_blk_ne h.vm.mp h.x3 e.symm, fun e => map_blk_ne h.vm.mp h.x4 e.symm, fun e => map_blk_ne h.vm.mp h.x5 e.symm, Ne.symm h.ne, map_own_ne h.vm.mp h.wt⟩
  · exact row h.vm.ins e (by decide) (by decide) (by decide) (by decide) (by decide)
  · exact row h.vm.rgs e (by decide) (by decide) (by decide) (by decide) (by decide)
  · obtain ⟨n, xs, ho⟩ := h.vm.row hv
    exact row ho e (by decide) (by decide) (by decide) (by decide) (by decide)
/-- the verifier alone is turned -/
theorem WkM.turn (h : WkM base K A st D S W) (hv : VM base K D' W') (hc : Chg (VB K D) W W') (hdp : D'.dp = S'.dp) (hft : D'.fault = S'.fault) (hrv : D'.rv = .slice (some ⟨A.rb, 0, none⟩) D'.rs.length A.rc) (hql : A.q < D'.rs.length) (hms : (rgAt D'.rs A.q).most = S'.most) (hwt : S'.wt = S.wt) : WkM base K A st D' S' W' := by
  have hn := fun k hk => h.not (k := k) hk
  refine ⟨hv, hdp, hft, hrv, hql, hms, hc.blk h.x2 fun e => (hn _ e).1 rfl, hc.blk h.x3 fun e => (hn _ e).2.1 rfl, hc.blk h.x4 fun e => (hn _ e).2.2.1 rfl, hc.blk h.x5 fun e => (hn _ e).2.2.2.1 rfl, ?_, h.rk.keep (hc.block _ h.rk.lt fun e => (hn _ e).2.2.2.2.1 rfl), h.ne⟩
  rw [hwt]
  exact own_chg h.wt hc fun k hk e => (hn k e).2.2.2.2.2 hk
theorem WkM.below (h : WkM base K A st D S W) (hb : Below W.heap.size W W') (hB : base ≤ W.heap.size) : WkM base K A st D S W' :=
  h.turn (h.vm.below hb hB) (Chg.of_below hb _) h.dp h.ft h.rv h.ql h.ms rfl
theorem WkM.drewN (h : WkM base K A st D S W) (n : Nat) : WkM base K A st D S (W.drewN n) :=
  h.turn (h.vm.drewN n) ⟨rfl, rfl, rfl, Nat.le_refl _, fun _ _ _ => rfl⟩ h.dp h.ft h.rv h.ql h.ms rfl
theorem WkM.drew (h : WkM base K A st D S W) : WkM base K A st D S W.drew := h.drewN 1
theorem rgAt_most {rs : List Rg} {q : Nat} (h : q < rs.length) (m : Int) : (rgAt (setMost rs q m) q).most = m := by
  unfold setMost
  rw [rgAt_set h, if_pos rfl]
/-- the greatest depth is written -/
theorem WkM.most (h : WkM base K A st D S W) (hB : base ≤ W.heap.size) (m : Int) : WkM base K A st { D with rs := setMost D.rs A.q m } { S with most := m } (W.setCell ⟨A.rb, A.q * 6 + 5, none⟩ (.int .i64 m)) := by
  have h1 := h.vm.setmost hB h.rv h.ql m
  refine h.turn h1.1 h1.2 h.dp h.ft ?_ ?_ (rgAt_most h.ql m) rfl
  · rw [h.rv]; simp [setMost]
  · simpa [setMost] using h.ql
/-- a mark is written -/
theorem WkM.mark (h : WkM base K A st D S W) {b c : Nat} (hw : A.wv = .slice (some ⟨b, 0, none⟩) S.wt.length c) (k : Nat) (x : Bool) : WkM base K A st D { S with wt := S.wt.set k x } (W.setCell ⟨b, k, none⟩ (.bool x)) := by
  have hb : A.wv.ownBlock = some b := by rw [hw]; simp [Value.ownBlock]
  have hc : Chg (· = b) W (W.setCell ⟨b, k, none⟩ (.bool x)) := (Chg.refl (· = b) W).setCell (p := ⟨b, k, none⟩) (fun _ => rfl) _
  have hv : VM base K D (W.setCell ⟨b, k, none⟩ (.bool x)) := h.vm.keep (fun j hj => hc.block j (h.vm.lt hj).2 fun e => (h.not hj).2.2.2.2.2 (by rw [hb, e]))
    fun p hp => World.cell?_setCell_other W _ p _ fun e => by
      have := (World.ownsRow.lt h.wt b hb).1
      rw [← e] at hp
      exact absurd hp (by dsimp only; omega)
  have hwt := h.wt
  rw [hw] at hwt
  refine ⟨hv, h.dp, h.ft, h.rv, h.ql, h.ms, hc.blk h.x2 fun e => own_blk_ne h.wt h.x2 (by decide) (by rw [hb, e]), hc.blk h.x3 fun e => own_blk_ne h.wt h.x3 (by decide) (by rw [hb, e]), hc.blk h.x4 fun e => own_blk_ne h.wt h.x4 (by decide) (by rw [hb, e]), hc.blk h.x5 fun e => own_blk_ne h.wt h.x5 (by decide) (by rw [hb, e]), ?_, h.rk.keep (hc.block _ h.rk.lt fun e => map_own_ne h.rk h.wt (by rw [hb, e])), h.ne⟩
  have := (World.ownsRow.stored hwt k (.bool x)).1
  show World.ownsRow _ _ _ _ A.wv (S.wt.set k x).length ((S.wt.set k x).map bvl)
  rw [List.length_set, hw, List.map_set]
  exact this
theorem WkM.mform (h : WkM base K A st D S W) (hn : 0 < S.wt.length) : ∃ b c, A.wv = .slice (some ⟨b, 0, none⟩) S.wt.length c := by
  obtain ⟨b, c, e, _⟩ := own_at h.wt hn
  exact ⟨b, c, e⟩
theorem WkM.mcell (h : WkM base K A st D S W) {b c : Nat} (hw : A.wv = .slice (some ⟨b, 0, none⟩) S.wt.length c) {k : Nat} (hk : k < S.wt.length) : W.cell? ⟨A.b4, 0, none⟩ = some (.slice (some ⟨b, 0, none⟩) S.wt.length c) ∧ W.cell? ⟨b, k, none⟩ = some (.bool (S.wt.getD k false)) ∧ W.frozen? ⟨b, k, none⟩ = false := by
  have h1 := h.wt
  rw [hw] at h1
  refine ⟨by rw [← hw]; exact h.x4.cell 0, ?_, World.ownsRow.frozenAt h1 k⟩
  rw [World.ownsRow.cellAt h1 k (by omega), List.getD_eq_getElem?_getD, List.getElem?_map, List.getElem?_eq_getElem hk]
  rfl
end
end Go.Proofs.YtaeegkljldngmaaDoor
