/-
  The verifier's rows grow and are written (printed by mkcvf.py). No statement of the seat is proved here.
-/
import Derived.Test.YtaeegkljldngmaaDoorCvE
namespace Go.Proofs.YtaeegkljldngmaaDoor
open Go.RowKit

theorem sep_set {l : List Value} (h : l.Pairwise apart) {j H : Nat} {v v2 : Value} (hv : l[j]? = some v) (hlt : ∀ u ∈ l, ∀ k, u.ownBlock = some k → k < H) (hn : v2.ownBlock = v.ownBlock ∨ ∃ k, v2.ownBlock = some k ∧ H ≤ k) : (l.set j v2).Pairwise apart := by
  rw [List.pairwise_iff_getElem] at h ⊢
  intro a b ha hb hab k hk hk'
  simp only [List.length_set] at ha hb
  rw [List.getElem_set] at hk hk'
  obtain ⟨hjl, hje⟩ := List.getElem?_eq_some_iff.1 hv
  split at hk
  · rename_i e
    subst e
    rw [if_neg (by omega)] at hk'
    rcases hn with e1 | ⟨q, e1, hq⟩
    · exact h j b hjl hb hab k (by rw [hje, ← e1]; exact hk) hk'
    · rw [e1] at hk; injection hk with hk
      have := hlt _ (List.getElem_mem hb) k hk'
      omega
  · split at hk'
    · rename_i e
      subst e
      rcases hn with e1 | ⟨q, e1, hq⟩
      · exact h a j ha hjl hab k hk (by rw [hje, ← e1]; exact hk')
      · rw [e1] at hk'; injection hk' with hk'
        have := hlt _ (List.getElem_mem ha) k hk
        omega
    · exact h a b ha hb hab k hk hk'
theorem chg_app {w w2 : World} {v v2 : Value} (h : App w v w2 v2) : Chg (fun k => v.ownBlock = some k) w w2 := Chg.of_grown h.1 fun _ e => e
/-- a block that is the verifier's, or new -/
def VN (K : VK) (D : VD) (H k : Nat) : Prop := VB K D k ∨ H ≤ k
section
variable {W W2 : World} {base : Nat} {K : VK} {D : VD}
theorem VM.rlt (h : VM base K D W) : ∀ u ∈ D.rows K.pv, ∀ k, u.ownBlock = some k → k < W.heap.size := fun u hu _ hk => (h.lt (.inr (.inr (.inr (.inr ⟨u, hu, hk⟩))))).2
theorem VM.gne (h : VM base K D W) {e : TypeId} {n s : Nat} {v : Value} {xs : List Value} (ho : W.ownsRow base e s v n xs) (he : e ≠ 82) : ∀ k, v.ownBlock = some k → ¬ k = K.g := fun _ hk e1 => own_blk_ne ho h.blk he (by rw [hk, e1])
/-- a region is noted for an instruction -/
theorem VM.appO (h : VM base K D W) (hB : base ≤ W.heap.size) {v2 : Value} {zs : List Nat} (ha : App W D.ov W2 v2) (ho : OwnZ W2 base v2 (natZ zs)) :
    VM base K { D with ov := v2, of := zs } (W2.setCell ⟨K.g, 9, none⟩ v2) ∧ Chg (VB K D) W (W2.setCell ⟨K.g, 9, none⟩ v2) := by
  have hg2 : Blk W2 K.g 82 (verC K D) := ha.blk h.blk (own_blk_ne h.oft h.blk (by decide))
  have hc : Chg (fun k => D.ov.ownBlock = some k ∨ k = K.g) W (W2.setCell ⟨K.g, 9, none⟩ v2) := ((chg_app ha).mono (fun _ _ e => .inl e)).setCell (p := ⟨K.g, 9, none⟩) (fun _ => .inr rfl) _
  have hF : ∀ k, (D.ov.ownBlock = some k ∨ k = K.g) → base ≤ k := fun k e => by
    rcases e with e | e
    · exact (World.ownsRow.lt h.oft k e).1
    · rw [e]; exact h.geg
  have hn : ∀ {e : TypeId} {n s : Nat} {v : Value} {xs : List Value}, W.ownsRow base e s v n xs → e ≠ 82 → e ≠ 3 → ∀ k, v.ownBlock = some k → ¬ (D.ov.ownBlock = some k ∨ k = K.g) := fun hr h1 h2 k hk e => by
    rcases e with e | e
    · exact own_apart hr h.oft h2 k hk e
    · exact h.gne hr h1 k hk e
  have h3 : ∀ {v : Value} {j n : Nat} {xs : List Value}, (D.rows K.pv)[j]? = some v → j ≠ 1 → W.ownsRow base 3 1 v n xs → ∀ k, v.ownBlock = some k → ¬ (D.ov.ownBlock = some k ∨ k = K.g) := fun hv hj hr k hk e => by
    rcases e with e | e
    · exact h.apart_of hj hv (show (D.rows K.pv)[1]? = some D.ov from rfl) k hk e
    · exact h.gne hr (by decide) k hk e
  refine ⟨h.turn (D' := { D with ov := v2, of := zs }) hc hB hF (hn h.ins (by decide) (by decide)) (h3 (j := 0) rfl (by decide) h.pls) ?_ (hg2.set_ 9 _) (own_chg h.rgs hc (hn h.rgs (by decide) (by decide))) ?_ (own_chg h.bdy hc (h3 (j := 2) rfl (by decide) h.bdy)) (own_chg h.dps hc (h3 (j := 3) rfl (by decide) h.dps)) h.stl
    (fun k x v h1 h2 => own_chg (h.sts k x v h1 h2) hc (h3 (j := 4 + k) ?_ (by omega) (h.sts k x v h1 h2))) ?_, hc.mono fun k _ e => ?_⟩
  · rintro (e | e)
    · exact map_own_ne h.mp h.oft e
    · exact map_blk_ne h.mp h.blk e.symm
  · exact own_chg ho (Chg.setCell (Chg.refl (· = K.g) W2) (p := ⟨K.g, 9, none⟩) (fun _ => rfl) _) fun k hk e => own_blk_ne ho hg2 (by decide) (by rw [hk, e])
  · simp only [VD.rows]
    rw [show 4 + k = k + 1 + 1 + 1 + 1 by omega]
    simpa using h2
  · exact sep_set h.sep (show (D.rows K.pv)[1]? = some D.ov from rfl) h.rlt ha.2
  · rcases e with e | e
    · exact .inr (.inr (.inr (.inr ⟨D.ov, by simp [VD.rows], e⟩)))
    · exact .inl e
/-- a body is noted for an instruction -/
theorem VM.appB (h : VM base K D W) (hB : base ≤ W.heap.size) {v2 : Value} {zs : List Int} (ha : App W D.bv W2 v2) (ho : OwnZ W2 base v2 (zs)) :
    VM base K { D with bv := v2, body := zs } (W2.setCell ⟨K.g, 10, none⟩ v2) ∧ Chg (VB K D) W (W2.setCell ⟨K.g, 10, none⟩ v2) := by
  have hg2 : Blk W2 K.g 82 (verC K D) := ha.blk h.blk (own_blk_ne h.bdy h.blk (by decide))
  have hc : Chg (fun k => D.bv.ownBlock = some k ∨ k = K.g) W (W2.setCell ⟨K.g, 10, none⟩ v2) := ((chg_app ha).mono (fun _ _ e => .inl e)).setCell (p := ⟨K.g, 10, none⟩) (fun _ => .inr rfl) _
  have hF : ∀ k, (D.bv.ownBlock = some k ∨ k = K.g) → base ≤ k := fun k e => by
    rcases e with e | e
    · exact (World.ownsRow.lt h.bdy k e).1
    · rw [e]; exact h.geg
  have hn : ∀ {e : TypeId} {n s : Nat} {v : Value} {xs : List Value}, W.ownsRow base e s v n xs → e ≠ 82 → e ≠ 3 → ∀ k, v.ownBlock = some k → ¬ (D.bv.ownBlock = some k ∨ k = K.g) := fun hr h1 h2 k hk e => by
    rcases e with e | e
    · exact own_apart hr h.bdy h2 k hk e
    · exact h.gne hr h1 k hk e
  have h3 : ∀ {v : Value} {j n : Nat} {xs : List Value}, (D.rows K.pv)[j]? = some v → j ≠ 2 → W.ownsRow base 3 1 v n xs → ∀ k, v.ownBlock = some k → ¬ (D.bv.ownBlock = some k ∨ k = K.g) := fun hv hj hr k hk e => by
    rcases e with e | e
    · exact h.apart_of hj hv (show (D.rows K.pv)[2]? = some D.bv from rfl) k hk e
    · exact h.gne hr (by decide) k hk e
  refine ⟨h.turn (D' := { D with bv := v2, body := zs }) hc hB hF (hn h.ins (by decide) (by decide)) (h3 (j := 0) rfl (by decide) h.pls) ?_ (hg2.set_ 10 _) (own_chg h.rgs hc (hn h.rgs (by decide) (by decide))) (own_chg h.oft hc (h3 (j := 1) rfl (by decide) h.oft)) ?_ (own_chg h.dps hc (h3 (j := 3) rfl (by decide) h.dps)) h.stl
    (fun k x v h1 h2 => own_chg (h.sts k x v h1 h2) hc (h3 (j := 4 + k) ?_ (by omega) (h.sts k x v h1 h2))) ?_, hc.mono fun k _ e => ?_⟩
  · rintro (e | e)
    · exact map_own_ne h.mp h.bdy e
    · exact map_blk_ne h.mp h.blk e.symm
  · exact own_chg ho (Chg.setCell (Chg.refl (· = K.g) W2) (p := ⟨K.g, 10, none⟩) (fun _ => rfl) _) fun k hk e => own_blk_ne ho hg2 (by decide) (by rw [hk, e])
  · simp only [VD.rows]
    rw [show 4 + k = k + 1 + 1 + 1 + 1 by omega]
    simpa using h2
  · exact sep_set h.sep (show (D.rows K.pv)[2]? = some D.bv from rfl) h.rlt ha.2
  · rcases e with e | e
    · exact .inr (.inr (.inr (.inr ⟨D.bv, by simp [VD.rows], e⟩)))
    · exact .inl e
/-- a depth more -/
theorem VM.appD (h : VM base K D W) (hB : base ≤ W.heap.size) {v2 : Value} {zs : List Int} (ha : App W D.dv W2 v2) (ho : OwnZ W2 base v2 (zs)) :
    VM base K { D with dv := v2, dp := zs } (W2.setCell ⟨K.g, 11, none⟩ v2) ∧ Chg (VB K D) W (W2.setCell ⟨K.g, 11, none⟩ v2) := by
  have hg2 : Blk W2 K.g 82 (verC K D) := ha.blk h.blk (own_blk_ne h.dps h.blk (by decide))
  have hc : Chg (fun k => D.dv.ownBlock = some k ∨ k = K.g) W (W2.setCell ⟨K.g, 11, none⟩ v2) := ((chg_app ha).mono (fun _ _ e => .inl e)).setCell (p := ⟨K.g, 11, none⟩) (fun _ => .inr rfl) _
  have hF : ∀ k, (D.dv.ownBlock = some k ∨ k = K.g) → base ≤ k := fun k e => by
    rcases e with e | e
    · exact (World.ownsRow.lt h.dps k e).1
    · rw [e]; exact h.geg
  have hn : ∀ {e : TypeId} {n s : Nat} {v : Value} {xs : List Value}, W.ownsRow base e s v n xs → e ≠ 82 → e ≠ 3 → ∀ k, v.ownBlock = some k → ¬ (D.dv.ownBlock = some k ∨ k = K.g) := fun hr h1 h2 k hk e => by
    rcases e with e | e
    · exact own_apart hr h.dps h2 k hk e
    · exact h.gne hr h1 k hk e
  have h3 : ∀ {v : Value} {j n : Nat} {xs : List Value}, (D.rows K.pv)[j]? = some v → j ≠ 3 → W.ownsRow base 3 1 v n xs → ∀ k, v.ownBlock = some k → ¬ (D.dv.ownBlock = some k ∨ k = K.g) := fun hv hj hr k hk e => by
    rcases e with e | e
    · exact h.apart_of hj hv (show (D.rows K.pv)[3]? = some D.dv from rfl) k hk e
    · exact h.gne hr (by decide) k hk e
  refine ⟨h.turn (D' := { D with dv := v2, dp := zs }) hc hB hF (hn h.ins (by decide) (by decide)) (h3 (j := 0) rfl (by decide) h.pls) ?_ (hg2.set_ 11 _) (own_chg h.rgs hc (hn h.rgs (by decide) (by decide))) (own_chg h.oft hc (h3 (j := 1) rfl (by decide) h.oft)) (own_chg h.bdy hc (h3 (j := 2) rfl (by decide) h.bdy)) ?_ h.stl
    (fun k x v h1 h2 => own_chg (h.sts k x v h1 h2) hc (h3 (j := 4 + k) ?_ (by omega) (h.sts k x v h1 h2))) ?_, hc.mono fun k _ e => ?_⟩
  · rintro (e | e)
    · exact map_own_ne h.mp h.dps e
    · exact map_blk_ne h.mp h.blk e.symm
  · exact own_chg ho (Chg.setCell (Chg.refl (· = K.g) W2) (p := ⟨K.g, 11, none⟩) (fun _ => rfl) _) fun k hk e => own_blk_ne ho hg2 (by decide) (by rw [hk, e])
  · simp only [VD.rows]
    rw [show 4 + k = k + 1 + 1 + 1 + 1 by omega]
    simpa using h2
  · exact sep_set h.sep (show (D.rows K.pv)[3]? = some D.dv from rfl) h.rlt ha.2
  · rcases e with e | e
    · exact .inr (.inr (.inr (.inr ⟨D.dv, by simp [VD.rows], e⟩)))
    · exact .inl e
/-- a body is written -/
theorem VM.setbody (h : VM base K D W) (hB : base ≤ W.heap.size) {b c : Nat} (hd : D.bv = .slice (some ⟨b, 0, none⟩) D.body.length c) (i : Nat) (d : Int) :
    VM base K { D with body := D.body.set i d } (W.setCell ⟨b, i, none⟩ (.int .i64 d)) ∧ Chg (VB K D) W (W.setCell ⟨b, i, none⟩ (.int .i64 d)) := by
  have hb : D.bv.ownBlock = some b := by rw [hd]; simp [Value.ownBlock]
  have hc : Chg (· = b) W (W.setCell ⟨b, i, none⟩ (.int .i64 d)) := (Chg.refl (· = b) W).setCell (p := ⟨b, i, none⟩) (fun _ => rfl) _
  have hn : ∀ {e : TypeId} {n s : Nat} {v : Value} {xs : List Value}, W.ownsRow base e s v n xs → e ≠ 3 → ∀ k, v.ownBlock = some k → ¬ k = b := fun ho he k hk e => own_apart ho h.bdy he k hk (by rw [hb, e])
  have h3 : ∀ {v : Value} {j : Nat}, (D.rows K.pv)[j]? = some v → j ≠ 2 → ∀ k, v.ownBlock = some k → ¬ k = b := fun hv hj k hk e => h.apart_of hj hv (show (D.rows K.pv)[2]? = some D.bv from rfl) k hk (by rw [hb, e])
  have hdp := h.bdy
  unfold OwnZ at hdp
  rw [hd] at hdp
  refine ⟨h.turn (D' := { D with body := D.body.set i d }) hc hB (fun k e => by subst e; exact (World.ownsRow.lt h.bdy _ hb).1) (hn h.ins (by decide)) (h3 (j := 0) rfl (by decide)) (fun e => map_own_ne h.mp h.bdy (by rw [hb, e])) ?_ (own_chg h.rgs hc (hn h.rgs (by decide)))
    (own_chg h.oft hc (h3 (j := 1) rfl (by decide))) ?_ (own_chg h.dps hc (h3 (j := 3) rfl (by decide))) h.stl (fun k x v h1 h2 => own_chg (h.sts k x v h1 h2) hc (h3 (j := 4 + k) ?_ (by omega))) h.sep,
    hc.mono fun k _ e => .inr (.inr (.inr (.inr ⟨D.bv, by simp [VD.rows], by rw [hb, e]⟩)))⟩
  · exact hc.blk h.blk fun e => own_blk_ne h.bdy h.blk (by decide) (by rw [hb, e])
  · have := (World.ownsRow.stored hdp i (.int .i64 d)).1
    show World.ownsRow _ _ _ _ D.bv (D.body.set i d).length ((D.body.set i d).map iv)
    rw [List.length_set, hd, List.map_set]
    exact this
  · simp only [VD.rows]
    rw [show 4 + k = k + 1 + 1 + 1 + 1 by omega]
    simpa using h2
theorem row_four {k : Nat} {v : Value} (h2 : D.sv[k]? = some v) : (D.rows K.pv)[4 + k]? = some v := by
  simp only [VD.rows]
  rw [show 4 + k = k + 1 + 1 + 1 + 1 by omega]
  simpa using h2
/-- a step more in a region -/
theorem VM.appS (h : VM base K D W) (hB : base ≤ W.heap.size) {rb rc r i : Nat} (hrv : D.rv = .slice (some ⟨rb, 0, none⟩) D.rs.length rc) (hr : r < D.rs.length) {v v2 : Value} (hv : D.sv[r]? = some v) (ha : App W v W2 v2) (ho : OwnZ W2 base v2 (natZ ((rgAt D.rs r).steps ++ [i]))) :
    VM base K { D with rs := addStep D.rs r i, sv := D.sv.set r v2 } (W2.setCell ⟨rb, r * 6 + 4, none⟩ v2) ∧ Chg (VB K D) W (W2.setCell ⟨rb, r * 6 + 4, none⟩ v2) := by
  have hvo := h.sts r _ v (rgAt_some hr) hv
  have hrb : D.rv.ownBlock = some rb := by rw [hrv]; simp [Value.ownBlock]
  have hr2 : W2.ownsRow base 88 6 D.rv D.rs.length (rgC D.rs D.sv) := two_app ha hvo h.rgs (by decide)
  have hc : Chg (fun k => v.ownBlock = some k ∨ k = rb) W (W2.setCell ⟨rb, r * 6 + 4, none⟩ v2) := ((chg_app ha).mono (fun _ _ e => .inl e)).setCell (p := ⟨rb, r * 6 + 4, none⟩) (fun _ => .inr rfl) _
  have hF : ∀ k, (v.ownBlock = some k ∨ k = rb) → base ≤ k := fun k e => by
    rcases e with e | e
    · exact (World.ownsRow.lt hvo k e).1
    · rw [e]; exact (World.ownsRow.lt h.rgs rb hrb).1
  have hn : ∀ {e : TypeId} {n s : Nat} {u : Value} {xs : List Value}, W.ownsRow base e s u n xs → e ≠ 88 → e ≠ 3 → ∀ k, u.ownBlock = some k → ¬ (v.ownBlock = some k ∨ k = rb) := fun hq h1 h2 k hk e => by
    rcases e with e | e
    · exact own_apart hq hvo h2 k hk e
    · exact own_apart hq h.rgs h1 k hk (by rw [hrb, e])
  have h3 : ∀ {u : Value} {j n : Nat} {xs : List Value}, (D.rows K.pv)[j]? = some u → j ≠ 4 + r → W.ownsRow base 3 1 u n xs → ∀ k, u.ownBlock = some k → ¬ (v.ownBlock = some k ∨ k = rb) := fun hu hj hq k hk e => by
    rcases e with e | e
    · exact h.apart_of hj hu (row_four hv) k hk e
    · exact own_apart hq h.rgs (by decide) k hk (by rw [hrb, e])
  have hr3 := hr2
  rw [hrv] at hr3
  refine ⟨h.turn (D' := { D with rs := addStep D.rs r i, sv := D.sv.set r v2 }) hc hB hF (hn h.ins (by decide) (by decide)) (h3 (j := 0) rfl (by omega) h.pls) ?_ ?_ ?_ (own_chg h.oft hc (h3 (j := 1) rfl (by omega) h.oft)) (own_chg h.bdy hc (h3 (j := 2) rfl (by omega) h.bdy)) (own_chg h.dps hc (h3 (j := 3) rfl (by omega) h.dps)) ?_ ?_ ?_, hc.mono fun k _ e => ?_⟩
  · rintro (e | e)
    · exact map_own_ne h.mp hvo e
    · exact map_own_ne h.mp h.rgs (by rw [hrb, e])
  · refine (hc.blk h.blk ?_)
    rintro (e | e)
    · exact h.gne hvo (by decide) _ e rfl
    · exact own_blk_ne h.rgs h.blk (by decide) (by rw [hrb, e])
  · show World.ownsRow _ _ _ _ D.rv (addStep D.rs r i).length (rgC (addStep D.rs r i) (D.sv.set r v2))
    unfold addStep
    rw [List.length_set, rgC_step _ _ _ _ _ h.stl hr, hrv]
    exact (World.ownsRow.stored hr3 (r * 6 + 4) v2).1
  · simp [addStep, h.stl]
  · intro k x u h1 h2
    simp only [addStep, List.getElem?_set] at h1 h2
    by_cases e : r = k
    · subst e
      rw [if_pos rfl, if_pos hr] at h1
      rw [if_pos rfl, if_pos (by rw [h.stl]; exact hr)] at h2
      injection h1 with h1
      injection h2 with h2
      subst h1 h2
      exact own_chg ho (Chg.setCell (Chg.refl (· = rb) W2) (p := ⟨rb, r * 6 + 4, none⟩) (fun _ => rfl) _) fun k hk e => own_apart ho hr2 (by decide) k hk (by rw [hrb, e])
    · rw [if_neg e] at h1 h2
      exact own_chg (h.sts k x u h1 h2) hc (h3 (row_four h2) (by omega) (h.sts k x u h1 h2))
  · have : ({ D with rs := addStep D.rs r i, sv := D.sv.set r v2 } : VD).rows K.pv = (D.rows K.pv).set (4 + r) v2 := by
      simp only [VD.rows]
      rw [show 4 + r = r + 1 + 1 + 1 + 1 by omega]
      simp
    rw [this]
    exact sep_set h.sep (row_four hv) h.rlt ha.2
  · rcases e with e | e
    · exact .inr (.inr (.inr (.inr ⟨v, List.mem_of_getElem? (row_four hv), e⟩)))
    · exact .inr (.inr (.inr (.inl (by rw [hrb, e]))))
/-- a region more -/
theorem VM.appR (h : VM base K D W) (hB : base ≤ W.heap.size) {v2 : Value} {x : Rg} (hx : x.steps = []) (ha : App W D.rv W2 v2) (ho : W2.ownsRow base 88 6 v2 (D.rs.length + 1) (rgC D.rs D.sv ++ x.cs (.slice none 0 0))) :
    VM base K { D with rv := v2, rs := D.rs ++ [x], sv := D.sv ++ [.slice none 0 0] } (W2.setCell ⟨K.g, 8, none⟩ v2) ∧ Chg (VB K D) W (W2.setCell ⟨K.g, 8, none⟩ v2) := by
  have hg2 : Blk W2 K.g 82 (verC K D) := ha.blk h.blk (own_blk_ne h.rgs h.blk (by decide))
  have hc : Chg (fun k => D.rv.ownBlock = some k ∨ k = K.g) W (W2.setCell ⟨K.g, 8, none⟩ v2) := ((chg_app ha).mono (fun _ _ e => .inl e)).setCell (p := ⟨K.g, 8, none⟩) (fun _ => .inr rfl) _
  have hF : ∀ k, (D.rv.ownBlock = some k ∨ k = K.g) → base ≤ k := fun k e => by
    rcases e with e | e
    · exact (World.ownsRow.lt h.rgs k e).1
    · rw [e]; exact h.geg
  have hn : ∀ {e : TypeId} {n s : Nat} {v : Value} {xs : List Value}, W.ownsRow base e s v n xs → e ≠ 82 → e ≠ 88 → ∀ k, v.ownBlock = some k → ¬ (D.rv.ownBlock = some k ∨ k = K.g) := fun hr h1 h2 k hk e => by
    rcases e with e | e
    · exact own_apart hr h.rgs h2 k hk e
    · exact h.gne hr h1 k hk e
  refine ⟨h.turn (D' := { D with rv := v2, rs := D.rs ++ [x], sv := D.sv ++ [.slice none 0 0] }) hc hB hF (hn h.ins (by decide) (by decide)) (hn h.pls (by decide) (by decide)) ?_ (hg2.set_ 8 _) ?_ (own_chg h.oft hc (hn h.oft (by decide) (by decide))) (own_chg h.bdy hc (hn h.bdy (by decide) (by decide))) (own_chg h.dps hc (hn h.dps (by decide) (by decide))) ?_ ?_ ?_, hc.mono fun k _ e => ?_⟩
  · rintro (e | e)
    · exact map_own_ne h.mp h.rgs e
    · exact map_blk_ne h.mp h.blk e.symm
  · show World.ownsRow _ _ _ _ v2 (D.rs ++ [x]).length (rgC (D.rs ++ [x]) (D.sv ++ [.slice none 0 0]))
    rw [List.length_append, rgC_app _ _ _ _ h.stl]
    exact own_chg ho (Chg.setCell (Chg.refl (· = K.g) W2) (p := ⟨K.g, 8, none⟩) (fun _ => rfl) _) fun k hk e => own_blk_ne ho hg2 (by decide) (by rw [hk, e])
  · simp [h.stl]
  · intro k y u h1 h2
    by_cases e : k < D.rs.length
    · dsimp only at h1 h2
      rw [List.getElem?_append_left e] at h1
      rw [List.getElem?_append_left (by rw [h.stl]; exact e)] at h2
      exact own_chg (h.sts k y u h1 h2) hc (hn (h.sts k y u h1 h2) (by decide) (by decide))
    · dsimp only at h1 h2
      rw [List.getElem?_append_right (by omega)] at h1
      rw [List.getElem?_append_right (by rw [h.stl]; omega)] at h2
      have e1 : k - D.rs.length = 0 := by
        rcases Nat.eq_zero_or_pos (k - D.rs.length) with e | e
        · exact e
        · rw [List.getElem?_eq_none (by simp; omega)] at h1; cases h1
      rw [e1] at h1
      rw [h.stl, e1] at h2
      simp only [List.getElem?_cons_zero, Option.some.injEq] at h1 h2
      subst h1 h2
      rw [hx]
      exact World.ownsRow_nil _ _ _ _
  · have : ({ D with rv := v2, rs := D.rs ++ [x], sv := D.sv ++ [.slice none 0 0] } : VD).rows K.pv = D.rows K.pv ++ [.slice none 0 0] := by simp [VD.rows]
    rw [this, List.pairwise_append]
    refine ⟨h.sep, List.pairwise_singleton _ _, fun a _ b hb k _ hk' => ?_⟩
    rw [List.mem_singleton] at hb
    subst hb
    cases hk'
  · rcases e with e | e
    · exact .inr (.inr (.inr (.inl e)))
    · exact .inl e
end
end Go.Proofs.YtaeegkljldngmaaDoor
