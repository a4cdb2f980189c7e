/-
  The verifier's regions walked one behind the other. No statement of the seat is proved here.
-/
import Derived.Test.YtaeegkljldngmaaDoorCvN
namespace Go.Proofs.YtaeegkljldngmaaDoor
open Go.RowKit

/-- a verifier's regions: those of a splitting, with their greatest depths -/
def RsMs (rs0 rs : List Rg) (ms : List Int) : Prop := rs.length = rs0.length ∧ ∀ k, k < rs0.length → rgAt rs k = { rgAt rs0 k with most := ms.getD k 0 }
/-- behind q regions -/
structure WSt (base : Nat) (K : VK) (S : Sp) (rb rc : Nat) (RR : List Int × Int) (W0 : World) (q : Nat) (W : World) : Prop where
  ex : ∃ (D : VD) (ms : List Int), VM base K D W ∧ D.rv = .slice (some ⟨rb, 0, none⟩) S.rs.length rc ∧ ms.length = q ∧ RsMs S.rs D.rs ms ∧ D.body = S.body ∧ D.dp.length = K.l.length ∧ DpOk D.dp ∧ (ms ++ (wksF K.l (S.rs.drop q) D.dp D.fault).1, (wksF K.l (S.rs.drop q) D.dp D.fault).2) = RR
  old : Below base W0 W
/-- what is known of the splitting -/
structure SpW (K : VK) (S : Sp) : Prop where
  ok : SpOk K.l K.l.length S
  more : SpMore K.l K.l.length S
  jm : jumpsF K.l S.of K.l.length 0 = none
  en : ¬ 0 ≤ endsF K.l S.rs (-1)
  ko : KOk K
theorem drop_rg {rs : List Rg} {q : Nat} (h : q < rs.length) : rs.drop q = rgAt rs q :: rs.drop (q + 1) := by
  rw [List.drop_eq_getElem_cons h]
  congr 1
  unfold rgAt
  rw [List.getD_eq_getElem?_getD, List.getElem?_eq_getElem h]
  rfl
theorem rsMs_nil {rs : List Rg} (h : ∀ q, q < rs.length → (rgAt rs q).most = 0) : RsMs rs rs [] := ⟨rfl, fun k hk => by
  have := h k hk
  generalize rgAt rs k = g at *
  cases g
  simp only at this
  subst this
  rfl⟩
theorem wst_start {base : Nat} {K : VK} {S : Sp} {D : VD} {rb rc : Nat} {W0 W : World} (h : VM base K D W) (hs : SpW K S) (hd : D.sp S) (hrv : D.rv = .slice (some ⟨rb, 0, none⟩) S.rs.length rc) (hdp : D.dp = List.replicate K.l.length (-1)) (hf : D.fault = -1) (ho : Below base W0 W) :
    WSt base K S rb rc (wksF K.l S.rs (List.replicate K.l.length (-1)) (-1)) W0 0 W := by
  refine ⟨⟨D, [], h, hrv, rfl, by rw [hd.1]; exact rsMs_nil hs.more.mo, hd.2.2, by rw [hdp]; simp, by rw [hdp]; exact dpOk_rep _, ?_⟩, ho⟩
  rw [hdp, hf]
  rfl
theorem wst_step {base : Nat} {K : VK} {S : Sp} {rb rc : Nat} {RR : List Int × Int} {W0 W : World} {q : Nat} (h : WSt base K S rb rc RR W0 q W) (hs : SpW K S) (hB : base ≤ W0.heap.size) (hq : q < S.rs.length) :
    Calls Tryd.prog 32 #[.pointer (some ⟨K.g, 0, none⟩), .pointer (some ⟨rb, q * 6, none⟩)] W fun e w' => e = .returned (.tuple #[]) ∧ WSt base K S rb rc RR W0 (q + 1) w' := by
  obtain ⟨⟨D, ms, hv, hrv, hml, hrs, hbd, hdl, hdo, hR⟩, ho⟩ := h
  have hg := hrs.2 q hq
  have hok : WalkOk K.l (rgAt D.rs q).steps := by
    rw [hg]
    exact walkOk_of hs.ok hs.more hs.ko.len hs.jm hs.en hq
  have hq' : q < D.rs.length := by rw [hrs.1]; exact hq
  have hrl : D.rv = .slice (some ⟨rb, 0, none⟩) D.rs.length rc := by rw [hrs.1]; exact hrv
  have hm0 : (rgAt D.rs q).most = 0 := by
    rw [hg]
    show ms.getD q 0 = 0
    rw [List.getD_eq_getElem?_getD, List.getElem?_eq_none (by omega)]
    rfl
  have hst : (rgAt D.rs q).steps = (rgAt S.rs q).steps := by rw [hg]
  have hak := wkAll_ok (st := (rgAt D.rs q).steps) (f := D.fault) hs.ko.ok hok.lt hdo hdl
  refine (walk_any hv (Nat.le_trans hB ho.size) hs.ko q hq' rb rc hrl hok hm0 hdl hdo).mono fun e w' hp => ?_
  obtain ⟨he, ⟨D', h1, e1, e2, e3, e4, e5, e6, e7, e8, e9, e10⟩, hb⟩ := hp
  refine ⟨he, ⟨D', ms ++ [(wkAll K.l (rgAt D.rs q).steps D.dp D.fault).most], h1, e1.trans hrv, by simp [hml], ⟨by rw [e7]; simp [setMost, hrs.1], fun k hk => ?_⟩, e6.trans hbd, by rw [e9]; exact hak.1, by rw [e9]; exact hak.2, ?_⟩, ho.trans hb⟩
  · rw [e7]
    unfold setMost
    rw [rgAt_set hq', getD_snoc, hml]
    by_cases e : k = q
    · subst e
      rw [if_pos rfl, if_pos rfl, hg]
    · rw [if_neg e, if_neg e]
      exact hrs.2 k hk
  · rw [drop_rg hq] at hR
    unfold wksF at hR
    dsimp only at hR
    rw [e9, e10, hst, List.append_assoc]
    exact hR
end Go.Proofs.YtaeegkljldngmaaDoor
