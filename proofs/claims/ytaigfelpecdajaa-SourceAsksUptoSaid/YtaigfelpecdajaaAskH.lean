/-
  The walk of the program's free.
-/
import Derived.Test.YtaigfelpecdajaaAskG
import Derived.Deep.Onto
namespace Go.Proofs.Ytaigfelpecdajaa
open Go.RowKit

def knT {α : Type} (K : List ByteArray) (t : Nd α) : List ByteArray := if t.kind = 1 ∨ t.kind = 2 then K ++ (t.names ++ t.temps) else K
def nmT {α : Type} (K l : List ByteArray) (t : Nd α) : List ByteArray := if (t.kind = 8 ∨ t.kind = 4) ∧ hasS resL t.name = false ∧ hasS K t.name = false then onceS l t.name else l
def freeT : (f : Nat) → List ByteArray → List ByteArray → TrF f → List ByteArray
  | 0, _, l, _ => l
  | f + 1, K, l, (t : Nd (TrF f)) => t.nodes.foldl (fun l t' => freeT f (knT K t) l t') (nmT K l t)
theorem nmT_len {α : Type} (K l : List ByteArray) (t : Nd α) : (nmT K l t).length ≤ l.length + 1 := by
  unfold nmT
  have := once_len l t.name
  split <;> omega
theorem freeT_len : ∀ (f : Nat) (K l : List ByteArray) (t : TrF f), (freeT f K l t).length ≤ l.length + wtT f t
  | 0, _, _, t => t.elim
  | f + 1, K, l, (t : Nd (TrF f)) => by
    have h1 := fold_len (fun l t' => freeT f (knT K t) l t') (wtT f) (fun l t' => freeT_len f (knT K t) l t') t.nodes (nmT K l t)
    have h2 := nmT_len K l t
    have h3 : wtT (f + 1) t = 1 + t.names.length + t.temps.length + (t.nodes.map (wtT f)).sum := rfl
    show (t.nodes.foldl (fun l t' => freeT f (knT K t) l t') (nmT K l t)).length ≤ _
    rw [h3]
    omega
/-- two rows of their own lie apart -/
def Apart (u v : Value) : Prop := u.ownBlock = none ∨ u.ownBlock ≠ v.ownBlock
theorem apart_new {w1 w' : World} {base B : Nat} {u v : Value} {l K : List ByteArray} (hv : OwnS w1 base v l) (hu : OwnS w' B u K) (hB : w1.heap.size ≤ B) : Apart u v := by
  cases h : u.ownBlock with
  | none => exact .inl h
  | some k =>
    right
    rw [h]
    intro e
    have h1 := (hu.lt k h).1
    have h2 := (hv.lt k e.symm).2
    omega
theorem App.apart {w1 w' : World} {base : Nat} {u v v' : Value} {K : List ByteArray} (h : App w1 v w' v') (hu : OwnS w1 base u K) (ha : Apart u v) : Apart u v' := by
  rcases ha with ha | ha
  · exact .inl ha
  · rcases h.2 with e | ⟨k, e, hk⟩
    · exact .inr (by rw [e]; exact ha)
    · right
      rw [e]
      intro e2
      have := (hu.lt k e2).2
      omega
theorem app_below {w w' : World} (v : Value) (h : Below w.heap.size w w') : App w v w' v := ⟨only_of_below h _, .inl rfl⟩
theorem own_below {w w' : World} {base : Nat} {v : Value} {l : List ByteArray} (h : OwnS w base v l) (hb : Below w.heap.size w w') : OwnS w' base v l :=
  World.ownsRow.kept h (only_of_below hb none) (by cases v.ownBlock <;> simp)
theorem parts_three {w1 : World} {Ak A1 A2 : Option Addr} {K ns ts : List ByteArray} {ck c1 c2 B : Nat} {base : Nat} (hK : OwnS w1 base (.slice Ak K.length ck) K) (h1 : RdS w1 B A1 ns.length ns) (h2 : RdS w1 B A2 ts.length ts) (hB : B ≤ w1.heap.size) :
    PartsAt (w1.alloc (.cells #[.slice Ak K.length ck, .slice A1 ns.length c1, .slice A2 ts.length c2] 23)) w1.heap.size [(Ak, K, ck), (A1, ns, c1), (A2, ts, c2)] := by
  have hb := Blk.new w1 23 #[.slice Ak K.length ck, .slice A1 ns.length c1, .slice A2 ts.length c2]
  have hal : Below w1.heap.size w1 (w1.alloc (.cells #[.slice Ak K.length ck, .slice A1 ns.length c1, .slice A2 ts.length c2] 23)) := (Below.refl _ _).alloc (Nat.le_refl _) _
  have hz : w1.heap.size ≤ (w1.alloc (.cells #[.slice Ak K.length ck, .slice A1 ns.length c1, .slice A2 ts.length c2] 23)).heap.size := by simp
  refine ⟨fun i A l c h => ?_⟩
  match i, h with
  | 0, h =>
    simp only [List.getElem?_cons_zero, Option.some.injEq, Prod.mk.injEq] at h
    obtain ⟨rfl, rfl, rfl⟩ := h
    exact ⟨hb.cell 0, ((OwnS.reads hK).below hal).more hz⟩
  | 1, h =>
    simp only [List.getElem?_cons_succ, List.getElem?_cons_zero, Option.some.injEq, Prod.mk.injEq] at h
    obtain ⟨rfl, rfl, rfl⟩ := h
    exact ⟨hb.cell 1, ((h1.more hB).below hal).more hz⟩
  | 2, h =>
    simp only [List.getElem?_cons_succ, List.getElem?_cons_zero, Option.some.injEq, Prod.mk.injEq] at h
    obtain ⟨rfl, rfl, rfl⟩ := h
    exact ⟨hb.cell 2, ((h2.more hB).below hal).more hz⟩
  | i + 3, h => simp at h
def FreeSaid (f : Nat) : Prop := ∀ (t : TrF f) (cs : List Value) (B base : Nat) (v u : Value) (l K : List ByteArray) (w : World), NodeAt f w B cs t → OwnS w base v l → OwnS w base u K → Apart u v → B ≤ base → base ≤ w.heap.size → l.length + wtT f t ≤ 4000000 → K.length + wtT f t ≤ 4000000 →
  Calls Try.prog 28 #[v, u, .agg cs.toArray] w (SelP w base v (freeT f K l t))
/-- what stands ahead of the loop over the nodes -/
structure FreeMid (f : Nat) (w1 : World) (base : Nat) (v : Value) (R : List ByteArray) (ts : List (TrF f)) (v' u' : Value) (wx : World) (l' K' : List ByteArray) : Prop where
  own : OwnS wx base v' l'
  know : OwnS wx base u' K'
  app : App w1 v wx v'
  apart : Apart u' v'
  fold : ts.foldl (fun l t' => freeT f K' l t') l' = R
  room : l'.length + (ts.map (wtT f)).sum ≤ 4000000
  roomK : K'.length + (ts.map (wtT f)).sum ≤ 4000000
set_option maxRecDepth 20000 in
set_option maxHeartbeats 4000000 in
theorem free_step (f : Nat) (ih : FreeSaid f) : FreeSaid (f + 1) := by
  intro t cs B base v u l K w hT hO hU hap hBb hbw hlen hlenK
  obtain ⟨A1, c1, A2, c2, A3, c3, css, rfl, p1, p2, p3, p4, p5⟩ := hT
  replace hlen : l.length + (1 + t.names.length + t.temps.length + (t.nodes.map (wtT f)).sum) ≤ 4000000 := hlen
  replace hlenK : K.length + (1 + t.names.length + t.temps.length + (t.nodes.map (wtT f)).sum) ≤ 4000000 := hlenK
  have P1 := Lib.hid p1
  have P2 := Lib.hid p2
  have P3 : Hid (NodesAt f w B A3 t.nodes) := Lib.hid ⟨css, p3, p4, p5⟩
  have HSE : Hid (freeT (f + 1) K l t = t.nodes.foldl (fun l t' => freeT f (knT K t) l t') (nmT K l t)) := Lib.hid rfl
  have HNL := Lib.hid (nmT_len K l t)
  have IH := Lib.hid ih
  have HO := Lib.hid hO
  have HU := Lib.hid hU
  have HAPART := Lib.hid hap
  clear p1 p2 p3 p4 p5 ih hO hU hap
  generalize freeT (f + 1) K l t = R at *
  have HKN : Hid (knT K t = if t.kind = 1 ∨ t.kind = 2 then K ++ (t.names ++ t.temps) else K) := Lib.hid rfl
  have HNM : Hid (nmT K l t = if (t.kind = 8 ∨ t.kind = 4) ∧ hasS resL t.name = false ∧ hasS K t.name = false then onceS l t.name else l) := Lib.hid rfl
  generalize knT K t = K2 at *
  generalize nmT K l t = l2 at *
  obtain ⟨kd, nm, ns, ts, xs, pr, pl⟩ := t
  dsimp only at *
  have hx2 : xs.length ≤ 4000000 := Nat.le_trans (wt_nodes f xs) (by omega)
  have HW := Lib.hid hlen
  have HWK := Lib.hid hlenK
  clear hlen hlenK
  obtain ⟨A, c, rfl, -, -⟩ := OwnS.form HO.out
  obtain ⟨Ak, ck, rfl, -, -⟩ := OwnS.form HU.out
  go_enter Try.func28, Try.ntmps28
  go_upto_block 0 with fail
  generalize hw1 : w.alloc (.cells #[.int .i64 kd, .string nm, .slice A1 ns.length c1, .slice A2 ts.length c2, .slice A3 xs.length c3, .int .i64 pr, .int .i64 pl] 26) = w1
  have HA : Hid (Blk w1 w.heap.size 26 #[.int .i64 kd, .string nm, .slice A1 ns.length c1, .slice A2 ts.length c2, .slice A3 xs.length c3, .int .i64 pr, .int .i64 pl]) := Lib.hid (by rw [← hw1]; exact Blk.new w 26 _)
  have hal : Below w.heap.size w w1 := by rw [← hw1]; exact (Below.refl _ _).alloc (Nat.le_refl _) _
  have HO1 : Hid (OwnS w1 base (.slice A l.length c) l) := Lib.hid (own_below HO.out hal)
  have HU1 : Hid (OwnS w1 base (.slice Ak K.length ck) K) := Lib.hid (own_below HU.out hal)
  have P11 : Hid (RdS w1 B A1 ns.length ns) := Lib.hid (P1.out.below (hal.mono (Nat.le_trans hBb hbw)))
  have P12 : Hid (RdS w1 B A2 ts.length ts) := Lib.hid (P2.out.below (hal.mono (Nat.le_trans hBb hbw)))
  have P13 : Hid (NodesAt f w1 B A3 xs) := Lib.hid (P3.out.below (hal.mono (Nat.le_trans hBb hbw)))
  have hbw1 : base ≤ w1.heap.size := Nat.le_trans hbw hal.size
  have HBK : Hid ((Value.slice A l.length c).ownBlock ≠ some w.heap.size) := Lib.hid (own_blk_ne HO1.out HA.out (by decide))
  have HAP : Hid (∀ v' w', App w1 (.slice A l.length c) w' v' → App w (.slice A l.length c) w' v') := Lib.hid (by intro v' w' h; rw [← hw1] at h; exact h.from)
  clear hw1 hal P1 P2 P3 HO HU
  go_cut [0, 1] (fun s0 s1 wx => ∃ wz, wz = wx ∧ ∃ l' K', FreeMid f w1 base (.slice A l.length c) R xs s0 s1 wz l' K')
  case first =>
    have k0 : w1.cell? ⟨w.heap.size, 0, none⟩ = some (.int .i64 kd) := HA.out.cell 0
    have k1 : w1.cell? ⟨w.heap.size, 1, none⟩ = some (.string nm) := HA.out.cell 1
    have k2 : w1.cell? ⟨w.heap.size, 2, none⟩ = some (.slice A1 ns.length c1) := HA.out.cell 2
    have k3 : w1.cell? ⟨w.heap.size, 3, none⟩ = some (.slice A2 ts.length c2) := HA.out.cell 3
    have HPA := Lib.hid (parts_three (c1 := c1) (c2 := c2) HU1.out P11.out P12.out (Nat.le_trans hBb hbw1))
    have HCON := Lib.hid (concat_any w1.heap.size 3 _ _ HPA.out (by simp) (by simp) (by have := HWK.out; simp [joinS]; omega))
    by_cases e1 : kd = 1
    · have t1 : (kd == 1) = true := int_eqb e1
      have HKN2 : Hid (K2 = K ++ (ns ++ ts)) := Lib.hid (by rw [HKN.out, if_pos (.inl e1)])
      have HNM2 : Hid (l2 = l) := Lib.hid (by rw [HNM.out, if_neg (by rintro ⟨h | h, _⟩ <;> omega)])
      clear e1
      go_wp2_with fail
      refine HCON.out.mono ?_
      rintro e w3 ⟨u3, rfl, hu3, hb3⟩
      have hb4 : Below w1.heap.size w1 w3 := ((Below.refl _ _).alloc (Nat.le_refl _) _).trans (hb3.mono (by simp))
      have HMID : Hid (FreeMid f w1 base (.slice A l.length c) R xs (.slice A l.length c) u3 w3 l (K ++ (ns ++ ts))) := Lib.hid ⟨own_below HO1.out hb4, by
          have h := World.ownsRow.mono hu3 (base' := base) (by simp; omega)
          rw [show joinS [(Ak, K, ck), (A1, ns, c1), (A2, ts, c2)] = K ++ (ns ++ ts) from by simp [joinS]] at h
          exact h, app_below _ hb4, apart_new HO1.out hu3 (by simp), by rw [HSE.out, HKN2.out, HNM2.out], by have := HW.out; omega, by have := HWK.out; simp only [List.length_append]; omega⟩
      clear hu3 hb3 hb4 HCON
      go_wp2
      go_meet
      exact ⟨_, rfl, _, _, HMID.out⟩
    · have t1 : (kd == 1) = false := int_neb e1
      by_cases e2 : kd = 2
      · have t2 : (kd == 2) = true := int_eqb e2
        have HKN2 : Hid (K2 = K ++ (ns ++ ts)) := Lib.hid (by rw [HKN.out, if_pos (.inr e2)])
        have HNM2 : Hid (l2 = l) := Lib.hid (by rw [HNM.out, if_neg (by rintro ⟨h | h, _⟩ <;> omega)])
        clear e1 e2
        go_wp2_with fail
        refine HCON.out.mono ?_
        rintro e w3 ⟨u3, rfl, hu3, hb3⟩
        have hb4 : Below w1.heap.size w1 w3 := ((Below.refl _ _).alloc (Nat.le_refl _) _).trans (hb3.mono (by simp))
        have HMID : Hid (FreeMid f w1 base (.slice A l.length c) R xs (.slice A l.length c) u3 w3 l (K ++ (ns ++ ts))) := Lib.hid ⟨own_below HO1.out hb4, by
            have h := World.ownsRow.mono hu3 (base' := base) (by simp; omega)
            rw [show joinS [(Ak, K, ck), (A1, ns, c1), (A2, ts, c2)] = K ++ (ns ++ ts) from by simp [joinS]] at h
            exact h, app_below _ hb4, apart_new HO1.out hu3 (by simp), by rw [HSE.out, HKN2.out, HNM2.out], by have := HW.out; omega, by have := HWK.out; simp only [List.length_append]; omega⟩
        clear hu3 hb3 hb4 HCON
        go_wp2
        go_meet
        exact ⟨_, rfl, _, _, HMID.out⟩
      · have t2 : (kd == 2) = false := int_neb e2
        by_cases e8 : kd = 8
        · have t8 : (kd == 8) = true := int_eqb e8
          have HKN2 : Hid (K2 = K) := Lib.hid (by rw [HKN.out, if_neg (by omega)])
          have HNM2 : Hid (l2 = if hasS resL nm = false ∧ hasS K nm = false then onceS l nm else l) := Lib.hid (by rw [HNM.out]; simp only [show (kd = 8 ∨ kd = 4) from .inl e8, true_and])
          clear e1 e2 e8 HCON
          go_wp2_with fail
          refine (sReserved_any nm w1).mono ?_
          rintro e w3 ⟨rfl, hb3⟩
          have HB3 := Lib.hid hb3
          have HO3 := Lib.hid (own_below HO1.out hb3)
          have HU3 := Lib.hid (own_below HU1.out hb3)
          have j1 : w3.cell? ⟨w.heap.size, 1, none⟩ = some (.string nm) := (HA.out.below hb3 HA.out.lt).cell 1
          have hs3 : w1.heap.size ≤ w3.heap.size := hb3.size
          clear hb3 k0 k1 k2 k3
          cases hr : hasS resL nm with
          | true =>
            have HMID : Hid (FreeMid f w1 base (.slice A l.length c) R xs (.slice A l.length c) (.slice Ak K.length ck) w3 l K) := Lib.hid ⟨HO3.out, HU3.out, app_below _ HB3.out, HAPART.out, by rw [HSE.out, HKN2.out, HNM2.out, if_neg (by rw [hr]; simp)], by have := HW.out; omega, by have := HWK.out; omega⟩
            clear hr
            go_wp2
            go_meet
            exact ⟨_, rfl, _, _, HMID.out⟩
          | false =>
            have HR := Lib.hid hr
            clear hr
            go_wp2_with fail
            refine (sHas_any Ak ck _ K nm w3 (OwnS.reads HU3.out) (by have := HWK.out; omega)).mono ?_
            rintro e w4 ⟨rfl, rfl⟩
            cases hk : hasS K nm with
            | true =>
              have HMID : Hid (FreeMid f w1 base (.slice A l.length c) R xs (.slice A l.length c) (.slice Ak K.length ck) w3 l K) := Lib.hid ⟨HO3.out, HU3.out, app_below _ HB3.out, HAPART.out, by rw [HSE.out, HKN2.out, HNM2.out, if_neg (by rw [hk]; simp)], by have := HW.out; omega, by have := HWK.out; omega⟩
              clear hk
              go_wp2
              go_meet
              exact ⟨_, rfl, _, _, HMID.out⟩
            | false =>
              have HNM3 : Hid (l2 = onceS l nm) := Lib.hid (by rw [HNM2.out, if_pos ⟨HR.out, hk⟩])
              clear hk
              go_wp2_with fail
              refine (sOnce_any base _ l nm w3 HO3.out (by have := HW.out; omega) (Nat.le_trans hbw1 hs3)).mono ?_
              rintro e w5 ⟨v5, rfl, ho5, ha5, -⟩
              have HMID : Hid (FreeMid f w1 base (.slice A l.length c) R xs v5 (.slice Ak K.length ck) w5 (onceS l nm) K) := Lib.hid ⟨ho5, ha5.own HU3.out HAPART.out, (app_below _ HB3.out).trans ha5, ha5.apart HU3.out HAPART.out, by rw [HSE.out, HKN2.out, HNM3.out], by have := HW.out; have := once_len l nm; omega, by have := HWK.out; omega⟩
              clear ho5 ha5
              go_wp2
              go_meet
              exact ⟨_, rfl, _, _, HMID.out⟩
        · have t8 : (kd == 8) = false := int_neb e8
          by_cases e4 : kd = 4
          · have t4 : (kd == 4) = true := int_eqb e4
            have HKN2 : Hid (K2 = K) := Lib.hid (by rw [HKN.out, if_neg (by omega)])
            have HNM2 : Hid (l2 = if hasS resL nm = false ∧ hasS K nm = false then onceS l nm else l) := Lib.hid (by rw [HNM.out]; simp only [show (kd = 8 ∨ kd = 4) from .inr e4, true_and])
            clear e1 e2 e8 e4 HCON
            go_wp2_with fail
            refine (sReserved_any nm w1).mono ?_
            rintro e w3 ⟨rfl, hb3⟩
            have HB3 := Lib.hid hb3
            have HO3 := Lib.hid (own_below HO1.out hb3)
            have HU3 := Lib.hid (own_below HU1.out hb3)
            have j1 : w3.cell? ⟨w.heap.size, 1, none⟩ = some (.string nm) := (HA.out.below hb3 HA.out.lt).cell 1
            have hs3 : w1.heap.size ≤ w3.heap.size := hb3.size
            clear hb3 k0 k1 k2 k3
            cases hr : hasS resL nm with
            | true =>
              have HMID : Hid (FreeMid f w1 base (.slice A l.length c) R xs (.slice A l.length c) (.slice Ak K.length ck) w3 l K) := Lib.hid ⟨HO3.out, HU3.out, app_below _ HB3.out, HAPART.out, by rw [HSE.out, HKN2.out, HNM2.out, if_neg (by rw [hr]; simp)], by have := HW.out; omega, by have := HWK.out; omega⟩
              clear hr
              go_wp2
              go_meet
              exact ⟨_, rfl, _, _, HMID.out⟩
            | false =>
              have HR := Lib.hid hr
              clear hr
              go_wp2_with fail
              refine (sHas_any Ak ck _ K nm w3 (OwnS.reads HU3.out) (by have := HWK.out; omega)).mono ?_
              rintro e w4 ⟨rfl, rfl⟩
              cases hk : hasS K nm with
              | true =>
                have HMID : Hid (FreeMid f w1 base (.slice A l.length c) R xs (.slice A l.length c) (.slice Ak K.length ck) w3 l K) := Lib.hid ⟨HO3.out, HU3.out, app_below _ HB3.out, HAPART.out, by rw [HSE.out, HKN2.out, HNM2.out, if_neg (by rw [hk]; simp)], by have := HW.out; omega, by have := HWK.out; omega⟩
                clear hk
                go_wp2
                go_meet
                exact ⟨_, rfl, _, _, HMID.out⟩
              | false =>
                have HNM3 : Hid (l2 = onceS l nm) := Lib.hid (by rw [HNM2.out, if_pos ⟨HR.out, hk⟩])
                clear hk
                go_wp2_with fail
                refine (sOnce_any base _ l nm w3 HO3.out (by have := HW.out; omega) (Nat.le_trans hbw1 hs3)).mono ?_
                rintro e w5 ⟨v5, rfl, ho5, ha5, -⟩
                have HMID : Hid (FreeMid f w1 base (.slice A l.length c) R xs v5 (.slice Ak K.length ck) w5 (onceS l nm) K) := Lib.hid ⟨ho5, ha5.own HU3.out HAPART.out, (app_below _ HB3.out).trans ha5, ha5.apart HU3.out HAPART.out, by rw [HSE.out, HKN2.out, HNM3.out], by have := HW.out; have := once_len l nm; omega, by have := HWK.out; omega⟩
                clear ho5 ha5
                go_wp2
                go_meet
                exact ⟨_, rfl, _, _, HMID.out⟩
          · have t4 : (kd == 4) = false := int_neb e4
            have HMID : Hid (FreeMid f w1 base (.slice A l.length c) R xs (.slice A l.length c) (.slice Ak K.length ck) w1 l K) := Lib.hid ⟨HO1.out, HU1.out, App.refl _ _, HAPART.out, by rw [HSE.out, HKN.out, HNM.out, if_neg (by omega), if_neg (by rintro ⟨h | h, _⟩ <;> omega)], by have := HW.out; omega, by have := HWK.out; omega⟩
            clear e1 e2 e8 e4 HCON
            go_wp2
            go_meet
            exact ⟨_, rfl, _, _, HMID.out⟩
  case rest =>
    obtain ⟨wx, rfl, l3, K3, hmid⟩ := hcut
    have HM := Lib.hid hmid
    obtain ⟨Am, cm, rfl, -, -⟩ := OwnS.form hmid.own
    obtain ⟨An, cn, rfl, -, -⟩ := OwnS.form hmid.know
    have HAm : Hid (Blk wx w.heap.size 26 #[.int .i64 kd, .string nm, .slice A1 ns.length c1, .slice A2 ts.length c2, .slice A3 xs.length c3, .int .i64 pr, .int .i64 pl]) := Lib.hid (hmid.app.blk HA.out HBK.out)
    have k4 : wx.cell? ⟨w.heap.size, 4, none⟩ = some (.slice A3 xs.length c3) := HAm.out.cell 4
    have hbx : base ≤ wx.heap.size := Nat.le_trans hbw1 hmid.app.size
    have PX : Hid (NodesAt f wx B A3 xs) := Lib.hid (P13.out.below ((hmid.app.below hbw1 fun k hk => OwnS.base HO1.out hk).mono hBb))
    clear hmid HA HO1 HU1 P11 P12 P13 HBK HW HWK HKN HNM HSE HNL HAPART hbw1
    go_wp2
    go_loopw [0, 42] (fun v' i wr => ∃ k : Nat, i = .int .i64 k ∧ k ≤ xs.length ∧ ∃ l', OwnS wr base v' l' ∧ App wx (.slice Am l3.length cm) wr v' ∧ (xs.drop k).foldl (fun l t' => freeT f K3 l t') l' = R ∧ l'.length + ((xs.drop k).map (wtT f)).sum ≤ 4000000) (fun _ i _ => xs.length - (intOf i).toNat)
    case atStart => exact ⟨0, rfl, Nat.zero_le _, l3, HM.out.own, App.refl _ _, HM.out.fold, HM.out.room⟩
    case round =>
      obtain ⟨k, rfl, hk, l', ho, ha, hf, hs⟩ := hrel
      have HOr := Lib.hid ho
      have HAr := Lib.hid ha
      have HF := Lib.hid hf
      have HS := Lib.hid hs
      obtain ⟨Ar, cr, rfl, -, -⟩ := OwnS.form ho
      have hbr : base ≤ wr.heap.size := Nat.le_trans hbx ha.size
      have HB : Hid (Below B wx wr) := Lib.hid ((ha.below hbx fun k hk => OwnS.base HM.out.own hk).mono hBb)
      have HUr := Lib.hid (ha.own HM.out.know HM.out.apart)
      have HAPr := Lib.hid (ha.apart HM.out.know HM.out.apart)
      obtain ⟨css1, q1, q2, q3⟩ := PX.out.below HB.out
      clear ho ha hf hs
      by_cases hkl : k < xs.length
      · obtain ⟨b1, o1, x0, x1, x2, x3, x4, x5, x6, rfl, hbk1, n1, a0, a1, a2, a3, a4, a5, a6⟩ := NodeAt.sub q1 q2 q3 hkl
        obtain ⟨ka', na', Aa1, na1, ca1, Aa2, na2, ca2, Aa3, na3, ca3, pa', pla', rfl, rfl, rfl, rfl, rfl, rfl, rfl⟩ := n1.forms
        have N1 := Lib.hid n1
        clear q1 q2 q3 n1
        have z1 : b1 < wr.heap.size := by omega
        have l1 : (0 : Int) ≤ (k : Int) := by omega
        have l2 : (k : Int) < (xs.length : Int) := by omega
        have HFD : Hid ((xs.drop (k + 1)).foldl (fun l t' => freeT f K3 l t') (freeT f K3 l' xs[k]) = R) := Lib.hid (by rw [← HF.out, fold_drop _ hkl])
        have HSD : Hid (l'.length + (wtT f xs[k] + ((xs.drop (k + 1)).map (wtT f)).sum) ≤ 4000000) := Lib.hid (by rw [← sum_drop (wtT f) hkl]; exact HS.out)
        have HLT := Lib.hid (freeT_len f K3 l' xs[k])
        have HWT : Hid (K3.length + wtT f xs[k] ≤ 4000000) := Lib.hid (by have := HM.out.roomK; have := wt_sub (List.getElem_mem hkl); omega)
        have HIH := Lib.hid fun (o : Obj) => IH.out xs[k] _ B base _ _ l' K3 (wr.alloc o) (N1.out.below ((Below.refl _ _).alloc (by omega) o)) (World.ownsRow.alloc HOr.out o) (World.ownsRow.alloc HUr.out o) HAPr.out hBb (by simp; omega) (by have := HSD.out; omega) HWT.out
        go_wp2_with fail
        refine (HIH.out _).mono ?_
        rintro e w5 ⟨v5, rfl, ho5, ha5⟩
        have HO5 := Lib.hid ho5
        have HA5 : Hid (App wx (.slice Am l3.length cm) w5 v5) := Lib.hid (HAr.out.trans ha5.from)
        clear ho5 ha5 HIH
        go_wp2
        go_roundw
        case rel => exact ⟨k + 1, by go_num, hkl, freeT f K3 l' xs[k], HO5.out, HA5.out, HFD.out, by have := HSD.out; have := HLT.out; omega⟩
        case measure => simp [intOf]; omega
      · have HF2 : Hid (l' = R) := Lib.hid (by have h := HF.out; rw [List.drop_eq_nil_of_le (by omega)] at h; exact h)
        clear q1 q2 q3
        go_wp2
        go_ret
        exact ⟨_, rfl, by rw [← HF2.out]; exact HOr.out, HAP.out _ _ (HM.out.app.trans HAr.out)⟩
theorem free_any : ∀ f, FreeSaid f
  | 0 => fun t => t.elim
  | f + 1 => free_step f (free_any f)
end Go.Proofs.Ytaigfelpecdajaa
