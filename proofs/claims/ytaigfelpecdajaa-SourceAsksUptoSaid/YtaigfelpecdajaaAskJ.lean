/-
  The walk of the document's Free.
-/
import Derived.Test.YtaigfelpecdajaaAskI
namespace Go.Proofs.Ytaigfelpecdajaa
open Go.RowKit

/-- from (w, v) to (w', v'): only v's and u's own rows and new blocks have turned; v' lies in v's row or in a new block -/
structure App2 (w : World) (v u : Value) (w' : World) (v' : Value) : Prop where
  os : w'.os = w.os
  tape : w'.tape = w.tape
  output : w'.output = w.output
  size : w.heap.size ≤ w'.heap.size
  block : ∀ k, k < w.heap.size → some k ≠ v.ownBlock → some k ≠ u.ownBlock → w'.heap[k]? = w.heap[k]?
  at_ : v'.ownBlock = v.ownBlock ∨ ∃ k, v'.ownBlock = some k ∧ w.heap.size ≤ k
section
variable {w w1 w2 w' : World} {v u v1 v2 v' : Value}
theorem App2.refl (w : World) (v u : Value) : App2 w v u w v := ⟨rfl, rfl, rfl, Nat.le_refl _, fun _ _ _ _ => rfl, .inl rfl⟩
theorem App2.of (h : App w v w' v') (u : Value) : App2 w v u w' v' := ⟨h.1.os, h.1.tape, h.1.output, h.1.size, fun k hk hne _ => h.1.block k hk hne, h.2⟩
theorem App2.swap (h : App w u w' v') (v : Value) : App2 w v u w' v := ⟨h.1.os, h.1.tape, h.1.output, h.1.size, fun k hk _ hne => h.1.block k hk hne, .inl rfl⟩
theorem App2.trans (h : App2 w v u w1 v1) (k : App2 w1 v1 u w2 v2) : App2 w v u w2 v2 := by
  refine ⟨k.os.trans h.os, k.tape.trans h.tape, k.output.trans h.output, Nat.le_trans h.size k.size, fun i hi hv hu => ?_, ?_⟩
  · refine (k.block i (Nat.lt_of_lt_of_le hi h.size) ?_ hu).trans (h.block i hi hv hu)
    rcases h.at_ with e | ⟨j, e, hj⟩
    · rw [e]; exact hv
    · rw [e]; intro hh; injection hh with hh; omega
  · have hs := h.size
    rcases k.at_ with e | ⟨j, e, hj⟩
    · rw [e]; exact h.at_
    · exact .inr ⟨j, e, by omega⟩
theorem App2.blk {g : Nat} {t : TypeId} {cs : Array Value} (h : App2 w v u w' v') (hb : Blk w g t cs) (hv : v.ownBlock ≠ some g) (hu : u.ownBlock ≠ some g) : Blk w' g t cs :=
  (h.block g hb.lt (fun e => hv e.symm) (fun e => hu e.symm)).trans hb
theorem App2.below {base : Nat} (h : App2 w v u w' v') (hb : base ≤ w.heap.size) (hv : ∀ k, v.ownBlock = some k → base ≤ k) (hu : ∀ k, u.ownBlock = some k → base ≤ k) : Below base w w' :=
  ⟨h.os, h.tape, h.output, h.size, fun i hi => h.block i (by omega) (fun e => by have := hv i e.symm; omega) (fun e => by have := hu i e.symm; omega)⟩
theorem App2.apart {base : Nat} {K : List ByteArray} (h : App2 w v u w' v') (hu : OwnS w base u K) (ha : Apart u v) : Apart u v' := by
  rcases ha with ha | ha
  · exact .inl ha
  · rcases h.at_ with e | ⟨k, e, hk⟩
    · exact .inr (by rw [e]; exact ha)
    · right
      rw [e]
      intro e2
      have := (hu.lt k e2).2
      omega
theorem Apart.symm (h : Apart u v) : v.ownBlock = none ∨ v.ownBlock ≠ u.ownBlock := by
  rcases h with h | h
  · by_cases hv : v.ownBlock = none
    · exact .inl hv
    · exact .inr (by rw [h]; exact hv)
  · exact .inr (Ne.symm h)
end
/-- what Free leaves: the list, what is known as it was -/
def FreeRP (w : World) (base : Nat) (v u : Value) (l' K : List ByteArray) (e : Ending) (w' : World) : Prop := ∃ v', e = .returned v' ∧ OwnS w' base v' l' ∧ OwnS w' base u K ∧ App2 w v u w' v'
def FreeRSaid (f : Nat) : Prop := ∀ (t : TrF f) (cs : List Value) (B base : Nat) (v u : Value) (l K : List ByteArray) (w : World), NodeAt f w B cs t → OwnS w base v l → OwnS w base u K → Apart u v → B ≤ base → base ≤ w.heap.size → l.length + wtT f t ≤ 4000000 → K.length + wtT f t ≤ 4000000 →
  Calls Try.prog 14 #[.agg cs.toArray, u, v] w (FreeRP w base v u (freeT f K l t) K)
/-- what stands behind the first if: what is known now -/
structure KnowMid (w1 : World) (base : Nat) (v u : Value) (l K K2 : List ByteArray) (u' : Value) (wz : World) : Prop where
  own : OwnS wz base v l
  know : OwnS wz base u' K2
  below : Below w1.heap.size w1 wz
  apart : Apart u' v
  back : ∀ wr v', App2 wz v u' wr v' → OwnS wr base u' K2 → App2 w1 v u wr v' ∧ OwnS wr base u K
theorem KnowMid.same {w1 : World} {base : Nat} {v u : Value} {l K : List ByteArray} (ho : OwnS w1 base v l) (hu : OwnS w1 base u K) (ha : Apart u v) : KnowMid w1 base v u l K K u w1 :=
  ⟨ho, hu, Below.refl _ _, ha, fun _ _ h1 h2 => ⟨h1, h2⟩⟩
theorem KnowMid.new {w1 wz : World} {base : Nat} {v u u' : Value} {l K K2 : List ByteArray} (ho : OwnS w1 base v l) (hu : OwnS w1 base u K) (ha : Apart u v) (hb : Below w1.heap.size w1 wz) (hn : OwnS wz w1.heap.size u' K2) (hbase : base ≤ w1.heap.size) : KnowMid w1 base v u l K K2 u' wz := by
  refine ⟨own_below ho hb, World.ownsRow.mono hn hbase, hb, apart_new ho hn (Nat.le_refl _), fun wr v' h1 h2 => ?_⟩
  have hg : ∀ k, k < w1.heap.size → some k ≠ v.ownBlock → wr.heap[k]? = w1.heap[k]? := fun k hk hv =>
    (h1.block k (Nat.lt_of_lt_of_le hk hb.size) hv (fun e => by have := (hn.lt k e.symm).1; omega)).trans (hb.block k hk)
  have happ : App w1 v wr v' := ⟨⟨h1.os.trans hb.os, h1.tape.trans hb.tape, h1.output.trans hb.output, Nat.le_trans hb.size h1.size, hg⟩, by
    rcases h1.at_ with e | ⟨k, e, hk⟩
    · exact .inl e
    · exact .inr ⟨k, e, Nat.le_trans hb.size hk⟩⟩
  exact ⟨App2.of happ u, happ.own hu ha⟩
set_option maxRecDepth 20000 in
set_option maxHeartbeats 4000000 in
theorem freeR_step (f : Nat) (ih : FreeRSaid f) : FreeRSaid (f + 1) := by
  intro t cs B base v u l K w hT hO hU hap hBb hbw hlen hlenK
  obtain ⟨A1, c1, A2, c2, A3, c3, css, rfl, p1, p2, p3, p4, p5⟩ := hT
  replace hlen : l.length + (1 + t.names.length + t.temps.length + (t.nodes.map (wtT f)).sum) ≤ 4000000 := hlen
  replace hlenK : K.length + (1 + t.names.length + t.temps.length + (t.nodes.map (wtT f)).sum) ≤ 4000000 := hlenK
  have P1 := Lib.hid p1
  have P2 := Lib.hid p2
  have P3 : Hid (NodesAt f w B A3 t.nodes) := Lib.hid ⟨css, p3, p4, p5⟩
  have HSE : Hid (freeT (f + 1) K l t = t.nodes.foldl (fun l t' => freeT f (knT K t) l t') (nmT K l t)) := Lib.hid rfl
  have HNL := Lib.hid (nmT_len K l t)
  have IH := Lib.hid ih
  have HO := Lib.hid hO
  have HU := Lib.hid hU
  have HAPART := Lib.hid hap
  clear p1 p2 p3 p4 p5 ih hO hU hap
  generalize freeT (f + 1) K l t = R at *
  have HKN : Hid (knT K t = if t.kind = 1 ∨ t.kind = 2 then K ++ (t.names ++ t.temps) else K) := Lib.hid rfl
  have HNM : Hid (nmT K l t = if (t.kind = 8 ∨ t.kind = 4) ∧ hasS resL t.name = false ∧ hasS K t.name = false then onceS l t.name else l) := Lib.hid rfl
  generalize knT K t = K2 at *
  generalize nmT K l t = l2 at *
  obtain ⟨kd, nm, ns, ts, xs, pr, pl⟩ := t
  dsimp only at *
  have hx2 : xs.length ≤ 4000000 := Nat.le_trans (wt_nodes f xs) (by omega)
  have HW := Lib.hid hlen
  have HWK := Lib.hid hlenK
  clear hlen hlenK
  obtain ⟨A, c, rfl, -, -⟩ := OwnS.form HO.out
  obtain ⟨Ak, ck, rfl, -, -⟩ := OwnS.form HU.out
  obtain ⟨i0, hi, hz0, hz1, hz2⟩ := info_parts info9
  go_enter Try.func14, Try.ntmps14
  go_upto_region 2 with fail
  generalize hw1 : w.alloc (.cells #[.int .i64 kd, .string nm, .slice A1 ns.length c1, .slice A2 ts.length c2, .slice A3 xs.length c3, .int .i64 pr, .int .i64 pl] 26) = w1
  have HA : Hid (Blk w1 w.heap.size 26 #[.int .i64 kd, .string nm, .slice A1 ns.length c1, .slice A2 ts.length c2, .slice A3 xs.length c3, .int .i64 pr, .int .i64 pl]) := Lib.hid (by rw [← hw1]; exact Blk.new w 26 _)
  have hal : Below w.heap.size w w1 := by rw [← hw1]; exact (Below.refl _ _).alloc (Nat.le_refl _) _
  have HO1 : Hid (OwnS w1 base (.slice A l.length c) l) := Lib.hid (own_below HO.out hal)
  have HU1 : Hid (OwnS w1 base (.slice Ak K.length ck) K) := Lib.hid (own_below HU.out hal)
  have P11 : Hid (RdS w1 B A1 ns.length ns) := Lib.hid (P1.out.below (hal.mono (Nat.le_trans hBb hbw)))
  have P12 : Hid (RdS w1 B A2 ts.length ts) := Lib.hid (P2.out.below (hal.mono (Nat.le_trans hBb hbw)))
  have P13 : Hid (NodesAt f w1 B A3 xs) := Lib.hid (P3.out.below (hal.mono (Nat.le_trans hBb hbw)))
  have hbw1 : base ≤ w1.heap.size := Nat.le_trans hbw hal.size
  have HAL := Lib.hid hal
  clear hw1 hal P1 P2 P3 HO HU
  go_cut [17] (fun s17 wx => ∃ b : Bool, s17 = .bool b ∧ b = decide (kd = 1 ∨ kd = 2) ∧ w1 = wx)
  case first =>
    by_cases e1 : kd = 1
    · have t1 : (kd == 1) = true := int_eqb e1
      have HD : Hid (decide (kd = 1 ∨ kd = 2) = true) := Lib.hid (by simp [e1])
      clear e1
      go_wp2
      go_meet
      exact ⟨_, rfl, HD.out.symm, rfl⟩
    · have t1 : (kd == 1) = false := int_neb e1
      by_cases e2 : kd = 2
      · have t2 : (kd == 2) = true := int_eqb e2
        have HD : Hid (decide (kd = 1 ∨ kd = 2) = true) := Lib.hid (by simp [e2])
        clear e1 e2
        go_wp2
        go_meet
        exact ⟨_, rfl, HD.out.symm, rfl⟩
      · have t2 : (kd == 2) = false := int_neb e2
        have HD : Hid (decide (kd = 1 ∨ kd = 2) = false) := Lib.hid (by simp [e1, e2])
        clear e1 e2
        go_wp2
        go_meet
        exact ⟨_, rfl, HD.out.symm, rfl⟩
  case rest =>
    obtain ⟨b, rfl, hb, rfl⟩ := hcut
    have HBB := Lib.hid hb
    clear hb
    go_upto_if 17 with fail
    go_cut [1] (fun s1 wx => ∃ wz, wz = wx ∧ KnowMid w1 base (.slice A l.length c) (.slice Ak K.length ck) l K K2 s1 wz)
    case first =>
      cases b with
      | true =>
        have e12 : kd = 1 ∨ kd = 2 := by simpa using HBB.out.symm
        have HK2 : Hid (K2 = K ++ (ns ++ ts)) := Lib.hid (by rw [HKN.out, if_pos e12])
        clear e12
        go_wp2_with (first
          | (at_builtin; refine wpList_append_any _ rfl (.tmp 18) (.tmp 19) 23 rfl w1.heap.size 9 i0 _ 1 16 Try.underlying23 hi hz0 hz1 hz2 rfl (by decide) _ 0 [] rfl (World.ownsRow_nil w1 w1.heap.size 9 1) _ _ _ _ (K.map Value.string) rfl (OwnS.reads HU1.out) (strs_one _) (by have := HWK.out; simp only [maxLen]; omega) (by have := HWK.out; omega) (Nat.le_refl _) ?_; intro v3 w3 hown3 hgrow3 hv3; have HO3 := Lib.hid hown3; have HB3 : Hid (Below w1.heap.size w1 w3) := Lib.hid ((Below.refl _ _).grown hgrow3 (Nat.le_refl _) (by intro k hk; cases hk)); have k2 : w3.cell? ⟨w.heap.size, 2, none⟩ = some (.slice A1 ns.length c1) := (HA.out.below HB3.out HA.out.lt).cell 2; clear hown3 hgrow3 hv3)
          | (at_builtin; refine wpList_append_any _ rfl (.tmp 21) (.tmp 23) 23 rfl w1.heap.size 9 i0 _ 1 16 Try.underlying23 hi hz0 hz1 hz2 rfl (by decide) _ _ _ rfl HO3.out _ _ _ _ (ns.map Value.string) rfl (P11.out.below (HB3.out.mono (Nat.le_trans hBb hbw1))) (strs_one _) (by have := HWK.out; simp only [maxLen]; omega) (by have := HWK.out; omega) HB3.out.size ?_; intro v4 w4 hown4 hgrow4 hv4; have HO4 := Lib.hid hown4; have HB4 : Hid (Below w1.heap.size w1 w4) := Lib.hid (HB3.out.grown hgrow4 HB3.out.size (fun k hk => (World.ownsRow.lt HO3.out k hk).1)); have k3 : w4.cell? ⟨w.heap.size, 3, none⟩ = some (.slice A2 ts.length c2) := (HA.out.below HB4.out HA.out.lt).cell 3; clear hown4 hgrow4 hv4)
          | (at_builtin; refine wpList_append_any _ rfl (.tmp 25) (.tmp 27) 23 rfl w1.heap.size 9 i0 _ 1 16 Try.underlying23 hi hz0 hz1 hz2 rfl (by decide) _ _ _ rfl HO4.out _ _ _ _ (ts.map Value.string) rfl (P12.out.below (HB4.out.mono (Nat.le_trans hBb hbw1))) (strs_one _) (by have := HWK.out; simp only [maxLen]; omega) (by have := HWK.out; omega) HB4.out.size ?_; intro v5 w5 hown5 hgrow5 hv5; have HO5 := Lib.hid hown5; have HB5 : Hid (Below w1.heap.size w1 w5) := Lib.hid (HB4.out.grown hgrow5 HB4.out.size (fun k hk => (World.ownsRow.lt HO4.out k hk).1)); clear hown5 hgrow5 hv5))
        go_meet
        have HN : Hid (OwnS w5 w1.heap.size v5 (K ++ (ns ++ ts))) := Lib.hid (by
          show w5.ownsRow w1.heap.size 9 1 v5 (K ++ (ns ++ ts)).length ((K ++ (ns ++ ts)).map Value.string)
          rw [show (K ++ (ns ++ ts)).length = 0 + K.length + ns.length + ts.length from by simp only [List.length_append]; omega, show (K ++ (ns ++ ts)).map Value.string = [] ++ K.map Value.string ++ ns.map Value.string ++ ts.map Value.string from by simp]
          exact HO5.out)
        exact ⟨_, rfl, by rw [HK2.out]; exact KnowMid.new HO1.out HU1.out HAPART.out HB5.out HN.out hbw1⟩
      | false =>
        have e12 : ¬ (kd = 1 ∨ kd = 2) := by simpa using HBB.out.symm
        have HK2 : Hid (K2 = K) := Lib.hid (by rw [HKN.out, if_neg e12])
        clear e12
        go_wp2
        go_meet
        exact ⟨_, rfl, by rw [HK2.out]; exact KnowMid.same HO1.out HU1.out HAPART.out⟩
    case rest =>
      obtain ⟨wz, rfl, hkm⟩ := hcut
      have HKM := Lib.hid hkm
      obtain ⟨An, cn, rfl, -, -⟩ := OwnS.form hkm.know
      have HAz : Hid (Blk wz w.heap.size 26 #[.int .i64 kd, .string nm, .slice A1 ns.length c1, .slice A2 ts.length c2, .slice A3 xs.length c3, .int .i64 pr, .int .i64 pl]) := Lib.hid (HA.out.below hkm.below HA.out.lt)
      have hbz : base ≤ wz.heap.size := Nat.le_trans hbw1 hkm.below.size
      have hK2 : K2.length ≤ 4000000 := by
        have := HWK.out
        rw [HKN.out]
        split <;> (try simp only [List.length_append]) <;> omega
      have HK2 := Lib.hid hK2
      clear hkm hK2 HBB hi hz0 hz1 hz2
      go_upto_region 7 with fail
      go_cut [50] (fun s50 wx => ∃ wy, wy = wx ∧ ∃ b : Bool, s50 = .bool b ∧ b = decide ((kd = 8 ∨ kd = 4) ∧ hasS resL nm = false ∧ hasS K2 nm = false) ∧ OwnS wy base (.slice A l.length c) l ∧ OwnS wy base (.slice An K2.length cn) K2 ∧ App2 wz (.slice A l.length c) (.slice An K2.length cn) wy (.slice A l.length c))
      case first =>
        have k1 : wz.cell? ⟨w.heap.size, 1, none⟩ = some (.string nm) := HAz.out.cell 1
        by_cases e8 : kd = 8
        · have t8 : (kd == 8) = true := int_eqb e8
          have HQ : Hid (∀ b : Bool, b = decide (hasS resL nm = false ∧ hasS K2 nm = false) → b = decide ((kd = 8 ∨ kd = 4) ∧ hasS resL nm = false ∧ hasS K2 nm = false)) := Lib.hid (fun b hb => by rw [hb]; simp only [show (kd = 8 ∨ kd = 4) from .inl e8, true_and])
          clear e8
          go_wp2_with fail
          refine (rReserved_any nm wz).mono ?_
          rintro e w3 ⟨rfl, rfl⟩
          cases hr : hasS resL nm with
          | true =>
            have HD := Lib.hid (HQ.out false (by rw [hr]; simp))
            clear hr
            go_wp2
            go_meet
            exact ⟨_, rfl, _, rfl, HD.out, HKM.out.own, HKM.out.know, App2.refl _ _ _⟩
          | false =>
            have HR := Lib.hid hr
            clear hr
            go_wp2_with fail
            refine (rOnce_any base _ K2 nm wz HKM.out.know (by have := HK2.out; omega) hbz).mono ?_
            rintro e w4 ⟨u4, rfl, ho4, ha4, hk4⟩
            have HA4 : Hid (App2 wz (.slice A l.length c) (.slice An K2.length cn) w4 (.slice A l.length c)) := Lib.hid (App2.swap ha4 _)
            have HO4 : Hid (OwnS w4 base (.slice A l.length c) l) := Lib.hid (World.ownsRow.kept HKM.out.own ha4.1 (Apart.symm HKM.out.apart))
            have HK4 := Lib.hid hk4
            have hkz : K2.length ≤ 4000000 := HK2.out
            cases hk : hasS K2 nm with
            | true =>
              have HD := Lib.hid (HQ.out false (by rw [hk]; simp))
              rw [onceS_eq, hk] at ho4
              obtain ⟨A4, c4, rfl, -, -⟩ := OwnS.form (show OwnS w4 base u4 K2 from ho4)
              clear hk ho4 ha4 hk4
              go_wp2
              go_meet
              exact ⟨_, rfl, _, rfl, HD.out, HO4.out, HK4.out, HA4.out⟩
            | false =>
              have HD := Lib.hid (HQ.out true (by rw [hk, HR.out]; simp))
              rw [onceS_eq, hk] at ho4
              obtain ⟨A4, c4, hu4, -, -⟩ := OwnS.form (show OwnS w4 base u4 (K2 ++ [nm]) from ho4)
              rw [show (K2 ++ [nm]).length = K2.length + 1 from by simp] at hu4
              subst hu4
              clear hk ho4 ha4 hk4
              go_wp2
              go_meet
              exact ⟨_, rfl, true, by rw [show decide ((K2.length : Int) < (K2.length : Int) + 1) = true from decide_eq_true (by omega)], HD.out, HO4.out, HK4.out, HA4.out⟩
        · have t8 : (kd == 8) = false := int_neb e8
          by_cases e4 : kd = 4
          · have t4 : (kd == 4) = true := int_eqb e4
            have HQ : Hid (∀ b : Bool, b = decide (hasS resL nm = false ∧ hasS K2 nm = false) → b = decide ((kd = 8 ∨ kd = 4) ∧ hasS resL nm = false ∧ hasS K2 nm = false)) := Lib.hid (fun b hb => by rw [hb]; simp only [show (kd = 8 ∨ kd = 4) from .inr e4, true_and])
            clear e8 e4
            go_wp2_with fail
            refine (rReserved_any nm wz).mono ?_
            rintro e w3 ⟨rfl, rfl⟩
            cases hr : hasS resL nm with
            | true =>
              have HD := Lib.hid (HQ.out false (by rw [hr]; simp))
              clear hr
              go_wp2
              go_meet
              exact ⟨_, rfl, _, rfl, HD.out, HKM.out.own, HKM.out.know, App2.refl _ _ _⟩
            | false =>
              have HR := Lib.hid hr
              clear hr
              go_wp2_with fail
              refine (rOnce_any base _ K2 nm wz HKM.out.know (by have := HK2.out; omega) hbz).mono ?_
              rintro e w4 ⟨u4, rfl, ho4, ha4, hk4⟩
              have HA4 : Hid (App2 wz (.slice A l.length c) (.slice An K2.length cn) w4 (.slice A l.length c)) := Lib.hid (App2.swap ha4 _)
              have HO4 : Hid (OwnS w4 base (.slice A l.length c) l) := Lib.hid (World.ownsRow.kept HKM.out.own ha4.1 (Apart.symm HKM.out.apart))
              have HK4 := Lib.hid hk4
              have hkz : K2.length ≤ 4000000 := HK2.out
              cases hk : hasS K2 nm with
              | true =>
                have HD := Lib.hid (HQ.out false (by rw [hk]; simp))
                rw [onceS_eq, hk] at ho4
                obtain ⟨A4, c4, rfl, -, -⟩ := OwnS.form (show OwnS w4 base u4 K2 from ho4)
                clear hk ho4 ha4 hk4
                go_wp2
                go_meet
                exact ⟨_, rfl, _, rfl, HD.out, HO4.out, HK4.out, HA4.out⟩
              | false =>
                have HD := Lib.hid (HQ.out true (by rw [hk, HR.out]; simp))
                rw [onceS_eq, hk] at ho4
                obtain ⟨A4, c4, hu4, -, -⟩ := OwnS.form (show OwnS w4 base u4 (K2 ++ [nm]) from ho4)
                rw [show (K2 ++ [nm]).length = K2.length + 1 from by simp] at hu4
                subst hu4
                clear hk ho4 ha4 hk4
                go_wp2
                go_meet
                exact ⟨_, rfl, true, by rw [show decide ((K2.length : Int) < (K2.length : Int) + 1) = true from decide_eq_true (by omega)], HD.out, HO4.out, HK4.out, HA4.out⟩
          · have t4 : (kd == 4) = false := int_neb e4
            have HD : Hid (false = decide ((kd = 8 ∨ kd = 4) ∧ hasS resL nm = false ∧ hasS K2 nm = false)) := Lib.hid (by simp [e8, e4])
            clear e8 e4
            go_wp2
            go_meet
            exact ⟨_, rfl, _, rfl, HD.out, HKM.out.own, HKM.out.know, App2.refl _ _ _⟩
      case rest =>
        obtain ⟨wy, rfl, b2, rfl, hb2, hoy, hky, hay⟩ := hcut
        have HL2 : Hid (l2 = if b2 then onceS l nm else l) := Lib.hid (by
          rw [HNM.out, hb2]
          by_cases h84 : kd = 8 ∨ kd = 4
          · rw [show K2 = K from by rw [HKN.out, if_neg (by omega)]]
            simp [h84]
          · simp [h84])
        have HOy := Lib.hid hoy
        have HKy := Lib.hid hky
        have HAy := Lib.hid hay
        have HBy : Hid (Blk wy w.heap.size 26 #[.int .i64 kd, .string nm, .slice A1 ns.length c1, .slice A2 ts.length c2, .slice A3 xs.length c3, .int .i64 pr, .int .i64 pl]) := Lib.hid (hay.blk HAz.out (own_blk_ne HKM.out.own HAz.out (by decide)) (own_blk_ne HKM.out.know HAz.out (by decide)))
        have hby : base ≤ wy.heap.size := Nat.le_trans hbz hay.size
        clear hb2 hoy hky hay
        go_upto_if 50 with fail
        go_cut [2] (fun s2 wx => ∃ wv, wv = wx ∧ OwnS wv base s2 l2 ∧ OwnS wv base (.slice An K2.length cn) K2 ∧ App2 wz (.slice A l.length c) (.slice An K2.length cn) wv s2)
        case first =>
          have k1 : wy.cell? ⟨w.heap.size, 1, none⟩ = some (.string nm) := HBy.out.cell 1
          cases b2 with
          | true =>
            go_wp2_with fail
            refine (rOnce_any base _ l nm wy HOy.out (by have := HW.out; omega) hby).mono ?_
            rintro e w5 ⟨v5, rfl, ho5, ha5, -⟩
            have HO5 : Hid (OwnS w5 base v5 l2) := Lib.hid (by rw [HL2.out]; exact ho5)
            have HK5 := Lib.hid (ha5.own HKy.out HKM.out.apart)
            have HA5 := Lib.hid (HAy.out.trans (App2.of ha5 (.slice An K2.length cn)))
            clear ho5 ha5
            go_wp2
            go_meet
            exact ⟨_, rfl, HO5.out, HK5.out, HA5.out⟩
          | false =>
            go_wp2
            go_meet
            exact ⟨_, rfl, by rw [HL2.out]; exact HOy.out, HKy.out, HAy.out⟩
        case rest =>
          obtain ⟨wv, rfl, hov, hkv, hav⟩ := hcut
          have HOv := Lib.hid hov
          have HKv := Lib.hid hkv
          have HAv := Lib.hid hav
          obtain ⟨Am, cm, rfl, -, -⟩ := OwnS.form hov
          have HBv : Hid (Blk wv w.heap.size 26 #[.int .i64 kd, .string nm, .slice A1 ns.length c1, .slice A2 ts.length c2, .slice A3 xs.length c3, .int .i64 pr, .int .i64 pl]) := Lib.hid (hav.blk HAz.out (own_blk_ne HKM.out.own HAz.out (by decide)) (own_blk_ne HKM.out.know HAz.out (by decide)))
          have hbv : base ≤ wv.heap.size := Nat.le_trans hbz hav.size
          have HPv : Hid (Apart (.slice An K2.length cn) (.slice Am l2.length cm)) := Lib.hid (hav.apart HKM.out.know HKM.out.apart)
          have PX : Hid (NodesAt f wv B A3 xs) := Lib.hid ((P13.out.below (HKM.out.below.mono (Nat.le_trans hBb hbw1))).below ((hav.below hbz (fun k hk => OwnS.base HKM.out.own hk) (fun k hk => OwnS.base HKM.out.know hk)).mono hBb))
          have HR : Hid (xs.foldl (fun l t' => freeT f K2 l t') l2 = R) := Lib.hid HSE.out.symm
          have HRM : Hid (l2.length + (xs.map (wtT f)).sum ≤ 4000000) := Lib.hid (by have := HNL.out; have := HW.out; omega)
          have HRK : Hid (K2.length + (xs.map (wtT f)).sum ≤ 4000000) := Lib.hid (by
            have := HWK.out
            rw [HKN.out]
            split <;> (try simp only [List.length_append]) <;> omega)
          clear hov hkv hav
          go_wp2
          go_loopw [2, 9] (fun v' i wr => ∃ k : Nat, i = .int .i64 k ∧ k ≤ xs.length ∧ ∃ l', OwnS wr base v' l' ∧ OwnS wr base (.slice An K2.length cn) K2 ∧ App2 wv (.slice Am l2.length cm) (.slice An K2.length cn) wr v' ∧ (xs.drop k).foldl (fun l t' => freeT f K2 l t') l' = R ∧ l'.length + ((xs.drop k).map (wtT f)).sum ≤ 4000000) (fun _ i _ => xs.length - (intOf i).toNat)
          case atStart => exact ⟨0, rfl, Nat.zero_le _, l2, HOv.out, HKv.out, App2.refl _ _ _, HR.out, HRM.out⟩
          case round =>
            obtain ⟨k, rfl, hk, l', ho, hku, ha, hf, hs⟩ := hrel
            have HOr := Lib.hid ho
            have HKr := Lib.hid hku
            have HAr := Lib.hid ha
            have HF := Lib.hid hf
            have HS := Lib.hid hs
            obtain ⟨Ar, cr, rfl, -, -⟩ := OwnS.form ho
            have k4 : wr.cell? ⟨w.heap.size, 4, none⟩ = some (.slice A3 xs.length c3) := (ha.blk HBv.out (own_blk_ne HOv.out HBv.out (by decide)) (own_blk_ne HKv.out HBv.out (by decide))).cell 4
            have hbr : base ≤ wr.heap.size := Nat.le_trans hbv ha.size
            have HB : Hid (Below B wv wr) := Lib.hid ((ha.below hbv (fun k hk => OwnS.base HOv.out hk) (fun k hk => OwnS.base HKv.out hk)).mono hBb)
            have HAPr := Lib.hid (ha.apart HKv.out HPv.out)
            obtain ⟨css1, q1, q2, q3⟩ := PX.out.below HB.out
            clear ho hku ha hf hs
            by_cases hkl : k < xs.length
            · obtain ⟨b1, o1, x0, x1, x2, x3, x4, x5, x6, rfl, hbk1, n1, a0, a1, a2, a3, a4, a5, a6⟩ := NodeAt.sub q1 q2 q3 hkl
              obtain ⟨ka', na', Aa1, na1, ca1, Aa2, na2, ca2, Aa3, na3, ca3, pa', pla', rfl, rfl, rfl, rfl, rfl, rfl, rfl⟩ := n1.forms
              have N1 := Lib.hid n1
              clear q1 q2 q3 n1
              have z1 : b1 < wr.heap.size := by omega
              have l1 : (0 : Int) ≤ (k : Int) := by omega
              have l2 : (k : Int) < (xs.length : Int) := by omega
              have HFD : Hid ((xs.drop (k + 1)).foldl (fun l t' => freeT f K2 l t') (freeT f K2 l' xs[k]) = R) := Lib.hid (by rw [← HF.out, fold_drop _ hkl])
              have HSD : Hid (l'.length + (wtT f xs[k] + ((xs.drop (k + 1)).map (wtT f)).sum) ≤ 4000000) := Lib.hid (by rw [← sum_drop (wtT f) hkl]; exact HS.out)
              have HLT := Lib.hid (freeT_len f K2 l' xs[k])
              have HWT : Hid (K2.length + wtT f xs[k] ≤ 4000000) := Lib.hid (by have := HRK.out; have := wt_sub (List.getElem_mem hkl); omega)
              have HIH := Lib.hid (IH.out xs[k] _ B base _ _ l' K2 wr N1.out HOr.out HKr.out HAPr.out hBb hbr (by have := HSD.out; omega) HWT.out)
              go_wp2_with fail
              refine HIH.out.mono ?_
              rintro e w5 ⟨v5, rfl, ho5, hk5, ha5⟩
              have HO5 := Lib.hid ho5
              have HK5 := Lib.hid hk5
              have HA5 := Lib.hid (HAr.out.trans ha5)
              clear ho5 hk5 ha5 HIH
              go_wp2
              go_roundw
              case rel => exact ⟨k + 1, by go_num, hkl, freeT f K2 l' xs[k], HO5.out, HK5.out, HA5.out, HFD.out, by have := HSD.out; have := HLT.out; omega⟩
              case measure => simp [intOf]; omega
            · have HF2 : Hid (l' = R) := Lib.hid (by have h := HF.out; rw [List.drop_eq_nil_of_le (by omega)] at h; exact h)
              have HFIN := Lib.hid (HKM.out.back _ _ (HAv.out.trans HAr.out) HKr.out)
              have HLAST := Lib.hid ((App2.of (app_below (.slice A l.length c) HAL.out) (.slice Ak K.length ck)).trans HFIN.out.1)
              clear q1 q2 q3
              go_wp2
              go_ret
              exact ⟨_, rfl, by rw [← HF2.out]; exact HOr.out, HFIN.out.2, HLAST.out⟩
theorem freeR_any : ∀ f, FreeRSaid f
  | 0 => fun t => t.elim
  | f + 1 => freeR_step f (freeR_any f)
end Go.Proofs.Ytaigfelpecdajaa
