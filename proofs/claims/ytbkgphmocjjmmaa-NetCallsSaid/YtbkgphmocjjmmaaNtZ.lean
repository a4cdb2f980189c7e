/-
  The program's Act f28 at a net, every kind of act: it comes to what ActC says.
-/
import Derived.Test.YtbkgphmocjjmmaaNtY
namespace Go.Proofs.Ytbkgphmocjjmmaa
open Go.RowKit

section
variable {w W W' : World} {g : Nat} {S S' : Ns} {v : Bool → Value} {l : Bool → List LP} {p : Option Addr} {k z i j m : Int} {A : Option Addr} {n c : Nat} {er : Int}
theorem bt {W0 W1 W2 : World} (h : Below W0.heap.size W0 W1) (h' : Below W1.heap.size W1 W2) : Below W0.heap.size W0 W2 := h.trans (h'.mono h.size)
theorem NetX.at_pk {t : TypeId} {lay : Ns → (Bool → Value) → Array Value} (h : NetX t lay w g S v l) {s : Bool} {i : Nat} {q : Pk} (hq : (S.u s)[i]? = some q) : ∃ p, (l s)[i]? = some p ∧ p.pk = q := by
  rw [← h.is s, List.getElem?_map] at hq
  cases hp : (l s)[i]? with
  | none => rw [hp] at hq; cases hq
  | some p => rw [hp] at hq; exact ⟨p, rfl, by simpa using hq⟩
/-- what a call that refuses leaves -/
def AtE (p : Option Addr) (z er : Int) (W : World) : Prop := ∀ A n c, Calls Try.prog 37 #[.pointer p, .int .i64 z, .slice A n c] W fun e w' => e = .returned (.tuple #[.pointer none, .int .i64 er]) ∧ W = w'
theorem at_side (p : Option Addr) (hz : sideB z = false) (W : World) : AtE p z 182 W := fun A n c => at_err p z A n c 182 W rfl (way_noside p z W hz)
theorem up_net (h : NetA W g S v l) (hl : 1 ≤ S.limit) : Calls Try.prog 25 #[.pointer (some ⟨g, 0, none⟩)] W fun e w' => e = .returned (.bool S.up) ∧ W = w' :=
  up_at g S.limit S.up W (h.blk.cell 0) (h.blk.cell 1) (by omega)
theorem at_down (h : NetA W g S v l) (hl : 1 ≤ S.limit) (hu : S.up = false) (hz : sideB z = true) : AtE (some ⟨g, 0, none⟩) z 181 W := fun A n c =>
  at_err _ z A n c 181 W rfl (way_down _ z W hz (by rw [← hu]; exact up_net h hl))
theorem act_err4 (h : NetA w g S v l) (hk : 3 < k) (hk8 : k ≤ 8) (he : (er != 0) = true) (he' : (er == 0) = false) (hat : ∀ W : World, Below w.heap.size w W → AtE p z er W) :
    Calls Try.prog 28 #[.pointer p, actV k z i j m A n c] w (AStepP w g v l S 0 [] er) := by
  have hkk : k = 4 ∨ k = 5 ∨ k = 6 ∨ k = 7 ∨ k = 8 := by omega
  rcases hkk with rfl | rfl | rfl | rfl | rfl
  · exact (act4 p z i j m A n c w (StQ w g v l S 0 [] er) fun W hb hs => (deliver_err p z i er W he' fun W1 h1 => take_err p z i er W1 he fun W2 h2 => hat W2 (bt (bt hb h1) h2) _ 1 1).mono fun e W' hp => NoP.pk2 h hb hs hp).mono fun e W' => actP_end h
  · exact (act5 p z i j m A n c w (StQ w g v l S 0 [] er) fun W hb hs => (drop_err p z i er W he' fun W1 h1 => take_err p z i er W1 he fun W2 h2 => hat W2 (bt (bt hb h1) h2) _ 1 1).mono fun e W' hp => NoP.pk2 h hb hs hp).mono fun e W' => actP_end h
  · exact (act6 p z i j m A n c w (StQ w g v l S 0 [] er) fun W hb hs => (double_err p z i er W he fun W2 h2 => hat W2 (bt hb h2) _ 1 1).mono fun e W' hp => NoP.pk2 h hb hs hp).mono fun e W' => actP_end h
  · refine (act7 p z i j m A n c w (StQ w g v l S 0 [] er) fun W hb hs => (move_err p z i j er W he fun W2 h2 => hat W2 (bt hb h2) _ 2 2).mono ?_).mono fun e W' => actP_end h
    rintro e W' ⟨rfl, h1⟩
    exact ⟨er, rfl, fun k _ hk => h1.block k (by omega), stq_none h (bt hb h1)⟩
  · exact (act8 p z i j m A n c w (StQ w g v l S 0 [] er) fun W hb hs => (flip_err p z i j m er W he fun W2 h2 => hat W2 (bt hb h2) _ 1 1).mono fun e W' hp => NoP.pk2 h hb hs hp).mono fun e W' => actP_end h
theorem al1 (W : World) (o : Obj) : Below W.heap.size W (W.alloc o) := (Below.refl _ _).alloc (Nat.le_refl _) _
theorem al2 (W : World) (o q : Obj) : Below W.heap.size W ((W.alloc o).alloc q) := (al1 W o).alloc (by simp) _
theorem range1 (h : NetA W g S v l) (hl : 1 ≤ S.limit) (hu : S.up = true) (s : Bool) (i : Int) (hi : i < 0 ∨ ((S.u s).length : Int) ≤ i) :
    Calls Try.prog 37 #[.pointer (some ⟨g, 0, none⟩), .int .i64 (sideN s), .slice (some ⟨W.heap.size + 1, 0, none⟩) 1 1] ((W.alloc (.cells #[.int .i64 0, .slice none 0 0] 36)).alloc (.cells #[.int .i64 i] 3)) fun e w' => e = .returned (.tuple #[.pointer none, .int .i64 1]) ∧ ((W.alloc (.cells #[.int .i64 0, .slice none 0 0] 36)).alloc (.cells #[.int .i64 i] 3)) = w' :=
  at_range (zs := [i]) (c := 1) (h.below (al2 W _ _)) hl hu (one_cell W i _) (by simp) (in_false hi [])
theorem range2 (h : NetA W g S v l) (hl : 1 ≤ S.limit) (hu : S.up = true) (s : Bool) (i j : Int) (hi : [i, j].all (inB (S.u s).length) = false) :
    Calls Try.prog 37 #[.pointer (some ⟨g, 0, none⟩), .int .i64 (sideN s), .slice (some ⟨W.heap.size, 0, none⟩) 2 2] (W.alloc (.cells #[.int .i64 i, .int .i64 j] 3)) fun e w' => e = .returned (.tuple #[.pointer none, .int .i64 1]) ∧ W.alloc (.cells #[.int .i64 i, .int .i64 j] 3) = w' :=
  at_range (zs := [i, j]) (c := 2) (h.below (al1 W _)) hl hu (two_cell W i j) (by simp) hi
theorem drop_none (g : Nat) (S : Ns) (v : Bool → Value) (l : Bool → List LP) (s : Bool) (i : Int) (w : World) (h : NetA w g S v l) (hl : 1 ≤ S.limit) (hu : S.up = true) (hi : i < 0 ∨ ((S.u s).length : Int) ≤ i) :
    Calls Try.prog 43 #[.pointer (some ⟨g, 0, none⟩), .int .i64 (sideN s), .int .i64 i] w (NoP w 1) :=
  drop_err _ _ _ 1 w rfl fun W hb => take_err2 _ _ _ 1 W rfl (range1 (h.below hb) hl hu s i hi)
theorem act_range (h : NetA w g S v l) (hl : 1 ≤ S.limit) (hu : S.up = true) (s : Bool) (hk : 3 < k) (hk8 : k ≤ 8) (hz : z = sideN s) (hi : i < 0 ∨ ((S.u s).length : Int) ≤ i) :
    Calls Try.prog 28 #[.pointer (some ⟨g, 0, none⟩), actV k z i j m A n c] w (AStepP w g v l S 0 [] 1) := by
  subst hz
  have hkk : k = 4 ∨ k = 5 ∨ k = 6 ∨ k = 7 ∨ k = 8 := by omega
  rcases hkk with rfl | rfl | rfl | rfl | rfl
  · exact (act4 _ _ i j m A n c w (StQ w g v l S 0 [] 1) fun W hb hs => (deliver_none g S v l s i W (h.below hb) hl hu hi).mono fun e W' hp => NoP.pk2 h hb hs hp).mono fun e W' => actP_end h
  · exact (act5 _ _ i j m A n c w (StQ w g v l S 0 [] 1) fun W hb hs => (drop_none g S v l s i W (h.below hb) hl hu hi).mono fun e W' hp => NoP.pk2 h hb hs hp).mono fun e W' => actP_end h
  · exact (act6 _ _ i j m A n c w (StQ w g v l S 0 [] 1) fun W hb hs => (double_err2 _ _ i 1 W rfl (range1 (h.below hb) hl hu s i hi)).mono fun e W' hp => NoP.pk2 h hb hs hp).mono fun e W' => actP_end h
  · refine (act7 _ _ i j m A n c w (StQ w g v l S 0 [] 1) fun W hb hs => (move_err2 _ _ i j 1 W rfl (range2 (h.below hb) hl hu s i j (in_false hi [j]))).mono ?_).mono fun e W' => actP_end h
    rintro e W' ⟨rfl, h1⟩
    exact ⟨1, rfl, fun k _ hk => h1.block k (by omega), stq_none h (bt hb h1)⟩
  · exact (act8 _ _ i j m A n c w (StQ w g v l S 0 [] 1) fun W hb hs => (flip_err2 _ _ i j m 1 W rfl (range1 (h.below hb) hl hu s i hi)).mono fun e W' hp => NoP.pk2 h hb hs hp).mono fun e W' => actP_end h
end
/-- what Send leaves, ahead of the telling -/
def SndR (w : World) (g : Nat) (v : Bool → Value) (l : Bool → List LP) (S' : Ns) (B : Nat) (A : Option Addr) (n : Nat) (b : List UInt8) (W : World) : Prop :=
  ∃ v' l', NetA W g S' v' l' ∧ (∀ k, NetF g v' l' k → NetF g v l k ∨ w.heap.size + 3 ≤ k) ∧ Chg (NetF g v l) w W ∧ RdB W B A n b
theorem send_snd {w W W' : World} {g B n : Nat} {S S' : Ns} {v : Bool → Value} {l : Bool → List LP} {num : Int} {A : Option Addr} {b : List UInt8} {e : Ending} (h : NetA w g S v l) (hr : RdB w B A n b) (hB : B ≤ w.heap.size) (ha : Away (NetF g v l) n A) (hb : Below w.heap.size w W) (hs : W.heap.size = w.heap.size + 3)
    (hp : StepP W g v l S' (NumP num) e W') : SndP w.heap.size num (SndR w g v l S' B A n b) W e W' := by
  obtain ⟨v', l', hn, hsub, hc, he⟩ := hp
  have hcc : Chg (NetF g v l) w W' := (Chg.of_below hb _).trans hc (fun _ _ e => e)
  exact ⟨he, keep3 h hs hc, v', l', hn, fun k hk => (hsub k hk).imp id (fun e => by omega), hcc, hr.apart hB hcc ha⟩
theorem told_snd {w W W1 : World} {g B n c : Nat} {S S' : Ns} {v : Bool → Value} {l : Bool → List LP} {num : Int} {A : Option Addr} {b : List UInt8} (h : NetA w g S v l) (hB : B ≤ w.heap.size) (hl : b.length ≤ 140737488355328) (hR : SndR w g v l S' B A n b W) (hc : Chg (fun k => w.heap.size ≤ k ∧ k < w.heap.size + 3) W W1) (hs : w.heap.size + 3 ≤ W1.heap.size) :
    Calls Try.prog 36 #[.agg #[.int .i64 num, .slice A n c]] W1 fun e W2 => ∃ A' n' c', e = .returned (.agg #[.int .i64 num, .slice A' n' c']) ∧ Below W1.heap.size W1 W2 ∧ StQ w g v l S' num b 0 num A' n' c' 0 W2 := by
  obtain ⟨v', l', hn, hsub, hcc, hr⟩ := hR
  have hlt : ∀ k, NetF g v l k → k < w.heap.size := fun k hk => h.lt hk
  have hbW : Below B W W1 := hc.below (by have := hcc.size; omega) (fun k h1 h2 => by omega)
  have hn1 : NetA W1 g S' v' l' := hn.chg hc (fun k hk e => by
    rcases hsub k hk with e1 | e1
    · have := hlt k e1; omega
    · omega)
  have hc1 : Chg (NetF g v l) w W1 := hcc.trans hc (fun i hi e => by omega)
  refine (told_any num A n c B b W1 (hr.below hbW) (by omega) hl).mono ?_
  rintro e W2 ⟨A', c', rfl, ho, hb2⟩
  refine ⟨A', _, c', rfl, hb2, rfl, rfl, rfl, v', l', hn1.below hb2, hsub, hc1.trans (Chg.of_below hb2 (fun _ => False)) (fun _ _ e => e.elim), own_base ho (Nat.zero_le _), fun k hk => ?_⟩
  have hkk := (World.ownsRow.lt ho k hk).1
  exact ⟨fun hf => by have := hn1.lt hf; omega, .inr (by omega)⟩
theorem sideB_N {z : Int} {s : Bool} (h : z = sideN s) : sideB z = true := by rw [h]; exact sideN_ok s
/-- an act at the program's net -/
theorem act_net (g : Nat) (S : Ns) (v : Bool → Value) (l : Bool → List LP) (K : Int) (a : Ac) (A : Option Addr) (n c B : Nat) (w : World) (h : NetA w g S v l) (hk : S.ok K) (hK : K ≤ 4611686018427387900) (hsm : S.sm) (hr : RdB w B A n a.b) (hB : B ≤ w.heap.size) (haw : Away (NetF g v l) n A) {S' : Ns} {num er : Int} {b : List UInt8} (ha : ActC S a S' num b er) :
    Calls Try.prog 28 #[.pointer (some ⟨g, 0, none⟩), actV a.k a.z a.i a.j (a.m.toNat : Int) A n c] w (AStepP w g v l S' num b er) := by
  obtain ⟨k, z, i, j, m, b0⟩ := a
  have hn : b0.length = n := by have := Reads.len1 hr; omega
  have hlo := hk.lo
  cases ha with
  | conn0 h1 h2 =>
    simp only at h1; subst h1
    refine (act1 _ z i j m.toNat A n c w (StQ w g v l S 0 [] 180) fun W hb hs => (connect_up g S v l W (h.below hb) hlo h2).mono ?_).mono fun e W' => actP_end h
    rintro e W' ⟨rfl, rfl⟩
    exact ⟨180, rfl, fun _ _ _ => rfl, stq_none h hb⟩
  | conn h1 h2 =>
    simp only at h1; subst h1
    refine (act1 _ z i j m.toNat A n c w (StQ w g v l S.conn 0 [] 0) fun W hb hs => (connect_down g S v l K W (h.below hb) hk (by omega) h2).mono ?_).mono fun e W' => actP_end h
    rintro e W' ⟨rfl, hn', hc, hss⟩
    have hc' : Chg (NetF g v l) W W' := hc.mono fun k _ e => .inl e
    exact ⟨0, rfl, keep3 h hs hc', stq_step hb hs hn' (fun k hk => .inl hk) hc'⟩
  | bad h1 =>
    refine (act_other _ k z i j m.toNat A n c w h1).mono fun e W' hp => actP_end h ?_
    obtain ⟨num, A', n', c', er', W, rfl, ⟨rfl, rfl, rfl, rfl, rfl, hb⟩, hx⟩ := hp
    exact ⟨0, none, 0, 0, 184, W, rfl, stq_none h hb, hx⟩
  | side h1 h2 h3 =>
    simp only at h1 h2 h3
    by_cases h4 : k = 3
    · subst h4
      refine (act3e _ z i j m.toNat A n c w (StQ w g v l S 0 [] 182) fun W hb hs => (send_noside _ z A n c W h3).mono ?_).mono fun e W' => actP_end h
      rintro e W' ⟨rfl, rfl⟩
      exact ⟨0, 182, rfl, rfl, fun _ _ _ => rfl, stq_none h hb⟩
    · exact act_err4 h (by show 3 < k; omega) h2 rfl rfl fun W _ => at_side _ h3 W
  | long s h1 h2 h3 =>
    simp only at h1 h2 h3; subst h1
    refine (act3e _ z i j m.toNat A n c w (StQ w g v l S 0 [] 2) fun W hb hs => (send_long _ z A n c W (sideB_N h2) (by omega)).mono ?_).mono fun e W' => actP_end h
    rintro e W' ⟨rfl, rfl⟩
    exact ⟨0, 2, rfl, rfl, fun _ _ _ => rfl, stq_none h hb⟩
  | down2 h1 h2 =>
    simp only at h1; subst h1
    refine (act2 _ z i j m.toNat A n c w (StQ w g v l S 0 [] 181) fun W hb hs => (cut_no _ W (by rw [← h2]; exact up_net (h.below hb) hlo)).mono ?_).mono fun e W' => actP_end h
    rintro e W' ⟨rfl, rfl⟩
    exact ⟨0, 181, rfl, fun _ _ _ => rfl, stq_none h hb⟩
  | down3 s h1 h2 h3 h4 =>
    simp only at h1 h2 h3; subst h1
    refine (act3e _ z i j m.toNat A n c w (StQ w g v l S 0 [] 181) fun W hb hs => (send_down _ z A n c W (sideB_N h2) (by omega) (way_down _ z W (sideB_N h2) (by rw [← h4]; exact up_net (h.below hb) hlo))).mono ?_).mono fun e W' => actP_end h
    rintro e W' ⟨rfl, rfl⟩
    exact ⟨0, 181, rfl, rfl, fun _ _ _ => rfl, stq_none h hb⟩
  | down4 s h1 h2 h3 h4 => exact act_err4 h h1 h2 rfl rfl fun W hb => at_down (h.below hb) hlo h4 (sideB_N h3)
  | cut h1 h2 =>
    simp only at h1; subst h1
    refine (act2 _ z i j m.toNat A n c w (StQ w g v l S.cut 0 [] 0) fun W hb hs => (cut_any g S v l K W (h.below hb) hk hK h2).mono ?_).mono fun e W' => actP_end h
    rintro e W' ⟨v', l', hn', hsub, hc, rfl⟩
    exact ⟨_, 0, rfl, keep3 h hs hc, stq_step hb hs hn' hsub hc⟩
  | full s h1 h2 h3 h4 h5 =>
    simp only at h1 h2 h3; subst h1; subst h2
    refine (act3e _ _ i j m.toNat A n c w (StQ w g v l S 0 [] 183) fun W hb hs => (send_full g S v l s A n c W (h.below hb) hlo h4 (by omega) h5).mono ?_).mono fun e W' => actP_end h
    rintro e W' ⟨rfl, h6⟩
    exact ⟨0, 183, rfl, rfl, fun k _ hk => h6.block k (by omega), stq_none h (bt hb h6)⟩
  | send s h1 h2 h3 h4 h5 =>
    simp only at h1 h2 h3; subst h1; subst h2
    exact (act3 _ _ i j m.toNat A n c w (S.number + 1) (SndR w g v l ((S.add s 0 1).put s b0) B A n b0) (StQ w g v l ((S.add s 0 1).put s b0) (S.number + 1) b0 0)
      (fun W hb hs => (send_any g S v l K s A n c B b0 W (h.below hb) hk hK h4 (by omega) h5 (hr.below (hb.mono hB)) (by have := hb.size; omega)).mono fun e W' hp => send_snd h hr hB haw hb hs hp)
      (fun W W1 hR hc hs => told_snd h hB (by omega) hR hc hs)).mono fun e W' => actP_end h
  | range s h1 h2 h3 h4 h5 => exact act_range h hlo h4 s h1 h2 h3 h5
  | deliver s i q h1 h2 h3 h4 h5 =>
    simp only at h1 h2 h4; subst h1; subst h2; subst h4
    obtain ⟨p, hp, rfl⟩ := h.at_pk h5
    exact (act4 _ _ i j m.toNat A n c w (StQ w g v l _ p.pk.num p.pk.bytes 0) fun W hb hs => (deliver_any g S v l K s i p W (h.below hb) hk (by omega) h3 hp).mono fun e W' hp => StepP.pk h hb hs hp).mono fun e W' => actP_end h
  | drop s i q h1 h2 h3 h4 h5 =>
    simp only at h1 h2 h4; subst h1; subst h2; subst h4
    obtain ⟨p, hp, rfl⟩ := h.at_pk h5
    exact (act5 _ _ i j m.toNat A n c w (StQ w g v l _ p.pk.num p.pk.bytes 0) fun W hb hs => (drop_any g S v l K s i p W (h.below hb) hk (by omega) h3 hp).mono fun e W' hp => StepP.pk h hb hs hp).mono fun e W' => actP_end h
  | dfull s i q h1 h2 h3 h4 h5 h6 =>
    simp only at h1 h2 h4; subst h1; subst h2; subst h4
    obtain ⟨p, hp, rfl⟩ := h.at_pk h5
    exact (act6 _ _ i j m.toNat A n c w (StQ w g v l S 0 [] 183) fun W hb hs => (double_full g S v l K s i p W (h.below hb) hk h3 hp h6).mono fun e W' hp => NoP.pk2 h hb hs hp).mono fun e W' => actP_end h
  | double s i q h1 h2 h3 h4 h5 h6 =>
    simp only at h1 h2 h4; subst h1; subst h2; subst h4
    obtain ⟨p, hp, rfl⟩ := h.at_pk h5
    have hbl := hsm s _ (List.mem_of_getElem? h5)
    exact (act6 _ _ i j m.toNat A n c w (StQ w g v l _ (S.number + 1) p.pk.bytes 0) fun W hb hs => (double_any g S v l K s i p W (h.below hb) hk hK h3 hp h6 (by omega)).mono fun e W' hp => StepP.pk h hb hs hp).mono fun e W' => actP_end h
  | mrange s i q h1 h2 h3 h4 h5 h6 =>
    simp only at h1 h2 h4 h6; subst h1; subst h2; subst h4
    refine (act7 _ _ i j m.toNat A n c w (StQ w g v l S 0 [] 1) fun W hb hs => (move_err2 _ _ i j 1 W rfl (range2 (h.below hb) hlo h3 s i j (in_false2 h6))).mono ?_).mono fun e W' => actP_end h
    rintro e W' ⟨rfl, h1⟩
    exact ⟨1, rfl, fun k _ hk => h1.block k (by omega), stq_none h (bt hb h1)⟩
  | move s i j q h1 h2 h3 h4 h5 h6 h7 =>
    simp only at h1 h2 h4 h6; subst h1; subst h2; subst h4; subst h6
    obtain ⟨p, hp, rfl⟩ := h.at_pk h5
    refine (act7 _ _ i j m.toNat A n c w (StQ w g v l _ 0 [] 0) fun W hb hs => (move_any g S v l K s i j p W (h.below hb) hk hK h3 hp (by rw [h.len s]; exact h7)).mono ?_).mono fun e W' => actP_end h
    rintro e W' ⟨v', l', hn', hsub, hc, rfl⟩
    exact ⟨0, rfl, keep3 h hs hc, stq_step hb hs hn' hsub hc⟩
  | frange s i q h1 h2 h3 h4 h5 h6 =>
    simp only at h1 h2 h4 h6; subst h1; subst h2; subst h4
    obtain ⟨p, hp, rfl⟩ := h.at_pk h5
    exact (act8 _ _ i j m.toNat A n c w (StQ w g v l S 0 [] 1) fun W hb hs => (flip_none g S v l K s i j m p W (h.below hb) hk h3 hp h6).mono fun e W' hp => NoP.pk2 h hb hs hp).mono fun e W' => actP_end h
  | flip s i j q x h1 h2 h3 h4 h5 h6 h7 h8 =>
    simp only at h1 h2 h4 h6 h8; subst h1; subst h2; subst h4; subst h6
    obtain ⟨p, hp, rfl⟩ := h.at_pk h5
    have hbl := hsm s _ (List.mem_of_getElem? h5)
    exact (act8 _ _ i j m.toNat A n c w (StQ w g v l _ p.pk.num _ 0) fun W hb hs => (flip_any g S v l K s i j x m p W (h.below hb) hk hK h3 hp h7 h8 (by omega)).mono fun e W' hp => StepP.pk h hb hs hp).mono fun e W' => actP_end h
end Go.Proofs.Ytbkgphmocjjmmaa
