/-
  The program's calls at a net, each by the kind of act that it stands for: what they leave. Two nets side by side.
-/
import Derived.Test.YtbkgphmocjjmmaaNvB
namespace Go.Proofs.Ytbkgphmocjjmmaa
open Go.RowKit

/-- the nets of the program and of the document side by side, all of whose blocks are new since w0 and none of both -/
structure PairX (w0 : World) (g : Nat) (S : Ns) (v : Bool → Value) (l : Bool → List LP) (gr : Nat) (Sr : Ns) (vr : Bool → Value) (lr : Bool → List LP) (W : World) : Prop where
  a : FrN w0 g S v l W
  r : FrR w0 gr Sr vr lr W
  dis : ∀ k, NetF g v l k → ¬ NetF gr vr lr k
section
variable {w0 W W' : World} {g gr : Nat} {S Sr S' : Ns} {v vr v' : Bool → Value} {l lr l' : Bool → List LP}
theorem PairX.below (h : PairX w0 g S v l gr Sr vr lr W) (hb : Below W.heap.size W W') : PairX w0 g S v l gr Sr vr lr W' := ⟨h.a.below hb, h.r.below hb, h.dis⟩
theorem PairX.stepA (h : PairX w0 g S v l gr Sr vr lr W) (hn : NetA W' g S' v' l') (hsub : ∀ k, NetF g v' l' k → NetF g v l k ∨ W.heap.size ≤ k) (hc : Chg (NetF g v l) W W') : PairX w0 g S' v' l' gr Sr vr lr W' := by
  have h2 := h.a.step hn hsub hc
  refine ⟨h2, ⟨h.r.net.chg hc (fun k hk e => h.dis k e hk), h.r.new, h2.old⟩, fun k hk e => ?_⟩
  rcases hsub k hk with e1 | e1
  · exact h.dis k e1 e
  · have := h.r.net.lt e; omega
theorem PairX.stepR (h : PairX w0 g S v l gr Sr vr lr W) (hn : NetR W' gr S' v' l') (hsub : ∀ k, NetF gr v' l' k → NetF gr vr lr k ∨ W.heap.size ≤ k) (hc : Chg (NetF gr vr lr) W W') : PairX w0 g S v l gr S' v' l' W' := by
  have h2 := h.r.step hn hsub hc
  refine ⟨⟨h.a.net.chg hc (fun k hk e => h.dis k hk e), h.a.new, h2.old⟩, h2, fun k hk e => ?_⟩
  rcases hsub k e with e1 | e1
  · exact h.dis k hk e1
  · have := h.a.net.lt hk; omega
/-- a change of blocks that are of neither net, and new since w0 -/
theorem PairX.chg {F : Nat → Prop} (h : PairX w0 g S v l gr Sr vr lr W) (hc : Chg F W W') (hF : ∀ k, F k → w0.heap.size ≤ k ∧ ¬ NetF g v l k ∧ ¬ NetF gr vr lr k) : PairX w0 g S v l gr Sr vr lr W' := by
  have h2 : FrN w0 g S v l W' := h.a.chg hc (fun k hk e => (hF k e).2.1 hk) (fun k _ e => (hF k e).1)
  exact ⟨h2, ⟨h.r.net.chg hc (fun k hk e => (hF k e).2.2 hk), h.r.new, h2.old⟩, h.dis⟩
end
/-- a packet and an error's number come back from the program's net -/
def OutS (W : World) (g : Nat) (v : Bool → Value) (l : Bool → List LP) (S' : Ns) (num : Int) (b : List UInt8) (er : Int) (e : Ending) (W' : World) : Prop :=
  ∃ v' l' A c, e = .returned (.tuple #[.agg #[.int .i64 num, .slice A b.length c], .int .i64 er]) ∧ NetA W' g S' v' l' ∧ (∀ k, NetF g v' l' k → NetF g v l k ∨ W.heap.size ≤ k) ∧ Chg (NetF g v l) W W' ∧ OwnB 5 W' 0 (.slice A b.length c) b ∧ ∀ k, (Value.slice A b.length c).ownBlock = some k → ¬ NetF g v' l' k ∧ (NetF g v l k ∨ W.heap.size ≤ k)
def ErS (W : World) (g : Nat) (v : Bool → Value) (l : Bool → List LP) (S' : Ns) (er : Int) (e : Ending) (W' : World) : Prop :=
  ∃ v' l', e = .returned (.int .i64 er) ∧ NetA W' g S' v' l' ∧ (∀ k, NetF g v' l' k → NetF g v l k ∨ W.heap.size ≤ k) ∧ Chg (NetF g v l) W W'
def NumS (W : World) (g : Nat) (v : Bool → Value) (l : Bool → List LP) (S' : Ns) (num er : Int) (e : Ending) (W' : World) : Prop :=
  ∃ v' l', e = .returned (.tuple #[.int .i64 num, .int .i64 er]) ∧ NetA W' g S' v' l' ∧ (∀ k, NetF g v' l' k → NetF g v l k ∨ W.heap.size ≤ k) ∧ Chg (NetF g v l) W W'
section
variable {W W' : World} {g : Nat} {S S' : Ns} {v : Bool → Value} {l : Bool → List LP} {num er : Int} {b : List UInt8} {e : Ending} {a : Ac} {K : Int}
theorem OutS.of (h : StepP W g v l S' (OutP W (NetF g v l) num b er) e W') : OutS W g v l S' num b er e W' := by
  obtain ⟨v', l', hn, hsub, hc, A, c, rfl, ho, hf⟩ := h
  exact ⟨v', l', A, c, rfl, hn, hsub, hc, ho, hf⟩
theorem OutS.no (hn : NetA W g S v l) (h : NoP W er e W') : OutS W g v l S 0 [] er e W' := by
  obtain ⟨rfl, hb⟩ := h
  exact ⟨v, l, none, 0, rfl, hn.below hb, fun k hk => .inl hk, Chg.of_below hb _, OwnB.nil _ _ _, fun k hk => by simp [Value.ownBlock] at hk⟩
theorem ErS.no (hn : NetA W g S v l) (hb : Below W.heap.size W W') : ErS W g v l S er (.returned (.int .i64 er)) W' := ⟨v, l, rfl, hn.below hb, fun _ hk => .inl hk, Chg.of_below hb _⟩
theorem NumS.no (hn : NetA W g S v l) (hb : Below W.heap.size W W') : NumS W g v l S num er (.returned (.tuple #[.int .i64 num, .int .i64 er])) W' := ⟨v, l, rfl, hn.below hb, fun _ hk => .inl hk, Chg.of_below hb _⟩
theorem kind1 (h : NetA W g S v l) (hk : S.ok K) (hK : K ≤ 4611686018427387900) (ha : ActC S a S' num b er) (h0 : a.k = 1) : num = 0 ∧ b = [] ∧ Calls Try.prog 12 #[.pointer (some ⟨g, 0, none⟩)] W (ErS W g v l S' er) := by
  have hlo := hk.lo
  cases ha with
  | conn0 h1 h2 => exact ⟨rfl, rfl, (connect_up g S v l W h hlo h2).mono fun e W' h' => by obtain ⟨rfl, rfl⟩ := h'; exact ErS.no h (Below.refl _ _)⟩
  | conn h1 h2 => exact ⟨rfl, rfl, (connect_down g S v l K W h hk (by omega) h2).mono fun e W' h' => by obtain ⟨rfl, hn, hc, hs⟩ := h'; exact ⟨v, l, rfl, hn, fun _ hk => .inl hk, hc.mono fun k _ e => .inl e⟩⟩
  | _ => omega
theorem kind2 (h : NetA W g S v l) (hk : S.ok K) (hK : K ≤ 4611686018427387900) (ha : ActC S a S' num b er) (h0 : a.k = 2) : num = 0 ∧ b = [] ∧ ((er = 181 ∧ Calls Try.prog 29 #[.pointer (some ⟨g, 0, none⟩)] W (NumS W g v l S' 0 er)) ∨ (er = 0 ∧ Calls Try.prog 29 #[.pointer (some ⟨g, 0, none⟩)] W (NumS W g v l S' ((S.u false).length + (S.u true).length) er))) := by
  have hlo := hk.lo
  cases ha with
  | down2 h1 h2 => exact ⟨rfl, rfl, .inl ⟨rfl, (cut_no _ W (by rw [← h2]; exact up_net h hlo)).mono fun e W' h' => by obtain ⟨rfl, rfl⟩ := h'; exact NumS.no h (Below.refl _ _)⟩⟩
  | cut h1 h2 => exact ⟨rfl, rfl, .inr ⟨rfl, (cut_any g S v l K W h hk hK h2).mono fun e W' h' => by obtain ⟨v', l', hn, hsub, hc, he⟩ := h'; exact ⟨v', l', he, hn, hsub, hc⟩⟩⟩
  | _ => omega
theorem kind3 {A : Option Addr} {n c B : Nat} (h : NetA W g S v l) (hk : S.ok K) (hK : K ≤ 4611686018427387900) (hr : RdB W B A n a.b) (hB : B ≤ W.heap.size) (ha : ActC S a S' num b er) (h0 : a.k = 3) : Calls Try.prog 13 #[.pointer (some ⟨g, 0, none⟩), .int .i64 a.z, .slice A n c] W (NumS W g v l S' num er) := by
  have hlo := hk.lo
  have hn := hr.len1
  cases ha with
  | side h1 h2 h3 => exact (send_noside _ a.z A n c W h3).mono fun e W' h' => by obtain ⟨rfl, rfl⟩ := h'; exact NumS.no h (Below.refl _ _)
  | long s h1 h2 h3 => exact (send_long _ a.z A n c W (sideB_N h2) (by omega)).mono fun e W' h' => by obtain ⟨rfl, rfl⟩ := h'; exact NumS.no h (Below.refl _ _)
  | down3 s h1 h2 h3 h4 => exact (send_down _ a.z A n c W (sideB_N h2) (by omega) (way_down _ a.z W (sideB_N h2) (by rw [← h4]; exact up_net h hlo))).mono fun e W' h' => by obtain ⟨rfl, rfl⟩ := h'; exact NumS.no h (Below.refl _ _)
  | full s h1 h2 h3 h4 h5 => rw [h2]; exact (send_full g S v l s A n c W h hlo h4 (by omega) h5).mono fun e W' h' => by obtain ⟨rfl, hb⟩ := h'; exact NumS.no h hb
  | send s h1 h2 h3 h4 h5 => rw [h2]; exact (send_any g S v l K s A n c B a.b W h hk hK h4 (by omega) h5 hr hB).mono fun e W' h' => by obtain ⟨v', l', hn, hsub, hc, he⟩ := h'; exact ⟨v', l', he, hn, hsub, hc⟩
  | _ => omega
theorem kind4 (h : NetA W g S v l) (hk : S.ok K) (hK : K ≤ 4611686018427387900) (ha : ActC S a S' num b er) (h0 : a.k = 4) : Calls Try.prog 14 #[.pointer (some ⟨g, 0, none⟩), .int .i64 a.z, .int .i64 a.i] W (OutS W g v l S' num b er) := by
  have hlo := hk.lo
  cases ha with
  | side h1 h2 h3 => exact (deliver_err _ a.z a.i 182 W rfl fun W1 b1 => take_err _ a.z a.i 182 W1 rfl fun W2 b2 => at_side _ h3 W2 _ 1 1).mono fun _ _ h' => OutS.no h h'
  | down4 s h1 h2 h3 h4 => exact (deliver_err _ a.z a.i 181 W rfl fun W1 b1 => take_err _ a.z a.i 181 W1 rfl fun W2 b2 => at_down (h.below (bt b1 b2)) hlo h4 (sideB_N h3) _ 1 1).mono fun _ _ h' => OutS.no h h'
  | range s h1 h2 h3 h4 h5 => rw [h3]; exact (deliver_none g S v l s a.i W h hlo h4 h5).mono fun _ _ h' => OutS.no h h'
  | deliver s i q h1 h2 h3 h4 h5 =>
    obtain ⟨p, hp, rfl⟩ := h.at_pk h5
    rw [h2, h4]; exact (deliver_any g S v l K s i p W h hk (by omega) h3 hp).mono fun _ _ h' => OutS.of h'
  | _ => omega
theorem kind5 (h : NetA W g S v l) (hk : S.ok K) (hK : K ≤ 4611686018427387900) (ha : ActC S a S' num b er) (h0 : a.k = 5) : Calls Try.prog 43 #[.pointer (some ⟨g, 0, none⟩), .int .i64 a.z, .int .i64 a.i] W (OutS W g v l S' num b er) := by
  have hlo := hk.lo
  cases ha with
  | side h1 h2 h3 => exact (drop_err _ a.z a.i 182 W rfl fun W1 b1 => take_err _ a.z a.i 182 W1 rfl fun W2 b2 => at_side _ h3 W2 _ 1 1).mono fun _ _ h' => OutS.no h h'
  | down4 s h1 h2 h3 h4 => exact (drop_err _ a.z a.i 181 W rfl fun W1 b1 => take_err _ a.z a.i 181 W1 rfl fun W2 b2 => at_down (h.below (bt b1 b2)) hlo h4 (sideB_N h3) _ 1 1).mono fun _ _ h' => OutS.no h h'
  | range s h1 h2 h3 h4 h5 => rw [h3]; exact (drop_none g S v l s a.i W h hlo h4 h5).mono fun _ _ h' => OutS.no h h'
  | drop s i q h1 h2 h3 h4 h5 =>
    obtain ⟨p, hp, rfl⟩ := h.at_pk h5
    rw [h2, h4]; exact (drop_any g S v l K s i p W h hk (by omega) h3 hp).mono fun _ _ h' => OutS.of h'
  | _ => omega
theorem kind6 (h : NetA W g S v l) (hk : S.ok K) (hK : K ≤ 4611686018427387900) (hsm : S.sm) (ha : ActC S a S' num b er) (h0 : a.k = 6) : Calls Try.prog 16 #[.pointer (some ⟨g, 0, none⟩), .int .i64 a.z, .int .i64 a.i] W (OutS W g v l S' num b er) := by
  have hlo := hk.lo
  cases ha with
  | side h1 h2 h3 => exact (double_err _ a.z a.i 182 W rfl fun W2 b2 => at_side _ h3 W2 _ 1 1).mono fun _ _ h' => OutS.no h h'
  | down4 s h1 h2 h3 h4 => exact (double_err _ a.z a.i 181 W rfl fun W2 b2 => at_down (h.below b2) hlo h4 (sideB_N h3) _ 1 1).mono fun _ _ h' => OutS.no h h'
  | range s h1 h2 h3 h4 h5 => rw [h3]; exact (double_err2 _ _ a.i 1 W rfl (range1 h hlo h4 s a.i h5)).mono fun _ _ h' => OutS.no h h'
  | dfull s i q h1 h2 h3 h4 h5 h6 =>
    obtain ⟨p, hp, rfl⟩ := h.at_pk h5
    rw [h2, h4]; exact (double_full g S v l K s i p W h hk h3 hp h6).mono fun _ _ h' => OutS.no h h'
  | double s i q h1 h2 h3 h4 h5 h6 =>
    have hbl := hsm s _ (List.mem_of_getElem? h5)
    obtain ⟨p, hp, rfl⟩ := h.at_pk h5
    rw [h2, h4]; exact (double_any g S v l K s i p W h hk hK h3 hp h6 (by omega)).mono fun _ _ h' => OutS.of h'
  | _ => omega
theorem kind8 (h : NetA W g S v l) (hk : S.ok K) (hK : K ≤ 4611686018427387900) (hsm : S.sm) (ha : ActC S a S' num b er) (h0 : a.k = 8) : Calls Try.prog 17 #[.pointer (some ⟨g, 0, none⟩), .int .i64 a.z, .int .i64 a.i, .int .i64 a.j, .int .u8 (a.m.toNat : Int)] W (OutS W g v l S' num b er) := by
  have hlo := hk.lo
  cases ha with
  | side h1 h2 h3 => exact (flip_err _ a.z a.i a.j _ 182 W rfl fun W2 b2 => at_side _ h3 W2 _ 1 1).mono fun _ _ h' => OutS.no h h'
  | down4 s h1 h2 h3 h4 => exact (flip_err _ a.z a.i a.j _ 181 W rfl fun W2 b2 => at_down (h.below b2) hlo h4 (sideB_N h3) _ 1 1).mono fun _ _ h' => OutS.no h h'
  | range s h1 h2 h3 h4 h5 => rw [h3]; exact (flip_err2 _ _ a.i a.j _ 1 W rfl (range1 h hlo h4 s a.i h5)).mono fun _ _ h' => OutS.no h h'
  | frange s i q h1 h2 h3 h4 h5 h6 =>
    obtain ⟨p, hp, rfl⟩ := h.at_pk h5
    rw [h2, h4]; exact (flip_none g S v l K s i a.j a.m p W h hk h3 hp h6).mono fun _ _ h' => OutS.no h h'
  | flip s i j q x h1 h2 h3 h4 h5 h6 h7 h8 =>
    have hbl := hsm s _ (List.mem_of_getElem? h5)
    obtain ⟨p, hp, rfl⟩ := h.at_pk h5
    rw [h2, h4, h6]; exact (flip_any g S v l K s i j x a.m p W h hk hK h3 hp h7 h8 (by omega)).mono fun _ _ h' => OutS.of h'
  | _ => omega
theorem kind7 (h : NetA W g S v l) (hk : S.ok K) (hK : K ≤ 4611686018427387900) (ha : ActC S a S' num b er) (h0 : a.k = 7) : num = 0 ∧ b = [] ∧ Calls Try.prog 30 #[.pointer (some ⟨g, 0, none⟩), .int .i64 a.z, .int .i64 a.i, .int .i64 a.j] W (ErS W g v l S' er) := by
  have hlo := hk.lo
  cases ha with
  | side h1 h2 h3 => exact ⟨rfl, rfl, (move_err _ a.z a.i a.j 182 W rfl fun W2 b2 => at_side _ h3 W2 _ 2 2).mono fun e W' h' => by obtain ⟨rfl, hb⟩ := h'; exact ErS.no h hb⟩
  | down4 s h1 h2 h3 h4 => exact ⟨rfl, rfl, (move_err _ a.z a.i a.j 181 W rfl fun W2 b2 => at_down (h.below b2) hlo h4 (sideB_N h3) _ 2 2).mono fun e W' h' => by obtain ⟨rfl, hb⟩ := h'; exact ErS.no h hb⟩
  | range s h1 h2 h3 h4 h5 => rw [h3]; exact ⟨rfl, rfl, (move_err2 _ _ a.i a.j 1 W rfl (range2 h hlo h4 s a.i a.j (in_false h5 [a.j]))).mono fun e W' h' => by obtain ⟨rfl, hb⟩ := h'; exact ErS.no h hb⟩
  | mrange s i q h1 h2 h3 h4 h5 h6 => rw [h2, h4]; exact ⟨rfl, rfl, (move_err2 _ _ i a.j 1 W rfl (range2 h hlo h3 s i a.j (in_false2 h6))).mono fun e W' h' => by obtain ⟨rfl, hb⟩ := h'; exact ErS.no h hb⟩
  | move s i j q h1 h2 h3 h4 h5 h6 h7 =>
    obtain ⟨p, hp, rfl⟩ := h.at_pk h5
    rw [h2, h4, h6]
    exact ⟨rfl, rfl, (move_any g S v l K s i j p W h hk hK h3 hp (by rw [h.len s]; exact h7)).mono fun e W' h' => by obtain ⟨v', l', hn, hsub, hc, he⟩ := h'; exact ⟨v', l', he, hn, hsub, hc⟩⟩
  | _ => omega
end
end Go.Proofs.Ytbkgphmocjjmmaa
