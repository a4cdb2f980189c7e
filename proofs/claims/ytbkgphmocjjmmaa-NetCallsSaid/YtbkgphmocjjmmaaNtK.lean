/-
  The walk of awake: the chapter's first example.
-/
import Derived.Test.YtbkgphmocjjmmaaNtJ
import Derived.Lib.SlBytesConst
namespace Go.Proofs.Ytbkgphmocjjmmaa
open Go.RowKit

/-- a net all of whose blocks are new since w -/
def NetW (w : World) (g : Nat) (S : Ns) (W : World) : Prop := ∃ v l, NetA W g S v l ∧ (∀ k, NetF g v l k → w.heap.size ≤ k) ∧ Below w.heap.size w W
section
variable {w W W' : World} {g : Nat} {S S' : Ns}
theorem NetW.below (h : NetW w g S W) (hb : Below W.heap.size W W') : NetW w g S W' := by
  obtain ⟨v, l, hn, hf, hw⟩ := h
  exact ⟨v, l, hn.below hb, hf, hw.trans (hb.mono hw.size)⟩
theorem NetW.step {v : Bool → Value} {l : Bool → List LP} {R : (Nat → Prop) → World → Ending → Prop} {e : Ending} (hf : ∀ k, NetF g v l k → w.heap.size ≤ k) (hb : Below w.heap.size w W) (h : StepP W g v l S' R e W') : NetW w g S' W' ∧ ∃ F, R F W' e := by
  obtain ⟨v', l', hn, hs, hc, hr⟩ := h
  refine ⟨⟨v', l', hn, fun k hk => ?_, hb.trans (hc.below hb.size (fun k hk hF => by have := hf k hF; omega))⟩, _, hr⟩
  rcases hs k hk with h1 | h1
  · exact hf k h1
  · have := hb.size; omega
end
theorem num_any (z : Int) (w : World) : Calls Try.prog 11 #[.int .i64 z] w fun e w' => e = .returned (.int .i64 z) ∧ w = w' := by
  go_enter Try.func11, Try.ntmps11
  go_wp2
  go_ret
  exact ⟨rfl, rfl⟩
def NewW (w : World) (limit : Int) (e : Ending) (w' : World) : Prop := e = .returned (.tuple #[.pointer (some ⟨w.heap.size, 0, none⟩), .int .i64 0]) ∧ NetW w w.heap.size (Ns.new limit) w'
theorem NewP.w {w w' : World} {limit : Int} {e : Ending} (h : NewP w limit e w') : NewW w limit e w' := by
  obtain ⟨rfl, hn, hb⟩ := h
  refine ⟨rfl, _, _, hn, fun k hk => ?_, hb⟩
  rcases hk with rfl | ⟨s, hs⟩ | ⟨s, p, hp, _⟩
  · exact Nat.le_refl _
  · cases hs
  · cases hp
theorem connect_w (w : World) (g : Nat) (S : Ns) (K : Int) (W : World) (h : NetW w g S W) (hk : S.ok K) (hK : K ≤ 4611686018427387900) (hu : S.up = false) : Calls Try.prog 12 #[.pointer (some ⟨g, 0, none⟩)] W fun e W' => e = .returned (.int .i64 0) ∧ NetW w g S.conn W' := by
  obtain ⟨v, l, hn, hf, hb⟩ := h
  refine (connect_down g S v l K W hn hk (by omega) hu).mono fun e W' ⟨he, h1, h2, _⟩ => ⟨he, v, l, h1, hf, hb.trans (h2.below hb.size (fun k hk e => by have := hf g (.inl rfl); omega))⟩
theorem send_w (w : World) (g : Nat) (S : Ns) (K : Int) (s : Bool) (A : Option Addr) (m c B : Nat) (b : List UInt8) (W : World) (h : NetW w g S W) (hk : S.ok K) (hK : K ≤ 4611686018427387900) (hu : S.up = true) (hm : m ≤ 8192) (hf : ((S.u s).length : Int) < S.limit) (hr : RdB W B A m b) (hB : B ≤ W.heap.size) :
    Calls Try.prog 13 #[.pointer (some ⟨g, 0, none⟩), .int .i64 (sideN s), .slice A m c] W fun e W' => e = .returned (.tuple #[.int .i64 (S.number + 1), .int .i64 0]) ∧ NetW w g ((S.add s 0 1).put s b) W' := by
  obtain ⟨v, l, hn, hF, hb⟩ := h
  refine (send_any g S v l K s A m c B b W hn hk hK hu hm hf hr hB).mono fun e W' h => ?_
  obtain ⟨h1, _, h2⟩ := NetW.step hF hb h
  exact ⟨h2, h1⟩
theorem sendfull_w (w : World) (g : Nat) (S : Ns) (s : Bool) (A : Option Addr) (m c : Nat) (W : World) (h : NetW w g S W) (hl : 1 ≤ S.limit) (hu : S.up = true) (hm : m ≤ 8192) (hf : ((S.u s).length : Int) = S.limit) :
    Calls Try.prog 13 #[.pointer (some ⟨g, 0, none⟩), .int .i64 (sideN s), .slice A m c] W fun e W' => e = .returned (.tuple #[.int .i64 0, .int .i64 183]) ∧ NetW w g S W' := by
  have h0 := h
  obtain ⟨v, l, hn, hF, hb⟩ := h
  refine (send_full g S v l s A m c W hn hl hu hm hf).mono fun e W' ⟨he, hb'⟩ => ⟨he, h0.below hb'⟩
theorem is_at {W : World} {g : Nat} {S : Ns} {v : Bool → Value} {l : Bool → List LP} (hn : NetA W g S v l) {s : Bool} {i : Nat} {p : Pk} (h : (S.u s)[i]? = some p) : ∃ q, (l s)[i]? = some q ∧ q.pk = p := by
  rw [← hn.is s, List.getElem?_map] at h
  exact Option.map_eq_some_iff.1 h
theorem move_w (w : World) (g : Nat) (S : Ns) (K : Int) (s : Bool) (i j : Nat) (p : Pk) (W : World) (h : NetW w g S W) (hk : S.ok K) (hK : K ≤ 4611686018427387900) (hu : S.up = true) (hp : (S.u s)[i]? = some p) (hj : j < (S.u s).length) :
    Calls Try.prog 30 #[.pointer (some ⟨g, 0, none⟩), .int .i64 (sideN s), .int .i64 i, .int .i64 j] W fun e W' => e = .returned (.int .i64 0) ∧ NetW w g ((S.move s i j p).add s 5 1) W' := by
  obtain ⟨v, l, hn, hF, hb⟩ := h
  obtain ⟨q, hq, rfl⟩ := is_at hn hp
  refine (move_any g S v l K s i j q W hn hk hK hu hq (by rw [hn.len s]; exact hj)).mono fun e W' h => ?_
  obtain ⟨h1, _, h2⟩ := NetW.step hF hb h
  exact ⟨h2, h1⟩
def DelW (w : World) (g : Nat) (S' : Ns) (p : Pk) (e : Ending) (W' : World) : Prop := ∃ A c, e = .returned (.tuple #[.agg #[.int .i64 p.num, .slice A p.bytes.length c], .int .i64 0]) ∧ OwnB 5 W' 0 (.slice A p.bytes.length c) p.bytes ∧ NetW w g S' W'
theorem deliver_w (w : World) (g : Nat) (S : Ns) (K : Int) (s : Bool) (i : Nat) (p : Pk) (W : World) (h : NetW w g S W) (hk : S.ok K) (hK : K ≤ 4611686018427387900) (hu : S.up = true) (hp : (S.u s)[i]? = some p) :
    Calls Try.prog 14 #[.pointer (some ⟨g, 0, none⟩), .int .i64 (sideN s), .int .i64 i] W (DelW w g ((S.take s i).add s 2 1) p) := by
  obtain ⟨v, l, hn, hF, hb⟩ := h
  obtain ⟨q, hq, rfl⟩ := is_at hn hp
  refine (deliver_any g S v l K s i q W hn hk (by omega) hu hq).mono fun e W' h => ?_
  obtain ⟨h1, _, A, c, h2, h3, _⟩ := NetW.step hF hb h
  exact ⟨A, c, h2, h3, h1⟩
/-- the nets of the example -/
def aw1 : Ns := (Ns.new 2).conn
def aw2 : Ns := (aw1.add false 0 1).put false [97]
def aw3 : Ns := (aw2.add true 0 1).put true [98]
def aw4 : Ns := (aw3.add false 0 1).put false [99]
def aw5 : Ns := (aw4.move false 1 0 ⟨3, [99]⟩).add false 5 1
theorem ok_of {S : Ns} (h1 : S.limit = 2) (h2 : 0 ≤ S.epoch ∧ S.epoch ≤ 100) (h3 : 0 ≤ S.number ∧ S.number ≤ 100) (h4 : ∀ s, ((S.u s).length : Int) ≤ 2) (h5 : ∀ s, (S.c s).ok 100) : S.ok 100 := ⟨by omega, by omega, h2, h3, fun s => by rw [h1]; exact h4 s, h5⟩
theorem aw_ok : (Ns.new 2).ok 100 ∧ aw1.ok 100 ∧ aw2.ok 100 ∧ aw3.ok 100 ∧ aw4.ok 100 ∧ aw5.ok 100 := by
  refine ⟨Ns.new_ok (by omega) (by omega) _ (by omega), ?_, ?_, ?_, ?_, ?_⟩ <;>
    exact ok_of rfl (by decide) (by decide) (fun s => by cases s <;> decide) (fun s => by cases s <;> (unfold Cn.ok; decide))
theorem read_lit (W : World) (x : UInt8) (n : Int) (f : Nat × Nat) (h : n = (x.toNat : Int)) : RdB (W.alloc (.cells #[.int .u8 n] 5 f)) (W.heap.size + 1) (some ⟨W.heap.size, 0, none⟩) 1 [x] := by
  subst h
  refine ⟨rfl, fun _ => ⟨_, rfl, by simp, fun j u hu => ?_⟩⟩
  have hj : j = 0 := by
    rcases j with _ | j
    · rfl
    · simp at hu
  subst hj
  simp only [List.map_cons, List.map_nil, List.getElem?_cons_zero, Option.some.injEq] at hu
  subst hu
  have h1 : (W.alloc (.cells #[.int .u8 (x.toNat : Int)] 5 f)).heap[W.heap.size]? = some (.cells #[.int .u8 (x.toNat : Int)] 5 f) := heap_alloc_new W _
  show (W.alloc (.cells #[.int .u8 (x.toNat : Int)] 5 f)).cell? ⟨W.heap.size, 0, none⟩ = _
  unfold World.cell?
  rw [h1]
  rfl
def AwP (w : World) (e : Ending) (w' : World) : Prop := e = .returned (.bool true) ∧ Below w.heap.size w w'
set_option maxRecDepth 20000 in
set_option maxHeartbeats 4000000 in
theorem awake_any (w : World) : Calls Try.prog 10 #[] w (AwP w) := by
  have kc := fun (w : World) (C : Array Value) (n c : Nat) => Lib.run_convert_bytes_const (P := Try.prog) w 23 5 C n c Try.underlying23 Try.underlying5
  obtain ⟨o0, o1, o2, o3, o4, o5⟩ := aw_ok
  have O0 := Lib.hid o0
  have O1 := Lib.hid o1
  have O2 := Lib.hid o2
  have O3 := Lib.hid o3
  have O4 := Lib.hid o4
  have O5 := Lib.hid o5
  clear o0 o1 o2 o3 o4 o5
  go_enter Try.func10, Try.ntmps10
  go_wp2_with fail
  refine ((new_ok 2 w (by omega) (by omega)).mono fun _ _ h => NewP.w h).mono ?_
  rintro e w1 ⟨rfl, hw1⟩
  have H1 := Lib.hid hw1
  clear hw1
  generalize w.heap.size = g at H1 ⊢
  go_wp2_with fail
  refine (num_any _ _).mono ?_
  rintro e w' ⟨rfl, rfl⟩
  go_wp2_with fail
  refine (connect_w w g _ 100 w1 H1.out O0.out (by omega) rfl).mono ?_
  rintro e w2 ⟨rfl, hw2⟩
  have H2 : Hid (NetW w g aw1 w2) := Lib.hid hw2
  clear hw2
  go_wp2_with fail
  refine (num_any _ _).mono ?_
  rintro e w' ⟨rfl, rfl⟩
  go_wp2_with fail
  refine (send_w w g aw1 100 false _ 1 1 _ [97] _ (H2.out.below ((Below.refl _ _).alloc (Nat.le_refl _) _)) O1.out (by omega) rfl (by omega) (by decide) (read_lit w2 97 97 _ rfl) (by simp)).mono ?_
  rintro e w3 ⟨rfl, hw3⟩
  have H3 : Hid (NetW w g aw2 w3) := Lib.hid hw3
  clear hw3
  go_wp2_with fail
  refine (send_w w g aw2 100 true _ 1 1 _ [98] _ (H3.out.below ((Below.refl _ _).alloc (Nat.le_refl _) _)) O2.out (by omega) rfl (by omega) (by decide) (read_lit w3 98 98 _ rfl) (by simp)).mono ?_
  rintro e w4 ⟨rfl, hw4⟩
  have H4 : Hid (NetW w g aw3 w4) := Lib.hid hw4
  clear hw4
  go_wp2_with fail
  refine (send_w w g aw3 100 false _ 1 1 _ [99] _ (H4.out.below ((Below.refl _ _).alloc (Nat.le_refl _) _)) O3.out (by omega) rfl (by omega) (by decide) (read_lit w4 99 99 _ rfl) (by simp)).mono ?_
  rintro e w5 ⟨rfl, hw5⟩
  have H5 : Hid (NetW w g aw4 w5) := Lib.hid hw5
  clear hw5
  go_wp2_with fail
  refine (sendfull_w w g aw4 false _ 1 1 _ (H5.out.below ((Below.refl _ _).alloc (Nat.le_refl _) _)) (by decide) rfl (by omega) (by decide)).mono ?_
  rintro e w6 ⟨rfl, hw6⟩
  have H6 := Lib.hid hw6
  clear hw6
  go_wp2_with fail
  refine (move_w w g aw4 100 false 1 0 ⟨3, [99]⟩ _ H6.out O4.out (by omega) rfl rfl (by decide)).mono ?_
  rintro e w7 ⟨rfl, hw7⟩
  have H7 : Hid (NetW w g aw5 w7) := Lib.hid hw7
  clear hw7
  go_wp2_with fail
  refine (deliver_w w g aw5 100 false 0 ⟨3, [99]⟩ _ H7.out O5.out (by omega) rfl rfl).mono ?_
  rintro e w8 ⟨A, c, rfl, ho8, hw8⟩
  have H8 := Lib.hid hw8
  have HO8 := Lib.hid ho8
  clear hw8 ho8
  have hcv : (convert 23 9 (.slice A 1 c)).run Try.prog (w8.alloc (.cells #[.int .i64 3, .slice A 1 c] 36)) = .ok (.string ⟨#[99]⟩) (w8.alloc (.cells #[.int .i64 3, .slice A 1 c] 36)) :=
    run_string_of (P := Try.prog) _ 23 9 5 (B := w8.heap.size) (bs := [99]) ((OwnB.reads (n := 1) HO8.out rfl).alloc (Nat.le_refl _) _) Try.underlying23 Try.underlying5 Try.underlying9
  clear kc
  go_wp2_with fail
  refine (num_any _ _).mono ?_
  rintro e w' ⟨rfl, rfl⟩
  go_wp2_with fail
  refine (num_any _ _).mono ?_
  rintro e w' ⟨rfl, rfl⟩
  go_wp2
  go_ret
  exact ⟨by first | rfl | simp, by obtain ⟨_, _, _, _, hb⟩ := H8.out; exact hb.alloc hb.size _⟩
end Go.Proofs.Ytbkgphmocjjmmaa
