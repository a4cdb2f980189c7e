/-
  The walks of Send and Double.
-/
import Derived.Test.YtbkgphmocjjmmaaNtG
import Derived.BigQuiet
namespace Go.Proofs.Ytbkgphmocjjmmaa
open Go.RowKit

def NoN (w : World) (er : Int) (e : Ending) (w' : World) : Prop := e = .returned (.tuple #[.int .i64 0, .int .i64 er]) ∧ w = w'
theorem send_noside (p : Option Addr) (z : Int) (A : Option Addr) (m c : Nat) (w : World) (hz : sideB z = false) : Calls Try.prog 13 #[.pointer p, .int .i64 z, .slice A m c] w (NoN w 182) := by
  go_enter Try.func13, Try.ntmps13
  go_wp2_with (go_at_call 32; refine (side_any z _).mono ?_; rw [hz]; rintro e w' ⟨rfl, rfl⟩)
  go_ret2
  exact ⟨rfl, rfl⟩
theorem send_long (p : Option Addr) (z : Int) (A : Option Addr) (m c : Nat) (w : World) (hz : sideB z = true) (hm : 8192 < m) : Calls Try.prog 13 #[.pointer p, .int .i64 z, .slice A m c] w (NoN w 2) := by
  have h1 : (8192 : Int) < (m : Int) := by omega
  go_enter Try.func13, Try.ntmps13
  go_wp2_with (go_at_call 32; refine (side_any z _).mono ?_; rw [hz]; rintro e w' ⟨rfl, rfl⟩)
  go_ret2
  exact ⟨rfl, rfl⟩
theorem send_down (p : Option Addr) (z : Int) (A : Option Addr) (m c : Nat) (w : World) (hz : sideB z = true) (hm : m ≤ 8192) (h : Calls Try.prog 33 #[.pointer p, .int .i64 z] w fun e w' => e = .returned (.tuple #[.pointer none, .int .i64 181]) ∧ w = w') : Calls Try.prog 13 #[.pointer p, .int .i64 z, .slice A m c] w (NoN w 181) := by
  have h1 : ¬ (8192 : Int) < (m : Int) := by omega
  have H := Lib.hid h
  clear h
  go_enter Try.func13, Try.ntmps13
  go_wp2_with (first | (go_at_call 32; refine (side_any z _).mono ?_; rw [hz]; rintro e w' ⟨rfl, rfl⟩) | (go_at_call 33; refine H.out.mono ?_; rintro e w' ⟨rfl, rfl⟩))
  go_ret2
  exact ⟨rfl, rfl⟩
def NoD (w : World) (er : Int) (e : Ending) (w' : World) : Prop := e = .returned (.tuple #[.int .i64 0, .int .i64 er]) ∧ Below w.heap.size w w'
theorem sideN_ok (s : Bool) : sideB (sideN s) = true := by cases s <;> rfl
theorem NetX.heads {w : World} {g : Nat} {S : Ns} {v : Bool → Value} {l : Bool → List LP} (h : NetA w g S v l) (hu : S.up = true) (s : Bool) : w.cell? ⟨g, 0, none⟩ = some (.int .i64 S.limit) ∧ w.cell? ⟨g, 1, none⟩ = some (.bool true) ∧ w.cell? ⟨g, wayO s, none⟩ = some (v s) :=
  ⟨h.blk.cell 0, by rw [← hu]; exact h.blk.cell 1, (h.blk.cell _).trans (layN_under _ _ _)⟩
set_option maxRecDepth 20000 in
set_option maxHeartbeats 2000000 in
theorem send_full (g : Nat) (S : Ns) (v : Bool → Value) (l : Bool → List LP) (s : Bool) (A : Option Addr) (m c : Nat) (w : World) (h : NetA w g S v l) (hl : 1 ≤ S.limit) (hu : S.up = true) (hm : m ≤ 8192) (hf : ((S.u s).length : Int) = S.limit) :
    Calls Try.prog 13 #[.pointer (some ⟨g, 0, none⟩), .int .i64 (sideN s), .slice A m c] w (NoD w 183) := by
  have h1 : ¬ (8192 : Int) < (m : Int) := by omega
  obtain ⟨c0, c1, c2⟩ := h.heads hu s
  have HW := Lib.hid (way_up g S.limit s w c0 c1 (by omega))
  have hz := sideN_ok s
  obtain ⟨Av, cv, hv, -, -⟩ := own_form (h.row s)
  rw [hv] at c2
  have d0 : (((l s).length : Int) == S.limit) = true := by rw [h.len s, hf]; simp
  have hg := h.blk.lt
  clear c1 h hv hf hu
  go_enter Try.func13, Try.ntmps13
  go_wp2_with (first | (go_at_call 32; refine (side_any _ _).mono ?_; rw [hz]; rintro e w' ⟨rfl, rfl⟩) | (go_at_call 33; refine HW.out.mono ?_; rintro e w' ⟨rfl, rfl⟩))
  go_region
  all_goals
    go_wp2
    go_ret2
    exact ⟨rfl, (Below.refl _ _).drew⟩
theorem field0 (n : Int) (A : Option Addr) (m c : Nat) (w : World) : (Instr.field 36 (.agg #[.int .i64 n, .slice A m c]) 0).run Try.prog w = .ok (.int .i64 n) w := by kernel_rfl
/-- a number comes back -/
def NumP (num : Int) (_ : Nat → Prop) (_ : World) (e : Ending) : Prop := e = .returned (.tuple #[.int .i64 num, .int .i64 0])
/-- a step out of put's leavings -/
theorem put_step {w w2 w3 : World} {g : Nat} {S2 : Ns} {v : Bool → Value} {l : Bool → List LP} {s : Bool} {v1 : Value} {p1 : LP} {b : List UInt8} {R : (Nat → Prop) → World → Ending → Prop} {e : Ending} (hc : Chg (· = g) w w2) (hs : w2.heap.size = w.heap.size) (hn : NetA w3 g (S2.put s b) (upd v s v1) (upd l s (l s ++ [p1])))
    (hsub : ∀ k, NetF g (upd v s v1) (upd l s (l s ++ [p1])) k → NetF g v l k ∨ w2.heap.size ≤ k) (hc3 : Chg (NetF g v l) w2 w3) (hr : R (NetF g (upd v s v1) (upd l s (l s ++ [p1]))) w3 e) : StepP w g v l (S2.put s b) R e w3 :=
  ⟨_, _, hn, fun k hk => by rcases hsub k hk with h1 | h1; exact .inl h1; exact .inr (by omega), (hc.mono (fun i _ e => .inl e)).trans hc3 (fun _ _ e => e), hr⟩
set_option maxRecDepth 20000 in
set_option maxHeartbeats 4000000 in
theorem send_any (g : Nat) (S : Ns) (v : Bool → Value) (l : Bool → List LP) (K : Int) (s : Bool) (A : Option Addr) (m c B : Nat) (b : List UInt8) (w : World) (h : NetA w g S v l) (hk : S.ok K) (hK : K ≤ 4611686018427387900) (hu : S.up = true) (hm : m ≤ 8192) (hf : ((S.u s).length : Int) < S.limit) (hr : RdB w B A m b) (hB : B ≤ w.heap.size) :
    Calls Try.prog 13 #[.pointer (some ⟨g, 0, none⟩), .int .i64 (sideN s), .slice A m c] w (StepP w g v l ((S.add s 0 1).put s b) (NumP (S.number + 1))) := by
  have h1 : ¬ (8192 : Int) < (m : Int) := by omega
  obtain ⟨c0, c1, c2⟩ := h.heads hu s
  have HW := Lib.hid (way_up g S.limit s w c0 c1 (by have := hk.lo; omega))
  have hz := sideN_ok s
  obtain ⟨Av, cv, hv, -, -⟩ := own_form (h.row s)
  rw [hv] at c2
  have d0 : (((l s).length : Int) == S.limit) = false := by rw [h.len s, beq_eq_false_iff_ne]; omega
  have hg := h.blk.lt
  have H := Lib.hid h
  have HR := Lib.hid hr
  have hlb := hr.len1
  have k0 : w.cell? ⟨g, wayO s + 1, none⟩ = some (.int .i64 ((S.c s).get 0)) := (h.blk.cell _).trans (layN_get _ _ _ 0 (by omega))
  have f0 := h.blk.frozen (wayO s + 1)
  have hb0 := (Cn.get_ok (hk.cn s) 0 (by omega)).1
  have hb1 : (S.c s).get 0 ≤ 4611686018427387900 := Int.le_trans (Cn.get_ok (hk.cn s) 0 (by omega)).2 hK
  have HN2 : Hid (NetA (w.setCell ⟨g, wayO s + 1, none⟩ (.int .i64 ((S.c s).get 0 + 1))) g (S.add s 0 1) v l) := Lib.hid (h.add s 0 1 (by omega))
  have HR2 : Hid (RdB (w.setCell ⟨g, wayO s + 1, none⟩ (.int .i64 ((S.c s).get 0 + 1))) B A m b) := Lib.hid (rd_far h hr hB (fun k _ hn => Below.heap_setCell _ _ _ _ hn))
  have HC2 : Hid (Chg (· = g) w (w.setCell ⟨g, wayO s + 1, none⟩ (.int .i64 ((S.c s).get 0 + 1)))) := Lib.hid ((Chg.refl (· = g) w).setCell (p := ⟨g, wayO s + 1, none⟩) (fun _ => rfl) _)
  have hs2 : (w.setCell ⟨g, wayO s + 1, none⟩ (.int .i64 ((S.c s).get 0 + 1))).heap.size = w.heap.size := by simp [World.setCell]
  have HPUT := Lib.hid fun (W : World) (hW : Below (w.setCell ⟨g, wayO s + 1, none⟩ (.int .i64 ((S.c s).get 0 + 1))).heap.size (w.setCell ⟨g, wayO s + 1, none⟩ (.int .i64 ((S.c s).get 0 + 1))) W) =>
    put_any g (S.add s 0 1) v l (K + 1) s A m c B b W (HN2.out.below hW) (Ns.add_ok hk s 0 (by omega) 1 (by omega)) (by omega) (HR2.out.below (hW.mono (by rw [hs2]; exact hB))) (Nat.le_trans hB (by rw [← hs2]; exact hW.size)) (by omega)
  have HS2 := Lib.hid hs2
  generalize (S.c s).get 0 = cc at *
  clear c1 h hv hf hu hr hs2 hlb hk
  go_enter Try.func13, Try.ntmps13
  go_wp2_with (first | (go_at_call 32; refine (side_any _ _).mono ?_; rw [hz]; rintro e w' ⟨rfl, rfl⟩) | (go_at_call 33; refine HW.out.mono ?_; rintro e w' ⟨rfl, rfl⟩))
  go_region
  all_goals
    go_wp2_with fail
    refine (HPUT.out _ (Below.refl _ _).drew).mono ?_
    rintro e w3 ⟨v1, p1, A2, c2', rfl, hp1, hn3, hsub, hc3, ho3, hfr⟩
    have HST := Lib.hid (put_step (R := NumP (S.number + 1)) (e := .returned (.tuple #[.int .i64 (S.number + 1), .int .i64 0])) HC2.out.drew (by show _ = w.heap.size; exact HS2.out) hn3 hsub hc3 rfl)
    clear hn3 hsub hc3 ho3 hfr
    have hfld := field0 ((S.add s 0 1).number + 1) A2 b.length c2' w3
    go_wp2
    go_ret2
    exact HST.out
/-- the result's block behind the last store -/
theorem res_three {w1 : World} {r : Nat} (h : Blk w1 r 36 #[.int .i64 0, .slice none 0 0]) (n : Int) (A : Option Addr) (m c : Nat) :
    Blk ((w1.setCell ⟨r, 0, none⟩ (.int .i64 n)).setCell ⟨r, 1, none⟩ (.slice A m c)) r 36 #[.int .i64 n, .slice A m c] ∧ Chg (· = r) w1 ((w1.setCell ⟨r, 0, none⟩ (.int .i64 n)).setCell ⟨r, 1, none⟩ (.slice A m c)) :=
  ⟨((h.set_ 0 _).set_ 1 _), (((Chg.refl (· = r) w1).setCell (p := ⟨r, 0, none⟩) (fun _ => rfl) _).setCell (p := ⟨r, 1, none⟩) (fun _ => rfl) _)⟩
theorem dbl_end {w w1 w2 w3 : World} {g : Nat} {S S2 : Ns} {v : Bool → Value} {l : Bool → List LP} {s : Bool} {v1 : Value} {p1 : LP} {b : List UInt8} {A2 : Option Addr} {c2 : Nat} (h : NetA w g S v l) (hb1 : Below w.heap.size w w1) (hc : Chg (· = g) w1 w2) (hs1 : w1.heap.size = w.heap.size + 1 + 1) (hs : w2.heap.size = w1.heap.size)
    (hr : Blk w1 w.heap.size 36 #[.int .i64 0, .slice none 0 0]) (hne : w.heap.size ≠ g) (hn : NetA w3 g (S2.put s b) (upd v s v1) (upd l s (l s ++ [p1])))
    (hsub : ∀ k, NetF g (upd v s v1) (upd l s (l s ++ [p1])) k → NetF g v l k ∨ w2.heap.size ≤ k) (hc3 : Chg (NetF g v l) w2 w3) (ho : OwnB 5 w3 w2.heap.size (.slice A2 b.length c2) b) (hfr : ∀ k, (Value.slice A2 b.length c2).ownBlock = some k → ¬ NetF g (upd v s v1) (upd l s (l s ++ [p1])) k) :
    Blk w3 w.heap.size 36 #[.int .i64 0, .slice none 0 0] ∧ Blk ((w3.setCell ⟨w.heap.size, 0, none⟩ (.int .i64 (S2.number + 1))).setCell ⟨w.heap.size, 1, none⟩ (.slice A2 b.length c2)) w.heap.size 36 #[.int .i64 (S2.number + 1), .slice A2 b.length c2] ∧
    StepP w g v l (S2.put s b) (OutP w (NetF g v l) (S2.number + 1) b 0) (.returned (.tuple #[.agg #[.int .i64 (S2.number + 1), .slice A2 b.length c2], .int .i64 0])) ((w3.setCell ⟨w.heap.size, 0, none⟩ (.int .i64 (S2.number + 1))).setCell ⟨w.heap.size, 1, none⟩ (.slice A2 b.length c2)) := by
  have hnF : ¬ NetF g v l w.heap.size := fun e => by have := h.lt e; omega
  have hr3 : Blk w3 w.heap.size 36 #[.int .i64 0, .slice none 0 0] := hc3.blk (hc.blk hr hne) hnF
  obtain ⟨hb4, hc4⟩ := res_three hr3 (S2.number + 1) A2 b.length c2
  have hF : ∀ k, NetF g (upd v s v1) (upd l s (l s ++ [p1])) k → k ≠ w.heap.size := fun k hk e => by
    rcases hsub k hk with h1 | h1
    · subst e; exact hnF h1
    · omega
  refine ⟨hr3, hb4, _, _, hn.chg hc4 hF, fun k hk => ?_, ?_, A2, c2, rfl, ?_, fun k hk => ⟨hfr k hk, .inr ?_⟩⟩
  · rcases hsub k hk with h1 | h1
    · exact .inl h1
    · exact .inr (by omega)
  · exact (((Chg.of_below hb1 (NetF g v l)).trans hc (fun i _ e => .inl e)).trans hc3 (fun _ _ e => e)).trans hc4 (fun i hi e => by omega)
  · exact own_base (own_chg ho hc4 (fun k hk e => by have := (ho.lt k hk).1; omega)) (Nat.zero_le _)
  · have := (ho.lt k hk).1
    omega
theorem layN_pk (p : LP) : p.cells = [.int .i64 p.pk.num, .slice p.A p.pk.bytes.length p.c] := rfl
set_option maxRecDepth 20000 in
set_option maxHeartbeats 2000000 in
theorem double_err (p : Option Addr) (z i : Int) (er : Int) (w : World) (he : (er != 0) = true) (h : ∀ W : World, Below w.heap.size w W → Calls Try.prog 37 #[.pointer p, .int .i64 z, .slice (some ⟨w.heap.size + 1, 0, none⟩) 1 1] W fun e w' => e = .returned (.tuple #[.pointer none, .int .i64 er]) ∧ W = w') :
    Calls Try.prog 16 #[.pointer p, .int .i64 z, .int .i64 i] w (NoP w er) := by
  have H := Lib.hid h
  clear h
  go_enter Try.func16, Try.ntmps16
  go_wp2_with fail
  refine (H.out _ (((Below.refl _ _).alloc (Nat.le_refl _) _).alloc (by simp) _)).mono ?_
  rintro e w' ⟨rfl, rfl⟩
  go_wp2
  exact bodyPost_ret (v := .tuple #[.agg #[.int .i64 0, .slice none 0 0], .int .i64 er]) (by simp [results, Try.results16, go_sem]) rfl ⟨rfl, ((Below.refl _ _).alloc (Nat.le_refl _) _).alloc (by simp) _⟩
set_option maxRecDepth 20000 in
set_option maxHeartbeats 4000000 in
theorem double_any (g : Nat) (S : Ns) (v : Bool → Value) (l : Bool → List LP) (K : Int) (s : Bool) (i : Nat) (p : LP) (w : World) (h : NetA w g S v l) (hk : S.ok K) (hK : K ≤ 4611686018427387900) (hu : S.up = true) (hp : (l s)[i]? = some p) (hf : ((S.u s).length : Int) < S.limit) (hbl : p.pk.bytes.length ≤ 140737488355328) :
    Calls Try.prog 16 #[.pointer (some ⟨g, 0, none⟩), .int .i64 (sideN s), .int .i64 i] w (StepP w g v l ((S.add s 1 1).put s p.pk.bytes) (OutP w (NetF g v l) (S.number + 1) p.pk.bytes 0)) := by
  have hi : i < (l s).length := by
    rcases Nat.lt_or_ge i (l s).length with h1 | h1
    · exact h1
    · rw [List.getElem?_eq_none h1] at hp; cases hp
  have hn : (l s).length ≤ 64 := by rw [h.len s]; have := hk.len s; have := hk.hi; omega
  have hl := hk.lo
  have hg : g < w.heap.size := h.blk.lt
  have u0 : w.cell? ⟨g, wayO s, none⟩ = some (v s) := (h.blk.cell _).trans (layN_under _ _ _)
  obtain ⟨gb, cb, hv, hgb, q0, q1⟩ := (h.row s).at_ hp
  rw [val_form] at q1
  have d0 : (((l s).length : Int) == S.limit) = false := by rw [h.len s, beq_eq_false_iff_ne]; omega
  have HAT := Lib.hid fun (W : World) (hW : Below w.heap.size w W) (hz : RdZ W (w.heap.size + 1) [(i : Int)]) => at_up g (w.heap.size + 1) 1 S.limit s [(i : Int)] (some ⟨gb, 0, none⟩) (l s).length cb W ((h.blk.below hW hg).cell 0) (by rw [← hu]; exact (h.blk.below hW hg).cell 1) (by omega) (by rw [← hv, hW.cell (p := ⟨g, wayO s, none⟩) hg]; exact u0) hz (by simp)
  have HIN : Hid ([(i : Int)].all (inB (l s).length) = true) := Lib.hid (by simp [inB]; omega)
  have HZ : Hid (RdZ ((w.alloc (.cells #[.int .i64 0, .slice none 0 0] 36)).alloc (.cells #[.int .i64 i] 3)) (w.heap.size + 1) [(i : Int)]) := Lib.hid (fun k z hk => by
    match k with
    | 0 => simp only [List.getElem?_cons_zero, Option.some.injEq] at hk; subst hk; exact (Blk.new' _ 3 _ _ (by simp)).cell 0
    | k + 1 => simp at hk)
  have hb1 : Below w.heap.size w ((w.alloc (.cells #[.int .i64 0, .slice none 0 0] 36)).alloc (.cells #[.int .i64 i] 3)) := ((Below.refl _ _).alloc (Nat.le_refl _) _).alloc (by simp) _
  have HRES : Hid (Blk ((w.alloc (.cells #[.int .i64 0, .slice none 0 0] 36)).alloc (.cells #[.int .i64 i] 3)) w.heap.size 36 #[.int .i64 0, .slice none 0 0]) := Lib.hid ((Blk.new w 36 _).alloc _)
  have HB1 := Lib.hid hb1
  have H := Lib.hid h
  have HV := Lib.hid hv
  have HPI := Lib.hid hp
  have HK := Lib.hid hk
  clear h hu hv hb1 hp hf hk
  go_enter Try.func16, Try.ntmps16
  go_wp2_with fail
  refine (HAT.out _ HB1.out HZ.out).mono ?_
  rw [HIN.out]
  rintro e w1 ⟨rfl, rfl⟩
  have u1 : ((w.alloc (.cells #[.int .i64 0, .slice none 0 0] 36)).alloc (.cells #[.int .i64 i] 3)).cell? ⟨g, wayO s, none⟩ = some (.slice (some ⟨gb, 0, none⟩) (l s).length cb) := by rw [HB1.out.cell (p := ⟨g, wayO s, none⟩) hg, u0, HV.out]
  have q2 : ((w.alloc (.cells #[.int .i64 0, .slice none 0 0] 36)).alloc (.cells #[.int .i64 i] 3)).cell? ⟨gb, i * 2, none⟩ = some (.int .i64 p.pk.num) := by rw [HB1.out.cell (p := ⟨gb, i * 2, none⟩) hgb, q0]
  have q3 : ((w.alloc (.cells #[.int .i64 0, .slice none 0 0] 36)).alloc (.cells #[.int .i64 i] 3)).cell? ⟨gb, i * 2 + 1, none⟩ = some (.slice p.A p.pk.bytes.length p.c) := by rw [HB1.out.cell (p := ⟨gb, i * 2 + 1, none⟩) hgb, q1]
  generalize hw1 : (w.alloc (.cells #[.int .i64 0, .slice none 0 0] 36)).alloc (.cells #[.int .i64 i] 3) = w1 at *
  have hs1 : w1.heap.size = w.heap.size + 1 + 1 := by rw [← hw1]; simp
  have HS1 := Lib.hid hs1
  have z1 : g < w1.heap.size := by omega
  have z2 : gb < w1.heap.size := by omega
  have l1 : (0 : Int) ≤ (i : Int) := by omega
  have l2 : (i : Int) < ((l s).length : Int) := by omega
  have hn1 := H.out.below HB1.out
  have c0 : w1.cell? ⟨g, 0, none⟩ = some (.int .i64 S.limit) := hn1.blk.cell 0
  have k0 : w1.cell? ⟨g, wayO s + 1 + 1, none⟩ = some (.int .i64 ((S.c s).get 1)) := (hn1.blk.cell _).trans (layN_get _ _ _ 1 (by omega))
  have f0 := hn1.blk.frozen (wayO s + 1 + 1)
  have hb0 := (Cn.get_ok (HK.out.cn s) 1 (by omega)).1
  have hb1 : (S.c s).get 1 ≤ 4611686018427387900 := Int.le_trans (Cn.get_ok (HK.out.cn s) 1 (by omega)).2 hK
  have HN2 : Hid (NetA (w1.setCell ⟨g, wayO s + 1 + 1, none⟩ (.int .i64 ((S.c s).get 1 + 1))) g (S.add s 1 1) v l) := Lib.hid (hn1.add s 1 1 (by omega))
  have HC2 : Hid (Chg (· = g) w1 (w1.setCell ⟨g, wayO s + 1 + 1, none⟩ (.int .i64 ((S.c s).get 1 + 1)))) := Lib.hid ((Chg.refl (· = g) w1).setCell (p := ⟨g, wayO s + 1 + 1, none⟩) (fun _ => rfl) _)
  have hs2 : (w1.setCell ⟨g, wayO s + 1 + 1, none⟩ (.int .i64 ((S.c s).get 1 + 1))).heap.size = w1.heap.size := by simp [World.setCell]
  have HOWN : Hid (OwnB 5 (w1.setCell ⟨g, wayO s + 1 + 1, none⟩ (.int .i64 ((S.c s).get 1 + 1))) 0 (.slice p.A p.pk.bytes.length p.c) p.pk.bytes) := Lib.hid (HN2.out.pks s p (List.mem_of_getElem? HPI.out))
  have HPUT := Lib.hid fun (W : World) (hW : Below (w1.setCell ⟨g, wayO s + 1 + 1, none⟩ (.int .i64 ((S.c s).get 1 + 1))).heap.size (w1.setCell ⟨g, wayO s + 1 + 1, none⟩ (.int .i64 ((S.c s).get 1 + 1))) W) =>
    put_any g (S.add s 1 1) v l (K + 1) s p.A p.pk.bytes.length p.c _ p.pk.bytes W (HN2.out.below hW) (Ns.add_ok HK.out s 1 (by omega) 1 (by omega)) (by omega) ((OwnB.reads HOWN.out rfl).below hW) hW.size hbl
  have HS2 := Lib.hid hs2
  have hgg : gb ≠ g := fun e => by
    subst e
    exact own_blk_ne (H.out.row s) H.out.blk (by decide) (by rw [HV.out]; simp [Value.ownBlock])
  have q5 : (w1.setCell ⟨g, wayO s + 1 + 1, none⟩ (.int .i64 ((S.c s).get 1 + 1))).cell? ⟨gb, i * 2 + 1, none⟩ = some (.slice p.A p.pk.bytes.length p.c) := (World.cell?_setCell_other w1 _ _ _ (by intro e; injection e with e; exact hgg e.symm)).trans q3
  clear hw1 hs1 u0 q0 q1 HAT HIN HZ hn1 hs2
  simp only [if_true]
  generalize (S.c s).get 1 = cc at *
  go_wp2_with fail
  go_region
  all_goals
    go_wp2_with fail
    refine (HPUT.out _ (Below.refl _ _).drew).mono ?_
    rintro e w3 ⟨v1, p1, A2, c2', rfl, hp1, hn3, hsub, hc3, ho3, hfr⟩
    have HST := Lib.hid (dbl_end H.out HB1.out HC2.out.drew HS1.out (by show _ = w1.heap.size; exact HS2.out) HRES.out (by simp; omega) hn3 hsub hc3 ho3 hfr)
    have hr3 := HST.out.1
    have r0 := hr3.cell 0
    have r1 := hr3.cell 1
    have s0 := hr3.frozen 0
    have s1 := hr3.frozen 1
    clear hn3 hsub hc3 ho3 hfr hr3
    go_wp2
    have t0 := HST.out.2.1.cell 0
    have t1 := HST.out.2.1.cell 1
    clear r0 r1 s0 s1
    exact bodyPost_ret (v := .tuple #[.agg #[.int .i64 ((S.add s 1 1).number + 1), .slice A2 p.pk.bytes.length c2'], .int .i64 0]) (by simp [results, Try.results16, go_sem, t0, t1]) rfl HST.out.2.2
end Go.Proofs.Ytbkgphmocjjmmaa
