/-
  The walks of Deliver and Drop.
-/
import Derived.Test.YtbkgphmocjjmmaaNtF
namespace Go.Proofs.Ytbkgphmocjjmmaa
open Go.RowKit

def Cn.get (c : Cn) : Nat → Int
  | 0 => c.sent
  | 1 => c.doubled
  | 2 => c.delivered
  | 3 => c.dropped
  | 4 => c.lost
  | 5 => c.moved
  | 6 => c.flipped
  | _ => 0
def Cn.put (c : Cn) (x : Int) : Nat → Cn
  | 0 => { c with sent := x }
  | 1 => { c with doubled := x }
  | 2 => { c with delivered := x }
  | 3 => { c with dropped := x }
  | 4 => { c with lost := x }
  | 5 => { c with moved := x }
  | 6 => { c with flipped := x }
  | _ => c
def Ns.add (S : Ns) (s : Bool) (k : Nat) (n : Int) : Ns := { S with c := upd S.c s ((S.c s).put ((S.c s).get k + n) k) }
theorem layN_get (S : Ns) (v : Bool → Value) (s : Bool) (k : Nat) (hk : k < 7) : (layN S v)[wayO s + 1 + k]? = some (.int .i64 ((S.c s).get k)) := by
  match k, hk with
  | 0, _ => cases s <;> rfl
  | 1, _ => cases s <;> rfl
  | 2, _ => cases s <;> rfl
  | 3, _ => cases s <;> rfl
  | 4, _ => cases s <;> rfl
  | 5, _ => cases s <;> rfl
  | 6, _ => cases s <;> rfl
theorem layN_add (S : Ns) (v : Bool → Value) (s : Bool) (k : Nat) (n : Int) (hk : k < 7) : (layN S v).setIfInBounds (wayO s + 1 + k) (.int .i64 ((S.c s).get k + n)) = layN (S.add s k n) v := by
  match k, hk with
  | 0, _ => cases s <;> simp [layN, wayO, upd, Ns.add, Cn.put, Cn.get]
  | 1, _ => cases s <;> simp [layN, wayO, upd, Ns.add, Cn.put, Cn.get]
  | 2, _ => cases s <;> simp [layN, wayO, upd, Ns.add, Cn.put, Cn.get]
  | 3, _ => cases s <;> simp [layN, wayO, upd, Ns.add, Cn.put, Cn.get]
  | 4, _ => cases s <;> simp [layN, wayO, upd, Ns.add, Cn.put, Cn.get]
  | 5, _ => cases s <;> simp [layN, wayO, upd, Ns.add, Cn.put, Cn.get]
  | 6, _ => cases s <;> simp [layN, wayO, upd, Ns.add, Cn.put, Cn.get]
theorem Cn.get_ok {K : Int} {c : Cn} (h : c.ok K) (k : Nat) (hk : k < 7) : 0 ≤ c.get k ∧ c.get k ≤ K := by
  unfold Cn.ok at h
  match k, hk with
  | 0, _ => simp only [Cn.get]; omega
  | 1, _ => simp only [Cn.get]; omega
  | 2, _ => simp only [Cn.get]; omega
  | 3, _ => simp only [Cn.get]; omega
  | 4, _ => simp only [Cn.get]; omega
  | 5, _ => simp only [Cn.get]; omega
  | 6, _ => simp only [Cn.get]; omega
theorem Cn.put_ok {K : Int} {c : Cn} (h : c.ok K) (x : Int) (hx : 0 ≤ x ∧ x ≤ K) (k : Nat) : (c.put x k).ok K := by
  unfold Cn.ok at *
  unfold Cn.put
  split <;> (try simp only) <;> omega
theorem Ns.add_ok {K : Int} {S : Ns} (h : S.ok K) (s : Bool) (k : Nat) (hk : k < 7) (n : Int) (hn : 0 ≤ n) : (S.add s k n).ok (K + n) := by
  have h' := Ns.ok_mono h (show K ≤ K + n by omega)
  refine ⟨h'.lo, h'.hi, h'.ep, h'.nu, h'.len, fun t => ?_⟩
  by_cases ht : t = s
  · subst ht
    have e : (S.add t k n).c t = (S.c t).put ((S.c t).get k + n) k := by simp [Ns.add, upd]
    rw [e]
    have := Cn.get_ok (h.cn t) k hk
    exact Cn.put_ok (h'.cn t) _ (by omega) k
  · have e : (S.add s k n).c t = S.c t := by simp [Ns.add, upd, ht]
    rw [e]
    exact h'.cn t
theorem Ns.take_ok {K : Int} {S : Ns} (h : S.ok K) (s : Bool) (i : Nat) : (S.take s i).ok K := by
  refine ⟨h.lo, h.hi, h.ep, h.nu, fun t => ?_, h.cn⟩
  have := h.len t
  by_cases ht : t = s
  · subst ht
    have e : (S.take t i).u t = (S.u t).eraseIdx i := by simp [Ns.take, upd]
    have hl := List.length_eraseIdx_le (S.u t) i
    rw [e]
    show ((((S.u t).eraseIdx i).length : Nat) : Int) ≤ S.limit
    omega
  · have e : (S.take s i).u t = S.u t := by simp [Ns.take, upd, ht]
    rw [e]
    exact this
/-- one count has turned -/
theorem NetX.add {w : World} {g : Nat} {S : Ns} {v : Bool → Value} {l : Bool → List LP} (h : NetA w g S v l) (s : Bool) (k : Nat) (n : Int) (hk : k < 7) : NetA (w.setCell ⟨g, wayO s + 1 + k, none⟩ (.int .i64 ((S.c s).get k + n))) g (S.add s k n) v l :=
  h.head (by rw [← layN_add S v s k n hk]; exact h.blk.set_ _ _) rfl (fun i _ hn => Below.heap_setCell _ _ _ _ hn) (by decide) (by decide)
/-- what an act leaves -/
def StepP (w : World) (g : Nat) (v : Bool → Value) (l : Bool → List LP) (S' : Ns) (R : (Nat → Prop) → World → Ending → Prop) (e : Ending) (w' : World) : Prop :=
  ∃ v' l', NetA w' g S' v' l' ∧ (∀ k, NetF g v' l' k → NetF g v l k ∨ w.heap.size ≤ k) ∧ Chg (NetF g v l) w w' ∧ R (NetF g v' l') w' e
/-- a packet and an error's number come back; its bytes are none of the net's -/
def OutP (w : World) (F : Nat → Prop) (num : Int) (bytes : List UInt8) (er : Int) (F' : Nat → Prop) (w' : World) (e : Ending) : Prop :=
  ∃ A c, e = .returned (.tuple #[.agg #[.int .i64 num, .slice A bytes.length c], .int .i64 er]) ∧ OwnB 5 w' 0 (.slice A bytes.length c) bytes ∧ ∀ k, (Value.slice A bytes.length c).ownBlock = some k → ¬ F' k ∧ (F k ∨ w.heap.size ≤ k)
def NoP (w : World) (er : Int) (e : Ending) (w' : World) : Prop := e = .returned (.tuple #[.agg #[.int .i64 0, .slice none 0 0], .int .i64 er]) ∧ Below w.heap.size w w'
/-- a packet that is taken out is none of the net's -/
theorem out_free {w : World} {g : Nat} {S : Ns} {v : Bool → Value} {l : Bool → List LP} {s : Bool} {i : Nat} {p : LP} {q : Value} (h : NetA w g S v l) (hp : (l s)[i]? = some p) (hv : q.ownBlock = (v s).ownBlock) {k : Nat} (hk : p.blk = some k) : ¬ NetF g (upd v s q) (upd l s ((l s).eraseIdx i)) k := by
  have hpm : p ∈ l s := List.mem_of_getElem? hp
  rintro (e | ⟨t, e⟩ | ⟨t, r, hr, e⟩)
  · subst e
    exact own_blk_ne (h.pks s p hpm) h.blk (by decide) hk
  · by_cases ht : t = s
    · subst ht
      rw [upd_at, hv] at e
      exact own_apart (h.pks t p hpm) (h.row t) (by decide) k hk e
    · have : upd v s q t = v t := by simp [upd, ht]
      rw [this] at e
      exact own_apart (h.pks s p hpm) (h.row t) (by decide) k hk e
  · by_cases ht : t = s
    · subst ht
      rw [upd_at] at hr
      have hpw := h.apart t
      obtain ⟨j, hj⟩ := List.getElem?_of_mem hr
      rw [List.getElem?_eraseIdx] at hj
      have key : ∀ a b : Nat, a < b → ∀ x y, (l t)[a]? = some x → (l t)[b]? = some y → apartP x y := by
        intro a b hab x y hx hy
        have ha : a < (l t).length := (List.getElem?_eq_some_iff.1 hx).1
        have hb : b < (l t).length := (List.getElem?_eq_some_iff.1 hy).1
        have := List.pairwise_iff_getElem.1 hpw a b ha hb hab
        rw [(List.getElem?_eq_some_iff.1 hx).2, (List.getElem?_eq_some_iff.1 hy).2] at this
        exact this
      have hap : apartP p r := by
        split at hj
        · exact (key j i (by omega) r p hj hp).symm
        · exact key i (j + 1) (by omega) p r hp hj
      rcases hap with h1 | h1
      · rw [h1] at hk; cases hk
      · exact h1 (by rw [hk, e])
    · have e2 : upd l s ((l s).eraseIdx i) t = l t := by simp [upd, ht]
      rw [e2] at hr
      have hap : apartP p r := by
        cases s with
        | false =>
          have : t = true := by cases t <;> simp_all
          subst this
          exact h.cross p hpm r hr
        | true =>
          have : t = false := by cases t <;> simp_all
          subst this
          exact (h.cross r hr p hpm).symm
      rcases hap with h1 | h1
      · rw [h1] at hk; cases hk
      · exact h1 (by rw [hk, e])
/-- the result's block behind the last store -/
theorem res_two {w1 : World} {r : Nat} (h : Blk w1 r 36 #[.int .i64 0, .slice none 0 0]) (n : Int) (A : Option Addr) (m c : Nat) (o : Obj) :
    Blk (((w1.setCell ⟨r, 0, none⟩ (.int .i64 n)).setCell ⟨r, 1, none⟩ (.slice A m c)).alloc o) r 36 #[.int .i64 n, .slice A m c] ∧ Chg (· = r) w1 (((w1.setCell ⟨r, 0, none⟩ (.int .i64 n)).setCell ⟨r, 1, none⟩ (.slice A m c)).alloc o) :=
  ⟨((h.set_ 0 _).set_ 1 _).alloc o, (((Chg.refl (· = r) w1).setCell (p := ⟨r, 0, none⟩) (fun _ => rfl) _).setCell (p := ⟨r, 1, none⟩) (fun _ => rfl) _).alloc o⟩
/-- behind Deliver or Drop -/
theorem del_end {w w1 w2 : World} {g : Nat} {S : Ns} {v : Bool → Value} {l : Bool → List LP} {s : Bool} {i : Nat} {p : LP} {q : Value} (k : Nat) (hk : k < 7) (h : NetA w g S v l) (hp : (l s)[i]? = some p) (h1 : Below w.heap.size w w1) (hc : Chg (NetF g v l) w1 w2) (hn : NetA w2 g (S.take s i) (upd v s q) (upd l s ((l s).eraseIdx i))) (hv : q.ownBlock = (v s).ownBlock) (ho : p.own w2)
    (hr : Blk w2 w.heap.size 36 #[.int .i64 0, .slice none 0 0]) :
    Blk (((((w2.setCell ⟨g, wayO s + 1 + k, none⟩ (.int .i64 (((S.take s i).c s).get k + 1))).setCell ⟨w.heap.size, 0, none⟩ (.int .i64 p.pk.num)).setCell ⟨w.heap.size, 1, none⟩ (.slice p.A p.pk.bytes.length p.c)).alloc (.cells #[.int .i64 p.pk.num, .slice p.A p.pk.bytes.length p.c] 36))) w.heap.size 36 #[.int .i64 p.pk.num, .slice p.A p.pk.bytes.length p.c] ∧
    StepP w g v l ((S.take s i).add s k 1) (OutP w (NetF g v l) p.pk.num p.pk.bytes 0) (.returned (.tuple #[.agg #[.int .i64 p.pk.num, .slice p.A p.pk.bytes.length p.c], .int .i64 0]))
      (((((w2.setCell ⟨g, wayO s + 1 + k, none⟩ (.int .i64 (((S.take s i).c s).get k + 1))).setCell ⟨w.heap.size, 0, none⟩ (.int .i64 p.pk.num)).setCell ⟨w.heap.size, 1, none⟩ (.slice p.A p.pk.bytes.length p.c)).alloc (.cells #[.int .i64 p.pk.num, .slice p.A p.pk.bytes.length p.c] 36))) := by
  have hg : g < w.heap.size := h.blk.lt
  have hsub : ∀ j, NetF g (upd v s q) (upd l s ((l s).eraseIdx i)) j → NetF g v l j := fun j hj => by
    rcases NetF.upd (n := w.heap.size) (.inr (.inl hv)) (fun p hp => .inr (.inl ⟨p, List.mem_of_mem_eraseIdx hp, rfl⟩)) hj with e | e
    · exact e
    · have hv2 : ∀ b, upd v s q b = upd v s q b := fun _ => rfl
      rcases hj with e1 | ⟨t, e1⟩ | ⟨t, r, hr', e1⟩
      · exact .inl e1
      · by_cases ht : t = s
        · subst ht; rw [upd_at, hv] at e1; exact .inr (.inl ⟨t, e1⟩)
        · have e2 : upd v s q t = v t := by simp [upd, ht]
          rw [e2] at e1; exact .inr (.inl ⟨t, e1⟩)
      · by_cases ht : t = s
        · subst ht; rw [upd_at] at hr'; exact .inr (.inr ⟨t, r, List.mem_of_mem_eraseIdx hr', e1⟩)
        · have e2 : upd l s ((l s).eraseIdx i) t = l t := by simp [upd, ht]
          rw [e2] at hr'; exact .inr (.inr ⟨t, r, hr', e1⟩)
  have hn3 := hn.add s k 1 hk
  have hr3 : Blk (w2.setCell ⟨g, wayO s + 1 + k, none⟩ (.int .i64 (((S.take s i).c s).get k + 1))) w.heap.size 36 #[.int .i64 0, .slice none 0 0] := hr.far (by simp; omega) _
  have hc3 : Chg (· = g) w2 (w2.setCell ⟨g, wayO s + 1 + k, none⟩ (.int .i64 (((S.take s i).c s).get k + 1))) := (Chg.refl (· = g) w2).setCell (p := ⟨g, wayO s + 1 + k, none⟩) (fun _ => rfl) _
  obtain ⟨hb4, hc4⟩ := res_two hr3 p.pk.num p.A p.pk.bytes.length p.c (.cells #[.int .i64 p.pk.num, .slice p.A p.pk.bytes.length p.c] 36)
  have hF : ∀ j, NetF g (upd v s q) (upd l s ((l s).eraseIdx i)) j → j ≠ w.heap.size := fun j hj e => by have := h.lt (hsub j hj); omega
  refine ⟨hb4, _, _, hn3.chg hc4 hF, fun j hj => .inl (hsub j hj), ?_, p.A, p.c, rfl, ?_, fun j hj => ⟨out_free h hp hv hj, .inl (.inr (.inr ⟨s, p, List.mem_of_getElem? hp, hj⟩))⟩⟩
  · exact (((Chg.of_below h1 (NetF g v l)).trans hc (fun _ _ e => e)).trans hc3 (fun j hj e => .inl e)).trans hc4 (fun j hj e => by omega)
  · refine own_chg (own_chg ho hc3 (fun j hj e => ?_)) hc4 (fun j hj e => ?_)
    · subst e; exact own_blk_ne ho hn.blk (by decide) hj
    · subst e; exact own_blk_ne ho hr (by decide) hj
set_option maxRecDepth 20000 in
set_option maxHeartbeats 2000000 in
theorem deliver_err (p : Option Addr) (z i : Int) (er : Int) (w : World) (he : (er == 0) = false) (h : ∀ W : World, Below w.heap.size w W → Calls Try.prog 35 #[.pointer p, .int .i64 z, .int .i64 i] W (NoPk W er)) :
    Calls Try.prog 14 #[.pointer p, .int .i64 z, .int .i64 i] w (NoP w er) := by
  have H := Lib.hid (h (w.alloc (.cells #[.int .i64 0, .slice none 0 0] 36)) ((Below.refl _ _).alloc (Nat.le_refl _) _))
  clear h
  go_enter Try.func14, Try.ntmps14
  go_wp2_with fail
  refine H.out.mono ?_
  rintro e w1 ⟨rfl, hb⟩
  have HB := Lib.hid hb
  have HR : Hid (Blk w1 w.heap.size 36 #[.int .i64 0, .slice none 0 0]) := Lib.hid ((Blk.new w 36 _).below hb (by simp))
  have r0 := HR.out.cell 0
  have r1 := HR.out.cell 1
  have s0 := HR.out.frozen 0
  have s1 := HR.out.frozen 1
  clear hb
  have hlt : w.heap.size < w1.heap.size := HR.out.lt
  go_wp2
  have hend := res_two HR.out 0 none 0 0 (.cells #[.int .i64 0, .slice none 0 0] 36)
  have hbel : Below w.heap.size w (((w1.setCell ⟨w.heap.size, 0, none⟩ (.int .i64 0)).setCell ⟨w.heap.size, 1, none⟩ (.slice none 0 0)).alloc (.cells #[.int .i64 0, .slice none 0 0] 36)) :=
    (((((Below.refl _ _).alloc (Nat.le_refl _) _).trans (HB.out.mono (by simp))).setCell (p := ⟨w.heap.size, 0, none⟩) (Nat.le_refl _) _).setCell (p := ⟨w.heap.size, 1, none⟩) (Nat.le_refl _) _).alloc (by simp [World.setCell]; omega) _
  clear r0 r1 s0 s1
  have t0 := hend.1.cell 0
  have t1 := hend.1.cell 1
  exact bodyPost_ret (v := .tuple #[.agg #[.int .i64 0, .slice none 0 0], .int .i64 er]) (by simp [results, Try.results14, go_sem, t0, t1]) rfl ⟨rfl, hbel⟩
set_option maxRecDepth 20000 in
set_option maxHeartbeats 2000000 in
theorem deliver_any (g : Nat) (S : Ns) (v : Bool → Value) (l : Bool → List LP) (K : Int) (s : Bool) (i : Nat) (p : LP) (w : World) (h : NetA w g S v l) (hk : S.ok K) (hK : K ≤ 4611686018427387904) (hu : S.up = true) (hp : (l s)[i]? = some p) :
    Calls Try.prog 14 #[.pointer (some ⟨g, 0, none⟩), .int .i64 (sideN s), .int .i64 i] w (StepP w g v l ((S.take s i).add s 2 1) (OutP w (NetF g v l) p.pk.num p.pk.bytes 0)) := by
  have HT := Lib.hid (take_any g S v l s i p (w.alloc (.cells #[.int .i64 0, .slice none 0 0] 36)) (h.below ((Below.refl _ _).alloc (Nat.le_refl _) _)) hk.lo hu hp (by rw [h.len s]; have := hk.len s; have := hk.hi; omega))
  have hb0 : 0 ≤ ((S.take s i).c s).get 2 := (Cn.get_ok ((Ns.take_ok hk s i).cn s) 2 (by omega)).1
  have hb1 : ((S.take s i).c s).get 2 ≤ 4611686018427387904 := Int.le_trans (Cn.get_ok ((Ns.take_ok hk s i).cn s) 2 (by omega)).2 hK
  have H := Lib.hid h
  have HP := Lib.hid hp
  have hg : g < w.heap.size := h.blk.lt
  clear h hk hu hp
  go_enter Try.func14, Try.ntmps14
  go_wp2_with fail
  refine HT.out.mono ?_
  rintro e w2 ⟨v1, rfl, hn, hv, hc, ho⟩
  have hR : Blk w2 w.heap.size 36 #[.int .i64 0, .slice none 0 0] := hc.blk (Blk.new w 36 _) (fun e => by have := H.out.lt e; omega)
  have HEND := Lib.hid (del_end 2 (by omega) H.out HP.out ((Below.refl _ _).alloc (Nat.le_refl _) _) hc hn hv ho hR)
  have k0 : w2.cell? ⟨g, wayO s + 1 + 2, none⟩ = some (.int .i64 (((S.take s i).c s).get 2)) := (hn.blk.cell _).trans (layN_get _ _ _ _ (by omega))
  have f0 := hn.blk.frozen (wayO s + 1 + 2)
  have r0 := hR.cell 0
  have r1 := hR.cell 1
  have s0 := hR.frozen 0
  have s1 := hR.frozen 1
  have hlt : w.heap.size < w2.heap.size := hR.lt
  have hg2 : g < w2.heap.size := by omega
  generalize ((S.take s i).c s).get 2 = cc at *
  clear hn hv hc ho hR
  go_wp2
  have t0 := HEND.out.1.cell 0
  have t1 := HEND.out.1.cell 1
  clear k0 f0 r0 r1 s0 s1
  exact bodyPost_ret (v := .tuple #[.agg #[.int .i64 p.pk.num, .slice p.A p.pk.bytes.length p.c], .int .i64 0]) (by simp [results, Try.results14, go_sem, t0, t1]) rfl HEND.out.2
set_option maxRecDepth 20000 in
set_option maxHeartbeats 2000000 in
theorem drop_err (p : Option Addr) (z i : Int) (er : Int) (w : World) (he : (er == 0) = false) (h : ∀ W : World, Below w.heap.size w W → Calls Try.prog 35 #[.pointer p, .int .i64 z, .int .i64 i] W (NoPk W er)) :
    Calls Try.prog 43 #[.pointer p, .int .i64 z, .int .i64 i] w (NoP w er) := by
  have H := Lib.hid (h (w.alloc (.cells #[.int .i64 0, .slice none 0 0] 36)) ((Below.refl _ _).alloc (Nat.le_refl _) _))
  clear h
  go_enter Try.func43, Try.ntmps43
  go_wp2_with fail
  refine H.out.mono ?_
  rintro e w1 ⟨rfl, hb⟩
  have HB := Lib.hid hb
  have HR : Hid (Blk w1 w.heap.size 36 #[.int .i64 0, .slice none 0 0]) := Lib.hid ((Blk.new w 36 _).below hb (by simp))
  have r0 := HR.out.cell 0
  have r1 := HR.out.cell 1
  have s0 := HR.out.frozen 0
  have s1 := HR.out.frozen 1
  clear hb
  have hlt : w.heap.size < w1.heap.size := HR.out.lt
  go_wp2
  have hend := res_two HR.out 0 none 0 0 (.cells #[.int .i64 0, .slice none 0 0] 36)
  have hbel : Below w.heap.size w (((w1.setCell ⟨w.heap.size, 0, none⟩ (.int .i64 0)).setCell ⟨w.heap.size, 1, none⟩ (.slice none 0 0)).alloc (.cells #[.int .i64 0, .slice none 0 0] 36)) :=
    (((((Below.refl _ _).alloc (Nat.le_refl _) _).trans (HB.out.mono (by simp))).setCell (p := ⟨w.heap.size, 0, none⟩) (Nat.le_refl _) _).setCell (p := ⟨w.heap.size, 1, none⟩) (Nat.le_refl _) _).alloc (by simp [World.setCell]; omega) _
  clear r0 r1 s0 s1
  have t0 := hend.1.cell 0
  have t1 := hend.1.cell 1
  exact bodyPost_ret (v := .tuple #[.agg #[.int .i64 0, .slice none 0 0], .int .i64 er]) (by simp [results, Try.results43, go_sem, t0, t1]) rfl ⟨rfl, hbel⟩
set_option maxRecDepth 20000 in
set_option maxHeartbeats 2000000 in
theorem drop_any (g : Nat) (S : Ns) (v : Bool → Value) (l : Bool → List LP) (K : Int) (s : Bool) (i : Nat) (p : LP) (w : World) (h : NetA w g S v l) (hk : S.ok K) (hK : K ≤ 4611686018427387904) (hu : S.up = true) (hp : (l s)[i]? = some p) :
    Calls Try.prog 43 #[.pointer (some ⟨g, 0, none⟩), .int .i64 (sideN s), .int .i64 i] w (StepP w g v l ((S.take s i).add s 3 1) (OutP w (NetF g v l) p.pk.num p.pk.bytes 0)) := by
  have HT := Lib.hid (take_any g S v l s i p (w.alloc (.cells #[.int .i64 0, .slice none 0 0] 36)) (h.below ((Below.refl _ _).alloc (Nat.le_refl _) _)) hk.lo hu hp (by rw [h.len s]; have := hk.len s; have := hk.hi; omega))
  have hb0 : 0 ≤ ((S.take s i).c s).get 3 := (Cn.get_ok ((Ns.take_ok hk s i).cn s) 3 (by omega)).1
  have hb1 : ((S.take s i).c s).get 3 ≤ 4611686018427387904 := Int.le_trans (Cn.get_ok ((Ns.take_ok hk s i).cn s) 3 (by omega)).2 hK
  have H := Lib.hid h
  have HP := Lib.hid hp
  have hg : g < w.heap.size := h.blk.lt
  clear h hk hu hp
  go_enter Try.func43, Try.ntmps43
  go_wp2_with fail
  refine HT.out.mono ?_
  rintro e w2 ⟨v1, rfl, hn, hv, hc, ho⟩
  have hR : Blk w2 w.heap.size 36 #[.int .i64 0, .slice none 0 0] := hc.blk (Blk.new w 36 _) (fun e => by have := H.out.lt e; omega)
  have HEND := Lib.hid (del_end 3 (by omega) H.out HP.out ((Below.refl _ _).alloc (Nat.le_refl _) _) hc hn hv ho hR)
  have k0 : w2.cell? ⟨g, wayO s + 1 + 3, none⟩ = some (.int .i64 (((S.take s i).c s).get 3)) := (hn.blk.cell _).trans (layN_get _ _ _ _ (by omega))
  have f0 := hn.blk.frozen (wayO s + 1 + 3)
  have r0 := hR.cell 0
  have r1 := hR.cell 1
  have s0 := hR.frozen 0
  have s1 := hR.frozen 1
  have hlt : w.heap.size < w2.heap.size := hR.lt
  have hg2 : g < w2.heap.size := by omega
  generalize ((S.take s i).c s).get 3 = cc at *
  clear hn hv hc ho hR
  go_wp2
  have t0 := HEND.out.1.cell 0
  have t1 := HEND.out.1.cell 1
  clear k0 f0 r0 r1 s0 s1
  exact bodyPost_ret (v := .tuple #[.agg #[.int .i64 p.pk.num, .slice p.A p.pk.bytes.length p.c], .int .i64 0]) (by simp [results, Try.results43, go_sem, t0, t1]) rfl HEND.out.2
end Go.Proofs.Ytbkgphmocjjmmaa
