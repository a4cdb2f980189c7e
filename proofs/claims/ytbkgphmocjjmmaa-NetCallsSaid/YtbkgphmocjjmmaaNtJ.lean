/-
  The walk of Move.
-/
import Derived.Test.YtbkgphmocjjmmaaNtI
namespace Go.Proofs.Ytbkgphmocjjmmaa
open Go.RowKit

theorem ins_any (v : Value) (l : List LP) (p : LP) (hb j : Nat) (w : World) (h : RowP w v l) (hj : j ≤ l.length) (hv : ∃ g c, v = .slice (some ⟨g, 0, none⟩) l.length c ∧ l.length + 1 ≤ c) (hp : Blk w hb 36 #[.int .i64 p.pk.num, .slice p.A p.pk.bytes.length p.c]) (hne : v.ownBlock ≠ some hb) (hl : l.length ≤ 1000000) :
    Calls Try.prog 44 #[v, .int .i64 j, .slice (some ⟨hb, 0, none⟩) 1 1] w (InsP w v (l.take j ++ [p] ++ l.drop j)) := by
  rcases Nat.lt_or_ge j l.length with h1 | h1
  · exact ins_mid v l p hb j w h h1 hv hp hne hl
  · obtain rfl : j = l.length := by omega
    rw [List.take_length, List.drop_length, List.append_nil]
    obtain ⟨g, c, e, _⟩ := hv
    exact ins_end v l p hb w h ⟨g, c, e⟩ hp hl
def Ns.setU (S : Ns) (s : Bool) (us : List Pk) : Ns := { S with u := upd S.u s us }
theorem layN_setU (S : Ns) (v : Bool → Value) (s : Bool) (x : Value) (us : List Pk) : (layN S v).setIfInBounds (wayO s) x = layN (S.setU s us) (upd v s x) := by cases s <;> simp [layN, wayO, upd, Ns.setU]
/-- a way's row has been written anew, and stored -/
theorem row_net {w w6 : World} {g : Nat} {S : Ns} {v : Bool → Value} {l : Bool → List LP} {s : Bool} {v1 : Value} {l1 : List LP} (h : NetA w g S v l) (hc : Chg (fun k => (v s).ownBlock = some k) w w6) (hr : RowP w6 v1 l1) (hv : v1.ownBlock = (v s).ownBlock ∨ ∃ k, v1.ownBlock = some k ∧ w.heap.size ≤ k) (hl : ∀ p ∈ l1, p ∈ l s) (hp : l1.Pairwise apartP) :
    NetA (w6.setCell ⟨g, wayO s, none⟩ v1) g (S.setU s (l1.map LP.pk)) (upd v s v1) (upd l s l1) ∧ Chg (NetF g v l) w (w6.setCell ⟨g, wayO s, none⟩ v1) ∧ (∀ k, NetF g (upd v s v1) (upd l s l1) k → NetF g v l k ∨ w.heap.size ≤ k) := by
  have hgw := h.blk.lt
  have hvg : (v s).ownBlock ≠ some g := own_blk_ne (h.row s) h.blk (by decide)
  have old : ∀ k, k < w.heap.size → (v s).ownBlock ≠ some k → k ≠ g → (w6.setCell ⟨g, wayO s, none⟩ v1).heap[k]? = w.heap[k]? := fun k hk h1 h2 =>
    (Below.heap_setCell _ _ _ _ h2).trans (hc.block k hk h1)
  have hpk : ∀ p ∈ l s, p.own (w6.setCell ⟨g, wayO s, none⟩ v1) := fun p hp => own_same (h.pks s p hp) fun k e => old k (World.ownsRow.lt (h.pks s p hp) k e).2 (fun e2 => own_apart (h.pks s p hp) (h.row s) (by decide) k e e2) (fun e2 => by subst e2; exact own_blk_ne (h.pks s p hp) h.blk (by decide) e)
  have hv' : v1.ownBlock = none ∨ v1.ownBlock = (v s).ownBlock ∨ ∃ k, v1.ownBlock = some k ∧ w.heap.size ≤ k := .inr hv
  have hn : ∀ p ∈ l1, p.blk = none ∨ (∃ q ∈ l s, p.blk = q.blk) ∨ ∃ k, p.blk = some k ∧ w.heap.size ≤ k := fun p hp => .inr (.inl ⟨p, hl p hp, rfl⟩)
  refine ⟨h.upd s (w' := w6.setCell ⟨g, wayO s, none⟩ v1) (S' := S.setU s (l1.map LP.pk)) ?_ ?_ (fun p hp => hpk p (hl p hp)) rfl hp hv' hn ?_, ?_, fun k hk => NetF.upd hv' hn hk⟩
  · rw [← layN_setU S v s v1]
    exact (hc.blk h.blk hvg).set_ _ _
  · refine World.ownsRow.kept hr (only_setCell (p := ⟨g, wayO s, none⟩) (World.grownBy.refl w6 (some g)) (.inl rfl) v1) (.inr (fun e => ?_))
    rcases hv with e2 | ⟨k, e2, hk⟩
    · exact hvg (by rw [← e2]; exact e)
    · rw [e2] at e; injection e with e; omega
  · intro k hk
    obtain ⟨h1, h2⟩ := h.other (by decide) (by decide) s hk
    refine old k ?_ h2 h1
    rcases hk with hk | ⟨p, hp, hk⟩
    · exact (World.ownsRow.lt (h.row _) k hk).2
    · exact (World.ownsRow.lt (h.pks _ p hp) k hk).2
  · refine ⟨hc.os, hc.tape, hc.output, ?_, fun k hk hn => ?_⟩
    · have := hc.size; simp [World.setCell]; omega
    · exact old k hk (fun e => hn (.inr (.inl ⟨s, e⟩))) (fun e => hn (.inl e))
/-- one taken to another place -/
def moved {α : Type} (l : List α) (i j : Nat) (p : α) : List α := (l.eraseIdx i).take j ++ [p] ++ (l.eraseIdx i).drop j
theorem moved_perm {α : Type} {l : List α} {i : Nat} {p : α} (h : l[i]? = some p) (j : Nat) : (moved l i j p).Perm l := by
  have hi : i < l.length := (List.getElem?_eq_some_iff.1 h).1
  have hx : l[i] = p := (List.getElem?_eq_some_iff.1 h).2
  have h1 : (moved l i j p).Perm (p :: l.eraseIdx i) := by
    unfold moved
    rw [List.append_assoc, List.singleton_append]
    refine List.perm_middle.trans ?_
    rw [List.take_append_drop]
  refine h1.trans ?_
  rw [List.eraseIdx_eq_take_drop_succ, ← hx]
  refine List.perm_middle.symm.trans ?_
  rw [← List.drop_eq_getElem_cons hi, List.take_append_drop]
theorem moved_map {α β : Type} (f : α → β) (l : List α) (i j : Nat) (p : α) : (moved l i j p).map f = moved (l.map f) i j (f p) := by
  simp [moved, map_erase]
theorem pairwise_perm {l m : List LP} (h : l.Perm m) (hm : m.Pairwise apartP) : l.Pairwise apartP := (List.Perm.pairwise_iff (fun h => apartP.symm h) h).2 hm
def Ns.move (S : Ns) (s : Bool) (i j : Nat) (p : Pk) : Ns := S.setU s (moved (S.u s) i j p)
def NoM (w : World) (er : Int) (e : Ending) (w' : World) : Prop := e = .returned (.int .i64 er) ∧ Below w.heap.size w w'
set_option maxRecDepth 20000 in
set_option maxHeartbeats 2000000 in
theorem move_err (p : Option Addr) (z i j : Int) (er : Int) (w : World) (he : (er != 0) = true) (h : ∀ W : World, Below w.heap.size w W → Calls Try.prog 37 #[.pointer p, .int .i64 z, .slice (some ⟨w.heap.size, 0, none⟩) 2 2] W fun e w' => e = .returned (.tuple #[.pointer none, .int .i64 er]) ∧ W = w') :
    Calls Try.prog 30 #[.pointer p, .int .i64 z, .int .i64 i, .int .i64 j] w (NoM w er) := by
  have H := Lib.hid h
  clear h
  go_enter Try.func30, Try.ntmps30
  go_wp2_with fail
  refine (H.out _ ((Below.refl _ _).alloc (Nat.le_refl _) _)).mono ?_
  rintro e w' ⟨rfl, rfl⟩
  go_wp2
  go_ret
  exact ⟨rfl, (Below.refl _ _).alloc (Nat.le_refl _) _⟩
theorem DelP.out {w w' : World} {gb n cb i : Nat} {l : List LP} {e : Ending} (h : DelP w (.slice (some ⟨gb, 0, none⟩) n cb) l i e w') :
    e = .returned (.slice (some ⟨gb, 0, none⟩) (l.eraseIdx i).length cb) ∧ l.length ≤ cb ∧ RowP w' (.slice (some ⟨gb, 0, none⟩) (l.eraseIdx i).length cb) (l.eraseIdx i) ∧ Chg (· = gb) w w' ∧ w'.heap.size = w.heap.size := by
  obtain ⟨v', rfl, _, hr, hc, hs, g', c', e1, h1, rfl⟩ := h
  injection e1 with e2 e3 e4
  injection e2 with e2
  injection e2 with e2
  subst e2 e4
  exact ⟨rfl, h1, hr, hc.mono (fun k _ e => by simp only [Value.ownBlock, Option.some.injEq] at e; exact e.symm), hs⟩
theorem own_form3 {w : World} {v : Value} {l : List LP} (h : RowP w v l) : ∃ A n c, v = .slice A n c := by
  obtain ⟨A, c, e, _⟩ := own_form h
  exact ⟨A, _, c, e⟩
theorem mov_net {w w4 w5 w5' w6 : World} {g gb n cb i j m c5 : Nat} {S : Ns} {v : Bool → Value} {l : Bool → List LP} {s : Bool} {p : LP} {v6 : Value} (h : NetA w g S v l) (hp : (l s)[i]? = some p) (hv : v s = .slice (some ⟨gb, 0, none⟩) n cb) (hb4 : Below w.heap.size w w4) (hc : Chg (· = gb) w4 w5) (hb5 : Below w5.heap.size w5 w5')
    (hr : RowP w6 v6 (((l s).eraseIdx i).take j ++ [p] ++ ((l s).eraseIdx i).drop j)) (hv6 : v6.ownBlock = (Value.slice (some (⟨gb, 0, none⟩ : Addr)) m c5).ownBlock ∨ ∃ k, v6.ownBlock = some k ∧ w5'.heap.size ≤ k) (hc6 : Chg (fun k => (Value.slice (some (⟨gb, 0, none⟩ : Addr)) m c5).ownBlock = some k) w5' w6) :
    Blk w6 g 68 (layN S v) ∧ NetA (w6.setCell ⟨g, wayO s, none⟩ v6) g (S.move s i j p.pk) (upd v s v6) (upd l s (moved (l s) i j p)) ∧ Chg (NetF g v l) w (w6.setCell ⟨g, wayO s, none⟩ v6) ∧ (∀ k, NetF g (upd v s v6) (upd l s (moved (l s) i j p)) k → NetF g v l k ∨ w.heap.size ≤ k) := by
  have hob : (v s).ownBlock = some gb := by rw [hv]; simp [Value.ownBlock]
  have hc' : Chg (fun k => (v s).ownBlock = some k) w w6 := by
    have h1 : Chg (· = gb) w w5 := (Chg.of_below hb4 (· = gb)).trans hc (fun _ _ e => e)
    have h2 : Chg (· = gb) w w5' := h1.trans (Chg.of_below hb5 (· = gb)) (fun _ _ e => e)
    exact (h2.trans hc6 (fun k _ e => by simp only [Value.ownBlock, Option.some.injEq] at e; exact e.symm)).mono (fun k _ e => by rw [hob, e])
  have hv' : v6.ownBlock = (v s).ownBlock ∨ ∃ k, v6.ownBlock = some k ∧ w.heap.size ≤ k := by
    rcases hv6 with e | ⟨k, e, hk⟩
    · exact .inl (by rw [e, hob]; simp [Value.ownBlock])
    · exact .inr ⟨k, e, by have := hb4.size; have := hc.size; have := hb5.size; omega⟩
  have hn := row_net (s := s) (l1 := moved (l s) i j p) h hc' hr hv' (fun q hq => (moved_perm hp j).mem_iff.1 hq) (pairwise_perm (moved_perm hp j) (h.apart s))
  refine ⟨hc'.blk h.blk (own_blk_ne (h.row s) h.blk (by decide)), ?_, hn.2.1, hn.2.2⟩
  have e : (moved (l s) i j p).map LP.pk = moved (S.u s) i j p.pk := by rw [moved_map, h.is s]
  have := hn.1
  rw [e] at this
  exact this
def MovP (_ : Nat → Prop) (_ : World) (e : Ending) : Prop := e = .returned (.int .i64 0)
set_option maxRecDepth 20000 in
set_option maxHeartbeats 4000000 in
theorem move_any (g : Nat) (S : Ns) (v : Bool → Value) (l : Bool → List LP) (K : Int) (s : Bool) (i j : Nat) (p : LP) (w : World) (h : NetA w g S v l) (hk : S.ok K) (hK : K ≤ 4611686018427387900) (hu : S.up = true) (hp : (l s)[i]? = some p) (hj : j < (l s).length) :
    Calls Try.prog 30 #[.pointer (some ⟨g, 0, none⟩), .int .i64 (sideN s), .int .i64 i, .int .i64 j] w (StepP w g v l ((S.move s i j p.pk).add s 5 1) MovP) := by
  have hi : i < (l s).length := (List.getElem?_eq_some_iff.1 hp).1
  have hn : (l s).length ≤ 64 := by rw [h.len s]; have := hk.len s; have := hk.hi; omega
  have hl := hk.lo
  have hg : g < w.heap.size := h.blk.lt
  have u0 : w.cell? ⟨g, wayO s, none⟩ = some (v s) := (h.blk.cell _).trans (layN_under _ _ _)
  obtain ⟨gb, cb, hv, hgb, q0, q1⟩ := (h.row s).at_ hp
  rw [val_form] at q1
  have HAT := Lib.hid fun (W : World) (hW : Below w.heap.size w W) (hz : RdZ W w.heap.size [(i : Int), (j : Int)]) => at_up g w.heap.size 2 S.limit s [(i : Int), (j : Int)] (some ⟨gb, 0, none⟩) (l s).length cb W ((h.blk.below hW hg).cell 0) (by rw [← hu]; exact (h.blk.below hW hg).cell 1) (by omega) (by rw [← hv, hW.cell (p := ⟨g, wayO s, none⟩) hg]; exact u0) hz (by simp)
  have HIN : Hid ([(i : Int), (j : Int)].all (inB (l s).length) = true) := Lib.hid (by simp [inB]; omega)
  have HZ : Hid (RdZ (w.alloc (.cells #[.int .i64 i, .int .i64 j] 3)) w.heap.size [(i : Int), (j : Int)]) := Lib.hid (fun k z hk => by
    match k with
    | 0 => simp only [List.getElem?_cons_zero, Option.some.injEq] at hk; subst hk; exact (Blk.new w 3 _).cell 0
    | 1 => simp only [List.getElem?_cons_succ, List.getElem?_cons_zero, Option.some.injEq] at hk; subst hk; exact (Blk.new w 3 _).cell 1
    | k + 2 => simp at hk)
  have hb1 : Below w.heap.size w (w.alloc (.cells #[.int .i64 i, .int .i64 j] 3)) := (Below.refl _ _).alloc (Nat.le_refl _) _
  have HB1 := Lib.hid hb1
  have H := Lib.hid h
  have HV := Lib.hid hv
  have HPI := Lib.hid hp
  have HK := Lib.hid hk
  clear h hu hv hb1 hp hk
  go_enter Try.func30, Try.ntmps30
  go_wp2_with fail
  refine (HAT.out _ HB1.out HZ.out).mono ?_
  rw [HIN.out]
  rintro e w1 ⟨rfl, rfl⟩
  have u1 : (w.alloc (.cells #[.int .i64 i, .int .i64 j] 3)).cell? ⟨g, wayO s, none⟩ = some (.slice (some ⟨gb, 0, none⟩) (l s).length cb) := by rw [HB1.out.cell (p := ⟨g, wayO s, none⟩) hg, u0, HV.out]
  have q2 : (w.alloc (.cells #[.int .i64 i, .int .i64 j] 3)).cell? ⟨gb, i * 2, none⟩ = some (.int .i64 p.pk.num) := by rw [HB1.out.cell (p := ⟨gb, i * 2, none⟩) hgb, q0]
  have q3 : (w.alloc (.cells #[.int .i64 i, .int .i64 j] 3)).cell? ⟨gb, i * 2 + 1, none⟩ = some (.slice p.A p.pk.bytes.length p.c) := by rw [HB1.out.cell (p := ⟨gb, i * 2 + 1, none⟩) hgb, q1]
  generalize hw1 : w.alloc (.cells #[.int .i64 i, .int .i64 j] 3) = w1 at *
  have hs1 : w1.heap.size = w.heap.size + 1 := by rw [← hw1]; simp
  have HS1 := Lib.hid hs1
  have z1 : g < w1.heap.size := by omega
  have z2 : gb < w1.heap.size := by omega
  have l1 : (0 : Int) ≤ (i : Int) := by omega
  have l2 : (i : Int) < ((l s).length : Int) := by omega
  clear hw1 hs1 u0 q0 q1 HAT HIN HZ
  simp only [if_true]
  go_upto_region 5 with fail
  have HB4 : Hid (Below w.heap.size w (w1.alloc (.cells #[.int .i64 p.pk.num, .slice p.A p.pk.bytes.length p.c] 36))) := Lib.hid (HB1.out.alloc HB1.out.size _)
  have HP4 : Hid (Blk (w1.alloc (.cells #[.int .i64 p.pk.num, .slice p.A p.pk.bytes.length p.c] 36)) w1.heap.size 36 #[.int .i64 p.pk.num, .slice p.A p.pk.bytes.length p.c]) := Lib.hid (Blk.new w1 36 _)
  have hs4 : (w1.alloc (.cells #[.int .i64 p.pk.num, .slice p.A p.pk.bytes.length p.c] 36)).heap.size = w.heap.size + 1 + 1 := by rw [← HS1.out]; simp
  generalize hw4 : w1.alloc (.cells #[.int .i64 p.pk.num, .slice p.A p.pk.bytes.length p.c] 36) = w4 at HB4 HP4 hs4 ⊢
  have u4 : w4.cell? ⟨g, wayO s, none⟩ = some (.slice (some ⟨gb, 0, none⟩) (l s).length cb) := by rw [← hw4]; rw [((Below.refl _ w1).alloc (Nat.le_refl _) _).cell (p := ⟨g, wayO s, none⟩) z1]; exact u1
  have HS4 := Lib.hid hs4
  have y1 : g < w4.heap.size := by omega
  have y2 : w1.heap.size < w4.heap.size := HP4.out.lt
  have p0 := HP4.out.cell 0
  have p1 := HP4.out.cell 1
  clear hw4 u1 q2 q3 hs4
  have HRW : Hid (∀ W : World, Below w4.heap.size w4 W → RowP W (.slice (some ⟨gb, 0, none⟩) (l s).length cb) (l s)) := Lib.hid fun W hW => by
    rw [← HV.out]; exact own_same (own_same (H.out.row s) fun k e => HB4.out.block k (World.ownsRow.lt (H.out.row s) k e).2) fun k e => hW.block k (by have := (World.ownsRow.lt (H.out.row s) k e).2; have := HB4.out.size; omega)
  have HDEL := Lib.hid fun (W : World) (hW : Below w4.heap.size w4 W) => (del_any (.slice (some ⟨gb, 0, none⟩) (l s).length cb) (l s) i W (HRW.out W hW) hi (by omega)).mono fun _ _ h => DelP.out h
  have HKP := Lib.hid fun (W : World) (hW : Blk W w1.heap.size 36 #[.int .i64 p.pk.num, .slice p.A p.pk.bytes.length p.c]) => (show W.cell? ⟨w1.heap.size, 0, none⟩ = some (.int .i64 p.pk.num) ∧ W.cell? ⟨w1.heap.size, 1, none⟩ = some (.slice p.A p.pk.bytes.length p.c) from ⟨hW.cell 0, hW.cell 1⟩)
  have her : ((l s).eraseIdx i).length + 1 = (l s).length := by rw [List.length_eraseIdx_of_lt hi]; omega
  have HER := Lib.hid her
  clear her
  have b0 : Below w4.heap.size w4 w4.drew := (Below.refl _ _).drew
  have b1 : Below w4.heap.size w4 (w4.alloc (.cells #[.int .i64 p.pk.num, .slice p.A p.pk.bytes.length p.c] 36)).drew := ((Below.refl _ _).alloc (Nat.le_refl _) _).drew
  have HQ1 : Hid (Blk (w4.alloc (.cells #[.int .i64 p.pk.num, .slice p.A p.pk.bytes.length p.c] 36)).drew w4.heap.size 36 #[.int .i64 p.pk.num, .slice p.A p.pk.bytes.length p.c]) := Lib.hid (Blk.new w4 36 _).drew
  have ngb1 : w1.heap.size ≠ gb := by omega
  have ngb4 : w4.heap.size ≠ gb := by omega
  have hwr : IntKind.i64.wrap ((i : Int) + 1) = (i : Int) + 1 := by rw [IntKind.wrap_i64]; omega
  go_wp2_with fail
  go_region_law (first
      | (go_simp; go_at_call 45; ((with_reducible refine (HDEL.out _ b0).mono ?_); rintro e w5 ⟨rfl, hcb, hrow, hchg, -⟩; have bp5 := hchg.blk ((HP4.out.below b0 y2)) ngb1; have cb0 := (Chg.of_below b0 (· = gb)).trans hchg (fun _ _ e => e); have bp50 := bp5.cell 0; have bp51 := bp5.cell 1; have bps5 := bp5.lt))
      | (go_simp; go_at_call 45; ((with_reducible refine (HDEL.out _ b1).mono ?_); rintro e w5 ⟨rfl, hcb, hrow, hchg, -⟩; have bp5 := hchg.blk ((HP4.out.below b1 y2)) ngb1; have cb0 := (Chg.of_below b1 (· = gb)).trans hchg (fun _ _ e => e); have bq5 := hchg.blk HQ1.out ngb4; have bp50 := bp5.cell 0; have bp51 := bp5.cell 1; have bps5 := bp5.lt))
      | (go_simp; go_at_call 44; have hr5 : RowP (w5.alloc (.cells #[.int .i64 p.pk.num, .slice p.A p.pk.bytes.length p.c] 36)) (.slice (some ⟨gb, 0, none⟩) ((l s).eraseIdx i).length cb) ((l s).eraseIdx i) := World.ownsRow.alloc hrow _; have hn5 : (Value.slice (some ⟨gb, 0, none⟩) ((l s).eraseIdx i).length cb).ownBlock ≠ some w5.heap.size := (by intro e; simp only [Value.ownBlock, Option.some.injEq] at e; have := (World.ownsRow.lt hrow gb (by simp [Value.ownBlock])).2; omega); have hq5 := Blk.new w5 36 #[.int .i64 p.pk.num, .slice p.A p.pk.bytes.length p.c]; have HIN5 := Lib.hid (ins_any _ _ p w5.heap.size j _ hr5 (by have := HER.out; omega) ⟨gb, cb, rfl, by have := HER.out; omega⟩ hq5 hn5 (by have := HER.out; omega)); clear hr5 hn5 hq5; ((with_reducible refine HIN5.out.mono ?_); rintro e w6 ⟨v6, rfl, hv6, hrow6, hchg6⟩; have HN6 := Lib.hid (mov_net H.out HPI.out HV.out HB4.out cb0 (((Below.refl _ w5).alloc (Nat.le_refl _) _)) hrow6 hv6 hchg6); obtain ⟨A6, n6, c6, rfl⟩ := own_form3 hrow6; have g6 := (HN6.out.1.cell (wayO s)).trans (layN_under _ _ _); have f6 := HN6.out.1.frozen (wayO s)))
      | (go_simp; go_at_call 44; have hn5 : (Value.slice (some ⟨gb, 0, none⟩) ((l s).eraseIdx i).length cb).ownBlock ≠ some w4.heap.size := (by intro e; simp only [Value.ownBlock, Option.some.injEq] at e; exact ngb4 e.symm); have HIN5 := Lib.hid (ins_any _ _ p w4.heap.size j w5 hrow (by have := HER.out; omega) ⟨gb, cb, rfl, by have := HER.out; omega⟩ bq5 hn5 (by have := HER.out; omega)); clear hn5; ((with_reducible refine HIN5.out.mono ?_); rintro e w6 ⟨v6, rfl, hv6, hrow6, hchg6⟩; have HN6 := Lib.hid (mov_net H.out HPI.out HV.out HB4.out cb0 (Below.refl _ w5) hrow6 hv6 hchg6); obtain ⟨A6, n6, c6, rfl⟩ := own_form3 hrow6; have g6 := (HN6.out.1.cell (wayO s)).trans (layN_under _ _ _); have f6 := HN6.out.1.frozen (wayO s))))
  all_goals
    have HNN := Lib.hid HN6.out.2
    clear g6 f6 HN6 HIN5 u4 p0 p1
    generalize w6.setCell ⟨g, wayO s, none⟩ (.slice A6 n6 c6) = w7 at HNN ⊢
    have k0 : w7.cell? ⟨g, wayO s + 1 + 5, none⟩ = some (.int .i64 ((S.c s).get 5)) := (HNN.out.1.blk.cell _).trans (layN_get _ _ _ 5 (by omega))
    have f0 := HNN.out.1.blk.frozen (wayO s + 1 + 5)
    have hb0 := (Cn.get_ok (HK.out.cn s) 5 (by omega)).1
    have hb1 : (S.c s).get 5 ≤ 4611686018427387900 := Int.le_trans (Cn.get_ok (HK.out.cn s) 5 (by omega)).2 hK
    have HFIN : Hid (StepP w g v l ((S.move s i j p.pk).add s 5 1) MovP (.returned (.int .i64 0)) (w7.setCell ⟨g, wayO s + 1 + 5, none⟩ (.int .i64 ((S.c s).get 5 + 1)))) := Lib.hid ⟨_, _, HNN.out.1.add s 5 1 (by omega), HNN.out.2.2, HNN.out.2.1.trans ((Chg.refl (· = g) w7).setCell (p := ⟨g, wayO s + 1 + 5, none⟩) (fun _ => rfl) _) (fun k _ e => .inl e), rfl⟩
    generalize (S.c s).get 5 = cc at *
    go_wp2
    go_ret
    exact HFIN.out
end Go.Proofs.Ytbkgphmocjjmmaa
