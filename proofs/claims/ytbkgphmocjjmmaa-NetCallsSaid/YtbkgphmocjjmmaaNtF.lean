/-
  The walks of take, Deliver, Drop.
-/
import Derived.Test.YtbkgphmocjjmmaaNtE
namespace Go.Proofs.Ytbkgphmocjjmmaa
open Go.RowKit

theorem lpCells_at {l : List LP} {i : Nat} {p : LP} (h : l[i]? = some p) : (lpCells l)[i * 2]? = some (.int .i64 p.pk.num) ∧ (lpCells l)[i * 2 + 1]? = some p.val := by
  have hi : i < l.length := by
    rcases Nat.lt_or_ge i l.length with h1 | h1
    · exact h1
    · rw [List.getElem?_eq_none h1] at h; cases h
  have hx : l[i] = p := by rw [List.getElem?_eq_getElem hi] at h; exact Option.some.inj h
  have e : lpCells (l.drop i) = [.int .i64 p.pk.num, p.val] ++ lpCells (l.drop (i + 1)) := by
    rw [List.drop_eq_getElem_cons hi, hx]; simp [lpCells, LP.cells]
  have e2 : (lpCells l).drop (i * 2) = [.int .i64 p.pk.num, p.val] ++ lpCells (l.drop (i + 1)) := by rw [← lpCells_drop, e]
  have g0 : ((lpCells l).drop (i * 2))[0]? = some (.int .i64 p.pk.num) := by rw [e2]; rfl
  have g1 : ((lpCells l).drop (i * 2))[1]? = some p.val := by rw [e2]; rfl
  rw [List.getElem?_drop] at g0 g1
  exact ⟨g0, g1⟩
theorem RowP.at_ {w : World} {v : Value} {l : List LP} {i : Nat} {p : LP} (h : RowP w v l) (hp : l[i]? = some p) : ∃ gb c, v = .slice (some ⟨gb, 0, none⟩) l.length c ∧ gb < w.heap.size ∧ w.cell? ⟨gb, i * 2, none⟩ = some (.int .i64 p.pk.num) ∧ w.cell? ⟨gb, i * 2 + 1, none⟩ = some p.val := by
  have hi : i < l.length := by
    rcases Nat.lt_or_ge i l.length with h1 | h1
    · exact h1
    · rw [List.getElem?_eq_none h1] at hp; cases hp
  obtain ⟨gb, c, hv, _, hlt⟩ := World.ownsRow.form h (by omega)
  obtain ⟨c0, c1⟩ := lpCells_at hp
  have hc := World.ownsRow.cells h (g := gb) (by rw [hv]; simp [Value.ownBlock])
  have ad : ∀ j, (⟨gb, 0, none⟩ : Addr).add j = ⟨gb, j, none⟩ := fun j => by unfold Addr.add; split <;> simp_all
  refine ⟨gb, c, hv, hlt, ?_, ?_⟩
  · rw [← ad]; exact hc _ _ c0
  · rw [← ad]; exact hc _ _ c1
theorem val_form (p : LP) : p.val = .slice p.A p.pk.bytes.length p.c := rfl
def Ns.take (S : Ns) (s : Bool) (i : Nat) : Ns := { S with u := upd S.u s ((S.u s).eraseIdx i) }
/-- what take leaves -/
def TakeP (w : World) (g : Nat) (S : Ns) (v : Bool → Value) (l : Bool → List LP) (s : Bool) (i : Nat) (p : LP) (e : Ending) (w' : World) : Prop :=
  ∃ v1, e = .returned (.tuple #[.pointer (some ⟨g, wayO s, none⟩), .agg #[.int .i64 p.pk.num, .slice p.A p.pk.bytes.length p.c], .int .i64 0]) ∧ NetA w' g (S.take s i) (upd v s v1) (upd l s ((l s).eraseIdx i)) ∧ v1.ownBlock = (v s).ownBlock ∧ Chg (NetF g v l) w w' ∧ p.own w'
def NoPk (w : World) (er : Int) (e : Ending) (w' : World) : Prop := e = .returned (.tuple #[.pointer none, .agg #[.int .i64 0, .slice none 0 0], .int .i64 er]) ∧ Below w.heap.size w w'
set_option maxRecDepth 20000 in
set_option maxHeartbeats 2000000 in
theorem take_err (p : Option Addr) (z i : Int) (er : Int) (w : World) (he : (er != 0) = true) (h : ∀ W : World, Below w.heap.size w W → Calls Try.prog 37 #[.pointer p, .int .i64 z, .slice (some ⟨w.heap.size + 1, 0, none⟩) 1 1] W fun e w' => e = .returned (.tuple #[.pointer none, .int .i64 er]) ∧ W = w') :
    Calls Try.prog 35 #[.pointer p, .int .i64 z, .int .i64 i] w (NoPk w er) := by
  have H := Lib.hid h
  clear h
  go_enter Try.func35, Try.ntmps35
  go_wp2_with fail
  refine (H.out _ (((Below.refl _ _).alloc (Nat.le_refl _) _).alloc (by simp) _)).mono ?_
  rintro e w' ⟨rfl, rfl⟩
  go_wp2
  exact bodyPost_ret (v := .tuple #[.pointer none, .agg #[.int .i64 0, .slice none 0 0], .int .i64 er]) (by simp [results, Try.results35, go_sem]) rfl ⟨rfl, ((Below.refl _ _).alloc (Nat.le_refl _) _).alloc (by simp) _⟩
theorem layN_take (S : Ns) (v : Bool → Value) (s : Bool) (x : Value) (i : Nat) : (layN S v).setIfInBounds (wayO s) x = layN (S.take s i) (upd v s x) := by cases s <;> simp [layN, wayO, upd, Ns.take]
theorem map_erase {α β : Type} (f : α → β) : ∀ (l : List α) (i : Nat), (l.map f).eraseIdx i = (l.eraseIdx i).map f
  | [], _ => rfl
  | _ :: _, 0 => rfl
  | a :: l, i + 1 => by simp only [List.map_cons, List.eraseIdx_cons_succ, map_erase f l i]
/-- from ahead of Delete to behind the store -/
theorem take_net {w w4 w5 : World} {g : Nat} {S : Ns} {v : Bool → Value} {l : Bool → List LP} {s : Bool} {i : Nat} {v1 : Value} (h : NetA w g S v l) (hb : Below w.heap.size w w4) (hr : RowP w5 v1 ((l s).eraseIdx i)) (hv : v1.ownBlock = (v s).ownBlock) (hc : Chg (fun k => (v s).ownBlock = some k) w4 w5) :
    NetA (w5.setCell ⟨g, wayO s, none⟩ v1) g (S.take s i) (upd v s v1) (upd l s ((l s).eraseIdx i)) ∧ Chg (NetF g v l) w (w5.setCell ⟨g, wayO s, none⟩ v1) ∧ (∀ p ∈ l s, p.own (w5.setCell ⟨g, wayO s, none⟩ v1)) := by
  have h4 := h.below hb
  have hgw := h.blk.lt
  have hvg : (v s).ownBlock ≠ some g := own_blk_ne (h.row s) h.blk (by decide)
  have old : ∀ k, k < w.heap.size → (v s).ownBlock ≠ some k → k ≠ g → (w5.setCell ⟨g, wayO s, none⟩ v1).heap[k]? = w.heap[k]? := fun k hk h1 h2 =>
    (Below.heap_setCell _ _ _ _ h2).trans ((hc.block k (Nat.lt_of_lt_of_le hk hb.size) h1).trans (hb.block k hk))
  have hpk : ∀ p ∈ l s, p.own (w5.setCell ⟨g, wayO s, none⟩ v1) := fun p hp => own_same (h.pks s p hp) fun k e => old k (World.ownsRow.lt (h.pks s p hp) k e).2 (fun e2 => own_apart (h.pks s p hp) (h.row s) (by decide) k e e2) (fun e2 => by subst e2; exact own_blk_ne (h.pks s p hp) h.blk (by decide) e)
  refine ⟨h.upd s (w' := w5.setCell ⟨g, wayO s, none⟩ v1) (S' := S.take s i) ?_ ?_ (fun p hp => hpk p (List.mem_of_mem_eraseIdx hp)) ?_ ((h.apart s).sublist (List.eraseIdx_sublist _ _)) (.inr (.inl hv)) (fun p hp => .inr (.inl ⟨p, List.mem_of_mem_eraseIdx hp, rfl⟩)) ?_, ?_, hpk⟩
  · rw [← layN_take S v s v1 i]
    exact (hc.blk h4.blk hvg).set_ _ _
  · exact World.ownsRow.kept hr (only_setCell (p := ⟨g, wayO s, none⟩) (World.grownBy.refl w5 (some g)) (.inl rfl) v1) (.inr (by rw [hv]; exact hvg))
  · simp only [Ns.take]
    rw [← h.is s, map_erase]
  · intro k hk
    obtain ⟨h1, h2⟩ := h.other (by decide) (by decide) s hk
    refine old k ?_ h2 h1
    rcases hk with hk | ⟨p, hp, hk⟩
    · exact (World.ownsRow.lt (h.row _) k hk).2
    · exact (World.ownsRow.lt (h.pks _ p hp) k hk).2
  · refine ⟨hc.os.trans hb.os, hc.tape.trans hb.tape, hc.output.trans hb.output, ?_, fun k hk hn => ?_⟩
    · have := hb.size; have := hc.size; simp [World.setCell]; omega
    · exact old k hk (fun e => hn (.inr (.inl ⟨s, e⟩))) (fun e => hn (.inl e))
theorem take_end {w w6 : World} {g : Nat} {S : Ns} {v : Bool → Value} {l : Bool → List LP} {s : Bool} {i : Nat} {q : Value} {p : LP} (h : NetA w g S v l) (hn : NetA w6 g (S.take s i) (upd v s q) (upd l s ((l s).eraseIdx i))) (hc : Chg (NetF g v l) w w6) (hv : q.ownBlock = (v s).ownBlock) (hp : p.own w6)
    (hr : Blk w6 w.heap.size 36 #[.int .i64 0, .slice none 0 0]) :
    Blk (((w6.setCell ⟨w.heap.size, 0, none⟩ (.int .i64 p.pk.num)).setCell ⟨w.heap.size, 1, none⟩ (.slice p.A p.pk.bytes.length p.c)).drew) w.heap.size 36 #[.int .i64 p.pk.num, .slice p.A p.pk.bytes.length p.c] ∧
    TakeP w g S v l s i p (.returned (.tuple #[.pointer (some ⟨g, wayO s, none⟩), .agg #[.int .i64 p.pk.num, .slice p.A p.pk.bytes.length p.c], .int .i64 0])) (((w6.setCell ⟨w.heap.size, 0, none⟩ (.int .i64 p.pk.num)).setCell ⟨w.heap.size, 1, none⟩ (.slice p.A p.pk.bytes.length p.c)).drew) := by
  have hch : Chg (· = w.heap.size) w6 (((w6.setCell ⟨w.heap.size, 0, none⟩ (.int .i64 p.pk.num)).setCell ⟨w.heap.size, 1, none⟩ (.slice p.A p.pk.bytes.length p.c)).drew) :=
    (((Chg.refl (· = w.heap.size) w6).setCell (p := ⟨w.heap.size, 0, none⟩) (fun _ => rfl) _).setCell (p := ⟨w.heap.size, 1, none⟩) (fun _ => rfl) _).drew
  have hF : ∀ k, NetF g (upd v s q) (upd l s ((l s).eraseIdx i)) k → k ≠ w.heap.size := fun k hk e => by
    rcases NetF.upd (n := w.heap.size + 1) (.inr (.inl hv)) (fun p hp => .inr (.inl ⟨p, List.mem_of_mem_eraseIdx hp, rfl⟩)) hk with h1 | h1
    · have := h.lt h1; omega
    · omega
  refine ⟨((hr.set_ 0 _).set_ 1 _).drew, q, rfl, hn.chg hch hF, hv, hc.trans hch (fun i hi e => by omega), ?_⟩
  exact own_chg hp hch (fun k hk e => by
    subst e
    exact own_blk_ne hp hr (by decide) hk)
set_option maxRecDepth 20000 in
set_option maxHeartbeats 4000000 in
theorem take_any (g : Nat) (S : Ns) (v : Bool → Value) (l : Bool → List LP) (s : Bool) (i : Nat) (p : LP) (w : World) (h : NetA w g S v l) (hl : 1 ≤ S.limit) (hu : S.up = true) (hp : (l s)[i]? = some p) (hn : (l s).length ≤ 64) :
    Calls Try.prog 35 #[.pointer (some ⟨g, 0, none⟩), .int .i64 (sideN s), .int .i64 i] w (TakeP w g S v l s i p) := by
  have hi : i < (l s).length := by
    rcases Nat.lt_or_ge i (l s).length with h1 | h1
    · exact h1
    · rw [List.getElem?_eq_none h1] at hp; cases hp
  have hg : g < w.heap.size := h.blk.lt
  have u0 : w.cell? ⟨g, wayO s, none⟩ = some (v s) := (h.blk.cell _).trans (layN_under _ _ _)
  obtain ⟨gb, cb, hv, hgb, q0, q1⟩ := (h.row s).at_ hp
  rw [val_form] at q1
  have HAT := Lib.hid fun (W : World) (hW : Below w.heap.size w W) (hz : RdZ W (w.heap.size + 1) [(i : Int)]) => at_up g (w.heap.size + 1) 1 S.limit s [(i : Int)] (some ⟨gb, 0, none⟩) (l s).length cb W ((h.blk.below hW hg).cell 0) (by rw [← hu]; exact (h.blk.below hW hg).cell 1) (by omega) (by rw [← hv, hW.cell (p := ⟨g, wayO s, none⟩) hg]; exact u0) hz (by simp)
  have HIN : Hid ([(i : Int)].all (inB (l s).length) = true) := Lib.hid (by simp [inB]; omega)
  have HZ : Hid (RdZ ((w.alloc (.cells #[.int .i64 0, .slice none 0 0] 36)).alloc (.cells #[.int .i64 i] 3)) (w.heap.size + 1) [(i : Int)]) := Lib.hid (fun k z hk => by
    match k with
    | 0 => simp only [List.getElem?_cons_zero, Option.some.injEq] at hk; subst hk; exact (Blk.new' _ 3 _ _ (by simp)).cell 0
    | k + 1 => simp at hk)
  have H := Lib.hid h
  have HV := Lib.hid hv
  have HPI := Lib.hid hp
  have hb1 : Below w.heap.size w ((w.alloc (.cells #[.int .i64 0, .slice none 0 0] 36)).alloc (.cells #[.int .i64 i] 3)) := ((Below.refl _ _).alloc (Nat.le_refl _) _).alloc (by simp) _
  have HRES : Hid (Blk ((w.alloc (.cells #[.int .i64 0, .slice none 0 0] 36)).alloc (.cells #[.int .i64 i] 3)) w.heap.size 36 #[.int .i64 0, .slice none 0 0]) := Lib.hid ((Blk.new w 36 _).alloc _)
  have HB1 := Lib.hid hb1
  clear h hu hv hb1 hp
  go_enter Try.func35, Try.ntmps35
  go_wp2_with fail
  refine (HAT.out _ HB1.out HZ.out).mono ?_
  rw [HIN.out]
  rintro e w1 ⟨rfl, rfl⟩
  have u1 : ((w.alloc (.cells #[.int .i64 0, .slice none 0 0] 36)).alloc (.cells #[.int .i64 i] 3)).cell? ⟨g, wayO s, none⟩ = some (.slice (some ⟨gb, 0, none⟩) (l s).length cb) := by rw [HB1.out.cell (p := ⟨g, wayO s, none⟩) hg, u0, HV.out]
  have q2 : ((w.alloc (.cells #[.int .i64 0, .slice none 0 0] 36)).alloc (.cells #[.int .i64 i] 3)).cell? ⟨gb, i * 2, none⟩ = some (.int .i64 p.pk.num) := by rw [HB1.out.cell (p := ⟨gb, i * 2, none⟩) hgb, q0]
  have q3 : ((w.alloc (.cells #[.int .i64 0, .slice none 0 0] 36)).alloc (.cells #[.int .i64 i] 3)).cell? ⟨gb, i * 2 + 1, none⟩ = some (.slice p.A p.pk.bytes.length p.c) := by rw [HB1.out.cell (p := ⟨gb, i * 2 + 1, none⟩) hgb, q1]
  generalize hw1 : (w.alloc (.cells #[.int .i64 0, .slice none 0 0] 36)).alloc (.cells #[.int .i64 i] 3) = w1 at *
  have hs1 : w1.heap.size = w.heap.size + 1 + 1 := by rw [← hw1]; simp
  have HS1 := Lib.hid hs1
  have z1 : g < w1.heap.size := by omega
  have z2 : gb < w1.heap.size := by omega
  have l1 : (0 : Int) ≤ (i : Int) := by omega
  have l2 : (i : Int) < ((l s).length : Int) := by omega
  clear hw1 hs1 u0 q0 q1 HAT HIN HZ
  simp only [if_true]
  go_wp2_with fail
  have HB4 : Hid (Below w.heap.size w (w1.alloc (.cells #[.int .i64 p.pk.num, .slice p.A p.pk.bytes.length p.c] 36))) := Lib.hid (HB1.out.alloc HB1.out.size _)
  have HP4 : Hid (Blk (w1.alloc (.cells #[.int .i64 p.pk.num, .slice p.A p.pk.bytes.length p.c] 36)) w1.heap.size 36 #[.int .i64 p.pk.num, .slice p.A p.pk.bytes.length p.c]) := Lib.hid (Blk.new w1 36 _)
  have HR4 : Hid (Blk (w1.alloc (.cells #[.int .i64 p.pk.num, .slice p.A p.pk.bytes.length p.c] 36)) w.heap.size 36 #[.int .i64 0, .slice none 0 0]) := Lib.hid (HRES.out.alloc _)
  generalize hw4 : w1.alloc (.cells #[.int .i64 p.pk.num, .slice p.A p.pk.bytes.length p.c] 36) = w4 at HB4 HP4 HR4 ⊢
  clear hw4 u1 q2 q3
  have HDEL := Lib.hid (del_any (.slice (some ⟨gb, 0, none⟩) (l s).length cb) (l s) i w4 (by rw [← HV.out]; exact own_same (H.out.row s) fun k e => HB4.out.block k (World.ownsRow.lt (H.out.row s) k e).2) hi (by omega))
  refine HDEL.out.mono ?_
  rintro e w5 ⟨v1, rfl, hvb, hrow, hchg, -, -⟩
  have hgb2 : (Value.slice (some (⟨gb, 0, none⟩ : Addr)) (l s).length cb).ownBlock = some gb := by simp [Value.ownBlock]
  have hgne : ¬ (Value.slice (some (⟨gb, 0, none⟩ : Addr)) (l s).length cb).ownBlock = some g := by rw [← HV.out]; exact own_blk_ne (H.out.row s) H.out.blk (by decide)
  have hbk5 : Blk w5 g 68 (layN S v) := hchg.blk (H.out.blk.below HB4.out hg) hgne
  have hp5 : Blk w5 w1.heap.size 36 #[.int .i64 p.pk.num, .slice p.A p.pk.bytes.length p.c] := hchg.blk HP4.out (by rw [hgb2]; intro e; injection e with e; omega)
  have hr5 : Blk w5 w.heap.size 36 #[.int .i64 0, .slice none 0 0] := hchg.blk HR4.out (by rw [hgb2]; intro e; injection e with e; omega)
  have HNET := Lib.hid (take_net H.out HB4.out hrow (by rw [hvb, HV.out]) (by rw [HV.out]; exact hchg))
  have HVB : Hid (v1.ownBlock = (v s).ownBlock) := Lib.hid (by rw [hvb, HV.out])
  obtain ⟨A1, c1, rfl, _, _⟩ := own_form hrow
  have u5 : w5.cell? ⟨g, wayO s, none⟩ = some (v s) := (hbk5.cell _).trans (layN_under _ _ _)
  rw [HV.out] at u5
  have f5 := hbk5.frozen (wayO s)
  have hsg : w1.heap.size ≠ g := by omega
  have hsg2 : w.heap.size ≠ g := by omega
  have HP6 := Lib.hid (hp5.far (p := ⟨g, wayO s, none⟩) hsg (.slice A1 ((l s).eraseIdx i).length c1))
  have HR6 := Lib.hid (hr5.far (p := ⟨g, wayO s, none⟩) hsg2 (.slice A1 ((l s).eraseIdx i).length c1))
  clear hvb hrow hchg hgb2 hgne hbk5 hp5 hr5 HDEL
  go_wp2_with fail
  generalize w5.setCell ⟨g, wayO s, none⟩ (.slice A1 ((l s).eraseIdx i).length c1) = w6 at HNET HP6 HR6 ⊢
  clear u5 f5
  have p0 := HP6.out.cell 0
  have p1 := HP6.out.cell 1
  have r0 := HR6.out.cell 0
  have r1 := HR6.out.cell 1
  have s0 := HR6.out.frozen 0
  have s1 := HR6.out.frozen 1
  go_region
  all_goals
    go_wp2
    have hend := take_end (q := .slice A1 ((l s).eraseIdx i).length c1) H.out HNET.out.1 HNET.out.2.1 HVB.out (HNET.out.2.2 p (List.mem_of_getElem? HPI.out)) HR6.out
    have t0 := hend.1.cell 0
    have t1 := hend.1.cell 1
    clear p0 p1 r0 r1 s0 s1
    exact bodyPost_ret (v := .tuple #[.pointer (some ⟨g, wayO s, none⟩), .agg #[.int .i64 p.pk.num, .slice p.A p.pk.bytes.length p.c], .int .i64 0]) (by simp [results, Try.results35, go_sem, t0, t1]) rfl hend.2
end Go.Proofs.Ytbkgphmocjjmmaa
