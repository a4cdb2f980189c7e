/-
  Parts RxA, RxB, RxC, RxD of the proof. No statement of the seat is proved here.
-/
import Derived.Test.YtbnlnndeajjenaaGreatP12
import Derived.Test.YtbnlnndeajjenaaGreatP13
import Derived.Test.YtbnlnndeajjenaaGreatP15
set_option maxHeartbeats 4000000
namespace Go.Proofs.YtbnlnndeajjenaaGreat
open Go.RowKit
def RNd (w : World) (g : Nat) (A : Option Addr) (c : Nat) (T : List Lx.Tk) (fin base : Nat) (r : Ps.Tr × Rs.RS) (e : Ending) (w' : World) : Prop := ∃ cs, e = .returned (.agg cs.toArray) ∧ RP w g A c (Rs.toks T fin) r.2 w' ∧ Rs.Bd T r.2 ∧ TrM w' base (fun _ => False) cs r.1
def RTs (w : World) (g : Nat) (A : Option Addr) (c : Nat) (T : List Lx.Tk) (fin : Nat) (r : List Ps.Tr × Rs.RS) (e : Ending) (w' : World) : Prop := ∃ v, e = .returned v ∧ RP w g A c (Rs.toks T fin) r.2 w' ∧ Rs.Bd T r.2 ∧ TsM w' w.heap.size (fun _ => False) v r.1
structure RUn (w : World) (g : Nat) (A : Option Addr) (c : Nat) (T : List Lx.Tk) (fin base t3 t4 : Nat) (s' : Rs.RS) (n' : Ps.Tr) (cs' : List Value) (wr : World) : Prop where
 env : Ev w g A c (Rs.toks T fin) s' [⟨t4, 26, [.int .i64 0, .string ⟨#[]⟩, .slice none 0 0, .slice none 0 0, .slice none 0 0, .int .i64 0, .int .i64 0]⟩, ⟨t3, 26, cs'⟩] wr
 tr : TrM wr base (fun k => k = t3 ∨ k = t4) cs' n'
 bd : Rs.Bd T s'
section
variable {w wr w1 : World} {g c fin base t3 t4 : Nat} {A : Option Addr} {T : List Lx.Tk} {s' s1 : Rs.RS} {n' : Ps.Tr} {cs' : List Value} {R : Ps.Tr × Rs.RS}
theorem RUn.below (h : RUn w g A c T fin base t3 t4 s' n' cs' wr) (hb : Below wr.heap.size wr w1) : RUn w g A c T fin base t3 t4 s' n' cs' w1 := ⟨h.env.below hb, h.tr.below hb, h.bd⟩
theorem RUn.call (h : RUn w g A c T fin base t3 t4 s' n' cs' wr) (hp : RP wr g A c (Rs.toks T fin) s1 w1) (hb : Rs.Bd T s1) (hgb : g < base) : RUn w g A c T fin base t3 t4 s1 n' cs' w1 := ⟨h.env.call hp, h.tr.call hp.1 hgb, hb⟩
theorem RUn.turn {x0 x1 x2 x3 x4 x5 x6 : Value} (h : RUn w g A c T fin base t3 t4 s' n' [x0, x1, x2, x3, x4, x5, x6] wr) (hbw : base ≤ w.heap.size) (nm : Lx.Txt) (place : Nat) :
  RUn w g A c T fin base t3 t4 s' (Ps.nd 5 nm [n'] place) [.int .i64 5, .string ⟨nm.toArray⟩, .slice none 0 0, .slice none 0 0, .slice (some ⟨wr.heap.size, 0, none⟩) 1 1, .int .i64 0, .int .i64 (place : Int)]
   ((((((((wr.setCell ⟨t3, 0, none⟩ (.int .i64 5)).setCell ⟨t3, 1, none⟩ (.string ⟨nm.toArray⟩)).setCell ⟨t3, 2, none⟩ (.slice none 0 0)).setCell ⟨t3, 3, none⟩ (.slice none 0 0)).setCell ⟨t3, 4, none⟩ (.slice (some ⟨wr.heap.size, 0, none⟩) 1 1)).setCell ⟨t3, 5, none⟩ (.int .i64 0)).setCell ⟨t3, 6, none⟩ (.int .i64 (place : Int))).alloc (.cells #[x0, x1, x2, x3, x4, x5, x6] 26)) := by
 have l3 := (h.env.blk 1 rfl).lt
 have l4 := (h.env.blk 0 rfl).lt
 have hs := h.env.size
 rw [set7_alloc _ _ _ _ _ _ _ _ _ _ l3]
 refine ⟨(h.env.alloc _).put7 1 rfl _ _ _ _ _ _ _, ?_, h.bd⟩
 have h1 : TsM (wr.alloc (.cells #[x0, x1, x2, x3, x4, x5, x6] 26)) base (fun k => k = t3 ∨ k = t4) (.slice (some ⟨wr.heap.size, 0, none⟩) 1 1) [n'] := TsM.one h.tr (by omega) (by omega)
 exact (TrM.nd (l := [n']) 5 nm place h1).store (chg_set7 _ _ _ _ _ _ _ _ _) fun k e => .inl e
theorem RUn.done {x0 x1 x2 x3 x4 x5 x6 : Value} (h : RUn w g A c T fin base t3 t4 s' n' [x0, x1, x2, x3, x4, x5, x6] wr) (hR : R = (n', s')) :
  Blk (((((((wr.setCell ⟨t4, 0, none⟩ x0).setCell ⟨t4, 1, none⟩ x1).setCell ⟨t4, 2, none⟩ x2).setCell ⟨t4, 3, none⟩ x3).setCell ⟨t4, 4, none⟩ x4).setCell ⟨t4, 5, none⟩ x5).setCell ⟨t4, 6, none⟩ x6) t4 26 #[x0, x1, x2, x3, x4, x5, x6] ∧
  RNd w g A c T fin base R (.returned (.agg #[x0, x1, x2, x3, x4, x5, x6])) (((((((wr.setCell ⟨t4, 0, none⟩ x0).setCell ⟨t4, 1, none⟩ x1).setCell ⟨t4, 2, none⟩ x2).setCell ⟨t4, 3, none⟩ x3).setCell ⟨t4, 4, none⟩ x4).setCell ⟨t4, 5, none⟩ x5).setCell ⟨t4, 6, none⟩ x6) := by
 subst hR
 have E4 := h.env.put7 0 rfl x0 x1 x2 x3 x4 x5 x6
 refine ⟨E4.blk 0 rfl, _, rfl, E4.pp, h.bd, ?_⟩
 exact TrM.swap (h.tr.store (chg_set7 _ _ _ _ _ _ _ _ _) fun k e => .inr e) (fun k _ _ e => e.elim)
end
theorem RUn.turn2 {w wr : World} {g c fin base t3 t4 : Nat} {A : Option Addr} {T : List Lx.Tk} {s' : Rs.RS} {n' a' : Ps.Tr} {x0 x1 x2 x3 x4 x5 x6 y0 y1 y2 y3 y4 y5 y6 : Value} (h : RUn w g A c T fin base t3 t4 s' n' [x0, x1, x2, x3, x4, x5, x6] wr) (ha : TrM wr base (fun k => k = t3 ∨ k = t4) [y0, y1, y2, y3, y4, y5, y6] a') (hbw : base ≤ w.heap.size) (nm : Lx.Txt) (place : Nat) :
  RUn w g A c T fin base t3 t4 s' (Ps.nd 5 nm [n', a'] place) [.int .i64 5, .string ⟨nm.toArray⟩, .slice none 0 0, .slice none 0 0, .slice (some ⟨wr.heap.size, 0, none⟩) 2 2, .int .i64 0, .int .i64 (place : Int)]
   ((((((((wr.setCell ⟨t3, 0, none⟩ (.int .i64 5)).setCell ⟨t3, 1, none⟩ (.string ⟨nm.toArray⟩)).setCell ⟨t3, 2, none⟩ (.slice none 0 0)).setCell ⟨t3, 3, none⟩ (.slice none 0 0)).setCell ⟨t3, 4, none⟩ (.slice (some ⟨wr.heap.size, 0, none⟩) 2 2)).setCell ⟨t3, 5, none⟩ (.int .i64 0)).setCell ⟨t3, 6, none⟩ (.int .i64 (place : Int))).alloc (.cells #[x0, x1, x2, x3, x4, x5, x6, y0, y1, y2, y3, y4, y5, y6] 26)) := by
 have l3 := (h.env.blk 1 rfl).lt
 have l4 := (h.env.blk 0 rfl).lt
 have hs := h.env.size
 rw [set7_alloc _ _ _ _ _ _ _ _ _ _ l3]
 refine ⟨(h.env.alloc _).put7 1 rfl _ _ _ _ _ _ _, ?_, h.bd⟩
 have h1 : TsM (wr.alloc (.cells #[x0, x1, x2, x3, x4, x5, x6, y0, y1, y2, y3, y4, y5, y6] 26)) base (fun k => k = t3 ∨ k = t4) (.slice (some ⟨wr.heap.size, 0, none⟩) 2 2) [n', a'] := TsM.two h.tr ha (by omega) (by omega)
 exact (TrM.nd (l := [n', a']) 5 nm place h1).store (chg_set7 _ _ _ _ _ _ _ _ _) fun k e => .inl e
theorem Ev.pick2 {w W : World} {g c fin : Nat} {A : Option Addr} {T : List Lx.Tk} {s : Rs.RS} {L : List Lc} (h : Ev w g A c (Rs.toks T fin) s L W) (i j : Nat) {x y : Lc} (hx : L[i]? = some x) (hy : L[j]? = some y) (hij : i ≠ j) : Ev w g A c (Rs.toks T fin) s [x, y] W := by
 refine ⟨h.chg, h.pa, h.gl, fun k z hz => ?_, fun k q z u hz hu hkq => ?_⟩
 ·match k with
  | 0 => simp only [List.getElem?_cons_zero, Option.some.injEq] at hz; subst hz; exact h.loc i _ hx
  | 1 => simp only [List.getElem?_cons_succ, List.getElem?_cons_zero, Option.some.injEq] at hz; subst hz; exact h.loc j _ hy
  | k + 2 => simp at hz
 ·match k, q, hkq with
  | 0, 0, e => exact absurd rfl e
  | 0, 1, _ =>
   simp only [List.getElem?_cons_succ, List.getElem?_cons_zero, Option.some.injEq] at hz hu
   subst hz hu
   exact h.nd i j _ _ hx hy hij
  | 1, 0, _ =>
   simp only [List.getElem?_cons_succ, List.getElem?_cons_zero, Option.some.injEq] at hz hu
   subst hz hu
   exact h.nd j i _ _ hy hx (Ne.symm hij)
  | 1, 1, e => exact absurd rfl e
  | k + 2, _, _ => simp at hz
  | 0, q + 2, _ => simp at hu
  | 1, q + 2, _ => simp at hu
structure RAc (w : World) (g : Nat) (A : Option Addr) (c : Nat) (T : List Lx.Tk) (fin base ts t2 kind place : Nat) (s' : Rs.RS) (nm : Lx.Txt) (l : List Ps.Tr) (v : Value) (wr : World) : Prop where
 env : Ev w g A c (Rs.toks T fin) s' [⟨ts, 26, [.int .i64 (kind : Int), .string ⟨nm.toArray⟩, .slice none 0 0, .slice none 0 0, v, .int .i64 0, .int .i64 (place : Int)]⟩, ⟨t2, 26, [.int .i64 0, .string ⟨#[]⟩, .slice none 0 0, .slice none 0 0, .slice none 0 0, .int .i64 0, .int .i64 0]⟩] wr
 row : TsM wr base (fun k => k = ts ∨ k = t2) v l
 bd : Rs.Bd T s'
 rlo : ∀ k, v.ownBlock = some k → w.heap.size ≤ k
section
variable {w wr w1 : World} {g c fin base ts t2 kind place : Nat} {A : Option Addr} {T : List Lx.Tk} {s' s1 : Rs.RS} {nm : Lx.Txt} {l : List Ps.Tr} {v : Value} {R : Ps.Tr × Rs.RS}
theorem RAc.below (h : RAc w g A c T fin base ts t2 kind place s' nm l v wr) (hb : Below wr.heap.size wr w1) : RAc w g A c T fin base ts t2 kind place s' nm l v w1 := ⟨h.env.below hb, h.row.below hb, h.bd, h.rlo⟩
theorem RAc.call (h : RAc w g A c T fin base ts t2 kind place s' nm l v wr) (hp : RP wr g A c (Rs.toks T fin) s1 w1) (hb : Rs.Bd T s1) (hgb : g < base) : RAc w g A c T fin base ts t2 kind place s1 nm l v w1 := ⟨h.env.call hp, h.row.call hp.1 hgb, hb, h.rlo⟩
theorem RAc.lts (h : RAc w g A c T fin base ts t2 kind place s' nm l v wr) : ts < wr.heap.size ∧ t2 < wr.heap.size ∧ g < ts ∧ w.heap.size ≤ ts ∧ (∀ k, v.ownBlock = some k → k < wr.heap.size) := by
 obtain ⟨css, _, h2, _⟩ := h.row
 have := h.env.lo 0 rfl
 have := h.env.gl
 exact ⟨(h.env.blk 0 rfl).lt, (h.env.blk 1 rfl).lt, by omega, by omega, fun k hk => (h2.lt k hk).2⟩
theorem RAc.named (h : RAc w g A c T fin base ts t2 kind place s' nm l v wr) (nm' : Lx.Txt) : RAc w g A c T fin base ts t2 kind place s' nm' l v (wr.setCell ⟨ts, 1, none⟩ (.string ⟨nm'.toArray⟩)) :=
 ⟨h.env.put 0 rfl 1 _, h.row.store (chg_set _ _ _ _) fun _ e => .inl e, h.bd, h.rlo⟩
theorem RAc.push {lo : Nat} {cs : List Value} {t : Ps.Tr} (h : RAc w g A c T fin base ts t2 kind place s' nm l v wr) (ht : TrM wr lo (fun _ => False) cs t) (hbl : base ≤ lo) (hlo : ts < lo ∧ t2 < lo ∧ ∀ k, v.ownBlock = some k → k < lo) (hgb : g < base) :
  ∃ css : List (List Value), css.length = l.length ∧ wr.ownsRow base 26 7 v l.length css.flatten ∧ ∀ (o : Obj) (v' : Value) (w6 : World), w6.ownsRow base 26 7 v' (l.length + 1) (css.flatten ++ cs) → (wr.alloc o).grownBy w6 v.ownBlock → (v'.ownBlock = v.ownBlock ∨ v'.ownBlock = some (wr.heap.size + 1)) →
   (∀ j, w6.cell? ⟨ts, j, none⟩ = wr.cell? ⟨ts, j, none⟩) ∧ (∀ j, w6.frozen? ⟨ts, j, none⟩ = false) ∧ ts < w6.heap.size ∧ RAc w g A c T fin base ts t2 kind place s' nm (l ++ [t]) v' (w6.setCell ⟨ts, 4, none⟩ v') := by
 obtain ⟨l1, l2, l3, l4, l5⟩ := h.lts
 have hb0 := h.env.blk 0 rfl
 obtain ⟨css, k1, k2, k4, k3⟩ := h.row
 refine ⟨css, k1, k2, fun o v' w6 ho hg hv => ?_⟩
 have hgr : wr.grownBy w6 v.ownBlock := by
  have a : wr.grownBy (wr.alloc o) v.ownBlock := only_alloc (World.grownBy.refl wr _) o
  exact ⟨hg.os.trans a.os, hg.tape.trans a.tape, hg.output.trans a.output, Nat.le_trans a.size hg.size, fun i hi hn => (hg.block i (Nat.lt_of_lt_of_le hi a.size) hn).trans (a.block i hi hn)⟩
 have hXk : ∀ k, v.ownBlock = some k → k ≠ ts ∧ k ≠ t2 := fun k hk => ⟨fun e => k4 k hk (.inl e), fun e => k4 k hk (.inr e)⟩
 have hE6 : Ev w g A c (Rs.toks T fin) s' _ w6 := h.env.row (v := v) (Chg.of_grown hgr (F := fun k => k = g ∨ v.ownBlock = some k) fun k e => .inr e) (h.env.pa.grown k2 hgb hgr) fun k hk => ⟨h.rlo k hk, fun i x hx e => by
  match i with
  | 0 => simp only [List.getElem?_cons_zero, Option.some.injEq] at hx; subst hx; exact (hXk k hk).1 e.symm
  | 1 => simp only [List.getElem?_cons_succ, List.getElem?_cons_zero, Option.some.injEq] at hx; subst hx; exact (hXk k hk).2 e.symm
  | i + 2 => simp at hx⟩
 have hb6 := hE6.blk 0 rfl
 have hts := TsM.snoc (X := fun k => k = ts ∨ k = t2) k1 k4 k3 (by intro e; omega) (TrIn.more ht fun k hk _ => ⟨Nat.le_trans hbl hk.1, hk.2.1, by have := hk.1; omega, fun e => by have := hlo.2.2 k e.symm; have := hk.1; omega⟩) ho hg hv
 refine ⟨fun j => by rw [hb6.cell j, hb0.cell j], fun j => hb6.frozen j, hb6.lt, hE6.put 0 rfl 4 v', hts.store (chg_set _ _ _ _) fun _ e => .inl e, h.bd, fun k hk => ?_⟩
 rcases hv with e | e
 ·exact h.rlo k (by rw [← e]; exact hk)
 ·rw [e] at hk; injection hk with hk; have := h.env.size; omega
theorem RAc.start {L : List Lc} {X : Nat → Prop} (h : Ev w g A c (Rs.toks T fin) s' L wr) (i : Nat) (hi : L[i]? = some ⟨t2, 26, [.int .i64 0, .string ⟨#[]⟩, .slice none 0 0, .slice none 0 0, .slice none 0 0, .int .i64 0, .int .i64 0]⟩) (hts : wr.heap.size = ts) (hr : TsM wr base X v l) (hX : X t2) (hb : Rs.Bd T s') (hv : ∀ k, v.ownBlock = some k → w.heap.size ≤ k) (kind place : Nat) (nm : Lx.Txt) :
  RAc w g A c T fin base ts t2 kind place s' nm l v (wr.alloc (.cells #[.int .i64 (kind : Int), .string ⟨nm.toArray⟩, .slice none 0 0, .slice none 0 0, v, .int .i64 0, .int .i64 (place : Int)] 26)) := by
 have E1 := (h.boxk ts hts 26 [.int .i64 (kind : Int), .string ⟨nm.toArray⟩, .slice none 0 0, .slice none 0 0, v, .int .i64 0, .int .i64 (place : Int)] ).pick2 0 (i + 1) rfl (by simpa using hi) (by omega)
 exact ⟨E1, (hr.swap fun k _ h2 e => by
  rcases e with e | e
  ·omega
  ·rw [e]; exact hX).below (new_below _ _), hb, hv⟩
theorem RAc.done {A3 : Option Addr} {n3 c3 : Nat} (h : RAc w g A c T fin base ts t2 kind place s' nm l (.slice A3 n3 c3) wr) (hR : R = (Ps.nd kind nm l place, s')) :
  Blk (((((((wr.setCell ⟨t2, 0, none⟩ (.int .i64 (kind : Int))).setCell ⟨t2, 1, none⟩ (.string ⟨nm.toArray⟩)).setCell ⟨t2, 2, none⟩ (.slice none 0 0)).setCell ⟨t2, 3, none⟩ (.slice none 0 0)).setCell ⟨t2, 4, none⟩ (.slice A3 n3 c3)).setCell ⟨t2, 5, none⟩ (.int .i64 0)).setCell ⟨t2, 6, none⟩ (.int .i64 (place : Int))) t2 26 #[.int .i64 (kind : Int), .string ⟨nm.toArray⟩, .slice none 0 0, .slice none 0 0, .slice A3 n3 c3, .int .i64 0, .int .i64 (place : Int)] ∧
  RNd w g A c T fin base R (.returned (.agg #[.int .i64 (kind : Int), .string ⟨nm.toArray⟩, .slice none 0 0, .slice none 0 0, .slice A3 n3 c3, .int .i64 0, .int .i64 (place : Int)])) (((((((wr.setCell ⟨t2, 0, none⟩ (.int .i64 (kind : Int))).setCell ⟨t2, 1, none⟩ (.string ⟨nm.toArray⟩)).setCell ⟨t2, 2, none⟩ (.slice none 0 0)).setCell ⟨t2, 3, none⟩ (.slice none 0 0)).setCell ⟨t2, 4, none⟩ (.slice A3 n3 c3)).setCell ⟨t2, 5, none⟩ (.int .i64 0)).setCell ⟨t2, 6, none⟩ (.int .i64 (place : Int))) := by
 subst hR
 have E4 := h.env.put7 1 rfl (.int .i64 (kind : Int)) (.string ⟨nm.toArray⟩) (.slice none 0 0) (.slice none 0 0) (.slice A3 n3 c3) (.int .i64 0) (.int .i64 (place : Int))
 have hrow := h.row
 obtain ⟨_, _, e, hc, _⟩ := hrow.form
 injection e with _ e2 _
 subst e2
 refine ⟨E4.blk 1 rfl, _, rfl, E4.pp, h.bd, ?_⟩
 exact TrM.swap ((TrM.nd kind nm place hrow).store (chg_set7 _ _ _ _ _ _ _ _ _) fun _ e => .inr e) (fun k _ _ e => e.elim)
end
structure RSt (w : World) (g : Nat) (A : Option Addr) (c : Nat) (T : List Lx.Tk) (fin : Nat) (s' : Rs.RS) (l : List Ps.Tr) (v : Value) (wr : World) : Prop where
 env : Ev w g A c (Rs.toks T fin) s' [] wr
 row : TsM wr w.heap.size (fun _ => False) v l
 bd : Rs.Bd T s'
section
variable {w wr w1 : World} {g c fin : Nat} {A : Option Addr} {T : List Lx.Tk} {s' s1 : Rs.RS} {l : List Ps.Tr} {v : Value}
theorem RSt.below (h : RSt w g A c T fin s' l v wr) (hb : Below wr.heap.size wr w1) : RSt w g A c T fin s' l v w1 := ⟨h.env.below hb, h.row.below hb, h.bd⟩
theorem RSt.call (h : RSt w g A c T fin s' l v wr) (hp : RP wr g A c (Rs.toks T fin) s1 w1) (hb : Rs.Bd T s1) : RSt w g A c T fin s1 l v w1 := ⟨h.env.call hp, h.row.call hp.1 h.env.gl, hb⟩
theorem RSt.rows (h : RSt w g A c T fin s' l v wr) : ∀ k, v.ownBlock = some k → k < wr.heap.size := by
 obtain ⟨css, _, h2, _⟩ := h.row
 exact fun k hk => (h2.lt k hk).2
theorem RSt.push {lo : Nat} {cs : List Value} {t : Ps.Tr} (h : RSt w g A c T fin s' l v wr) (ht : TrM wr lo (fun _ => False) cs t) (hbl : w.heap.size ≤ lo) (hlo : ∀ k, v.ownBlock = some k → k < lo) :
  ∃ css : List (List Value), css.length = l.length ∧ wr.ownsRow w.heap.size 26 7 v l.length css.flatten ∧ ∀ (o : Obj) (v' : Value) (w6 : World), w6.ownsRow w.heap.size 26 7 v' (l.length + 1) (css.flatten ++ cs) → (wr.alloc o).grownBy w6 v.ownBlock → (v'.ownBlock = v.ownBlock ∨ v'.ownBlock = some (wr.heap.size + 1)) →
   RSt w g A c T fin s' (l ++ [t]) v' w6 := by
 obtain ⟨css, k1, k2, k4, k3⟩ := h.row
 refine ⟨css, k1, k2, fun o v' w6 ho hg hv => ?_⟩
 have hgr : wr.grownBy w6 v.ownBlock := by
  have a : wr.grownBy (wr.alloc o) v.ownBlock := only_alloc (World.grownBy.refl wr _) o
  exact ⟨hg.os.trans a.os, hg.tape.trans a.tape, hg.output.trans a.output, Nat.le_trans a.size hg.size, fun i hi hn => (hg.block i (Nat.lt_of_lt_of_le hi a.size) hn).trans (a.block i hi hn)⟩
 refine ⟨h.env.row (v := v) (Chg.of_grown hgr (F := fun k => k = g ∨ v.ownBlock = some k) fun k e => .inr e) (h.env.pa.grown k2 h.env.gl hgr) fun k hk => ⟨(k2.lt k hk).1, fun i x hx => by simp at hx⟩, ?_, h.bd⟩
 exact TsM.snoc (X := fun _ => False) k1 k4 k3 (fun e => e) (TrIn.more ht fun k hk _ => ⟨Nat.le_trans hbl hk.1, hk.2.1, fun e => e, fun e => by have := hlo k e.symm; have := hk.1; omega⟩) ho hg hv
end
set_option maxRecDepth 20000 in
theorem rprimB_any {w : World} {g c fin : Nat} {A : Option Addr} {T : List Lx.Tk} {s : Rs.RS} (h : RA w g A c (Rs.toks T fin) s) (hb : Rs.Bd T s) (hk : Rs.bad s = true) :
  Calls Tryz.prog 94 #[.pointer (some ⟨g, 0, none⟩)] w (RNd w g A c T fin w.heap.size (Ps.Tr.zero, s)) := by
 have E0 := (Ev.start h).box 26 [.int .i64 0, .string ⟨#[]⟩, .slice none 0 0, .slice none 0 0, .slice none 0 0, .int .i64 0, .int .i64 0]
 have HN := Hd (rtok_any E0.pa hb.lt)
 generalize Rs.tok (Rs.toks T fin) s = t at *
 have HBD := Hd fun (W : World) (h : RA W g A c (Rs.toks T fin) s) => rbad_any h
 rw [hk] at HBD
 have HB := Hd hb
 clear h hb hk
 go_enter Tryz.func94, Tryz.ntmps94
 go_upto_block 0 with (go_at_call 37; refine HN.out.mono ?_; rintro e w1 ⟨rfl, hb1⟩; have E1 := E0.below hb1; clear hb1)
 refine wp_world (Ev w g A c (Rs.toks T fin) s _) (E1.box 40 [_, _, _]) fun w2 E2 => ?_
 clear E0 E1 HN
 obtain ⟨b, b0, b1, b2, b3, b4, b5, b6⟩ := E2.c7 1 rfl
 have f1 := E2.fz 1 rfl
 go_wp2_with (go_at_call 26; refine (HBD.out _ E2.pa).mono ?_; rintro e w3 ⟨rfl, rfl⟩)
 have E9 := E2.put7 1 rfl (.int .i64 0) (.string ⟨#[]⟩) (.slice none 0 0) (.slice none 0 0) (.slice none 0 0) (.int .i64 0) (.int .i64 0)
 exact bodyPost_ret (ret26 rfl _ _ rfl (E9.blk 1 rfl)) rfl ⟨_, rfl, E9.pp, HB.out, TrM.zero _ _ _⟩
set_option maxRecDepth 20000 in
theorem runaB_any {w : World} {g c fin : Nat} {A : Option Addr} {T : List Lx.Tk} {s : Rs.RS} (h : RA w g A c (Rs.toks T fin) s) (hb : Rs.Bd T s) (hk : Rs.bad s = true) :
  Calls Tryz.prog 88 #[.pointer (some ⟨g, 0, none⟩)] w (RNd w g A c T fin w.heap.size (Ps.Tr.zero, s)) := by
 have E0 := (Ev.start h).box 26 [.int .i64 0, .string ⟨#[]⟩, .slice none 0 0, .slice none 0 0, .slice none 0 0, .int .i64 0, .int .i64 0]
 have HP := Hd (rprimB_any E0.pa hb hk)
 have HT := Hd fun (W : World) (h : RA W g A c (Rs.toks T fin) s) => ris_z h hb.lt 1 [] (z := 1) rfl (xs := #[]) rfl
 rw [Rs.is_no hk] at HT
 have HB := Hd hb
 clear h hb hk
 go_enter Tryz.func88, Tryz.ntmps88
 go_upto_block 0 with (go_at_call 94; refine HP.out.mono ?_; rintro e w1 ⟨cs, rfl, hp, hb1, ht⟩; have E1 := E0.call hp; have HT1 := Hd ht; obtain ⟨p0, p1, C1, o1, e1, C2, o2, e2, C3, o3, e3, p5, p6, rfl⟩ := ht.form; clear hp hb1 ht)
 refine wp_world (fun W => Ev w g A c (Rs.toks T fin) s _ W ∧ TrM W w.heap.size (fun k => k = w1.heap.size ∨ k = w.heap.size) _ Ps.Tr.zero) ⟨E1.box 26 [_, _, _, _, _, _, _], ((TrM.low HT1.out (b' := w.heap.size + 1) (by simp)).swap (X' := fun k => k = w1.heap.size ∨ k = w.heap.size) (fun k hk1 hk2 e => by omega)).below (new_below _ _) |>.low (by omega)⟩ fun w2 h2 => ?_
 obtain ⟨E2, ht2⟩ := h2
 have HT2 := Hd ht2
 clear E0 E1 HP HT1 ht2
 go_wp2
 go_loopg [] 1 (fun f wr => f = 1 ∧ wr = w2)
 case atStart => exact ⟨rfl, rfl⟩
 case round =>
  obtain ⟨rfl, rfl⟩ := hrel
  obtain ⟨a, a0, a1, a2, a3, a4, a5, a6⟩ := E2.c7 0 rfl
  go_upto_region 5 with (go_at_call 38; refine (HT.out _ E2.pa).mono ?_; rintro e w3 ⟨rfl, hb3⟩; have E3 := E2.below hb3; have HT3 := Hd (TrM.below HT2.out hb3); clear hb3)
  clear a a0 a1 a2 a3 a4 a5 a6 E2 HT2
  obtain ⟨a, a0, a1, a2, a3, a4, a5, a6⟩ := E3.c7 0 rfl
  obtain ⟨b, b0, b1, b2, b3, b4, b5, b6⟩ := E3.c7 1 rfl
  have f1 := E3.fz 1 rfl
  go_wp2
  have E9 := E3.put7 1 rfl (.int .i64 (p0 : Int)) (.string ⟨p1.toArray⟩) (.slice C1 o1 e1) (.slice C2 o2 e2) (.slice C3 o3 e3) (.int .i64 (p5 : Int)) (.int .i64 (p6 : Int))
  exact bodyPost_ret (ret26 rfl _ _ rfl (E9.blk 1 rfl)) rfl ⟨_, rfl, E9.pp, HB.out, (TrM.store HT3.out (chg_set7 _ _ _ _ _ _ _ _ _) fun _ e => .inr e).swap fun _ _ _ e => e.elim⟩
set_option maxRecDepth 20000 in
theorem rbinB_any {w : World} {g c fin : Nat} {A : Option Addr} {T : List Lx.Tk} {s : Rs.RS} (h : RA w g A c (Rs.toks T fin) s) (hb : Rs.Bd T s) (hk : Rs.bad s = true) :
  Calls Tryz.prog 87 #[.pointer (some ⟨g, 0, none⟩)] w (RNd w g A c T fin w.heap.size (Ps.Tr.zero, s)) := by
 have E0 := (Ev.start h).box 26 [.int .i64 0, .string ⟨#[]⟩, .slice none 0 0, .slice none 0 0, .slice none 0 0, .int .i64 0, .int .i64 0]
 have HP := Hd (runaB_any E0.pa hb hk)
 have HT := Hd fun (W : World) (h : RA W g A c (Rs.toks T fin) s) => rbin_any h hb.lt
 rw [Rs.bin_no hk] at HT
 have HB := Hd hb
 clear h hb hk
 go_enter Tryz.func87, Tryz.ntmps87
 go_upto_block 0 with (go_at_call 88; refine HP.out.mono ?_; rintro e w1 ⟨cs, rfl, hp, hb1, ht⟩; have E1 := E0.call hp; have HT1 := Hd ht; obtain ⟨p0, p1, C1, o1, e1, C2, o2, e2, C3, o3, e3, p5, p6, rfl⟩ := ht.form; clear hp hb1 ht)
 refine wp_world (fun W => Ev w g A c (Rs.toks T fin) s _ W ∧ TrM W w.heap.size (fun k => k = w1.heap.size ∨ k = w.heap.size) _ Ps.Tr.zero) ⟨E1.box 26 [_, _, _, _, _, _, _], ((TrM.low HT1.out (b' := w.heap.size + 1) (by simp)).swap (X' := fun k => k = w1.heap.size ∨ k = w.heap.size) (fun k hk1 hk2 e => by omega)).below (new_below _ _) |>.low (by omega)⟩ fun w2 h2 => ?_
 obtain ⟨E2, ht2⟩ := h2
 have HT2 := Hd ht2
 clear E0 E1 HP HT1 ht2
 go_wp2
 go_loopg [] 1 (fun f wr => f = 1 ∧ wr = w2)
 case atStart => exact ⟨rfl, rfl⟩
 case round =>
  obtain ⟨rfl, rfl⟩ := hrel
  obtain ⟨a, a0, a1, a2, a3, a4, a5, a6⟩ := E2.c7 0 rfl
  go_upto_region 6 with (go_at_call 39; refine (HT.out _ E2.pa).mono ?_; rintro e w3 ⟨rfl, hb3⟩; have E3 := E2.below hb3; have HT3 := Hd (TrM.below HT2.out hb3); clear hb3)
  clear a a0 a1 a2 a3 a4 a5 a6 E2 HT2
  obtain ⟨a, a0, a1, a2, a3, a4, a5, a6⟩ := E3.c7 0 rfl
  obtain ⟨b, b0, b1, b2, b3, b4, b5, b6⟩ := E3.c7 1 rfl
  have f1 := E3.fz 1 rfl
  go_wp2
  have E9 := E3.put7 1 rfl (.int .i64 (p0 : Int)) (.string ⟨p1.toArray⟩) (.slice C1 o1 e1) (.slice C2 o2 e2) (.slice C3 o3 e3) (.int .i64 (p5 : Int)) (.int .i64 (p6 : Int))
  exact bodyPost_ret (ret26 rfl _ _ rfl (E9.blk 1 rfl)) rfl ⟨_, rfl, E9.pp, HB.out, (TrM.store HT3.out (chg_set7 _ _ _ _ _ _ _ _ _) fun _ e => .inr e).swap fun _ _ _ e => e.elim⟩
set_option maxRecDepth 20000 in
theorem rkeyB_any {w : World} {g c fin : Nat} {A : Option Addr} {T : List Lx.Tk} {s : Rs.RS} (h : RA w g A c (Rs.toks T fin) s) (hb : Rs.Bd T s) (hk : Rs.bad s = true) :
  Calls Tryz.prog 65 #[.pointer (some ⟨g, 0, none⟩)] w (RNd w g A c T fin w.heap.size (Ps.Tr.zero, s)) := by
 have E0 := (Ev.start h).box 26 [.int .i64 0, .string ⟨#[]⟩, .slice none 0 0, .slice none 0 0, .slice none 0 0, .int .i64 0, .int .i64 0]
 have HP := Hd (rbinB_any E0.pa hb hk)
 have HT := Hd fun (W : World) (h : RA W g A c (Rs.toks T fin) s) => ris_z h hb.lt 2 [] (z := 2) rfl (xs := #[]) rfl
 rw [Rs.is_no hk] at HT
 have HB := Hd hb
 clear h hb hk
 go_enter Tryz.func65, Tryz.ntmps65
 go_upto_region 2 with (go_at_call 87; refine HP.out.mono ?_; rintro e w1 ⟨cs, rfl, hp, hb1, ht⟩; have E1 := E0.call hp; have HT1 := Hd ht; obtain ⟨p0, p1, C1, o1, e1, C2, o2, e2, C3, o3, e3, p5, p6, rfl⟩ := ht.form; clear hp hb1 ht)
 refine wp_world (fun W => Ev w g A c (Rs.toks T fin) s _ W ∧ TrM W w.heap.size (fun k => k = w1.heap.size ∨ k = w.heap.size) _ Ps.Tr.zero) ⟨E1.box 26 [_, _, _, _, _, _, _], ((TrM.low HT1.out (b' := w.heap.size + 1) (by simp)).swap (X' := fun k => k = w1.heap.size ∨ k = w.heap.size) (fun k hk1 hk2 e => by omega)).below (new_below _ _) |>.low (by omega)⟩ fun w2 h2 => ?_
 obtain ⟨E2, ht2⟩ := h2
 have HT2 := Hd ht2
 clear E0 E1 HP HT1 ht2
 obtain ⟨a, a0, a1, a2, a3, a4, a5, a6⟩ := E2.c7 0 rfl
 go_upto_region 3 with (go_at_call 38; refine (HT.out _ E2.pa).mono ?_; rintro e w3 ⟨rfl, hb3⟩; have E3 := E2.below hb3; have HT3 := Hd (TrM.below HT2.out hb3); clear hb3)
 clear a a0 a1 a2 a3 a4 a5 a6 E2 HT2
 obtain ⟨a, a0, a1, a2, a3, a4, a5, a6⟩ := E3.c7 0 rfl
 obtain ⟨b, b0, b1, b2, b3, b4, b5, b6⟩ := E3.c7 1 rfl
 have f1 := E3.fz 1 rfl
 go_wp2
 have E9 := E3.put7 1 rfl (.int .i64 (p0 : Int)) (.string ⟨p1.toArray⟩) (.slice C1 o1 e1) (.slice C2 o2 e2) (.slice C3 o3 e3) (.int .i64 (p5 : Int)) (.int .i64 (p6 : Int))
 exact bodyPost_ret (ret26 rfl _ _ rfl (E9.blk 1 rfl)) rfl ⟨_, rfl, E9.pp, HB.out, (TrM.store HT3.out (chg_set7 _ _ _ _ _ _ _ _ _) fun _ e => .inr e).swap fun _ _ _ e => e.elim⟩
set_option maxRecDepth 20000 in
theorem rexpB_any {w : World} {g c fin : Nat} {A : Option Addr} {T : List Lx.Tk} {s : Rs.RS} (h : RA w g A c (Rs.toks T fin) s) (hb : Rs.Bd T s) (hk : Rs.bad s = true) :
  Calls Tryz.prog 44 #[.pointer (some ⟨g, 0, none⟩)] w (RNd w g A c T fin w.heap.size (Ps.Tr.zero, s)) := by
 have E0 := (Ev.start h).box 26 [.int .i64 0, .string ⟨#[]⟩, .slice none 0 0, .slice none 0 0, .slice none 0 0, .int .i64 0, .int .i64 0]
 have HP := Hd fun (W : World) (h : RA W g A c (Rs.toks T fin) s) => rkeyB_any h hb hk
 have H1 := Hd fun (W : World) (h : RA W g A c (Rs.toks T fin) s) => ris_z h hb.lt 1 [] (z := 1) rfl (xs := #[]) rfl
 have H7 := Hd fun (W : World) (h : RA W g A c (Rs.toks T fin) s) => ris_z h hb.lt 7 [59] (z := 7) rfl (xs := #[59]) rfl
 rw [Rs.is_no hk] at H1 H7
 have HB := Hd hb
 clear h hb hk
 go_enter Tryz.func44, Tryz.ntmps44
 go_upto_region 1 with fail
 refine wp_region_held_drew (S := fun _ => True) (by kernel_rfl) trivial (fun hHeld => ?_)
 refine ht (i := 0) ?_
 refine wpAnyH_ready (rs := [1]) (by kernel_rfl) (by simp) ?_
 refine AllReadyH.cons (by simp only [List.getElem?_toArray, List.getElem?_cons_succ, List.getElem?_cons_zero]; rfl) (fun K hK => ?_) AllReadyH.nil
 go_simp
 go_at_call 38
 with_reducible refine (H1.out _ E0.pa.drew).mono ?_
 rintro e w1 ⟨rfl, hb1⟩
 have E1 := E0.drew.below hb1
 clear hb1
 try go_simp
 refine hK.out _ _ (trivial) (fun hHeld => ?_)
 clear hK K
 refine ht (i := 2) ?_
 refine hsk (i := 3) ?_
 refine hsk (i := 4) ?_
 refine hsk (i := 5) ?_
 refine hsk (i := 6) ?_
 refine hsk (i := 7) ?_
 refine hsk (i := 8) ?_
 refine hsk (i := 9) ?_
 refine hsk (i := 10) ?_
 refine hsk (i := 11) ?_
 refine hsk (i := 12) ?_
 refine hsk (i := 13) ?_
 refine hsk (i := 14) ?_
 refine hsk (i := 15) ?_
 refine ht (i := 16) ?_
 refine ht (i := 17) ?_
 refine hsk (i := 18) ?_
 refine hsk (i := 19) ?_
 refine hsk (i := 20) ?_
 refine hsk (i := 21) ?_
 refine hsk (i := 22) ?_
 refine hsk (i := 23) ?_
 refine hsk (i := 24) ?_
 refine hsk (i := 25) ?_
 refine hsk (i := 26) ?_
 refine hsk (i := 27) ?_
 refine hsk (i := 28) ?_
 refine hsk (i := 29) ?_
 refine hsk (i := 30) ?_
 refine ht (i := 31) ?_
 refine wpAnyH_done (by kernel_rfl) ?_ _
 clear hHeld
 obtain ⟨k0, k1, k2, k3, k4⟩ := E1.pa.cells
 have hg := E1.pa.lt
 go_upto_region 9 with (go_at_call 65; refine (HP.out _ E1.pa).mono ?_; rintro e w2 ⟨cs, rfl, hp, hb1, ht⟩; have hs2 := hp.1.size; have E2 := E1.call hp; have HT1 := Hd ht; obtain ⟨p0, p1, C1, o1, e1, C2, o2, e2, C3, o3, e3, p5, p6, rfl⟩ := ht.form; clear hp hb1 ht)
 have hs1 := E1.size
 have hl1 := (E1.blk 0 rfl).lt
 refine wp_world (fun W => Ev w g A c (Rs.toks T fin) s _ W ∧ TrM W w.heap.size (fun k => k = w2.heap.size ∨ k = w.heap.size) _ Ps.Tr.zero) ⟨E2.box 26 [_, _, _, _, _, _, _], ((TrM.swap HT1.out (X' := fun k => k = w2.heap.size ∨ k = w.heap.size) (fun k hk1 hk2 e => by omega)).below (new_below _ _)).low (by omega)⟩ fun w3 h3 => ?_
 obtain ⟨E3, ht3⟩ := h3
 have HT3 := Hd ht3
 clear E0 E1 E2 HP HT1 ht3 k0 k1 k2 k3 k4 hg
 go_upto_region 10 with (go_at_call 38; refine (H7.out _ E3.pa).mono ?_; rintro e w4 ⟨rfl, hb3⟩; have E4 := E3.below hb3; have HT4 := Hd (TrM.below HT3.out hb3); clear hb3)
 clear E3 HT3
 obtain ⟨a, a0, a1, a2, a3, a4, a5, a6⟩ := E4.c7 0 rfl
 obtain ⟨b, b0, b1, b2, b3, b4, b5, b6⟩ := E4.c7 1 rfl
 have f1 := E4.fz 1 rfl
 go_wp2
 have E9 := E4.put7 1 rfl (.int .i64 (p0 : Int)) (.string ⟨p1.toArray⟩) (.slice C1 o1 e1) (.slice C2 o2 e2) (.slice C3 o3 e3) (.int .i64 (p5 : Int)) (.int .i64 (p6 : Int))
 exact bodyPost_ret (ret26 rfl _ _ rfl (E9.blk 1 rfl)) rfl ⟨_, rfl, E9.pp, HB.out, (TrM.store HT4.out (chg_set7 _ _ _ _ _ _ _ _ _) fun _ e => .inr e).swap fun _ _ _ e => e.elim⟩
structure RWAll (g : Nat) (A : Option Addr) (c : Nat) (T : List Lx.Tk) (fin f : Nat) : Prop where
 expr : ∀ s w, RA w g A c (Rs.toks T fin) s → Rs.Bd T s → (Rs.bad s = false → Rs.rem T s + 7 ≤ f) → Calls Tryz.prog 44 #[.pointer (some ⟨g, 0, none⟩)] w (RNd w g A c T fin w.heap.size (Rs.expr (Rs.toks T fin) f s))
 msg : ∀ s w, RA w g A c (Rs.toks T fin) s → Rs.Bd T s → Rs.bad s = false → Rs.rem T s + 6 ≤ f → Calls Tryz.prog 67 #[.pointer (some ⟨g, 0, none⟩)] w (RNd w g A c T fin w.heap.size (Rs.msg (Rs.toks T fin) f s))
 keyw : ∀ s w, RA w g A c (Rs.toks T fin) s → Rs.Bd T s → Rs.bad s = false → Rs.rem T s + 6 ≤ f → Calls Tryz.prog 65 #[.pointer (some ⟨g, 0, none⟩)] w (RNd w g A c T fin w.heap.size (Rs.keyw (Rs.toks T fin) f s))
 bins : ∀ s w, RA w g A c (Rs.toks T fin) s → Rs.Bd T s → Rs.bad s = false → Rs.rem T s + 5 ≤ f → Calls Tryz.prog 87 #[.pointer (some ⟨g, 0, none⟩)] w (RNd w g A c T fin w.heap.size (Rs.bins (Rs.toks T fin) f s))
 unary : ∀ s w, RA w g A c (Rs.toks T fin) s → Rs.Bd T s → Rs.bad s = false → Rs.rem T s + 4 ≤ f → Calls Tryz.prog 88 #[.pointer (some ⟨g, 0, none⟩)] w (RNd w g A c T fin w.heap.size (Rs.unary (Rs.toks T fin) f s))
 prim : ∀ s w, RA w g A c (Rs.toks T fin) s → Rs.Bd T s → Rs.bad s = false → Rs.rem T s + 3 ≤ f → Calls Tryz.prog 94 #[.pointer (some ⟨g, 0, none⟩)] w (RNd w g A c T fin w.heap.size (Rs.prim (Rs.toks T fin) f s))
 arr : ∀ s w, RA w g A c (Rs.toks T fin) s → Rs.Bd T s → Rs.bad s = false → s.at_ < T.length → Rs.rem T s + 2 ≤ f → Calls Tryz.prog 99 #[.pointer (some ⟨g, 0, none⟩)] w (RNd w g A c T fin w.heap.size (Rs.arr (Rs.toks T fin) f s))
 lit : ∀ s w, RA w g A c (Rs.toks T fin) s → Rs.Bd T s → Rs.bad s = false → Rs.rem T s + 3 ≤ f → Calls Tryz.prog 105 #[.pointer (some ⟨g, 0, none⟩)] w (RNd w g A c T fin w.heap.size (Rs.lit (Rs.toks T fin) f s))
 bra : ∀ s w, RA w g A c (Rs.toks T fin) s → Rs.Bd T s → Rs.bad s = false → s.at_ < T.length → Rs.rem T s + 2 ≤ f → Calls Tryz.prog 103 #[.pointer (some ⟨g, 0, none⟩)] w (RNd w g A c T fin w.heap.size (Ps.nd 14 [] (Rs.braL (Rs.toks T fin) f [] (Rs.opn (Rs.toks T fin) s)).1 (Rs.tok (Rs.toks T fin) s).2.2, Rs.shut (Rs.toks T fin) [125] (Rs.braL (Rs.toks T fin) f [] (Rs.opn (Rs.toks T fin) s)).2))
 blk : ∀ s w, RA w g A c (Rs.toks T fin) s → Rs.Bd T s → Rs.bad s = false → s.at_ < T.length → Rs.rem T s + 2 ≤ f → Calls Tryz.prog 104 #[.pointer (some ⟨g, 0, none⟩)] w (RNd w g A c T fin w.heap.size (Rs.blk (Rs.toks T fin) f s))
 stL : ∀ m s w, RA w g A c (Rs.toks T fin) s → Rs.Bd T s → (Rs.bad s = false → Rs.rem T s + 8 ≤ f) → Calls Tryz.prog 25 #[.pointer (some ⟨g, 0, none⟩), .string ⟨m.toArray⟩] w (RTs w g A c T fin (Rs.stL (Rs.toks T fin) f m [] s))
theorem Rs.take_yes {L : List Lx.Tk} {k : Nat} {x : Lx.Txt} {s : Rs.RS} (h : Rs.is_ L k x s = true) : Rs.take L k x s = (Rs.tok L s, Rs.adv s) := by unfold Rs.take; rw [if_pos h]
theorem RUn.first {w w1 : World} {g c fin t2 : Nat} {A : Option Addr} {T : List Lx.Tk} {s1 : Rs.RS} {n : Ps.Tr} {cs : List Value} {lo : Nat} (E : Ev w g A c (Rs.toks T fin) s1 [⟨t2, 26, [.int .i64 0, .string ⟨#[]⟩, .slice none 0 0, .slice none 0 0, .slice none 0 0, .int .i64 0, .int .i64 0]⟩] w1) (ht : TrM w1 lo (fun _ => False) cs n) (hlo : w.heap.size ≤ lo ∧ t2 < lo) (hb : Rs.Bd T s1) :
  RUn w g A c T fin w.heap.size w1.heap.size t2 s1 n cs (w1.alloc (.cells cs.toArray 26)) :=
 ⟨(E.box 26 cs).pick2 1 0 rfl rfl (by omega), ((TrM.swap ht (X' := fun k => k = w1.heap.size ∨ k = t2) (fun k h1 h2 e => by omega)).below (new_below _ _)).low hlo.1, hb⟩
set_option maxRecDepth 20000 in
theorem runa_any {g c fin F : Nat} {A : Option Addr} {T : List Lx.Tk} (hT : Ps.Fits 65536 T) (ih : ∀ f, f < F → RWAll g A c T fin f) (s : Rs.RS) (w : World) (h : RA w g A c (Rs.toks T fin) s) (hb : Rs.Bd T s) (hk : Rs.bad s = false) (hf : Rs.rem T s + 4 ≤ F) :
  Calls Tryz.prog 88 #[.pointer (some ⟨g, 0, none⟩)] w (RNd w g A c T fin w.heap.size (Rs.unary (Rs.toks T fin) F s)) := by
 have hTl := hT.len
 have hgb := h.lt
 have E0 := (Ev.start h).box 26 [.int .i64 0, .string ⟨#[]⟩, .slice none 0 0, .slice none 0 0, .slice none 0 0, .int .i64 0, .int .i64 0]
 obtain ⟨F', rfl⟩ : ∃ F', F = F' + 1 := ⟨F - 1, by omega⟩
 obtain ⟨pa, hpa⟩ : ∃ x, Rs.prim (Rs.toks T fin) F' s = x := ⟨_, rfl⟩
 obtain ⟨R, hR⟩ : ∃ R, Rs.unaL (Rs.toks T fin) (T.length + 4) pa.1 pa.2 = R := ⟨_, rfl⟩
 have HR := Hd hR
 have HP := Hd ((ih F' (by omega)).prim s _ E0.pa hb hk (by omega))
 rw [hpa] at HP
 rw [Rs.unary, hpa, Ps.toks_len, hR]
 clear h hb hk ih hpa hR
 go_enter Tryz.func88, Tryz.ntmps88
 go_upto_block 0 with (go_at_call 94; refine HP.out.mono ?_; rintro e w1 ⟨cs, rfl, hp, hb1, ht⟩; have E1 := E0.call hp; have hs1 := hp.1.size; have HT1 := Hd ht; have HB1 := Hd hb1; obtain ⟨p0, p1, C1, o1, e1, C2, o2, e2, C3, o3, e3, p5, p6, rfl⟩ := ht.form; clear hp hb1 ht)
 refine wp_world (fun W => RUn w g A c T fin w.heap.size w1.heap.size w.heap.size pa.2 pa.1 _ W) (RUn.first E1 HT1.out ⟨by simp, by simp⟩ HB1.out) fun w2 hu => ?_
 have HU1 := Hd hu
 obtain ⟨t3, ht3⟩ : ∃ t3, w1.heap.size = t3 := ⟨_, rfl⟩
 rw [ht3] at HU1 ⊢
 clear E0 E1 HP HT1 hu ht3
 go_wp2
 go_loopg [] (T.length + 4) (fun f wr => ∃ (s' : Rs.RS) (n' : Ps.Tr) (cs' : List Value), RUn w g A c T fin w.heap.size t3 w.heap.size s' n' cs' wr ∧ (Rs.bad s' = false → T.length < s'.at_ + f) ∧ Rs.unaL (Rs.toks T fin) f n' s' = R)
 case atStart => exact ⟨pa.2, pa.1, _, HU1.out, fun _ => by omega, HR.out⟩
 case round =>
  obtain ⟨s', n', cs', hu, hok, hR⟩ := hrel
  obtain ⟨r0, r1, B1, m1, d1, B2, m2, d2, B3, m3, d3, r5, r6, rfl, -⟩ := TrIn.seven hu.tr
  have HU := Hd hu
  have HR2 := Hd hR
  have HOK := Hd hok
  have hat := hu.bd.at_
  have HI := Hd fun (W : World) (h : RA W g A c (Rs.toks T fin) s') => ris_z h (hu.bd).lt 1 [] (z := 1) rfl (xs := #[]) rfl
  clear hu hR hok HU1 HR HB1
  cases hi : Rs.is_ (Rs.toks T fin) 1 [] s' with
  | false =>
   have HE : Hid (R = (n', s')) := Hd (by rw [← HR2.out]; exact Rs.unaL_stop hi)
   rw [hi] at HI
   clear hi
   go_upto_region 5 with (go_at_call 38; refine (HI.out _ HU.out.env.pa).mono ?_; rintro e w4 ⟨rfl, hb⟩; have HU4 := Hd (HU.out.below hb); clear hb)
   clear HU HI
   obtain ⟨a, a0, a1, a2, a3, a4, a5, a6⟩ := HU4.out.env.c7 1 rfl
   obtain ⟨b, b0, b1, b2, b3, b4, b5, b6⟩ := HU4.out.env.c7 0 rfl
   have f := HU4.out.env.fz 0 rfl
   go_wp2
   obtain ⟨hb4, hnd⟩ := HU4.out.done HE.out
   exact bodyPost_ret (ret26 rfl _ _ rfl hb4) rfl hnd
  | true =>
   rw [hi] at HI
   have hlt : s'.at_ < T.length := Rs.is_lt (by decide) hi
   have hfu := HOK.out (Rs.is_ok hi)
   obtain ⟨f, rfl⟩ : ∃ f, gk = f + 1 := ⟨gk - 1, by omega⟩
   obtain ⟨t, ht⟩ : ∃ t, Rs.tok (Rs.toks T fin) s' = t := ⟨_, rfl⟩
   have HR3 : Hid (Rs.unaL (Rs.toks T fin) f (Ps.nd 5 t.2.1 [n'] t.2.2) (Rs.adv s') = R) := Hd (by rw [← HR2.out, Rs.unaL, if_pos hi, ht])
   have HTK := Hd fun (W : World) (h : RA W g A c (Rs.toks T fin) s') => rtake_z h (HU.out.bd).lt ((HU.out.bd).le hTl) 1 [] (z := 1) rfl (xs := #[]) rfl
   rw [Rs.take_yes hi, ht] at HTK
   clear hi ht
   go_upto_region 4 with (first
    | (go_at_call 38; refine (HI.out _ HU.out.env.pa).mono ?_; rintro e w4 ⟨rfl, hb⟩; have HU4 := Hd (HU.out.below hb); clear hb)
    | (go_at_call 41; refine (HTK.out _ HU4.out.env.pa).mono ?_; rintro e w5 ⟨rfl, hp⟩; have HU5 := Hd (HU4.out.call hp (HU4.out.bd.adv hlt) hgb); clear hp))
   refine wp_world (fun W => RUn w g A c T fin w.heap.size t3 w.heap.size (Rs.adv s') n' _ W ∧ Blk W w5.heap.size 40 _) ⟨HU5.out.below (new_below _ _), Blk.new _ _ _⟩ fun w6 h6 => ?_
   have HU6 := Hd h6.1
   have HB6 := Hd h6.2
   clear h6 HU5 HU4 HU HR2 HOK HI HTK
   obtain ⟨a, a0, a1, a2, a3, a4, a5, a6⟩ := HU6.out.env.c7 1 rfl
   have f3 := HU6.out.env.fz 1 rfl
   have b := HB6.out.lt
   have b1 := HB6.out.cell 1
   have b2 := HB6.out.cell 2
   go_wp2
   go_roundg f
   case measure => omega
   case rel => exact ⟨_, _, _, HU6.out.turn (Nat.le_refl _) t.2.1 t.2.2, fun _ => by show T.length < s'.at_ + 1 + f; omega, HR3.out⟩
set_option maxRecDepth 20000 in
theorem rbins_any {g c fin F : Nat} {A : Option Addr} {T : List Lx.Tk} (hT : Ps.Fits 65536 T) (ih : ∀ f, f < F → RWAll g A c T fin f) (s : Rs.RS) (w : World) (h : RA w g A c (Rs.toks T fin) s) (hb : Rs.Bd T s) (hk : Rs.bad s = false) (hf : Rs.rem T s + 5 ≤ F) :
  Calls Tryz.prog 87 #[.pointer (some ⟨g, 0, none⟩)] w (RNd w g A c T fin w.heap.size (Rs.bins (Rs.toks T fin) F s)) := by
 have hTl := hT.len
 have hgb := h.lt
 have E0 := (Ev.start h).box 26 [.int .i64 0, .string ⟨#[]⟩, .slice none 0 0, .slice none 0 0, .slice none 0 0, .int .i64 0, .int .i64 0]
 obtain ⟨F', rfl⟩ : ∃ F', F = F' + 1 := ⟨F - 1, by omega⟩
 obtain ⟨pa, hpa⟩ : ∃ x, Rs.unary (Rs.toks T fin) F' s = x := ⟨_, rfl⟩
 obtain ⟨R, hR⟩ : ∃ R, Rs.binL_ (Rs.toks T fin) F' pa.1 pa.2 = R := ⟨_, rfl⟩
 have HR := Hd hR
 have HP := Hd ((ih F' (by omega)).unary s _ E0.pa hb hk (by omega))
 have hle : Rs.rem T pa.2 ≤ Rs.rem T s := Rs.rem_le (by rw [← hpa]; exact (((Rs.mvAll (T := T) (fin := fin) F').unary s hb.at_).at_ hb.at_).1)
 rw [hpa] at HP
 rw [Rs.bins, hpa, hR]
 have IH := Hd ih
 clear h hb hk ih hpa hR
 go_enter Tryz.func87, Tryz.ntmps87
 go_upto_block 0 with (go_at_call 88; refine HP.out.mono ?_; rintro e w1 ⟨cs, rfl, hp, hb1, ht⟩; have E1 := E0.call hp; have hs1 := hp.1.size; have HT1 := Hd ht; have HB1 := Hd hb1; obtain ⟨p0, p1, C1, o1, e1, C2, o2, e2, C3, o3, e3, p5, p6, rfl⟩ := ht.form; clear hp hb1 ht)
 refine wp_world (fun W => RUn w g A c T fin w.heap.size w1.heap.size w.heap.size pa.2 pa.1 _ W) (RUn.first E1 HT1.out ⟨by simp, by simp⟩ HB1.out) fun w2 hu => ?_
 have HU1 := Hd hu
 obtain ⟨t3, ht3⟩ : ∃ t3, w1.heap.size = t3 := ⟨_, rfl⟩
 rw [ht3] at HU1 ⊢
 clear E0 E1 HP HT1 hu ht3
 go_wp2
 go_loopg [] F' (fun f wr => ∃ (s' : Rs.RS) (n' : Ps.Tr) (cs' : List Value), f ≤ F' ∧ RUn w g A c T fin w.heap.size t3 w.heap.size s' n' cs' wr ∧ Rs.rem T s' + 1 ≤ f ∧ Rs.binL_ (Rs.toks T fin) f n' s' = R)
 case atStart => exact ⟨pa.2, pa.1, _, Nat.le_refl _, HU1.out, by omega, HR.out⟩
 case round =>
  obtain ⟨s', n', cs', hfF, hu, hrm, hR⟩ := hrel
  obtain ⟨r0, r1, B1, m1, d1, B2, m2, d2, B3, m3, d3, r5, r6, rfl, -⟩ := TrIn.seven hu.tr
  have HU := Hd hu
  have HR2 := Hd hR
  have hat := hu.bd.at_
  have HI := Hd fun (W : World) (h : RA W g A c (Rs.toks T fin) s') => rbin_any h (hu.bd).lt
  clear hu hR HU1 HR HB1
  cases hi : Rs.bin (Rs.toks T fin) s' with
  | false =>
   have HE : Hid (R = (n', s')) := Hd (by rw [← HR2.out]; exact Rs.binL_stop hi)
   rw [hi] at HI
   clear hi
   go_upto_region 6 with (go_at_call 39; refine (HI.out _ HU.out.env.pa).mono ?_; rintro e w4 ⟨rfl, hb⟩; have HU4 := Hd (HU.out.below hb); clear hb)
   clear HU HI
   obtain ⟨a, a0, a1, a2, a3, a4, a5, a6⟩ := HU4.out.env.c7 1 rfl
   obtain ⟨b, b0, b1, b2, b3, b4, b5, b6⟩ := HU4.out.env.c7 0 rfl
   have f := HU4.out.env.fz 0 rfl
   go_wp2
   obtain ⟨hb4, hnd⟩ := HU4.out.done HE.out
   exact bodyPost_ret (ret26 rfl _ _ rfl hb4) rfl hnd
  | true =>
   rw [hi] at HI
   obtain ⟨hlt, hko⟩ := Rs.bin_lt hi
   obtain ⟨f, rfl⟩ : ∃ f, gk = f + 1 := ⟨gk - 1, by omega⟩
   obtain ⟨t, ht⟩ : ∃ t, Rs.tok (Rs.toks T fin) s' = t := ⟨_, rfl⟩
   obtain ⟨u, hu⟩ : ∃ u, Rs.unary (Rs.toks T fin) f (Rs.adv s') = u := ⟨_, rfl⟩
   have hra := Rs.rem_adv (T := T) (s := s') (s' := Rs.adv s') (Nat.lt_succ_self _) hlt
   have HBA := Hd (HU.out.bd.adv hlt)
   have hle : Rs.rem T u.2 ≤ Rs.rem T (Rs.adv s') := Rs.rem_le (by rw [← hu]; exact (((Rs.mvAll (T := T) (fin := fin) f).unary _ HBA.out.at_).at_ HBA.out.at_).1)
   have HR3 : Hid (Rs.binL_ (Rs.toks T fin) f (Ps.nd 5 t.2.1 [n', u.1] t.2.2) u.2 = R) := Hd (by rw [← HR2.out, Rs.binL_]; dsimp only; rw [if_pos hi, ht, hu])
   have HTK := Hd fun (W : World) (h : RA W g A c (Rs.toks T fin) s') => rtok_any h (HU.out.bd).lt
   have HUN := Hd fun (W : World) (h : RA W g A c (Rs.toks T fin) (Rs.adv s')) (hb : Rs.Bd T (Rs.adv s')) => (IH.out f (by omega)).unary (Rs.adv s') W h hb hko (by omega)
   rw [hu] at HUN
   rw [ht] at HTK
   have hs' := HU.out.bd.le hTl
   clear hi ht hu
   go_upto_region 4 with (first
    | (go_at_call 39; refine (HI.out _ HU.out.env.pa).mono ?_; rintro e w4 ⟨rfl, hb⟩; have HU4 := Hd (HU.out.below hb); clear hb)
    | (go_at_call 37; refine (HTK.out _ HU4.out.env.pa).mono ?_; rintro e w5 ⟨rfl, hb⟩; have HU5 := Hd (HU4.out.below hb); clear hb))
   obtain ⟨tb, htb⟩ : ∃ tb, w5.heap.size = tb := ⟨_, rfl⟩
   refine wp_world (fun W => RUn w g A c T fin w.heap.size t3 w.heap.size s' n' _ W ∧ Blk W w5.heap.size 40 _) ⟨HU5.out.below (new_below _ _), Blk.new _ _ _⟩ fun w5b h5 => ?_
   have hz5 := HU5.out.env.size
   have hlt5 := (HU5.out.env.blk 1 rfl).lt
   rw [htb] at h5 hz5 hlt5 ⊢
   have HU5b := Hd h5.1
   have HB5 := Hd h5.2
   obtain ⟨k0, k1, k2, k3, k4⟩ := h5.1.env.pa.cells
   have kf := h5.1.env.pa.frz 1
   have hg := h5.1.env.pa.lt
   clear h5 HU4 HU5 HI HTK HR2 htb
   go_upto_region 5 with fail
   refine wp_world (fun W => RUn w g A c T fin w.heap.size t3 w.heap.size (Rs.adv s') n' _ W ∧ Blk W tb 40 _) ⟨⟨HU5b.out.env.setAt (s'.at_ + 1) _ (by first | rfl | omega), HU5b.out.tr.call (chg_set _ _ _ _) hgb, HBA.out⟩, HB5.out.far (p := ⟨g, 1, none⟩) (by dsimp only; omega) _⟩ fun w6 h6 => ?_
   have HU6 := Hd h6.1
   have HB6 := Hd h6.2
   have HSC : Hid (∀ W, RUn w g A c T fin w.heap.size t3 w.heap.size u.2 n' _ W → Blk W tb 40 #[.int .i64 (t.1 : Int), .string ⟨t.2.1.toArray⟩, .int .i64 (t.2.2 : Int)] → W.cell? ⟨t3, 0, none⟩ = some (.int .i64 (r0 : Int)) ∧ W.cell? ⟨t3, 1, none⟩ = some (.string ⟨r1.toArray⟩) ∧ W.cell? ⟨t3, 2, none⟩ = some (.slice B1 m1 d1) ∧ W.cell? ⟨t3, 3, none⟩ = some (.slice B2 m2 d2) ∧ W.cell? ⟨t3, 4, none⟩ = some (.slice B3 m3 d3) ∧ W.cell? ⟨t3, 5, none⟩ = some (.int .i64 (r5 : Int)) ∧ W.cell? ⟨t3, 6, none⟩ = some (.int .i64 (r6 : Int)) ∧ W.cell? ⟨tb, 1, none⟩ = some (.string ⟨t.2.1.toArray⟩) ∧ W.cell? ⟨tb, 2, none⟩ = some (.int .i64 (t.2.2 : Int))) := Hd fun W (h : RUn w g A c T fin w.heap.size t3 w.heap.size u.2 n' _ W) hb => by
    obtain ⟨_, a0, a1, a2, a3, a4, a5, a6⟩ := h.env.c7 1 rfl
    exact ⟨a0, a1, a2, a3, a4, a5, a6, hb.cell 1, hb.cell 2⟩
   have hS6 : w6.drew.cell? ⟨t3, 0, none⟩ = some (.int .i64 (r0 : Int)) ∧ w6.drew.cell? ⟨t3, 1, none⟩ = some (.string ⟨r1.toArray⟩) ∧ w6.drew.cell? ⟨t3, 2, none⟩ = some (.slice B1 m1 d1) ∧ w6.drew.cell? ⟨t3, 3, none⟩ = some (.slice B2 m2 d2) ∧ w6.drew.cell? ⟨t3, 4, none⟩ = some (.slice B3 m3 d3) ∧ w6.drew.cell? ⟨t3, 5, none⟩ = some (.int .i64 (r5 : Int)) ∧ w6.drew.cell? ⟨t3, 6, none⟩ = some (.int .i64 (r6 : Int)) ∧ w6.drew.cell? ⟨tb, 1, none⟩ = some (.string ⟨t.2.1.toArray⟩) ∧ w6.drew.cell? ⟨tb, 2, none⟩ = some (.int .i64 (t.2.2 : Int)) := by
    obtain ⟨_, a0, a1, a2, a3, a4, a5, a6⟩ := h6.1.env.c7 1 rfl
    exact ⟨a0, a1, a2, a3, a4, a5, a6, h6.2.cell 1, h6.2.cell 2⟩
   have hl6 := (h6.1.env.blk 1 rfl).lt
   clear h6 HU HU5b HB5 k0 k1 k2 k3 k4 kf hg
   refine wp_region_x (s := 9) (S := fun W => W.cell? ⟨t3, 0, none⟩ = some (.int .i64 (r0 : Int)) ∧ W.cell? ⟨t3, 1, none⟩ = some (.string ⟨r1.toArray⟩) ∧ W.cell? ⟨t3, 2, none⟩ = some (.slice B1 m1 d1) ∧ W.cell? ⟨t3, 3, none⟩ = some (.slice B2 m2 d2) ∧ W.cell? ⟨t3, 4, none⟩ = some (.slice B3 m3 d3) ∧ W.cell? ⟨t3, 5, none⟩ = some (.int .i64 (r5 : Int)) ∧ W.cell? ⟨t3, 6, none⟩ = some (.int .i64 (r6 : Int)) ∧ W.cell? ⟨tb, 1, none⟩ = some (.string ⟨t.2.1.toArray⟩) ∧ W.cell? ⟨tb, 2, none⟩ = some (.int .i64 (t.2.2 : Int))) (by kernel_rfl) hS6 (fun hHeld => ?_)
   refine xt (i := 0) ?_
   refine xt (i := 1) ?_
   refine xt (i := 2) ?_
   refine xt (i := 3) ?_
   refine xt (i := 6) ?_
   refine xt (i := 7) ?_
   refine x1 (i := 4) (fun K2 hK2 => ?_)
   go_simp
   go_at_call 88
   refine (HUN.out _ HU6.out.env.pa.drew HU6.out.bd).mono ?_
   rintro e wa ⟨cs7, rfl, hp7, hb7, ht7⟩
   have hz7 : w6.heap.size ≤ wa.heap.size := hp7.1.size
   have HU7 := Hd ((HU6.out.below (Below.refl _ _).drew).call hp7 hb7 hgb)
   have HT7 := Hd ht7
   have q7 : wa.cell? ⟨t3, 0, none⟩ = some (.int .i64 (r0 : Int)) ∧ wa.cell? ⟨t3, 1, none⟩ = some (.string ⟨r1.toArray⟩) ∧ wa.cell? ⟨t3, 2, none⟩ = some (.slice B1 m1 d1) ∧ wa.cell? ⟨t3, 3, none⟩ = some (.slice B2 m2 d2) ∧ wa.cell? ⟨t3, 4, none⟩ = some (.slice B3 m3 d3) ∧ wa.cell? ⟨t3, 5, none⟩ = some (.int .i64 (r5 : Int)) ∧ wa.cell? ⟨t3, 6, none⟩ = some (.int .i64 (r6 : Int)) ∧ wa.cell? ⟨tb, 1, none⟩ = some (.string ⟨t.2.1.toArray⟩) ∧ wa.cell? ⟨tb, 2, none⟩ = some (.int .i64 (t.2.2 : Int)) := HSC.out _ HU7.out ((Blk.drew HB6.out).below (Below.refl _ _) (by have := HB6.out.lt; exact this) |> fun h => hp7.1.blk h (by omega))
   obtain ⟨p0, p1, C1, o1, e1, C2, o2, e2, C3, o3, e3, p5, p6, rfl⟩ := HT7.out.form
   have f7 := HU7.out.env.fz 1 rfl
   have l7 := (HU7.out.env.blk 1 rfl).lt
   clear hp7 hb7 ht7
   try go_simp
   refine hK2.out _ _ (q7) (fun hHeld => ?_)
   clear hK2 K2
   refine x1 (i := 5) (fun K2 hK2 => ?_)
   go_simp
   refine hK2.out _ _ (by go_keep) (fun hHeld => ?_)
   clear hK2 K2
   refine xt (i := 8) ?_
   refine xl (fun K2 hK2 => ?_)
   go_simp
   refine hK2.out _ _ ?_
   clear hK2 K2
   try simp only [Act.put, List.setIfInBounds_toArray, List.set_cons_zero, List.set_cons_succ]
   refine wpAnyX_done (by kernel_rfl) ?_ _
   clear hHeld
   have hfl : w.heap.size ≤ w6.heap.size := HU6.out.env.size
   have HTX := Hd (TrM.low (TrM.swap HT7.out (X' := fun k => k = t3 ∨ k = w.heap.size) (fun k h1 _ e => by have h1' : w6.heap.size ≤ k := h1; have := (HU6.out.env.blk 0 rfl).lt; omega)) (b' := w.heap.size) hfl)
   go_wp2_with fail
   go_roundg f
   case measure => omega
   case rel => exact ⟨_, _, _, by omega, HU7.out.turn2 HTX.out (Nat.le_refl _) t.2.1 t.2.2, by omega, HR3.out⟩
end Go.Proofs.YtbnlnndeajjenaaGreat
