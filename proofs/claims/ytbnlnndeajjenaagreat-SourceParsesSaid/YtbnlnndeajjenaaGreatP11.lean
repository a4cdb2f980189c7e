/-
  Parts PxD, PxK, Rm, RwA, RwB of the proof. No statement of the seat is proved here.
-/
import Derived.Test.YtbnlnndeajjenaaGreatP10
import Derived.Deep.RegionLaw
import Derived.Test.YtbnlnndeajjenaaGreatP09
set_option maxHeartbeats 4000000
namespace Go.Proofs.YtbnlnndeajjenaaGreat
open Go.RowKit
theorem Env.pick2 {w W : World} {g c fin : Nat} {A : Option Addr} {T : List Lx.Tk} {s : Ps.PS} {L : List Lc} (h : Env w g A c T fin s L W) (i j : Nat) {x y : Lc} (hx : L[i]? = some x) (hy : L[j]? = some y) (hij : i ≠ j) : Env w g A c T fin s [x, y] W := by
 refine ⟨h.chg, h.pa, h.gl, fun k z hz => ?_, fun k q z u hz hu hkq => ?_⟩
 ·match k with
  | 0 => simp only [List.getElem?_cons_zero, Option.some.injEq] at hz; subst hz; exact h.loc i _ hx
  | 1 => simp only [List.getElem?_cons_succ, List.getElem?_cons_zero, Option.some.injEq] at hz; subst hz; exact h.loc j _ hy
  | k + 2 => simp at hz
 ·match k, q, hkq with
  | 0, 0, e => exact absurd rfl e
  | 0, 1, _ =>
   simp only [List.getElem?_cons_succ, List.getElem?_cons_zero, Option.some.injEq] at hz hu
   subst hz hu
   exact h.nd i j _ _ hx hy hij
  | 1, 0, _ =>
   simp only [List.getElem?_cons_succ, List.getElem?_cons_zero, Option.some.injEq] at hz hu
   subst hz hu
   exact h.nd j i _ _ hy hx (Ne.symm hij)
  | 1, 1, e => exact absurd rfl e
  | k + 2, _, _ => simp at hz
  | 0, q + 2, _ => simp at hu
  | 1, q + 2, _ => simp at hu
structure AcS (w : World) (g : Nat) (A : Option Addr) (c : Nat) (T : List Lx.Tk) (fin base ts t2 kind place : Nat) (s' : Ps.PS) (nm : Lx.Txt) (l : List Ps.Tr) (v : Value) (wr : World) : Prop where
 env : Env w g A c T fin s' [⟨ts, 26, [.int .i64 (kind : Int), .string ⟨nm.toArray⟩, .slice none 0 0, .slice none 0 0, v, .int .i64 0, .int .i64 (place : Int)]⟩, ⟨t2, 26, [.int .i64 0, .string ⟨#[]⟩, .slice none 0 0, .slice none 0 0, .slice none 0 0, .int .i64 0, .int .i64 0]⟩] wr
 row : TsM wr base (fun k => k = ts ∨ k = t2) v l
 bd : Bd T s'
 rlo : ∀ k, v.ownBlock = some k → w.heap.size ≤ k
section
variable {w wr w1 : World} {g c fin base ts t2 kind place : Nat} {A : Option Addr} {T : List Lx.Tk} {s' s1 : Ps.PS} {nm : Lx.Txt} {l : List Ps.Tr} {v : Value} {R : Ps.Tr × Ps.PS}
theorem AcS.below (h : AcS w g A c T fin base ts t2 kind place s' nm l v wr) (hb : Below wr.heap.size wr w1) : AcS w g A c T fin base ts t2 kind place s' nm l v w1 := ⟨h.env.below hb, h.row.below hb, h.bd, h.rlo⟩
theorem AcS.call (h : AcS w g A c T fin base ts t2 kind place s' nm l v wr) (hp : PP wr g A c T fin s1 w1) (hb : Bd T s1) (hgb : g < base) : AcS w g A c T fin base ts t2 kind place s1 nm l v w1 := ⟨h.env.call hp, h.row.call hp.1 hgb, hb, h.rlo⟩
theorem AcS.lts (h : AcS w g A c T fin base ts t2 kind place s' nm l v wr) : ts < wr.heap.size ∧ t2 < wr.heap.size ∧ g < ts ∧ w.heap.size ≤ ts ∧ (∀ k, v.ownBlock = some k → k < wr.heap.size) := by
 obtain ⟨css, _, h2, _⟩ := h.row
 have := h.env.lo 0 rfl
 have := h.env.gl
 exact ⟨(h.env.blk 0 rfl).lt, (h.env.blk 1 rfl).lt, by omega, by omega, fun k hk => (h2.lt k hk).2⟩
theorem AcS.named (h : AcS w g A c T fin base ts t2 kind place s' nm l v wr) (nm' : Lx.Txt) : AcS w g A c T fin base ts t2 kind place s' nm' l v (wr.setCell ⟨ts, 1, none⟩ (.string ⟨nm'.toArray⟩)) :=
 ⟨h.env.put 0 rfl 1 _, h.row.store (chg_set _ _ _ _) fun _ e => .inl e, h.bd, h.rlo⟩
theorem AcS.push {lo : Nat} {cs : List Value} {t : Ps.Tr} (h : AcS w g A c T fin base ts t2 kind place s' nm l v wr) (ht : TrM wr lo (fun _ => False) cs t) (hbl : base ≤ lo) (hlo : ts < lo ∧ t2 < lo ∧ ∀ k, v.ownBlock = some k → k < lo) (hgb : g < base) :
  ∃ css : List (List Value), css.length = l.length ∧ wr.ownsRow base 26 7 v l.length css.flatten ∧ ∀ (o : Obj) (v' : Value) (w6 : World), w6.ownsRow base 26 7 v' (l.length + 1) (css.flatten ++ cs) → (wr.alloc o).grownBy w6 v.ownBlock → (v'.ownBlock = v.ownBlock ∨ v'.ownBlock = some (wr.heap.size + 1)) →
   (∀ j, w6.cell? ⟨ts, j, none⟩ = wr.cell? ⟨ts, j, none⟩) ∧ (∀ j, w6.frozen? ⟨ts, j, none⟩ = false) ∧ ts < w6.heap.size ∧ AcS w g A c T fin base ts t2 kind place s' nm (l ++ [t]) v' (w6.setCell ⟨ts, 4, none⟩ v') := by
 obtain ⟨l1, l2, l3, l4, l5⟩ := h.lts
 have hb0 := h.env.blk 0 rfl
 obtain ⟨css, k1, k2, k4, k3⟩ := h.row
 refine ⟨css, k1, k2, fun o v' w6 ho hg hv => ?_⟩
 have hgr : wr.grownBy w6 v.ownBlock := by
  have a : wr.grownBy (wr.alloc o) v.ownBlock := only_alloc (World.grownBy.refl wr _) o
  exact ⟨hg.os.trans a.os, hg.tape.trans a.tape, hg.output.trans a.output, Nat.le_trans a.size hg.size, fun i hi hn => (hg.block i (Nat.lt_of_lt_of_le hi a.size) hn).trans (a.block i hi hn)⟩
 have hXk : ∀ k, v.ownBlock = some k → k ≠ ts ∧ k ≠ t2 := fun k hk => ⟨fun e => k4 k hk (.inl e), fun e => k4 k hk (.inr e)⟩
 have hE6 : Env w g A c T fin s' _ w6 := h.env.row (v := v) (Chg.of_grown hgr (F := fun k => k = g ∨ v.ownBlock = some k) fun k e => .inr e) (h.env.pa.grown k2 (by decide) hgb hgr) fun k hk => ⟨h.rlo k hk, fun i x hx e => by
  match i with
  | 0 => simp only [List.getElem?_cons_zero, Option.some.injEq] at hx; subst hx; exact (hXk k hk).1 e.symm
  | 1 => simp only [List.getElem?_cons_succ, List.getElem?_cons_zero, Option.some.injEq] at hx; subst hx; exact (hXk k hk).2 e.symm
  | i + 2 => simp at hx⟩
 have hb6 := hE6.blk 0 rfl
 have hts := TsM.snoc (X := fun k => k = ts ∨ k = t2) k1 k4 k3 (by intro e; omega) (TrIn.more ht fun k hk _ => ⟨Nat.le_trans hbl hk.1, hk.2.1, by have := hk.1; omega, fun e => by have := hlo.2.2 k e.symm; have := hk.1; omega⟩) ho hg hv
 refine ⟨fun j => by rw [hb6.cell j, hb0.cell j], fun j => hb6.frozen j, hb6.lt, hE6.put 0 rfl 4 v', hts.store (chg_set _ _ _ _) fun _ e => .inl e, h.bd, fun k hk => ?_⟩
 rcases hv with e | e
 ·exact h.rlo k (by rw [← e]; exact hk)
 ·rw [e] at hk; injection hk with hk; have := h.env.size; omega
theorem AcS.start {L : List Lc} {X : Nat → Prop} (h : Env w g A c T fin s' L wr) (i : Nat) (hi : L[i]? = some ⟨t2, 26, [.int .i64 0, .string ⟨#[]⟩, .slice none 0 0, .slice none 0 0, .slice none 0 0, .int .i64 0, .int .i64 0]⟩) (hts : wr.heap.size = ts) (hr : TsM wr base X v l) (hX : X t2) (hb : Bd T s') (hv : ∀ k, v.ownBlock = some k → w.heap.size ≤ k) (kind place : Nat) (nm : Lx.Txt) :
  AcS w g A c T fin base ts t2 kind place s' nm l v (wr.alloc (.cells #[.int .i64 (kind : Int), .string ⟨nm.toArray⟩, .slice none 0 0, .slice none 0 0, v, .int .i64 0, .int .i64 (place : Int)] 26)) := by
 have E1 := (h.boxk ts hts 26 [.int .i64 (kind : Int), .string ⟨nm.toArray⟩, .slice none 0 0, .slice none 0 0, v, .int .i64 0, .int .i64 (place : Int)] (by decide)).pick2 0 (i + 1) rfl (by simpa using hi) (by omega)
 exact ⟨E1, (hr.swap fun k _ h2 e => by
  rcases e with e | e
  ·omega
  ·rw [e]; exact hX).below (new_below _ _), hb, hv⟩
theorem AcS.done {A3 : Option Addr} {n3 c3 : Nat} (h : AcS w g A c T fin base ts t2 kind place s' nm l (.slice A3 n3 c3) wr) (hR : R = (Ps.nd kind nm l place, s')) :
  Blk (((((((wr.setCell ⟨t2, 0, none⟩ (.int .i64 (kind : Int))).setCell ⟨t2, 1, none⟩ (.string ⟨nm.toArray⟩)).setCell ⟨t2, 2, none⟩ (.slice none 0 0)).setCell ⟨t2, 3, none⟩ (.slice none 0 0)).setCell ⟨t2, 4, none⟩ (.slice A3 n3 c3)).setCell ⟨t2, 5, none⟩ (.int .i64 0)).setCell ⟨t2, 6, none⟩ (.int .i64 (place : Int))) t2 26 #[.int .i64 (kind : Int), .string ⟨nm.toArray⟩, .slice none 0 0, .slice none 0 0, .slice A3 n3 c3, .int .i64 0, .int .i64 (place : Int)] ∧
  NdP w g A c T fin base R (.returned (.agg #[.int .i64 (kind : Int), .string ⟨nm.toArray⟩, .slice none 0 0, .slice none 0 0, .slice A3 n3 c3, .int .i64 0, .int .i64 (place : Int)])) (((((((wr.setCell ⟨t2, 0, none⟩ (.int .i64 (kind : Int))).setCell ⟨t2, 1, none⟩ (.string ⟨nm.toArray⟩)).setCell ⟨t2, 2, none⟩ (.slice none 0 0)).setCell ⟨t2, 3, none⟩ (.slice none 0 0)).setCell ⟨t2, 4, none⟩ (.slice A3 n3 c3)).setCell ⟨t2, 5, none⟩ (.int .i64 0)).setCell ⟨t2, 6, none⟩ (.int .i64 (place : Int))) := by
 subst hR
 have E4 := h.env.put7 1 rfl (.int .i64 (kind : Int)) (.string ⟨nm.toArray⟩) (.slice none 0 0) (.slice none 0 0) (.slice A3 n3 c3) (.int .i64 0) (.int .i64 (place : Int))
 have hrow := h.row
 obtain ⟨_, _, e, hc, _⟩ := hrow.form
 injection e with _ e2 _
 subst e2
 refine ⟨E4.blk 1 rfl, _, rfl, E4.pp, h.bd, ?_⟩
 exact TrM.swap ((TrM.nd kind nm place hrow).store (chg_set7 _ _ _ _ _ _ _ _ _) fun _ e => .inr e) (fun k _ _ e => e.elim)
end
section
variable {w w4 w5 wr : World} {g c fin base ts t2 t3 t4 : Nat} {A : Option Addr} {T : List Lx.Tk} {s' : Ps.PS} {l : List Ps.Tr} {v : Value} {n' : Ps.Tr} {x0 x1 x2 x3 x4 x5 x6 : Value}
theorem AcS.fill {L : List Lc} {X : Nat → Prop} (h : Env w g A c T fin s' L wr) (i j : Nat) (hi : L[i]? = some ⟨ts, 26, [.int .i64 0, .string ⟨#[]⟩, .slice none 0 0, .slice none 0 0, .slice none 0 0, .int .i64 0, .int .i64 0]⟩) (hj : L[j]? = some ⟨t2, 26, [.int .i64 0, .string ⟨#[]⟩, .slice none 0 0, .slice none 0 0, .slice none 0 0, .int .i64 0, .int .i64 0]⟩) (hij : i ≠ j) (hr : TsM wr base X v l) (hX : X ts ∧ X t2) (hb : Bd T s') (hv : ∀ k, v.ownBlock = some k → w.heap.size ≤ k) (kind place : Nat) (nm : Lx.Txt) :
  AcS w g A c T fin base ts t2 kind place s' nm l v (((((((wr.setCell ⟨ts, 0, none⟩ (.int .i64 (kind : Int))).setCell ⟨ts, 1, none⟩ (.string ⟨nm.toArray⟩)).setCell ⟨ts, 2, none⟩ (.slice none 0 0)).setCell ⟨ts, 3, none⟩ (.slice none 0 0)).setCell ⟨ts, 4, none⟩ v).setCell ⟨ts, 5, none⟩ (.int .i64 0)).setCell ⟨ts, 6, none⟩ (.int .i64 (place : Int))) := by
 have E1 := (h.pick2 i j hi hj hij).put7 0 rfl (.int .i64 (kind : Int)) (.string ⟨nm.toArray⟩) (.slice none 0 0) (.slice none 0 0) v (.int .i64 0) (.int .i64 (place : Int))
 refine ⟨E1, TsM.store (hr.swap fun k _ _ e => ?_) (chg_set7 _ _ _ _ _ _ _ _ _) fun _ e => .inl e, hb, hv⟩
 rcases e with e | e
 ·rw [e]; exact hX.1
 ·rw [e]; exact hX.2
theorem slot_own {k n c : Nat} {q : Nat} (h : (Value.slice (some ⟨k, 0, none⟩) n c).ownBlock = some q) : q = k := by simpa [Value.ownBlock] using h.symm
theorem kw1 (h : UnS w g A c T fin base t3 t4 s' n' [x0, x1, x2, x3, x4, x5, x6] w4) (hbw : base ≤ w.heap.size) (hb : Below (w4.alloc (.cells #[x0, x1, x2, x3, x4, x5, x6] 26)).drew.heap.size (w4.alloc (.cells #[x0, x1, x2, x3, x4, x5, x6] 26)).drew w5) (kind place : Nat) (nm : Lx.Txt) :
  AcS w g A c T fin base w5.heap.size t4 kind place s' nm [n'] (.slice (some ⟨w4.heap.size, 0, none⟩) 1 1) (w5.alloc (.cells #[.int .i64 (kind : Int), .string ⟨nm.toArray⟩, .slice none 0 0, .slice none 0 0, .slice (some ⟨w4.heap.size, 0, none⟩) 1 1, .int .i64 0, .int .i64 (place : Int)] 26)) := by
 have l3 := (h.env.blk 1 rfl).lt
 have l4 := (h.env.blk 0 rfl).lt
 have hs := h.env.size
 have h1 := TsM.one h.tr (by omega) (by omega)
 exact AcS.start (h.env.below ((new_below _ _).drew.trans (hb.mono (by simp)))) 0 rfl rfl ((h1.below (Below.refl _ _).drew).below hb) (.inr rfl) h.bd (fun k hk => by rw [slot_own hk]; omega) kind place nm
theorem kw2 (h : UnS w g A c T fin base t3 t4 s' n' [x0, x1, x2, x3, x4, x5, x6] w4) (hbw : base ≤ w.heap.size) (hb : Below ((w4.alloc (.cells #[x0, x1, x2, x3, x4, x5, x6] 26)).alloc (.cells #[.int .i64 0, .string ⟨#[]⟩, .slice none 0 0, .slice none 0 0, .slice none 0 0, .int .i64 0, .int .i64 0] 26)).drew.heap.size ((w4.alloc (.cells #[x0, x1, x2, x3, x4, x5, x6] 26)).alloc (.cells #[.int .i64 0, .string ⟨#[]⟩, .slice none 0 0, .slice none 0 0, .slice none 0 0, .int .i64 0, .int .i64 0] 26)).drew w5) (kind place : Nat) (nm : Lx.Txt) :
  AcS w g A c T fin base (w4.heap.size + 1) t4 kind place s' nm [n'] (.slice (some ⟨w4.heap.size, 0, none⟩) 1 1) (((((((w5.setCell ⟨w4.heap.size + 1, 0, none⟩ (.int .i64 (kind : Int))).setCell ⟨w4.heap.size + 1, 1, none⟩ (.string ⟨nm.toArray⟩)).setCell ⟨w4.heap.size + 1, 2, none⟩ (.slice none 0 0)).setCell ⟨w4.heap.size + 1, 3, none⟩ (.slice none 0 0)).setCell ⟨w4.heap.size + 1, 4, none⟩ (.slice (some ⟨w4.heap.size, 0, none⟩) 1 1)).setCell ⟨w4.heap.size + 1, 5, none⟩ (.int .i64 0)).setCell ⟨w4.heap.size + 1, 6, none⟩ (.int .i64 (place : Int))) := by
 have l3 := (h.env.blk 1 rfl).lt
 have l4 := (h.env.blk 0 rfl).lt
 have hs := h.env.size
 have h1 := TsM.one (TrM.swap h.tr (X' := fun k => k = t3 ∨ k = t4 ∨ k = w4.heap.size + 1) fun k _ hk e => by omega) (by omega) (by omega)
 have E1 := (((h.env.alloc (.cells #[x0, x1, x2, x3, x4, x5, x6] 26)).boxk (w4.heap.size + 1) (by simp) 26 [.int .i64 0, .string ⟨#[]⟩, .slice none 0 0, .slice none 0 0, .slice none 0 0, .int .i64 0, .int .i64 0] (by decide)).drew).below hb
 exact AcS.fill E1 0 1 rfl rfl (by decide) (((h1.below (new_below _ _)).below (Below.refl _ _).drew).below hb) ⟨.inr (.inr rfl), .inr (.inl rfl)⟩ h.bd (fun k hk => by rw [slot_own hk]; omega) kind place nm
theorem kw3 (h : UnS w g A c T fin base t3 t4 s' n' [x0, x1, x2, x3, x4, x5, x6] w5) (hbw : base ≤ w.heap.size) (kind place : Nat) (nm : Lx.Txt) :
  AcS w g A c T fin base (w5.heap.size + 1) t4 kind place s' nm [n'] (.slice (some ⟨w5.heap.size, 0, none⟩) 1 1) ((w5.alloc (.cells #[x0, x1, x2, x3, x4, x5, x6] 26)).alloc (.cells #[.int .i64 (kind : Int), .string ⟨nm.toArray⟩, .slice none 0 0, .slice none 0 0, .slice (some ⟨w5.heap.size, 0, none⟩) 1 1, .int .i64 0, .int .i64 (place : Int)] 26)) := by
 have l3 := (h.env.blk 1 rfl).lt
 have l4 := (h.env.blk 0 rfl).lt
 have hs := h.env.size
 have h1 := TsM.one h.tr (by omega) (by omega)
 exact AcS.start (h.env.alloc _) 0 rfl (by simp) h1 (.inr rfl) h.bd (fun k hk => by rw [slot_own hk]; omega) kind place nm
theorem kw4 (h : UnS w g A c T fin base t3 t4 s' n' [x0, x1, x2, x3, x4, x5, x6] w5) (hbw : base ≤ w.heap.size) (kind place : Nat) (nm : Lx.Txt) :
  AcS w g A c T fin base w5.heap.size t4 kind place s' nm [n'] (.slice (some ⟨w5.heap.size + 1, 0, none⟩) 1 1) ((w5.alloc (.cells #[.int .i64 (kind : Int), .string ⟨nm.toArray⟩, .slice none 0 0, .slice none 0 0, .slice (some ⟨w5.heap.size + 1, 0, none⟩) 1 1, .int .i64 0, .int .i64 (place : Int)] 26)).alloc (.cells #[x0, x1, x2, x3, x4, x5, x6] 26)) := by
 have l3 := (h.env.blk 1 rfl).lt
 have l4 := (h.env.blk 0 rfl).lt
 have hs := h.env.size
 have h0 := TrM.below (TrM.swap h.tr (X' := fun k => k = w5.heap.size ∨ k = t4) fun k _ hk e => by omega) (new_below w5 (.cells #[.int .i64 (kind : Int), .string ⟨nm.toArray⟩, .slice none 0 0, .slice none 0 0, .slice (some ⟨w5.heap.size + 1, 0, none⟩) 1 1, .int .i64 0, .int .i64 (place : Int)] 26))
 have h1 := TsM.one h0 (by simp; omega) (by simp; omega)
 have e : (w5.alloc (.cells #[.int .i64 (kind : Int), .string ⟨nm.toArray⟩, .slice none 0 0, .slice none 0 0, .slice (some ⟨w5.heap.size + 1, 0, none⟩) 1 1, .int .i64 0, .int .i64 (place : Int)] 26)).heap.size = w5.heap.size + 1 := by simp
 rw [e] at h1
 exact ⟨((h.env.box 26 _ (by decide)).pick2 0 1 rfl rfl (by decide)).alloc _, h1, h.bd, fun k hk => by rw [slot_own hk]; omega⟩
theorem kw5 (h : UnS w g A c T fin base t3 t4 s' n' [x0, x1, x2, x3, x4, x5, x6] w4) (hbw : base ≤ w.heap.size) (hb : Below ((w4.alloc (.cells #[.int .i64 0, .string ⟨#[]⟩, .slice none 0 0, .slice none 0 0, .slice none 0 0, .int .i64 0, .int .i64 0] 26)).alloc (.cells #[x0, x1, x2, x3, x4, x5, x6] 26)).drew.heap.size ((w4.alloc (.cells #[.int .i64 0, .string ⟨#[]⟩, .slice none 0 0, .slice none 0 0, .slice none 0 0, .int .i64 0, .int .i64 0] 26)).alloc (.cells #[x0, x1, x2, x3, x4, x5, x6] 26)).drew w5) (kind place : Nat) (nm : Lx.Txt) :
  AcS w g A c T fin base w4.heap.size t4 kind place s' nm [n'] (.slice (some ⟨w4.heap.size + 1, 0, none⟩) 1 1) (((((((w5.setCell ⟨w4.heap.size, 0, none⟩ (.int .i64 (kind : Int))).setCell ⟨w4.heap.size, 1, none⟩ (.string ⟨nm.toArray⟩)).setCell ⟨w4.heap.size, 2, none⟩ (.slice none 0 0)).setCell ⟨w4.heap.size, 3, none⟩ (.slice none 0 0)).setCell ⟨w4.heap.size, 4, none⟩ (.slice (some ⟨w4.heap.size + 1, 0, none⟩) 1 1)).setCell ⟨w4.heap.size, 5, none⟩ (.int .i64 0)).setCell ⟨w4.heap.size, 6, none⟩ (.int .i64 (place : Int))) := by
 have l3 := (h.env.blk 1 rfl).lt
 have l4 := (h.env.blk 0 rfl).lt
 have hs := h.env.size
 have h0 := TrM.below (TrM.swap h.tr (X' := fun k => k = t3 ∨ k = t4 ∨ k = w4.heap.size) fun k _ hk e => by omega) (new_below w4 (.cells #[.int .i64 0, .string ⟨#[]⟩, .slice none 0 0, .slice none 0 0, .slice none 0 0, .int .i64 0, .int .i64 0] 26))
 have h1 := TsM.one h0 (by simp; omega) (by simp; omega)
 have e : (w4.alloc (.cells #[.int .i64 0, .string ⟨#[]⟩, .slice none 0 0, .slice none 0 0, .slice none 0 0, .int .i64 0, .int .i64 0] 26)).heap.size = w4.heap.size + 1 := by simp
 rw [e] at h1
 have E1 := (((h.env.boxk w4.heap.size rfl 26 [.int .i64 0, .string ⟨#[]⟩, .slice none 0 0, .slice none 0 0, .slice none 0 0, .int .i64 0, .int .i64 0] (by decide)).alloc (.cells #[x0, x1, x2, x3, x4, x5, x6] 26)).drew).below hb
 exact AcS.fill E1 0 1 rfl rfl (by decide) ((h1.below (Below.refl _ _).drew).below hb) ⟨.inr (.inr rfl), .inr (.inl rfl)⟩ h.bd (fun k hk => by rw [slot_own hk]; omega) kind place nm
theorem kw6 (h : UnS w g A c T fin base t3 t4 s' n' [x0, x1, x2, x3, x4, x5, x6] w4) (hbw : base ≤ w.heap.size) (hb : Below (w4.alloc (.cells #[.int .i64 0, .string ⟨#[]⟩, .slice none 0 0, .slice none 0 0, .slice none 0 0, .int .i64 0, .int .i64 0] 26)).drew.heap.size (w4.alloc (.cells #[.int .i64 0, .string ⟨#[]⟩, .slice none 0 0, .slice none 0 0, .slice none 0 0, .int .i64 0, .int .i64 0] 26)).drew w5) (kind place : Nat) (nm : Lx.Txt) :
  AcS w g A c T fin base w4.heap.size t4 kind place s' nm [n'] (.slice (some ⟨w5.heap.size, 0, none⟩) 1 1) ((((((((w5.setCell ⟨w4.heap.size, 0, none⟩ (.int .i64 (kind : Int))).setCell ⟨w4.heap.size, 1, none⟩ (.string ⟨nm.toArray⟩)).setCell ⟨w4.heap.size, 2, none⟩ (.slice none 0 0)).setCell ⟨w4.heap.size, 3, none⟩ (.slice none 0 0)).setCell ⟨w4.heap.size, 4, none⟩ (.slice (some ⟨w5.heap.size, 0, none⟩) 1 1)).setCell ⟨w4.heap.size, 5, none⟩ (.int .i64 0)).setCell ⟨w4.heap.size, 6, none⟩ (.int .i64 (place : Int))).alloc (.cells #[x0, x1, x2, x3, x4, x5, x6] 26)) := by
 have l3 := (h.env.blk 1 rfl).lt
 have l4 := (h.env.blk 0 rfl).lt
 have hs := h.env.size
 have h0 := TrM.below (TrM.swap h.tr (X' := fun k => k = t3 ∨ k = t4 ∨ k = w4.heap.size) fun k _ hk e => by omega) ((new_below w4 (.cells #[.int .i64 0, .string ⟨#[]⟩, .slice none 0 0, .slice none 0 0, .slice none 0 0, .int .i64 0, .int .i64 0] 26)).drew.trans (hb.mono (by simp)))
 have E1 := ((h.env.boxk w4.heap.size rfl 26 [.int .i64 0, .string ⟨#[]⟩, .slice none 0 0, .slice none 0 0, .slice none 0 0, .int .i64 0, .int .i64 0] (by decide)).drew).below hb
 have hl : w4.heap.size < w5.heap.size := (E1.blk 0 rfl).lt
 have h1 := TsM.one h0 (by omega) (by omega)
 rw [set7_alloc _ _ _ _ _ _ _ _ _ _ hl]
 exact AcS.fill (E1.alloc _) 0 1 rfl rfl (by decide) h1 ⟨.inr (.inr rfl), .inr (.inl rfl)⟩ h.bd (fun k hk => by rw [slot_own hk]; omega) kind place nm
end
theorem chg_set2 (w : World) (k i j : Nat) (y0 y1 : Value) : Chg (· = k) w ((w.setCell ⟨k, i, none⟩ y0).setCell ⟨k, j, none⟩ y1) := (chg_set w k i y0).setCell (p := ⟨k, j, none⟩) (fun _ => rfl) _
def wrE (s : Rs.RS) : Nat := match s.wrong with | none => 0 | some x => x.2
def wrP (s : Rs.RS) : Nat := match s.wrong with | none => 0 | some x => x.1
structure RA (w : World) (g : Nat) (A : Option Addr) (c : Nat) (T : List Lx.Tk) (s : Rs.RS) : Prop where
 ex : Blk w g 64 #[.slice A T.length c, .int .i64 (s.at_ : Int), .int .i64 s.depth, .int .i64 (wrE s : Int), .int .i64 (wrP s : Int)]
 nz : ∀ p e, s.wrong = some (p, e) → e ≠ 0
 tk : ReadsX w g 3 A T.length (tksC T)
section
variable {w w' : World} {g c : Nat} {A : Option Addr} {T : List Lx.Tk} {s : Rs.RS}
theorem RA.lt (h : RA w g A c T s) : g < w.heap.size := h.ex.lt
theorem RA.below (h : RA w g A c T s) (hb : Below w.heap.size w w') : RA w' g A c T s := ⟨h.ex.below hb h.lt, h.nz, h.tk.below (hb.mono (by have := h.lt; omega))⟩
theorem RA.alloc (h : RA w g A c T s) (o : Obj) : RA (w.alloc o) g A c T s := h.below ((Below.refl _ _).alloc (Nat.le_refl _) o)
theorem RA.drew (h : RA w g A c T s) : RA w.drew g A c T s := h.below (Below.refl _ _).drew
theorem RA.drewN (h : RA w g A c T s) (n : Nat) : RA (w.drewN n) g A c T s := h.below (below_drewN (Below.refl _ _) n)
theorem RA.cells (h : RA w g A c T s) : w.cell? ⟨g, 0, none⟩ = some (.slice A T.length c) ∧ w.cell? ⟨g, 1, none⟩ = some (.int .i64 (s.at_ : Int)) ∧ w.cell? ⟨g, 2, none⟩ = some (.int .i64 s.depth) ∧ w.cell? ⟨g, 3, none⟩ = some (.int .i64 (wrE s : Int)) ∧ w.cell? ⟨g, 4, none⟩ = some (.int .i64 (wrP s : Int)) :=
 ⟨h.ex.cell 0, h.ex.cell 1, h.ex.cell 2, h.ex.cell 3, h.ex.cell 4⟩
theorem RA.frz (h : RA w g A c T s) (i : Nat) : w.frozen? ⟨g, i, none⟩ = false := h.ex.frozen i
theorem RA.setAt (h : RA w g A c T s) (n : Nat) (z : Int) (hz : z = n) : RA (w.setCell ⟨g, 1, none⟩ (.int .i64 z)) g A c T { s with at_ := n } := by
 subst hz
 exact ⟨h.ex.set_ 1 _, h.nz, h.tk.keep fun p hp => World.cell?_setCell_other w _ p _ (fun e => by subst e; dsimp only at hp; omega)⟩
theorem RA.setDepth (h : RA w g A c T s) (d : Int) : RA (w.setCell ⟨g, 2, none⟩ (.int .i64 d)) g A c T { s with depth := d } :=
 ⟨h.ex.set_ 2 _, h.nz, h.tk.keep fun p hp => World.cell?_setCell_other w _ p _ (fun e => by subst e; dsimp only at hp; omega)⟩
theorem RA.setWrong (h : RA w g A c T s) (p e : Nat) (he : e ≠ 0) : RA ((w.setCell ⟨g, 3, none⟩ (.int .i64 (e : Int))).setCell ⟨g, 4, none⟩ (.int .i64 (p : Int))) g A c T { s with wrong := some (p, e) } :=
 ⟨(h.ex.set_ 3 _).set_ 4 _, fun p' e' h => by injection h with h; injection h with _ h; rw [← h]; exact he, (h.tk.keep fun p hp => World.cell?_setCell_other w _ p _ (fun e => by subst e; dsimp only at hp; omega)).keep fun p hp => World.cell?_setCell_other _ _ p _ (fun e => by subst e; dsimp only at hp; omega)⟩
theorem RA.bad (h : RA w g A c T s) : ((wrE s : Int) == 0) = !Rs.bad s ∧ ((wrE s : Int) != 0) = Rs.bad s := by
 unfold wrE Rs.bad
 cases hs : s.wrong with
 | none => exact ⟨rfl, rfl⟩
 | some x =>
  have := h.nz x.1 x.2 hs
  have e : ((x.2 : Int) == 0) = false := by simp; omega
  exact ⟨e, by show (!((x.2 : Int) == 0)) = true; rw [e]; rfl⟩
theorem RA.tok (h : RA w g A c T s) {i : Nat} (hi : i < T.length) : ∃ b off, A = some ⟨b, off, none⟩ ∧ b < g ∧ b < w.heap.size ∧
  w.cell? ⟨b, off + i * 3, none⟩ = some (.int .i64 ((T.getD i (0, [], 0)).1 : Int)) ∧ w.cell? ⟨b, off + i * 3 + 1, none⟩ = some (.string ⟨(T.getD i (0, [], 0)).2.1.toArray⟩) ∧ w.cell? ⟨b, off + i * 3 + 2, none⟩ = some (.int .i64 ((T.getD i (0, [], 0)).2.2 : Int)) := by
 have hg := h.lt
 obtain ⟨b, off, e, hb, hc⟩ := h.tk.2 (by omega)
 have ht : T[i]? = some (T.getD i (0, [], 0)) := by rw [List.getD_eq_getElem?_getD, List.getElem?_eq_getElem hi]; rfl
 generalize T.getD i (0, [], 0) = t at ht ⊢
 refine ⟨b, off, e, hb, by omega, ?_, ?_, ?_⟩
 ·exact hc (i * 3) _ (tks_at ht 0 (by omega))
 ·exact hc (i * 3 + 1) _ (tks_at ht 1 (by omega))
 ·exact hc (i * 3 + 2) _ (tks_at ht 2 (by omega))
theorem RA.grown (h : RA w g A c T s) {base size n : Nat} {e : TypeId} {v : Value} {xs : List Value} (ho : w.ownsRow base e size v n xs) (hgb : g < base) (hg : w.grownBy w' v.ownBlock) : RA w' g A c T s := by
 have hlt := h.lt
 have far : ∀ k, k ≤ g → some k ≠ v.ownBlock := fun k hk e => by have := (ho.lt k e.symm).1; omega
 exact ⟨h.ex.grown hg (far g (Nat.le_refl _)), h.nz, h.tk.keep fun p hp => cell_of_heap (hg.block _ (by omega) (far _ (by omega)))⟩
end
def RP (w : World) (g : Nat) (A : Option Addr) (c : Nat) (T : List Lx.Tk) (s : Rs.RS) (w' : World) : Prop := Chg (· = g) w w' ∧ RA w' g A c T s
structure Ev (w : World) (g : Nat) (A : Option Addr) (c : Nat) (T : List Lx.Tk) (s : Rs.RS) (L : List Lc) (W : World) : Prop where
 chg : Chg (· = g) w W
 pa : RA W g A c T s
 gl : g < w.heap.size
 loc : ∀ (i : Nat) (x : Lc), L[i]? = some x → w.heap.size ≤ x.k ∧ Blk W x.k x.t x.cs.toArray
 nd : ∀ (i j : Nat) (x y : Lc), L[i]? = some x → L[j]? = some y → i ≠ j → x.k ≠ y.k
namespace Ev
variable {w W W' : World} {g c : Nat} {A : Option Addr} {T : List Lx.Tk} {s s' : Rs.RS} {L : List Lc}
theorem start (h : RA w g A c T s) : Ev w g A c T s [] w := ⟨Chg.refl _ _, h, h.lt, fun _ _ h => by simp at h, fun _ _ _ _ h => by simp at h⟩
theorem size (h : Ev w g A c T s L W) : w.heap.size ≤ W.heap.size := h.chg.size
theorem pp (h : Ev w g A c T s L W) : RP w g A c T s W := ⟨h.chg, h.pa⟩
theorem keep (h : Ev w g A c T s L W) (hc : Chg (· = g) W W') (hp : RA W' g A c T s') : Ev w g A c T s' L W' :=
 ⟨h.chg.trans hc (fun _ _ e => e), hp, h.gl, fun i x hx => ⟨(h.loc i x hx).1, hc.blk (h.loc i x hx).2 (by have := (h.loc i x hx).1; have := h.gl; omega)⟩, h.nd⟩
theorem call (h : Ev w g A c T s L W) (hp : RP W g A c T s' W') : Ev w g A c T s' L W' := h.keep hp.1 hp.2
theorem below (h : Ev w g A c T s L W) (hb : Below W.heap.size W W') : Ev w g A c T s L W' := h.keep (Chg.of_below hb _) (h.pa.below hb)
theorem drew (h : Ev w g A c T s L W) : Ev w g A c T s L W.drew := h.below (Below.refl _ _).drew
theorem drewN (h : Ev w g A c T s L W) (n : Nat) : Ev w g A c T s L (W.drewN n) := h.below (below_drewN (Below.refl _ _) n)
theorem alloc (h : Ev w g A c T s L W) (o : Obj) : Ev w g A c T s L (W.alloc o) := h.below ((Below.refl _ _).alloc (Nat.le_refl _) o)
theorem box (h : Ev w g A c T s L W) (t : TypeId) (cs : List Value) : Ev w g A c T s (⟨W.heap.size, t, cs⟩ :: L) (W.alloc (.cells cs.toArray t)) := by
 have h' := h.alloc (.cells cs.toArray t)
 have hlt : ∀ (i : Nat) (x : Lc), L[i]? = some x → x.k < W.heap.size := fun i x hx => (h.loc i x hx).2.lt
 refine ⟨h'.chg, h'.pa, h'.gl, fun i x hx => ?_, fun i j x y hx hy hij => ?_⟩
 ·cases i with
  | zero =>
   simp only [List.getElem?_cons_zero, Option.some.injEq] at hx
   subst hx
   exact ⟨h.size, Blk.new W t _⟩
  | succ i => exact h'.loc i x (by simpa using hx)
 ·match i, j, hij with
  | 0, 0, hij => exact absurd rfl hij
  | 0, j + 1, _ =>
   simp only [List.getElem?_cons_zero, List.getElem?_cons_succ, Option.some.injEq] at hx hy
   subst hx
   have := hlt _ _ hy
   dsimp only
   omega
  | i + 1, 0, _ =>
   simp only [List.getElem?_cons_zero, List.getElem?_cons_succ, Option.some.injEq] at hx hy
   subst hy
   have := hlt _ _ hx
   dsimp only
   omega
  | i + 1, j + 1, hij =>
   simp only [List.getElem?_cons_succ] at hx hy
   exact h.nd i j x y hx hy (by omega)
theorem boxk (h : Ev w g A c T s L W) (k : Nat) (hk : W.heap.size = k) (t : TypeId) (cs : List Value) : Ev w g A c T s (⟨k, t, cs⟩ :: L) (W.alloc (.cells cs.toArray t)) := by
 subst hk
 exact h.box t cs
theorem upd (i : Nat) {k : Nat} {t : TypeId} {cs cs' : List Value} (h : Ev w g A c T s L W) (hi : L[i]? = some ⟨k, t, cs⟩) (hc : Chg (· = k) W W') (hb : Blk W' k t cs'.toArray) : Ev w g A c T s (L.set i ⟨k, t, cs'⟩) W' := by
 obtain ⟨h1, h3⟩ := h.loc i _ hi
 have hil := (List.getElem?_eq_some_iff.1 hi).1
 have hlk := h3.lt
 have hgl := h.gl
 dsimp only at h1 h3 hlk
 have hgk : g ≠ k := by omega
 have old : ∀ (j : Nat) (x : Lc), (L.set i ⟨k, t, cs'⟩)[j]? = some x → (j = i ∧ x = ⟨k, t, cs'⟩) ∨ (j ≠ i ∧ L[j]? = some x) := fun j x hx => by
  rw [List.getElem?_set] at hx
  by_cases e : i = j
  ·rw [if_pos e, if_pos hil] at hx
   exact .inl ⟨e.symm, (Option.some.inj hx).symm⟩
  ·rw [if_neg e] at hx
   exact .inr ⟨fun e2 => e e2.symm, hx⟩
 refine ⟨h.chg.trans hc (fun j hj e => by omega), ?_, hgl, fun j x hx => ?_, fun j q x y hx hy hjq => ?_⟩
 ·obtain ⟨p1, p2, p3⟩ := h.pa
  have hgW := p1.lt
  refine ⟨hc.blk p1 hgk, p2, ⟨p3.1, fun hn => ?_⟩⟩
  obtain ⟨b, off, e, hb', hcl⟩ := p3.2 hn
  exact ⟨b, off, e, hb', fun j u hu => (cell_of_heap (hc.block b (by omega) (by omega))).trans (hcl j u hu)⟩
 ·rcases old j x hx with ⟨_, rfl⟩ | ⟨hj, hx⟩
  ·exact ⟨h1, hb⟩
  ·exact ⟨(h.loc j x hx).1, hc.blk (h.loc j x hx).2 (h.nd j i x _ hx hi hj)⟩
 ·rcases old j x hx with ⟨e1, rfl⟩ | ⟨e1, hx⟩
  ·rcases old q y hy with ⟨e2, rfl⟩ | ⟨e2, hy⟩
   ·exact absurd (e1.trans e2.symm) hjq
   ·exact h.nd i q ⟨k, t, cs⟩ y hi hy (Ne.symm e2)
  ·rcases old q y hy with ⟨e2, rfl⟩ | ⟨e2, hy⟩
   ·exact h.nd j i x ⟨k, t, cs⟩ hx hi e1
   ·exact h.nd j q x y hx hy hjq
theorem row (h : Ev w g A c T s L W) {v : Value} (hc : Chg (fun k => k = g ∨ v.ownBlock = some k) W W') (hp : RA W' g A c T s') (hv : ∀ k, v.ownBlock = some k → w.heap.size ≤ k ∧ ∀ (i : Nat) (x : Lc), L[i]? = some x → x.k ≠ k) : Ev w g A c T s' L W' :=
 ⟨h.chg.trans hc (fun i hi e => by
  rcases e with e | e
  ·exact e
  ·have := (hv i e).1; omega), hp, h.gl, fun i x hx => ⟨(h.loc i x hx).1, hc.blk (h.loc i x hx).2 (fun e => by
  rcases e with e | e
  ·have := (h.loc i x hx).1; have := h.gl; omega
  ·exact (hv _ e).2 i x hx rfl)⟩, h.nd⟩
theorem setAt (h : Ev w g A c T s L W) (n : Nat) (z : Int) (hz : z = n) : Ev w g A c T { s with at_ := n } L (W.setCell ⟨g, 1, none⟩ (.int .i64 z)) := h.keep (chg_set _ _ _ _) (h.pa.setAt n z hz)
theorem setDepth (h : Ev w g A c T s L W) (d : Int) : Ev w g A c T { s with depth := d } L (W.setCell ⟨g, 2, none⟩ (.int .i64 d)) := h.keep (chg_set _ _ _ _) (h.pa.setDepth d)
theorem setWrong (h : Ev w g A c T s L W) (p e : Nat) (he : e ≠ 0) : Ev w g A c T { s with wrong := some (p, e) } L ((W.setCell ⟨g, 3, none⟩ (.int .i64 (e : Int))).setCell ⟨g, 4, none⟩ (.int .i64 (p : Int))) := h.keep (chg_set2 _ _ _ _ _ _) (h.pa.setWrong p e he)
theorem blk (h : Ev w g A c T s L W) (i : Nat) {k : Nat} {t : TypeId} {cs : List Value} (hi : L[i]? = some ⟨k, t, cs⟩) : Blk W k t cs.toArray := (h.loc i _ hi).2
theorem lo (h : Ev w g A c T s L W) (i : Nat) {k : Nat} {t : TypeId} {cs : List Value} (hi : L[i]? = some ⟨k, t, cs⟩) : w.heap.size ≤ k := (h.loc i _ hi).1
theorem c3 (h : Ev w g A c T s L W) (i : Nat) {k : Nat} {t : TypeId} {x y z : Value} (hi : L[i]? = some ⟨k, t, [x, y, z]⟩) : k < W.heap.size ∧ W.cell? ⟨k, 0, none⟩ = some x ∧ W.cell? ⟨k, 1, none⟩ = some y ∧ W.cell? ⟨k, 2, none⟩ = some z :=
 ⟨(h.blk i hi).lt, (h.blk i hi).cell 0, (h.blk i hi).cell 1, (h.blk i hi).cell 2⟩
theorem c7 (h : Ev w g A c T s L W) (i : Nat) {k : Nat} {t : TypeId} {x0 x1 x2 x3 x4 x5 x6 : Value} (hi : L[i]? = some ⟨k, t, [x0, x1, x2, x3, x4, x5, x6]⟩) :
  k < W.heap.size ∧ W.cell? ⟨k, 0, none⟩ = some x0 ∧ W.cell? ⟨k, 1, none⟩ = some x1 ∧ W.cell? ⟨k, 2, none⟩ = some x2 ∧ W.cell? ⟨k, 3, none⟩ = some x3 ∧ W.cell? ⟨k, 4, none⟩ = some x4 ∧ W.cell? ⟨k, 5, none⟩ = some x5 ∧ W.cell? ⟨k, 6, none⟩ = some x6 :=
 ⟨(h.blk i hi).lt, (h.blk i hi).cell 0, (h.blk i hi).cell 1, (h.blk i hi).cell 2, (h.blk i hi).cell 3, (h.blk i hi).cell 4, (h.blk i hi).cell 5, (h.blk i hi).cell 6⟩
theorem fz (h : Ev w g A c T s L W) (i : Nat) {k : Nat} {t : TypeId} {cs : List Value} (hi : L[i]? = some ⟨k, t, cs⟩) (j : Nat) : W.frozen? ⟨k, j, none⟩ = false := (h.blk i hi).frozen j
theorem box3 (h : Ev w g A c T s L W) (t : TypeId) (z0 z1 z2 y0 y1 y2 : Value) : Ev w g A c T s (⟨W.heap.size, t, [y0, y1, y2]⟩ :: L) ((((W.alloc (.cells #[z0, z1, z2] t)).setCell ⟨W.heap.size, 0, none⟩ y0).setCell ⟨W.heap.size, 1, none⟩ y1).setCell ⟨W.heap.size, 2, none⟩ y2) :=
 (h.box t [z0, z1, z2]).upd 0 rfl (chg_set3 _ _ _ _ _) ((Blk.new W t #[z0, z1, z2]).set3 y0 y1 y2)
theorem box7 (h : Ev w g A c T s L W) (t : TypeId) (z0 z1 z2 z3 z4 z5 z6 y0 y1 y2 y3 y4 y5 y6 : Value) : Ev w g A c T s (⟨W.heap.size, t, [y0, y1, y2, y3, y4, y5, y6]⟩ :: L) ((((((((W.alloc (.cells #[z0, z1, z2, z3, z4, z5, z6] t)).setCell ⟨W.heap.size, 0, none⟩ y0).setCell ⟨W.heap.size, 1, none⟩ y1).setCell ⟨W.heap.size, 2, none⟩ y2).setCell ⟨W.heap.size, 3, none⟩ y3).setCell ⟨W.heap.size, 4, none⟩ y4).setCell ⟨W.heap.size, 5, none⟩ y5).setCell ⟨W.heap.size, 6, none⟩ y6) :=
 (h.box t [z0, z1, z2, z3, z4, z5, z6]).upd 0 rfl (chg_set7 _ _ _ _ _ _ _ _ _) ((Blk.new W t #[z0, z1, z2, z3, z4, z5, z6]).set7 y0 y1 y2 y3 y4 y5 y6)
theorem put3 (h : Ev w g A c T s L W) (i : Nat) {k : Nat} {t : TypeId} {x0 x1 x2 : Value} (hi : L[i]? = some ⟨k, t, [x0, x1, x2]⟩) (y0 y1 y2 : Value) : Ev w g A c T s (L.set i ⟨k, t, [y0, y1, y2]⟩) (((W.setCell ⟨k, 0, none⟩ y0).setCell ⟨k, 1, none⟩ y1).setCell ⟨k, 2, none⟩ y2) :=
 h.upd i hi (chg_set3 _ _ _ _ _) ((h.blk i hi).set3 y0 y1 y2)
theorem put7 (h : Ev w g A c T s L W) (i : Nat) {k : Nat} {t : TypeId} {x0 x1 x2 x3 x4 x5 x6 : Value} (hi : L[i]? = some ⟨k, t, [x0, x1, x2, x3, x4, x5, x6]⟩) (y0 y1 y2 y3 y4 y5 y6 : Value) :
  Ev w g A c T s (L.set i ⟨k, t, [y0, y1, y2, y3, y4, y5, y6]⟩) (((((((W.setCell ⟨k, 0, none⟩ y0).setCell ⟨k, 1, none⟩ y1).setCell ⟨k, 2, none⟩ y2).setCell ⟨k, 3, none⟩ y3).setCell ⟨k, 4, none⟩ y4).setCell ⟨k, 5, none⟩ y5).setCell ⟨k, 6, none⟩ y6) :=
 h.upd i hi (chg_set7 _ _ _ _ _ _ _ _ _) ((h.blk i hi).set7 y0 y1 y2 y3 y4 y5 y6)
theorem put (h : Ev w g A c T s L W) (i : Nat) {k : Nat} {t : TypeId} {cs : List Value} (hi : L[i]? = some ⟨k, t, cs⟩) (j : Nat) (u : Value) : Ev w g A c T s (L.set i ⟨k, t, cs.set j u⟩) (W.setCell ⟨k, j, none⟩ u) :=
 h.upd i hi (chg_set _ _ _ _) (by have := (h.blk i hi).set_ j u; simpa using this)
end Ev
set_option maxRecDepth 20000 in
theorem rtok_any {w : World} {g c : Nat} {A : Option Addr} {T : List Lx.Tk} {s : Rs.RS} (h : RA w g A c T s) (hlt : s.at_ < T.length) :
  Calls Tryz.prog 37 #[.pointer (some ⟨g, 0, none⟩)] w fun e w' => e = .returned (.agg #[.int .i64 ((Rs.tok T s).1 : Int), .string ⟨(Rs.tok T s).2.1.toArray⟩, .int .i64 ((Rs.tok T s).2.2 : Int)]) ∧ Below w.heap.size w w' := by
 obtain ⟨k0, k1, k2, k3, k4⟩ := h.cells
 have hg := h.lt
 have n0 : w.heap.size ≠ g := by omega
 have HE : Hid (Rs.tok T s = T.getD s.at_ (0, [], 0)) := Hd rfl
 obtain ⟨b, off, rfl, hb, hbw, t0, t1, t2⟩ := h.tok hlt
 rw [HE.out]
 generalize T.getD s.at_ (0, [], 0) = t at *
 have n1 : w.heap.size ≠ b := by omega
 clear h
 go_enter Tryz.func37, Tryz.ntmps37
 go_wp2
 go_region_held3 (fun W => W.cell? ⟨g, 0, none⟩ = some (.slice (some ⟨b, off, none⟩) T.length c) ∧ W.cell? ⟨g, 1, none⟩ = some (.int .i64 (s.at_ : Int)) ∧ W.cell? ⟨b, off + s.at_ * 3, none⟩ = some (.int .i64 (t.1 : Int)) ∧ W.cell? ⟨b, off + s.at_ * 3 + 1, none⟩ = some (.string ⟨t.2.1.toArray⟩) ∧ W.cell? ⟨b, off + s.at_ * 3 + 2, none⟩ = some (.int .i64 (t.2.2 : Int)))
  (first | go_keep) ((first | fail))
 go_wp2
 exact bodyPost_ret (ret40 rfl _ _ rfl (Blk.new w 40 _).drew) rfl ⟨rfl, (new_below _ _).drew⟩
set_option maxRecDepth 20000 in
theorem rbad_any {w : World} {g c : Nat} {A : Option Addr} {T : List Lx.Tk} {s : Rs.RS} (h : RA w g A c T s) :
  Calls Tryz.prog 26 #[.pointer (some ⟨g, 0, none⟩)] w fun e w' => e = .returned (.bool (Rs.bad s)) ∧ w' = w := by
 obtain ⟨k0, k1, k2, k3, k4⟩ := h.cells
 have hg := h.lt
 have hb := h.bad.2
 generalize Rs.bad s = b at *
 generalize (wrE s : Int) = e at *
 clear h
 go_enter Tryz.func26, Tryz.ntmps26
 go_wp2
 go_ret
 exact ⟨ret_bool rfl, rfl⟩
set_option maxRecDepth 20000 in
theorem ris_any {w : World} {g c : Nat} {A : Option Addr} {T : List Lx.Tk} {s : Rs.RS} (h : RA w g A c T s) (hlt : s.at_ < T.length) (k : Nat) (x : Lx.Txt) :
  Calls Tryz.prog 38 #[.pointer (some ⟨g, 0, none⟩), .int .i64 (k : Int), .string ⟨x.toArray⟩] w fun e w' => e = .returned (.bool (Rs.is_ T k x s)) ∧ Below w.heap.size w w' := by
 have HT := Hd (rtok_any h hlt)
 have H := Hd h
 have HE : Hid (Rs.is_ T k x s = (!Rs.bad s && (Rs.tok T s).1 == k && (x.isEmpty || (Rs.tok T s).2.1 == x))) := Hd rfl
 generalize Rs.tok T s = t at *
 have HB := Hd fun (W : World) (h : RA W g A c T s) => rbad_any h
 have d1 := kd_eqb t.1 k
 clear h
 cases hb : Rs.bad s with
 | true =>
  rw [hb] at HE HB
  clear hb d1
  go_enter Tryz.func38, Tryz.ntmps38
  go_wp2_with (first
   | (go_at_call 37; refine HT.out.mono ?_; rintro e w1 ⟨rfl, hb⟩; have HB1 := Hd hb; clear hb)
   | (go_at_call 26; refine (HB.out _ ((H.out.below HB1.out).alloc _)).mono ?_; rintro e w2 ⟨rfl, rfl⟩))
  go_ret
  exact ⟨ret_bool (by rw [HE.out]; rfl), HB1.out.trans ((new_below _ _).mono HB1.out.size)⟩
 | false =>
  rw [hb] at HE HB
  clear hb
  cases hk : t.1 == k with
  | false =>
   rw [hk] at d1 HE
   clear hk
   go_enter Tryz.func38, Tryz.ntmps38
   go_wp2_with (first
    | (go_at_call 37; refine HT.out.mono ?_; rintro e w1 ⟨rfl, hb⟩; have HB1 := Hd hb; clear hb)
    | (go_at_call 26; refine (HB.out _ ((H.out.below HB1.out).alloc _)).mono ?_; rintro e w2 ⟨rfl, rfl⟩))
   go_ret
   exact ⟨ret_bool (by rw [HE.out]; rfl), HB1.out.trans ((new_below _ _).mono HB1.out.size)⟩
  | true =>
   rw [hk] at d1 HE
   clear hk
   cases x with
   | nil =>
    go_enter Tryz.func38, Tryz.ntmps38
    go_wp2_with (first
     | (go_at_call 37; refine HT.out.mono ?_; rintro e w1 ⟨rfl, hb⟩; have HB1 := Hd hb; clear hb)
     | (go_at_call 26; refine (HB.out _ ((H.out.below HB1.out).alloc _)).mono ?_; rintro e w2 ⟨rfl, rfl⟩))
    go_ret
    exact ⟨ret_bool (by rw [HE.out]; rfl), HB1.out.trans ((new_below _ _).mono HB1.out.size)⟩
   | cons x0 x1 =>
    have d2 := str_eqb t.2.1 (x0 :: x1)
    cases hx : t.2.1 == x0 :: x1 with
    | true =>
     rw [hx] at HE d2
     go_enter Tryz.func38, Tryz.ntmps38
     go_wp2_with (first
      | (go_at_call 37; refine HT.out.mono ?_; rintro e w1 ⟨rfl, hb⟩; have HB1 := Hd hb; clear hb)
      | (go_at_call 26; refine (HB.out _ ((H.out.below HB1.out).alloc _)).mono ?_; rintro e w2 ⟨rfl, rfl⟩))
     go_ret
     exact ⟨ret_bool (by rw [HE.out]; rfl), HB1.out.trans ((new_below _ _).mono HB1.out.size)⟩
    | false =>
     rw [hx] at HE d2
     go_enter Tryz.func38, Tryz.ntmps38
     go_wp2_with (first
      | (go_at_call 37; refine HT.out.mono ?_; rintro e w1 ⟨rfl, hb⟩; have HB1 := Hd hb; clear hb)
      | (go_at_call 26; refine (HB.out _ ((H.out.below HB1.out).alloc _)).mono ?_; rintro e w2 ⟨rfl, rfl⟩))
     go_ret
     exact ⟨ret_bool (by rw [HE.out]; rfl), HB1.out.trans ((new_below _ _).mono HB1.out.size)⟩
set_option maxRecDepth 20000 in
theorem rfail_any {w : World} {g c : Nat} {A : Option Addr} {T : List Lx.Tk} {s : Rs.RS} (h : RA w g A c T s) (e p : Nat) (he : e ≠ 0) :
  Calls Tryz.prog 42 #[.pointer (some ⟨g, 0, none⟩), .int .i64 (e : Int), .int .i64 (p : Int)] w fun e' w' => e' = .returned (.tuple #[]) ∧ RP w g A c T (Rs.fail s e p) w' := by
 have E0 := Ev.start h
 obtain ⟨k0, k1, k2, k3, k4⟩ := h.cells
 have kf := h.frz 3
 have kf4 := h.frz 4
 have hg := h.lt
 have hb := h.bad.1
 clear h
 cases hk : Rs.bad s with
 | true =>
  have HE := Hd (Rs.fail_bad hk e p)
  rw [hk] at hb
  have d : ((wrE s : Int) == 0) = false := hb
  generalize (wrE s : Int) = q at *
  clear hb hk
  go_enter Tryz.func42, Tryz.ntmps42
  go_wp2
  go_end0
  exact ⟨rfl, by rw [HE.out]; exact E0.pp⟩
 | false =>
  have HE := Hd (Rs.fail_ok hk e p)
  rw [hk] at hb
  have d : ((wrE s : Int) == 0) = true := hb
  generalize (wrE s : Int) = q at *
  clear hb hk
  go_enter Tryz.func42, Tryz.ntmps42
  go_wp2
  go_end0
  exact ⟨rfl, by rw [HE.out]; exact (E0.setWrong p e he).pp⟩
theorem ris_z {w : World} {g c : Nat} {A : Option Addr} {T : List Lx.Tk} {s : Rs.RS} (h : RA w g A c T s) (hlt : s.at_ < T.length) (k : Nat) (x : Lx.Txt) {z : Int} (hz : z = (k : Int)) {xs : Array UInt8} (hx : xs = x.toArray) :
  Calls Tryz.prog 38 #[.pointer (some ⟨g, 0, none⟩), .int .i64 z, .string ⟨xs⟩] w fun e w' => e = .returned (.bool (Rs.is_ T k x s)) ∧ Below w.heap.size w w' := by
 subst hz hx
 exact ris_any h hlt k x
set_option maxRecDepth 20000 in
theorem rbin_any {w : World} {g c : Nat} {A : Option Addr} {T : List Lx.Tk} {s : Rs.RS} (h : RA w g A c T s) (hlt : s.at_ < T.length) :
  Calls Tryz.prog 39 #[.pointer (some ⟨g, 0, none⟩)] w fun e w' => e = .returned (.bool (Rs.bin T s)) ∧ Below w.heap.size w w' := by
 have H := Hd h
 have H3 := Hd (ris_z h hlt 3 [] (z := 3) rfl (xs := #[]) rfl)
 have H7 := Hd fun (W : World) (h : RA W g A c T s) => ris_z h hlt 7 [124] (z := 7) rfl (xs := #[124]) rfl
 have HE : Hid (Rs.bin T s = (Rs.is_ T 3 [] s || Rs.is_ T 7 [124] s)) := Hd rfl
 clear h
 cases h3 : Rs.is_ T 3 [] s with
 | true =>
  rw [h3] at H3 HE
  clear h3
  go_enter Tryz.func39, Tryz.ntmps39
  go_wp2_with (go_at_call 38; with_reducible refine H3.out.mono ?_; rintro e w1 ⟨rfl, hb⟩; have HB1 := Hd hb; clear hb)
  go_ret
  exact ⟨ret_bool (by rw [HE.out]; rfl), HB1.out⟩
 | false =>
  rw [h3] at H3 HE
  clear h3
  go_enter Tryz.func39, Tryz.ntmps39
  go_wp2_with (first
   | (go_at_call 38; with_reducible refine H3.out.mono ?_; rintro e w1 ⟨rfl, hb⟩; have HB1 := Hd hb; clear hb)
   | (go_at_call 38; with_reducible refine (H7.out _ (H.out.below HB1.out)).mono ?_; rintro e w2 ⟨rfl, hb⟩; have HB2 := Hd hb; clear hb))
  go_ret
  exact ⟨ret_bool (by rw [HE.out]; rfl), HB1.out.trans (HB2.out.mono HB1.out.size)⟩
set_option maxRecDepth 20000 in
theorem rtake_any {w : World} {g c : Nat} {A : Option Addr} {T : List Lx.Tk} {s : Rs.RS} (h : RA w g A c T s) (hlt : s.at_ < T.length) (hs : s.at_ ≤ 100000) (k : Nat) (x : Lx.Txt) :
  Calls Tryz.prog 41 #[.pointer (some ⟨g, 0, none⟩), .int .i64 (k : Int), .string ⟨x.toArray⟩] w fun e' w' => e' = .returned (.agg #[.int .i64 (((Rs.take T k x s).1).1 : Int), .string ⟨((Rs.take T k x s).1).2.1.toArray⟩, .int .i64 (((Rs.take T k x s).1).2.2 : Int)]) ∧ RP w g A c T (Rs.take T k x s).2 w' := by
 have E0 := (Ev.start h).box 40 [.int .i64 0, .string ⟨#[]⟩, .int .i64 0]
 have HN := Hd (rtok_any E0.pa hlt)
 obtain ⟨t, ht⟩ : ∃ t, Rs.tok T s = t := ⟨_, rfl⟩
 have HW : Hid (Rs.take T k x s = if Rs.is_ T k x s then (t, Rs.adv s) else ((0, [], 0), Rs.fail s 124 t.2.2)) := Hd (by unfold Rs.take; rw [ht])
 rw [ht] at HN
 have HI := Hd fun (W : World) (h : RA W g A c T s) => ris_any h hlt k x
 clear h ht
 go_enter Tryz.func41, Tryz.ntmps41
 go_upto_region 2 with (go_at_call 37; refine HN.out.mono ?_; rintro e w1 ⟨rfl, hb1⟩; have E1 := E0.below hb1; clear hb1)
 refine wp_world (Ev w g A c T s _) (E1.box 40 [_, _, _]) fun w2 E2 => ?_
 clear E0 E1 HN
 cases hi : Rs.is_ T k x s with
 | true =>
  have HE : Hid (Rs.take T k x s = (t, Rs.adv s)) := Hd (by rw [HW.out, hi]; rfl)
  rw [hi] at HI
  clear hi HW
  go_upto_region 5 with (go_at_call 38; refine (HI.out _ E2.pa).mono ?_; rintro e w3 ⟨rfl, hb⟩; have E3 := E2.below hb; clear hb)
  clear E2 HI
  obtain ⟨k0, k1, k2, k3, k4⟩ := E3.pa.cells
  have kf := E3.pa.frz 1
  have hg := E3.pa.lt
  go_upto_region 6 with fail
  refine wp_world (Ev w g A c T (Rs.adv s) _) (E3.setAt (s.at_ + 1) _ (by first | rfl | omega)) fun w4 E4 => ?_
  clear k0 k1 k2 k3 k4 kf hg E3
  obtain ⟨a, a0, a1, a2⟩ := E4.c3 0 rfl
  obtain ⟨b, b0, b1, b2⟩ := E4.c3 1 rfl
  have f1 := E4.fz 1 rfl
  go_wp2
  have E5 := E4.put3 1 rfl (.int .i64 (t.1 : Int)) (.string ⟨t.2.1.toArray⟩) (.int .i64 (t.2.2 : Int))
  refine bodyPost_ret (ret40 rfl _ _ rfl (E5.blk 1 rfl)) rfl ?_
  rw [HE.out]
  exact ⟨rfl, E5.pp⟩
 | false =>
  have HE : Hid (Rs.take T k x s = ((0, [], 0), Rs.fail s 124 t.2.2)) := Hd (by rw [HW.out, hi]; rfl)
  rw [hi] at HI
  clear hi HW
  go_upto_region 4 with (first
   | (go_at_call 38; refine (HI.out _ E2.pa).mono ?_; rintro e w3 ⟨rfl, hb⟩; have E3 := E2.below hb; obtain ⟨a, a0, a1, a2⟩ := E3.c3 0 rfl; clear hb)
   | (go_at_call 42; refine (rfail_any E3.pa 124 t.2.2 (by decide)).mono ?_; rintro e w4 ⟨rfl, hp⟩; have E4 := E3.call hp; clear hp))
  clear E2 E3 HI a a0 a1 a2
  obtain ⟨b, b0, b1, b2⟩ := E4.c3 1 rfl
  have f1 := E4.fz 1 rfl
  go_wp2
  have E5 := E4.put3 1 rfl (.int .i64 0) (.string ⟨#[]⟩) (.int .i64 0)
  refine bodyPost_ret (ret40 rfl _ _ rfl (E5.blk 1 rfl)) rfl ?_
  rw [HE.out]
  exact ⟨rfl, E5.pp⟩
set_option maxRecDepth 20000 in
theorem ropen_any {w : World} {g c : Nat} {A : Option Addr} {T : List Lx.Tk} {s : Rs.RS} (h : RA w g A c T s) (hlt : s.at_ < T.length) (hs : s.at_ ≤ 100000) (hd : -1 ≤ s.depth ∧ s.depth ≤ 100) :
  Calls Tryz.prog 101 #[.pointer (some ⟨g, 0, none⟩)] w fun e' w' => e' = .returned (.tuple #[]) ∧ RP w g A c T (Rs.opn T s) w' := by
 obtain ⟨hd1, hd2⟩ := hd
 have E0 := Ev.start h
 have HN := Hd (rtok_any h hlt)
 obtain ⟨t, ht⟩ : ∃ t, Rs.tok T s = t := ⟨_, rfl⟩
 have HW : Hid (Rs.opn T s = if s.depth = 100 then Rs.fail s 125 t.2.2 else Rs.adv { s with depth := s.depth + 1 }) := Hd (by unfold Rs.opn; rw [ht])
 rw [ht] at HN
 obtain ⟨k0, k1, k2, k3, k4⟩ := h.cells
 have kf2 := h.frz 2
 have hg := h.lt
 have hf2 := fld2 (.int .i64 (t.1 : Int)) (.string ⟨t.2.1.toArray⟩) (.int .i64 (t.2.2 : Int))
 clear h ht
 by_cases h1 : s.depth = 100
 ·have HE : Hid (Rs.opn T s = Rs.fail s 125 t.2.2) := Hd (by rw [HW.out, if_pos h1])
  have d1 : (s.depth == 100) = true := by simp [h1]
  clear h1 HW
  go_enter Tryz.func101, Tryz.ntmps101
  go_wp2_with (first
   | (go_at_call 37; refine HN.out.mono ?_; rintro e w1 ⟨rfl, hb1⟩; have E1 := E0.below hb1; clear hb1)
   | (go_at_call 42; refine (rfail_any E1.pa 125 t.2.2 (by decide)).mono ?_; rintro e w2 ⟨rfl, hp⟩; have E2 := E1.call hp; clear hp))
  refine bodyPost_ret (results_none rfl _ _ _) rfl ?_
  exact ⟨rfl, by rw [HE.out]; exact E2.pp⟩
 ·have HE : Hid (Rs.opn T s = Rs.adv { s with depth := s.depth + 1 }) := Hd (by rw [HW.out, if_neg h1])
  have d1 : (s.depth == 100) = false := by simpa using h1
  clear h1 HW HN
  go_enter Tryz.func101, Tryz.ntmps101
  go_upto_region 3 with fail
  refine wp_world (Ev w g A c T { s with depth := s.depth + 1 } _) (E0.setDepth (s.depth + 1)) fun w4 E4 => ?_
  clear k0 k1 k2 k3 k4 kf2 hg E0
  obtain ⟨k0, k1, k2, k3, k4⟩ := E4.pa.cells
  have kf := E4.pa.frz 1
  have hg := E4.pa.lt
  dsimp only at k1
  go_wp2
  go_end0
  exact ⟨rfl, by rw [HE.out]; exact (E4.setAt (s.at_ + 1) _ (by first | rfl | omega)).pp⟩
set_option maxRecDepth 20000 in
theorem rshut_any {w : World} {g c : Nat} {A : Option Addr} {T : List Lx.Tk} {s : Rs.RS} (h : RA w g A c T s) (hlt : s.at_ < T.length) (hs : s.at_ ≤ 100000) (hd : -1 ≤ s.depth ∧ s.depth ≤ 100) (x : Lx.Txt) :
  Calls Tryz.prog 102 #[.pointer (some ⟨g, 0, none⟩), .string ⟨x.toArray⟩] w fun e' w' => e' = .returned (.tuple #[]) ∧ RP w g A c T (Rs.shut T x s) w' := by
 have E0 := Ev.start h
 have HN := Hd (rtake_any h hlt hs 7 x)
 have hdp : (Rs.take T 7 x s).2.depth = s.depth := Rs.take_dep
 have HE : Hid (Rs.shut T x s = { (Rs.take T 7 x s).2 with depth := (Rs.take T 7 x s).2.depth - 1 }) := Hd rfl
 obtain ⟨r, hr⟩ : ∃ r, Rs.take T 7 x s = r := ⟨_, rfl⟩
 rw [hr] at HN HE hdp
 rw [← hdp] at hd
 obtain ⟨hd1, hd2⟩ := hd
 clear h hr hdp
 obtain ⟨t, s1⟩ := r
 dsimp only at HN HE hd1 hd2
 go_enter Tryz.func102, Tryz.ntmps102
 go_upto_region 1 with (go_at_call 41; refine HN.out.mono ?_; rintro e w1 ⟨rfl, hp⟩; have E1 := E0.call hp; clear hp)
 clear E0 HN
 obtain ⟨k0, k1, k2, k3, k4⟩ := E1.pa.cells
 have kf := E1.pa.frz 2
 have hg := E1.pa.lt
 go_wp2
 go_end0
 exact ⟨rfl, by rw [HE.out]; exact (E1.setDepth (s1.depth - 1)).pp⟩
set_option maxRecDepth 20000 in
theorem rshuts_any {w : World} {g c : Nat} {A : Option Addr} {T : List Lx.Tk} {s : Rs.RS} (h : RA w g A c T s) (hlt : s.at_ < T.length) (x : Lx.Txt) :
  Calls Tryz.prog 43 #[.pointer (some ⟨g, 0, none⟩), .string ⟨x.toArray⟩] w fun e' w' => e' = .returned (.bool (Rs.shuts T x s)) ∧ Below w.heap.size w w' := by
 cases x with
 | nil =>
  have HI := Hd (ris_any h hlt 0 [])
  have HE : Hid (Rs.shuts T [] s = Rs.is_ T 0 [] s) := Hd rfl
  clear h
  go_enter Tryz.func43, Tryz.ntmps43
  go_wp2_with (go_at_call 38; refine HI.out.mono ?_; rintro e w1 ⟨rfl, hb⟩; have HB := Hd hb; clear hb)
  go_ret
  exact ⟨ret_bool (by rw [HE.out]), HB.out⟩
 | cons x0 x1 =>
  have HI := Hd (ris_any h hlt 7 (x0 :: x1))
  have HE : Hid (Rs.shuts T (x0 :: x1) s = Rs.is_ T 7 (x0 :: x1) s) := Hd rfl
  clear h
  go_enter Tryz.func43, Tryz.ntmps43
  go_wp2_with (go_at_call 38; refine HI.out.mono ?_; rintro e w1 ⟨rfl, hb⟩; have HB := Hd hb; clear hb)
  go_ret
  exact ⟨ret_bool (by rw [HE.out]), HB.out⟩
set_option maxRecDepth 20000 in
theorem rresv_any (x : Lx.Txt) (w : World) : Calls Tryz.prog 64 #[.string ⟨x.toArray⟩] w fun e w' => e = .returned (.bool (Ps.resv x)) ∧ w' = w := by
 have HE : Hid (Ps.resv x = (x == [115, 101, 108, 102] || x == [115, 117, 112, 101, 114] || x == [110, 105, 108] || x == [116, 114, 117, 101] || x == [102, 97, 108, 115, 101] || x == [116, 104, 105, 115, 67, 111, 110, 116, 101, 120, 116])) := Hd (by unfold Ps.resv; simp only [List.contains_cons, List.contains_nil, Bool.or_false, Bool.or_assoc])
 generalize Ps.resv x = R at *
 cases h0 : x == [115, 101, 108, 102] with
 | true =>
  have HR : Hid (R = true) := Hd (by rw [HE.out]; simp only [h0, Bool.true_or])
  clear HE
  go_enter Tryz.func64, Tryz.ntmps64
  go_wp2
  go_ret
  exact ⟨ret_bool (by rw [HR.out]), rfl⟩
 | false =>
  cases h1 : x == [115, 117, 112, 101, 114] with
  | true =>
   have HR : Hid (R = true) := Hd (by rw [HE.out]; simp only [h0, h1, Bool.true_or, Bool.or_true])
   clear HE
   go_enter Tryz.func64, Tryz.ntmps64
   go_wp2
   go_ret
   exact ⟨ret_bool (by rw [HR.out]), rfl⟩
  | false =>
   cases h2 : x == [110, 105, 108] with
   | true =>
    have HR : Hid (R = true) := Hd (by rw [HE.out]; simp only [h0, h1, h2, Bool.true_or, Bool.false_or, Bool.or_true])
    clear HE
    go_enter Tryz.func64, Tryz.ntmps64
    go_wp2
    go_ret
    exact ⟨ret_bool (by rw [HR.out]), rfl⟩
   | false =>
    cases h3 : x == [116, 114, 117, 101] with
    | true =>
     have HR : Hid (R = true) := Hd (by rw [HE.out]; simp only [h0, h1, h2, h3, Bool.true_or, Bool.false_or, Bool.or_true])
     clear HE
     go_enter Tryz.func64, Tryz.ntmps64
     go_wp2
     go_ret
     exact ⟨ret_bool (by rw [HR.out]), rfl⟩
    | false =>
     cases h4 : x == [102, 97, 108, 115, 101] with
     | true =>
      have HR : Hid (R = true) := Hd (by rw [HE.out]; simp only [h0, h1, h2, h3, h4, Bool.true_or, Bool.false_or, Bool.or_true])
      clear HE
      go_enter Tryz.func64, Tryz.ntmps64
      go_wp2
      go_ret
      exact ⟨ret_bool (by rw [HR.out]), rfl⟩
     | false =>
      cases h5 : x == [116, 104, 105, 115, 67, 111, 110, 116, 101, 120, 116] with
      | true =>
       have HR : Hid (R = true) := Hd (by rw [HE.out]; simp only [h0, h1, h2, h3, h4, h5, Bool.false_or, Bool.or_true])
       clear HE
       go_enter Tryz.func64, Tryz.ntmps64
       go_wp2
       go_ret
       exact ⟨ret_bool (by rw [HR.out]), rfl⟩
      | false =>
       have HR : Hid (R = false) := Hd (by rw [HE.out]; simp only [h0, h1, h2, h3, h4, h5, Bool.or_self])
       clear HE
       go_enter Tryz.func64, Tryz.ntmps64
       go_wp2
       go_ret
       exact ⟨ret_bool (by rw [HR.out]), rfl⟩
end Go.Proofs.YtbnlnndeajjenaaGreat
