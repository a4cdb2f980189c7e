/-
  Parts RxG, RxH of the proof. No statement of the seat is proved here.
-/
import Derived.Test.YtbnlnndeajjenaaGreatP17
set_option maxHeartbeats 4000000
namespace Go.Proofs.YtbnlnndeajjenaaGreat
open Go.RowKit
section
variable {w w4 w5 wr : World} {g c fin base ts t2 t3 t4 : Nat} {A : Option Addr} {T : List Lx.Tk} {s' : Rs.RS} {l : List Ps.Tr} {v : Value} {n' : Ps.Tr} {x0 x1 x2 x3 x4 x5 x6 : Value}
theorem RAc.fill {L : List Lc} {X : Nat → Prop} (h : Ev w g A c (Rs.toks T fin) s' L wr) (i j : Nat) (hi : L[i]? = some ⟨ts, 26, [.int .i64 0, .string ⟨#[]⟩, .slice none 0 0, .slice none 0 0, .slice none 0 0, .int .i64 0, .int .i64 0]⟩) (hj : L[j]? = some ⟨t2, 26, [.int .i64 0, .string ⟨#[]⟩, .slice none 0 0, .slice none 0 0, .slice none 0 0, .int .i64 0, .int .i64 0]⟩) (hij : i ≠ j) (hr : TsM wr base X v l) (hX : X ts ∧ X t2) (hb : Rs.Bd T s') (hv : ∀ k, v.ownBlock = some k → w.heap.size ≤ k) (kind place : Nat) (nm : Lx.Txt) :
  RAc w g A c T fin base ts t2 kind place s' nm l v (((((((wr.setCell ⟨ts, 0, none⟩ (.int .i64 (kind : Int))).setCell ⟨ts, 1, none⟩ (.string ⟨nm.toArray⟩)).setCell ⟨ts, 2, none⟩ (.slice none 0 0)).setCell ⟨ts, 3, none⟩ (.slice none 0 0)).setCell ⟨ts, 4, none⟩ v).setCell ⟨ts, 5, none⟩ (.int .i64 0)).setCell ⟨ts, 6, none⟩ (.int .i64 (place : Int))) := by
 have E1 := (h.pick2 i j hi hj hij).put7 0 rfl (.int .i64 (kind : Int)) (.string ⟨nm.toArray⟩) (.slice none 0 0) (.slice none 0 0) v (.int .i64 0) (.int .i64 (place : Int))
 refine ⟨E1, TsM.store (hr.swap fun k _ _ e => ?_) (chg_set7 _ _ _ _ _ _ _ _ _) fun _ e => .inl e, hb, hv⟩
 rcases e with e | e
 ·rw [e]; exact hX.1
 ·rw [e]; exact hX.2
theorem rkw1 (h : RUn w g A c T fin base t3 t4 s' n' [x0, x1, x2, x3, x4, x5, x6] w4) (hbw : base ≤ w.heap.size) (hb : Below (w4.alloc (.cells #[x0, x1, x2, x3, x4, x5, x6] 26)).drew.heap.size (w4.alloc (.cells #[x0, x1, x2, x3, x4, x5, x6] 26)).drew w5) (kind place : Nat) (nm : Lx.Txt) :
  RAc w g A c T fin base w5.heap.size t4 kind place s' nm [n'] (.slice (some ⟨w4.heap.size, 0, none⟩) 1 1) (w5.alloc (.cells #[.int .i64 (kind : Int), .string ⟨nm.toArray⟩, .slice none 0 0, .slice none 0 0, .slice (some ⟨w4.heap.size, 0, none⟩) 1 1, .int .i64 0, .int .i64 (place : Int)] 26)) := by
 have l3 := (h.env.blk 1 rfl).lt
 have l4 := (h.env.blk 0 rfl).lt
 have hs := h.env.size
 have h1 := TsM.one h.tr (by omega) (by omega)
 exact RAc.start (h.env.below ((new_below _ _).drew.trans (hb.mono (by simp)))) 0 rfl rfl ((h1.below (Below.refl _ _).drew).below hb) (.inr rfl) h.bd (fun k hk => by rw [slot_own hk]; omega) kind place nm
theorem rkw2 (h : RUn w g A c T fin base t3 t4 s' n' [x0, x1, x2, x3, x4, x5, x6] w4) (hbw : base ≤ w.heap.size) (hb : Below ((w4.alloc (.cells #[x0, x1, x2, x3, x4, x5, x6] 26)).alloc (.cells #[.int .i64 0, .string ⟨#[]⟩, .slice none 0 0, .slice none 0 0, .slice none 0 0, .int .i64 0, .int .i64 0] 26)).drew.heap.size ((w4.alloc (.cells #[x0, x1, x2, x3, x4, x5, x6] 26)).alloc (.cells #[.int .i64 0, .string ⟨#[]⟩, .slice none 0 0, .slice none 0 0, .slice none 0 0, .int .i64 0, .int .i64 0] 26)).drew w5) (kind place : Nat) (nm : Lx.Txt) :
  RAc w g A c T fin base (w4.heap.size + 1) t4 kind place s' nm [n'] (.slice (some ⟨w4.heap.size, 0, none⟩) 1 1) (((((((w5.setCell ⟨w4.heap.size + 1, 0, none⟩ (.int .i64 (kind : Int))).setCell ⟨w4.heap.size + 1, 1, none⟩ (.string ⟨nm.toArray⟩)).setCell ⟨w4.heap.size + 1, 2, none⟩ (.slice none 0 0)).setCell ⟨w4.heap.size + 1, 3, none⟩ (.slice none 0 0)).setCell ⟨w4.heap.size + 1, 4, none⟩ (.slice (some ⟨w4.heap.size, 0, none⟩) 1 1)).setCell ⟨w4.heap.size + 1, 5, none⟩ (.int .i64 0)).setCell ⟨w4.heap.size + 1, 6, none⟩ (.int .i64 (place : Int))) := by
 have l3 := (h.env.blk 1 rfl).lt
 have l4 := (h.env.blk 0 rfl).lt
 have hs := h.env.size
 have h1 := TsM.one (TrM.swap h.tr (X' := fun k => k = t3 ∨ k = t4 ∨ k = w4.heap.size + 1) fun k _ hk e => by omega) (by omega) (by omega)
 have E1 := (((h.env.alloc (.cells #[x0, x1, x2, x3, x4, x5, x6] 26)).boxk (w4.heap.size + 1) (by simp) 26 [.int .i64 0, .string ⟨#[]⟩, .slice none 0 0, .slice none 0 0, .slice none 0 0, .int .i64 0, .int .i64 0]).drew).below hb
 exact RAc.fill E1 0 1 rfl rfl (by decide) (((h1.below (new_below _ _)).below (Below.refl _ _).drew).below hb) ⟨.inr (.inr rfl), .inr (.inl rfl)⟩ h.bd (fun k hk => by rw [slot_own hk]; omega) kind place nm
theorem rkw3 (h : RUn w g A c T fin base t3 t4 s' n' [x0, x1, x2, x3, x4, x5, x6] w5) (hbw : base ≤ w.heap.size) (kind place : Nat) (nm : Lx.Txt) :
  RAc w g A c T fin base (w5.heap.size + 1) t4 kind place s' nm [n'] (.slice (some ⟨w5.heap.size, 0, none⟩) 1 1) ((w5.alloc (.cells #[x0, x1, x2, x3, x4, x5, x6] 26)).alloc (.cells #[.int .i64 (kind : Int), .string ⟨nm.toArray⟩, .slice none 0 0, .slice none 0 0, .slice (some ⟨w5.heap.size, 0, none⟩) 1 1, .int .i64 0, .int .i64 (place : Int)] 26)) := by
 have l3 := (h.env.blk 1 rfl).lt
 have l4 := (h.env.blk 0 rfl).lt
 have hs := h.env.size
 have h1 := TsM.one h.tr (by omega) (by omega)
 exact RAc.start (h.env.alloc _) 0 rfl (by simp) h1 (.inr rfl) h.bd (fun k hk => by rw [slot_own hk]; omega) kind place nm
theorem rkw4 (h : RUn w g A c T fin base t3 t4 s' n' [x0, x1, x2, x3, x4, x5, x6] w5) (hbw : base ≤ w.heap.size) (kind place : Nat) (nm : Lx.Txt) :
  RAc w g A c T fin base w5.heap.size t4 kind place s' nm [n'] (.slice (some ⟨w5.heap.size + 1, 0, none⟩) 1 1) ((w5.alloc (.cells #[.int .i64 (kind : Int), .string ⟨nm.toArray⟩, .slice none 0 0, .slice none 0 0, .slice (some ⟨w5.heap.size + 1, 0, none⟩) 1 1, .int .i64 0, .int .i64 (place : Int)] 26)).alloc (.cells #[x0, x1, x2, x3, x4, x5, x6] 26)) := by
 have l3 := (h.env.blk 1 rfl).lt
 have l4 := (h.env.blk 0 rfl).lt
 have hs := h.env.size
 have h0 := TrM.below (TrM.swap h.tr (X' := fun k => k = w5.heap.size ∨ k = t4) fun k _ hk e => by omega) (new_below w5 (.cells #[.int .i64 (kind : Int), .string ⟨nm.toArray⟩, .slice none 0 0, .slice none 0 0, .slice (some ⟨w5.heap.size + 1, 0, none⟩) 1 1, .int .i64 0, .int .i64 (place : Int)] 26))
 have h1 := TsM.one h0 (by simp; omega) (by simp; omega)
 have e : (w5.alloc (.cells #[.int .i64 (kind : Int), .string ⟨nm.toArray⟩, .slice none 0 0, .slice none 0 0, .slice (some ⟨w5.heap.size + 1, 0, none⟩) 1 1, .int .i64 0, .int .i64 (place : Int)] 26)).heap.size = w5.heap.size + 1 := by simp
 rw [e] at h1
 exact ⟨((h.env.box 26 _).pick2 0 1 rfl rfl (by decide)).alloc _, h1, h.bd, fun k hk => by rw [slot_own hk]; omega⟩
theorem rkw5 (h : RUn w g A c T fin base t3 t4 s' n' [x0, x1, x2, x3, x4, x5, x6] w4) (hbw : base ≤ w.heap.size) (hb : Below ((w4.alloc (.cells #[.int .i64 0, .string ⟨#[]⟩, .slice none 0 0, .slice none 0 0, .slice none 0 0, .int .i64 0, .int .i64 0] 26)).alloc (.cells #[x0, x1, x2, x3, x4, x5, x6] 26)).drew.heap.size ((w4.alloc (.cells #[.int .i64 0, .string ⟨#[]⟩, .slice none 0 0, .slice none 0 0, .slice none 0 0, .int .i64 0, .int .i64 0] 26)).alloc (.cells #[x0, x1, x2, x3, x4, x5, x6] 26)).drew w5) (kind place : Nat) (nm : Lx.Txt) :
  RAc w g A c T fin base w4.heap.size t4 kind place s' nm [n'] (.slice (some ⟨w4.heap.size + 1, 0, none⟩) 1 1) (((((((w5.setCell ⟨w4.heap.size, 0, none⟩ (.int .i64 (kind : Int))).setCell ⟨w4.heap.size, 1, none⟩ (.string ⟨nm.toArray⟩)).setCell ⟨w4.heap.size, 2, none⟩ (.slice none 0 0)).setCell ⟨w4.heap.size, 3, none⟩ (.slice none 0 0)).setCell ⟨w4.heap.size, 4, none⟩ (.slice (some ⟨w4.heap.size + 1, 0, none⟩) 1 1)).setCell ⟨w4.heap.size, 5, none⟩ (.int .i64 0)).setCell ⟨w4.heap.size, 6, none⟩ (.int .i64 (place : Int))) := by
 have l3 := (h.env.blk 1 rfl).lt
 have l4 := (h.env.blk 0 rfl).lt
 have hs := h.env.size
 have h0 := TrM.below (TrM.swap h.tr (X' := fun k => k = t3 ∨ k = t4 ∨ k = w4.heap.size) fun k _ hk e => by omega) (new_below w4 (.cells #[.int .i64 0, .string ⟨#[]⟩, .slice none 0 0, .slice none 0 0, .slice none 0 0, .int .i64 0, .int .i64 0] 26))
 have h1 := TsM.one h0 (by simp; omega) (by simp; omega)
 have e : (w4.alloc (.cells #[.int .i64 0, .string ⟨#[]⟩, .slice none 0 0, .slice none 0 0, .slice none 0 0, .int .i64 0, .int .i64 0] 26)).heap.size = w4.heap.size + 1 := by simp
 rw [e] at h1
 have E1 := (((h.env.boxk w4.heap.size rfl 26 [.int .i64 0, .string ⟨#[]⟩, .slice none 0 0, .slice none 0 0, .slice none 0 0, .int .i64 0, .int .i64 0]).alloc (.cells #[x0, x1, x2, x3, x4, x5, x6] 26)).drew).below hb
 exact RAc.fill E1 0 1 rfl rfl (by decide) ((h1.below (Below.refl _ _).drew).below hb) ⟨.inr (.inr rfl), .inr (.inl rfl)⟩ h.bd (fun k hk => by rw [slot_own hk]; omega) kind place nm
theorem rkw6 (h : RUn w g A c T fin base t3 t4 s' n' [x0, x1, x2, x3, x4, x5, x6] w4) (hbw : base ≤ w.heap.size) (hb : Below (w4.alloc (.cells #[.int .i64 0, .string ⟨#[]⟩, .slice none 0 0, .slice none 0 0, .slice none 0 0, .int .i64 0, .int .i64 0] 26)).drew.heap.size (w4.alloc (.cells #[.int .i64 0, .string ⟨#[]⟩, .slice none 0 0, .slice none 0 0, .slice none 0 0, .int .i64 0, .int .i64 0] 26)).drew w5) (kind place : Nat) (nm : Lx.Txt) :
  RAc w g A c T fin base w4.heap.size t4 kind place s' nm [n'] (.slice (some ⟨w5.heap.size, 0, none⟩) 1 1) ((((((((w5.setCell ⟨w4.heap.size, 0, none⟩ (.int .i64 (kind : Int))).setCell ⟨w4.heap.size, 1, none⟩ (.string ⟨nm.toArray⟩)).setCell ⟨w4.heap.size, 2, none⟩ (.slice none 0 0)).setCell ⟨w4.heap.size, 3, none⟩ (.slice none 0 0)).setCell ⟨w4.heap.size, 4, none⟩ (.slice (some ⟨w5.heap.size, 0, none⟩) 1 1)).setCell ⟨w4.heap.size, 5, none⟩ (.int .i64 0)).setCell ⟨w4.heap.size, 6, none⟩ (.int .i64 (place : Int))).alloc (.cells #[x0, x1, x2, x3, x4, x5, x6] 26)) := by
 have l3 := (h.env.blk 1 rfl).lt
 have l4 := (h.env.blk 0 rfl).lt
 have hs := h.env.size
 have h0 := TrM.below (TrM.swap h.tr (X' := fun k => k = t3 ∨ k = t4 ∨ k = w4.heap.size) fun k _ hk e => by omega) ((new_below w4 (.cells #[.int .i64 0, .string ⟨#[]⟩, .slice none 0 0, .slice none 0 0, .slice none 0 0, .int .i64 0, .int .i64 0] 26)).drew.trans (hb.mono (by simp)))
 have E1 := ((h.env.boxk w4.heap.size rfl 26 [.int .i64 0, .string ⟨#[]⟩, .slice none 0 0, .slice none 0 0, .slice none 0 0, .int .i64 0, .int .i64 0]).drew).below hb
 have hl : w4.heap.size < w5.heap.size := (E1.blk 0 rfl).lt
 have h1 := TsM.one h0 (by omega) (by omega)
 rw [set7_alloc _ _ _ _ _ _ _ _ _ _ hl]
 exact RAc.fill (E1.alloc _) 0 1 rfl rfl (by decide) h1 ⟨.inr (.inr rfl), .inr (.inl rfl)⟩ h.bd (fun k hk => by rw [slot_own hk]; omega) kind place nm
end
theorem RAc.adv {w wr : World} {g c fin base ts t2 kind place : Nat} {A : Option Addr} {T : List Lx.Tk} {s' : Rs.RS} {nm : Lx.Txt} {l : List Ps.Tr} {v : Value} (h : RAc w g A c T fin base ts t2 kind place s' nm l v wr) (hgb : g < base) (hlt : s'.at_ < T.length) (z : Int) (hz : z = ((s'.at_ + 1 : Nat) : Int)) : RAc w g A c T fin base ts t2 kind place (Rs.adv s') nm l v (wr.setCell ⟨g, 1, none⟩ (.int .i64 z)) :=
 ⟨h.env.setAt (s'.at_ + 1) z hz, h.row.call (chg_set _ _ _ _) hgb, h.bd.adv hlt, h.rlo⟩
theorem Rs.keyL_stop {L : List Lx.Tk} {f : Nat} {n : Lx.Txt} {l : List Ps.Tr} {s : Rs.RS} (h : Rs.is_ L 2 [] s = false) : Rs.keyL L f n l s = (n, l, s) := by
 cases f with
 | zero => unfold Rs.keyL; rfl
 | succ f => unfold Rs.keyL; rw [if_neg (by rw [h]; decide)]
set_option maxRecDepth 20000 in
theorem rkeyw_any {g c fin F : Nat} {A : Option Addr} {T : List Lx.Tk} (hT : Ps.Fits 65536 T) (ih : ∀ f, f < F → RWAll g A c T fin f) (s : Rs.RS) (w : World) (h : RA w g A c (Rs.toks T fin) s) (hb : Rs.Bd T s) (hk : Rs.bad s = false) (hf : Rs.rem T s + 6 ≤ F) :
  Calls Tryz.prog 65 #[.pointer (some ⟨g, 0, none⟩)] w (RNd w g A c T fin w.heap.size (Rs.keyw (Rs.toks T fin) F s)) := by
 have hTl := hT.len
 have hgb := h.lt
 have E0 := (Ev.start h).box 26 [.int .i64 0, .string ⟨#[]⟩, .slice none 0 0, .slice none 0 0, .slice none 0 0, .int .i64 0, .int .i64 0]
 obtain ⟨F', rfl⟩ : ∃ F', F = F' + 1 := ⟨F - 1, by omega⟩
 obtain ⟨pa, hpa⟩ : ∃ x, Rs.bins (Rs.toks T fin) F' s = x := ⟨_, rfl⟩
 obtain ⟨R, hR⟩ : ∃ R, Rs.keyw (Rs.toks T fin) (F' + 1) s = R := ⟨_, rfl⟩
 have HE : Hid (R = if !Rs.is_ (Rs.toks T fin) 2 [] pa.2 then pa else (Ps.nd 5 (Rs.keyL (Rs.toks T fin) F' [] [pa.1] pa.2).1 (Rs.keyL (Rs.toks T fin) F' [] [pa.1] pa.2).2.1 (Rs.tok (Rs.toks T fin) pa.2).2.2, (Rs.keyL (Rs.toks T fin) F' [] [pa.1] pa.2).2.2)) := Hd (by rw [← hR, Rs.keyw, hpa])
 have HP := Hd ((ih F' (by omega)).bins s _ E0.pa hb hk (by omega))
 have hle : Rs.rem T pa.2 ≤ Rs.rem T s := Rs.rem_le (by rw [← hpa]; exact (((Rs.mvAll (T := T) (fin := fin) F').bins s hb.at_).at_ hb.at_).1)
 rw [hpa] at HP
 rw [hR]
 have IH := Hd ih
 clear h hb hk ih hpa hR
 go_enter Tryz.func65, Tryz.ntmps65
 go_upto_region 2 with (go_at_call 87; refine HP.out.mono ?_; rintro e w1 ⟨cs, rfl, hp, hb1, ht⟩; have E1 := E0.call hp; have hs1 := hp.1.size; have HT1 := Hd ht; have HB1 := Hd hb1; obtain ⟨p0, p1, C1, o1, e1, C2, o2, e2, C3, o3, e3, p5, p6, rfl⟩ := ht.form; clear hp hb1 ht)
 refine wp_world (fun W => RUn w g A c T fin w.heap.size w1.heap.size w.heap.size pa.2 pa.1 _ W) (RUn.first E1 HT1.out ⟨by simp, by simp⟩ HB1.out) fun w2 hu => ?_
 have HU1 := Hd hu
 obtain ⟨t3, ht3⟩ : ∃ t3, w1.heap.size = t3 := ⟨_, rfl⟩
 rw [ht3] at HU1 ⊢
 have HI := Hd fun (W : World) (h : RA W g A c (Rs.toks T fin) pa.2) => ris_z h (hu.bd).lt 2 [] (z := 2) rfl (xs := #[]) rfl
 clear E0 E1 HP HT1 hu ht3
 cases hi : Rs.is_ (Rs.toks T fin) 2 [] pa.2 with
 | false =>
  have HE2 : Hid (R = (pa.1, pa.2)) := Hd (by rw [HE.out, hi]; rfl)
  rw [hi] at HI
  clear hi
  go_upto_region 3 with (go_at_call 38; with_reducible refine (HI.out _ HU1.out.env.pa).mono ?_; rintro e w4 ⟨rfl, hb⟩; have HU4 := Hd (HU1.out.below hb); clear hb)
  obtain ⟨a, a0, a1, a2, a3, a4, a5, a6⟩ := HU4.out.env.c7 1 rfl
  obtain ⟨b, b0, b1, b2, b3, b4, b5, b6⟩ := HU4.out.env.c7 0 rfl
  have fz := HU4.out.env.fz 0 rfl
  go_wp2
  obtain ⟨hb4, hnd⟩ := HU4.out.done HE2.out
  exact bodyPost_ret (ret26 rfl _ _ rfl hb4) rfl hnd
 | true =>
  obtain ⟨t, ht⟩ : ∃ t, Rs.tok (Rs.toks T fin) pa.2 = t := ⟨_, rfl⟩
  obtain ⟨RK, hRK⟩ : ∃ RK, Rs.keyL (Rs.toks T fin) F' [] [pa.1] pa.2 = RK := ⟨_, rfl⟩
  have HRK := Hd hRK
  have HE2 : Hid (R = (Ps.nd 5 RK.1 RK.2.1 t.2.2, RK.2.2)) := Hd (by rw [HE.out, hi, ht, hRK]; rfl)
  rw [hi] at HI
  have HN := Hd fun (W : World) (h : RA W g A c (Rs.toks T fin) pa.2) => rtok_any h (HB1.out).lt
  rw [ht] at HN
  have hf2 := fld2 (.int .i64 (t.1 : Int)) (.string ⟨t.2.1.toArray⟩) (.int .i64 (t.2.2 : Int))
  have hbw : w.heap.size ≤ w.heap.size := Nat.le_refl _
  clear hi ht hRK
  go_upto_region 4 with (go_at_call 38; with_reducible refine (HI.out _ HU1.out.env.pa).mono ?_; rintro e w4 ⟨rfl, hb⟩; have HU4 := Hd (HU1.out.below hb); clear hb)
  obtain ⟨a, a0, a1, a2, a3, a4, a5, a6⟩ := HU4.out.env.c7 1 rfl
  clear HU1
  go_cut [4] (fun v4 wx => ∃ ts v, v4 = .pointer (some ⟨ts, 0, none⟩) ∧ RAc w g A c T fin w.heap.size ts w.heap.size 5 t.2.2 pa.2 [] [pa.1] v wx)
  case first =>
   go_region_law (first
    | (go_simp; go_at_call 37; refine (HN.out _ (by first | exact HU4.out.env.pa.drew | exact (HU4.out.env.pa.alloc _).drew | exact ((HU4.out.env.pa.alloc _).alloc _).drew)).mono ?_; rintro e w5 ⟨rfl, hb⟩; have HU5 := Hd (HU4.out.below (by first | exact (Below.refl _ _).drew.trans hb | exact (new_below _ _).drew.trans (hb.mono (by simp)) | exact ((new_below _ _).trans ((new_below _ _).mono (by simp))).drew.trans (hb.mono (by simp; omega)))); have HB5 := Hd hb; obtain ⟨c, c0, c1, c2, c3, c4, c5, c6⟩ := HU5.out.env.c7 1 rfl; (first | have HZ := Hd ((Blk.new' _ 26 w4.heap.size #[.int .i64 0, .string ⟨#[]⟩, .slice none 0 0, .slice none 0 0, .slice none 0 0, .int .i64 0, .int .i64 0] rfl).drew.below hb (by simp)) | have HZ := Hd ((Blk.new' _ 26 (w4.heap.size + 1) #[.int .i64 0, .string ⟨#[]⟩, .slice none 0 0, .slice none 0 0, .slice none 0 0, .int .i64 0, .int .i64 0] (by simp)).drew.below hb (by simp)) | have HZ := Hd (((Blk.new' _ 26 w4.heap.size #[.int .i64 0, .string ⟨#[]⟩, .slice none 0 0, .slice none 0 0, .slice none 0 0, .int .i64 0, .int .i64 0] rfl).alloc _).drew.below hb (by simp; omega)) | skip); (try (have zl := HZ.out.lt; have z0 := HZ.out.cell 0; have z1 := HZ.out.cell 1; have z2 := HZ.out.cell 2; have z3 := HZ.out.cell 3; have z4 := HZ.out.cell 4; have z5 := HZ.out.cell 5; have z6 := HZ.out.cell 6; have zf := HZ.out.frozen)); clear hb))
   all_goals
    go_wp2_with fail
    go_meet
    first
     | exact ⟨_, _, rfl, rkw1 HU4.out hbw HB5.out 5 t.2.2 []⟩
     | exact ⟨_, _, rfl, rkw2 HU4.out hbw HB5.out 5 t.2.2 []⟩
     | exact ⟨_, _, rfl, rkw3 HU5.out hbw 5 t.2.2 []⟩
     | exact ⟨_, _, rfl, rkw4 HU5.out hbw 5 t.2.2 []⟩
     | exact ⟨_, _, rfl, rkw5 HU4.out hbw HB5.out 5 t.2.2 []⟩
     | exact ⟨_, _, rfl, rkw6 HU4.out hbw HB5.out 5 t.2.2 []⟩
  case rest =>
   obtain ⟨ts, v, rfl, hA⟩ := hcut
   have HA0 := Hd hA
   clear hA HU4 HN hf2 a a0 a1 a2 a3 a4 a5 a6 HI
   go_upto_block 0 with fail
   go_wp2
   go_loopg [] F' (fun f wr => ∃ (s' : Rs.RS) (nm : Lx.Txt) (l : List Ps.Tr) (v : Value), f ≤ F' ∧ RAc w g A c T fin w.heap.size ts w.heap.size 5 t.2.2 s' nm l v wr ∧ Rs.rem T s' + 1 ≤ f ∧ nm.length ≤ 65536 * s'.at_ ∧ l.length ≤ s'.at_ + 1 ∧ Rs.keyL (Rs.toks T fin) f nm l s' = RK)
   case atStart => exact ⟨pa.2, [], [pa.1], v, Nat.le_refl _, HA0.out, by omega, by simp, by simp, HRK.out⟩
   case round =>
    obtain ⟨s', nm, l, v', hfF, hA, hrm, hnm, hll, hR⟩ := hrel
    have HA := Hd hA
    have HR2 := Hd hR
    obtain ⟨Av, cv, rfl, -, -⟩ := hA.row.form
    have HI := Hd fun (W : World) (h : RA W g A c (Rs.toks T fin) s') => ris_z h (HA.out.bd).lt 2 [] (z := 2) rfl (xs := #[]) rfl
    have hat := hA.bd.at_
    clear hA hR HA0 HRK
    cases hi : Rs.is_ (Rs.toks T fin) 2 [] s' with
    | false =>
     have HE3 : Hid (R = (Ps.nd 5 nm l t.2.2, s')) := Hd (by
      have : RK = (nm, l, s') := by rw [← HR2.out]; exact Rs.keyL_stop hi
      rw [HE2.out, this])
     rw [hi] at HI
     clear hi
     go_upto_region 8 with (go_at_call 38; with_reducible refine (HI.out _ HA.out.env.pa).mono ?_; rintro e w4 ⟨rfl, hb⟩; have HA5 := Hd (HA.out.below hb); clear hb)
     obtain ⟨a, a0, a1, a2, a3, a4, a5, a6⟩ := HA5.out.env.c7 0 rfl
     obtain ⟨b, b0, b1, b2, b3, b4, b5, b6⟩ := HA5.out.env.c7 1 rfl
     have fz := HA5.out.env.fz 1 rfl
     go_wp2
     obtain ⟨hb4, hnd⟩ := HA5.out.done (R := R) (HE3.out)
     exact bodyPost_ret (ret26 rfl _ _ rfl hb4) rfl hnd
    | true =>
     rw [hi] at HI
     have hlt : s'.at_ < T.length := Rs.is_lt (by decide) hi
     have hko := Rs.is_ok hi
     obtain ⟨q, hq⟩ : ∃ q, Rs.tok (Rs.toks T fin) s' = q := ⟨_, rfl⟩
     have hql := tok_txt (fin := fin) hT s'
     have HTK := Hd fun (W : World) (h : RA W g A c (Rs.toks T fin) s') => rtake_z h (HA.out.bd).lt ((HA.out.bd).le hTl) 2 [] (z := 2) rfl (xs := #[]) rfl
     rw [Rs.take_yes hi, hq] at HTK
     rw [hq] at hql
     have hq1 := fld1 (.int .i64 (q.1 : Int)) (.string ⟨q.2.1.toArray⟩) (.int .i64 (q.2.2 : Int))
     have hcat : ¬ (9223372036854775807 < nm.length + q.2.1.length) := by omega
     have hstr := str_app nm q.2.1
     obtain ⟨f, rfl⟩ : ∃ f, gk = f + 1 := ⟨gk - 1, by omega⟩
     obtain ⟨pb, hpb⟩ : ∃ x, Rs.bins (Rs.toks T fin) f (Rs.adv s') = x := ⟨_, rfl⟩
     have HR3 : Hid (Rs.keyL (Rs.toks T fin) f (nm ++ q.2.1) (l ++ [pb.1]) pb.2 = RK) := Hd (by rw [← HR2.out, Rs.keyL, if_pos hi, hq, hpb])
     have hra := Rs.rem_adv (T := T) (s := s') (s' := Rs.adv s') (Nat.lt_succ_self _) hlt
     have HMV : Hid (Rs.Mv T (Rs.adv s') pb.2) := Hd (by rw [← hpb]; exact (Rs.mvAll (T := T) (fin := fin) f).bins _ hlt)
     have hle3 : s'.at_ + 1 ≤ pb.2.at_ := (HMV.out.at_ hlt).1
     have hle2 : Rs.rem T pb.2 ≤ Rs.rem T (Rs.adv s') := Rs.rem_le hle3
     have HBN := Hd fun w5 (hp : RA w5 g A c (Rs.toks T fin) (Rs.adv s')) (hb : Rs.Bd T (Rs.adv s')) => (IH.out f (by omega)).bins (Rs.adv s') w5 hp hb hko (by omega)
     rw [hpb] at HBN
     clear hi hq hpb
     go_upto_region 6 with (go_at_call 38; with_reducible refine (HI.out _ HA.out.env.pa).mono ?_; rintro e w4 ⟨rfl, hb⟩; have HA5 := Hd (HA.out.below hb); clear hb)
     obtain ⟨c7, e0, e1, e2, e3, e4, e5, e6⟩ := HA5.out.env.c7 0 rfl
     have hS : w4.cell? ⟨ts, 1, none⟩ = some (.string ⟨nm.toArray⟩) := e1
     refine wp_region_x (s := 7) (S := fun W => W.cell? ⟨ts, 1, none⟩ = some (.string ⟨nm.toArray⟩)) (by kernel_rfl) hS (fun hHeld => ?_)
     refine xt (i := 0) ?_
     refine xt (i := 1) ?_
     refine xt (i := 2) ?_
     refine x1 (i := 3) (fun K2 hK2 => ?_)
     go_simp
     go_at_call 41
     refine (HTK.out _ HA5.out.env.pa.drew).mono ?_
     rintro e w6 ⟨rfl, hp⟩
     have HA6 := Hd ((HA5.out.below (Below.refl _ _).drew).call hp (HA5.out.bd.adv hlt) hgb)
     obtain ⟨a, b0, b1, b2, b3, b4, b5, b6⟩ := HA6.out.env.c7 0 rfl
     have fz6 := HA6.out.env.fz 0 rfl
     clear hp
     refine hK2.out _ _ (b1) (fun hHeld => ?_)
     clear hK2 K2
     refine xt (i := 4) ?_
     refine x1 (i := 5) (fun K2 hK2 => ?_)
     go_simp
     refine hK2.out _ _ (hHeld) (fun hHeld => ?_)
     clear hK2 K2
     refine x1 (i := 6) (fun K2 hK2 => ?_)
     go_simp
     refine hK2.out _ _ (hHeld) (fun hHeld => ?_)
     clear hK2 K2
     try simp only [Act.put, List.setIfInBounds_toArray, List.set_cons_zero, List.set_cons_succ]
     refine xl (fun K2 hK2 => ?_)
     go_simp
     refine hK2.out _ _ ?_
     clear hK2 K2
     try simp only [Act.put, List.setIfInBounds_toArray, List.set_cons_zero, List.set_cons_succ]
     refine wpAnyX_done (by kernel_rfl) ?_ _
     go_upto_region 7 with fail
     refine wp_world (fun W => RAc w g A c T fin w.heap.size ts w.heap.size 5 t.2.2 (Rs.adv s') (nm ++ q.2.1) l _ W) (HA6.out.named (nm ++ q.2.1)) fun w7 ha7 => ?_
     have HA7 := Hd ha7
     clear ha7 HA6 HA5 HA HTK HI HR2 b0 b1 b2 b3 b4 b5 b6 fz6 e0 e1 e2 e3 e4 e5 e6 hS hHeld
     obtain ⟨i0, hi, hz0, hz1, hz2⟩ := info_parts info26
     have hS4 : w7.cell? ⟨ts, 4, none⟩ = some (.slice Av l.length cv) := (HA7.out.env.c7 0 rfl).2.2.2.2.2.1
     have HL7 := Hd HA7.out.lts
     have hbw7 : w.heap.size ≤ w7.heap.size := HA7.out.env.size
     have hx7 := (HA7.out.env.c7 0 rfl).1
     go_upto_region 7 with fail
     refine wp_region_x (s := 7) (S := fun W => W.cell? ⟨ts, 4, none⟩ = some (.slice Av l.length cv)) (by kernel_rfl) hS4 (fun hHeld => ?_)
     refine xt (i := 0) ?_
     refine xt (i := 1) ?_
     refine xt (i := 2) ?_
     refine x1 (i := 3) (fun K2 hK2 => ?_)
     go_simp
     go_at_call 87
     refine (HBN.out _ (HA7.out.env.pa.drew) HA7.out.bd).mono ?_
     rintro e wa ⟨csa, rfl, hpa, hba, hta⟩
     have hza := hpa.1.size
     have HAa := Hd ((HA7.out.below (Below.refl _ _).drew).call hpa hba hgb)
     have HTa := Hd hta
     have qa : wa.cell? ⟨ts, 4, none⟩ = some (.slice Av l.length cv) := (HAa.out.env.c7 0 rfl).2.2.2.2.2.1
     obtain ⟨css, hcl, hown, hpush⟩ := HAa.out.push HTa.out (by show _ ≤ w7.heap.size; omega) ⟨HL7.out.1, HL7.out.2.1, HL7.out.2.2.2.2⟩ hgb
     have HOWN := Hd hown
     have HPUSH := Hd hpush
     obtain ⟨p0, p1, C1, o1, e1', C2, o2, e2', C3, o3, e3', p5, p6, rfl⟩ := HTa.out.form
     have hsa : w.heap.size ≤ wa.heap.size := HAa.out.env.size
     clear hown hpush hcl
     clear hpa hba hta
     refine hK2.out _ _ (qa) (fun hHeld => ?_)
     clear hK2 K2
     refine x1 (i := 4) (fun K2 hK2 => ?_)
     go_simp
     refine hK2.out _ _ (by go_keep) (fun hHeld => ?_)
     clear hK2 K2
     refine x1 (i := 5) (fun K2 hK2 => ?_)
     refine step_append_any _ rfl (.tmp 27) (.tmp 30) 24 rfl w.heap.size 26 i0 _ 7 112 Tryz.underlying24 hi hz0 hz1 hz2 rfl (by decide) (.slice Av l.length cv) l.length css.flatten (by rfl) (World.ownsRow.alloc HOWN.out _) (wa.heap.size + 1) (some ⟨wa.heap.size, 0, none⟩) 1 1 _ (by rfl) (Reads.builtN wa 26 [_, _, _, _, _, _, _] 1 7 rfl) (by intro u hu; simp only [List.mem_cons, List.not_mem_nil, or_false] at hu; rcases hu with rfl | rfl | rfl | rfl | rfl | rfl | rfl <;> rfl) (by simp only [maxLen]; omega) (by omega) (by simp; omega) ?_
     intro v6 wb hown6 hgrow6 hv6
     obtain ⟨A6, c6, rfl, _, _⟩ := own_form hown6
     obtain ⟨hcl, hfz, hlt6, hac⟩ := HPUSH.out _ _ _ hown6 hgrow6 (by simpa using hv6)
     have HAC := Hd hac
     have kb : wb.cell? ⟨ts, 4, none⟩ = some (.slice Av l.length cv) := by rw [hcl 4]; exact qa
     have kbf := hfz 4
     clear hown6 hgrow6 hv6 hcl hfz hac
     try go_simp
     refine hK2.out _ _ (kb) (fun hHeld => ?_)
     clear hK2 K2
     refine x1 (i := 6) (fun K2 hK2 => ?_)
     go_simp
     refine hK2.out _ _ (hHeld) (fun hHeld => ?_)
     clear hK2 K2
     try simp only [Act.put, List.setIfInBounds_toArray, List.set_cons_zero, List.set_cons_succ]
     refine xl (fun K2 hK2 => ?_)
     go_simp
     refine hK2.out _ _ ?_
     clear hK2 K2
     try simp only [Act.put, List.setIfInBounds_toArray, List.set_cons_zero, List.set_cons_succ]
     refine wpAnyX_done (by kernel_rfl) ?_ _
     go_wp2_with fail
     go_roundg f
     case measure => omega
     case rel => exact ⟨pb.2, nm ++ q.2.1, l ++ [pb.1], _, by omega, HAC.out, by omega, by simp only [List.length_append]; omega, by simp only [List.length_append, List.length_singleton]; omega, HR3.out⟩
set_option maxRecDepth 20000 in
theorem rmsg_any {g c fin F : Nat} {A : Option Addr} {T : List Lx.Tk} (hT : Ps.Fits 65536 T) (ih : ∀ f, f < F → RWAll g A c T fin f) (s : Rs.RS) (w : World) (h : RA w g A c (Rs.toks T fin) s) (hb : Rs.Bd T s) (hk : Rs.bad s = false) (hf : Rs.rem T s + 6 ≤ F) :
  Calls Tryz.prog 67 #[.pointer (some ⟨g, 0, none⟩)] w (RNd w g A c T fin w.heap.size (Rs.msg (Rs.toks T fin) F s)) := by
 have hTl := hT.len
 have hgb := h.lt
 have hs := hb.le hTl
 have hsa := hb.at_
 have E0 := (Ev.start h).box 26 [.int .i64 0, .string ⟨#[]⟩, .slice none 0 0, .slice none 0 0, .slice none 0 0, .int .i64 0, .int .i64 0]
 obtain ⟨F', rfl⟩ : ∃ F', F = F' + 1 := ⟨F - 1, by omega⟩
 obtain ⟨t, ht⟩ : ∃ t, Rs.tok (Rs.toks T fin) s = t := ⟨_, rfl⟩
 obtain ⟨R, hR⟩ : ∃ R, Rs.msg (Rs.toks T fin) (F' + 1) s = R := ⟨_, rfl⟩
 have HE : Hid (R = if Rs.is_ (Rs.toks T fin) 1 [] s then (Ps.nd 7 t.2.1 [] t.2.2, Rs.adv s) else if Rs.bin (Rs.toks T fin) s then (Ps.nd 7 t.2.1 [(Rs.unary (Rs.toks T fin) F' (Rs.adv s)).1] t.2.2, (Rs.unary (Rs.toks T fin) F' (Rs.adv s)).2) else if Rs.is_ (Rs.toks T fin) 2 [] s then (Ps.nd 7 (Rs.keyL (Rs.toks T fin) F' [] [] s).1 (Rs.keyL (Rs.toks T fin) F' [] [] s).2.1 t.2.2, (Rs.keyL (Rs.toks T fin) F' [] [] s).2.2) else (Ps.nd 7 [] [] t.2.2, Rs.fail s 124 t.2.2)) := Hd (by rw [← hR, Rs.msg, ht])
 have HTK := Hd fun (W : World) (h : RA W g A c (Rs.toks T fin) s) => rtok_any h (hb).lt
 rw [ht] at HTK
 have H1 := Hd fun (W : World) (h : RA W g A c (Rs.toks T fin) s) => ris_z h (hb).lt 1 [] (z := 1) rfl (xs := #[]) rfl
 have H2 := Hd fun (W : World) (h : RA W g A c (Rs.toks T fin) s) => ris_z h (hb).lt 2 [] (z := 2) rfl (xs := #[]) rfl
 have HBN := Hd fun (W : World) (h : RA W g A c (Rs.toks T fin) s) => rbin_any h (hb).lt
 have HB := Hd hb
 rw [hR]
 have IH := Hd ih
 have HE0 := Hd E0
 clear h hb ih hR ht E0
 go_enter Tryz.func67, Tryz.ntmps67
 go_upto_region 2 with (go_at_call 37; refine (HTK.out _ HE0.out.pa).mono ?_; rintro e w1 ⟨rfl, hp⟩; have HE1 := Hd (HE0.out.below hp); clear hp)
 refine wp_world (fun W => Ev w g A c (Rs.toks T fin) s _ W) (HE1.out.box 40 [_, _, _]) fun w2 E2 => ?_
 obtain ⟨tb, htb⟩ : ∃ tb, w1.heap.size = tb := ⟨_, rfl⟩
 rw [htb] at E2 ⊢
 clear HE0 HE1 HTK htb
 obtain ⟨a, a0, a1, a2⟩ := E2.c3 0 rfl
 go_upto_block 0 with fail
 have hl2 := (E2.blk 0 rfl).lt
 have hg2 := E2.pa.lt
 have HNE : Hid (tb ≠ g) := Hd (Blk.ne_ (E2.blk 0 rfl) E2.pa.ex (by decide))
 refine wp_world (fun W => RAc w g A c T fin w.heap.size w2.heap.size w.heap.size 7 t.2.2 s [] [] (.slice none 0 0) W ∧ Blk W tb 40 #[.int .i64 (t.1 : Int), .string ⟨t.2.1.toArray⟩, .int .i64 (t.2.2 : Int)]) ⟨RAc.start E2 1 rfl rfl (TsM.nil _ _ (fun k => k = w.heap.size)) rfl HB.out (fun k hk => by simp [Value.ownBlock] at hk) 7 t.2.2 [], (E2.blk 0 rfl).alloc _⟩ fun w3 h3 => ?_
 have HA3 := Hd h3.1
 have HK3 := Hd h3.2
 obtain ⟨ts, hts⟩ : ∃ ts, w2.heap.size = ts := ⟨_, rfl⟩
 rw [hts] at HA3 ⊢
 clear h3 E2 a a0 a1 a2 hts hl2 hg2
 cases h1 : Rs.is_ (Rs.toks T fin) 1 [] s with
 | true =>
  have hlt := Rs.is_lt (by decide) h1
  have HE2 : Hid (R = (Ps.nd 7 t.2.1 [] t.2.2, Rs.adv s)) := Hd (by rw [HE.out, if_pos h1])
  rw [h1] at H1
  clear h1
  go_upto_region 5 with (go_at_call 38; with_reducible refine (H1.out _ HA3.out.env.pa).mono ?_; rintro e w4 ⟨rfl, hb⟩; have HA4 := Hd (HA3.out.below hb); have HK4 := Hd (HK3.out.below hb HK3.out.lt); clear hb)
  clear HA3 HK3 H1
  obtain ⟨a, a0, a1, a2, a3, a4, a5, a6⟩ := HA4.out.env.c7 0 rfl
  have fz := HA4.out.env.fz 0 rfl
  have b := HK4.out.lt
  have b1 := HK4.out.cell 1
  go_upto_region 6 with fail
  refine wp_world (fun W => RAc w g A c T fin w.heap.size ts w.heap.size 7 t.2.2 s t.2.1 [] (.slice none 0 0) W) (HA4.out.named t.2.1) fun w6 ha6 => ?_
  have HA6 := Hd ha6
  obtain ⟨k0, k1, k2, k3, k4⟩ := ha6.env.pa.cells
  have kf := ha6.env.pa.frz 1
  have hg := ha6.env.pa.lt
  clear ha6 a a0 a1 a2 a3 a4 a5 a6 fz b b1 HA4 HK4
  go_upto_region 15 with fail
  refine wp_world (fun W => RAc w g A c T fin w.heap.size ts w.heap.size 7 t.2.2 (Rs.adv s) t.2.1 [] (.slice none 0 0) W) (HA6.out.adv hgb hlt _ (by omega)) fun w8 ha8 => ?_
  have HA8 := Hd ha8
  clear ha8 k0 k1 k2 k3 k4 kf hg HA6
  obtain ⟨a, a0, a1, a2, a3, a4, a5, a6⟩ := HA8.out.env.c7 0 rfl
  obtain ⟨b, b0, b1, b2, b3, b4, b5, b6⟩ := HA8.out.env.c7 1 rfl
  have fz := HA8.out.env.fz 1 rfl
  go_wp2
  obtain ⟨hb4, hnd⟩ := HA8.out.done (R := R) (HE2.out)
  exact bodyPost_ret (ret26 rfl _ _ rfl hb4) rfl hnd
 | false =>
  rw [h1] at H1
  cases h2 : Rs.bin (Rs.toks T fin) s with
  | true =>
   obtain ⟨hlt, _⟩ := Rs.bin_lt h2
   obtain ⟨pb, hpb⟩ : ∃ x, Rs.unary (Rs.toks T fin) F' (Rs.adv s) = x := ⟨_, rfl⟩
   have HE2 : Hid (R = (Ps.nd 7 t.2.1 [pb.1] t.2.2, pb.2)) := Hd (by rw [HE.out, if_neg (by rw [h1]; decide), if_pos h2, hpb])
   have hra := Rs.rem_adv (T := T) (s := s) (s' := Rs.adv s) (Nat.lt_succ_self _) hlt
   have HUN := Hd fun w5 (hp : RA w5 g A c (Rs.toks T fin) (Rs.adv s)) (hb : Rs.Bd T (Rs.adv s)) => (IH.out F' (by omega)).unary (Rs.adv s) w5 hp hb hk (by omega)
   rw [hpb] at HUN
   rw [h2] at HBN
   clear h1 h2 hpb
   go_upto_region 8 with (first
    | (go_at_call 38; with_reducible refine (H1.out _ HA3.out.env.pa).mono ?_; rintro e w4 ⟨rfl, hb⟩; have HA4 := Hd (HA3.out.below hb); have HK4 := Hd (HK3.out.below hb HK3.out.lt); clear hb)
    | (go_at_call 39; refine (HBN.out _ HA4.out.env.pa).mono ?_; rintro e w5 ⟨rfl, hb⟩; have HA5 := Hd (HA4.out.below hb); have HK5 := Hd (HK4.out.below hb HK4.out.lt); clear hb))
   clear HA3 HK3 H1 HA4 HK4 HBN
   obtain ⟨a, a0, a1, a2, a3, a4, a5, a6⟩ := HA5.out.env.c7 0 rfl
   have fz := HA5.out.env.fz 0 rfl
   have b := HK5.out.lt
   have b1 := HK5.out.cell 1
   go_upto_region 9 with fail
   refine wp_world (fun W => RAc w g A c T fin w.heap.size ts w.heap.size 7 t.2.2 s t.2.1 [] (.slice none 0 0) W) (HA5.out.named t.2.1) fun w6 ha6 => ?_
   have HA6 := Hd ha6
   obtain ⟨k0, k1, k2, k3, k4⟩ := ha6.env.pa.cells
   have kf := ha6.env.pa.frz 1
   have hg := ha6.env.pa.lt
   clear ha6 a a0 a1 a2 a3 a4 a5 a6 fz b b1 HA5 HK5
   go_upto_region 10 with fail
   refine wp_world (fun W => RAc w g A c T fin w.heap.size ts w.heap.size 7 t.2.2 (Rs.adv s) t.2.1 [] (.slice none 0 0) W) (HA6.out.adv hgb hlt _ (by omega)) fun w8 ha8 => ?_
   have HA8 := Hd ha8
   clear ha8 k0 k1 k2 k3 k4 kf hg HA6
   obtain ⟨l, hl⟩ : ∃ l : List Ps.Tr, [] = l := ⟨_, rfl⟩
   have hll : l.length ≤ 1 := by rw [← hl]; simp
   obtain ⟨Av, cv, hvv, hv0⟩ : ∃ (Av : Option Addr) (cv : Nat), Value.slice none 0 0 = .slice Av l.length cv ∧ Av = none := ⟨none, 0, by rw [← hl]; rfl, rfl⟩
   have HLL := Hd hl
   rw [hl] at HA8
   rw [hvv] at HA8
   clear hvv hv0 hl
   obtain ⟨i0, hi, hz0, hz1, hz2⟩ := info_parts info26
   have hS4 : w8.cell? ⟨ts, 4, none⟩ = some (.slice Av l.length cv) := (HA8.out.env.c7 0 rfl).2.2.2.2.2.1
   have HL7 := Hd HA8.out.lts
   have hbw7 : w.heap.size ≤ w8.heap.size := HA8.out.env.size
   have hx7 := (HA8.out.env.c7 0 rfl).1
   go_upto_region 10 with fail
   refine wp_region_x (s := 7) (S := fun W => W.cell? ⟨ts, 4, none⟩ = some (.slice Av l.length cv)) (by kernel_rfl) hS4 (fun hHeld => ?_)
   refine xt (i := 0) ?_
   refine xt (i := 1) ?_
   refine xt (i := 2) ?_
   refine x1 (i := 3) (fun K2 hK2 => ?_)
   go_simp
   go_at_call 88
   refine (HUN.out _ (HA8.out.env.pa.drew) HA8.out.bd).mono ?_
   rintro e wa ⟨csa, rfl, hpa, hba, hta⟩
   have hza := hpa.1.size
   have HAa := Hd ((HA8.out.below (Below.refl _ _).drew).call hpa hba hgb)
   have HTa := Hd hta
   have qa : wa.cell? ⟨ts, 4, none⟩ = some (.slice Av l.length cv) := (HAa.out.env.c7 0 rfl).2.2.2.2.2.1
   obtain ⟨css, hcl, hown, hpush⟩ := HAa.out.push HTa.out (by show _ ≤ w8.heap.size; omega) ⟨HL7.out.1, HL7.out.2.1, HL7.out.2.2.2.2⟩ hgb
   have HOWN := Hd hown
   have HPUSH := Hd hpush
   obtain ⟨p0, p1, C1, o1, e1', C2, o2, e2', C3, o3, e3', p5, p6, rfl⟩ := HTa.out.form
   have hsa : w.heap.size ≤ wa.heap.size := HAa.out.env.size
   clear hown hpush hcl
   clear hpa hba hta
   refine hK2.out _ _ (qa) (fun hHeld => ?_)
   clear hK2 K2
   refine x1 (i := 4) (fun K2 hK2 => ?_)
   go_simp
   refine hK2.out _ _ (by go_keep) (fun hHeld => ?_)
   clear hK2 K2
   refine x1 (i := 5) (fun K2 hK2 => ?_)
   refine step_append_any _ rfl (.tmp 41) (.tmp 44) 24 rfl w.heap.size 26 i0 _ 7 112 Tryz.underlying24 hi hz0 hz1 hz2 rfl (by decide) (.slice Av l.length cv) l.length css.flatten (by rfl) (World.ownsRow.alloc HOWN.out _) (wa.heap.size + 1) (some ⟨wa.heap.size, 0, none⟩) 1 1 _ (by rfl) (Reads.builtN wa 26 [_, _, _, _, _, _, _] 1 7 rfl) (by intro u hu; simp only [List.mem_cons, List.not_mem_nil, or_false] at hu; rcases hu with rfl | rfl | rfl | rfl | rfl | rfl | rfl <;> rfl) (by simp only [maxLen]; omega) (by omega) (by simp; omega) ?_
   intro v6 wb hown6 hgrow6 hv6
   obtain ⟨A6, c6, rfl, _, _⟩ := own_form hown6
   obtain ⟨hcl, hfz, hlt6, hac⟩ := HPUSH.out _ _ _ hown6 hgrow6 (by simpa using hv6)
   have HAC := Hd hac
   have kb : wb.cell? ⟨ts, 4, none⟩ = some (.slice Av l.length cv) := by rw [hcl 4]; exact qa
   have kbf := hfz 4
   clear hown6 hgrow6 hv6 hcl hfz hac
   try go_simp
   refine hK2.out _ _ (kb) (fun hHeld => ?_)
   clear hK2 K2
   refine x1 (i := 6) (fun K2 hK2 => ?_)
   go_simp
   refine hK2.out _ _ (hHeld) (fun hHeld => ?_)
   clear hK2 K2
   try simp only [Act.put, List.setIfInBounds_toArray, List.set_cons_zero, List.set_cons_succ]
   refine xl (fun K2 hK2 => ?_)
   go_simp
   refine hK2.out _ _ ?_
   clear hK2 K2
   try simp only [Act.put, List.setIfInBounds_toArray, List.set_cons_zero, List.set_cons_succ]
   refine wpAnyX_done (by kernel_rfl) ?_ _
   go_upto_region 15 with fail
   refine wp_world (fun W => RAc w g A c T fin w.heap.size ts w.heap.size 7 t.2.2 pb.2 t.2.1 (l ++ [pb.1]) _ W) HAC.out fun w9 ha9 => ?_
   have HA9 := Hd ha9
   clear ha9 HAC kb kbf HPUSH HOWN qa HAa HTa hHeld
   obtain ⟨a, a0, a1, a2, a3, a4, a5, a6⟩ := HA9.out.env.c7 0 rfl
   obtain ⟨b, b0, b1, b2, b3, b4, b5, b6⟩ := HA9.out.env.c7 1 rfl
   have fz := HA9.out.env.fz 1 rfl
   go_wp2
   obtain ⟨hb4, hnd⟩ := HA9.out.done (R := R) (by rw [HE2.out, ← HLL.out]; rfl)
   exact bodyPost_ret (ret26 rfl _ _ rfl hb4) rfl hnd
  | false =>
   rw [h2] at HBN
   cases h3 : Rs.is_ (Rs.toks T fin) 2 [] s with
   | true =>
    obtain ⟨RK, hRK⟩ : ∃ RK, Rs.keyL (Rs.toks T fin) F' [] [] s = RK := ⟨_, rfl⟩
    have HRK := Hd hRK
    have HE2 : Hid (R = (Ps.nd 7 RK.1 RK.2.1 t.2.2, RK.2.2)) := Hd (by rw [HE.out, if_neg (by rw [h1]; decide), if_neg (by rw [h2]; decide), if_pos h3, hRK])
    rw [h3] at H2
    clear h1 h2 h3 hRK
    go_upto_block 1 with (first
     | (go_at_call 38; with_reducible refine (H1.out _ HA3.out.env.pa).mono ?_; rintro e w4 ⟨rfl, hb⟩; have HA4 := Hd (HA3.out.below hb); clear hb)
     | (go_at_call 39; refine (HBN.out _ HA4.out.env.pa).mono ?_; rintro e w5 ⟨rfl, hb⟩; have HA5 := Hd (HA4.out.below hb); clear hb)
     | (go_at_call 38; with_reducible refine (H2.out _ HA5.out.env.pa).mono ?_; rintro e w6 ⟨rfl, hb⟩; have HA6 := Hd (HA5.out.below hb); clear hb))
    clear HA3 HA4 HA5 HK3 H1 H2 HBN
    go_wp2
    go_loopg [] F' (fun f wr => ∃ (s' : Rs.RS) (nm : Lx.Txt) (l : List Ps.Tr) (v : Value), f ≤ F' ∧ RAc w g A c T fin w.heap.size ts w.heap.size 7 t.2.2 s' nm l v wr ∧ Rs.rem T s' + 1 ≤ f ∧ nm.length ≤ 65536 * s'.at_ ∧ l.length ≤ s'.at_ + 1 ∧ Rs.keyL (Rs.toks T fin) f nm l s' = RK)
    case atStart => exact ⟨s, [], [], .slice none 0 0, Nat.le_refl _, HA6.out, by omega, by simp, by simp, HRK.out⟩
    case round =>
     obtain ⟨s', nm, l, v', hfF, hA, hrm, hnm, hll, hR⟩ := hrel
     have HA := Hd hA
     have HR2 := Hd hR
     obtain ⟨Av, cv, rfl, -, -⟩ := hA.row.form
     have HI := Hd fun (W : World) (h : RA W g A c (Rs.toks T fin) s') => ris_z h (HA.out.bd).lt 2 [] (z := 2) rfl (xs := #[]) rfl
     have hat := hA.bd.at_
     clear hA hR HA6 HRK
     cases hi : Rs.is_ (Rs.toks T fin) 2 [] s' with
     | false =>
      have HE3 : Hid (R = (Ps.nd 7 nm l t.2.2, s')) := Hd (by
       have : RK = (nm, l, s') := by rw [← HR2.out]; exact Rs.keyL_stop hi
       rw [HE2.out, this])
      rw [hi] at HI
      clear hi
      go_upto_region 15 with (go_at_call 38; with_reducible refine (HI.out _ HA.out.env.pa).mono ?_; rintro e w4 ⟨rfl, hb⟩; have HA5 := Hd (HA.out.below hb); clear hb)
      obtain ⟨a, a0, a1, a2, a3, a4, a5, a6⟩ := HA5.out.env.c7 0 rfl
      obtain ⟨b, b0, b1, b2, b3, b4, b5, b6⟩ := HA5.out.env.c7 1 rfl
      have fz := HA5.out.env.fz 1 rfl
      go_wp2
      obtain ⟨hb4, hnd⟩ := HA5.out.done (R := R) (HE3.out)
      exact bodyPost_ret (ret26 rfl _ _ rfl hb4) rfl hnd
     | true =>
      rw [hi] at HI
      have hlt : s'.at_ < T.length := Rs.is_lt (by decide) hi
      have hko := Rs.is_ok hi
      obtain ⟨q, hq⟩ : ∃ q, Rs.tok (Rs.toks T fin) s' = q := ⟨_, rfl⟩
      have hql := tok_txt (fin := fin) hT s'
      have HTK := Hd fun (W : World) (h : RA W g A c (Rs.toks T fin) s') => rtake_z h (HA.out.bd).lt ((HA.out.bd).le hTl) 2 [] (z := 2) rfl (xs := #[]) rfl
      rw [Rs.take_yes hi, hq] at HTK
      rw [hq] at hql
      have hq1 := fld1 (.int .i64 (q.1 : Int)) (.string ⟨q.2.1.toArray⟩) (.int .i64 (q.2.2 : Int))
      have hcat : ¬ (9223372036854775807 < nm.length + q.2.1.length) := by omega
      have hstr := str_app nm q.2.1
      obtain ⟨f, rfl⟩ : ∃ f, gk = f + 1 := ⟨gk - 1, by omega⟩
      obtain ⟨pb, hpb⟩ : ∃ x, Rs.bins (Rs.toks T fin) f (Rs.adv s') = x := ⟨_, rfl⟩
      have HR3 : Hid (Rs.keyL (Rs.toks T fin) f (nm ++ q.2.1) (l ++ [pb.1]) pb.2 = RK) := Hd (by rw [← HR2.out, Rs.keyL, if_pos hi, hq, hpb])
      have hra := Rs.rem_adv (T := T) (s := s') (s' := Rs.adv s') (Nat.lt_succ_self _) hlt
      have HMV : Hid (Rs.Mv T (Rs.adv s') pb.2) := Hd (by rw [← hpb]; exact (Rs.mvAll (T := T) (fin := fin) f).bins _ hlt)
      have hle3 : s'.at_ + 1 ≤ pb.2.at_ := (HMV.out.at_ hlt).1
      have hle2 : Rs.rem T pb.2 ≤ Rs.rem T (Rs.adv s') := Rs.rem_le hle3
      have HBN := Hd fun w5 (hp : RA w5 g A c (Rs.toks T fin) (Rs.adv s')) (hb : Rs.Bd T (Rs.adv s')) => (IH.out f (by omega)).bins (Rs.adv s') w5 hp hb hko (by omega)
      rw [hpb] at HBN
      clear hi hq hpb
      go_upto_region 13 with (go_at_call 38; with_reducible refine (HI.out _ HA.out.env.pa).mono ?_; rintro e w4 ⟨rfl, hb⟩; have HA5 := Hd (HA.out.below hb); clear hb)
      obtain ⟨c7, e0, e1, e2, e3, e4, e5, e6⟩ := HA5.out.env.c7 0 rfl
      have hS : w4.cell? ⟨ts, 1, none⟩ = some (.string ⟨nm.toArray⟩) := e1
      refine wp_region_x (s := 7) (S := fun W => W.cell? ⟨ts, 1, none⟩ = some (.string ⟨nm.toArray⟩)) (by kernel_rfl) hS (fun hHeld => ?_)
      refine xt (i := 0) ?_
      refine xt (i := 1) ?_
      refine xt (i := 2) ?_
      refine x1 (i := 3) (fun K2 hK2 => ?_)
      go_simp
      go_at_call 41
      refine (HTK.out _ HA5.out.env.pa.drew).mono ?_
      rintro e w6 ⟨rfl, hp⟩
      have HA6 := Hd ((HA5.out.below (Below.refl _ _).drew).call hp (HA5.out.bd.adv hlt) hgb)
      obtain ⟨a, b0, b1, b2, b3, b4, b5, b6⟩ := HA6.out.env.c7 0 rfl
      have fz6 := HA6.out.env.fz 0 rfl
      clear hp
      refine hK2.out _ _ (b1) (fun hHeld => ?_)
      clear hK2 K2
      refine xt (i := 4) ?_
      refine x1 (i := 5) (fun K2 hK2 => ?_)
      go_simp
      refine hK2.out _ _ (hHeld) (fun hHeld => ?_)
      clear hK2 K2
      refine x1 (i := 6) (fun K2 hK2 => ?_)
      go_simp
      refine hK2.out _ _ (hHeld) (fun hHeld => ?_)
      clear hK2 K2
      try simp only [Act.put, List.setIfInBounds_toArray, List.set_cons_zero, List.set_cons_succ]
      refine xl (fun K2 hK2 => ?_)
      go_simp
      refine hK2.out _ _ ?_
      clear hK2 K2
      try simp only [Act.put, List.setIfInBounds_toArray, List.set_cons_zero, List.set_cons_succ]
      refine wpAnyX_done (by kernel_rfl) ?_ _
      go_upto_region 14 with fail
      refine wp_world (fun W => RAc w g A c T fin w.heap.size ts w.heap.size 7 t.2.2 (Rs.adv s') (nm ++ q.2.1) l _ W) (HA6.out.named (nm ++ q.2.1)) fun w7 ha7 => ?_
      have HA7 := Hd ha7
      clear ha7 HA6 HA5 HA HTK HI HR2 b0 b1 b2 b3 b4 b5 b6 fz6 e0 e1 e2 e3 e4 e5 e6 hS hHeld
      obtain ⟨i0, hi, hz0, hz1, hz2⟩ := info_parts info26
      have hS4 : w7.cell? ⟨ts, 4, none⟩ = some (.slice Av l.length cv) := (HA7.out.env.c7 0 rfl).2.2.2.2.2.1
      have HL7 := Hd HA7.out.lts
      have hbw7 : w.heap.size ≤ w7.heap.size := HA7.out.env.size
      have hx7 := (HA7.out.env.c7 0 rfl).1
      go_upto_region 14 with fail
      refine wp_region_x (s := 7) (S := fun W => W.cell? ⟨ts, 4, none⟩ = some (.slice Av l.length cv)) (by kernel_rfl) hS4 (fun hHeld => ?_)
      refine xt (i := 0) ?_
      refine xt (i := 1) ?_
      refine xt (i := 2) ?_
      refine x1 (i := 3) (fun K2 hK2 => ?_)
      go_simp
      go_at_call 87
      refine (HBN.out _ (HA7.out.env.pa.drew) HA7.out.bd).mono ?_
      rintro e wa ⟨csa, rfl, hpa, hba, hta⟩
      have hza := hpa.1.size
      have HAa := Hd ((HA7.out.below (Below.refl _ _).drew).call hpa hba hgb)
      have HTa := Hd hta
      have qa : wa.cell? ⟨ts, 4, none⟩ = some (.slice Av l.length cv) := (HAa.out.env.c7 0 rfl).2.2.2.2.2.1
      obtain ⟨css, hcl, hown, hpush⟩ := HAa.out.push HTa.out (by show _ ≤ w7.heap.size; omega) ⟨HL7.out.1, HL7.out.2.1, HL7.out.2.2.2.2⟩ hgb
      have HOWN := Hd hown
      have HPUSH := Hd hpush
      obtain ⟨p0, p1, C1, o1, e1', C2, o2, e2', C3, o3, e3', p5, p6, rfl⟩ := HTa.out.form
      have hsa : w.heap.size ≤ wa.heap.size := HAa.out.env.size
      clear hown hpush hcl
      clear hpa hba hta
      refine hK2.out _ _ (qa) (fun hHeld => ?_)
      clear hK2 K2
      refine x1 (i := 4) (fun K2 hK2 => ?_)
      go_simp
      refine hK2.out _ _ (by go_keep) (fun hHeld => ?_)
      clear hK2 K2
      refine x1 (i := 5) (fun K2 hK2 => ?_)
      refine step_append_any _ rfl (.tmp 60) (.tmp 63) 24 rfl w.heap.size 26 i0 _ 7 112 Tryz.underlying24 hi hz0 hz1 hz2 rfl (by decide) (.slice Av l.length cv) l.length css.flatten (by rfl) (World.ownsRow.alloc HOWN.out _) (wa.heap.size + 1) (some ⟨wa.heap.size, 0, none⟩) 1 1 _ (by rfl) (Reads.builtN wa 26 [_, _, _, _, _, _, _] 1 7 rfl) (by intro u hu; simp only [List.mem_cons, List.not_mem_nil, or_false] at hu; rcases hu with rfl | rfl | rfl | rfl | rfl | rfl | rfl <;> rfl) (by simp only [maxLen]; omega) (by omega) (by simp; omega) ?_
      intro v6 wb hown6 hgrow6 hv6
      obtain ⟨A6, c6, rfl, _, _⟩ := own_form hown6
      obtain ⟨hcl, hfz, hlt6, hac⟩ := HPUSH.out _ _ _ hown6 hgrow6 (by simpa using hv6)
      have HAC := Hd hac
      have kb : wb.cell? ⟨ts, 4, none⟩ = some (.slice Av l.length cv) := by rw [hcl 4]; exact qa
      have kbf := hfz 4
      clear hown6 hgrow6 hv6 hcl hfz hac
      try go_simp
      refine hK2.out _ _ (kb) (fun hHeld => ?_)
      clear hK2 K2
      refine x1 (i := 6) (fun K2 hK2 => ?_)
      go_simp
      refine hK2.out _ _ (hHeld) (fun hHeld => ?_)
      clear hK2 K2
      try simp only [Act.put, List.setIfInBounds_toArray, List.set_cons_zero, List.set_cons_succ]
      refine xl (fun K2 hK2 => ?_)
      go_simp
      refine hK2.out _ _ ?_
      clear hK2 K2
      try simp only [Act.put, List.setIfInBounds_toArray, List.set_cons_zero, List.set_cons_succ]
      refine wpAnyX_done (by kernel_rfl) ?_ _
      go_wp2_with fail
      go_roundg f
      case measure => omega
      case rel => exact ⟨pb.2, nm ++ q.2.1, l ++ [pb.1], _, by omega, HAC.out, by omega, by simp only [List.length_append]; omega, by simp only [List.length_append, List.length_singleton]; omega, HR3.out⟩
   | false =>
    have HE2 : Hid (R = (Ps.nd 7 [] [] t.2.2, Rs.fail s 124 t.2.2)) := Hd (by rw [HE.out, if_neg (by rw [h1]; decide), if_neg (by rw [h2]; decide), if_neg (by rw [h3]; decide)])
    rw [h3] at H2
    clear h1 h2 h3
    go_upto_region 15 with (first
     | (go_at_call 38; with_reducible refine (H1.out _ HA3.out.env.pa).mono ?_; rintro e w4 ⟨rfl, hb⟩; have HA4 := Hd (HA3.out.below hb); have HK4 := Hd (HK3.out.below hb HK3.out.lt); clear hb)
     | (go_at_call 39; refine (HBN.out _ HA4.out.env.pa).mono ?_; rintro e w5 ⟨rfl, hb⟩; have HA5 := Hd (HA4.out.below hb); have HK5 := Hd (HK4.out.below hb HK4.out.lt); clear hb)
     | (go_at_call 38; with_reducible refine (H2.out _ HA5.out.env.pa).mono ?_; rintro e w6 ⟨rfl, hb⟩; have HA6 := Hd (HA5.out.below hb); have HK6 := Hd (HK5.out.below hb HK5.out.lt); have b := HK6.out.lt; have b2 := HK6.out.cell 2; clear hb)
     | (go_at_call 42; refine (rfail_any HA6.out.env.pa 124 t.2.2 (by decide)).mono ?_; rintro e w7 ⟨rfl, hp⟩; have HA7 := Hd (HA6.out.call hp (HA6.out.bd.mv (Rs.mv_fail _ _ _ _)) hgb); clear hp))
    clear HA3 HA4 HA5 HA6 HK3 HK4 HK5 HK6 b b2
    obtain ⟨a, a0, a1, a2, a3, a4, a5, a6⟩ := HA7.out.env.c7 0 rfl
    obtain ⟨b, b0, b1, b2, b3, b4, b5, b6⟩ := HA7.out.env.c7 1 rfl
    have fz := HA7.out.env.fz 1 rfl
    go_wp2
    obtain ⟨hb4, hnd⟩ := HA7.out.done (R := R) (HE2.out)
    exact bodyPost_ret (ret26 rfl _ _ rfl hb4) rfl hnd
end Go.Proofs.YtbnlnndeajjenaaGreat
