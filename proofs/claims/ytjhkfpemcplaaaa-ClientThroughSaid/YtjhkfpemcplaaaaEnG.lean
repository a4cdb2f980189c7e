/-
  The link's cut and issue. No statement of the seat is proved here.
-/
import Derived.Test.YtjhkfpemcplaaaaEnF
import Derived.Test.YtjhkfpemcplaaaaClE
import Derived.Test.YtjhkfpemcplaaaaFsA
namespace Go.Proofs.Ytjhkfpemcplaaaa
open Go.RowKit

/-- all that is under way is lost, the toy's reader is new -/
theorem LkS.cutAll {w0 w : World} {k : Lk} {c : Cl} {y : Ty} {D : Nat} {f : Nat → Nat} (h : LkS w0 k c y D f w) :
    LkS w0 { k with hv := .slice none 0 0, hl := [], rv := .slice none 0 0, rl := [], t := { k.t with kA := none, kc := 0 } } c y D f ((((w.setCell ⟨k.gl, 2, none⟩ (.slice none 0 0)).setCell ⟨k.gl, 3, none⟩ (.slice none 0 0)).setCell ⟨k.t.g, 5, none⟩ (.slice none 0 0)).setCell ⟨k.t.g, 6, none⟩ (.int .i64 0)) := by
  have hgt : k.gl ≠ k.t.g := Blk.ne_ h.lk h.ty.blk (by decide)
  have hno : ∀ i, ((Value.slice none 0 0).ownBlock = some i ∨ kB.inB [] i) → False := fun i hi => by
    rcases hi with e | ⟨x, hx, _⟩
    · simp [Value.ownBlock] at e
    · cases hx
  have h1 := h.setH (f' := f) ((Chg.refl (fun i => f i = 3 ∧ w0.heap.size ≤ i ∨ i = k.gl) w).setCell (p := ⟨k.gl, 2, none⟩) (fun _ => .inr rfl) (.slice none 0 0)) (h.lk.set_ 2 (.slice none 0 0)) (RowO.nil kB _ _) (fun _ _ _ => rfl) fun i hi => (hno i hi).elim
  have h2 := h1.setR (f' := f) ((Chg.refl (fun i => f i = 4 ∧ w0.heap.size ≤ i ∨ i = k.gl) (w.setCell ⟨k.gl, 2, none⟩ (.slice none 0 0))).setCell (p := ⟨k.gl, 3, none⟩) (fun _ => .inr rfl) (.slice none 0 0)) (h1.lk.set_ 3 (.slice none 0 0)) (RowO.nil kB _ _) (fun _ _ _ => rfl) fun i hi => (hno i hi).elim
  have hb := (h2.ty.blk.set_ 5 (.slice none 0 0)).set_ 6 (.int .i64 0)
  have hc : Chg (fun i => i = k.t.g) ((w.setCell ⟨k.gl, 2, none⟩ (.slice none 0 0)).setCell ⟨k.gl, 3, none⟩ (.slice none 0 0)) ((((w.setCell ⟨k.gl, 2, none⟩ (.slice none 0 0)).setCell ⟨k.gl, 3, none⟩ (.slice none 0 0)).setCell ⟨k.t.g, 5, none⟩ (.slice none 0 0)).setCell ⟨k.t.g, 6, none⟩ (.int .i64 0)) :=
    ((Chg.refl (fun i => i = k.t.g) ((w.setCell ⟨k.gl, 2, none⟩ (.slice none 0 0)).setCell ⟨k.gl, 3, none⟩ (.slice none 0 0))).setCell (p := ⟨k.t.g, 5, none⟩) (fun _ => rfl) _).setCell (p := ⟨k.t.g, 6, none⟩) (fun _ => rfl) _
  have hne : ∀ i x, f i = x → x ≠ 2 → ¬ i = k.t.g := fun i x e1 e2 e => by
    subst e
    exact e2 (by rw [← e1, h.ft _ (.inl rfl)])
  refine ⟨h2.ca.chg hc fun i hi => hne i 1 (h.fc i hi) (by decide), ⟨hb, h2.ty.row.chg hc fun i hi e => ?_, h2.ty.is, h2.ty.ge⟩, hc.blk h2.lk hgt, RowO.nil kB _ _, RowO.nil kB _ _, h2.is.chg hc fun i hi => hne i 5 (h.fi i hi) (by decide), h.fc, h.ft, fun i hi => (hno i hi).elim, fun i hi => (hno i hi).elim, h.fi, h.fl, h.ge, Chg.old_ h2 hc fun i hi => by rw [hi]; exact h.ty.ge, h.d⟩
  subst e
  rcases hi with e | ⟨x, hx, e⟩
  · exact own_blk_ne h2.ty.row.row h2.ty.blk (by decide) e
  · exact own_blk_ne (h2.ty.row.els x hx) h2.ty.blk (by decide) e
def cutPl (s : Pl) : Pl := if (cutF s.c).1 = 0 then ⟨(cutF s.c).2, s.y, [], [], s.i⟩ else { s with c := (cutF s.c).2 }
set_option maxRecDepth 20000 in
set_option maxHeartbeats 4000000 in
theorem lcut_any {w0 w : World} {gl gc gt D N : Nat} {s : Pl} (h : LkX w0 gl gc gt s D w) (ok : s.c.Ok N) (hD : D ≤ 1152921504606846976) :
    Calls Try.prog 57 #[.pointer (some ⟨gl, 0, none⟩)] w (LinkP w0 gl gc gt (cutPl s) (D + 1088)) := by
  obtain ⟨k, f, rfl, rfl, rfl, hk, hh1, hr1, hi1⟩ := h
  have hpl : cutPl s = cutPl s := rfl
  conv at hpl => rhs; unfold cutPl
  have HPL := Lib.hid hpl
  have HC := Lib.hid (cut_any hk.ca ok (by have := hk.d; omega))
  have x0 : w.cell? ⟨k.gl, 0, none⟩ = some (.pointer (some ⟨k.p.g, 0, none⟩)) := hk.lk.cell 0
  have HK := Lib.hid hk
  have HH1 := Lib.hid hh1
  have HR1 := Lib.hid hr1
  have HI1 := Lib.hid hi1
  generalize cutPl s = s' at *
  generalize (cutF s.c).2 = c' at *
  generalize (cutF s.c).1 = er at *
  clear hk hpl hh1 hr1 hi1 ok hD
  go_enter Try.func57, Try.ntmps57
  by_cases he : er = 0
  · have t1 : (er == 0) = true := by simp [he]
    rw [if_pos he] at HPL
    clear he
    go_wp2_with (first
      | (go_at_call 38; refine HC.out.mono ?_; rintro e w3 ⟨p3, rfl, hs⟩; obtain ⟨f3, hk3, hlow, hnew⟩ := HK.out.stepC hs; have HK3 := Lib.hid hk3; have HG3 := Lib.hid hs.g; have HCA := Lib.hid hk3.cutAll; have hlt := hk3.lk.lt; have htl := hk3.ty.blk.lt; have hgt : k.gl ≠ k.t.g := Blk.ne_ hk3.lk hk3.ty.blk (by decide); have y1 : w3.cell? ⟨k.gl, 1, none⟩ = some (.pointer (some ⟨k.t.g, 0, none⟩)) := hk3.lk.cell 1; have y2 : w3.cell? ⟨k.gl, 2, none⟩ = some k.hv := hk3.lk.cell 2; have y3 : w3.cell? ⟨k.gl, 3, none⟩ = some k.rv := hk3.lk.cell 3; have y4 := hk3.lk.frozen 2; have y5 := hk3.lk.frozen 3; have y6 : w3.cell? ⟨k.t.g, 5, none⟩ = some (.slice k.t.kA 0 k.t.kc) := hk3.ty.blk.cell 5; have y7 : w3.cell? ⟨k.t.g, 6, none⟩ = some (.int .i64 0) := hk3.ty.blk.cell 6; have y8 := hk3.ty.blk.frozen 5; have y9 := hk3.ty.blk.frozen 6; clear hs hk3 hlow hnew)
      | (go_at_call 13; refine (num_any _ _).mono ?_; rintro e w4 ⟨rfl, rfl⟩))
    refine Go.bodyPost_end (v := .tuple #[]) (by simp [results, Try.results57, go_sem]) rfl ⟨rfl, by rw [HPL.out]; exact HCA.out.toX rfl HG3.out rfl (by omega) rfl rfl HI1.out⟩
  · have t1 : (er == 0) = false := by simp [he]
    rw [if_neg he] at HPL
    clear he
    go_wp2_with (first
      | (go_at_call 38; refine HC.out.mono ?_; rintro e w3 ⟨p3, rfl, hs⟩; obtain ⟨f3, hk3, hlow, hnew⟩ := HK.out.stepC hs; have HK3 := Lib.hid hk3; have HG3 := Lib.hid hs.g; clear hs hk3 hlow hnew)
      | (go_at_call 13; refine (num_any _ _).mono ?_; rintro e w4 ⟨rfl, rfl⟩))
    refine Go.bodyPost_end (v := .tuple #[]) (by simp [results, Try.results57, go_sem]) rfl ⟨rfl, by rw [HPL.out]; exact HK3.out.toX rfl HG3.out rfl (by omega) HH1.out HR1.out HI1.out⟩
end Go.Proofs.Ytjhkfpemcplaaaa
