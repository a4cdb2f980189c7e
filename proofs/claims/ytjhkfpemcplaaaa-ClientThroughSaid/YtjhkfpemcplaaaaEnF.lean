/-
  The link's connect. No statement of the seat is proved here.
-/
import Derived.Test.YtjhkfpemcplaaaaEnE
import Derived.Test.YtjhkfpemcplaaaaClD
namespace Go.Proofs.Ytjhkfpemcplaaaa
open Go.RowKit

/-- a link, plain -/
structure Pl where
  c : Cl
  y : Ty
  h : List (List UInt8)
  r : List (List UInt8)
  i : List (List UInt8)
def LkX (w0 : World) (gl gc gt : Nat) (s : Pl) (D : Nat) (w : World) : Prop :=
  ∃ k f, k.gl = gl ∧ k.p.g = gc ∧ k.t.g = gt ∧ LkS w0 k s.c s.y D f w ∧ k.hl.map (·.1) = s.h ∧ k.rl.map (·.1) = s.r ∧ k.il.map (·.1) = s.i
def LinkP (w0 : World) (gl gc gt : Nat) (s : Pl) (D : Nat) (e : Ending) (w' : World) : Prop := e = .returned (.tuple #[]) ∧ LkX w0 gl gc gt s D w'
theorem LkX.below {w0 w w' : World} {gl gc gt D : Nat} {s : Pl} (h : LkX w0 gl gc gt s D w) (hb : Below w.heap.size w w') : LkX w0 gl gc gt s D w' := by
  obtain ⟨k, f, h1, h2, h3, h4, h5⟩ := h
  exact ⟨k, f, h1, h2, h3, h4.below hb, h5⟩
theorem LkX.more {w0 w : World} {gl gc gt D D' : Nat} {s : Pl} (h : LkX w0 gl gc gt s D w) (hd : D ≤ D') : LkX w0 gl gc gt s D' w := by
  obtain ⟨k, f, h1, h2, h3, h4, h5⟩ := h
  exact ⟨k, f, h1, h2, h3, h4.more hd, h5⟩
section
variable {w0 w w2 : World} {k : Lk} {c : Cl} {y : Ty} {D : Nat} {f : Nat → Nat}
theorem LkS.lkH (h : LkS w0 k c y D f w) (hg : w.grownBy w2 k.hv.ownBlock) : Blk w2 k.gl 81 #[.pointer (some ⟨k.p.g, 0, none⟩), .pointer (some ⟨k.t.g, 0, none⟩), k.hv, k.rv, k.iv] :=
  h.lk.grown hg fun e => by have := h.fh _ (.inl e.symm); rw [h.fl] at this; cases this
theorem LkS.lkR (h : LkS w0 k c y D f w) (hg : w.grownBy w2 k.rv.ownBlock) : Blk w2 k.gl 81 #[.pointer (some ⟨k.p.g, 0, none⟩), .pointer (some ⟨k.t.g, 0, none⟩), k.hv, k.rv, k.iv] :=
  h.lk.grown hg fun e => by have := h.fr _ (.inl e.symm); rw [h.fl] at this; cases this
theorem LkS.lkI (h : LkS w0 k c y D f w) (hg : w.grownBy w2 k.iv.ownBlock) : Blk w2 k.gl 81 #[.pointer (some ⟨k.p.g, 0, none⟩), .pointer (some ⟨k.t.g, 0, none⟩), k.hv, k.rv, k.iv] :=
  h.lk.grown hg fun e => by have := h.fi _ (.inl e.symm); rw [h.fl] at this; cases this
end
theorem LkS.toX {w0 w : World} {k : Lk} {c : Cl} {y : Ty} {D D' gl gc gt : Nat} {f : Nat → Nat} {h r i : List (List UInt8)} (hk : LkS w0 k c y D f w) (h1 : k.gl = gl) (h2 : k.p.g = gc) (h3 : k.t.g = gt) (hd : D ≤ D') (hh : k.hl.map (·.1) = h) (hr : k.rl.map (·.1) = r) (hi : k.il.map (·.1) = i) : LkX w0 gl gc gt ⟨c, y, h, r, i⟩ D' w :=
  ⟨k, f, h1, h2, h3, hk.more hd, hh, hr, hi⟩
def connPl (s : Pl) : Pl := if (connF s.c).2.1 = 0 then { s with c := (connF s.c).2.2, h := s.h ++ (connF s.c).1.map frm } else { s with c := (connF s.c).2.2 }
set_option maxRecDepth 20000 in
set_option maxHeartbeats 4000000 in
theorem lconn_any {w0 w : World} {gl gc gt D N : Nat} {s : Pl} (h : LkX w0 gl gc gt s D w) (ok : s.c.Ok N) (hh : s.h.length ≤ 1000) :
    Calls Try.prog 32 #[.pointer (some ⟨gl, 0, none⟩)] w (LinkP w0 gl gc gt (connPl s) D) := by
  obtain ⟨k, f, rfl, rfl, rfl, hk, hh1, hr1, hi1⟩ := h
  have hpl : connPl s = connPl s := rfl
  conv at hpl => rhs; unfold connPl
  have HPL := Lib.hid hpl
  have hfl : (connF s.c).1.length ≤ 1 := by unfold connF; repeat' split
                                            all_goals simp
  have HC := Lib.hid (connect_any hk.ca ok)
  have x0 : w.cell? ⟨k.gl, 0, none⟩ = some (.pointer (some ⟨k.p.g, 0, none⟩)) := hk.lk.cell 0
  have HK := Lib.hid hk
  have HH1 := Lib.hid hh1
  have hhl : k.hl.length ≤ 1000 := by have := congrArg List.length hh1; rw [List.length_map] at this; omega
  have HR1 := Lib.hid hr1
  have HI1 := Lib.hid hi1
  obtain ⟨i0, hi, hz0, hz1, hz2⟩ := info_parts info37
  generalize connPl s = s' at *
  generalize (connF s.c).1 = fs at *
  generalize (connF s.c).2.2 = c' at *
  generalize (connF s.c).2.1 = er at *
  clear hk hpl hh1 hr1 hi1 ok hh
  go_enter Try.func32, Try.ntmps32
  go_upto_region 1 with (go_at_call 20; refine HC.out.mono ?_; rintro e w3 ⟨v3, l3, p3, rfl, hs, hf⟩; obtain ⟨f3, hk3, hlow, hnew⟩ := HK.out.stepC hs; have HK3 := Lib.hid hk3; have H7 : Hid (∀ i, (v3.ownBlock = some i ∨ kB.inB l3 i) → f3 i = 7) := Lib.hid fun i hi => hnew i (hf.row.lt hi).1 (hf.ap i hi); have HR3 := Lib.hid hf.row; have HL3 := Lib.hid hf.is; have HG3 := Lib.hid hs.g; have HB3 : Hid (w0.heap.size ≤ w.heap.size) := Lib.hid HK.out.old.size; have hl3 : l3.length ≤ 1 := (by have := congrArg List.length hf.is; rw [List.length_map, List.length_map] at this; omega); obtain ⟨A3, c3, rfl, _, _⟩ := hf.row.form; clear hs hf hk3 hlow hnew)
  by_cases he : er = 0
  · have t1 : (er == 0) = true := by simp [he]
    rw [if_pos he] at HPL
    obtain ⟨hA, hc, hhv, _, _⟩ := HK3.out.he.form
    have HHV := Lib.hid hhv
    have HRW : Hid (OwnO w3 w0.heap.size 37 1 (.slice hA k.hl.length hc) k.hl.length (kB.flat k.hl)) := Lib.hid (by rw [← hhv]; exact HK3.out.he.row)
    have x2 : w3.cell? ⟨k.gl, 2, none⟩ = some (.slice hA k.hl.length hc) := by rw [← hhv]; exact HK3.out.lk.cell 2
    have hbs : w0.heap.size ≤ w3.heap.size := HK3.out.old.size
    clear he x0 HC hhv
    go_wp2_with (first
      | (go_at_call 13; refine (num_any _ _).mono ?_; rintro e w4 ⟨rfl, rfl⟩)
      | (at_builtin; refine wpList_append_o _ rfl (.tmp 19) (.tmp 20) 31 rfl w0.heap.size 37 i0 _ 1 24 Try.underlying31 hi hz0 hz1 hz2 rfl (by decide) (.slice hA k.hl.length hc) k.hl.length (kB.flat k.hl) rfl HRW.out _ A3 l3.length c3 (kB.flat l3) rfl (Reads.of_own HR3.out.row) (kB_one _) (by simp only [maxLen]; omega) (by omega) hbs ?_; intro v5 w5 hr5 hg5 hv5; rw [← HHV.out] at hg5 hv5; have hb5 := HK3.out.lkH hg5; have y2 := hb5.frozen 2; have y3 : w5.cell? ⟨k.gl, 2, none⟩ = some (.slice hA k.hl.length hc) := (by rw [← HHV.out]; exact hb5.cell 2); have HP5 := Lib.hid (HK3.out.pushH HR3.out HB3.out H7.out hr5 hg5 hv5); obtain ⟨A5, c5, rfl, _, _⟩ := hr5.form; clear hr5 hg5 hv5 hb5))
    refine Go.bodyPost_end (v := .tuple #[]) (by simp [results, Try.results32, go_sem]) rfl ⟨rfl, by rw [HPL.out]; exact HP5.out.toX rfl HG3.out rfl (by omega) (by dsimp only; rw [List.map_append, HH1.out, HL3.out]) HR1.out HI1.out⟩
  · have t1 : (er == 0) = false := by simp [he]
    rw [if_neg he] at HPL
    clear he x0 HC
    go_wp2_with (go_at_call 13; refine (num_any _ _).mono ?_; rintro e w4 ⟨rfl, rfl⟩)
    refine Go.bodyPost_end (v := .tuple #[]) (by simp [results, Try.results32, go_sem]) rfl ⟨rfl, by rw [HPL.out]; exact HK3.out.toX rfl HG3.out rfl (by omega) HH1.out HR1.out HI1.out⟩
end Go.Proofs.Ytjhkfpemcplaaaa
