/-
  The link's issue. No statement of the seat is proved here.
-/
import Derived.Test.YtjhkfpemcplaaaaEnG
namespace Go.Proofs.Ytjhkfpemcplaaaa
open Go.RowKit

open Classical in
theorem LkS.pushI {w0 w w2 : World} {k : Lk} {c : Cl} {y : Ty} {D B : Nat} {f : Nat → Nat} {v' : Value} {body : List UInt8} {A : Option Addr} {cb : Nat} (h : LkS w0 k c y D f w) (hq : OwnB 5 w B (.slice A body.length cb) body) (hB : w0.heap.size ≤ B) (h7 : ∀ i, (Value.slice A body.length cb).ownBlock = some i → f i = 7)
    (hr : w2.ownsRow w0.heap.size 37 1 v' (k.il.length + 1) (kB.flat k.il ++ [.slice A body.length cb])) (hg : w.grownBy w2 k.iv.ownBlock) (hv : v'.ownBlock = k.iv.ownBlock ∨ v'.ownBlock = some w.heap.size) :
    ∃ f', LkS w0 { k with iv := v', il := k.il ++ [(body, A, cb)] } c y D f' (w2.setCell ⟨k.gl, 4, none⟩ v') ∧ ∀ i, i < w.heap.size → (Value.slice A body.length cb).ownBlock ≠ some i → f' i = f i := by
  have hng : k.iv.ownBlock ≠ some k.gl := fun e => by have := h.fi _ (.inl e); rw [h.fl] at this; cases this
  have hrow : RowK kB w0.heap.size w2 v' (k.il ++ [(body, A, cb)]) := h.is.push (by decide) (q := (body, A, cb)) (own_base hq hB) hr hg
  have hb2 : Blk w2 k.gl 81 _ := h.lk.grown hg (Ne.symm hng)
  have hc : Chg (fun i => i = k.gl) w2 (w2.setCell ⟨k.gl, 4, none⟩ v') := (Chg.refl (fun i => i = k.gl) w2).setCell (p := ⟨k.gl, 4, none⟩) (fun _ => rfl) _
  have key : ∀ i, (v'.ownBlock = some i ∨ kB.inB (k.il ++ [(body, A, cb)]) i) → i < w.heap.size → f i = 5 ∨ (Value.slice A body.length cb).ownBlock = some i := by
    intro i hi hlt
    rcases hi with e | e
    · rcases hv with h1 | h1
      · exact .inl (h.fi i (.inl (by rw [← h1]; exact e)))
      · rw [h1] at e; injection e with e
        omega
    · rcases inB_push e with e | e
      · exact .inl (h.fi i (.inr e))
      · exact .inr e
  refine ⟨fun i => if (v'.ownBlock = some i ∨ kB.inB (k.il ++ [(body, A, cb)]) i) then 5 else f i, h.setI ((Chg.of_grown hg (F := fun i => f i = 5 ∧ w0.heap.size ≤ i ∨ i = k.gl) fun i e => .inl ⟨h.fi i (.inl e), (h.is.lt (.inl e)).1⟩).trans hc fun i _ e => .inr e) (hb2.set_ 4 v') (hrow.chg hc fun i hi e => ?_) (fun i hi hn => ?_) (fun i hi => if_pos hi), fun i hi hn => ?_⟩
  · subst e
    rcases hi with e | ⟨x, hx, e⟩
    · exact own_blk_ne hrow.row hb2 (by decide) e
    · exact own_blk_ne (hrow.els x hx) hb2 (by decide) e
  · split
    · rename_i hP
      rcases key i hP hi with e | e
      · exact e.symm
      · exact absurd (h7 i e) hn
    · rfl
  · dsimp only
    split
    · rename_i hP
      rcases key i hP hi with e | e
      · exact e.symm
      · exact absurd e hn
    · rfl
/-- a road, where its slice lies and what it reads -/
structure Rd where
  K : Int
  I : Int
  Z : Int
  xk : Int
  xh : Nat
  xA : Option Addr
  xn : Nat
  xc : Nat
  xs : ByteArray
  ns : List Int
def Rd.cmd (d : Rd) : Value := .agg #[.int .i64 d.xk, .int .u64 (d.xh : Int), .slice d.xA d.xn d.xc, .string d.xs]
structure Rd.In (w : World) (d : Rd) : Prop where
  rx : RdI w w.heap.size d.xA d.xn d.ns
  u : ∀ z ∈ d.ns, I64 z
  xh : d.xh < 18446744073709551616
  xn : d.xn * 8 ≤ 140737488355328
def Rd.good (d : Rd) : Bool := decide (1 ≤ d.xk) && decide (d.xk ≤ 23) && decide (d.ns.length ≤ 32) && decide (d.xs.data.toList.length ≤ 512) && decide ((cmdB d.xk d.xh d.ns d.xs.data.toList).length ≤ 1024)
theorem Rd.good_iff (d : Rd) : d.good = true ↔ goodC d.xk d.xh d.ns d.xs.data.toList := by
  simp only [Rd.good, goodC, Bool.and_eq_true, decide_eq_true_eq, and_assoc]
def Rd.body (d : Rd) : List UInt8 := cmdB d.xk d.xh d.ns d.xs.data.toList
def issPl (s : Pl) (d : Rd) : Pl := if (issueF s.c d.good d.body).2.2.1 = 0 then ⟨(issueF s.c d.good d.body).2.2.2, s.y, s.h ++ (issueF s.c d.good d.body).2.1.map frm, s.r, s.i ++ [d.body]⟩ else { s with c := (issueF s.c d.good d.body).2.2.2 }
theorem issue_good {c : Cl} {good : Bool} {body : List UInt8} (h : (issueF c good body).2.2.1 = 0) : good = true := by
  cases good with
  | true => rfl
  | false => unfold issueF at h; rw [if_pos rfl] at h; cases h
theorem issue_len (c : Cl) (good : Bool) (body : List UInt8) : (issueF c good body).2.1.length ≤ 1 := by
  unfold issueF
  repeat' split
  all_goals simp
set_option maxRecDepth 20000 in
set_option maxHeartbeats 4000000 in
theorem liss_any {w0 w : World} {gl gc gt D N : Nat} {s : Pl} (d : Rd) (h : LkX w0 gl gc gt s D w) (ok : s.c.Ok N) (hN : N + 1 ≤ 2199023255552) (hh : s.h.length ≤ 1000) (hi9 : s.i.length ≤ N) (hd : d.In w0) :
    Calls Try.prog 56 #[.pointer (some ⟨gl, 0, none⟩), d.cmd] w (LinkP w0 gl gc gt (issPl s d) D) := by
  obtain ⟨k, f, rfl, rfl, rfl, hk, hh1, hr1, hi1⟩ := h
  have hpl : issPl s d = issPl s d := rfl
  conv at hpl => rhs; unfold issPl
  have HPL := Lib.hid hpl
  have hgd := d.good_iff
  have hbc : d.body = cmdB d.xk d.xh d.ns d.xs.data.toList := rfl
  have hig := @issue_good s.c d.good d.body
  have hil := issue_len s.c d.good d.body
  obtain ⟨w1, hw1⟩ : ∃ w1, w.alloc (.cells #[.int .i64 d.xk, .int .u64 (d.xh : Int), .slice d.xA d.xn d.xc, .string d.xs] 35) = w1 := ⟨_, rfl⟩
  have hb1 : Below w.heap.size w w1 := hw1 ▸ (Below.refl _ _).alloc (Nat.le_refl _) _
  have hX : Blk w1 w.heap.size 35 #[.int .i64 d.xk, .int .u64 (d.xh : Int), .slice d.xA d.xn d.xc, .string d.xs] := hw1 ▸ Blk.new w 35 _
  have hk1 := hk.below hb1
  have hhl : k.hl.length ≤ 1000 := by have := congrArg List.length hh1; rw [List.length_map] at this; omega
  have hil2 : k.il.length ≤ N := by have := congrArg List.length hi1; rw [List.length_map] at this; omega
  unfold Rd.cmd
  obtain ⟨K, I, Z, xk, xh, xA, xn, xc, xs, ns⟩ := d
  dsimp only at hw1 hX hgd hbc ⊢
  have HK := Lib.hid hk
  have HK1 := Lib.hid hk1
  have HB1 := Lib.hid hb1
  have HX := Lib.hid hX
  have HH1 := Lib.hid hh1
  have HR1 := Lib.hid hr1
  have HI1 := Lib.hid hi1
  have HD := Lib.hid hd
  have HOK := Lib.hid ok
  generalize issPl s _ = s' at *
  generalize (Rd.good _) = gd at *
  generalize (Rd.body _) = bc at *
  have HGD := Lib.hid hgd
  have HBC := Lib.hid hbc
  obtain ⟨i0, hi, hz0, hz1, hz2⟩ := info_parts info37
  have x0 : w1.cell? ⟨k.gl, 0, none⟩ = some (.pointer (some ⟨k.p.g, 0, none⟩)) := hk1.lk.cell 0
  have y0 : w1.cell? ⟨w.heap.size, 0, none⟩ = some (.int .i64 xk) := hX.cell 0
  have y1 : w1.cell? ⟨w.heap.size, 1, none⟩ = some (.int .u64 (xh : Int)) := hX.cell 1
  have y2 : w1.cell? ⟨w.heap.size, 2, none⟩ = some (.slice xA xn xc) := hX.cell 2
  have y3 : w1.cell? ⟨w.heap.size, 3, none⟩ = some (.string xs) := hX.cell 3
  have HNB : Hid (¬ CF k.p w.heap.size) := Lib.hid fun e => by have := (hk.ca.lt e).2; omega
  have HPC := Lib.hid (rputc_any xk xh xA xn xc ns xs w1 hd.xh ((hd.rx.below hk1.old).more hk1.old.size) hd.u)
  rw [← HBC.out] at HPC
  clear hk hk1 hpl hh1 hr1 hi1 ok hh hd hgd hbc hb1 hX
  go_enter Try.func56, Try.ntmps56
  go_upto_region 1 with fail
  clear hw1
  go_upto_region 2 with (go_at_call 14; refine HPC.out.mono ?_; intro e w2 hq; obtain ⟨A2, n2, c2, rfl, hgo, hb2⟩ := putX_of HGD.out hq; have HGO := Lib.hid hgo; have HB2 := Lib.hid hb2; clear hq hgo hb2)
  have hk1' := HK1.out.lab (f' := fun i => if i < w1.heap.size then f i else 7) (fun i hi _ => if_pos hi)
  have HF7 : Hid (∀ i, w1.heap.size ≤ i → (fun i => if i < w1.heap.size then f i else 7) i = 7) := Lib.hid fun i hi => if_neg (by omega)
  generalize (fun i => if i < w1.heap.size then f i else 7) = f1 at hk1' HF7
  have hwd : Below w2.heap.size w2 w2.drew := ⟨rfl, rfl, rfl, Nat.le_refl _, fun _ _ => rfl⟩
  have HB2d : Hid (Below w1.heap.size w1 w2.drew) := Lib.hid (HB2.out.trans (hwd.mono HB2.out.size))
  have HK2 := Lib.hid (hk1'.below HB2d.out)
  have HX2 : Hid (Blk w2.drew w.heap.size 35 #[.int .i64 xk, .int .u64 (xh : Int), .slice xA xn xc, .string xs]) := Lib.hid ((HB2d.out.block _ HX.out.lt).trans HX.out)
  have HTW := Lib.hid (twin_any xk xh xA xn xc ns xs w2.drew ((HD.out.rx.below HK2.out.old).more HK2.out.old.size) HD.out.xn)
  have z0 : w2.cell? ⟨k.gl, 0, none⟩ = some (.pointer (some ⟨k.p.g, 0, none⟩)) := HK2.out.lk.cell 0
  have u0 : w2.cell? ⟨w.heap.size, 0, none⟩ = some (.int .i64 xk) := HX2.out.cell 0
  have u1 : w2.cell? ⟨w.heap.size, 1, none⟩ = some (.int .u64 (xh : Int)) := HX2.out.cell 1
  have u2 : w2.cell? ⟨w.heap.size, 2, none⟩ = some (.slice xA xn xc) := HX2.out.cell 2
  have u3 : w2.cell? ⟨w.heap.size, 3, none⟩ = some (.string xs) := HX2.out.cell 3
  clear hk1' hwd x0 y0 y1 y2 y3
  go_region_held3 (fun W => W.cell? ⟨k.gl, 0, none⟩ = some (.pointer (some ⟨k.p.g, 0, none⟩)) ∧ W.cell? ⟨w.heap.size, 0, none⟩ = some (.int .i64 xk) ∧ W.cell? ⟨w.heap.size, 1, none⟩ = some (.int .u64 (xh : Int)) ∧ W.cell? ⟨w.heap.size, 2, none⟩ = some (.slice xA xn xc) ∧ W.cell? ⟨w.heap.size, 3, none⟩ = some (.string xs)) (first | go_keep | exact hk3 | exact hk4)
    (first
    | (go_at_call 19; refine HTW.out.mono ?_; rintro e w3 ⟨A3, c3, rfl, ho3, hb3⟩; have HO3 := Lib.hid ho3; have HB3 := Lib.hid hb3; have HK3 := Lib.hid (HK2.out.below hb3); have HX3 : Hid (Blk w3 w.heap.size 35 #[.int .i64 xk, .int .u64 (xh : Int), .slice xA xn xc, .string xs]) := Lib.hid ((hb3.block _ HX2.out.lt).trans HX2.out); have hk3 := And.intro (HK3.out.lk.cell 0) (And.intro (HX3.out.cell 0) (And.intro (HX3.out.cell 1) (And.intro (HX3.out.cell 2) (HX3.out.cell 3)))); clear ho3 hb3)
    | (go_at_call 21; refine (issue_any xk xh A3 ns.length c3 ns xs gd HK3.out.ca HOK.out (by omega) (by omega) HD.out.xh (Reads.of_own HO3.out) HD.out.u HGD.out).mono ?_; rw [← HBC.out]; rintro e w4 ⟨v4, l4, p4, rfl, hs, hf⟩; obtain ⟨f4, hk4', hlow, hnew⟩ := HK3.out.stepC hs; have HK4 := Lib.hid hk4'; have HLOW := Lib.hid hlow; have H7 : Hid (∀ i, (v4.ownBlock = some i ∨ kB.inB l4 i) → f4 i = 7) := Lib.hid fun i hi => hnew i (hf.row.lt hi).1 (hf.ap i hi); have HR4 := Lib.hid hf.row; have HL4 := Lib.hid hf.is; have HG4 := Lib.hid hs.g; have HC4 := Lib.hid hs.chg; have HX4 : Hid (Blk w4 w.heap.size 35 #[.int .i64 xk, .int .u64 (xh : Int), .slice xA xn xc, .string xs]) := Lib.hid (hs.chg.blk HX3.out HNB.out); have hk4 := And.intro ((HG4.out ▸ hk4'.lk.cell 0 : w4.cell? ⟨k.gl, 0, none⟩ = some (.pointer (some ⟨k.p.g, 0, none⟩)))) (And.intro (HX4.out.cell 0) (And.intro (HX4.out.cell 1) (And.intro (HX4.out.cell 2) (HX4.out.cell 3)))); obtain ⟨A4, c4, rfl, _, _⟩ := hf.row.form; clear hs hf hk4' hlow hnew))
  clear z0 u0 u1 u2 u3 hk3 hk4
  by_cases he : (issueF s.c gd bc).2.2.1 = 0
  · obtain rfl := hig he
    rw [if_pos he] at HPL
    obtain ⟨hn2, hob⟩ := HGO.out rfl
    subst hn2
    generalize (issueF s.c true bc).2.2.2 = c' at *
    generalize (issueF s.c true bc).2.1 = fs at *
    generalize (issueF s.c true bc).2.2.1 = er at *
    have t1 : (er == 0) = true := by simp [he]
    have hz12 := HB2.out.size
    have hz23 : w2.heap.size ≤ w3.heap.size := HB3.out.size
    have hb3' : OwnB 5 w3 w1.heap.size (.slice A2 bc.length c2) bc := own_same hob fun i hi => HB3.out.block i (World.ownsRow.lt hob i hi).2
    have HOW : Hid (OwnB 5 w4 w1.heap.size (.slice A2 bc.length c2) bc) := Lib.hid (own_chg hb3' HC4.out fun i hi e => by
      have h1 := HF7.out i (World.ownsRow.lt hob i hi).1
      have h2 := HK3.out.fc i e
      rw [h1] at h2
      cases h2)
    have HOL : Hid (∀ i, (Value.slice A2 bc.length c2).ownBlock = some i → i < w2.heap.size ∧ f4 i = 7) := Lib.hid fun i hi => ⟨(World.ownsRow.lt hob i hi).2, (HLOW.out i (by have := (World.ownsRow.lt hob i hi).2; omega)).trans (HF7.out i (World.ownsRow.lt hob i hi).1)⟩
    obtain ⟨iA, ic, hiv, _, _⟩ := HK4.out.is.form
    have hiv' : k.iv = .slice iA k.il.length ic := hiv
    have HIV := Lib.hid hiv'
    have HB45 : Hid (Below w4.heap.size w4 (w4.alloc (.cells #[.slice A2 bc.length c2] 37))) := Lib.hid ((Below.refl _ _).alloc (Nat.le_refl _) _)
    have HK5 := Lib.hid (HK4.out.below HB45.out)
    have hrw := HK5.out.is.row
    have HRW : Hid ((w4.alloc (.cells #[.slice A2 bc.length c2] 37)).ownsRow w0.heap.size 37 1 (.slice iA k.il.length ic) k.il.length (kB.flat k.il)) := Lib.hid (by rw [← hiv']; exact hrw)
    have x4 : w4.cell? ⟨k.gl, 4, none⟩ = some (.slice iA k.il.length ic) := by rw [← hiv']; exact HK4.out.lk.cell 4
    have hbs : w0.heap.size ≤ (w4.alloc (.cells #[.slice A2 bc.length c2] 37)).heap.size := HK5.out.old.size
    have hl4 : l4.length ≤ 1 := by have := congrArg List.length HL4.out; rw [List.length_map, List.length_map] at this; omega
    clear he hiv hiv' hrw hb3' hob HTW HX2 HX3 HX4 HO3 HPC HGO hig
    go_upto_region 5 with (first
      | (go_at_call 13; refine (num_any _ _).mono ?_; rintro e w9 ⟨rfl, rfl⟩)
      | (at_builtin; refine wpList_append_any _ rfl (.tmp 35) (.tmp 37) 31 rfl w0.heap.size 37 i0 _ 1 24 Try.underlying31 hi hz0 hz1 hz2 rfl (by decide) (.slice iA k.il.length ic) k.il.length (kB.flat k.il) rfl HRW.out _ (some ⟨w4.heap.size, 0, none⟩) 1 1 [.slice A2 bc.length c2] rfl (Reads.ofBlk (size := 1) (n := 1) (cs := [.slice A2 bc.length c2]) (Blk.new w4 37 #[.slice A2 bc.length c2]) rfl) (by simp [Value.oneCell']) (by simp only [maxLen]; omega) (by omega) hbs ?_; intro v6 w6 hr6 hg6 hv6; rw [← HIV.out] at hg6 hv6; have hb6 := HK5.out.lkI hg6; have y2 := hb6.frozen 4; have y3 : w6.cell? ⟨k.gl, 4, none⟩ = some (.slice iA k.il.length ic) := (by rw [← HIV.out]; exact hb6.cell 4); have HP6 := Lib.hid (HK5.out.pushI (own_same HOW.out fun i hi => HB45.out.block i (World.ownsRow.lt HOW.out i hi).2) (by have := HB1.out.size; have := HK.out.old.size; omega) (fun i hi => (HOL.out i hi).2) hr6 hg6 hv6); have HG6 := Lib.hid hg6; obtain ⟨A6, c6, rfl, _, _⟩ := own_formL hr6; clear hr6 hg6 hv6 hb6))
    obtain ⟨f6, hk6, hlow6⟩ := HP6.out
    have hc6 : Chg (fun i => k.iv.ownBlock = some i ∨ i = k.gl) w4 (w6.setCell ⟨k.gl, 4, none⟩ (.slice A6 (k.il.length + 1) c6)) := ((Chg.of_below HB45.out (fun i => k.iv.ownBlock = some i ∨ i = k.gl)).trans (Chg.of_grown HG6.out (F := fun i => k.iv.ownBlock = some i ∨ i = k.gl) fun i e => .inl e) fun _ _ e => e).trans ((Chg.refl (fun i => i = k.gl) w6).setCell (p := ⟨k.gl, 4, none⟩) (fun _ => rfl) _) fun i _ e => .inr e
    have hr6 := HR4.out.chg hc6 fun i hi e => by
      have h7 := H7.out i hi
      rcases e with e | e
      · have := HK4.out.fi i (.inl e); rw [h7] at this; cases this
      · subst e; have := HK4.out.fl; rw [h7] at this; cases this
    have h76 : ∀ i, ((Value.slice A4 l4.length c4).ownBlock = some i ∨ kB.inB l4 i) → f6 i = 7 := fun i hi => by
      have h1 := HR4.out.lt hi
      rw [hlow6 i (by have := HB45.out.size; omega) (fun e => by have := (HOL.out i e).1; omega)]
      exact H7.out i hi
    generalize w6.setCell ⟨k.gl, 4, none⟩ (.slice A6 (k.il.length + 1) c6) = w7 at hk6 hr6 hc6 ⊢
    have HK6 := Lib.hid hk6
    have HR6 := Lib.hid hr6
    have H76 := Lib.hid h76
    obtain ⟨hA, hc, hhv, _, _⟩ := hk6.he.form
    have hhv' : k.hv = .slice hA k.hl.length hc := hhv
    have HHV := Lib.hid hhv'
    have hrw := hk6.he.row
    have HRH : Hid (OwnO w7 w0.heap.size 37 1 (.slice hA k.hl.length hc) k.hl.length (kB.flat k.hl)) := Lib.hid (by rw [← hhv']; exact hrw)
    have x2 : w7.cell? ⟨k.gl, 2, none⟩ = some (.slice hA k.hl.length hc) := by rw [← hhv']; exact hk6.lk.cell 2
    have hbs7 : w0.heap.size ≤ w7.heap.size := hk6.old.size
    have HB3' : Hid (w0.heap.size ≤ w3.heap.size) := Lib.hid (by have := HK3.out.old.size; omega)
    clear hk6 hr6 h76 hc6 hlow6 hhv hhv' hrw HP6 HG6 HK5 HRW HOW x4 y2 y3 HB45 hbs
    go_wp2_with (at_builtin; refine wpList_append_o _ rfl (.tmp 45) (.tmp 46) 31 rfl w0.heap.size 37 i0 _ 1 24 Try.underlying31 hi hz0 hz1 hz2 rfl (by decide) (.slice hA k.hl.length hc) k.hl.length (kB.flat k.hl) rfl HRH.out _ A4 l4.length c4 (kB.flat l4) rfl (Reads.of_own HR6.out.row) (kB_one _) (by simp only [maxLen]; omega) (by omega) hbs7 ?_; intro v8 w8 hr8 hg8 hv8; rw [← HHV.out] at hg8 hv8; have hb8 := HK6.out.lkH hg8; have y2 := hb8.frozen 2; have y3 : w8.cell? ⟨k.gl, 2, none⟩ = some (.slice hA k.hl.length hc) := (by rw [← HHV.out]; exact hb8.cell 2); have HP8 := Lib.hid (HK6.out.pushH HR6.out HB3'.out H76.out hr8 hg8 hv8); obtain ⟨A8, c8, rfl, _, _⟩ := hr8.form; clear hr8 hg8 hv8 hb8)
    refine Go.bodyPost_end (v := .tuple #[]) (by simp [results, Try.results56, go_sem]) rfl ⟨rfl, by rw [HPL.out]; exact HP8.out.toX rfl HG4.out rfl (by omega) (by dsimp only; rw [List.map_append, HH1.out, HL4.out]) HR1.out (by dsimp only; rw [List.map_append, HI1.out]; rfl)⟩
  · have t1 : ((issueF s.c gd bc).2.2.1 == 0) = false := by simp [he]
    rw [if_neg he] at HPL
    generalize (issueF s.c gd bc).2.2.1 = er at *
    clear he hig
    go_wp2_with (go_at_call 13; refine (num_any _ _).mono ?_; rintro e w9 ⟨rfl, rfl⟩)
    refine Go.bodyPost_end (v := .tuple #[]) (by simp [results, Try.results56, go_sem]) rfl ⟨rfl, by rw [HPL.out]; exact HK4.out.toX rfl HG4.out rfl (by omega) HH1.out HR1.out HI1.out⟩
end Go.Proofs.Ytjhkfpemcplaaaa
