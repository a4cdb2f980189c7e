/-
  The walk of act. No statement of the seat is proved here.
-/
import Derived.Test.YtjhkfpemcplaaaaClU
import Derived.Test.YtjhkfpemcplaaaaClV
import Derived.Test.YtjhkfpemcplaaaaClW
import Derived.Test.YtjhkfpemcplaaaaFrameD
namespace Go.Proofs.Ytjhkfpemcplaaaa
open Go.RowKit

/-- a deed, where its slices lie and what they read -/
structure Dd where
  K : Int
  xk : Int
  xh : Nat
  xA : Option Addr
  xn : Nat
  xc : Nat
  xs : ByteArray
  k : Int
  t : Nat
  s : Nat
  a : Nat
  A : Option Addr
  n : Nat
  c : Nat
  B : Option Addr
  nb : Nat
  cb : Nat
  Z : Int
  ns : List Int
  body : List UInt8
  bb : List UInt8
def Dd.v (d : Dd) : Array Value := ddV d.K d.xk d.xh d.xA d.xn d.xc d.xs d.k d.t d.s d.a d.A d.n d.c d.B d.nb d.cb d.Z
def Dd.In (w : World) (d : Dd) : Prop := DdIn w d.K d.xk d.xh d.xA d.xn d.xs d.k d.t d.s d.a d.A d.n d.B d.nb d.ns d.body d.bb
theorem Dd.In.below {w w' : World} {d : Dd} (h : d.In w) (hb : Below w.heap.size w w') : d.In w' :=
  ⟨(h.rx.below hb).more hb.size, h.u, h.xh, (h.r.below hb).more hb.size, (h.rb.below hb).more hb.size, h.t, h.s, h.a, h.nb⟩
def Dd.good (d : Dd) : Bool := decide (1 ≤ d.xk) && decide (d.xk ≤ 23) && decide (d.ns.length ≤ 32) && decide (d.xs.data.toList.length ≤ 512) && decide ((cmdB d.xk d.xh d.ns d.xs.data.toList).length ≤ 1024)
theorem Dd.good_iff (d : Dd) : d.good = true ↔ goodC d.xk d.xh d.ns d.xs.data.toList := by
  simp only [Dd.good, goodC, Bool.and_eq_true, decide_eq_true_eq, and_assoc]
def Dd.bodyC (d : Dd) : List UInt8 := cmdB d.xk d.xh d.ns d.xs.data.toList
def Dd.chunk (d : Dd) : List UInt8 := chunkB d.K d.k d.t d.s d.a d.body d.bb
/-- what act does -/
noncomputable def actF (c : Cl) (d : Dd) : List Pk × Cl :=
  if d.K.tmod 10 = 0 ∨ d.K.tmod 10 = 1 then ((issueF c d.good d.bodyC).2.1, (issueF c d.good d.bodyC).2.2.2)
  else if d.K.tmod 10 = 2 then ((connF c).1, (connF c).2.2)
  else if d.K.tmod 10 = 3 then ([], (cutF c).2)
  else if 4 ≤ d.K.tmod 10 ∧ d.K.tmod 10 ≤ 7 then recvF c d.chunk
  else if d.K.tmod 10 = 8 then tickF c d.Z
  else ([], c)
theorem packB_len {k : Int} {t s a : Nat} {body : List UInt8} (h : mayB k body.length = true) : (packB k t s a body).length ≤ 1088 := by
  obtain ⟨_, _, hb⟩ := mayB_no h
  have h5 := (inner_len k t s a body hb).2
  unfold packB
  rw [frame_len]
  omega
theorem Dd.chunk_len (d : Dd) : d.chunk.length ≤ d.bb.length + 1088 := by
  unfold Dd.chunk chunkB
  split
  · omega
  · rename_i h
    have h2 : mayB d.k d.body.length = true := by
      cases h3 : mayB d.k d.body.length with
      | true => rfl
      | false => exact absurd (Or.inr h3) h
    have := packB_len (t := d.t) (s := d.s) (a := d.a) h2
    rw [List.length_append]
    omega
section
variable {base m m' : Nat} {w w1 w' : World} {p p' : Pa} {c c' : Cl}
theorem Stp.pre (h : CA base w p c) (hb : Below w.heap.size w w1) (s : Stp base w1 p m c' p' w') (hm : m ≤ m') : Stp base w p m' c' p' w' := by
  have h1 := ((Stp.refl h 0).below hb).trans s
  exact ⟨h1.ca, h1.g, h1.sub, h1.chg, by have := h1.d; omega⟩
theorem Frs.pre {fs : List (List UInt8)} {v : Value} {l : List (QX (List UInt8))} (hb : Below w.heap.size w w1) (h : Frs w1 p' fs v l w') : Frs w p' fs v l w' := ⟨h.row.rebase hb.size, h.is, h.ap⟩
end
set_option maxRecDepth 20000 in
set_option maxHeartbeats 4000000 in
theorem act_any {base N : Nat} {p : Pa} {c : Cl} {w : World} (d : Dd) (h : CA base w p c) (ok : c.Ok N) (hN : N ≤ 274877906944) (hd : d.In w) (hnb : d.nb ≤ 1048576) (hxn : d.xn ≤ 1048576) (hp : p.d ≤ 1152921504606846976) :
    Calls Try.prog 16 #[.pointer (some ⟨p.g, 0, none⟩), .agg d.v] w (AnsP base w p (d.nb + 3000) (actF c d).2 (actF c d).1 fun v => v) := by
  have hc := d.chunk_len
  have hbl : d.bb.length = d.nb := by have := hd.rb.1; simpa using this
  have hact : actF c d = actF c d := rfl
  conv at hact => rhs; unfold actF
  have hgd := d.good_iff
  have hchk : d.chunk = chunkB d.K d.k d.t d.s d.a d.body d.bb := rfl
  have hbc : d.bodyC = cmdB d.xk d.xh d.ns d.xs.data.toList := rfl
  obtain ⟨w1, hw1⟩ : ∃ w1, w.alloc (.cells d.v 41) = w1 := ⟨_, rfl⟩
  have hb1 : Below w.heap.size w w1 := hw1 ▸ (Below.refl _ _).alloc (Nat.le_refl _) _
  have hX : Blk w1 w.heap.size 41 d.v := hw1 ▸ Blk.new w 41 _
  have hd1 := hd.below hb1
  have hca1 := h.below hb1
  generalize actF c d = F at *
  generalize d.chunk = ck at *
  generalize d.bodyC = bc at *
  generalize d.good = gd at *
  obtain ⟨K, xk, xh, xA, xn, xc, xs, k, t, s, a, A, n, cc, B, nb, cb, Z, ns, body, bb⟩ := d
  unfold Dd.v ddV at *
  dsimp only at hc hbl hact hgd hchk hbc hw1 hX hnb hxn
  unfold Dd.In at hd1
  dsimp only at hd1 ⊢
  have HC := Lib.hid h
  have HC1 := Lib.hid hca1
  have HOK := Lib.hid ok
  have HD1 := Lib.hid hd1
  have HB1 := Lib.hid hb1
  have HX := Lib.hid hX
  have HCK := Lib.hid hc
  have HBL := Lib.hid hbl
  have HNB := Lib.hid hnb
  have HN := Lib.hid hN
  have HP := Lib.hid hp
  have HXN := Lib.hid hxn
  have HGD := Lib.hid hgd
  have HCH := Lib.hid hchk
  have HBC := Lib.hid hbc
  have y0 : w1.cell? ⟨w.heap.size, 0, none⟩ = some (.int .i64 K) := hX.cell 0
  have y1 : w1.cell? ⟨w.heap.size, 1, none⟩ = some (.int .i64 xk) := hX.cell 1
  have y2 : w1.cell? ⟨w.heap.size, 2, none⟩ = some (.int .u64 (xh : Int)) := hX.cell 2
  have y3 : w1.cell? ⟨w.heap.size, 3, none⟩ = some (.slice xA xn xc) := hX.cell 3
  have y4 : w1.cell? ⟨w.heap.size, 4, none⟩ = some (.string xs) := hX.cell 4
  have y5 : w1.cell? ⟨w.heap.size, 5, none⟩ = some (.int .i64 k) := hX.cell 5
  have y6 : w1.cell? ⟨w.heap.size, 6, none⟩ = some (.int .u64 (t : Int)) := hX.cell 6
  have y7 : w1.cell? ⟨w.heap.size, 7, none⟩ = some (.int .u64 (s : Int)) := hX.cell 7
  have y8 : w1.cell? ⟨w.heap.size, 8, none⟩ = some (.int .u64 (a : Int)) := hX.cell 8
  have y9 : w1.cell? ⟨w.heap.size, 9, none⟩ = some (.slice A n cc) := hX.cell 9
  have y10 : w1.cell? ⟨w.heap.size, 10, none⟩ = some (.slice B nb cb) := hX.cell 10
  have y11 : w1.cell? ⟨w.heap.size, 11, none⟩ = some (.int .i64 Z) := hX.cell 11
  clear h ok hN hd hp hc hbl hgd hchk hbc hb1 hX hd1 hca1 hnb hxn
  have hK : K.tmod 10 = 0 ∨ K.tmod 10 = 1 ∨ K.tmod 10 = 2 ∨ K.tmod 10 = 3 ∨ K.tmod 10 = 4 ∨ K.tmod 10 = 5 ∨ K.tmod 10 = 6 ∨ K.tmod 10 = 7 ∨ K.tmod 10 = 8 ∨ (K.tmod 10 ≠ 0 ∧ K.tmod 10 ≠ 1 ∧ K.tmod 10 ≠ 2 ∧ K.tmod 10 ≠ 3 ∧ K.tmod 10 ≠ 4 ∧ K.tmod 10 ≠ 5 ∧ K.tmod 10 ≠ 6 ∧ K.tmod 10 ≠ 7 ∧ K.tmod 10 ≠ 8) := by omega
  rcases hK with eK | eK | eK | eK | eK | eK | eK | eK | eK | eK
  · have HA : Hid (F = ((issueF c gd bc).2.1, (issueF c gd bc).2.2.2)) := Lib.hid (by rw [hact, eK]; simp)
    clear hact
    rw [HA.out]
    have HTW := Lib.hid (twin_any xk xh xA xn xc ns xs w1 HD1.out.rx (by have := HXN.out; omega))
    go_enter Try.func16, Try.ntmps16
    go_upto_region 1 with fail
    clear hw1
    go_wp2_with (first
      | (go_at_call 19; refine HTW.out.mono ?_; rintro e w2 ⟨A2, c2, rfl, ho2, hb2⟩; have HO2 := Lib.hid ho2; have HB2 := Lib.hid hb2; clear ho2 hb2)
      | (go_at_call 21; refine (issue_any xk xh A2 ns.length c2 ns xs gd (HC1.out.below HB2.out) HOK.out (by have := HN.out; omega) (by have := HN.out; omega) HD1.out.xh (Reads.of_own HO2.out) HD1.out.u HGD.out).mono ?_; rw [← HBC.out]; rintro e w3 ⟨v, l, p', rfl, hs, hf⟩; have HS := Lib.hid hs; have HF := Lib.hid hf; clear hs hf))
    go_ret
    have HB3 := Lib.hid (HB1.out.trans (HB2.out.mono HB1.out.size))
    exact ⟨_, l, p', rfl, Stp.pre HC.out HB3.out HS.out (by omega), Frs.pre HB3.out HF.out⟩
  · have HA : Hid (F = ((issueF c gd bc).2.1, (issueF c gd bc).2.2.2)) := Lib.hid (by rw [hact, eK]; simp)
    clear hact
    rw [HA.out]
    have HTW := Lib.hid (twin_any xk xh xA xn xc ns xs w1 HD1.out.rx (by have := HXN.out; omega))
    go_enter Try.func16, Try.ntmps16
    go_upto_region 1 with fail
    clear hw1
    go_wp2_with (first
      | (go_at_call 19; refine HTW.out.mono ?_; rintro e w2 ⟨A2, c2, rfl, ho2, hb2⟩; have HO2 := Lib.hid ho2; have HB2 := Lib.hid hb2; clear ho2 hb2)
      | (go_at_call 21; refine (issue_any xk xh A2 ns.length c2 ns xs gd (HC1.out.below HB2.out) HOK.out (by have := HN.out; omega) (by have := HN.out; omega) HD1.out.xh (Reads.of_own HO2.out) HD1.out.u HGD.out).mono ?_; rw [← HBC.out]; rintro e w3 ⟨v, l, p', rfl, hs, hf⟩; have HS := Lib.hid hs; have HF := Lib.hid hf; clear hs hf))
    go_ret
    have HB3 := Lib.hid (HB1.out.trans (HB2.out.mono HB1.out.size))
    exact ⟨_, l, p', rfl, Stp.pre HC.out HB3.out HS.out (by omega), Frs.pre HB3.out HF.out⟩
  · have HA : Hid (F = ((connF c).1, (connF c).2.2)) := Lib.hid (by rw [hact, eK]; simp)
    clear hact
    rw [HA.out]
    go_enter Try.func16, Try.ntmps16
    go_upto_region 1 with fail
    clear hw1
    go_wp2_with (go_at_call 20; refine (connect_any HC1.out HOK.out).mono ?_; rintro e w2 ⟨v, l, p', rfl, hs, hf⟩; have HS := Lib.hid hs; have HF := Lib.hid hf; clear hs hf)
    go_ret
    exact ⟨_, l, p', rfl, Stp.pre HC.out HB1.out HS.out (by omega), Frs.pre HB1.out HF.out⟩
  · have HA : Hid (F = ([], (cutF c).2)) := Lib.hid (by rw [hact, eK]; simp)
    clear hact
    rw [HA.out]
    go_enter Try.func16, Try.ntmps16
    go_upto_region 1 with fail
    clear hw1
    go_wp2_with (go_at_call 38; refine (cut_any HC1.out HOK.out HP.out).mono ?_; rintro e w2 ⟨p', rfl, hs⟩; have HS := Lib.hid hs; clear hs)
    go_ret
    exact ⟨_, [], p', rfl, Stp.pre HC.out HB1.out HS.out (by omega), Frs.nil _ _ _⟩
  · have HA : Hid (F = recvF c ck) := Lib.hid (by rw [hact, eK]; simp)
    clear hact
    rw [HA.out]
    go_enter Try.func16, Try.ntmps16
    go_upto_region 1 with fail
    clear hw1
    go_wp2_with (first
      | (go_at_call 39; refine (chunk_any K xk xh xA xn xc xs k t s a A n cc B nb cb Z body bb w1 HD1.out.r HD1.out.rb HD1.out.t HD1.out.s HD1.out.a (by have := HNB.out; omega)).mono ?_; rw [← HCH.out]; rintro e w2 ⟨A2, n2, c2, rfl, hn2, hr2, hb2⟩; have HN2 := Lib.hid hn2; have HR2 := Lib.hid hr2; have HB2 := Lib.hid hb2; clear hn2 hr2 hb2)
      | (go_at_call 22; refine (receive_any A2 n2 c2 ck (HC1.out.below HB2.out) HOK.out (by have := HN.out; omega) HR2.out (by have := HN2.out; have := HCK.out; have := HBL.out; have := HNB.out; omega) HP.out).mono ?_; rintro e w3 ⟨v, l, p', rfl, hs, hf⟩; have HS := Lib.hid hs; have HF := Lib.hid hf; clear hs hf))
    go_ret
    have HB3 := Lib.hid (HB1.out.trans (HB2.out.mono HB1.out.size))
    exact ⟨_, l, p', rfl, Stp.pre HC.out HB3.out HS.out (by have := HN2.out; have := HCK.out; have := HBL.out; omega), Frs.pre HB3.out HF.out⟩
  · have HA : Hid (F = recvF c ck) := Lib.hid (by rw [hact, eK]; simp)
    clear hact
    rw [HA.out]
    go_enter Try.func16, Try.ntmps16
    go_upto_region 1 with fail
    clear hw1
    go_wp2_with (first
      | (go_at_call 39; refine (chunk_any K xk xh xA xn xc xs k t s a A n cc B nb cb Z body bb w1 HD1.out.r HD1.out.rb HD1.out.t HD1.out.s HD1.out.a (by have := HNB.out; omega)).mono ?_; rw [← HCH.out]; rintro e w2 ⟨A2, n2, c2, rfl, hn2, hr2, hb2⟩; have HN2 := Lib.hid hn2; have HR2 := Lib.hid hr2; have HB2 := Lib.hid hb2; clear hn2 hr2 hb2)
      | (go_at_call 22; refine (receive_any A2 n2 c2 ck (HC1.out.below HB2.out) HOK.out (by have := HN.out; omega) HR2.out (by have := HN2.out; have := HCK.out; have := HBL.out; have := HNB.out; omega) HP.out).mono ?_; rintro e w3 ⟨v, l, p', rfl, hs, hf⟩; have HS := Lib.hid hs; have HF := Lib.hid hf; clear hs hf))
    go_ret
    have HB3 := Lib.hid (HB1.out.trans (HB2.out.mono HB1.out.size))
    exact ⟨_, l, p', rfl, Stp.pre HC.out HB3.out HS.out (by have := HN2.out; have := HCK.out; have := HBL.out; omega), Frs.pre HB3.out HF.out⟩
  · have HA : Hid (F = recvF c ck) := Lib.hid (by rw [hact, eK]; simp)
    clear hact
    rw [HA.out]
    go_enter Try.func16, Try.ntmps16
    go_upto_region 1 with fail
    clear hw1
    go_wp2_with (first
      | (go_at_call 39; refine (chunk_any K xk xh xA xn xc xs k t s a A n cc B nb cb Z body bb w1 HD1.out.r HD1.out.rb HD1.out.t HD1.out.s HD1.out.a (by have := HNB.out; omega)).mono ?_; rw [← HCH.out]; rintro e w2 ⟨A2, n2, c2, rfl, hn2, hr2, hb2⟩; have HN2 := Lib.hid hn2; have HR2 := Lib.hid hr2; have HB2 := Lib.hid hb2; clear hn2 hr2 hb2)
      | (go_at_call 22; refine (receive_any A2 n2 c2 ck (HC1.out.below HB2.out) HOK.out (by have := HN.out; omega) HR2.out (by have := HN2.out; have := HCK.out; have := HBL.out; have := HNB.out; omega) HP.out).mono ?_; rintro e w3 ⟨v, l, p', rfl, hs, hf⟩; have HS := Lib.hid hs; have HF := Lib.hid hf; clear hs hf))
    go_ret
    have HB3 := Lib.hid (HB1.out.trans (HB2.out.mono HB1.out.size))
    exact ⟨_, l, p', rfl, Stp.pre HC.out HB3.out HS.out (by have := HN2.out; have := HCK.out; have := HBL.out; omega), Frs.pre HB3.out HF.out⟩
  · have HA : Hid (F = recvF c ck) := Lib.hid (by rw [hact, eK]; simp)
    clear hact
    rw [HA.out]
    go_enter Try.func16, Try.ntmps16
    go_upto_region 1 with fail
    clear hw1
    go_wp2_with (first
      | (go_at_call 39; refine (chunk_any K xk xh xA xn xc xs k t s a A n cc B nb cb Z body bb w1 HD1.out.r HD1.out.rb HD1.out.t HD1.out.s HD1.out.a (by have := HNB.out; omega)).mono ?_; rw [← HCH.out]; rintro e w2 ⟨A2, n2, c2, rfl, hn2, hr2, hb2⟩; have HN2 := Lib.hid hn2; have HR2 := Lib.hid hr2; have HB2 := Lib.hid hb2; clear hn2 hr2 hb2)
      | (go_at_call 22; refine (receive_any A2 n2 c2 ck (HC1.out.below HB2.out) HOK.out (by have := HN.out; omega) HR2.out (by have := HN2.out; have := HCK.out; have := HBL.out; have := HNB.out; omega) HP.out).mono ?_; rintro e w3 ⟨v, l, p', rfl, hs, hf⟩; have HS := Lib.hid hs; have HF := Lib.hid hf; clear hs hf))
    go_ret
    have HB3 := Lib.hid (HB1.out.trans (HB2.out.mono HB1.out.size))
    exact ⟨_, l, p', rfl, Stp.pre HC.out HB3.out HS.out (by have := HN2.out; have := HCK.out; have := HBL.out; omega), Frs.pre HB3.out HF.out⟩
  · have HA : Hid (F = tickF c Z) := Lib.hid (by rw [hact, eK]; simp)
    clear hact
    rw [HA.out]
    go_enter Try.func16, Try.ntmps16
    go_upto_region 1 with fail
    clear hw1
    go_wp2_with (go_at_call 24; refine (tick_any Z HC1.out HOK.out (by have := HN.out; omega)).mono ?_; rintro e w2 ⟨v, l, p', rfl, hs, hf⟩; have HS := Lib.hid hs; have HF := Lib.hid hf; clear hs hf)
    go_ret
    exact ⟨_, l, p', rfl, Stp.pre HC.out HB1.out HS.out (by omega), Frs.pre HB1.out HF.out⟩
  · have HA : Hid (F = ([], c)) := Lib.hid (by rw [hact]; obtain ⟨e0, e1, e2, e3, e4, e5, e6, e7, e8⟩ := eK; rw [if_neg (by omega), if_neg (by omega), if_neg (by omega), if_neg (by omega), if_neg (by omega)])
    clear hact
    rw [HA.out]
    obtain ⟨e0, e1, e2, e3, e4, e5, e6, e7, e8⟩ := eK
    go_enter Try.func16, Try.ntmps16
    go_upto_region 1 with fail
    clear hw1
    go_wp2
    go_ret
    exact ⟨_, [], p, rfl, Stp.pre HC.out HB1.out (Stp.refl HC1.out 0) (by omega), Frs.nil _ _ _⟩
end Go.Proofs.Ytjhkfpemcplaaaa
