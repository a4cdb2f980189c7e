/-
  The walk of awake. No statement of the seat is proved here.
-/
import Derived.Test.YtjhkfpemcplaaaaClN
import Derived.Test.YtjhkfpemcplaaaaClO
import Derived.Test.YtjhkfpemcplaaaaPb
namespace Go.Proofs.Ytjhkfpemcplaaaa
open Go.RowKit

/-- a frame that a call handed over, alone -/
structure One (w' : World) (n : Nat) (bs : List UInt8) (v : Value) (g : Nat) (A : Option Addr) (c : Nat) : Prop where
  val : ∃ cb, v = .slice (some ⟨g, 0, none⟩) 1 cb
  cell : w'.cell? ⟨g, 0, none⟩ = some (.slice A n c)
  rd : RdB w' w'.heap.size A n bs
  cap : n ≤ c
  lt : g < w'.heap.size
theorem frs_one {w w' : World} {p' : Pa} {bs : List UInt8} {v : Value} {l : List (QX (List UInt8))} (h : Frs w p' [bs] v l w') : ∃ g A c, One w' bs.length bs v g A c := by
  have h1 : l.length = 1 := by have := congrArg List.length h.is; simpa using this
  obtain ⟨q, rfl⟩ := List.length_eq_one_iff.1 h1
  have h2 := h.is
  simp only [List.map_cons, List.map_nil, List.cons.injEq, and_true] at h2
  obtain ⟨g, cb, e1, _, hg, hc⟩ := h.row.at_ kB_len (i := 0) (q := q) rfl
  have hx : w'.cell? ⟨g, 0, none⟩ = some (.slice q.2.1 q.1.length q.2.2) := by
    have := hc 0 _ rfl
    simpa [kB, Kd.val] using this
  have ho : OwnB 5 w' w.heap.size (.slice q.2.1 q.1.length q.2.2) q.1 := h.row.els q (by simp)
  obtain ⟨A', c', e2, h3, _⟩ := own_formL ho
  injection e2 with _ _ e3
  subst h2
  exact ⟨g, q.2.1, q.2.2, ⟨cb, e1⟩, hx, OwnB.reads (e := 5) (c := q.2.2) ho rfl, by omega, hg⟩
theorem frs_none {w w' : World} {p' : Pa} {v : Value} {l : List (QX (List UInt8))} (h : Frs w p' [] v l w') : ∃ A c, v = .slice A 0 c := by
  have h1 : l = [] := List.map_eq_nil_iff.1 h.is
  subst h1
  obtain ⟨A, c, e, _, _⟩ := h.row.form
  exact ⟨A, c, e⟩
theorem unp_frm {q : Pk} (h : okPk q) : unp (frm q) = (0, q) := by
  obtain ⟨h1, h2, h3, h4⟩ := h
  have := unp_dec (q.kind : Int) q.tok q.seq q.ack q.body h2 h3 h4 h1
  unfold frm
  rw [this]
  rfl
theorem frm_len {q : Pk} (h : okPk q) : (frm q).length ≤ 1088 := by
  obtain ⟨h1, _⟩ := h
  obtain ⟨_, _, hb⟩ := mayB_no h1
  have h5 := (inner_len (q.kind : Int) q.tok q.seq q.ack q.body hb).2
  unfold frm packB
  rw [frame_len]
  omega
def awB : List UInt8 := cmdB 1 0 [] []
def awC0 : Cl := Cl.new 7 2 3
def awC1 : Cl := { awC0 with conn := true }
def awC2 : Cl := { awC1 with bodies := [awB], iss := 1 }
def awC3 : Cl := { awC2 with tok := 1, greet := true }
theorem aw_conn : connF awC0 = ([⟨1, 0, 7, 0, []⟩], 0, awC1) := rfl
theorem aw_iss : issueF awC1 true awB = (1, [], 0, awC2) := rfl
theorem awB_len : awB.length ≤ 1024 := by decide
theorem aw_good : goodC 1 0 [] [] := ⟨by decide, by decide, by decide, by decide, awB_len⟩
theorem aw_ok0 : awC0.Ok 0 := ⟨by decide, by decide, by decide, rfl, (fun b h => by cases h), by decide, rfl, by decide, by decide, by decide, by decide, by decide, by decide⟩
theorem aw_ok1 : awC1.Ok 0 := ⟨by decide, by decide, by decide, rfl, (fun b h => by cases h), by decide, rfl, by decide, by decide, by decide, by decide, by decide, by decide⟩
theorem aw_ok2 : awC2.Ok 1 := ⟨by decide, by decide, by decide, rfl, fun b h => by
  have : b = awB := by simpa [awC2] using h
  subst this; exact awB_len, by decide, rfl, by decide, by decide, by decide, by decide, by decide, by decide⟩
theorem aw_recv : recvF awC2 (frm ⟨2, 1, 0, 0, []⟩) = ([⟨3, 1, 1, 0, awB⟩], awC3) := by
  have hq : okPk ⟨2, 1, 0, 0, []⟩ := ⟨by decide, by decide, by decide, by decide⟩
  unfold recvF
  rw [if_neg (by decide), show awC2.kept ++ frm ⟨2, 1, 0, 0, []⟩ = frm ⟨2, 1, 0, 0, []⟩ from rfl, feed_frame hq]
  rfl
theorem okPk_h : okPk ⟨1, 0, 7, 0, []⟩ := ⟨by decide, by decide, by decide, by decide⟩
theorem okPk_c : okPk ⟨3, 1, 1, 0, awB⟩ := ⟨by decide, by decide, by decide, by decide⟩
def hp0 : Value := .agg #[.int .i64 1, .int .u64 0, .int .u64 7, .int .u64 0, .slice none 0 0]
theorem unp_h {w : World} {A : Option Addr} {n c : Nat} (h : RdB w w.heap.size A n (frm ⟨1, 0, 7, 0, []⟩)) (hc : n ≤ c) (hn : n ≤ 1088) : Calls Try.prog 17 #[.slice A n c] w fun e w' => ∃ A2 c2, e = .returned (.tuple #[.agg #[.int .i64 1, .int .u64 0, .int .u64 7, .int .u64 0, .slice A2 0 c2], .int .i64 0]) ∧ Below w.heap.size w w' := by
  refine (runp_any A n c _ w h hc (by omega)).mono ?_
  rintro e w' ⟨A2, c2, he, _, hb⟩
  rw [unp_frm okPk_h] at he
  exact ⟨A2, c2, he, hb⟩
theorem unp_c {w : World} {A : Option Addr} {n c : Nat} (h : RdB w w.heap.size A n (frm ⟨3, 1, 1, 0, awB⟩)) (hc : n ≤ c) (hn : n ≤ 1088) : Calls Try.prog 17 #[.slice A n c] w fun e w' => ∃ A2 n2 c2, e = .returned (.tuple #[.agg #[.int .i64 3, .int .u64 1, .int .u64 1, .int .u64 0, .slice A2 n2 c2], .int .i64 0]) ∧ Below w.heap.size w w' := by
  refine (runp_any A n c _ w h hc (by omega)).mono ?_
  rintro e w' ⟨A2, c2, he, _, hb⟩
  rw [unp_frm okPk_c] at he
  exact ⟨A2, _, c2, he, hb⟩
theorem aw_new (w : World) : Calls Try.prog 10 #[.int .u64 7, .int .i64 2, .int .i64 3] w (NewP w awC0) := new_ok 7 2 3 w (by decide) (by decide) (by decide) (by decide) (by decide)
theorem aw_connect {base : Nat} {p : Pa} {w : World} (h : CA base w p awC0) : Calls Try.prog 20 #[.pointer (some ⟨p.g, 0, none⟩)] w (AnsP base w p 0 awC1 [⟨1, 0, 7, 0, []⟩] fun v => .tuple #[v, .int .i64 0]) := connect_any h aw_ok0
theorem aw_issue {base : Nat} {p : Pa} {w : World} (h : CA base w p awC1) : Calls Try.prog 21 #[.pointer (some ⟨p.g, 0, none⟩), .agg #[.int .i64 1, .int .u64 0, .slice none 0 0, .string ⟨#[]⟩]] w (AnsP base w p 0 awC2 [] fun v => .tuple #[.int .u64 1, v, .int .i64 0]) := by
  have h1 := issue_any (N := 0) 1 0 none 0 0 [] ⟨#[]⟩ true h aw_ok1 (by decide) (by decide) (by decide) Reads.none_ (fun z hz => by cases hz) ⟨fun _ => aw_good, fun _ => rfl⟩
  exact h1
theorem aw_pack (w : World) : Calls Try.prog 23 #[.agg #[.int .i64 2, .int .u64 1, .int .u64 0, .int .u64 0, .slice none 0 0]] w fun e w' => ∃ A c, e = .returned (.slice A (frm ⟨2, 1, 0, 0, []⟩).length c) ∧ RdB w' w'.heap.size A (frm ⟨2, 1, 0, 0, []⟩).length (frm ⟨2, 1, 0, 0, []⟩) ∧ Below w.heap.size w w' := by
  refine (rpack_ok 2 1 0 0 none 0 0 [] w Reads.none_ (by decide) (by decide) (by decide) (by decide)).mono ?_
  rintro e w' ⟨v, rfl, ho, hb⟩
  have ho' : OwnB 5 w' w.heap.size v (frm ⟨2, 1, 0, 0, []⟩) := ho
  obtain ⟨A, c, rfl, _, _⟩ := own_formL ho'
  exact ⟨A, c, rfl, OwnB.reads (e := 5) (c := c) ho' rfl, hb⟩
theorem aw_receive {base : Nat} {p : Pa} {w : World} {A : Option Addr} {c : Nat} (h : CA base w p awC2) (hr : RdB w w.heap.size A (frm ⟨2, 1, 0, 0, []⟩).length (frm ⟨2, 1, 0, 0, []⟩)) (hd : p.d ≤ 1152921504606846976) : Calls Try.prog 22 #[.pointer (some ⟨p.g, 0, none⟩), .slice A (frm ⟨2, 1, 0, 0, []⟩).length c] w (AnsP base w p ((frm ⟨2, 1, 0, 0, []⟩).length + 1088) awC3 [⟨3, 1, 1, 0, awB⟩] fun v => v) := by
  have hl := frm_len (q := ⟨2, 1, 0, 0, []⟩) ⟨by decide, by decide, by decide, by decide⟩
  have h1 := receive_any (N := 1) A _ c _ h aw_ok2 (by decide) hr (by omega) hd
  rw [aw_recv] at h1
  exact h1
/-- awake's client on its way -/
structure AwS (w0 : World) (g : Nat) (p : Pa) (c : Cl) (m : Nat) (B : Option (Nat × Array Value)) (w : World) : Prop where
  ca : CA w0.heap.size w p c
  gp : p.g = g
  old : Below w0.heap.size w0 w
  d : p.d ≤ (m : Int)
  kb : ∀ x, B = some x → Blk w x.1 39 x.2 ∧ ¬ CF p x.1 ∧ w0.heap.size ≤ x.1
section
variable {w0 w w' : World} {g m k : Nat} {p p' : Pa} {c c' : Cl} {B : Option (Nat × Array Value)}
theorem AwS.below (h : AwS w0 g p c m B w) (hb : Below w.heap.size w w') : AwS w0 g p c m B w' :=
  ⟨h.ca.below hb, h.gp, h.old.trans (hb.mono h.old.size), h.d, fun x e => ⟨(hb.block x.1 (h.kb x e).1.lt).trans (h.kb x e).1, (h.kb x e).2⟩⟩
theorem AwS.step (h : AwS w0 g p c m B w) (s : Stp w0.heap.size w p k c' p' w') : AwS w0 g p' c' (m + k) B w' :=
  ⟨s.ca, s.g.trans h.gp, h.old.trans (s.chg.below h.old.size fun i hi hc => by have := (h.ca.lt hc).1; omega), by have := s.d; have := h.d; omega,
   fun x e => ⟨s.chg.blk (h.kb x e).1 (h.kb x e).2.1, fun hc => by
    rcases s.sub _ hc with h1 | h1
    · exact (h.kb x e).2.1 h1
    · have := (h.kb x e).1.lt; omega, (h.kb x e).2.2⟩⟩
/-- the packet's block -/
theorem AwS.box (h : AwS w0 g p c m B w) (cs : Array Value) : AwS w0 g p c m (some (w.heap.size, cs)) (w.alloc (.cells cs 39)) :=
  ⟨h.ca.below ((Below.refl _ _).alloc (Nat.le_refl _) _), h.gp, h.old.alloc h.old.size _, h.d, fun x e => by
    injection e with e
    subst e
    exact ⟨Blk.new w 39 cs, fun hc => by have := (h.ca.lt hc).2; dsimp only at this; omega, h.old.size⟩⟩
/-- a frame alone, its bytes -/
def FrA (w : World) (bs : List UInt8) (v : Value) : Prop := ∃ (g : Nat) (A : Option Addr) (n c cb : Nat), v = .slice (some ⟨g, 0, none⟩) 1 cb ∧ w.cell? ⟨g, 0, none⟩ = some (.slice A n c) ∧ RdB w w.heap.size A n bs ∧ n ≤ c ∧ n ≤ 1088 ∧ g < w.heap.size
theorem frA_of {q : Pk} {v : Value} {l : List (QX (List UInt8))} (hq : okPk q) (h : Frs w p' [frm q] v l w') : FrA w' (frm q) v := by
  obtain ⟨g, A, c, h1⟩ := frs_one h
  obtain ⟨cb, rfl⟩ := h1.val
  exact ⟨g, A, _, c, cb, rfl, h1.cell, h1.rd, h1.cap, frm_len hq, h1.lt⟩
theorem aw_connect2 (h : AwS w0 g p awC0 m B w) : Calls Try.prog 20 #[.pointer (some ⟨g, 0, none⟩)] w fun e w' => ∃ p' v, e = .returned (.tuple #[v, .int .i64 0]) ∧ AwS w0 g p' awC1 m B w' ∧ FrA w' (frm ⟨1, 0, 7, 0, []⟩) v := by
  have h1 := aw_connect h.ca
  rw [h.gp] at h1
  refine h1.mono ?_
  rintro e w' ⟨v, l, p', he, hs, hf⟩
  exact ⟨p', v, he, h.step hs, frA_of okPk_h hf⟩
theorem aw_issue2 (h : AwS w0 g p awC1 m B w) : Calls Try.prog 21 #[.pointer (some ⟨g, 0, none⟩), .agg #[.int .i64 1, .int .u64 0, .slice none 0 0, .string ⟨#[]⟩]] w fun e w' => ∃ p' A c, e = .returned (.tuple #[.int .u64 1, .slice A 0 c, .int .i64 0]) ∧ AwS w0 g p' awC2 m B w' := by
  have h1 := aw_issue h.ca
  rw [h.gp] at h1
  refine h1.mono ?_
  rintro e w' ⟨v, l, p', he, hs, hf⟩
  obtain ⟨A, c, rfl⟩ := frs_none hf
  exact ⟨p', A, c, he, h.step hs⟩
theorem aw_receive2 {A : Option Addr} {cc : Nat} (h : AwS w0 g p awC2 0 B w) (hr : RdB w w.heap.size A (frm ⟨2, 1, 0, 0, []⟩).length (frm ⟨2, 1, 0, 0, []⟩)) : Calls Try.prog 22 #[.pointer (some ⟨g, 0, none⟩), .slice A (frm ⟨2, 1, 0, 0, []⟩).length cc] w fun e w' => ∃ p' m' v, e = .returned v ∧ AwS w0 g p' awC3 m' B w' ∧ FrA w' (frm ⟨3, 1, 1, 0, awB⟩) v := by
  have h1 := aw_receive (c := cc) h.ca hr (by have := h.d; omega)
  rw [h.gp] at h1
  refine h1.mono ?_
  rintro e w' ⟨v, l, p', he, hs, hf⟩
  exact ⟨p', _, v, he, h.step hs, frA_of okPk_c hf⟩
end
set_option maxRecDepth 20000 in
set_option maxHeartbeats 4000000 in
theorem awake_any (w : World) : Calls Try.prog 12 #[] w fun e w' => e = .returned (.bool true) ∧ Below w.heap.size w w' := by
  go_enter Try.func12, Try.ntmps12
  go_upto_region 4 with (first
    | (go_at_call 10; refine (aw_new _).mono ?_; rintro e w1 ⟨p, rfl, hca, hd, hb⟩; have HS := Lib.hid (AwS.mk (B := none) (m := 0) hca rfl hb (by omega) (fun x e => by cases e)); clear hca hd hb)
    | (go_at_call 13; refine (num_any _ _).mono ?_; rintro e w2 ⟨rfl, rfl⟩))
  go_upto_region 7 with (first
    | (go_at_call 20; refine (aw_connect2 HS.out).mono ?_; rintro e w3 ⟨p1, v1, rfl, hs, g1, A1, n1, c1, cb1, rfl, hx, hr, hc1, hn1, hg1⟩; have HS1 := Lib.hid hs; have HR1 := Lib.hid hr; clear hs hr)
    | (go_at_call 13; refine (num_any _ _).mono ?_; rintro e w2 ⟨rfl, rfl⟩))
  have z39 : ∀ w : World, (zeroValue 39).run Try.prog w = .ok (.agg #[.int .i64 0, .int .u64 0, .int .u64 0, .int .u64 0, .slice none 0 0]) w := fun w => by kernel_rfl
  go_upto_region 8 with (go_at_call 17; refine (unp_h HR1.out hc1 hn1).mono ?_; rintro e w4 ⟨A2, c2, rfl, hb⟩; have HS2 := Lib.hid (HS1.out.below hb); clear hb)
  have HS3 := Lib.hid (HS2.out.box #[.int .i64 1, .int .u64 0, .int .u64 7, .int .u64 0, .slice A2 0 c2])
  generalize w4.alloc (.cells #[.int .i64 1, .int .u64 0, .int .u64 7, .int .u64 0, .slice A2 0 c2] 39) = w5 at *
  generalize w4.heap.size = b at *
  clear HS1 HS2 HS HR1 hx hc1 hn1 hg1
  have hblk := (HS3.out.kb _ rfl).1
  have y0 : w5.cell? ⟨b, 0, none⟩ = some (.int .i64 1) := hblk.cell 0
  have y2 : w5.cell? ⟨b, 2, none⟩ = some (.int .u64 7) := hblk.cell 2
  clear hblk
  go_upto_region 10 with fail
  clear y0 y2
  go_upto_region 13 with (first
    | (go_at_call 21; refine (aw_issue2 HS3.out).mono ?_; rintro e w6 ⟨p2, A3, c3, rfl, hs⟩; have HS4 := Lib.hid hs; clear hs)
    | (go_at_call 13; refine (num_any _ _).mono ?_; rintro e w2 ⟨rfl, rfl⟩))
  go_upto_region 16 with (first
    | (go_at_call 23; refine (aw_pack _).mono ?_; rintro e w7 ⟨A4, c4, rfl, hr, hb⟩; have HS5 := Lib.hid (HS4.out.below hb); have HR5 := Lib.hid hr; clear hr hb)
    | (go_at_call 22; refine (aw_receive2 HS5.out HR5.out).mono ?_; rintro e w8 ⟨p3, m3, v3, rfl, hs, g6, A6, n6, c6, cb6, rfl, hx, hr, hc6, hn6, hg6⟩; have HS6 := Lib.hid hs; have HR6 := Lib.hid hr; clear hs hr))
  go_upto_region 17 with (go_at_call 17; refine (unp_c HR6.out hc6 hn6).mono ?_; rintro e w9 ⟨A7, n7, c7, rfl, hb⟩; have HS7 := Lib.hid (HS6.out.below hb); have hb0 := (HS7.out.kb _ rfl).1; have hl0 := hb0.lt; have f0 := hb0.frozen 0; have f1 := hb0.frozen 1; have f2 := hb0.frozen 2; have f3 := hb0.frozen 3; have f4 := hb0.frozen 4; have y0 : w9.cell? ⟨b, 0, none⟩ = some (.int .i64 1) := hb0.cell 0; have y1 : w9.cell? ⟨b, 1, none⟩ = some (.int .u64 0) := hb0.cell 1; have y2 : w9.cell? ⟨b, 2, none⟩ = some (.int .u64 7) := hb0.cell 2; have y3 : w9.cell? ⟨b, 3, none⟩ = some (.int .u64 0) := hb0.cell 3; have y4 : w9.cell? ⟨b, 4, none⟩ = some (.slice A2 0 c2) := hb0.cell 4; clear hb)
  have hge : w.heap.size ≤ b := (HS7.out.kb _ rfl).2.2
  have HB9 := Lib.hid (((((HS7.out.old.setCell (p := ⟨b, 0, none⟩) hge (.int .i64 3)).setCell (p := ⟨b, 1, none⟩) hge (.int .u64 1)).setCell (p := ⟨b, 2, none⟩) hge (.int .u64 1)).setCell (p := ⟨b, 3, none⟩) hge (.int .u64 0)).setCell (p := ⟨b, 4, none⟩) hge (.slice A7 n7 c7))
  clear f0 f1 f2 f3 f4 HS7 HR6 HS6
  go_wp2
  go_ret
  exact ⟨rfl, HB9.out⟩
end Go.Proofs.Ytjhkfpemcplaaaa
