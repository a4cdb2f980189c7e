/-
  Merged: DlA, DlB, DlC, DlD, DlE, DlF.
-/
import Derived.Test.YtjhkfpemcplaaaaClA
import Derived.Test.YtjhkfpemcplaaaaPu
import Derived.Test.YtjhkfpemcplaaaaClC
namespace Go.Proofs.Ytjhkfpemcplaaaa
open Go.RowKit

/-- the blocks of the document's client, but for what its reader keeps -/
def CFd (p : Pa) (k : Nat) : Prop := k = p.g ∨ k = p.r ∨ (p.bv.ownBlock = some k ∨ kB.inB p.bl k) ∨ (p.rv.ownBlock = some k ∨ kR.inB p.rl k) ∨ (p.ev.ownBlock = some k ∨ kE.inB p.el k)
/-- what the reader keeps, as a slice; nothing where it keeps nothing -/
def kvOf (A : Option Addr) (n k : Nat) : Value := if n = 0 then .slice none 0 0 else .slice A n k
/-- the document's client; what the reader keeps lies apart from the rest -/
structure CD (base : Nat) (w : World) (p : Pa) (c : Cl) : Prop where
  blk : Blk w p.g 94 (layD c p)
  rd : ∃ A k N, p.kv = kvOf A c.kept.length k ∧ XRd w p.r N A k c.kept p.d ∧ N ≤ w.heap.size ∧ base ≤ N ∧ ∀ ad, A = some ad → 0 < c.kept.length → ¬ CFd p ad.block
  rows : CR base w p c
  ge : base ≤ p.g ∧ base ≤ p.r
  dr : 0 ≤ p.d
theorem CD.below {base : Nat} {w w' : World} {p : Pa} {c : Cl} (h : CD base w p c) (hb : Below w.heap.size w w') : CD base w' p c := by
  obtain ⟨A, k, N, hkv, ⟨x1, x2, x3, x4⟩, hN, hbN, ha⟩ := h.rd
  exact ⟨(hb.block _ h.blk.lt).trans h.blk, ⟨A, k, N, hkv, ⟨(hb.block _ x1.lt).trans x1, (x2.below hb).more hb.size, x3, x4⟩, Nat.le_trans hN hb.size, hbN, ha⟩, h.rows.keep fun k hk => hb.block k (h.rows.lt hk).2, h.ge, h.dr⟩
set_option maxRecDepth 20000 in
theorem rnew_bad (nonce : Nat) (win pat : Int) (w : World) (h : ¬ (1 ≤ nonce ∧ 1 ≤ win ∧ win ≤ 16 ∧ 1 ≤ pat ∧ pat ≤ 1000)) :
    Calls Try.prog 34 #[.int .u64 (nonce : Int), .int .i64 win, .int .i64 pat] w fun e w' => e = .returned (.pointer none) ∧ w = w' := by
  have h2 : nonce = 0 ∨ (1 ≤ nonce ∧ win < 1) ∨ (1 ≤ nonce ∧ 1 ≤ win ∧ 16 < win) ∨ (1 ≤ nonce ∧ 1 ≤ win ∧ win ≤ 16 ∧ pat < 1) ∨ (1 ≤ nonce ∧ 1 ≤ win ∧ win ≤ 16 ∧ 1 ≤ pat ∧ 1000 < pat) := by omega
  clear h
  rcases h2 with rfl | ⟨h1, h2⟩ | ⟨h1, h2, h3⟩ | ⟨h1, h2, h3, h4⟩ | ⟨h1, h2, h3, h4, h5⟩
  · go_enter Try.func34, Try.ntmps34
    go_wp2
    go_ret
    exact ⟨rfl, rfl⟩
  all_goals
    have d1 : ((nonce : Int) == 0) = false := by simp; omega
    clear h1
    go_enter Try.func34, Try.ntmps34
    go_wp2
    go_ret
    exact ⟨rfl, rfl⟩
def RNewP (w : World) (c : Cl) (e : Ending) (w' : World) : Prop :=
  ∃ p, e = .returned (.pointer (some ⟨p.g, 0, none⟩)) ∧ CD w.heap.size w' p c ∧ p.d = 0 ∧ Below w.heap.size w w'
set_option maxRecDepth 20000 in
theorem rnew_ok (nonce win pat : Nat) (w : World) (h1 : 1 ≤ nonce) (h2 : 1 ≤ win) (h3 : win ≤ 16) (h4 : 1 ≤ pat) (h5 : pat ≤ 1000) :
    Calls Try.prog 34 #[.int .u64 (nonce : Int), .int .i64 (win : Int), .int .i64 (pat : Int)] w (RNewP w (Cl.new nonce win pat)) := by
  have d1 : ((nonce : Int) == 0) = false := by simp; omega
  clear h1
  go_enter Try.func34, Try.ntmps34
  go_wp2
  go_ret
  refine ⟨⟨w.heap.size + 1, w.heap.size, .slice none 0 0, 0, .slice none 0 0, .slice none 0 0, .slice none 0 0, [], [], []⟩, ?_, ⟨?_, ⟨none, 0, w.heap.size, rfl, ⟨?_, Reads.none_, Nat.le_refl _, fun ad e => by cases e⟩, by simp; omega, Nat.le_refl _, fun ad e => by cases e⟩, rows_nil _ _ _ _ _ _ _ _, ⟨by dsimp only; omega, Nat.le_refl _⟩, Int.le_refl _⟩, rfl, ?_⟩
  · rfl
  · exact Blk.new' _ 94 _ _ (by simp)
  · exact (Blk.new w 77 _).alloc _
  · exact ((Below.refl _ _).alloc (Nat.le_refl _) _).alloc (by simp) _
/-- the document's frame -/
theorem rframe_any (k : Int) (t s a : Nat) (A : Option Addr) (n c : Nat) (bs : List UInt8) (w : World) (hr : RdB w w.heap.size A n bs) (hm : mayB k n = true)
    (ht : t < 18446744073709551616) (hs : s < 18446744073709551616) (ha : a < 18446744073709551616) :
    Calls Try.prog 85 #[.int .i64 k, .int .u64 (t : Int), .int .u64 (s : Int), .int .u64 (a : Int), .slice A n c] w fun e w' => ∃ v, e = .returned v ∧ OwnB 5 w' w.heap.size v (packB k t s a bs) ∧ Below w.heap.size w w' := by
  have HP := Lib.hid (rpack_ok k t s a A n c bs w hr hm ht hs ha)
  clear hr hm ht hs ha
  go_enter Try.func85, Try.ntmps85
  go_wp2_with (go_at_call 23; refine HP.out.mono ?_; rintro e w2 ⟨v, rfl, ho, hb⟩; have HO := Lib.hid ho; have HB := Lib.hid hb; clear ho hb)
  obtain ⟨A2, c2, rfl, _, _⟩ := HO.out.form
  go_ret
  exact ⟨_, rfl, HO.out, HB.out⟩
set_option maxRecDepth 20000 in
theorem rhello_any {base N : Nat} {p : Pa} {c : Cl} {w : World} (h : CD base w p c) (ok : c.Ok N) :
    Calls Try.prog 83 #[.pointer (some ⟨p.g, 0, none⟩)] w fun e w' => ∃ v, e = .returned v ∧ OwnB 5 w' w.heap.size v (frm c.hello) ∧ Below w.heap.size w w' := by
  have c0 : w.cell? ⟨p.g, 0, none⟩ = some (.int .u64 (c.nonce : Int)) := h.blk.cell 0
  have c3 : w.cell? ⟨p.g, 3, none⟩ = some (.int .u64 (c.tok : Int)) := h.blk.cell 3
  have hg := h.blk.lt
  have HF := Lib.hid (rframe_any 1 c.tok c.nonce 0 none 0 0 [] w.drew Reads.none_ (by decide) ok.tk ok.no.2 (by decide))
  have HE : Hid (packB 1 c.tok c.nonce 0 [] = frm c.hello) := Lib.hid rfl
  rw [HE.out] at HF
  generalize frm c.hello = fr at *
  generalize c.nonce = n at *
  generalize c.tok = t at *
  generalize p.g = g at *
  clear h ok HE
  go_enter Try.func83, Try.ntmps83
  go_upto_region 1 with fail
  go_region_held3 (fun W => W.cell? ⟨g, 0, none⟩ = some (.int .u64 (n : Int)) ∧ W.cell? ⟨g, 3, none⟩ = some (.int .u64 (t : Int)))
    (first | go_keep | exact hk6)
    ((go_at_call 85; refine HF.out.mono ?_; rintro e w2 ⟨v2, rfl, ho2, hb2⟩; have hk6 := And.intro ((hb2.cell (p := ⟨g, 0, none⟩) hg).trans c0) ((hb2.cell (p := ⟨g, 3, none⟩) hg).trans c3); obtain ⟨A2, c2, rfl, _, _⟩ := ho2.form; have HO : Hid (OwnB 5 w2 w.heap.size (.slice A2 fr.length c2) fr) := Lib.hid ho2; have HB : Hid (Below w.heap.size w w2) := Lib.hid ⟨hb2.os, hb2.tape, hb2.output, hb2.size, hb2.block⟩; clear ho2 hb2))
  all_goals
    go_wp2
    go_ret
    exact ⟨_, rfl, HO.out, HB.out⟩
end Go.Proofs.Ytjhkfpemcplaaaa
namespace Go.Proofs.Ytjhkfpemcplaaaa
open Go.RowKit

set_option maxRecDepth 20000 in
set_option maxHeartbeats 2000000 in
theorem rcmd_any {base N : Nat} {p : Pa} {c : Cl} {w : World} (h : CD base w p c) (ok : c.Ok N) (hN : N ≤ 1152921504606846976) (k : Nat) (h1 : 1 ≤ k) (h2 : k ≤ c.iss) :
    Calls Try.prog 82 #[.pointer (some ⟨p.g, 0, none⟩), .int .u64 (k : Int)] w fun e w' => ∃ v, e = .returned v ∧ OwnB 5 w' w.heap.size v (frm (c.cmd k)) ∧ Below w.heap.size w w' := by
  have hl : k - 1 < p.bl.length := by
    have e1 := congrArg List.length h.rows.bi
    rw [List.length_map] at e1
    have := ok.bl
    omega
  obtain ⟨q, hq⟩ : ∃ q, p.bl[k - 1]? = some q := ⟨_, List.getElem?_eq_getElem hl⟩
  have hbody : (c.cmd k).body = q.1 := by
    show c.bodies.getD (k - 1) [] = q.1
    rw [← h.rows.bi, List.getD_eq_getElem?_getD, List.getElem?_map, hq]
    rfl
  have hcq := cmd_ok ok hN h2
  have hm : mayB 3 q.1.length = true := by rw [← hbody]; exact hcq.1
  have hfr : packB 3 c.tok k c.rep q.1 = frm (c.cmd k) := by rw [← hbody]; rfl
  obtain ⟨gb, cb, hbv, _, hgb, hcell⟩ := h.rows.b.at_ kB_len hq
  have hx : w.cell? ⟨gb, k - 1, none⟩ = some (.slice q.2.1 q.1.length q.2.2) := by
    have := hcell 0 _ rfl
    simpa [kB, Kd.val] using this
  have hown := h.rows.b.els q (List.mem_of_getElem? hq)
  have hr : RdB w w.heap.size q.2.1 q.1.length q.1 := OwnB.reads (e := 5) (c := q.2.2) hown rfl
  have HF := Lib.hid (rframe_any 3 c.tok k c.rep q.2.1 q.1.length q.2.2 q.1 w.drew ((hr.below (Below.refl _ _).drew).more (Nat.le_refl _)) hm hcq.2.1 hcq.2.2.1 hcq.2.2.2)
  rw [hfr] at HF
  have c12 : w.cell? ⟨p.g, 12, none⟩ = some (.slice (some ⟨gb, 0, none⟩) p.bl.length cb) := (h.blk.cell 12).trans (by rw [← hbv]; rfl)
  have c3 : w.cell? ⟨p.g, 3, none⟩ = some (.int .u64 (c.tok : Int)) := h.blk.cell 3
  have c7 : w.cell? ⟨p.g, 7, none⟩ = some (.int .u64 (c.rep : Int)) := h.blk.cell 7
  have hg := h.blk.lt
  have hk : k ≤ 1152921504606846976 := by have := ok.is; omega
  have e1 : IntKind.u64.wrap ((k : Int) - 1) = ((k - 1 : Nat) : Int) := by simp [IntKind.wrap, IntKind.bits, IntKind.signed]; omega
  have e2 : ((k - 1 : Nat) : Int) < ((p.bl.length : Nat) : Int) := by omega
  have e3 : (0 : Int) ≤ ((k - 1 : Nat) : Int) := by omega
  generalize frm (c.cmd k) = fr at *
  generalize c.tok = t at *
  generalize c.rep = rp at *
  generalize p.bl.length = bn at *
  generalize p.g = g at *
  generalize hk1 : k - 1 = j at *
  clear h ok hown hq hcell hbv hbody hl hcq hm hfr hr
  go_enter Try.func82, Try.ntmps82
  go_upto_region 1 with fail
  go_region_held3 (fun W => W.cell? ⟨g, 12, none⟩ = some (.slice (some ⟨gb, 0, none⟩) bn cb) ∧ W.cell? ⟨g, 3, none⟩ = some (.int .u64 (t : Int)) ∧ W.cell? ⟨g, 7, none⟩ = some (.int .u64 (rp : Int)) ∧ W.cell? ⟨gb, j, none⟩ = some (.slice q.2.1 q.1.length q.2.2))
    (first | go_keep | exact hk6)
    ((go_at_call 85; refine HF.out.mono ?_; rintro e w2 ⟨v2, rfl, ho2, hb2⟩; have hk6 := And.intro ((hb2.cell (p := ⟨g, 12, none⟩) hg).trans c12) (And.intro ((hb2.cell (p := ⟨g, 3, none⟩) hg).trans c3) (And.intro ((hb2.cell (p := ⟨g, 7, none⟩) hg).trans c7) ((hb2.cell (p := ⟨gb, j, none⟩) hgb).trans hx))); obtain ⟨A2, c2, rfl, _, _⟩ := ho2.form; have HO : Hid (OwnB 5 w2 w.heap.size (.slice A2 fr.length c2) fr) := Lib.hid ho2; have HB : Hid (Below w.heap.size w w2) := Lib.hid ⟨hb2.os, hb2.tape, hb2.output, hb2.size, hb2.block⟩; clear ho2 hb2))
  all_goals
    go_wp2
    go_ret
    exact ⟨_, rfl, HO.out, HB.out⟩
end Go.Proofs.Ytjhkfpemcplaaaa
namespace Go.Proofs.Ytjhkfpemcplaaaa
open Go.RowKit

theorem CD.cfd {base : Nat} {w : World} {p : Pa} {c : Cl} (h : CD base w p c) {k : Nat} (hk : CFd p k) : base ≤ k ∧ k < w.heap.size := by
  obtain ⟨A, kk, N, hkv, ⟨x1, x2, x3, x4⟩, hN, hbN, ha⟩ := h.rd
  rcases hk with rfl | rfl | hk
  · exact ⟨h.ge.1, h.blk.lt⟩
  · exact ⟨h.ge.2, x1.lt⟩
  · exact h.rows.lt hk
/-- only the client's own block has turned -/
theorem CD.turn {base : Nat} {w w' : World} {p : Pa} {c c' : Cl} (h : CD base w p c) (hb : Blk w' p.g 94 (layD c' p)) (hg : Chg (fun k => k = p.g) w w') (h1 : c'.bodies = c.bodies) (h2 : c'.reps = c.reps) (h3 : c'.evs = c.evs) (h4 : c'.kept = c.kept) : CD base w' p c' := by
  obtain ⟨A, kk, N, hkv, ⟨x1, x2, x3, x4⟩, hN, hbN, ha⟩ := h.rd
  have n1 : p.r ≠ p.g := Blk.ne_ x1 h.blk (by decide)
  have key : ∀ {t : TypeId} {s n : Nat} {u : Value} {xs : List Value} {k : Nat}, w.ownsRow base t s u n xs → t ≠ 94 → u.ownBlock = some k → k ≠ p.g := fun ho ht e e2 => own_blk_ne ho h.blk ht (by rw [e, e2])
  have hr := h.rows.keep (w' := w') fun k e => hg.block k (h.rows.lt e).2 (by
    rcases e with (e | ⟨q, hq, e⟩) | (e | ⟨q, hq, e⟩) | (e | ⟨q, hq, e⟩)
    · exact key h.rows.b.row (by decide) e
    · exact key (h.rows.b.els q hq) (by decide) e
    · exact key h.rows.r.row (by decide) e
    · exact key (h.rows.r.els q hq) (by decide) e
    · exact key h.rows.e.row (by decide) e
    · exact key (h.rows.e.els q hq) (by decide) e)
  refine ⟨hb, ⟨A, kk, N, by rw [h4]; exact hkv, ⟨?_, ?_, by rw [h4]; exact x3, x4⟩, Nat.le_trans hN hg.size, hbN, by rw [h4]; exact ha⟩, ⟨hr.b, hr.r, hr.e, by rw [h1]; exact hr.bi, by rw [h2]; exact hr.ri, by rw [h3]; exact hr.ei, hr.ap⟩, h.ge, h.dr⟩
  · rw [h4]
    exact (hg.block _ x1.lt n1).trans x1
  · rw [h4]
    rcases Nat.eq_zero_or_pos c.kept.length with h0 | h0
    · have hx := x2.1
      exact ⟨hx, fun hh => by omega⟩
    · have hw : w.grownBy w' (some p.g) := ⟨hg.os, hg.tape, hg.output, hg.size, fun k hk hn => hg.block k hk (fun e => hn (by rw [e]))⟩
      exact rd_keep x2 (fun ad e e2 => ha ad e h0 (.inl e2)) (Nat.le_refl _) hw
/-- the block of what the reader keeps -/
def KvB (p : Pa) (k : Nat) : Prop := ∃ ad n c, p.kv = .slice (some ad) n c ∧ ad.block = k ∧ 0 < n
/-- all blocks of the document's client -/
def CFe (p : Pa) (k : Nat) : Prop := CFd p k ∨ KvB p k
theorem kvOf_some {A : Option Addr} {n k m c : Nat} {ad : Addr} (h : kvOf A n k = .slice (some ad) m c) (_hm : 0 < m) : A = some ad ∧ n = m := by
  unfold kvOf at h
  split at h
  · injection h with h1 _ _; cases h1
  · injection h with h1 h2 _; exact ⟨h1, h2⟩
theorem kvOf_pos {A : Option Addr} {n k : Nat} (h : 0 < n) : kvOf A n k = .slice A n k := by
  unfold kvOf
  rw [if_neg (by omega)]
theorem CD.cfe {base : Nat} {w : World} {p : Pa} {c : Cl} (h : CD base w p c) {k : Nat} (hk : CFe p k) : base ≤ k ∧ k < w.heap.size := by
  rcases hk with hk | ⟨ad, n, c0, e, rfl, hn⟩
  · exact h.cfd hk
  · obtain ⟨A, kk, N, hkv, ⟨x1, x2, x3, x4⟩, hN, hbN, ha⟩ := h.rd
    obtain ⟨e1, e2⟩ := kvOf_some (hkv.symm.trans e) hn
    subst e1
    have h1 := x4 ad rfl
    obtain ⟨ad2, e3, hlt, _⟩ := x2.2 (by rw [e2]; exact hn)
    injection e3 with e3
    subst e3
    exact ⟨Nat.le_trans hbN h1, hlt⟩
/-- what a change outside the client's blocks leaves -/
theorem CD.chg {base : Nat} {w w' : World} {p : Pa} {c : Cl} {F : Nat → Prop} (h : CD base w p c) (hc : Chg F w w') (hn : ∀ k, CFe p k → ¬ F k) : CD base w' p c := by
  have hcfd : ∀ k, CFd p k → w'.heap[k]? = w.heap[k]? := fun k hk => hc.block k (h.cfd hk).2 (hn k (.inl hk))
  obtain ⟨A, kk, N, hkv, ⟨x1, x2, x3, x4⟩, hN, hbN, ha⟩ := h.rd
  refine ⟨(hcfd _ (.inl rfl)).trans h.blk, ⟨A, kk, N, hkv, ⟨(hcfd _ (.inr (.inl rfl))).trans x1, ?_, x3, x4⟩, Nat.le_trans hN hc.size, hbN, ha⟩, h.rows.keep fun k hk => hcfd k (.inr (.inr hk)), h.ge, h.dr⟩
  refine ⟨x2.1, fun hp => ?_⟩
  obtain ⟨ad, e, hlt, hcell⟩ := x2.2 hp
  refine ⟨ad, e, Nat.lt_of_lt_of_le hlt hc.size, fun j u hu => ?_⟩
  have hb : w'.heap[ad.block]? = w.heap[ad.block]? := hc.block _ hlt (hn _ (.inr ⟨ad, _, kk, by rw [hkv, e]; exact kvOf_pos hp, rfl, hp⟩))
  have hb' : w'.heap[(ad.add j).block]? = w.heap[(ad.add j).block]? := by rw [block_of_add]; exact hb
  exact (World.cell?_of_block hb').trans (hcell j u hu)
/-- the document's client behind a call -/
structure StpD (base : Nat) (w : World) (p : Pa) (m : Nat) (c' : Cl) (p' : Pa) (w' : World) : Prop where
  cd : CD base w' p' c'
  g : p'.g = p.g
  sub : ∀ k, CFd p' k → CFd p k ∨ w.heap.size ≤ k
  sk : ∀ k, KvB p' k → KvB p k ∨ w.heap.size ≤ k
  chg : Chg (CFd p) w w'
  d : p'.d ≤ p.d + (m : Int)
/-- frames that the call made, none of the client's own -/
structure FrsD (w : World) (p' : Pa) (fs : List (List UInt8)) (v : Value) (l : List (QX (List UInt8))) (w' : World) : Prop where
  row : RowK kB w.heap.size w' v l
  is : l.map (·.1) = fs
  ap : ∀ k, (v.ownBlock = some k ∨ kB.inB l k) → ¬ CFe p' k
def AnsE (base : Nat) (w : World) (p : Pa) (m : Nat) (c' : Cl) (qs : List Pk) (tup : Value → Value) (e : Ending) (w' : World) : Prop :=
  ∃ v l p', e = .returned (tup v) ∧ StpD base w p m c' p' w' ∧ FrsD w p' (qs.map frm) v l w'
theorem FrsD.nil (w : World) (p' : Pa) (w' : World) : FrsD w p' [] (.slice none 0 0) [] w' := ⟨RowK.nil _ _ _, rfl, fun k hk => by
  rcases hk with hk | ⟨q, hq, _⟩
  · simp [Value.ownBlock] at hk
  · cases hq⟩
theorem StpD.refl {base : Nat} {w : World} {p : Pa} {c : Cl} (h : CD base w p c) (m : Nat) : StpD base w p m c p w := ⟨h, rfl, fun _ hk => .inl hk, fun _ hk => .inl hk, Chg.refl _ _, by omega⟩
theorem StpD.below {base m : Nat} {w w1 w' : World} {p p' : Pa} {c' : Cl} (h : StpD base w p m c' p' w1) (hb : Below w1.heap.size w1 w') : StpD base w p m c' p' w' := ⟨h.cd.below hb, h.g, h.sub, h.sk, h.chg.trans (Chg.of_below hb (fun _ => False)) (fun _ _ h => h.elim), h.d⟩
theorem StpD.trans {base a b : Nat} {w w1 w2 : World} {p p1 p2 : Pa} {c1 c2 : Cl} (h : StpD base w p a c1 p1 w1) (k : StpD base w1 p1 b c2 p2 w2) : StpD base w p (a + b) c2 p2 w2 := by
  refine ⟨k.cd, k.g.trans h.g, fun x hx => ?_, fun x hx => ?_, h.chg.trans k.chg fun i hi hc => ?_, by have := h.d; have := k.d; omega⟩
  · rcases k.sub x hx with e | e
    · exact h.sub x e
    · exact .inr (Nat.le_trans h.chg.size e)
  · rcases k.sk x hx with e | e
    · exact h.sk x e
    · exact .inr (Nat.le_trans h.chg.size e)
  · rcases h.sub i hc with e | e
    · exact e
    · omega
theorem StpD.sube {base m : Nat} {w w' : World} {p p' : Pa} {c' : Cl} (h : StpD base w p m c' p' w') {k : Nat} (hk : CFe p' k) : CFe p k ∨ w.heap.size ≤ k := by
  rcases hk with hk | hk
  · exact (h.sub k hk).imp .inl id
  · exact (h.sk k hk).imp .inr id
/-- frames made behind a step that made no new block of the client's own -/
theorem StpD.ans {base m : Nat} {w w1 w' : World} {p p' : Pa} {c' : Cl} {qs : List Pk} {tup : Value → Value} {e : Ending} {v : Value} {l : List (QX (List UInt8))} {B : Nat} (h : StpD base w p m c' p' w1) (hB : w.heap.size ≤ B) (hB2 : w1.heap.size ≤ B) (he : e = .returned (tup v)) (hr : RowK kB B w' v l) (hl : l.map (·.1) = qs.map frm) (hb : Below w1.heap.size w1 w') : AnsE base w p m c' qs tup e w' :=
  ⟨v, l, p', he, h.below hb, hr.rebase hB, hl, fun k hk hc => by
    have := (hr.lt hk).1
    have := (h.cd.cfe hc).2
    omega⟩
end Go.Proofs.Ytjhkfpemcplaaaa
namespace Go.Proofs.Ytjhkfpemcplaaaa
open Go.RowKit

/-- the document's client behind a call that answers frames -/
def AnsD (base : Nat) (w : World) (p : Pa) (c' : Cl) (qs : List Pk) (tup : Value → Value) (e : Ending) (w' : World) : Prop :=
  ∃ v l, e = .returned (tup v) ∧ CD base w' p c' ∧ Chg (fun k => k = p.g) w w' ∧ RowK kB w.heap.size w' v l ∧ l.map (·.1) = qs.map frm
theorem one_row {w1 : World} {B : Nat} {A : Option Addr} {c : Nat} {fr : List UInt8} (ho : OwnB 5 w1 B (.slice A fr.length c) fr) (hB : B ≤ w1.heap.size) :
    RowK kB B (w1.alloc (.cells #[.slice A fr.length c] 37)) (.slice (some ⟨w1.heap.size, 0, none⟩) 1 1) [(fr, A, c)] := by
  refine ⟨⟨rfl, .inr ⟨w1.heap.size, 1, #[.slice A fr.length c], rfl, hB, Blk.new w1 37 _, Nat.le_refl _, by decide, rfl, rfl⟩⟩, fun q hq => ?_⟩
  rw [List.mem_singleton] at hq
  subst hq
  exact World.ownsRow.alloc ho _
set_option maxRecDepth 20000 in
set_option maxHeartbeats 2000000 in
theorem rconnect_any {base N : Nat} {p : Pa} {c : Cl} {w : World} (h : CD base w p c) (ok : c.Ok N) : Calls Try.prog 66 #[.pointer (some ⟨p.g, 0, none⟩)] w (AnsD base w p (connF c).2.2 (connF c).1 fun v => .tuple #[v, .int .i64 (connF c).2.1]) := by
  have c4 : w.cell? ⟨p.g, 4, none⟩ = some (.bool c.conn) := h.blk.cell 4
  have c5 : w.cell? ⟨p.g, 5, none⟩ = some (.bool c.greet) := h.blk.cell 5
  have c9 : w.cell? ⟨p.g, 9, none⟩ = some (.int .i64 (c.wait : Int)) := h.blk.cell 9
  have c10 : w.cell? ⟨p.g, 10, none⟩ = some (.bool c.over) := h.blk.cell 10
  have f4 := h.blk.frozen 4
  have f5 := h.blk.frozen 5
  have f9 := h.blk.frozen 9
  have HC := Lib.hid h
  have HOK := Lib.hid ok
  clear h ok
  cases ho : c.over with
  | true =>
    have HF : Hid (connF c = ([], 202, c)) := Lib.hid (by unfold connF; rw [if_pos ho])
    rw [ho] at c10
    rw [HF.out]
    go_enter Try.func66, Try.ntmps66
    go_wp2
    go_ret2
    exact ⟨_, [], rfl, HC.out, Chg.refl _ _, RowK.nil _ _ _, rfl⟩
  | false =>
    cases hc : c.conn with
    | true =>
      have HF : Hid (connF c = ([], 203, c)) := Lib.hid (by unfold connF; rw [if_neg (by rw [ho]; decide), if_pos hc])
      rw [ho] at c10
      rw [hc] at c4
      rw [HF.out]
      go_enter Try.func66, Try.ntmps66
      go_wp2
      go_ret2
      exact ⟨_, [], rfl, HC.out, Chg.refl _ _, RowK.nil _ _ _, rfl⟩
    | false =>
      have HF : Hid (connF c = ([c.hello], 0, { c with conn := true, greet := false, wait := 0 })) := Lib.hid (by unfold connF; rw [if_neg (by rw [ho]; decide), if_neg (by rw [hc]; decide)])
      rw [ho] at c10
      rw [hc] at c4
      rw [HF.out]
      obtain ⟨w4, hw4⟩ : ∃ w4, ((w.setCell ⟨p.g, 4, none⟩ (.bool true)).setCell ⟨p.g, 5, none⟩ (.bool false)).setCell ⟨p.g, 9, none⟩ (.int .i64 0) = w4 := ⟨_, rfl⟩
      have HG : Hid (Chg (fun k => k = p.g) w w4) := Lib.hid (by
        rw [← hw4]
        exact (((Chg.refl (fun k => k = p.g) w).setCell (p := ⟨p.g, 4, none⟩) (fun _ => rfl) _).setCell (p := ⟨p.g, 5, none⟩) (fun _ => rfl) _).setCell (p := ⟨p.g, 9, none⟩) (fun _ => rfl) _)
      have HS : Hid (CD base w4 p { c with conn := true, greet := false, wait := 0 }) := Lib.hid (HC.out.turn (by rw [← hw4]; exact ((HC.out.blk.set_ 4 _).set_ 5 _).set_ 9 _) HG.out rfl rfl rfl rfl)
      have ok4 : ({ c with conn := true, greet := false, wait := 0 } : Cl).Ok N := ⟨HOK.out.no, HOK.out.wi, HOK.out.pa, HOK.out.bl, HOK.out.bs, HOK.out.rp, HOK.out.rl, HOK.out.is, HOK.out.tk, HOK.out.ev, HOK.out.el, Nat.zero_le _, HOK.out.kp⟩
      have HH := Lib.hid (rhello_any HS.out ok4)
      have HSZ : Hid (w.heap.size ≤ w4.heap.size) := Lib.hid HG.out.size
      go_enter Try.func66, Try.ntmps66
      go_upto_region 8 with fail
      clear c4 c5 c9 c10 f4 f5 f9 ok4
      try rw [hw4]
      clear hw4
      go_wp2_with (go_at_call 83; refine HH.out.mono ?_; rintro e w5 ⟨v5, rfl, ho5, hb5⟩; obtain ⟨A5, c5, rfl, _, _⟩ := ho5.form; have HO5 := Lib.hid ho5; have HB5 := Lib.hid hb5; clear ho5 hb5)
      go_ret2
      have hb6 := (HB5.out.alloc (by have := HB5.out.size; omega) (.cells #[.slice A5 (frm ({ c with conn := true, greet := false, wait := 0 } : Cl).hello).length c5] 37))
      exact ⟨_, _, rfl, HS.out.below hb6, HG.out.trans (Chg.of_below hb6 (fun _ => False)) (fun _ _ h => h.elim), (one_row HO5.out HB5.out.size).rebase HSZ.out, rfl⟩
theorem AnsD.toE {base m : Nat} {w w' : World} {p : Pa} {c c' : Cl} {qs : List Pk} {tup : Value → Value} {e : Ending} (h : CD base w p c) (a : AnsD base w p c' qs tup e w') : AnsE base w p m c' qs tup e w' := by
  obtain ⟨v, l, he, hd, hg, hr, hl⟩ := a
  exact ⟨v, l, p, he, ⟨hd, rfl, fun _ hk => .inl hk, fun _ hk => .inl hk, hg.mono fun k _ e => .inl e, by omega⟩, hr, hl, fun k hk hc => by
    have := (hr.lt hk).1
    have := (h.cfe hc).2
    omega⟩
end Go.Proofs.Ytjhkfpemcplaaaa
namespace Go.Proofs.Ytjhkfpemcplaaaa
open Go.RowKit

set_option maxRecDepth 20000 in
set_option maxHeartbeats 2000000 in
theorem rbye_any {base N : Nat} {p : Pa} {c : Cl} {w : World} (h : CD base w p c) (ok : c.Ok N) (hN : N ≤ 1152921504606846976) : Calls Try.prog 70 #[.pointer (some ⟨p.g, 0, none⟩)] w (AnsD base w p (byeF c).2.2 (byeF c).1 fun v => .tuple #[v, .int .i64 (byeF c).2.1]) := by
  have c3 : w.cell? ⟨p.g, 3, none⟩ = some (.int .u64 (c.tok : Int)) := h.blk.cell 3
  have c5 : w.cell? ⟨p.g, 5, none⟩ = some (.bool c.greet) := h.blk.cell 5
  have c7 : w.cell? ⟨p.g, 7, none⟩ = some (.int .u64 (c.rep : Int)) := h.blk.cell 7
  have c10 : w.cell? ⟨p.g, 10, none⟩ = some (.bool c.over) := h.blk.cell 10
  have c11 : w.cell? ⟨p.g, 11, none⟩ = some (.int .i64 c.reason) := h.blk.cell 11
  have f10 := h.blk.frozen 10
  have f11 := h.blk.frozen 11
  have HC := Lib.hid h
  have HOK := Lib.hid ok
  have hrp : c.rep < 18446744073709551616 := by have := ok.rp; have := ok.is; omega
  clear h ok
  cases ho : c.over with
  | true =>
    have HF : Hid (byeF c = ([], 202, c)) := Lib.hid (by unfold byeF; rw [if_pos ho])
    rw [ho] at c10
    rw [HF.out]
    go_enter Try.func70, Try.ntmps70
    go_wp2
    go_ret2
    exact ⟨_, [], rfl, HC.out, Chg.refl _ _, RowK.nil _ _ _, rfl⟩
  | false =>
    rw [ho] at c10
    obtain ⟨w4, hw4⟩ : ∃ w4, (w.setCell ⟨p.g, 10, none⟩ (.bool true)).setCell ⟨p.g, 11, none⟩ (.int .i64 0) = w4 := ⟨_, rfl⟩
    have HG : Hid (Chg (fun k => k = p.g) w w4) := Lib.hid (by
      rw [← hw4]
      exact ((Chg.refl (fun k => k = p.g) w).setCell (p := ⟨p.g, 10, none⟩) (fun _ => rfl) _).setCell (p := ⟨p.g, 11, none⟩) (fun _ => rfl) _)
    have HS : Hid (CD base w4 p { c with over := true, reason := 0 }) := Lib.hid (HC.out.turn (by rw [← hw4]; exact (HC.out.blk.set_ 10 _).set_ 11 _) HG.out rfl rfl rfl rfl)
    have HSZ : Hid (w.heap.size ≤ w4.heap.size) := Lib.hid HG.out.size
    have k3 : w4.cell? ⟨p.g, 3, none⟩ = some (.int .u64 (c.tok : Int)) := HS.out.blk.cell 3
    have k5 : w4.cell? ⟨p.g, 5, none⟩ = some (.bool c.greet) := HS.out.blk.cell 5
    have k7 : w4.cell? ⟨p.g, 7, none⟩ = some (.int .u64 (c.rep : Int)) := HS.out.blk.cell 7
    have hg4 := HS.out.blk.lt
    cases hgr : c.greet with
    | false =>
      have HF : Hid (byeF c = ([], 0, { c with over := true, reason := 0 })) := Lib.hid (by unfold byeF; rw [if_neg (by rw [ho]; decide), if_pos hgr])
      rw [hgr] at k5
      rw [HF.out]
      go_enter Try.func70, Try.ntmps70
      go_upto_region 5 with fail
      clear c3 c5 c7 c10 c11 f10 f11
      try rw [hw4]
      clear hw4
      go_wp2
      go_ret2
      exact ⟨_, [], rfl, HS.out, HG.out, RowK.nil _ _ _, rfl⟩
    | true =>
      have HF : Hid (byeF c = ([⟨7, c.tok, 0, c.rep, []⟩], 0, { c with over := true, reason := 0 })) := Lib.hid (by unfold byeF; rw [if_neg (by rw [ho]; decide), if_neg (by rw [hgr]; decide)])
      rw [hgr] at k5
      rw [HF.out]
      have HFR := Lib.hid (rframe_any 7 c.tok 0 c.rep none 0 0 [] w4.drew Reads.none_ (by decide) HOK.out.tk (by decide) hrp)
      have HE : Hid (packB 7 c.tok 0 c.rep [] = frm ⟨7, c.tok, 0, c.rep, []⟩) := Lib.hid rfl
      rw [HE.out] at HFR
      have HMF : Hid (List.map frm [⟨7, c.tok, 0, c.rep, []⟩] = [frm ⟨7, c.tok, 0, c.rep, []⟩]) := Lib.hid rfl
      go_enter Try.func70, Try.ntmps70
      go_upto_region 5 with fail
      clear c3 c5 c7 c10 c11 f10 f11
      try rw [hw4]
      clear hw4
      go_upto_region 6 with fail
      go_region_held3 (fun W => W.cell? ⟨p.g, 3, none⟩ = some (.int .u64 (c.tok : Int)) ∧ W.cell? ⟨p.g, 7, none⟩ = some (.int .u64 (c.rep : Int)))
        (first | go_keep | exact hk6)
        ((go_at_call 85; refine HFR.out.mono ?_; rintro e w6 ⟨v, rfl, ho6, hb6⟩; have hk6 := And.intro ((hb6.cell (p := ⟨p.g, 3, none⟩) hg4).trans k3) ((hb6.cell (p := ⟨p.g, 7, none⟩) hg4).trans k7); obtain ⟨A6, c6, rfl, _, _⟩ := ho6.form; have HO6 : Hid (OwnB 5 w6 w4.heap.size (.slice A6 (frm ⟨7, c.tok, 0, c.rep, []⟩).length c6) (frm ⟨7, c.tok, 0, c.rep, []⟩)) := Lib.hid ho6; have HB6 : Hid (Below w4.heap.size w4 w6) := Lib.hid ⟨hb6.os, hb6.tape, hb6.output, hb6.size, hb6.block⟩; clear ho6 hb6))
      all_goals
        go_wp2
        go_ret2
        have hb7 := (HB6.out.alloc (by have := HB6.out.size; omega) (.cells #[.slice A6 (frm ⟨7, c.tok, 0, c.rep, []⟩).length c6] 37))
        exact ⟨_, _, rfl, HS.out.below hb7, HG.out.trans (Chg.of_below hb7 (fun _ => False)) (fun _ _ h => h.elim), (one_row HO6.out HB6.out.size).rebase HSZ.out, rfl⟩
end Go.Proofs.Ytjhkfpemcplaaaa
namespace Go.Proofs.Ytjhkfpemcplaaaa
open Go.RowKit

/-- a new reader -/
theorem CD.fresh {base : Nat} {w w' : World} {p : Pa} {c c' : Cl} {r : Nat} (h : CD base w p c) (hr : w.heap.size ≤ r) (hb : Blk w' p.g 94 (layD c' { p with r := r, d := 0, kv := .slice none 0 0 })) (hx : Blk w' r 77 #[.slice none 0 0, .int .i64 0]) (hg : Chg (fun k => k = p.g) w w') (h1 : c'.bodies = c.bodies) (h2 : c'.reps = c.reps) (h3 : c'.evs = c.evs) (h4 : c'.kept = []) : CD base w' { p with r := r, d := 0, kv := .slice none 0 0 } c' := by
  have key : ∀ {t : TypeId} {s n : Nat} {u : Value} {xs : List Value} {k : Nat}, w.ownsRow base t s u n xs → t ≠ 94 → u.ownBlock = some k → k ≠ p.g := fun ho ht e e2 => own_blk_ne ho h.blk ht (by rw [e, e2])
  have hr2 := h.rows.keep (w' := w') fun k e => hg.block k (h.rows.lt e).2 (by
    rcases e with (e | ⟨q, hq, e⟩) | (e | ⟨q, hq, e⟩) | (e | ⟨q, hq, e⟩)
    · exact key h.rows.b.row (by decide) e
    · exact key (h.rows.b.els q hq) (by decide) e
    · exact key h.rows.r.row (by decide) e
    · exact key (h.rows.r.els q hq) (by decide) e
    · exact key h.rows.e.row (by decide) e
    · exact key (h.rows.e.els q hq) (by decide) e)
  have hgb := h.ge.1
  have hlt := h.blk.lt
  exact ⟨hb, ⟨none, 0, base, by rw [h4]; rfl, by rw [h4]; exact ⟨hx, Reads.none_, Nat.le_refl _, fun ad e => by cases e⟩, by have := hg.size; omega, Nat.le_refl _, fun ad e => by cases e⟩, ⟨hr2.b, hr2.r, hr2.e, by rw [h1]; exact hr2.bi, by rw [h2]; exact hr2.ri, by rw [h3]; exact hr2.ei, fun k _ e => by simp [Value.ownBlock] at e⟩, ⟨hgb, by dsimp only; omega⟩, Int.le_refl _⟩
def CutD (base : Nat) (w : World) (p : Pa) (c' : Cl) (er : Int) (e : Ending) (w' : World) : Prop := ∃ p', e = .returned (.int .i64 er) ∧ StpD base w p 0 c' p' w'
set_option maxRecDepth 20000 in
set_option maxHeartbeats 2000000 in
theorem rcut_any {base : Nat} {p : Pa} {c : Cl} {w : World} (h : CD base w p c) : Calls Try.prog 67 #[.pointer (some ⟨p.g, 0, none⟩)] w (CutD base w p (cutF c).2 (cutF c).1) := by
  have c4 : w.cell? ⟨p.g, 4, none⟩ = some (.bool c.conn) := h.blk.cell 4
  have c5 : w.cell? ⟨p.g, 5, none⟩ = some (.bool c.greet) := h.blk.cell 5
  have c15 : w.cell? ⟨p.g, 15, none⟩ = some (.pointer (some ⟨p.r, 0, none⟩)) := h.blk.cell 15
  have f4 := h.blk.frozen 4
  have f5 := h.blk.frozen 5
  have f15 := h.blk.frozen 15
  have hlt := h.blk.lt
  have hne : w.heap.size ≠ p.g := by omega
  have HC := Lib.hid h
  clear h
  cases hc : c.conn with
  | false =>
    have HF : Hid (cutF c = (203, c)) := Lib.hid (by unfold cutF; rw [if_pos hc])
    rw [hc] at c4
    rw [HF.out]
    go_enter Try.func67, Try.ntmps67
    go_wp2
    go_ret
    exact ⟨p, rfl, StpD.refl HC.out 0⟩
  | true =>
    have HF : Hid (cutF c = (0, { c with conn := false, greet := false, kept := [] })) := Lib.hid (by unfold cutF; rw [if_neg (by rw [hc]; decide)])
    rw [hc] at c4
    rw [HF.out]
    have HX : Hid (CutD base w p { c with conn := false, greet := false, kept := [] } 0 (.returned (.int .i64 0)) ((((w.setCell ⟨p.g, 4, none⟩ (.bool false)).setCell ⟨p.g, 5, none⟩ (.bool false)).setCell ⟨p.g, 15, none⟩ (.pointer (some ⟨w.heap.size, 0, none⟩))).alloc (.cells #[.slice none 0 0, .int .i64 0] 77))) := Lib.hid (by
      have hcg : Chg (fun k => k = p.g) w ((((w.setCell ⟨p.g, 4, none⟩ (.bool false)).setCell ⟨p.g, 5, none⟩ (.bool false)).setCell ⟨p.g, 15, none⟩ (.pointer (some ⟨w.heap.size, 0, none⟩))).alloc (.cells #[.slice none 0 0, .int .i64 0] 77)) := ((((Chg.refl (fun k => k = p.g) w).setCell (p := ⟨p.g, 4, none⟩) (fun _ => rfl) _).setCell (p := ⟨p.g, 5, none⟩) (fun _ => rfl) _).setCell (p := ⟨p.g, 15, none⟩) (fun _ => rfl) _).alloc _
      refine ⟨{ p with r := w.heap.size, d := 0, kv := .slice none 0 0 }, rfl, HC.out.fresh (Nat.le_refl _) ((((HC.out.blk.set_ 4 _).set_ 5 _).set_ 15 _).alloc _) ?_ hcg rfl rfl rfl rfl, rfl, fun k hk => ?_, fun k hk => ?_, hcg.mono fun k _ e => .inl e, by have := HC.out.dr; dsimp only; omega⟩
      · exact Blk.new' _ 77 _ _ (by simp [World.setCell])
      · rcases hk with e | e | e
        · exact .inl (.inl e)
        · exact .inr (by dsimp only at e; omega)
        · exact .inl (.inr (.inr e))
      · obtain ⟨ad, n, c, e, _⟩ := hk
        cases e)
    go_enter Try.func67, Try.ntmps67
    go_wp2
    go_ret
    exact HX.out
end Go.Proofs.Ytjhkfpemcplaaaa
