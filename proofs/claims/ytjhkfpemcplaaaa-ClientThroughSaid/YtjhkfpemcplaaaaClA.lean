/-
  The walks of num, made, New, hello, last, State. No statement of the seat is proved here.
-/
import Derived.Test.YtjhkfpemcplaaaaClM
namespace Go.Proofs.Ytjhkfpemcplaaaa
open Go.RowKit

set_option maxRecDepth 20000 in
theorem num_any (z : Int) (w : World) : Calls Try.prog 13 #[.int .i64 z] w fun e w' => e = .returned (.int .i64 z) ∧ w = w' := by
  go_enter Try.func13, Try.ntmps13
  go_wp2
  go_ret
  exact ⟨rfl, rfl⟩
set_option maxRecDepth 20000 in
theorem made_at (g n : Nat) (w : World) (h : w.cell? ⟨g, 0, none⟩ = some (.int .u64 (n : Int))) : Calls Try.prog 43 #[.pointer (some ⟨g, 0, none⟩)] w fun e w' => e = .returned (.bool (decide (1 ≤ n))) ∧ w = w' := by
  by_cases hn : 1 ≤ n
  · have d1 : ((n : Int) != 0) = true := by simp; omega
    have d2 : decide (1 ≤ n) = true := by simpa using hn
    rw [d2]
    clear d2 hn
    go_enter Try.func43, Try.ntmps43
    go_wp2
    go_ret
    exact ⟨rfl, rfl⟩
  · obtain rfl : n = 0 := by omega
    go_enter Try.func43, Try.ntmps43
    go_wp2
    go_ret
    exact ⟨rfl, rfl⟩
set_option maxRecDepth 20000 in
theorem made_nil (w : World) : Calls Try.prog 43 #[.pointer none] w fun e w' => e = .returned (.bool false) ∧ w = w' := by
  go_enter Try.func43, Try.ntmps43
  go_wp2
  go_ret
  exact ⟨rfl, rfl⟩
/-- may a client have these settings? -/
def mayCl (nonce : Nat) (win pat : Int) : Bool := decide (1 ≤ nonce) && decide (1 ≤ win) && decide (win ≤ 16) && decide (1 ≤ pat) && decide (pat ≤ 1000)
def NewP (w : World) (c : Cl) (e : Ending) (w' : World) : Prop :=
  ∃ p, e = .returned (.tuple #[.pointer (some ⟨p.g, 0, none⟩), .int .i64 0]) ∧ CA w.heap.size w' p c ∧ p.d = 0 ∧ Below w.heap.size w w'
theorem rows_nil (base : Nat) (w : World) (g r : Nat) (d : Int) (nonce win pat : Nat) : CR base w ⟨g, r, .slice none 0 0, d, .slice none 0 0, .slice none 0 0, .slice none 0 0, [], [], []⟩ (Cl.new nonce win pat) :=
  ⟨RowK.nil _ _ _, RowK.nil _ _ _, RowK.nil _ _ _, rfl, rfl, rfl, fun k ⟨q, hq, _⟩ => by cases hq⟩
set_option maxRecDepth 20000 in
theorem new_ok (nonce win pat : Nat) (w : World) (h1 : 1 ≤ nonce) (h2 : 1 ≤ win) (h3 : win ≤ 16) (h4 : 1 ≤ pat) (h5 : pat ≤ 1000) :
    Calls Try.prog 10 #[.int .u64 (nonce : Int), .int .i64 (win : Int), .int .i64 (pat : Int)] w (NewP w (Cl.new nonce win pat)) := by
  have d1 : ((nonce : Int) == 0) = false := by simp; omega
  have HN := Lib.hid fun w => newr_any w
  clear h1
  go_enter Try.func10, Try.ntmps10
  go_wp2_with (go_at_call 40; refine (HN.out _).mono ?_; rintro e w2 ⟨rfl, rfl⟩)
  go_ret2
  refine ⟨⟨w.heap.size + 1, w.heap.size, .slice none 0 0, 0, .slice none 0 0, .slice none 0 0, .slice none 0 0, [], [], []⟩, ?_, ⟨?_, ?_, OwnB.nil 5 _ _, rows_nil _ _ _ _ _ _ _ _, ⟨by dsimp only; omega, Nat.le_refl _⟩, Int.le_refl _⟩, rfl, ?_⟩
  · rfl
  · exact Blk.new' _ 98 _ _ (by simp)
  · exact (Blk.new w 136 _).alloc _
  · exact ((Below.refl _ _).alloc (Nat.le_refl _) _).alloc (by simp) _
set_option maxRecDepth 20000 in
theorem new_bad (nonce : Nat) (win pat : Int) (w : World) (h : ¬ (1 ≤ nonce ∧ 1 ≤ win ∧ win ≤ 16 ∧ 1 ≤ pat ∧ pat ≤ 1000)) :
    Calls Try.prog 10 #[.int .u64 (nonce : Int), .int .i64 win, .int .i64 pat] w fun e w' => e = .returned (.tuple #[.pointer none, .int .i64 200]) ∧ w = w' := by
  have h2 : nonce = 0 ∨ (1 ≤ nonce ∧ win < 1) ∨ (1 ≤ nonce ∧ 1 ≤ win ∧ 16 < win) ∨ (1 ≤ nonce ∧ 1 ≤ win ∧ win ≤ 16 ∧ pat < 1) ∨ (1 ≤ nonce ∧ 1 ≤ win ∧ win ≤ 16 ∧ 1 ≤ pat ∧ 1000 < pat) := by omega
  clear h
  rcases h2 with rfl | ⟨h1, h2⟩ | ⟨h1, h2, h3⟩ | ⟨h1, h2, h3, h4⟩ | ⟨h1, h2, h3, h4, h5⟩
  · go_enter Try.func10, Try.ntmps10
    go_wp2
    go_ret2
    exact ⟨rfl, rfl⟩
  all_goals
    have d1 : ((nonce : Int) == 0) = false := by simp; omega
    clear h1
    go_enter Try.func10, Try.ntmps10
    go_wp2
    go_ret2
    exact ⟨rfl, rfl⟩
set_option maxRecDepth 20000 in
theorem hello_any (g t n : Nat) (w : World) (h0 : w.cell? ⟨g, 0, none⟩ = some (.int .u64 (n : Int))) (h7 : w.cell? ⟨g, 7, none⟩ = some (.int .u64 (t : Int))) (hg : g < w.heap.size) :
    Calls Try.prog 49 #[.pointer (some ⟨g, 0, none⟩)] w fun e w' => e = .returned (.agg #[.int .i64 1, .int .u64 (t : Int), .int .u64 (n : Int), .int .u64 0, .slice none 0 0]) ∧ Below w.heap.size w w' := by
  have HB : Hid (Below w.heap.size w (w.alloc (.cells #[.int .i64 0, .int .u64 0, .int .u64 0, .int .u64 0, .slice none 0 0] 39))) := Lib.hid ((Below.refl _ _).alloc (Nat.le_refl _) _)
  have z39 : ∀ w : World, (zeroValue 39).run Try.prog w = .ok (.agg #[.int .i64 0, .int .u64 0, .int .u64 0, .int .u64 0, .slice none 0 0]) w := fun w => by kernel_rfl
  have hgn : w.heap.size ≠ g := by omega
  go_enter Try.func49, Try.ntmps49
  go_upto_region 1 with fail
  have k0 := (Below.refl w.heap.size w).alloc (Nat.le_refl _) (.cells #[.int .i64 0, .int .u64 0, .int .u64 0, .int .u64 0, .slice none 0 0] 39)
  have k1 := (k0.cell (p := ⟨g, 0, none⟩) hg).trans h0
  have k2 := (k0.cell (p := ⟨g, 7, none⟩) hg).trans h7
  go_region_held3 (fun W => W.cell? ⟨g, 0, none⟩ = some (.int .u64 (n : Int)) ∧ W.cell? ⟨g, 7, none⟩ = some (.int .u64 (t : Int)))
    (go_keep)
    (fail)
  all_goals
    go_wp2
    exact bodyPost_ret (v := .agg #[.int .i64 1, .int .u64 (t : Int), .int .u64 (n : Int), .int .u64 0, .slice none 0 0]) (by simp [results, Try.results49, go_sem]) rfl ⟨rfl, ((Below.refl _ _).alloc (Nat.le_refl _) _).drew⟩
set_option maxRecDepth 20000 in
theorem last_any (g rp wn is : Nat) (w : World) (h1 : w.cell? ⟨g, 1, none⟩ = some (.int .i64 (wn : Int))) (h10 : w.cell? ⟨g, 10, none⟩ = some (.int .u64 (is : Int))) (h11 : w.cell? ⟨g, 11, none⟩ = some (.int .u64 (rp : Int))) (b1 : wn ≤ 16) (b2 : rp ≤ 1152921504606846976) :
    Calls Try.prog 51 #[.pointer (some ⟨g, 0, none⟩)] w fun e w' => e = .returned (.int .u64 ((min (rp + wn) is : Nat) : Int)) ∧ ∃ m, w' = w.drewN m := by
  have e1 : IntKind.u64.wrap (wn : Int) = (wn : Int) := by simp [IntKind.wrap, IntKind.bits, IntKind.signed]; omega
  have e2 : IntKind.u64.wrap ((rp : Int) + (wn : Int)) = (rp : Int) + (wn : Int) := by simp [IntKind.wrap, IntKind.bits, IntKind.signed]; omega
  go_enter Try.func51, Try.ntmps51
  go_upto_region 1 with fail
  go_region_held3 (fun W => W.cell? ⟨g, 1, none⟩ = some (.int .i64 (wn : Int)) ∧ W.cell? ⟨g, 10, none⟩ = some (.int .u64 (is : Int)) ∧ W.cell? ⟨g, 11, none⟩ = some (.int .u64 (rp : Int)))
    (go_keep)
    (fail)
  all_goals
    go_wp2
  all_goals
    go_ret
    exact ⟨congrArg (fun z => Ending.returned (.int .u64 z)) (by omega), 1, rfl⟩
def cstV (c : Cl) : Value := .agg #[.int .u64 (c.tok : Int), .bool c.conn, .bool c.greet, .int .u64 (c.iss : Int), .int .u64 (c.rep : Int), .int .u64 (c.ev : Int), .int .i64 (c.wait : Int), .bool c.over, .int .i64 c.reason]
theorem CA.cells {base : Nat} {w : World} {p : Pa} {c : Cl} (h : CA base w p c) (i : Nat) : w.cell? ⟨p.g, i, none⟩ = (layA c p)[i]? := h.blk.cell i
set_option maxRecDepth 20000 in
set_option maxHeartbeats 1000000 in
theorem state_any {base N : Nat} {p : Pa} {c : Cl} {w : World} (h : CA base w p c) (ok : c.Ok N) : Calls Try.prog 15 #[.pointer (some ⟨p.g, 0, none⟩)] w fun e w' => e = .returned (cstV c) ∧ Below w.heap.size w w' := by
  have c0 : w.cell? ⟨p.g, 0, none⟩ = some (.int .u64 (c.nonce : Int)) := h.cells 0
  have HM := Lib.hid fun o => made_at p.g c.nonce (w.alloc o) (((Below.refl _ _).alloc (Nat.le_refl _) o).cell (p := ⟨p.g, 0, none⟩) h.blk.lt |>.trans c0)
  have d1 : decide (1 ≤ c.nonce) = true := by simpa using ok.no.1
  rw [d1] at HM
  have z45 : ∀ w : World, (zeroValue 45).run Try.prog w = .ok (.agg #[.int .u64 0, .bool false, .bool false, .int .u64 0, .int .u64 0, .int .u64 0, .int .i64 0, .bool false, .int .i64 0]) w := fun w => by kernel_rfl
  have c7 : w.cell? ⟨p.g, 7, none⟩ = some (.int .u64 (c.tok : Int)) := h.cells 7
  have c8 : w.cell? ⟨p.g, 8, none⟩ = some (.bool c.conn) := h.cells 8
  have c9 : w.cell? ⟨p.g, 9, none⟩ = some (.bool c.greet) := h.cells 9
  have c10 : w.cell? ⟨p.g, 10, none⟩ = some (.int .u64 (c.iss : Int)) := h.cells 10
  have c11 : w.cell? ⟨p.g, 11, none⟩ = some (.int .u64 (c.rep : Int)) := h.cells 11
  have c12 : w.cell? ⟨p.g, 12, none⟩ = some (.int .u64 (c.ev : Int)) := h.cells 12
  have c13 : w.cell? ⟨p.g, 13, none⟩ = some (.int .i64 (c.wait : Int)) := h.cells 13
  have c14 : w.cell? ⟨p.g, 14, none⟩ = some (.bool c.over) := h.cells 14
  have c15 : w.cell? ⟨p.g, 15, none⟩ = some (.int .i64 c.reason) := h.cells 15
  have hg := h.blk.lt
  clear h ok d1
  go_enter Try.func15, Try.ntmps15
  go_wp2_with (go_at_call 43; refine (HM.out _).mono ?_; rintro e w2 ⟨rfl, rfl⟩)
  exact bodyPost_ret (v := cstV c) (by simp [results, Try.results15, go_sem, cstV]) rfl ⟨rfl, (Below.refl _ _).alloc (Nat.le_refl _) _⟩
def pkV (q : Pk) (A : Option Addr) (c : Nat) : Value := .agg #[.int .i64 (q.kind : Int), .int .u64 (q.tok : Int), .int .u64 (q.seq : Int), .int .u64 (q.ack : Int), .slice A q.body.length c]
set_option maxRecDepth 20000 in
set_option maxHeartbeats 1000000 in
theorem ours_any {base : Nat} {p : Pa} {c : Cl} {w : World} (h : CA base w p c) (q : Pk) (A : Option Addr) (cc : Nat) : Calls Try.prog 91 #[.pointer (some ⟨p.g, 0, none⟩), pkV q A cc] w fun e w' => e = .returned (.bool (decide (c.tok ≠ 0) && decide (q.tok = c.tok))) ∧ Below w.heap.size w w' := by
  have c7 : w.cell? ⟨p.g, 7, none⟩ = some (.int .u64 (c.tok : Int)) := h.cells 7
  have hg := h.blk.lt
  generalize p.g = g at *
  generalize c.tok = t at *
  obtain ⟨qk, qt, qs, qa, qb⟩ := q
  unfold pkV
  dsimp only
  have k0 := (Below.refl w.heap.size w).alloc (Nat.le_refl _) (.cells #[.int .i64 (qk : Int), .int .u64 (qt : Int), .int .u64 (qs : Int), .int .u64 (qa : Int), .slice A qb.length cc] 39)
  have k1 := (k0.cell (p := ⟨g, 7, none⟩) hg).trans c7
  have k2 := (Blk.new w 39 #[.int .i64 (qk : Int), .int .u64 (qt : Int), .int .u64 (qs : Int), .int .u64 (qa : Int), .slice A qb.length cc]).cell 1
  have HB := Lib.hid k0
  clear h c7 k0
  go_enter Try.func91, Try.ntmps91
  go_upto_region 1 with fail
  generalize w.alloc (.cells #[.int .i64 (qk : Int), .int .u64 (qt : Int), .int .u64 (qs : Int), .int .u64 (qa : Int), .slice A qb.length cc] 39) = w2 at *
  have k3 : w2.cell? ⟨w.heap.size, 1, none⟩ = some (.int .u64 (qt : Int)) := k2
  have HF : Hid (∀ bb m, (decide (t ≠ 0) && decide (qt = t)) = bb → (Ending.returned (.bool bb) = .returned (.bool (decide (t ≠ 0) && decide (qt = t))) ∧ Below w.heap.size w (w2.drewN m))) := Lib.hid fun bb m e => ⟨by rw [e], below_drewN HB.out m⟩
  clear k2
  have hcase : t = 0 ∨ (t ≠ 0 ∧ qt = t) ∨ (t ≠ 0 ∧ qt ≠ t) := by omega
  rcases hcase with rfl | ⟨h1, rfl⟩ | ⟨h1, h2⟩
  · replace k1 : w2.cell? ⟨g, 7, none⟩ = some (.int .u64 0) := k1
    go_quiet (fail)
    go_wp2
    go_ret
    exact HF.out _ _ rfl
  · have d1 : ((qt : Int) != 0) = true := by simp; omega
    have d2 : ((qt : Int) == (qt : Int)) = true := by simp
    have HE : Hid (¬ qt = 0) := Lib.hid h1
    clear h1
    go_quiet (fail)
    go_wp2
    go_ret
    exact ⟨congrArg (fun z => Ending.returned (Value.bool z)) (show true = !decide (qt = 0) by simpa using HE.out), below_drewN HB.out _⟩
  · have d1 : ((t : Int) != 0) = true := by simp; omega
    have d2 : ((qt : Int) == (t : Int)) = false := by simp; omega
    have HE := Lib.hid h2
    clear h1 h2
    go_quiet (fail)
    go_wp2
    go_ret
    first | exact HF.out false _ (by have := HE.out; simp [this]) | exact ⟨congrArg (fun z => Ending.returned (Value.bool z)) (show false = (!decide (t = 0) && decide (qt = t)) by have := HE.out; simp [this]), below_drewN HB.out _⟩
set_option maxRecDepth 20000 in
set_option maxHeartbeats 1000000 in
/-- the packet of a command -/
theorem cmd_any {base N : Nat} {p : Pa} {c : Cl} {w : World} (h : CA base w p c) (ok : c.Ok N) (hN : N ≤ 1152921504606846976) (k : Nat) (h1 : 1 ≤ k) (h2 : k ≤ c.iss) :
    Calls Try.prog 52 #[.pointer (some ⟨p.g, 0, none⟩), .int .u64 (k : Int)] w fun e w' => ∃ A cc, e = .returned (pkV (c.cmd k) A cc) ∧ RdB w' w'.heap.size A (c.cmd k).body.length (c.cmd k).body ∧ Below w.heap.size w w' := by
  have hl : k - 1 < p.bl.length := by
    have e1 := congrArg List.length h.rows.bi
    rw [List.length_map] at e1
    have := ok.bl
    omega
  obtain ⟨q, hq⟩ : ∃ q, p.bl[k - 1]? = some q := ⟨_, List.getElem?_eq_getElem hl⟩
  have hbody : (c.cmd k).body = q.1 := by
    show c.bodies.getD (k - 1) [] = q.1
    rw [← h.rows.bi, List.getD_eq_getElem?_getD, List.getElem?_map, hq]
    rfl
  obtain ⟨gb, cb, hbv, _, hgb, hcell⟩ := h.rows.b.at_ kB_len hq
  have hx : w.cell? ⟨gb, k - 1, none⟩ = some (.slice q.2.1 q.1.length q.2.2) := by
    have := hcell 0 _ rfl
    simpa [kB, Kd.val] using this
  have hown := h.rows.b.els q (List.mem_of_getElem? hq)
  have HR : Hid (RdB w w.heap.size q.2.1 q.1.length q.1) := Lib.hid (OwnB.reads (e := 5) (c := q.2.2) hown rfl)
  have c4 : w.cell? ⟨p.g, 4, none⟩ = some (.slice (some ⟨gb, 0, none⟩) p.bl.length cb) := (h.cells 4).trans (by rw [← hbv]; rfl)
  have c7 : w.cell? ⟨p.g, 7, none⟩ = some (.int .u64 (c.tok : Int)) := h.cells 7
  have c11 : w.cell? ⟨p.g, 11, none⟩ = some (.int .u64 (c.rep : Int)) := h.cells 11
  have hg := h.blk.lt
  have hk : k ≤ 1152921504606846976 := by have := ok.is; omega
  have e1 : IntKind.u64.wrap ((k : Int) - 1) = ((k - 1 : Nat) : Int) := by simp [IntKind.wrap, IntKind.bits, IntKind.signed]; omega
  have e2 : ((k - 1 : Nat) : Int) < ((p.bl.length : Nat) : Int) := by omega
  have e3 : (0 : Int) ≤ ((k - 1 : Nat) : Int) := by omega
  have HE : Hid (pkV (c.cmd k) q.2.1 q.2.2 = .agg #[.int .i64 3, .int .u64 (c.tok : Int), .int .u64 (k : Int), .int .u64 (c.rep : Int), .slice q.2.1 q.1.length q.2.2]) := Lib.hid (by unfold pkV; rw [hbody]; rfl)
  have HBD := Lib.hid hbody
  have z39 : ∀ w : World, (zeroValue 39).run Try.prog w = .ok (.agg #[.int .i64 0, .int .u64 0, .int .u64 0, .int .u64 0, .slice none 0 0]) w := fun w => by kernel_rfl
  have k0 := (Below.refl w.heap.size w).alloc (Nat.le_refl _) (.cells #[.int .i64 0, .int .u64 0, .int .u64 0, .int .u64 0, .slice none 0 0] 39)
  have k4 := (k0.cell (p := ⟨p.g, 4, none⟩) hg).trans c4
  have k7 := (k0.cell (p := ⟨p.g, 7, none⟩) hg).trans c7
  have k11 := (k0.cell (p := ⟨p.g, 11, none⟩) hg).trans c11
  have kx := (k0.cell (p := ⟨gb, k - 1, none⟩) hgb).trans hx
  generalize c.tok = t at *
  generalize c.rep = rp at *
  generalize p.bl.length = bn at *
  generalize p.g = g at *
  generalize hk1 : k - 1 = j at *
  have hgn : w.heap.size ≠ g := by omega
  have hgn2 : w.heap.size ≠ gb := by omega
  clear h ok hown hq hcell hbv hbody k0 hl
  go_enter Try.func52, Try.ntmps52
  go_upto_region 1 with fail
  go_region_held3 (fun W => W.cell? ⟨g, 4, none⟩ = some (.slice (some ⟨gb, 0, none⟩) bn cb) ∧ W.cell? ⟨g, 7, none⟩ = some (.int .u64 (t : Int)) ∧ W.cell? ⟨g, 11, none⟩ = some (.int .u64 (rp : Int)) ∧ W.cell? ⟨gb, j, none⟩ = some (.slice q.2.1 q.1.length q.2.2))
    (go_keep)
    (fail)
  all_goals
    go_wp2
    have hb2 : Below w.heap.size w (w.alloc (.cells #[.int .i64 3, .int .u64 (t : Int), .int .u64 (k : Int), .int .u64 (rp : Int), .slice q.2.1 q.1.length q.2.2] 39)).drew := ((Below.refl _ _).alloc (Nat.le_refl _) _).drew
    exact bodyPost_ret (v := .agg #[.int .i64 3, .int .u64 (t : Int), .int .u64 (k : Int), .int .u64 (rp : Int), .slice q.2.1 q.1.length q.2.2]) (by simp [results, Try.results52, go_sem]) rfl ⟨q.2.1, q.2.2, by rw [HE.out], by rw [HBD.out]; exact (HR.out.below hb2).more hb2.size, hb2⟩
end Go.Proofs.Ytjhkfpemcplaaaa
