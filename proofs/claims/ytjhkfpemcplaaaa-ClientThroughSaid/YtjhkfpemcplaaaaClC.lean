/-
  The walks of Connect, Cut, Bye, Tick. No statement of the seat is proved here.
-/
import Derived.Test.YtjhkfpemcplaaaaClB
namespace Go.Proofs.Ytjhkfpemcplaaaa
open Go.RowKit

/-! ## Plain -/
def connF (c : Cl) : List Pk × Int × Cl := if c.over = true then ([], 202, c) else if c.conn = true then ([], 203, c) else ([c.hello], 0, { c with conn := true, greet := false, wait := 0 })
def cutF (c : Cl) : Int × Cl := if c.conn = false then (203, c) else (0, { c with conn := false, greet := false, kept := [] })
def byeF (c : Cl) : List Pk × Int × Cl := if c.over = true then ([], 202, c) else (if c.greet = false then [] else [⟨7, c.tok, 0, c.rep, []⟩], 0, { c with over := true, reason := 0 })
def tickF (c : Cl) (n : Int) : List Pk × Cl :=
  if n < 1 ∨ c.conn = false ∨ c.over = true then ([], c)
  else if min (c.pat : Int) ((c.wait : Int) + min n (c.pat : Int)) < (c.pat : Int) then ([], { c with wait := ((c.wait : Int) + n).toNat })
  else (if c.greet = false then [c.hello] else if c.rep + 1 ≤ c.iss then [c.cmd (c.rep + 1)] else [], { c with wait := 0 })

/-- the client behind a call -/
structure Stp (base : Nat) (w : World) (p : Pa) (m : Nat) (c' : Cl) (p' : Pa) (w' : World) : Prop where
  ca : CA base w' p' c'
  g : p'.g = p.g
  sub : ∀ k, CF p' k → CF p k ∨ w.heap.size ≤ k
  chg : Chg (CF p) w w'
  d : p'.d ≤ p.d + (m : Int)
/-- frames that the call made, none of the client's own -/
structure Frs (w : World) (p' : Pa) (fs : List (List UInt8)) (v : Value) (l : List (QX (List UInt8))) (w' : World) : Prop where
  row : RowK kB w.heap.size w' v l
  is : l.map (·.1) = fs
  ap : ∀ k, (v.ownBlock = some k ∨ kB.inB l k) → ¬ CF p' k
def AnsP (base : Nat) (w : World) (p : Pa) (m : Nat) (c' : Cl) (qs : List Pk) (tup : Value → Value) (e : Ending) (w' : World) : Prop :=
  ∃ v l p', e = .returned (tup v) ∧ Stp base w p m c' p' w' ∧ Frs w p' (qs.map frm) v l w'
theorem Frs.nil (w : World) (p' : Pa) (w' : World) : Frs w p' [] (.slice none 0 0) [] w' := ⟨RowK.nil _ _ _, rfl, fun k hk => by
  rcases hk with hk | ⟨q, hq, _⟩
  · simp [Value.ownBlock] at hk
  · cases hq⟩
section
variable {base m : Nat} {w w1 w' : World} {p p' : Pa} {c c' : Cl}
theorem Stp.refl (h : CA base w p c) (m : Nat) : Stp base w p m c p w := ⟨h, rfl, fun k hk => .inl hk, Chg.refl _ _, by omega⟩
theorem Stp.below (h : Stp base w p m c' p' w1) (hb : Below w1.heap.size w1 w') : Stp base w p m c' p' w' := ⟨h.ca.below hb, h.g, h.sub, h.chg.trans (Chg.of_below hb (fun _ => False)) (fun _ _ h => h.elim), h.d⟩
/-- frames made behind a step that made no new block of the client's own -/
theorem Stp.ans {qs : List Pk} {tup : Value → Value} {e : Ending} {v : Value} {l : List (QX (List UInt8))} {B : Nat} (h : Stp base w p m c' p' w1) (hB : w.heap.size ≤ B) (hB2 : w1.heap.size ≤ B) (he : e = .returned (tup v)) (hr : RowK kB B w' v l) (hl : l.map (·.1) = qs.map frm) (hb : Below w1.heap.size w1 w') : AnsP base w p m c' qs tup e w' :=
  ⟨v, l, p', he, h.below hb, hr.rebase hB, hl, fun k hk hc => by
    have := (hr.lt hk).1
    have := (h.ca.lt hc).2
    omega⟩
end
theorem prd_one {w : World} {q : Pk} {A : Option Addr} {cc : Nat} (hr : RdB w w.heap.size A q.body.length q.body) : PRd (w.alloc (.cells #[.int .i64 (q.kind : Int), .int .u64 (q.tok : Int), .int .u64 (q.seq : Int), .int .u64 (q.ack : Int), .slice A q.body.length cc] 39)) (some ⟨w.heap.size, 0, none⟩) [(q, A, cc)] := by
  refine ⟨?_, fun x hx => ?_⟩
  · have h1 := Reads.built w 39 (pqCells (q, A, cc))
    have h2 := h1.more (B' := (w.alloc (.cells (pqCells (q, A, cc)).toArray 39)).heap.size) (by simp)
    refine ⟨rfl, fun _ => ?_⟩
    obtain ⟨ad, e, hlt, hc⟩ := h2.2 (by show 0 < 5; omega)
    exact ⟨ad, e, hlt, fun j u hu => hc j u (by simpa using hu)⟩
  · rw [List.mem_singleton] at hx
    subst hx
    exact (hr.below ((Below.refl _ _).alloc (Nat.le_refl _) _)).more (by simp)
theorem frames_one (q : Pk) (A : Option Addr) (cc : Nat) (w : World) (hr : RdB w w.heap.size A q.body.length q.body) (hq : okPk q) :
    Calls Try.prog 48 #[.slice (some ⟨w.heap.size, 0, none⟩) 1 1] (w.alloc (.cells #[.int .i64 (q.kind : Int), .int .u64 (q.tok : Int), .int .u64 (q.seq : Int), .int .u64 (q.ack : Int), .slice A q.body.length cc] 39)) fun e w' => ∃ v l, e = .returned v ∧ RowK kB w.heap.size w' v l ∧ l.map (·.1) = [frm q] ∧ Below w.heap.size w w' :=
  (frames_any _ 1 1 [(q, A, cc)] _ (prd_one hr) rfl (by omega) (fun x hx => by rw [List.mem_singleton] at hx; subst hx; exact hq)).mono fun e w' ⟨v, l, h1, h2, h3, h4⟩ =>
    ⟨v, l, h1, h2.rebase (by simp), h3, ((Below.refl _ _).alloc (Nat.le_refl _) _).trans (h4.mono (by simp))⟩
theorem hello_ok {N : Nat} {c : Cl} (ok : c.Ok N) : okPk c.hello := ⟨by simp [mayB, Cl.hello], ok.tk, ok.no.2, by simp [Cl.hello]⟩
theorem cmd_ok {N : Nat} {c : Cl} (ok : c.Ok N) (hN : N ≤ 1152921504606846976) {k : Nat} (h2 : k ≤ c.iss) : okPk (c.cmd k) := by
  have h3 := ok.is
  have h4 := ok.rp
  refine ⟨?_, ok.tk, ?_, ?_⟩
  · have : (c.cmd k).body.length ≤ 1024 := by
      show (c.bodies.getD (k - 1) []).length ≤ 1024
      rw [List.getD_eq_getElem?_getD]
      cases hx : c.bodies[k - 1]? with
      | none => simp
      | some b => exact ok.bs b (List.mem_of_getElem? hx)
    simp [mayB, this]
    simp [Cl.cmd]
  · show k < _; omega
  · show c.rep < _; omega
set_option maxRecDepth 20000 in
set_option maxHeartbeats 2000000 in
theorem connect_any {base N : Nat} {p : Pa} {c : Cl} {w : World} (h : CA base w p c) (ok : c.Ok N) : Calls Try.prog 20 #[.pointer (some ⟨p.g, 0, none⟩)] w (AnsP base w p 0 (connF c).2.2 (connF c).1 fun v => .tuple #[v, .int .i64 (connF c).2.1]) := by
  have c0 : w.cell? ⟨p.g, 0, none⟩ = some (.int .u64 (c.nonce : Int)) := h.cells 0
  have c8 : w.cell? ⟨p.g, 8, none⟩ = some (.bool c.conn) := h.cells 8
  have c9 : w.cell? ⟨p.g, 9, none⟩ = some (.bool c.greet) := h.cells 9
  have c13 : w.cell? ⟨p.g, 13, none⟩ = some (.int .i64 (c.wait : Int)) := h.cells 13
  have c14 : w.cell? ⟨p.g, 14, none⟩ = some (.bool c.over) := h.cells 14
  have HM := Lib.hid (made_at p.g c.nonce w c0)
  have d1 : decide (1 ≤ c.nonce) = true := by simpa using ok.no.1
  rw [d1] at HM
  have HC := Lib.hid h
  have HOK := Lib.hid ok
  have f8 := h.blk.frozen 8
  have f9 := h.blk.frozen 9
  have f13 := h.blk.frozen 13
  have hg := h.blk.lt
  clear h ok d1 c0
  cases ho : c.over with
  | true =>
    have HF : Hid (connF c = ([], 202, c)) := Lib.hid (by unfold connF; rw [if_pos ho])
    rw [ho] at c14
    rw [HF.out]
    go_enter Try.func20, Try.ntmps20
    go_wp2_with (go_at_call 43; refine HM.out.mono ?_; rintro e w2 ⟨rfl, rfl⟩)
    go_ret2
    exact ⟨_, [], p, rfl, Stp.refl HC.out 0, Frs.nil _ _ _⟩
  | false =>
    cases hc : c.conn with
    | true =>
      have HF : Hid (connF c = ([], 203, c)) := Lib.hid (by unfold connF; rw [if_neg (by rw [ho]; decide), if_pos hc])
      rw [ho] at c14
      rw [hc] at c8
      rw [HF.out]
      go_enter Try.func20, Try.ntmps20
      go_wp2_with (go_at_call 43; refine HM.out.mono ?_; rintro e w2 ⟨rfl, rfl⟩)
      go_ret2
      exact ⟨_, [], p, rfl, Stp.refl HC.out 0, Frs.nil _ _ _⟩
    | false =>
      have HF : Hid (connF c = ([c.hello], 0, { c with conn := true, greet := false, wait := 0 })) := Lib.hid (by unfold connF; rw [if_neg (by rw [ho]; decide), if_neg (by rw [hc]; decide)])
      rw [ho] at c14
      rw [hc] at c8
      rw [HF.out]
      obtain ⟨w4, hw4⟩ : ∃ w4, ((w.setCell ⟨p.g, 8, none⟩ (.bool true)).setCell ⟨p.g, 9, none⟩ (.bool false)).setCell ⟨p.g, 13, none⟩ (.int .i64 0) = w4 := ⟨_, rfl⟩
      have HS : Hid (Stp base w p 0 { c with conn := true, greet := false, wait := 0 } p w4) := Lib.hid (by
        rw [← hw4]
        exact ⟨HC.out.turn (((HC.out.blk.set_ 8 _).set_ 9 _).set_ 13 _) (fun k hk hn => by rw [Below.heap_setCell _ _ _ _ hn, Below.heap_setCell _ _ _ _ hn, Below.heap_setCell _ _ _ _ hn]) rfl rfl rfl rfl, rfl, fun k hk => .inl hk, ((((Chg.refl (CF p) w).setCell (p := ⟨p.g, 8, none⟩) (fun _ => .inl rfl) _).setCell (p := ⟨p.g, 9, none⟩) (fun _ => .inl rfl) _).setCell (p := ⟨p.g, 13, none⟩) (fun _ => .inl rfl) _), by omega⟩)
      have HH := Lib.hid (hello_any p.g c.tok c.nonce w4 (HS.out.ca.cells 0) (HS.out.ca.cells 7) HS.out.ca.blk.lt)
      have HFR := Lib.hid fun (w5 : World) => frames_one c.hello none 0 w5 Reads.none_ (hello_ok HOK.out)
      unfold Cl.hello at HFR
      have HSZ : Hid (w.heap.size ≤ w4.heap.size) := Lib.hid HS.out.chg.size
      go_enter Try.func20, Try.ntmps20
      go_upto_region 6 with (go_at_call 43; refine HM.out.mono ?_; rintro e w2 ⟨rfl, rfl⟩)
      clear hw4 c8 c9 c13 c14 f8 f9 f13 HM
      go_wp2_with (first
        | (go_at_call 49; refine HH.out.mono ?_; rintro e w5 ⟨rfl, hb5⟩; have HB5 := Lib.hid hb5; clear hb5)
        | (go_at_call 48; refine (HFR.out _).mono ?_; rintro e w6 ⟨v, l, rfl, hr, hl, hb6⟩; have HR := Lib.hid hr; have HL := Lib.hid hl; have HB6 := Lib.hid hb6; clear hr hl hb6))
      go_ret2
      exact HS.out.ans (Nat.le_trans HSZ.out HB5.out.size) HB5.out.size rfl HR.out HL.out (HB5.out.trans (HB6.out.mono HB5.out.size))
/-- the reader reset -/
theorem CA.cutR {base : Nat} {w w' : World} {p : Pa} {c : Cl} (h : CA base w p c) {d' : Int} (hd : 0 ≤ d') (hb : Blk w' p.r 136 #[.bool true, .slice none 0 0, .int .i64 d']) (hk : ∀ k, k < w.heap.size → k ≠ p.r → w'.heap[k]? = w.heap[k]?) : CA base w' { p with kv := .slice none 0 0, d := d' } { c with kept := [] } := by
  obtain ⟨n1, n2, n3⟩ := h.ne
  have hr := h.rows.keep (w' := w') fun k e => hk k (h.rows.lt e).2 (n3 k e).2
  exact ⟨(hk _ h.blk.lt n1).trans h.blk, hb, OwnB.nil 5 _ _, ⟨hr.b, hr.r, hr.e, hr.bi, hr.ri, hr.ei, fun k _ e => by simp [Value.ownBlock] at e⟩, h.ge, hd⟩
def CutP (base : Nat) (w : World) (p : Pa) (m : Nat) (c' : Cl) (er : Int) (e : Ending) (w' : World) : Prop := ∃ p', e = .returned (.int .i64 er) ∧ Stp base w p m c' p' w'
set_option maxRecDepth 20000 in
set_option maxHeartbeats 2000000 in
theorem cut_any {base N : Nat} {p : Pa} {c : Cl} {w : World} (h : CA base w p c) (ok : c.Ok N) (hd : p.d ≤ 1152921504606846976) : Calls Try.prog 38 #[.pointer (some ⟨p.g, 0, none⟩)] w (CutP base w p 1088 (cutF c).2 (cutF c).1) := by
  have c0 : w.cell? ⟨p.g, 0, none⟩ = some (.int .u64 (c.nonce : Int)) := h.cells 0
  have c3 : w.cell? ⟨p.g, 3, none⟩ = some (.pointer (some ⟨p.r, 0, none⟩)) := h.cells 3
  have c8 : w.cell? ⟨p.g, 8, none⟩ = some (.bool c.conn) := h.cells 8
  have c9 : w.cell? ⟨p.g, 9, none⟩ = some (.bool c.greet) := h.cells 9
  have HM := Lib.hid (made_at p.g c.nonce w c0)
  have d1 : decide (1 ≤ c.nonce) = true := by simpa using ok.no.1
  rw [d1] at HM
  have HC := Lib.hid h
  have HOK := Lib.hid ok
  have f8 := h.blk.frozen 8
  have f9 := h.blk.frozen 9
  have hg := h.blk.lt
  clear h ok d1 c0
  cases hc : c.conn with
  | false =>
    have HF : Hid (cutF c = (203, c)) := Lib.hid (by unfold cutF; rw [if_pos hc])
    rw [hc] at c8
    rw [HF.out]
    go_enter Try.func38, Try.ntmps38
    go_wp2_with (go_at_call 43; refine HM.out.mono ?_; rintro e w2 ⟨rfl, rfl⟩)
    go_ret
    exact ⟨p, rfl, Stp.refl HC.out _⟩
  | true =>
    have HF : Hid (cutF c = (0, { c with conn := false, greet := false, kept := [] })) := Lib.hid (by unfold cutF; rw [if_neg (by rw [hc]; decide)])
    rw [hc] at c8
    rw [HF.out]
    obtain ⟨w4, hw4⟩ : ∃ w4, (w.setCell ⟨p.g, 8, none⟩ (.bool false)).setCell ⟨p.g, 9, none⟩ (.bool false) = w4 := ⟨_, rfl⟩
    have hS : CA base w4 p { c with conn := false, greet := false } := by
      rw [← hw4]
      exact HC.out.turn ((HC.out.blk.set_ 8 _).set_ 9 _) (fun k hk hn => by rw [Below.heap_setCell _ _ _ _ hn, Below.heap_setCell _ _ _ _ hn]) rfl rfl rfl rfl
    have hG : Chg (CF p) w w4 := by
      rw [← hw4]
      exact ((Chg.refl (CF p) w).setCell (p := ⟨p.g, 8, none⟩) (fun _ => .inl rfl) _).setCell (p := ⟨p.g, 9, none⟩) (fun _ => .inl rfl) _
    obtain ⟨A, cc, hkv, _, _⟩ := own_formL hS.kp
    have hrd := hS.rd
    rw [hkv] at hrd
    have hkl : c.kept.length < 1088 := HOK.out.kp
    have hdr := hS.dr
    have HR := Lib.hid (reset_any p.r A c.kept.length cc p.d w4 hrd ⟨hdr, by omega⟩ (by omega))
    have k3 : w4.cell? ⟨p.g, 3, none⟩ = some (.pointer (some ⟨p.r, 0, none⟩)) := hS.cells 3
    have HEND : Hid (∀ w5, ((w4.setCell ⟨p.r, 2, none⟩ (.int .i64 (p.d + c.kept.length))).setCell ⟨p.r, 1, none⟩ (.slice none 0 0)).drew = w5 → CutP base w p 1088 { c with conn := false, greet := false, kept := [] } 0 (.returned (.int .i64 0)) w5) := Lib.hid (by
      rintro w5 rfl
      refine ⟨{ p with kv := .slice none 0 0, d := p.d + c.kept.length }, rfl, hS.cutR (by omega) ?_ (fun k hk hn => ?_), rfl, fun k hk => ?_, ?_, by dsimp only; omega⟩
      · have := ((hrd.set_ 2 (.int .i64 (p.d + c.kept.length))).set_ 1 (.slice none 0 0))
        exact this
      · show ((w4.setCell _ _).setCell _ _).heap[k]? = _
        rw [Below.heap_setCell _ _ _ _ hn, Below.heap_setCell _ _ _ _ hn]
      · rcases hk with e | e | e | e
        · exact .inl (.inl e)
        · exact .inl (.inr (.inl e))
        · simp [Value.ownBlock] at e
        · exact .inl (.inr (.inr (.inr e)))
      · exact ((hG.setCell (p := ⟨p.r, 2, none⟩) (fun _ => .inr (.inl rfl)) _).setCell (p := ⟨p.r, 1, none⟩) (fun _ => .inr (.inl rfl)) _).drew)
    clear hS hG hkv hrd hkl hdr
    go_enter Try.func38, Try.ntmps38
    go_upto_region 4 with (go_at_call 43; refine HM.out.mono ?_; rintro e w2 ⟨rfl, rfl⟩)
    clear hw4 c8 c9 f8 f9 HM
    go_wp2_with (go_at_call 71; refine HR.out.mono ?_; rintro e w5 ⟨rfl, hw5⟩)
    go_ret
    exact HEND.out _ hw5
set_option maxRecDepth 20000 in
set_option maxHeartbeats 2000000 in
theorem bye_any {base N : Nat} {p : Pa} {c : Cl} {w : World} (h : CA base w p c) (ok : c.Ok N) (hN : N ≤ 1152921504606846976) : Calls Try.prog 37 #[.pointer (some ⟨p.g, 0, none⟩)] w (AnsP base w p 0 (byeF c).2.2 (byeF c).1 fun v => .tuple #[v, .int .i64 (byeF c).2.1]) := by
  have c0 : w.cell? ⟨p.g, 0, none⟩ = some (.int .u64 (c.nonce : Int)) := h.cells 0
  have c7 : w.cell? ⟨p.g, 7, none⟩ = some (.int .u64 (c.tok : Int)) := h.cells 7
  have c9 : w.cell? ⟨p.g, 9, none⟩ = some (.bool c.greet) := h.cells 9
  have c11 : w.cell? ⟨p.g, 11, none⟩ = some (.int .u64 (c.rep : Int)) := h.cells 11
  have c14 : w.cell? ⟨p.g, 14, none⟩ = some (.bool c.over) := h.cells 14
  have c15 : w.cell? ⟨p.g, 15, none⟩ = some (.int .i64 c.reason) := h.cells 15
  have HM := Lib.hid (made_at p.g c.nonce w c0)
  have d1 : decide (1 ≤ c.nonce) = true := by simpa using ok.no.1
  rw [d1] at HM
  have HC := Lib.hid h
  have HOK := Lib.hid ok
  have f14 := h.blk.frozen 14
  have f15 := h.blk.frozen 15
  have hg := h.blk.lt
  clear h ok d1 c0
  cases ho : c.over with
  | true =>
    have HF : Hid (byeF c = ([], 202, c)) := Lib.hid (by unfold byeF; rw [if_pos ho])
    rw [ho] at c14
    rw [HF.out]
    go_enter Try.func37, Try.ntmps37
    go_wp2_with (go_at_call 43; refine HM.out.mono ?_; rintro e w2 ⟨rfl, rfl⟩)
    go_ret2
    exact ⟨_, [], p, rfl, Stp.refl HC.out 0, Frs.nil _ _ _⟩
  | false =>
    obtain ⟨w4, hw4⟩ : ∃ w4, (w.setCell ⟨p.g, 14, none⟩ (.bool true)).setCell ⟨p.g, 15, none⟩ (.int .i64 0) = w4 := ⟨_, rfl⟩
    have HS : Hid (Stp base w p 0 { c with over := true, reason := 0 } p w4) := Lib.hid (by
      rw [← hw4]
      exact ⟨HC.out.turn ((HC.out.blk.set_ 14 _).set_ 15 _) (fun k hk hn => by rw [Below.heap_setCell _ _ _ _ hn, Below.heap_setCell _ _ _ _ hn]) rfl rfl rfl rfl, rfl, fun k hk => .inl hk, ((Chg.refl (CF p) w).setCell (p := ⟨p.g, 14, none⟩) (fun _ => .inl rfl) _).setCell (p := ⟨p.g, 15, none⟩) (fun _ => .inl rfl) _, by omega⟩)
    have HSZ : Hid (w.heap.size ≤ w4.heap.size) := Lib.hid HS.out.chg.size
    rw [ho] at c14
    cases hc : c.greet with
    | false =>
      have HF : Hid (byeF c = ([], 0, { c with over := true, reason := 0 })) := Lib.hid (by unfold byeF; rw [if_neg (by rw [ho]; decide), if_pos hc])
      rw [hc] at c9
      rw [HF.out]
      have k9 : w4.cell? ⟨p.g, 9, none⟩ = some (.bool c.greet) := HS.out.ca.cells 9
      rw [hc] at k9
      go_enter Try.func37, Try.ntmps37
      go_upto_region 4 with (go_at_call 43; refine HM.out.mono ?_; rintro e w2 ⟨rfl, rfl⟩)
      clear hw4 c7 c9 c11 c14 c15 f14 f15 HM
      go_wp2
      go_ret2
      exact ⟨_, [], p, rfl, HS.out, Frs.nil _ _ _⟩
    | true =>
      have HF : Hid (byeF c = ([⟨7, c.tok, 0, c.rep, []⟩], 0, { c with over := true, reason := 0 })) := Lib.hid (by unfold byeF; rw [if_neg (by rw [ho]; decide), if_neg (by rw [hc]; decide)])
      rw [hc] at c9
      rw [HF.out]
      have k7 : w4.cell? ⟨p.g, 7, none⟩ = some (.int .u64 (c.tok : Int)) := HS.out.ca.cells 7
      have k11 : w4.cell? ⟨p.g, 11, none⟩ = some (.int .u64 (c.rep : Int)) := HS.out.ca.cells 11
      have k9 : w4.cell? ⟨p.g, 9, none⟩ = some (.bool c.greet) := HS.out.ca.cells 9
      rw [hc] at k9
      have hg4 : p.g < w4.heap.size := HS.out.ca.blk.lt
      have HFR := Lib.hid (show Calls Try.prog 48 #[.slice (some ⟨w4.heap.size, 0, none⟩) 1 1] ((w4.alloc (.cells #[.int .i64 7, .int .u64 (c.tok : Int), .int .u64 0, .int .u64 (c.rep : Int), .slice none 0 0] 39)).drew) _ from frames_one ⟨7, c.tok, 0, c.rep, []⟩ none 0 w4.drew Reads.none_ ⟨by simp [mayB], HOK.out.tk, by simp, by have := HOK.out.rp; have := HOK.out.is; show c.rep < _; omega⟩)
      go_enter Try.func37, Try.ntmps37
      go_upto_region 4 with (go_at_call 43; refine HM.out.mono ?_; rintro e w2 ⟨rfl, rfl⟩)
      clear hw4 c7 c9 c11 c14 c15 f14 f15 HM
      go_upto_region 6 with fail
      go_region_held3 (fun W => W.cell? ⟨p.g, 7, none⟩ = some (.int .u64 (c.tok : Int)) ∧ W.cell? ⟨p.g, 11, none⟩ = some (.int .u64 (c.rep : Int)))
        (first | go_keep | exact hk6)
        ((go_at_call 48; refine HFR.out.mono ?_; rintro e w6 ⟨v, l, rfl, hr, hl, hb6⟩; have hk6 := And.intro ((hb6.cell (p := ⟨p.g, 7, none⟩) hg4).trans k7) ((hb6.cell (p := ⟨p.g, 11, none⟩) hg4).trans k11); have HR := Lib.hid hr; have HL := Lib.hid hl; have HB6 : Hid (Below w4.heap.size w4 w6) := Lib.hid ⟨hb6.os, hb6.tape, hb6.output, hb6.size, hb6.block⟩; clear hr hl hb6))
      all_goals
        go_wp2
        go_ret2
        exact HS.out.ans HSZ.out (Nat.le_refl _) rfl HR.out HL.out HB6.out
end Go.Proofs.Ytjhkfpemcplaaaa
