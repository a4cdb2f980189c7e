/-
  The walk of Issue. No statement of the seat is proved here.
-/
import Derived.Test.YtjhkfpemcplaaaaClD
namespace Go.Proofs.Ytjhkfpemcplaaaa
open Go.RowKit

def issueF (c : Cl) (good : Bool) (body : List UInt8) : Nat × List Pk × Int × Cl :=
  if good = false then (0, [], 173, c) else if c.over = true then (0, [], 202, c) else if 256 ≤ c.iss - c.rep then (0, [], 201, c)
  else (c.iss + 1, if c.greet = true ∧ c.iss + 1 ≤ c.rep + c.win then [({ c with bodies := c.bodies ++ [body], iss := c.iss + 1 } : Cl).cmd (c.iss + 1)] else [], 0, { c with bodies := c.bodies ++ [body], iss := c.iss + 1 })
theorem issue_ok {N : Nat} {c : Cl} (ok : c.Ok N) {body : List UInt8} (hb : body.length ≤ 1024) : ({ c with bodies := c.bodies ++ [body], iss := c.iss + 1 } : Cl).Ok (N + 1) :=
  ⟨ok.no, ok.wi, ok.pa, by have := ok.bl; simp [this], fun b h => by
    rcases List.mem_append.1 h with h | h
    · exact ok.bs b h
    · rw [List.mem_singleton] at h; subst h; exact hb, by have := ok.rp; dsimp only; omega, ok.rl, by have := ok.is; dsimp only; omega, ok.tk, ok.ev, by have := ok.el; dsimp only; omega, ok.wt, ok.kp⟩
section
variable {base : Nat} {w w4 w5 : World} {p : Pa} {c c' : Cl} {v' : Value}
/-- while the row of bodies grows, all else of the client stays -/
theorem CA.stayB (h : CA base w p c) (hg : w.grownBy w4 p.bv.ownBlock) : Blk w4 p.g 98 (layA c p) ∧ Blk w4 p.r 136 #[.bool true, p.kv, .int .i64 p.d] ∧ OwnB 5 w4 base p.kv c.kept ∧ RowK kR base w4 p.rv p.rl ∧ RowK kE base w4 p.ev p.el := by
  have kp : ∀ k, k < w.heap.size → p.bv.ownBlock ≠ some k → w4.heap[k]? = w.heap[k]? := fun k hk hn => hg.block k hk (fun e => hn e.symm)
  refine ⟨(kp _ h.blk.lt fun e => own_blk_ne h.rows.b.row h.blk (by decide) e).trans h.blk, (kp _ h.rd.lt fun e => own_blk_ne h.rows.b.row h.rd (by decide) e).trans h.rd, own_same h.kp fun k hk => kp k (World.ownsRow.lt h.kp k hk).2 fun e => own_apart h.kp h.rows.b.row (by decide) k hk e, h.rows.r.keep fun k hk => kp k (h.rows.r.lt hk).2 fun e => ?_, h.rows.e.keep fun k hk => kp k (h.rows.e.lt hk).2 fun e => ?_⟩
  · rcases hk with hk | ⟨q, hq, hk⟩
    · exact own_apart h.rows.r.row h.rows.b.row (by decide) k hk e
    · exact own_apart (h.rows.r.els q hq) h.rows.b.row (by decide) k hk e
  · rcases hk with hk | ⟨q, hq, hk⟩
    · exact own_apart h.rows.e.row h.rows.b.row (by decide) k hk e
    · exact own_apart (h.rows.e.els q hq) h.rows.b.row (by decide) k hk e
theorem CA.pushB {body : List UInt8} {A2 : Option Addr} {c2 : Nat} (h : CA base w p c) (hq : OwnB 5 w base (.slice A2 body.length c2) body) (hf : ∀ k, (Value.slice A2 body.length c2).ownBlock = some k → p.kv.ownBlock ≠ some k)
    (hr : w4.ownsRow base 37 1 v' (p.bl.length + 1) (kB.flat p.bl ++ [.slice A2 body.length c2])) (hg : w.grownBy w4 p.bv.ownBlock) (hb : Blk w5 p.g 98 (layA c' { p with bv := v', bl := p.bl ++ [(body, A2, c2)] })) (hk : ∀ k, k < w4.heap.size → k ≠ p.g → w5.heap[k]? = w4.heap[k]?)
    (h1 : c'.bodies = c.bodies ++ [body]) (h2 : c'.reps = c.reps) (h3 : c'.evs = c.evs) (h4 : c'.kept = c.kept) : CA base w5 { p with bv := v', bl := p.bl ++ [(body, A2, c2)] } c' := by
  obtain ⟨s1, s2, s3, s4, s5⟩ := h.stayB hg
  have hrow : RowK kB base w4 v' (p.bl ++ [(body, A2, c2)]) := h.rows.b.push (by decide) (q := (body, A2, c2)) hq hr hg
  have key : ∀ {t : TypeId} {s n : Nat} {u : Value} {xs : List Value} {k : Nat}, w4.ownsRow base t s u n xs → t ≠ 98 → u.ownBlock = some k → w5.heap[k]? = w4.heap[k]? := fun ho ht e =>
    hk _ (World.ownsRow.lt ho _ e).2 fun e2 => own_blk_ne ho s1 ht (by rw [e, e2])
  refine ⟨hb, (hk _ s2.lt fun e => Blk.ne_ s2 s1 (by decide) e).trans s2, ?_, ⟨hrow.keep fun k hk' => ?_, s4.keep fun k hk' => ?_, s5.keep fun k hk' => ?_, ?_, by rw [h2]; exact h.rows.ri, by rw [h3]; exact h.rows.ei, fun k hk' => ?_⟩, h.ge, h.dr⟩
  · rw [h4]; exact own_same s3 fun k e => key s3 (by decide) e
  · rcases hk' with e | ⟨q, hq', e⟩
    · exact key hrow.row (by decide) e
    · exact key (hrow.els q hq') (by decide) e
  · rcases hk' with e | ⟨q, hq', e⟩
    · exact key s4.row (by decide) e
    · exact key (s4.els q hq') (by decide) e
  · rcases hk' with e | ⟨q, hq', e⟩
    · exact key s5.row (by decide) e
    · exact key (s5.els q hq') (by decide) e
  · rw [h1, ← h.rows.bi]; simp
  · rcases inB_push hk' with e | e
    · exact h.rows.ap k e
    · exact hf k e
end
/-- Issue's answer -/
def IssP (base : Nat) (w : World) (p : Pa) (r : Nat × List Pk × Int × Cl) (e : Ending) (w' : World) : Prop := AnsP base w p 0 r.2.2.2 r.2.1 (fun v => .tuple #[.int .u64 (r.1 : Int), v, .int .i64 r.2.2.1]) e w'
set_option maxRecDepth 20000 in
set_option maxHeartbeats 4000000 in
theorem issue_any {base N : Nat} {p : Pa} {c : Cl} {w : World} (kind : Int) (hd : Nat) (A : Option Addr) (n cc : Nat) (ns : List Int) (s : ByteArray) (good : Bool) (h : CA base w p c) (ok : c.Ok N) (hN : N + 1 ≤ 1152921504606846976) (hN2 : (N + 1) * 24 ≤ 140737488355328)
    (hh : hd < 18446744073709551616) (hr : RdI w w.heap.size A n ns) (hu : ∀ z ∈ ns, I64 z) (hgd : good = true ↔ goodC kind hd ns s.data.toList) :
    Calls Try.prog 21 #[.pointer (some ⟨p.g, 0, none⟩), .agg #[.int .i64 kind, .int .u64 (hd : Int), .slice A n cc, .string s]] w (IssP base w p (issueF c good (cmdB kind hd ns s.data.toList))) := by
  have hb1 : Below w.heap.size w (w.alloc (.cells #[.int .i64 kind, .int .u64 (hd : Int), .slice A n cc, .string s] 35)) := (Below.refl _ _).alloc (Nat.le_refl _) _
  have HB1 := Lib.hid hb1
  have HP := Lib.hid (putc_any kind hd A n cc ns s (w.alloc (.cells #[.int .i64 kind, .int .u64 (hd : Int), .slice A n cc, .string s] 35)) hh ((hr.below hb1).more hb1.size) hu)
  have HC1 := Lib.hid (h.below hb1)
  have HOK := Lib.hid ok
  have HGD := Lib.hid hgd
  have HGE : Hid (w.heap.size ≤ (w.alloc (.cells #[.int .i64 kind, .int .u64 (hd : Int), .slice A n cc, .string s] 35)).heap.size) := Lib.hid hb1.size
  have HCLT := Lib.hid fun k (hk : CF p k) => (h.lt hk)
  have hbl := ok.bl
  have hbs : base ≤ w.heap.size := by have := (h.lt (k := p.g) (.inl rfl)); omega
  have HBN : Hid (goodC kind hd ns s.data.toList → (cmdB kind hd ns s.data.toList).length ≤ 1024) := Lib.hid fun hg => hg.2.2.2.2
  obtain ⟨body, hbody⟩ : ∃ b, cmdB kind hd ns s.data.toList = b := ⟨_, rfl⟩
  rw [hbody] at HP HBN ⊢
  clear h ok hgd hb1 hr hu hbody
  have hX := Blk.new w 35 #[.int .i64 kind, .int .u64 (hd : Int), .slice A n cc, .string s]
  generalize hw1 : w.alloc (.cells #[.int .i64 kind, .int .u64 (hd : Int), .slice A n cc, .string s] 35) = w1 at *
  have x0 : w1.cell? ⟨w.heap.size, 0, none⟩ = some (.int .i64 kind) := hX.cell 0
  have x1 : w1.cell? ⟨w.heap.size, 1, none⟩ = some (.int .u64 (hd : Int)) := hX.cell 1
  have x2 : w1.cell? ⟨w.heap.size, 2, none⟩ = some (.slice A n cc) := hX.cell 2
  have x3 : w1.cell? ⟨w.heap.size, 3, none⟩ = some (.string s) := hX.cell 3
  have hS1 : Stp base w p 0 c p w1 := ⟨HC1.out, rfl, fun k hk => .inl hk, Chg.of_below HB1.out _, by omega⟩
  have HS1 := Lib.hid hS1
  clear hX hS1
  cases good with
  | false =>
    have HPF : Hid (Calls Try.prog 50 #[.agg #[.int .i64 kind, .int .u64 (hd : Int), .slice A n cc, .string s]] w1 fun e w' => e = .returned (.tuple #[.slice none 0 0, .int .i64 173]) ∧ Below w1.heap.size w1 w') := Lib.hid (HP.out.mono fun e w' ⟨hb, hp⟩ => by
      rcases hp with ⟨hg, _⟩ | ⟨_, he⟩
      · have := HGD.out.2 hg; cases this
      · exact ⟨he, hb⟩)
    have HF : Hid (issueF c false body = (0, [], 173, c)) := Lib.hid (by unfold issueF; rw [if_pos rfl])
    rw [HF.out]
    clear HP
    go_enter Try.func21, Try.ntmps21
    go_wp2_with (go_at_call 50; refine HPF.out.mono ?_; rintro e w2 ⟨rfl, hb2⟩; have HB2 := Lib.hid hb2; clear hb2)
    exact bodyPost_ret (v := .tuple #[.int .u64 0, .slice none 0 0, .int .i64 173]) (by simp [results, Try.results21, go_sem]) rfl ⟨_, [], p, rfl, HS1.out.below HB2.out, Frs.nil _ _ _⟩
  | true =>
    have HPT : Hid (Calls Try.prog 50 #[.agg #[.int .i64 kind, .int .u64 (hd : Int), .slice A n cc, .string s]] w1 fun e w' => ∃ A2 c2, e = .returned (.tuple #[.slice A2 body.length c2, .int .i64 0]) ∧ OwnB 5 w' w1.heap.size (.slice A2 body.length c2) body ∧ Below w1.heap.size w1 w') := Lib.hid (HP.out.mono fun e w' ⟨hb, hp⟩ => by
      rcases hp with ⟨hg, v, he, ho⟩ | ⟨hg, _⟩
      · obtain ⟨A2, c2, rfl, _, _⟩ := own_formL ho
        exact ⟨A2, c2, he, ho, hb⟩
      · exact absurd (HGD.out.1 rfl) hg)
    have hb1024 := HBN.out (HGD.out.1 rfl)
    clear HP
    go_enter Try.func21, Try.ntmps21
    go_upto_region 2 with (go_at_call 50; refine HPT.out.mono ?_; rintro e w2 ⟨A2, c2, rfl, ho2, hb2⟩; have HB2 := Lib.hid hb2; have HO2 := Lib.hid ho2; clear hb2 ho2)
    have HS2 := Lib.hid (HS1.out.below HB2.out)
    have HL2 := Lib.hid fun k (hk : CF p k) => (show k < w1.heap.size from (HC1.out.lt hk).2)
    clear x0 x1 x2 x3 HS1 HC1 HPT
    have k0 : w2.cell? ⟨p.g, 0, none⟩ = some (.int .u64 (c.nonce : Int)) := HS2.out.ca.cells 0
    have HM := Lib.hid (made_at p.g c.nonce w2 k0)
    have d1 : decide (1 ≤ c.nonce) = true := by simpa using HOK.out.no.1
    rw [d1] at HM
    have k14 : w2.cell? ⟨p.g, 14, none⟩ = some (.bool c.over) := HS2.out.ca.cells 14
    have k10 : w2.cell? ⟨p.g, 10, none⟩ = some (.int .u64 (c.iss : Int)) := HS2.out.ca.cells 10
    have k11 : w2.cell? ⟨p.g, 11, none⟩ = some (.int .u64 (c.rep : Int)) := HS2.out.ca.cells 11
    have b1 := HOK.out.rp
    have b2 := HOK.out.is
    have hg2 : p.g < w2.heap.size := HS2.out.ca.blk.lt
    have e1 : IntKind.u64.wrap ((c.iss : Int) - (c.rep : Int)) = (c.iss : Int) - (c.rep : Int) := by simp [IntKind.wrap, IntKind.bits, IntKind.signed]; omega
    clear k0 d1
    cases ho : c.over with
    | true =>
      have HF : Hid (issueF c true body = (0, [], 202, c)) := Lib.hid (by unfold issueF; rw [if_neg (by decide), if_pos ho])
      rw [ho] at k14
      go_wp2_with (go_at_call 43; refine HM.out.mono ?_; rintro e w3 ⟨rfl, rfl⟩)
      exact bodyPost_ret (v := .tuple #[.int .u64 0, .slice none 0 0, .int .i64 202]) (by simp [results, Try.results21, go_sem]) rfl (by rw [HF.out]; exact ⟨_, [], p, rfl, HS2.out, Frs.nil _ _ _⟩)
    | false =>
      rw [ho] at k14
      by_cases hq : 256 ≤ c.iss - c.rep
      · have HF : Hid (issueF c true body = (0, [], 201, c)) := Lib.hid (by unfold issueF; rw [if_neg (by decide), if_neg (by rw [ho]; decide), if_pos hq])
        have hq2 : (256 : Int) ≤ (c.iss : Int) - (c.rep : Int) := by omega
        go_upto_region 6 with (go_at_call 43; refine HM.out.mono ?_; rintro e w3 ⟨rfl, rfl⟩)
        go_quiet (fail)
        go_wp2
        exact bodyPost_ret (v := .tuple #[.int .u64 0, .slice none 0 0, .int .i64 201]) (by simp [results, Try.results21, go_sem]) rfl (by rw [HF.out]; exact ⟨_, [], p, rfl, HS2.out.below (below_drewN (Below.refl _ _) _), Frs.nil _ _ _⟩)
      · have hq2 : ¬ (256 : Int) ≤ (c.iss : Int) - (c.rep : Int) := by omega
        go_upto_region 6 with (go_at_call 43; refine HM.out.mono ?_; rintro e w3 ⟨rfl, rfl⟩)
        go_quiet (fail)
        have hS3 := HS2.out.below (below_drewN (Below.refl _ _) nq)
        have hO3 : OwnB 5 (w2.drewN nq) w1.heap.size (.slice A2 body.length c2) body := HO2.out
        have hw3 : w1.heap.size ≤ (w2.drewN nq).heap.size := HB2.out.size
        have hl3 : ∀ k, CF p k → k < w1.heap.size := HL2.out
        generalize w2.drewN nq = w3 at hS3 hO3 hw3 ⊢
        have HS3 := Lib.hid hS3
        have HO3 := Lib.hid hO3
        obtain ⟨Av, cv, hbv, hcv1, hcv2⟩ := hS3.ca.rows.b.form
        have HROW := Lib.hid hS3.ca.rows.b.row
        rw [hbv] at HROW
        have hbl3 : p.bl.length = c.iss := by have := congrArg List.length hS3.ca.rows.bi; rw [List.length_map] at this; omega
        have k4 : w3.cell? ⟨p.g, 4, none⟩ = some (.slice Av p.bl.length cv) := (hS3.ca.cells 4).trans (by rw [← hbv]; rfl)
        obtain ⟨i0, hi, hz0, hz1, hz2⟩ := info_parts info37
        have hbase3 : base ≤ w3.heap.size := by have := HGE.out; omega
        have hlb : (p.bl.length + 1) * 24 ≤ 140737488355328 := by have := HOK.out.is; omega
        have HBL3 := Lib.hid hbl3
        have HBV := Lib.hid hbv
        clear hS3 hO3 k10 k11 k14 HS2 HO2 HB2 HM hbv hbl3
        go_upto_region 9 with (at_builtin; refine wpList_append_any _ rfl (.tmp 43) (.tmp 45) 31 rfl base 37 i0 _ 1 24 Try.underlying31 hi hz0 hz1 hz2 rfl (by decide) (.slice Av p.bl.length cv) p.bl.length (kB.flat p.bl) rfl (World.ownsRow.alloc HROW.out _) _ _ 1 1 [.slice A2 body.length c2] rfl (Reads.built _ 37 [.slice A2 body.length c2]) (by simp [Value.oneCell']) (by simp only [maxLen]; omega) (by omega) (by simp; omega) ?_; intro v4 w4 hr4 hg4 hv4; obtain ⟨A4, c4, rfl, _, _⟩ := own_formL hr4; have HR4 := Lib.hid hr4; have HG4 := Lib.hid hg4; have HV4 := Lib.hid hv4; have hst := (CA.below HS3.out.ca ((Below.refl _ _).alloc (Nat.le_refl _) _)).stayB (by rw [HBV.out]; exact hg4); have q4 : w4.cell? ⟨p.g, 4, none⟩ = some (.slice Av p.bl.length cv) := (hst.1.cell 4).trans (by rw [← HBV.out]; rfl); have q10 : w4.cell? ⟨p.g, 10, none⟩ = some (.int .u64 (c.iss : Int)) := hst.1.cell 10; have fr := fun i => hst.1.frozen i; have fr4 := fr 4; have fr10 := fr 10; have hg4w := hst.1.lt; clear hr4 hg4 hv4 hst fr)
        obtain ⟨j, hj⟩ : ∃ j, c.iss + 1 = j := ⟨_, rfl⟩
        have e2 : IntKind.u64.wrap ((c.iss : Int) + 1) = (j : Int) := by simp [IntKind.wrap, IntKind.bits, IntKind.signed]; omega
        go_upto_region 11 with fail
        have hS6 : Stp base w p 0 { c with bodies := c.bodies ++ [body], iss := j } { p with bv := .slice A4 (p.bl.length + 1) c4, bl := p.bl ++ [(body, A2, c2)] } ((w4.setCell ⟨p.g, 4, none⟩ (.slice A4 (p.bl.length + 1) c4)).setCell ⟨p.g, 10, none⟩ (.int .u64 (j : Int))) := by
          have hg4 := HG4.out
          rw [← HBV.out] at hg4
          have hca := CA.below HS3.out.ca ((Below.refl _ _).alloc (Nat.le_refl _) (.cells #[.slice A2 body.length c2] 37))
          have hst := hca.stayB hg4
          have hws3 := HS3.out.chg.size
          refine ⟨hca.pushB (own_base (World.ownsRow.alloc HO3.out _) (by have := HGE.out; omega)) (fun k hk hc => ?_) HR4.out hg4 ((hst.1.set_ 4 _).set_ 10 _) (fun k hk hn => by rw [Below.heap_setCell _ _ _ _ hn, Below.heap_setCell _ _ _ _ hn]) rfl rfl rfl rfl, rfl, fun k hk => ?_, ?_, by dsimp only; omega⟩
          · have h1 := (World.ownsRow.lt HO3.out k hk).1
            have h2 := hl3 k (.inr (.inr (.inl hc)))
            omega
          · rcases hk with e | e | e | (e | e) | e
            · exact .inl (.inl e)
            · exact .inl (.inr (.inl e))
            · exact .inl (.inr (.inr (.inl e)))
            · rcases HV4.out with h1 | h1
              · exact .inl (.inr (.inr (.inr (.inl (.inl (by rw [HBV.out, ← h1]; exact e))))))
              · refine .inr ?_
                have h2 : (Value.slice A4 (p.bl.length + 1) c4).ownBlock = some k := e
                rw [h1] at h2
                injection h2 with h2
                rw [← h2]
                simp
                omega
            · rcases inB_push e with e | e
              · exact .inl (.inr (.inr (.inr (.inl (.inr e)))))
              · have h1 := (World.ownsRow.lt HO3.out k e).1
                have := HGE.out
                exact .inr (by omega)
            · exact .inl (.inr (.inr (.inr (.inr e))))
          · exact (((HS3.out.chg.alloc _).trans (Chg.of_grown hg4 (F := CF p) fun k hk => .inr (.inr (.inr (.inl (.inl hk))))) (fun _ _ h => h)).setCell (p := ⟨p.g, 4, none⟩) (fun _ => .inl rfl) _).setCell (p := ⟨p.g, 10, none⟩) (fun _ => .inl rfl) _
        generalize (w4.setCell ⟨p.g, 4, none⟩ (.slice A4 (p.bl.length + 1) c4)).setCell ⟨p.g, 10, none⟩ (.int .u64 (j : Int)) = w6 at hS6 ⊢
        generalize hp' : ({ p with bv := .slice A4 (p.bl.length + 1) c4, bl := p.bl ++ [(body, A2, c2)] } : Pa) = p' at hS6
        have HS6 := Lib.hid hS6
        have hpg : p'.g = p.g := by rw [← hp']
        have hok6 := issue_ok HOK.out hb1024
        rw [hj] at hok6
        have HO6 := Lib.hid hok6
        have k9 : w6.cell? ⟨p.g, 9, none⟩ = some (.bool c.greet) := by rw [← hpg]; exact hS6.ca.cells 9
        have HLA := Lib.hid (last_any p.g c.rep c.win j w6 (by rw [← hpg]; exact hS6.ca.cells 1) (by rw [← hpg]; exact hS6.ca.cells 10) (by rw [← hpg]; exact hS6.ca.cells 11) HOK.out.wi.2 (by omega))
        have HSZ : Hid (w.heap.size ≤ w6.heap.size) := Lib.hid hS6.chg.size
        clear hS6 hok6 hp' q4 q10 fr4 fr10 hg4w k4 HS3 HO3 HROW HR4 HG4 HV4
        cases hgr : c.greet with
        | false =>
          have HF : Hid (issueF c true body = (j, [], 0, { c with bodies := c.bodies ++ [body], iss := j })) := Lib.hid (by unfold issueF; rw [if_neg (by decide), if_neg (by rw [ho]; decide), if_neg hq, if_neg (by rw [hgr]; rintro ⟨h, _⟩; cases h), hj])
          rw [hgr] at k9
          go_wp2
          exact bodyPost_ret (v := .tuple #[.int .u64 (j : Int), .slice none 0 0, .int .i64 0]) (by simp [results, Try.results21, go_sem]) rfl (by rw [HF.out]; exact ⟨_, [], p', rfl, HS6.out, Frs.nil _ _ _⟩)
        | true =>
          rw [hgr] at k9
          by_cases hjl : j ≤ c.rep + c.win
          · have HF : Hid (issueF c true body = (j, [({ c with bodies := c.bodies ++ [body], iss := j } : Cl).cmd j], 0, { c with bodies := c.bodies ++ [body], iss := j })) := Lib.hid (by unfold issueF; rw [if_neg (by decide), if_neg (by rw [ho]; decide), if_neg hq, if_pos ⟨hgr, by omega⟩, hj])
            have l1 : (j : Int) ≤ ((min (c.rep + c.win) j : Nat) : Int) := by omega
            have HCM := Lib.hid fun m => cmd_any (HS6.out.ca.drewN m) HO6.out hN j (by omega) (Nat.le_refl _)
            have HFR := Lib.hid fun A cc (w5 : World) hr => frames_one (({ c with bodies := c.bodies ++ [body], iss := j } : Cl).cmd j) A cc w5 hr (cmd_ok HO6.out hN (Nat.le_refl _))
            rw [hpg] at HCM
            unfold pkV at HCM
            generalize (min (c.rep + c.win) j : Nat) = mn at *
            go_wp2_with (first
              | (go_at_call 51; refine HLA.out.mono ?_; rintro e w7 ⟨rfl, m7, rfl⟩)
              | (go_at_call 52; refine (HCM.out _).mono ?_; rintro e w8 ⟨A5, c5, rfl, hr5, hb5⟩; have HR5 := Lib.hid hr5; have HB5 : Hid (Below w6.heap.size w6 w8) := Lib.hid ⟨hb5.os, hb5.tape, hb5.output, hb5.size, hb5.block⟩; clear hb5 hr5)
              | (go_at_call 48; refine (HFR.out _ _ _ HR5.out).mono ?_; rintro e w9 ⟨v, l, rfl, hr, hl, hb6⟩; have HR := Lib.hid hr; have HL := Lib.hid hl; have HB6 := Lib.hid hb6; clear hr hl hb6))
            exact bodyPost_ret (v := .tuple #[.int .u64 (j : Int), v, .int .i64 0]) (by simp [results, Try.results21, go_sem]) rfl (by rw [HF.out]; exact HS6.out.ans (Nat.le_trans HSZ.out HB5.out.size) HB5.out.size rfl HR.out HL.out (HB5.out.trans (HB6.out.mono HB5.out.size)))
          · have HF : Hid (issueF c true body = (j, [], 0, { c with bodies := c.bodies ++ [body], iss := j })) := Lib.hid (by unfold issueF; rw [if_neg (by decide), if_neg (by rw [ho]; decide), if_neg hq, if_neg (by rintro ⟨_, h⟩; omega), hj])
            have l1 : ¬ (j : Int) ≤ ((min (c.rep + c.win) j : Nat) : Int) := by omega
            generalize (min (c.rep + c.win) j : Nat) = mn at *
            go_wp2_with (go_at_call 51; refine HLA.out.mono ?_; rintro e w7 ⟨rfl, m7, rfl⟩)
            exact bodyPost_ret (v := .tuple #[.int .u64 (j : Int), .slice none 0 0, .int .i64 0]) (by simp [results, Try.results21, go_sem]) rfl (by rw [HF.out]; exact ⟨_, [], p', rfl, HS6.out.below (below_drewN (Below.refl _ _) _), Frs.nil _ _ _⟩)
end Go.Proofs.Ytjhkfpemcplaaaa
