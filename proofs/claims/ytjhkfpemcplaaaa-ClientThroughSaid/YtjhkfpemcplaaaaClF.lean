/-
  What packets do to a client, plain; the walk of refuse. No statement of the seat is proved here.
-/
import Derived.Test.YtjhkfpemcplaaaaClE
import Derived.Test.YtjhkfpemcplaaaaPr
import Derived.Test.YtjhkfpemcplaaaaPt
namespace Go.Proofs.Ytjhkfpemcplaaaa
open Go.RowKit

/-! ## Plain -/
/-- is there a reply in these bytes? -/
def goodG (bs : List UInt8) : Prop := (repT bs).2.2 = false ∧ (repT bs).2.1 = [] ∧ goodR (unzig (cnt bs false).1) (repV bs).1 (repT bs).1
def repG (bs : List UInt8) : Rp := ⟨unzig (cnt bs false).1, (repV bs).1, (repT bs).1⟩
open Classical in
noncomputable def getG (bs : List UInt8) : Option Rp := if goodG bs then some (repG bs) else none
theorem getG_yes {bs : List UInt8} (h : goodG bs) : getG bs = some (repG bs) := by unfold getG; rw [if_pos h]
theorem getG_no {bs : List UInt8} (h : ¬ goodG bs) : getG bs = none := by unfold getG; rw [if_neg h]
def oursB (c : Cl) (q : Pk) : Bool := decide (c.tok ≠ 0) && decide (q.tok = c.tok)
def welF (c : Cl) (q : Pk) : List Pk × Cl :=
  if q.tok = 0 ∨ (c.tok ≠ 0 ∧ oursB c q = false) then ([], c) else if c.greet = true then ([], { c with tok := q.tok })
  else ((List.range (c.last - c.rep)).map fun i => ({ c with tok := q.tok, greet := true, wait := 0 } : Cl).cmd (c.rep + 1 + i), { c with tok := q.tok, greet := true, wait := 0 })
noncomputable def repF (c : Cl) (q : Pk) : List Pk × Cl :=
  if oursB c q = false ∨ q.seq ≠ c.rep + 1 ∨ c.iss < q.seq then ([], c) else match getG q.body with
    | none => ([], c)
    | some r => (if c.greet = true ∧ c.rep + 1 + c.win ≤ c.iss then [({ c with reps := c.reps ++ [r], rep := c.rep + 1, wait := 0 } : Cl).cmd (c.rep + 1 + c.win)] else [], { c with reps := c.reps ++ [r], rep := c.rep + 1, wait := 0 })
noncomputable def evtF (c : Cl) (q : Pk) : List Pk × Cl :=
  if oursB c q = false ∨ q.seq ≤ c.ev then ([], c) else match getG q.body with
    | none => ([], c)
    | some r => ([], { c with evs := c.evs ++ [(q.seq, r)], ev := q.seq })
def refF (c : Cl) (q : Pk) : List Pk × Cl := if q.tok = c.tok ∧ q.body.length = 1 then ([], { c with over := true, reason := ((q.body.getD 0 0).toNat : Int) }) else ([], c)
def MetP (base : Nat) (w : World) (p : Pa) (r : List Pk × Cl) (e : Ending) (w' : World) : Prop := AnsP base w p 0 r.2 r.1 (fun v => v) e w'
/-- a packet in a block of its own -/
def pkC (q : Pk) (A : Option Addr) (cc : Nat) : Array Value := #[.int .i64 (q.kind : Int), .int .u64 (q.tok : Int), .int .u64 (q.seq : Int), .int .u64 (q.ack : Int), .slice A q.body.length cc]
/-- the packet in its box -/
structure Bx (w : World) (q : Pk) (A : Option Addr) (cc : Nat) (w1 : World) : Prop where
  blk : Blk w1 w.heap.size 39 (pkC q A cc)
  old : Below w.heap.size w w1
  rd : RdB w1 w1.heap.size A q.body.length q.body
theorem Bx.start {w : World} {q : Pk} {A : Option Addr} {cc : Nat} (hr : RdB w w.heap.size A q.body.length q.body) : Bx w q A cc (w.alloc (.cells (pkC q A cc) 39)) :=
  ⟨Blk.new w 39 _, (Below.refl _ _).alloc (Nat.le_refl _) _, (hr.below ((Below.refl _ _).alloc (Nat.le_refl _) _)).more (by simp)⟩
theorem CA.setOver {base : Nat} {w : World} {p : Pa} {c : Cl} (h : CA base w p c) (z : Int) : Stp base w p 0 { c with over := true, reason := z } p ((w.setCell ⟨p.g, 14, none⟩ (.bool true)).setCell ⟨p.g, 15, none⟩ (.int .i64 z)) :=
  ⟨h.turn ((h.blk.set_ 14 _).set_ 15 _) (fun k hk hn => by rw [Below.heap_setCell _ _ _ _ hn, Below.heap_setCell _ _ _ _ hn]) rfl rfl rfl rfl, rfl, fun k hk => .inl hk, ((Chg.refl (CF p) w).setCell (p := ⟨p.g, 14, none⟩) (fun _ => .inl rfl) _).setCell (p := ⟨p.g, 15, none⟩) (fun _ => .inl rfl) _, by omega⟩
set_option maxRecDepth 20000 in
set_option maxHeartbeats 2000000 in
theorem refuse_any {base : Nat} {p : Pa} {c : Cl} {w : World} (q : Pk) (A : Option Addr) (cc : Nat) (h : CA base w p c) (hr : RdB w w.heap.size A q.body.length q.body) :
    Calls Try.prog 80 #[.pointer (some ⟨p.g, 0, none⟩), pkV q A cc] w (MetP base w p (refF c q)) := by
  have hB := Bx.start (cc := cc) hr
  have hS1 := (Stp.refl h 0).below hB.old
  obtain ⟨w1, hw1⟩ : ∃ w1, w.alloc (.cells (pkC q A cc) 39) = w1 := ⟨_, rfl⟩
  rw [hw1] at hB hS1
  have HB := Lib.hid hB
  have HS1 := Lib.hid hS1
  have x1 : w1.cell? ⟨w.heap.size, 1, none⟩ = some (.int .u64 (q.tok : Int)) := hB.blk.cell 1
  have x4 : w1.cell? ⟨w.heap.size, 4, none⟩ = some (.slice A q.body.length cc) := hB.blk.cell 4
  have k7 : w1.cell? ⟨p.g, 7, none⟩ = some (.int .u64 (c.tok : Int)) := hS1.ca.cells 7
  have k14 : w1.cell? ⟨p.g, 14, none⟩ = some (.bool c.over) := hS1.ca.cells 14
  have k15 : w1.cell? ⟨p.g, 15, none⟩ = some (.int .i64 c.reason) := hS1.ca.cells 15
  have f14 := hS1.ca.blk.frozen 14
  have f15 := hS1.ca.blk.frozen 15
  have hg1 := hS1.ca.blk.lt
  have hwb := hB.blk.lt
  unfold pkV
  unfold pkC at hw1
  obtain ⟨bl, hbl⟩ : ∃ bl, q.body.length = bl := ⟨_, rfl⟩
  rw [hbl] at hw1 x4 ⊢
  have HBL := Lib.hid hbl
  clear h hr hbl hB hS1
  go_enter Try.func80, Try.ntmps80
  go_upto_region 1 with fail
  by_cases ht : q.tok = c.tok
  · by_cases h1 : bl = 1
    · have HF : Hid (refF c q = ([], { c with over := true, reason := ((q.body.getD 0 0).toNat : Int) })) := Lib.hid (by unfold refF; rw [if_pos ⟨ht, by rw [HBL.out, h1]⟩])
      have hrb := HB.out.rd
      rw [HBL.out, h1] at hrb
      obtain ⟨ad, xb, rfl, hx, hxb, cx⟩ := Reads.byte hrb (show 0 < 1 by omega)
      have hbx : q.body.getD 0 0 = xb := by rw [List.getD_eq_getElem?_getD, hxb]; rfl
      rw [hbx] at HF
      have d1 : ((q.tok : Int) == (c.tok : Int)) = true := by simp [ht]
      have hx8 := xb.toNat_lt
      have e1 : IntKind.i64.wrap (xb.toNat : Int) = (xb.toNat : Int) := by rw [IntKind.wrap_i64]; omega
      have cx2 : w1.cell? ad = some (.int .u8 (xb.toNat : Int)) := by simpa [Addr.add] using cx
      subst h1
      clear hrb hx hxb hbx ht cx
      go_quiet (fail)
      go_wp2
      go_ret
      rw [HF.out]
      exact ⟨_, [], p, rfl, (HS1.out.below (below_drewN (Below.refl _ _) _)).trans ((HS1.out.ca.drewN _).setOver _), Frs.nil _ _ _⟩
    · have HF : Hid (refF c q = ([], c)) := Lib.hid (by unfold refF; rw [if_neg (by rintro ⟨_, h⟩; rw [HBL.out] at h; exact h1 h)])
      have d1 : ((q.tok : Int) == (c.tok : Int)) = true := by simp [ht]
      have d2 : ((bl : Int) == 1) = false := by simp; omega
      clear ht h1
      go_quiet (fail)
      go_wp2
      go_ret
      rw [HF.out]
      exact ⟨_, [], p, rfl, HS1.out.below (below_drewN (Below.refl _ _) _), Frs.nil _ _ _⟩
  · have HF : Hid (refF c q = ([], c)) := Lib.hid (by unfold refF; rw [if_neg (by rintro ⟨h, _⟩; exact ht h)])
    have d1 : ((q.tok : Int) == (c.tok : Int)) = false := by simp; omega
    clear ht
    go_quiet (fail)
    go_wp2
    go_ret
    rw [HF.out]
    exact ⟨_, [], p, rfl, HS1.out.below (below_drewN (Below.refl _ _) _), Frs.nil _ _ _⟩
end Go.Proofs.Ytjhkfpemcplaaaa
