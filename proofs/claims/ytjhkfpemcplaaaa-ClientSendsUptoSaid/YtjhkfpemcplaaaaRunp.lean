/-
  Contract of the document's Unpack.
-/
import Derived.Test.YtjhkfpemcplaaaaUnp
namespace Go.Proofs.Ytjhkfpemcplaaaa
open Go.RowKit

def leN : Nat → Nat → List UInt8
  | 0, _ => []
  | f + 1, q => UInt8.ofNat q :: leN f (q / 256)
theorem leN_le4 (S : Nat) : le4 S = leN 4 S := by
  simp [le4, leN, Nat.div_div_eq_div_mul]
theorem leN_step {bs : List UInt8} {m f q : Nat} (hm : m < bs.length) : (bs.drop m = leN (f + 1) q ↔ (bs.getD m 0 = UInt8.ofNat q ∧ bs.drop (m + 1) = leN f (q / 256))) := by
  rw [List.drop_eq_getElem_cons hm, leN]
  have e : bs.getD m 0 = bs[m] := by simp [List.getD_eq_getElem?_getD, hm]
  rw [e]
  constructor
  · intro h
    injection h with h1 h2
    exact ⟨h1, h2⟩
  · rintro ⟨h1, h2⟩
    rw [h1, h2]

/-- the checks at the head, on the world in which they are read -/
structure Head (w : World) (b off n : Nat) (bs : List UInt8) : Prop where
  a0 : w.cell? ⟨b, off, none⟩ = some (.int .u8 ((bs.getD 0 0).toNat : Int))
  a1 : w.cell? ⟨b, off + 1, none⟩ = some (.int .u8 ((bs.getD 1 0).toNat : Int))
  a2 : w.cell? ⟨b, off + 2, none⟩ = some (.int .u8 ((bs.getD 2 0).toNat : Int))
  a3 : w.cell? ⟨b, off + 3, none⟩ = some (.int .u8 ((bs.getD 3 0).toNat : Int))
theorem head_of {w W : World} {b off n : Nat} {bs : List UInt8} (h : RdB w w.heap.size (some ⟨b, off, none⟩) n bs) (hn : 4 ≤ n) (hw : Below w.heap.size w W) : Head W b off n bs := by
  obtain ⟨b', off', e, hb, hc⟩ := two_cells h hn
  injection e with e
  injection e with e1 e2
  subst e1 e2
  exact ⟨(hw.cell (p := ⟨b, off, none⟩) hb).trans (hc 0 (by omega)), (hw.cell (p := ⟨b, off + 1, none⟩) hb).trans (hc 1 (by omega)), (hw.cell (p := ⟨b, off + 2, none⟩) hb).trans (hc 2 (by omega)), (hw.cell (p := ⟨b, off + 3, none⟩) hb).trans (hc 3 (by omega))⟩

set_option maxRecDepth 20000 in
set_option maxHeartbeats 4000000 in
theorem runp_short (A : Option Addr) (n c : Nat) (bs : List UInt8) (w : World) (h : RdB w w.heap.size A n bs) (hn : n < 8) :
    Calls Try.prog 17 #[.slice A n c] w (UnpPost w (unp bs)) := by
  have hu : unp bs = (170, Pk.zero) := by
    have := h.len1
    unfold unp
    rw [if_pos (.inl (by omega))]
  rw [hu]
  have d0 : decide ((n : Int) < 8) = true := by simp; omega
  clear hn h
  go_enter Try.func17, Try.ntmps17
  go_wp2
  go_quiet (fail)
  go_wp2
  refine bodyPost_ret (v := .tuple #[.agg #[.int .i64 0, .int .u64 0, .int .u64 0, .int .u64 0, .slice none 0 0], .int .i64 170]) (by simp [results, Try.results17, go_sem]) rfl (UnpPost.err 170 ?_)
  refine Below.setCell (Below.setCell (Below.setCell (Below.setCell (Below.setCell (below_drewN ((Below.refl _ _).alloc (Nat.le_refl _) _) nq) ?_ _) ?_ _) ?_ _) ?_ _) ?_ _ <;> exact Nat.le_refl _

theorem bne_byte {x v : UInt8} (h : x ≠ v) : ((x.toNat : Int) != (v.toNat : Int)) = true := by
  rw [bne_iff_ne]
  intro e
  exact h (UInt8.toNat_inj.1 (by omega))
set_option maxRecDepth 20000 in
set_option maxHeartbeats 4000000 in
theorem runp_m0 (A : Option Addr) (n c : Nat) (bs : List UInt8) (w : World) (h : RdB w w.heap.size A n bs) (hn : 8 ≤ n) (h0 : bs.getD 0 0 ≠ 239) :
    Calls Try.prog 17 #[.slice A n c] w (UnpPost w (unp bs)) := by
  have hu : unp bs = (170, Pk.zero) := by
    unfold unp
    rw [if_pos (.inr (.inl h0))]
  rw [hu]
  obtain ⟨b, off, rfl, hb, hc⟩ := two_cells h (by omega)
  have a0 : ∀ o, (w.alloc o).cell? ⟨b, off, none⟩ = some (.int .u8 ((bs.getD 0 0).toNat : Int)) := fun o => (head_of h (by omega) ((Below.refl _ _).alloc (Nat.le_refl _) o)).a0
  have a1 : ∀ o, (w.alloc o).cell? ⟨b, off + 1, none⟩ = some (.int .u8 ((bs.getD 1 0).toNat : Int)) := fun o => (head_of h (by omega) ((Below.refl _ _).alloc (Nat.le_refl _) o)).a1
  have a2 : ∀ o, (w.alloc o).cell? ⟨b, off + 2, none⟩ = some (.int .u8 ((bs.getD 2 0).toNat : Int)) := fun o => (head_of h (by omega) ((Below.refl _ _).alloc (Nat.le_refl _) o)).a2
  have a3 : ∀ o, (w.alloc o).cell? ⟨b, off + 3, none⟩ = some (.int .u8 ((bs.getD 3 0).toNat : Int)) := fun o => (head_of h (by omega) ((Below.refl _ _).alloc (Nat.le_refl _) o)).a3
  have b0 := u8_lt (bs.getD 0 0)
  have b1 := u8_lt (bs.getD 1 0)
  have b2 := u8_lt (bs.getD 2 0)
  have b3 := u8_lt (bs.getD 3 0)
  have d0 : decide ((n : Int) < 8) = false := by simp; omega
  have n0 : (0 : Int) < (n : Int) := by omega
  have n1 : (1 : Int) < (n : Int) := by omega
  have n2 : (2 : Int) < (n : Int) := by omega
  have n3 : (3 : Int) < (n : Int) := by omega
  have t0 : (((bs.getD 0 0).toNat : Int) != 239) = true := bne_byte h0
  generalize (bs.getD 0 0).toNat = x0 at *
  generalize (bs.getD 1 0).toNat = x1 at *
  generalize (bs.getD 2 0).toNat = x2 at *
  generalize (bs.getD 3 0).toNat = x3 at *
  clear hc h h0 hu hn
  go_enter Try.func17, Try.ntmps17
  go_wp2
  go_quiet (fail)
  go_wp2
  refine bodyPost_ret (v := .tuple #[.agg #[.int .i64 0, .int .u64 0, .int .u64 0, .int .u64 0, .slice none 0 0], .int .i64 170]) (by simp [results, Try.results17, go_sem]) rfl (UnpPost.err 170 ?_)
  refine Below.setCell (Below.setCell (Below.setCell (Below.setCell (Below.setCell (below_drewN ((Below.refl _ _).alloc (Nat.le_refl _) _) nq) ?_ _) ?_ _) ?_ _) ?_ _) ?_ _ <;> exact Nat.le_refl _

set_option maxRecDepth 20000 in
set_option maxHeartbeats 4000000 in
theorem runp_m1 (A : Option Addr) (n c : Nat) (bs : List UInt8) (w : World) (h : RdB w w.heap.size A n bs) (hn : 8 ≤ n) (h0 : bs.getD 0 0 = 239) (h1 : bs.getD 1 0 ≠ 30) :
    Calls Try.prog 17 #[.slice A n c] w (UnpPost w (unp bs)) := by
  have hu : unp bs = (170, Pk.zero) := by
    unfold unp
    rw [if_pos (.inr (.inr (.inl h1)))]
  rw [hu]
  obtain ⟨b, off, rfl, hb, hc⟩ := two_cells h (by omega)
  have a0 : ∀ o, (w.alloc o).cell? ⟨b, off, none⟩ = some (.int .u8 ((bs.getD 0 0).toNat : Int)) := fun o => (head_of h (by omega) ((Below.refl _ _).alloc (Nat.le_refl _) o)).a0
  have a1 : ∀ o, (w.alloc o).cell? ⟨b, off + 1, none⟩ = some (.int .u8 ((bs.getD 1 0).toNat : Int)) := fun o => (head_of h (by omega) ((Below.refl _ _).alloc (Nat.le_refl _) o)).a1
  have a2 : ∀ o, (w.alloc o).cell? ⟨b, off + 2, none⟩ = some (.int .u8 ((bs.getD 2 0).toNat : Int)) := fun o => (head_of h (by omega) ((Below.refl _ _).alloc (Nat.le_refl _) o)).a2
  have a3 : ∀ o, (w.alloc o).cell? ⟨b, off + 3, none⟩ = some (.int .u8 ((bs.getD 3 0).toNat : Int)) := fun o => (head_of h (by omega) ((Below.refl _ _).alloc (Nat.le_refl _) o)).a3
  have b0 := u8_lt (bs.getD 0 0)
  have b1 := u8_lt (bs.getD 1 0)
  have b2 := u8_lt (bs.getD 2 0)
  have b3 := u8_lt (bs.getD 3 0)
  have d0 : decide ((n : Int) < 8) = false := by simp; omega
  have n0 : (0 : Int) < (n : Int) := by omega
  have n1 : (1 : Int) < (n : Int) := by omega
  have n2 : (2 : Int) < (n : Int) := by omega
  have n3 : (3 : Int) < (n : Int) := by omega
  have t0 : (((bs.getD 0 0).toNat : Int) != 239) = false := by rw [h0]; rfl
  have t1 : (((bs.getD 1 0).toNat : Int) != 30) = true := bne_byte h1
  generalize (bs.getD 0 0).toNat = x0 at *
  generalize (bs.getD 1 0).toNat = x1 at *
  generalize (bs.getD 2 0).toNat = x2 at *
  generalize (bs.getD 3 0).toNat = x3 at *
  clear hc h h0 h1 hu hn
  go_enter Try.func17, Try.ntmps17
  go_wp2
  go_quiet (fail)
  go_wp2
  refine bodyPost_ret (v := .tuple #[.agg #[.int .i64 0, .int .u64 0, .int .u64 0, .int .u64 0, .slice none 0 0], .int .i64 170]) (by simp [results, Try.results17, go_sem]) rfl (UnpPost.err 170 ?_)
  refine Below.setCell (Below.setCell (Below.setCell (Below.setCell (Below.setCell (below_drewN ((Below.refl _ _).alloc (Nat.le_refl _) _) nq) ?_ _) ?_ _) ?_ _) ?_ _) ?_ _ <;> exact Nat.le_refl _

set_option maxRecDepth 20000 in
set_option maxHeartbeats 4000000 in
theorem runp_len (A : Option Addr) (n c : Nat) (bs : List UInt8) (w : World) (h : RdB w w.heap.size A n bs) (hm : n ≤ 9223372036854775807) (hn : 8 ≤ n) (h0 : bs.getD 0 0 = 239) (h1 : bs.getD 1 0 = 30) (hl : n ≠ lenOf bs + 8) :
    Calls Try.prog 17 #[.slice A n c] w (UnpPost w (unp bs)) := by
  have hu : unp bs = (170, Pk.zero) := by
    have := h.len1
    unfold unp
    rw [if_pos (.inr (.inr (.inr (by omega))))]
  rw [hu]
  unfold lenOf at hl
  obtain ⟨b, off, rfl, hb, hc⟩ := two_cells h (by omega)
  have a0 : ∀ o, (w.alloc o).cell? ⟨b, off, none⟩ = some (.int .u8 ((bs.getD 0 0).toNat : Int)) := fun o => (head_of h (by omega) ((Below.refl _ _).alloc (Nat.le_refl _) o)).a0
  have a1 : ∀ o, (w.alloc o).cell? ⟨b, off + 1, none⟩ = some (.int .u8 ((bs.getD 1 0).toNat : Int)) := fun o => (head_of h (by omega) ((Below.refl _ _).alloc (Nat.le_refl _) o)).a1
  have a2 : ∀ o, (w.alloc o).cell? ⟨b, off + 2, none⟩ = some (.int .u8 ((bs.getD 2 0).toNat : Int)) := fun o => (head_of h (by omega) ((Below.refl _ _).alloc (Nat.le_refl _) o)).a2
  have a3 : ∀ o, (w.alloc o).cell? ⟨b, off + 3, none⟩ = some (.int .u8 ((bs.getD 3 0).toNat : Int)) := fun o => (head_of h (by omega) ((Below.refl _ _).alloc (Nat.le_refl _) o)).a3
  have b0 := u8_lt (bs.getD 0 0)
  have b1 := u8_lt (bs.getD 1 0)
  have b2 := u8_lt (bs.getD 2 0)
  have b3 := u8_lt (bs.getD 3 0)
  have d0 : decide ((n : Int) < 8) = false := by simp; omega
  have n0 : (0 : Int) < (n : Int) := by omega
  have n1 : (1 : Int) < (n : Int) := by omega
  have n2 : (2 : Int) < (n : Int) := by omega
  have n3 : (3 : Int) < (n : Int) := by omega
  have t0 : (((bs.getD 0 0).toNat : Int) != 239) = false := by rw [h0]; rfl
  have t1 : (((bs.getD 1 0).toNat : Int) != 30) = false := by rw [h1]; rfl
  have t2 : (((bs.getD 2 0).toNat : Int) + 256 * ((bs.getD 3 0).toNat : Int) != (n : Int) - 8) = true := by rw [bne_iff_ne]; omega
  have n8 : 8 ≤ (n : Int) := by omega
  generalize (bs.getD 0 0).toNat = x0 at *
  generalize (bs.getD 1 0).toNat = x1 at *
  generalize (bs.getD 2 0).toNat = x2 at *
  generalize (bs.getD 3 0).toNat = x3 at *
  clear hc h h0 h1 hu hn hl
  go_enter Try.func17, Try.ntmps17
  go_wp2
  go_quiet (fail)
  go_wp2
  refine bodyPost_ret (v := .tuple #[.agg #[.int .i64 0, .int .u64 0, .int .u64 0, .int .u64 0, .slice none 0 0], .int .i64 170]) (by simp [results, Try.results17, go_sem]) rfl (UnpPost.err 170 ?_)
  refine Below.setCell (Below.setCell (Below.setCell (Below.setCell (Below.setCell (below_drewN ((Below.refl _ _).alloc (Nat.le_refl _) _) nq) ?_ _) ?_ _) ?_ _) ?_ _) ?_ _ <;> exact Nat.le_refl _

theorem PartIs.far {w : World} {T B g : Nat} {l : List UInt8} {b : Bool} (h : PartIs w T B g l b) {p : Addr} (hp : g ≠ p.block) (hB : B ≤ p.block) (u : Value) : PartIs (w.setCell p u) T B g l b := by
  obtain ⟨h1, h2, A, c, hb, hr, hc⟩ := h
  exact ⟨h1, h2, A, c, hb.far hp u, hr.setCell hB u, hc⟩
theorem PartIs.alloc {w : World} {T B g : Nat} {l : List UInt8} {b : Bool} (h : PartIs w T B g l b) (o : Obj) : PartIs (w.alloc o) T B g l b := by
  obtain ⟨h1, h2, A, c, hb, hr, hc⟩ := h
  have := hb.lt
  exact ⟨h1, h2, A, c, hb.alloc o, hr.alloc (by omega) o, hc⟩
theorem Kept.far {w w1 : World} {T g n : Nat} {cs : Array Value} {A : Option Addr} {bs : List UInt8} (h : Kept w T g cs A n bs w1) {p : Addr} (hp : g ≠ p.block) (hB : w.heap.size ≤ p.block) (u : Value) : Kept w T g cs A n bs (w1.setCell p u) :=
  ⟨h.1.far hp u, h.2.1.setCell hB u, h.2.2.setCell hB u⟩
/-- the reader, what is kept, the packet under way -/
def RK3 (w : World) (g r pb : Nat) (cs pcs : Array Value) (A : Option Addr) (n : Nat) (bs l : List UInt8) (b : Bool) (w1 : World) : Prop := PartIs w1 110 w.heap.size r l b ∧ Kept w 39 g cs A n bs w1 ∧ Blk w1 pb 39 pcs
theorem rcnt_kept {w W : World} {g r pb n : Nat} {cs pcs : Array Value} {A : Option Addr} {bs l : List UInt8} {b : Bool} (h : RK3 w g r pb cs pcs A n bs l b W) (hne : g ≠ r) (hpr : pb ≠ r) :
    Calls Try.prog 46 #[.pointer (some ⟨r, 0, none⟩)] W fun e w1 => e = .returned (.int .u64 ((cnt l b).1 : Nat)) ∧ RK3 w g r pb cs pcs A n bs (cnt l b).2.1 (cnt l b).2.2 w1 :=
  (rcnt_any _ r l b W h.1).mono fun _ _ ⟨he, hp, hg⟩ => ⟨he, hp, h.2.1.only hg h.1.1 hne, h.2.2.grown hg (fun e => hpr (by injection e))⟩
theorem RK3.set {w W : World} {g r pb n : Nat} {cs pcs : Array Value} {A : Option Addr} {bs l : List UInt8} {b : Bool} (h : RK3 w g r pb cs pcs A n bs l b W) (hg : g ≠ pb) (hr : r ≠ pb) (hB : w.heap.size ≤ pb) (i : Nat) (u : Value) :
    RK3 w g r pb cs (pcs.setIfInBounds i u) A n bs l b (W.setCell ⟨pb, i, none⟩ u) :=
  ⟨h.1.far (p := ⟨pb, i, none⟩) hr hB u, h.2.1.far (p := ⟨pb, i, none⟩) hg hB u, h.2.2.set_ i u⟩

set_option maxRecDepth 20000 in
set_option maxHeartbeats 8000000 in
theorem runp_main (A : Option Addr) (n c : Nat) (bs : List UInt8) (w : World) (h : RdB w w.heap.size A n bs) (hcap : n ≤ c) (hn : 8 ≤ n) (h0 : bs.getD 0 0 = 239) (h1 : bs.getD 1 0 = 30) (hl : n = lenOf bs + 8) :
    Calls Try.prog 17 #[.slice A n c] w (UnpPost w (unp bs)) := by
  have hlen := h.len1
  have hL := lenOf_lt bs
  have hu : unp bs = if bs.drop (bs.length - 4) ≠ le4 (crc (bs.take (bs.length - 4))) then (171, Pk.zero)
      else if (parse (midB bs)).2 = true ∨ mayB (parse (midB bs)).1.kind (parse (midB bs)).1.body.length = false then (172, Pk.zero)
      else (0, (parse (midB bs)).1) := by
    conv => lhs; unfold unp
    rw [if_neg]
    rintro (q | q | q | q)
    · omega
    · exact q h0
    · exact q h1
    · omega
  have HU := Lib.hid hu
  have HH := Lib.hid h
  have HLE := Lib.hid hlen
  have hn2 : n < 65544 := by omega
  unfold lenOf at hl
  obtain ⟨b, off, rfl, hb, hc⟩ := two_cells h (by omega)
  have a0 : ∀ o, (w.alloc o).cell? ⟨b, off, none⟩ = some (.int .u8 ((bs.getD 0 0).toNat : Int)) := fun o => (head_of h (by omega) ((Below.refl _ _).alloc (Nat.le_refl _) o)).a0
  have a1 : ∀ o, (w.alloc o).cell? ⟨b, off + 1, none⟩ = some (.int .u8 ((bs.getD 1 0).toNat : Int)) := fun o => (head_of h (by omega) ((Below.refl _ _).alloc (Nat.le_refl _) o)).a1
  have a2 : ∀ o, (w.alloc o).cell? ⟨b, off + 2, none⟩ = some (.int .u8 ((bs.getD 2 0).toNat : Int)) := fun o => (head_of h (by omega) ((Below.refl _ _).alloc (Nat.le_refl _) o)).a2
  have a3 : ∀ o, (w.alloc o).cell? ⟨b, off + 3, none⟩ = some (.int .u8 ((bs.getD 3 0).toNat : Int)) := fun o => (head_of h (by omega) ((Below.refl _ _).alloc (Nat.le_refl _) o)).a3
  have b0 := u8_lt (bs.getD 0 0)
  have b1 := u8_lt (bs.getD 1 0)
  have b2 := u8_lt (bs.getD 2 0)
  have b3 := u8_lt (bs.getD 3 0)
  have d0 : decide ((n : Int) < 8) = false := by simp; omega
  have n0 : (0 : Int) < (n : Int) := by omega
  have n1 : (1 : Int) < (n : Int) := by omega
  have n2 : (2 : Int) < (n : Int) := by omega
  have n3 : (3 : Int) < (n : Int) := by omega
  have n4 : (0 : Int) ≤ (n : Int) - 4 := by omega
  have t0 : (((bs.getD 0 0).toNat : Int) != 239) = false := by rw [h0]; rfl
  have t1 : (((bs.getD 1 0).toNat : Int) != 30) = false := by rw [h1]; rfl
  have t2 : (((bs.getD 2 0).toNat : Int) + 256 * ((bs.getD 3 0).toNat : Int) != (n : Int) - 8) = false := by rw [bne_eq_false_iff_eq]; omega
  have n8 : 8 ≤ (n : Int) := by omega
  generalize (bs.getD 0 0).toNat = x0 at *
  generalize (bs.getD 1 0).toNat = x1 at *
  generalize (bs.getD 2 0).toNat = x2 at *
  generalize (bs.getD 3 0).toNat = x3 at *
  clear hc h h0 h1 hu hl hL hlen
  go_enter Try.func17, Try.ntmps17
  go_wp2
  go_quiet (fail)
  go_wp2_with fail
  have hK : Kept w 39 w.heap.size #[.int .i64 0, .int .u64 0, .int .u64 0, .int .u64 0, .slice none 0 0] (some ⟨b, off, none⟩) n bs ((w.alloc (.cells #[.int .i64 0, .int .u64 0, .int .u64 0, .int .u64 0, .slice none 0 0] 39)).drewN nq) :=
    ⟨(Blk.new w _ _).drewN nq, (HH.out.alloc (Nat.le_refl _) _).drewN nq, below_drewN ((Below.refl _ _).alloc (Nat.le_refl _) _) nq⟩
  generalize ((w.alloc (.cells #[.int .i64 0, .int .u64 0, .int .u64 0, .int .u64 0, .slice none 0 0] 39)).drewN nq) = W at hK ⊢
  obtain ⟨S, HS⟩ : ∃ S, Hid (S = crc (bs.take (n - 4))) := ⟨_, rfl⟩
  have HSUM := Lib.hid (rsum_any (some ⟨b, off, none⟩) (n - 4) c w.heap.size (bs.take (n - 4)) W (hK.2.1.first (by omega)) (by omega))
  have hS : S < 4294967296 := by rw [HS.out]; exact crc_lt _
  refine HSUM.out.mono ?_
  rw [← HS.out]
  rintro e w1 ⟨rfl, rfl⟩
  clear HSUM a0 a1 a2 a3 d0 t0 t1 t2 b0 b1 b2 b3
  go_wp2_with fail
  go_loop [5, 6] (fun s i => ∃ k q : Nat, k ≤ 4 ∧ i = .int .i64 k ∧ s = .int .u32 q ∧ q < 4294967296 ∧ (bs.drop (n - 4) = le4 S ↔ bs.drop (n - 4 + k) = leN (4 - k) q)) (fun _ i => 4 - (intOf i).toNat)
  case atStart => exact ⟨0, S, by omega, rfl, rfl, hS, by rw [leN_le4]; rfl⟩
  case round =>
    obtain ⟨k, q, hk, rfl, rfl, hq, hiff⟩ := hrel
    by_cases hlt : k < 4
    · obtain ⟨b', off', e', -, hcell⟩ := two_cells hK.2.1 (by omega)
      injection e' with e'
      injection e' with e1 e2
      subst e1 e2
      have hc0 := hcell (n - 4 + k) (by omega)
      obtain ⟨f, hf⟩ : ∃ f, 4 - k = f + 1 := ⟨3 - k, by omega⟩
      have hst := leN_step (bs := bs) (m := n - 4 + k) (f := f) (q := q) (by have := HLE.out; omega)
      rw [← hf] at hst
      have hnk : (n : Int) - 4 + (k : Int) < (n : Int) := by omega
      have hk0 : (0 : Int) ≤ (n : Int) - 4 + (k : Int) := by omega
      have hb := u8_lt (bs.getD (n - 4 + k) 0)
      by_cases hm : bs.getD (n - 4 + k) 0 = UInt8.ofNat q
      · have tq : (((bs.getD (n - 4 + k) 0).toNat : Int) != (q : Int) % 256) = false := by rw [hm, bne_eq_false_iff_eq]; exact (low8 q).symm
        have HR := Lib.hid (hiff.trans (hst.trans ⟨fun h => h.2, fun h => ⟨hm, h⟩⟩))
        have HF := Lib.hid hf
        generalize (bs.getD (n - 4 + k) 0).toNat = x at *
        clear hiff hst hm hf hcell
        go_wp2_with fail
        go_round
        case rel => exact ⟨k + 1, q / 256, by omega, by go_num, by go_num, by omega, by have := HF.out; have := HR.out; rw [show 4 - (k + 1) = f from by omega, show n - 4 + (k + 1) = n - 4 + k + 1 from by omega]; exact this⟩
        case measure => simp [intOf]; omega
      · have tq : (((bs.getD (n - 4 + k) 0).toNat : Int) != (q : Int) % 256) = true := by rw [low8 q]; exact bne_byte hm
        have hu2 : unp bs = (171, Pk.zero) := by
          rw [HU.out, HLE.out, ← HS.out, if_pos (fun h => hm (hst.1 (hiff.1 h)).1)]
        generalize (bs.getD (n - 4 + k) 0).toNat = x at *
        clear hiff hst hm hf hcell
        have c0 := hK.1.cell 0
        have c1 := hK.1.cell 1
        have c2 := hK.1.cell 2
        have c3 := hK.1.cell 3
        have c4 := hK.1.cell 4
        simp at c0 c1 c2 c3 c4
        have f0 := hK.1.frozen 0
        have f1 := hK.1.frozen 1
        have f2 := hK.1.frozen 2
        have f3 := hK.1.frozen 3
        have f4 := hK.1.frozen 4
        have hbw := hK.2.2
        have HU2 := Lib.hid hu2
        clear hu2
        go_wp2_with fail
        refine bodyPost_ret (v := .tuple #[.agg #[.int .i64 0, .int .u64 0, .int .u64 0, .int .u64 0, .slice none 0 0], .int .i64 171]) (by simp [results, Try.results17, go_sem, c0, c1, c2, c3, c4]) rfl ?_
        rw [HU2.out]
        refine UnpPost.err 171 ?_
        refine Below.setCell (Below.setCell (Below.setCell (Below.setCell (Below.setCell hbw ?_ _) ?_ _) ?_ _) ?_ _) ?_ _ <;> exact Nat.le_refl _
    · obtain rfl : k = 4 := by omega
      have hE : bs.drop (n - 4) = le4 S := by
        rw [hiff]
        show bs.drop (n - 4 + 4) = []
        exact List.drop_eq_nil_of_le (by have := HLE.out; omega)
      clear hiff hlt
      go_wp2_with fail
      have hlt := hK.1.lt
      have hne : w.heap.size ≠ W.heap.size := by omega
      obtain ⟨l, HLl⟩ : ∃ l, Hid (l = midB bs) := ⟨_, rfl⟩
      have hll : l.length = n - 4 - 4 := by rw [HLl.out]; simp [midB, HLE.out]
      have hmid : RdB W w.heap.size (some ⟨b, off + 4, none⟩) l.length l := by
        have h2 := (hK.2.1.first (k := n - 4) (by omega)).last (k := 4) (by omega)
        rw [hll, HLl.out]
        unfold midB
        rw [HLE.out]
        simpa [Addr.add] using h2
      have hu3 : unp bs = if (parse l).2 = true ∨ mayB (parse l).1.kind (parse l).1.body.length = false then (172, Pk.zero) else (0, (parse l).1) := by
        have e1 : bs.drop (bs.length - 4) = le4 (crc (bs.take (bs.length - 4))) := by rw [HLE.out, hE, HS.out]
        rw [HU.out, if_neg (fun q => q e1), HLl.out]
      have HU3 := Lib.hid hu3
      have hP0 : PartIs (W.alloc (.cells #[.slice (some ⟨b, off + 4, none⟩) (n - 4 - 4) (c - 4), .bool false] 110)) 110 w.heap.size W.heap.size l false :=
        ⟨hK.2.2.size, by omega, some ⟨b, off + 4, none⟩, c - 4, by rw [hll]; exact Blk.new' W 110 _ _ rfl, hmid.alloc hK.2.2.size _, by omega⟩
      have hK0 := hK.alloc (.cells #[.slice (some ⟨b, off + 4, none⟩) (n - 4 - 4) (c - 4), .bool false] 110)
      clear hmid hK hu3 hE
      obtain ⟨kk, HKK⟩ : ∃ k, Hid (k = byteV l) := ⟨_, rfl⟩
      have hkk : kk < 256 := by rw [HKK.out]; exact byteV_lt l
      have HB := Lib.hid (rbyte_any w.heap.size W.heap.size l false _ hP0)
      generalize (W.alloc (.cells #[.slice (some ⟨b, off + 4, none⟩) (n - 4 - 4) (c - 4), .bool false] 110)) = V0 at hK0 HB ⊢
      refine HB.out.mono ?_
      rintro e w1 ⟨rfl, hP1, hg1⟩
      rw [← HKK.out]
      have hK1 := hK0.only hg1 hP1.1 hne
      clear HB hP0 hg1 hK0
      go_wp2_with fail
      obtain ⟨c1, HC1⟩ : ∃ c1, Hid (c1 = cnt l.tail (false || l.isEmpty)) := ⟨_, rfl⟩
      have HB := Lib.hid (rcnt_any _ _ _ _ _ hP1)
      refine HB.out.mono ?_
      rintro e w2 ⟨rfl, hP2, hg2⟩
      have hK2 := hK1.only hg2 hP2.1 hne
      rw [← HC1.out] at hP2 ⊢
      obtain ⟨tk, c12, c13⟩ := c1
      clear HB hP1 hg2 hK1
      dsimp only at hP2 ⊢
      go_wp2_with fail
      have hlw := hK2.1.lt
      have hlr : W.heap.size < w2.heap.size := by
        obtain ⟨_, _, _, _, hbb, _⟩ := hP2
        exact hbb.lt
      have R0 : RK3 w w.heap.size W.heap.size w2.heap.size #[.int .i64 0, .int .u64 0, .int .u64 0, .int .u64 0, .slice none 0 0] #[.int .i64 kk, .int .u64 tk, .int .u64 0, .int .u64 0, .slice none 0 0] (some ⟨b, off, none⟩) n bs c12 c13 (w2.alloc (.cells #[.int .i64 kk, .int .u64 tk, .int .u64 0, .int .u64 0, .slice none 0 0] 39)) :=
        ⟨hP2.alloc _, hK2.alloc _, Blk.new' w2 39 _ _ rfl⟩
      generalize (w2.alloc (.cells #[.int .i64 kk, .int .u64 tk, .int .u64 0, .int .u64 0, .slice none 0 0] 39)) = V1 at R0 ⊢
      clear hP2 hK2
      generalize hpbe : w2.heap.size = pb at R0 hlw hlr ⊢
      generalize hree : W.heap.size = r at R0 hlr hne HU HU3 ⊢
      clear hpbe hree
      have HB := Lib.hid (rcnt_kept R0 hne (by omega))
      obtain ⟨c2, HC2⟩ : ∃ c2, Hid (c2 = cnt c12 c13) := ⟨_, rfl⟩
      rw [← HC2.out] at HB
      refine HB.out.mono ?_
      rintro e w3 ⟨rfl, R1⟩
      obtain ⟨sq, c22, c23⟩ := c2
      clear HB R0
      dsimp only at R1 ⊢
      have p2 := R1.2.2.cell 2
      have p3 := R1.2.2.cell 3
      have p4 := R1.2.2.cell 4
      have g2 := R1.2.2.frozen 2
      have g3 := R1.2.2.frozen 3
      have g4 := R1.2.2.frozen 4
      simp at p2 p3 p4
      go_wp2_with fail
      have R2 := R1.set (by omega) (by omega) (by omega) 2 (.int .u64 sq)
      simp only [List.setIfInBounds_toArray, List.set_cons_succ, List.set_cons_zero] at R2
      clear R1 p2 p3 p4 g2 g3 g4
      generalize (w3.setCell ⟨pb, 2, none⟩ (.int .u64 sq)) = V2 at R2 ⊢
      have HB := Lib.hid (rcnt_kept R2 hne (by omega))
      obtain ⟨c3, HC3⟩ : ∃ c3, Hid (c3 = cnt c22 c23) := ⟨_, rfl⟩
      rw [← HC3.out] at HB
      refine HB.out.mono ?_
      rintro e w4 ⟨rfl, R3⟩
      have hpar : parse l = (⟨kk, tk, sq, c3.1, c3.2.1⟩, c3.2.2) := by
        have e1 : cnt l.tail l.isEmpty = (tk, c12, c13) := HC1.out.symm
        have e2 : cnt c12 c13 = (sq, c22, c23) := HC2.out.symm
        rw [HKK.out, HC3.out]
        simp only [parse, e1, e2]
      have hl3 : c3.2.1.length ≤ l.length := by
        have e1 := cnt_len l.tail (false || l.isEmpty)
        have e2 := cnt_len c12 c13
        have e3 := cnt_len c22 c23
        rw [← HC1.out] at e1
        rw [← HC2.out] at e2
        rw [← HC3.out] at e3
        simp at e1 e2
        omega
      have HP := Lib.hid hpar
      clear hpar HC1 HC2 HC3 HKK
      obtain ⟨c31, c32, c33⟩ := c3
      clear HB R2
      dsimp only at R3 HP hl3 ⊢
      have p2 := R3.2.2.cell 2
      have p3 := R3.2.2.cell 3
      have p4 := R3.2.2.cell 4
      have g2 := R3.2.2.frozen 2
      have g3 := R3.2.2.frozen 3
      have g4 := R3.2.2.frozen 4
      simp at p2 p3 p4
      go_upto_region 15 with fail
      have R4 := R3.set (by omega) (by omega) (by omega) 3 (.int .u64 c31)
      simp only [List.setIfInBounds_toArray, List.set_cons_succ, List.set_cons_zero] at R4
      clear R3 p2 p3 p4 g2 g3 g4
      generalize (w4.setCell ⟨pb, 3, none⟩ (.int .u64 c31)) = V3 at R4 ⊢
      obtain ⟨⟨hr1, hr2, A5, c5, hb5, hr5, hc5⟩, hkk5, hbp⟩ := R4
      have q0 := hb5.cell 0
      simp at q0
      have hl32 : c32.length < 65536 := by omega
      go_upto_region 16 with (at_builtin; refine wpList_app rfl (.const (.slice none 0 0)) (.tmp 83) 37 rfl w.heap.size 5 info5 Try.underlying37 (.slice none 0 0) [] rfl (OwnB.nil 5 V3 _) w.heap.size A5 c32.length c5 c32 rfl hr5 (by simp; omega) hkk5.2.2.size ?_; intro v6 w6 hown6 happ6; obtain ⟨A6, c6, rfl, hc6⟩ := hown6.form; clear hc6; have hbp6 := happ6.blk hbp (by simp [Value.ownBlock]); have hbr6 := happ6.blk hb5 (by simp [Value.ownBlock]); have hk6 := hkk5.app (OwnB.nil 5 V3 _) (by decide) happ6; have z4 := hbp6.cell 4; have fz4 := hbp6.frozen 4; simp at z4)
      have hbp7 : Blk (w6.setCell ⟨pb, 4, none⟩ (.slice A6 c32.length c6)) pb 39 #[.int .i64 kk, .int .u64 tk, .int .u64 sq, .int .u64 c31, .slice A6 c32.length c6] := by
        have := hbp6.set_ 4 (.slice A6 c32.length c6)
        simpa using this
      have hbr7 : Blk (w6.setCell ⟨pb, 4, none⟩ (.slice A6 c32.length c6)) r 110 #[.slice A5 c32.length c5, .bool c33] := hbr6.far (p := ⟨pb, 4, none⟩) (by show r ≠ pb; omega) _
      have hk7 := hk6.far (p := ⟨pb, 4, none⟩) (by show w.heap.size ≠ pb; omega) (by show w.heap.size ≤ pb; omega) (.slice A6 c32.length c6)
      have hown7 : OwnB 5 (w6.setCell ⟨pb, 4, none⟩ (.slice A6 c32.length c6)) w.heap.size (.slice A6 c32.length c6) c32 := by
        have h1 := OwnB.far hown6 hbp6 (by decide) 4 (.slice A6 c32.length c6)
        simpa using h1
      generalize (w6.setCell ⟨pb, 4, none⟩ (.slice A6 c32.length c6)) = W7 at hbp7 hbr7 hk7 hown7 ⊢
      clear hbp6 hbr6 hk6 z4 fz4 hown6 happ6 hbp hkk5 q0 hb5 hr5
      have p0 := hbp7.cell 0
      have p1 := hbp7.cell 1
      have p2 := hbp7.cell 2
      have p3 := hbp7.cell 3
      have p4 := hbp7.cell 4
      have y1 := hbr7.cell 1
      have z0 := hk7.1.cell 0
      have z1 := hk7.1.cell 1
      have z2 := hk7.1.cell 2
      have z3 := hk7.1.cell 3
      have z4 := hk7.1.cell 4
      simp at p0 p1 p2 p3 p4 y1 z0 z1 z2 z3 z4
      have f0 := hk7.1.frozen 0
      have f1 := hk7.1.frozen 1
      have f2 := hk7.1.frozen 2
      have f3 := hk7.1.frozen 3
      have f4 := hk7.1.frozen 4
      have hbw := hk7.2.2
      have lg := hk7.1.lt
      have lp := hbp7.lt
      have HOW := Lib.hid hown7
      clear hown7
      cases c33 with
      | true =>
        have hu4 : unp bs = (172, Pk.zero) := by rw [HU3.out, HP.out, if_pos (.inl rfl)]
        go_wp2_with fail
        refine bodyPost_ret (v := .tuple #[.agg #[.int .i64 0, .int .u64 0, .int .u64 0, .int .u64 0, .slice none 0 0], .int .i64 172]) (by simp [results, Try.results17, go_sem, z0, z1, z2, z3, z4]) rfl ?_
        rw [hu4]
        refine UnpPost.err 172 ?_
        refine Below.setCell (Below.setCell (Below.setCell (Below.setCell (Below.setCell hbw ?_ _) ?_ _) ?_ _) ?_ _) ?_ _ <;> exact Nat.le_refl _
      | false =>
        have HM := Lib.hid (rmay_any (kk : Int) (.int .u64 tk) (.int .u64 sq) (.int .u64 c31) A6 c32.length c6 W7 ⟨_, rfl⟩ ⟨_, rfl⟩ ⟨_, rfl⟩)
        cases hmB : mayB (kk : Int) c32.length with
        | false =>
          have hu4 : unp bs = (172, Pk.zero) := by rw [HU3.out, HP.out, if_pos (.inr hmB)]
          rw [hmB] at HM
          clear hmB
          go_wp2_with fail
          refine HM.out.mono ?_
          rintro e w8 ⟨rfl, rfl⟩
          clear HM p0 p1 p2 p3 p4 y1 z0 z1 z2 z3 z4 f0 f1 f2 f3 f4 hbw lg lp
          have hbp8 := hbp7.alloc (.cells #[.int .i64 kk, .int .u64 tk, .int .u64 sq, .int .u64 c31, .slice A6 c32.length c6] 39)
          have hk8 := hk7.alloc (.cells #[.int .i64 kk, .int .u64 tk, .int .u64 sq, .int .u64 c31, .slice A6 c32.length c6] 39)
          have HOW8 := Lib.hid (HOW.out.alloc (.cells #[.int .i64 kk, .int .u64 tk, .int .u64 sq, .int .u64 c31, .slice A6 c32.length c6] 39))
          generalize (W7.alloc (.cells #[.int .i64 kk, .int .u64 tk, .int .u64 sq, .int .u64 c31, .slice A6 c32.length c6] 39)) = W8 at hbp8 hk8 HOW8 ⊢
          clear hbp7 hk7 HOW hbr7
          have p0 := hbp8.cell 0
          have p1 := hbp8.cell 1
          have p2 := hbp8.cell 2
          have p3 := hbp8.cell 3
          have p4 := hbp8.cell 4
          have z0 := hk8.1.cell 0
          have z1 := hk8.1.cell 1
          have z2 := hk8.1.cell 2
          have z3 := hk8.1.cell 3
          have z4 := hk8.1.cell 4
          simp at p0 p1 p2 p3 p4 z0 z1 z2 z3 z4
          have f0 := hk8.1.frozen 0
          have f1 := hk8.1.frozen 1
          have f2 := hk8.1.frozen 2
          have f3 := hk8.1.frozen 3
          have f4 := hk8.1.frozen 4
          have hbw := hk8.2.2
          have lg := hk8.1.lt
          have lp := hbp8.lt
          go_wp2_with fail
          refine bodyPost_ret (v := .tuple #[.agg #[.int .i64 0, .int .u64 0, .int .u64 0, .int .u64 0, .slice none 0 0], .int .i64 172]) (by simp [results, Try.results17, go_sem, z0, z1, z2, z3, z4]) rfl ?_
          rw [hu4]
          refine UnpPost.err 172 ?_
          refine Below.setCell (Below.setCell (Below.setCell (Below.setCell (Below.setCell hbw ?_ _) ?_ _) ?_ _) ?_ _) ?_ _ <;> exact Nat.le_refl _
        | true =>
          have hu4 : unp bs = (0, ⟨kk, tk, sq, c31, c32⟩) := by rw [HU3.out, HP.out, if_neg (by simp [hmB])]
          rw [hmB] at HM
          clear hmB
          go_wp2_with fail
          refine HM.out.mono ?_
          rintro e w8 ⟨rfl, rfl⟩
          clear HM p0 p1 p2 p3 p4 y1 z0 z1 z2 z3 z4 f0 f1 f2 f3 f4 hbw lg lp
          have hbp8 := hbp7.alloc (.cells #[.int .i64 kk, .int .u64 tk, .int .u64 sq, .int .u64 c31, .slice A6 c32.length c6] 39)
          have hk8 := hk7.alloc (.cells #[.int .i64 kk, .int .u64 tk, .int .u64 sq, .int .u64 c31, .slice A6 c32.length c6] 39)
          have HOW8 := Lib.hid (HOW.out.alloc (.cells #[.int .i64 kk, .int .u64 tk, .int .u64 sq, .int .u64 c31, .slice A6 c32.length c6] 39))
          generalize (W7.alloc (.cells #[.int .i64 kk, .int .u64 tk, .int .u64 sq, .int .u64 c31, .slice A6 c32.length c6] 39)) = W8 at hbp8 hk8 HOW8 ⊢
          clear hbp7 hk7 HOW hbr7
          have p0 := hbp8.cell 0
          have p1 := hbp8.cell 1
          have p2 := hbp8.cell 2
          have p3 := hbp8.cell 3
          have p4 := hbp8.cell 4
          have z0 := hk8.1.cell 0
          have z1 := hk8.1.cell 1
          have z2 := hk8.1.cell 2
          have z3 := hk8.1.cell 3
          have z4 := hk8.1.cell 4
          simp at p0 p1 p2 p3 p4 z0 z1 z2 z3 z4
          have f0 := hk8.1.frozen 0
          have f1 := hk8.1.frozen 1
          have f2 := hk8.1.frozen 2
          have f3 := hk8.1.frozen 3
          have f4 := hk8.1.frozen 4
          have hbw := hk8.2.2
          have lg := hk8.1.lt
          have lp := hbp8.lt
          go_wp2_with fail
          refine bodyPost_ret (v := .tuple #[.agg #[.int .i64 kk, .int .u64 tk, .int .u64 sq, .int .u64 c31, .slice A6 c32.length c6], .int .i64 0]) (by simp [results, Try.results17, go_sem, z0, z1, z2, z3, z4]) rfl ?_
          rw [hu4]
          refine ⟨A6, c6, rfl, ?_, ?_⟩
          · exact OwnB.far (OwnB.far (OwnB.far (OwnB.far (OwnB.far HOW8.out hk8.1 (by decide) 0 _) (hk8.1.set_ 0 _) (by decide) 1 _) ((hk8.1.set_ 0 _).set_ 1 _) (by decide) 2 _) (((hk8.1.set_ 0 _).set_ 1 _).set_ 2 _) (by decide) 3 _) ((((hk8.1.set_ 0 _).set_ 1 _).set_ 2 _).set_ 3 _) (by decide) 4 _
          · refine Below.setCell (Below.setCell (Below.setCell (Below.setCell (Below.setCell hbw ?_ _) ?_ _) ?_ _) ?_ _) ?_ _ <;> exact Nat.le_refl _

/-- the document's Unpack, whatever the bytes -/
theorem runp_any (A : Option Addr) (n c : Nat) (bs : List UInt8) (w : World) (h : RdB w w.heap.size A n bs) (hc : n ≤ c) (hm : n ≤ 9223372036854775807) :
    Calls Try.prog 17 #[.slice A n c] w (UnpPost w (unp bs)) := by
  by_cases hn : n < 8
  · exact runp_short A n c bs w h hn
  · by_cases h0 : bs.getD 0 0 = 239
    · by_cases h1 : bs.getD 1 0 = 30
      · by_cases hl : n = lenOf bs + 8
        · exact runp_main A n c bs w h hc (by omega) h0 h1 hl
        · exact runp_len A n c bs w h hm (by omega) h0 h1 hl
      · exact runp_m1 A n c bs w h (by omega) h0 h1
    · exact runp_m0 A n c bs w h (by omega) h0
end Go.Proofs.Ytjhkfpemcplaaaa
