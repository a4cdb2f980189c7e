/-
  Merged: Unp, Runp, Rpack, Feed.
-/
import Derived.Test.YtjhkfpemcplaaaaPw
import Derived.ScopeJumps
namespace Go.Proofs.Ytjhkfpemcplaaaa
open Go.RowKit

structure Pk where
  kind : Nat
  tok : Nat
  seq : Nat
  ack : Nat
  body : List UInt8
def Pk.zero : Pk := ⟨0, 0, 0, 0, []⟩
/-- what stands between head and tail: the packet, whether something was bad -/
def parse (l : List UInt8) : Pk × Bool :=
  let c1 := cnt l.tail l.isEmpty
  let c2 := cnt c1.2.1 c1.2.2
  let c3 := cnt c2.2.1 c2.2.2
  (⟨byteV l, c1.1, c2.1, c3.1, c3.2.1⟩, c3.2.2)
def midB (bs : List UInt8) : List UInt8 := (bs.take (bs.length - 4)).drop 4
/-- the error's number, the packet -/
def unp (bs : List UInt8) : Nat × Pk :=
  if bs.length < 8 ∨ bs.getD 0 0 ≠ 239 ∨ bs.getD 1 0 ≠ 30 ∨ bs.length ≠ lenOf bs + 8 then (170, Pk.zero)
  else if bs.drop (bs.length - 4) ≠ le4 (crc (bs.take (bs.length - 4))) then (171, Pk.zero)
  else if (parse (midB bs)).2 = true ∨ mayB (parse (midB bs)).1.kind (parse (midB bs)).1.body.length = false then (172, Pk.zero)
  else (0, (parse (midB bs)).1)

/-- what both Unpacks end with -/
def UnpPost (w : World) (r : Nat × Pk) (e : Ending) (w' : World) : Prop :=
  ∃ A c, e = .returned (.tuple #[.agg #[.int .i64 r.2.kind, .int .u64 r.2.tok, .int .u64 r.2.seq, .int .u64 r.2.ack, .slice A r.2.body.length c], .int .i64 r.1]) ∧
    OwnB 5 w' w.heap.size (.slice A r.2.body.length c) r.2.body ∧ Below w.heap.size w w'
theorem UnpPost.err {w w' : World} (n : Nat) (hb : Below w.heap.size w w') :
    UnpPost w (n, Pk.zero) (.returned (.tuple #[.agg #[.int .i64 0, .int .u64 0, .int .u64 0, .int .u64 0, .slice none 0 0], .int .i64 n])) w' :=
  ⟨none, 0, rfl, OwnB.nil 5 w' _, hb⟩

theorem Reads.first {w : World} {B n k : Nat} {A : Option Addr} {bs : List UInt8} (h : RdB w B A n bs) (hk : k ≤ n) : RdB w B A k (bs.take k) := by
  have hl := h.len1
  refine ⟨by simp; omega, fun h0 => ?_⟩
  obtain ⟨ad, e, hbk, hcell⟩ := h.2 (by omega)
  refine ⟨ad, e, hbk, fun j u hu => hcell j u ?_⟩
  rw [List.map_take, List.getElem?_take] at hu
  split at hu
  · exact hu
  · cases hu
theorem Reads.last {w : World} {B n k : Nat} {A : Option Addr} {bs : List UInt8} (h : RdB w B A n bs) (hk : k ≤ n) : RdB w B (A.map (·.add k)) (n - k) (bs.drop k) := by
  have hc := Reads.cut h (cap := n + k + 1) hk (by omega)
  rw [if_neg (by omega)] at hc
  show Reads w B 1 _ _ ((bs.drop k).map bv)
  rw [List.map_drop]
  simpa using hc

set_option maxRecDepth 20000 in
set_option maxHeartbeats 4000000 in
theorem unp_short (A : Option Addr) (n c : Nat) (bs : List UInt8) (w : World) (h : RdB w w.heap.size A n bs) (hn : n < 8) :
    Calls Try.prog 76 #[.slice A n c] w (UnpPost w (unp bs)) := by
  have hu : unp bs = (170, Pk.zero) := by
    have := h.len1
    unfold unp
    rw [if_pos (.inl (by omega))]
  rw [hu]
  go_enter Try.func76, Try.ntmps76
  go_wp2
  exact bodyPost_ret (v := .tuple #[.agg #[.int .i64 0, .int .u64 0, .int .u64 0, .int .u64 0, .slice none 0 0], .int .i64 170]) (by simp [results, Try.results76, go_sem]) rfl (UnpPost.err 170 (by exact (Below.refl _ _).alloc (Nat.le_refl _) _))

theorem getD_ne {bs : List UInt8} {k : Nat} {v : UInt8} (h : bs.getD k 0 ≠ v) : (((bs.getD k 0).toNat : Int) == (v.toNat : Int)) = false := by
  rw [beq_eq_false_iff_ne]
  intro e
  exact h (UInt8.toNat_inj.1 (by omega))
theorem two_cells {w : World} {B n : Nat} {A : Option Addr} {bs : List UInt8} (h : RdB w B A n bs) (hn : 4 ≤ n) :
    ∃ b off, A = some ⟨b, off, none⟩ ∧ b < B ∧ (∀ k, k < n → w.cell? ⟨b, off + k, none⟩ = some (.int .u8 ((bs.getD k 0).toNat : Int))) := by
  obtain ⟨b, off, e, h0⟩ := byte_getD h (k := 0) (by omega)
  obtain ⟨ad, e2, hb, _⟩ := h.2 (by omega)
  rw [e] at e2
  injection e2 with e2
  subst e2
  refine ⟨b, off, e, hb, fun k hk => ?_⟩
  obtain ⟨b', off', e', h0'⟩ := byte_getD h hk
  rw [e] at e'
  injection e' with e'
  injection e' with e1 e2
  subst e1 e2
  exact h0'

set_option maxRecDepth 20000 in
set_option maxHeartbeats 4000000 in
theorem unp_magic (A : Option Addr) (n c : Nat) (bs : List UInt8) (w : World) (h : RdB w w.heap.size A n bs) (hn : 8 ≤ n) (h0 : bs.getD 0 0 ≠ 239 ∨ bs.getD 1 0 ≠ 30) :
    Calls Try.prog 76 #[.slice A n c] w (UnpPost w (unp bs)) := by
  have hu : unp bs = (170, Pk.zero) := by
    unfold unp
    rcases h0 with h0 | h0
    · rw [if_pos (.inr (.inl h0))]
    · rw [if_pos (.inr (.inr (.inl h0)))]
  rw [hu]
  obtain ⟨b, off, rfl, hb, hc⟩ := two_cells h (by omega)
  have c0 := hc 0 (by omega)
  have c1 := hc 1 (by omega)
  have a0 : ∀ o, (w.alloc o).cell? ⟨b, off, none⟩ = some (.int .u8 ((bs.getD 0 0).toNat : Int)) := fun o => (World.cell?_alloc_lt w o ⟨b, off, none⟩ hb).trans (by simpa using c0)
  have a1 : ∀ o, (w.alloc o).cell? ⟨b, off + 1, none⟩ = some (.int .u8 ((bs.getD 1 0).toNat : Int)) := fun o => (World.cell?_alloc_lt w o ⟨b, off + 1, none⟩ hb).trans c1
  have b0 := u8_lt (bs.getD 0 0)
  have b1 := u8_lt (bs.getD 1 0)
  have hn0 : decide ((n : Int) < 8) = false := by simp; omega
  have hn1 : (1 : Int) < (n : Int) := by omega
  by_cases hz : bs.getD 0 0 = 239
  · have hz1 : bs.getD 1 0 ≠ 30 := by
      rcases h0 with h0 | h0
      · exact absurd hz h0
      · exact h0
    have t0 : (((bs.getD 0 0).toNat : Int) != 239) = false := by rw [hz]; rfl
    have t1 : (((bs.getD 1 0).toNat : Int) != 30) = true := by
      have := getD_ne hz1
      simp only [bne, Bool.not_eq_true']
      exact this
    generalize (bs.getD 0 0).toNat = x0 at *
    generalize (bs.getD 1 0).toNat = x1 at *
    clear hc c0 c1 hz hz1 h h0 hu
    go_enter Try.func76, Try.ntmps76
    go_wp2
    exact bodyPost_ret (v := .tuple #[.agg #[.int .i64 0, .int .u64 0, .int .u64 0, .int .u64 0, .slice none 0 0], .int .i64 170]) (by simp [results, Try.results76, go_sem]) rfl (UnpPost.err 170 (by exact (Below.refl _ _).alloc (Nat.le_refl _) _))
  · have t0 : (((bs.getD 0 0).toNat : Int) != 239) = true := by
      have := getD_ne hz
      simp only [bne, Bool.not_eq_true']
      exact this
    generalize (bs.getD 0 0).toNat = x0 at *
    generalize (bs.getD 1 0).toNat = x1 at *
    clear hc c0 c1 hz h h0 hu
    go_enter Try.func76, Try.ntmps76
    go_wp2
    exact bodyPost_ret (v := .tuple #[.agg #[.int .i64 0, .int .u64 0, .int .u64 0, .int .u64 0, .slice none 0 0], .int .i64 170]) (by simp [results, Try.results76, go_sem]) rfl (UnpPost.err 170 (by exact (Below.refl _ _).alloc (Nat.le_refl _) _))

theorem lenOf_lt (bs : List UInt8) : lenOf bs < 65536 := by
  have := u8_lt (bs.getD 2 0)
  have := u8_lt (bs.getD 3 0)
  unfold lenOf
  omega
set_option maxRecDepth 20000 in
set_option maxHeartbeats 4000000 in
theorem unp_len (A : Option Addr) (n c : Nat) (bs : List UInt8) (w : World) (h : RdB w w.heap.size A n bs) (hn : 8 ≤ n) (h0 : bs.getD 0 0 = 239) (h1 : bs.getD 1 0 = 30) (hl : n ≠ lenOf bs + 8) :
    Calls Try.prog 76 #[.slice A n c] w (UnpPost w (unp bs)) := by
  have hu : unp bs = (170, Pk.zero) := by
    have := h.len1
    unfold unp
    rw [if_pos (.inr (.inr (.inr (by omega))))]
  rw [hu]
  obtain ⟨b, off, rfl, hb, hc⟩ := two_cells h (by omega)
  have c0 := hc 0 (by omega)
  have c1 := hc 1 (by omega)
  rw [h0] at c0
  rw [h1] at c1
  have a0 : ∀ o, (w.alloc o).cell? ⟨b, off, none⟩ = some (.int .u8 239) := fun o => (World.cell?_alloc_lt w o ⟨b, off, none⟩ hb).trans (by simpa using c0)
  have a1 : ∀ o, (w.alloc o).cell? ⟨b, off + 1, none⟩ = some (.int .u8 30) := fun o => (World.cell?_alloc_lt w o ⟨b, off + 1, none⟩ hb).trans (by simpa using c1)
  have hn0 : decide ((n : Int) < 8) = false := by simp; omega
  have hn1 : (1 : Int) < (n : Int) := by omega
  have HLen := Lib.hid fun o => length_any (some ⟨b, off, none⟩) n c w.heap.size bs (w.alloc o) (h.alloc (Nat.le_refl _) o) (by omega)
  have hL := lenOf_lt bs
  have tl' : ((n : Int) != (lenOf bs : Int) + 8) = true := by rw [bne_iff_ne]; omega
  generalize lenOf bs = L at *
  clear hc c0 c1 h h0 hu hl h1
  go_enter Try.func76, Try.ntmps76
  go_wp2_with fail
  refine (HLen.out _).mono ?_
  rintro e w1 ⟨rfl, k, rfl⟩
  clear HLen
  go_wp2_with fail
  refine bodyPost_ret (v := .tuple #[.agg #[.int .i64 0, .int .u64 0, .int .u64 0, .int .u64 0, .slice none 0 0], .int .i64 170]) (by simp [results, Try.results76, go_sem]) rfl (UnpPost.err 170 ?_)
  refine Below.setCell (Below.setCell (Below.setCell (Below.setCell (Below.setCell (below_drewN ((Below.refl _ _).alloc (Nat.le_refl _) _) k) ?_ _) ?_ _) ?_ _) ?_ _) ?_ _ <;> exact Nat.le_refl _

theorem Kept.only {w w1 w2 : World} {T g n r : Nat} {cs : Array Value} {A : Option Addr} {bs : List UInt8} (h : Kept w T g cs A n bs w1) (hg : w1.grownBy w2 (some r)) (hr : w.heap.size ≤ r) (hne : g ≠ r) : Kept w T g cs A n bs w2 := by
  obtain ⟨hb, hrd, hbw⟩ := h
  exact ⟨hb.grown hg (fun e => hne (by injection e)), hrd.grown hg hbw.size (fun k hk => by injection hk with hk; omega), hbw.grown hg hbw.size (fun k hk => by injection hk with hk; omega)⟩
/-- the reader and what is kept -/
def RdKept (w : World) (T g r : Nat) (cs : Array Value) (A : Option Addr) (n : Nat) (bs l : List UInt8) (b : Bool) (T' : Nat) (w1 : World) : Prop := PartIs w1 T' w.heap.size r l b ∧ Kept w T g cs A n bs w1
theorem byte_kept {w W : World} {T g r n : Nat} {cs : Array Value} {A : Option Addr} {bs l : List UInt8} {b : Bool} (h : RdKept w T g r cs A n bs l b 151 W) (hne : g ≠ r) :
    Calls Try.prog 89 #[.pointer (some ⟨r, 0, none⟩)] W fun e w1 => e = .returned (.int .u8 (byteV l : Nat)) ∧ RdKept w T g r cs A n bs l.tail (b || l.isEmpty) 151 w1 :=
  (byte_any _ r l b W h.1).mono fun _ _ ⟨he, hp, hg⟩ => ⟨he, hp, h.2.only hg h.1.1 hne⟩
theorem cnt_kept {w W : World} {T g r n : Nat} {cs : Array Value} {A : Option Addr} {bs l : List UInt8} {b : Bool} (h : RdKept w T g r cs A n bs l b 151 W) (hne : g ≠ r) :
    Calls Try.prog 90 #[.pointer (some ⟨r, 0, none⟩)] W fun e w1 => e = .returned (.int .u64 ((cnt l b).1 : Nat)) ∧ RdKept w T g r cs A n bs (cnt l b).2.1 (cnt l b).2.2 151 w1 :=
  (cnt_any _ r l b W h.1).mono fun _ _ ⟨he, hp, hg⟩ => ⟨he, hp, h.2.only hg h.1.1 hne⟩

set_option maxRecDepth 20000 in
set_option maxHeartbeats 8000000 in
theorem unp_main (A : Option Addr) (n c : Nat) (bs : List UInt8) (w : World) (h : RdB w w.heap.size A n bs) (hc : n ≤ c) (hn : 8 ≤ n) (h0 : bs.getD 0 0 = 239) (h1 : bs.getD 1 0 = 30) (hl : n = lenOf bs + 8) :
    Calls Try.prog 76 #[.slice A n c] w (UnpPost w (unp bs)) := by
  have hlen := h.len1
  have hu : unp bs = if bs.drop (bs.length - 4) ≠ le4 (crc (bs.take (bs.length - 4))) then (171, Pk.zero)
      else if (parse (midB bs)).2 = true ∨ mayB (parse (midB bs)).1.kind (parse (midB bs)).1.body.length = false then (172, Pk.zero)
      else (0, (parse (midB bs)).1) := by
    conv => lhs; unfold unp
    rw [if_neg]
    rintro (q | q | q | q)
    · omega
    · exact q h0
    · exact q h1
    · omega
  obtain ⟨b, off, rfl, hb, hce⟩ := two_cells h (by omega)
  have c0 := hce 0 (by omega)
  have c1 := hce 1 (by omega)
  rw [h0] at c0
  rw [h1] at c1
  have a0 : ∀ o, (w.alloc o).cell? ⟨b, off, none⟩ = some (.int .u8 239) := fun o => (World.cell?_alloc_lt w o ⟨b, off, none⟩ hb).trans (by simpa using c0)
  have a1 : ∀ o, (w.alloc o).cell? ⟨b, off + 1, none⟩ = some (.int .u8 30) := fun o => (World.cell?_alloc_lt w o ⟨b, off + 1, none⟩ hb).trans (by simpa using c1)
  have hn0 : decide ((n : Int) < 8) = false := by simp; omega
  have hn1 : (1 : Int) < (n : Int) := by omega
  have HLen := Lib.hid fun o => length_any (some ⟨b, off, none⟩) n c w.heap.size bs (w.alloc o) (h.alloc (Nat.le_refl _) o) (by omega)
  have hL := lenOf_lt bs
  have hn2 : n < 65544 := by omega
  have tl' : ((n : Int) != (lenOf bs : Int) + 8) = false := by rw [bne_eq_false_iff_eq]; omega
  have HU := Lib.hid hu
  have HH := Lib.hid h
  generalize lenOf bs = L at *
  have HLE := Lib.hid hlen
  have n1 : (0 : Int) ≤ (n : Int) - 4 := by omega
  have ncn : ¬ c = n - 4 := by omega
  clear hce c0 c1 h h0 hu hl h1 hlen
  go_enter Try.func76, Try.ntmps76
  go_wp2_with fail
  refine (HLen.out _).mono ?_
  rintro e w1 ⟨rfl, k, rfl⟩
  clear HLen
  go_wp2_with fail
  have hK : Kept w 39 w.heap.size #[.int .i64 0, .int .u64 0, .int .u64 0, .int .u64 0, .slice none 0 0] (some ⟨b, off, none⟩) n bs ((w.alloc (.cells #[.int .i64 0, .int .u64 0, .int .u64 0, .int .u64 0, .slice none 0 0] 39)).drewN k) :=
    ⟨(Blk.new w _ _).drewN k, (HH.out.alloc (Nat.le_refl _) _).drewN k, below_drewN ((Below.refl _ _).alloc (Nat.le_refl _) _) k⟩
  generalize ((w.alloc (.cells #[.int .i64 0, .int .u64 0, .int .u64 0, .int .u64 0, .slice none 0 0] 39)).drewN k) = W at hK ⊢
  obtain ⟨S, HS⟩ : ∃ S, Hid (S = crc (bs.take (n - 4))) := ⟨_, rfl⟩
  have HSUM := Lib.hid (sum_any (some ⟨b, off, none⟩) (n - 4) c w.heap.size (bs.take (n - 4)) W (hK.2.1.first (by omega)) (by omega))
  have hS : S < 4294967296 := by rw [HS.out]; exact crc_lt _
  refine HSUM.out.mono ?_
  rw [← HS.out]
  rintro e w1 ⟨rfl, rfl⟩
  clear HSUM a0 a1 hn0 tl'
  obtain ⟨s0, H0⟩ : ∃ x : UInt8, Hid (x = UInt8.ofNat S) := ⟨_, rfl⟩
  obtain ⟨s1, H1⟩ : ∃ x : UInt8, Hid (x = UInt8.ofNat (S / 256)) := ⟨_, rfl⟩
  obtain ⟨s2, H2⟩ : ∃ x : UInt8, Hid (x = UInt8.ofNat (S / 65536)) := ⟨_, rfl⟩
  obtain ⟨s3, H4⟩ : ∃ x : UInt8, Hid (x = UInt8.ofNat (S / 16777216)) := ⟨_, rfl⟩
  have q0 : (S : Int) % 256 = (s0.toNat : Int) := by rw [H0.out]; exact low8 _
  have q1 : (S : Int) / 256 % 256 = (s1.toNat : Int) := by rw [H1.out]; simp only [UInt8.toNat_ofNat']; omega
  have q2 : (S : Int) / 65536 % 256 = (s2.toNat : Int) := by rw [H2.out]; simp only [UInt8.toNat_ofNat']; omega
  have q3 : (S : Int) / 16777216 = (s3.toNat : Int) := by rw [H4.out]; simp only [UInt8.toNat_ofNat']; omega
  have b3 := u8_lt s3
  have HL4 : Hid ([s0, s1, s2, s3] = le4 S) := Lib.hid (by rw [H0.out, H1.out, H2.out, H4.out]; rfl)
  go_wp2_with fail
  have hlast : RdB W w.heap.size (some ⟨b, off + (n - 4), none⟩) (n - (n - 4)) (bs.drop (n - 4)) := by
    have := hK.2.1.last (k := n - 4) (by omega)
    simpa [Addr.add, show n - 4 ≠ 0 from by omega] using this
  have HEQ := Lib.hid (equal_any (some ⟨b, off + (n - 4), none⟩) (some ⟨W.heap.size, 0, none⟩) (n - (n - 4)) 4 (c - (n - 4)) 4 w.heap.size (W.heap.size + 1) (bs.drop (n - 4)) [s0, s1, s2, s3] (W.alloc (.cells #[.int .u8 (s0.toNat : Int), .int .u8 (s1.toNat : Int), .int .u8 (s2.toNat : Int), .int .u8 (s3.toNat : Int)] 5))
    (hlast.alloc hK.2.2.size _) (Reads.built W 5 ([s0, s1, s2, s3].map bv)))
  have hK2 := hK.alloc (.cells #[.int .u8 (s0.toNat : Int), .int .u8 (s1.toNat : Int), .int .u8 (s2.toNat : Int), .int .u8 (s3.toNat : Int)] 5)
  by_cases hE : bs.drop (n - 4) = [s0, s1, s2, s3]
  · have he : (bs.drop (n - 4) == [s0, s1, s2, s3]) = true := by rw [hE]; exact beq_self_eq_true _
    refine HEQ.out.mono ?_
    rw [he]
    rintro e w1 ⟨rfl, rfl⟩
    clear HEQ he hlast
    generalize (W.alloc (.cells #[.int .u8 (s0.toNat : Int), .int .u8 (s1.toNat : Int), .int .u8 (s2.toNat : Int), .int .u8 (s3.toNat : Int)] 5)) = W2 at hK2 ⊢
    go_wp2_with fail
    have hlt := hK2.1.lt
    have hne : w.heap.size ≠ W2.heap.size := by omega
    obtain ⟨l, HLl⟩ : ∃ l, Hid (l = midB bs) := ⟨_, rfl⟩
    have hll : l.length = n - 4 - 4 := by rw [HLl.out]; simp [midB, HLE.out]
    have hmid : RdB W2 w.heap.size (some ⟨b, off + 4, none⟩) l.length l := by
      have h2 := (hK2.2.1.first (k := n - 4) (by omega)).last (k := 4) (by omega)
      rw [hll, HLl.out]
      unfold midB
      rw [HLE.out]
      simpa [Addr.add] using h2
    have hR : RdKept w 39 w.heap.size W2.heap.size #[.int .i64 0, .int .u64 0, .int .u64 0, .int .u64 0, .slice none 0 0] (some ⟨b, off, none⟩) n bs l false 151 (W2.alloc (.cells #[.slice (some ⟨b, off + 4, none⟩) (n - 4 - 4) (c - 4), .bool false] 151)) :=
      ⟨⟨hK2.2.2.size, by omega, some ⟨b, off + 4, none⟩, c - 4, by rw [hll]; exact Blk.new' W2 151 _ _ rfl, hmid.alloc hK2.2.2.size _, by omega⟩, hK2.alloc _⟩
    clear hmid hK hK2
    have hu3 : unp bs = if (parse l).2 = true ∨ mayB (parse l).1.kind (parse l).1.body.length = false then (172, Pk.zero) else (0, (parse l).1) := by
      have e1 : bs.drop (bs.length - 4) = le4 (crc (bs.take (bs.length - 4))) := by rw [HLE.out, hE, HL4.out, HS.out]
      rw [HU.out, if_neg (fun q => q e1), HLl.out]
    have HU3 := Lib.hid hu3
    clear hu3 hE
    obtain ⟨kk, HKK⟩ : ∃ k, Hid (k = byteV l) := ⟨_, rfl⟩
    have hkk : kk < 256 := by rw [HKK.out]; exact byteV_lt l
    have HB := Lib.hid (byte_kept hR hne)
    refine HB.out.mono ?_
    rw [← HKK.out]
    rintro e w1 ⟨rfl, hR1⟩
    clear HB
    go_wp2_with fail
    obtain ⟨c1, HC1⟩ : ∃ c1, Hid (c1 = cnt l.tail (false || l.isEmpty)) := ⟨_, rfl⟩
    have HB := Lib.hid (cnt_kept hR1 hne)
    rw [← HC1.out] at HB
    refine HB.out.mono ?_
    rintro e w2 ⟨rfl, hR2⟩
    clear HB
    go_wp2_with fail
    obtain ⟨c2, HC2⟩ : ∃ c2, Hid (c2 = cnt c1.2.1 c1.2.2) := ⟨_, rfl⟩
    have HB := Lib.hid (cnt_kept hR2 hne)
    rw [← HC2.out] at HB
    refine HB.out.mono ?_
    rintro e w3 ⟨rfl, hR3⟩
    clear HB
    go_wp2_with fail
    obtain ⟨c3, HC3⟩ : ∃ c3, Hid (c3 = cnt c2.2.1 c2.2.2) := ⟨_, rfl⟩
    have HB := Lib.hid (cnt_kept hR3 hne)
    rw [← HC3.out] at HB
    refine HB.out.mono ?_
    rintro e w4 ⟨rfl, hR4⟩
    clear HB
    have hpar : parse l = (⟨kk, c1.1, c2.1, c3.1, c3.2.1⟩, c3.2.2) := by
      rw [HKK.out, HC3.out, HC2.out, HC1.out]
      rfl
    have HP := Lib.hid hpar
    have hl3 : c3.2.1.length ≤ l.length := by
      rw [HC3.out]
      refine Nat.le_trans (cnt_len _ _) ?_
      rw [HC2.out]
      refine Nat.le_trans (cnt_len _ _) ?_
      rw [HC1.out]
      exact Nat.le_trans (cnt_len _ _) (by simp)
    clear hpar HC1 HC2 HC3 HKK
    obtain ⟨⟨hr1, hr2, A5, c5, hb5, hr5, hc5⟩, hk5⟩ := hR4
    clear hR hR1 hR2 hR3
    obtain ⟨tk, c12, c13⟩ := c1
    obtain ⟨sq, c22, c23⟩ := c2
    obtain ⟨c31, c32, c33⟩ := c3
    dsimp only at hb5 hr5 hc5 HP hr2 hl3 ⊢
    go_upto_region 9 with fail
    have hbp : Blk (w4.alloc (.cells #[.int .i64 kk, .int .u64 tk, .int .u64 sq, .int .u64 c31, .slice none 0 0] 39)) w4.heap.size 39 #[.int .i64 kk, .int .u64 tk, .int .u64 sq, .int .u64 c31, .slice none 0 0] := Blk.new _ _ _
    have hbr := hb5.alloc (.cells #[.int .i64 kk, .int .u64 tk, .int .u64 sq, .int .u64 c31, .slice none 0 0] 39)
    have hrr := hr5.alloc hk5.2.2.size (.cells #[.int .i64 kk, .int .u64 tk, .int .u64 sq, .int .u64 c31, .slice none 0 0] 39)
    have hkk5 := hk5.alloc (.cells #[.int .i64 kk, .int .u64 tk, .int .u64 sq, .int .u64 c31, .slice none 0 0] 39)
    have ltp := hbp.lt
    have ltr := hb5.lt
    have ltg := hk5.1.lt
    have nrp : W2.heap.size ≠ w4.heap.size := by omega
    have ngp : w.heap.size ≠ w4.heap.size := by omega
    generalize (w4.alloc (.cells #[.int .i64 kk, .int .u64 tk, .int .u64 sq, .int .u64 c31, .slice none 0 0] 39)) = W5 at hbp hbr hrr hkk5 ltp ⊢
    have q0 : ∀ o, (W5.alloc o).cell? ⟨W2.heap.size, 0, none⟩ = some (.slice A5 c32.length c5) := fun o => by
      have := (hbr.alloc o).cell 0
      simpa using this
    have hl32 : c32.length < 65536 := by omega
    go_upto_region 10 with (at_builtin; refine wpList_app rfl (.tmp 73) (.tmp 77) 37 rfl w.heap.size 5 info5 Try.underlying37 (.slice (some ⟨W5.heap.size, 0, none⟩) 0 0) [] rfl (OwnB.built' 5 W5 w.heap.size W5.heap.size #[] [] hkk5.2.2.size rfl (by simp) rfl) w.heap.size A5 c32.length c5 c32 rfl (hrr.alloc hkk5.2.2.size _) (by simp; omega) (by have := hkk5.2.2.size; simp; omega) ?_; intro v6 w6 hown6 happ6; obtain ⟨A6, c6, rfl, hc6⟩ := hown6.form; clear hc6; have hbp6 := happ6.blk (hbp.alloc _) (by simp [Value.ownBlock]; omega); have hbr6 := happ6.blk (hbr.alloc _) (by simp [Value.ownBlock]; omega); have hk6 := (hkk5.alloc _).app (OwnB.built' 5 W5 w.heap.size W5.heap.size #[] [] hkk5.2.2.size rfl (by simp) rfl) (by decide) happ6; have z4 := hbp6.cell 4; have fz4 := hbp6.frozen 4; simp at z4)
    have hbp7 : Blk (w6.setCell ⟨w4.heap.size, 4, none⟩ (.slice A6 c32.length c6)) w4.heap.size 39 #[.int .i64 kk, .int .u64 tk, .int .u64 sq, .int .u64 c31, .slice A6 c32.length c6] := by
      have := hbp6.set_ 4 (.slice A6 c32.length c6)
      simpa using this
    have hbr7 : Blk (w6.setCell ⟨w4.heap.size, 4, none⟩ (.slice A6 c32.length c6)) W2.heap.size 151 #[.slice A5 c32.length c5, .bool c33] := hbr6.far (p := ⟨w4.heap.size, 4, none⟩) nrp _
    have hk7 : Kept w 39 w.heap.size #[.int .i64 0, .int .u64 0, .int .u64 0, .int .u64 0, .slice none 0 0] (some ⟨b, off, none⟩) n bs (w6.setCell ⟨w4.heap.size, 4, none⟩ (.slice A6 c32.length c6)) :=
      ⟨hk6.1.far (p := ⟨w4.heap.size, 4, none⟩) ngp _, hk6.2.1.setCell (p := ⟨w4.heap.size, 4, none⟩) (by show w.heap.size ≤ w4.heap.size; omega) _, hk6.2.2.setCell (p := ⟨w4.heap.size, 4, none⟩) (by show w.heap.size ≤ w4.heap.size; omega) _⟩
    have hown7 : OwnB 5 (w6.setCell ⟨w4.heap.size, 4, none⟩ (.slice A6 c32.length c6)) w.heap.size (.slice A6 c32.length c6) c32 := by
      have h1 := World.ownsRow.kept hown6 (only_setCell (p := ⟨w4.heap.size, 4, none⟩) (World.grownBy.refl w6 (some w4.heap.size)) (.inl rfl) (.slice A6 c32.length c6)) (.inr (own_blk_ne hown6 hbp6 (by decide)))
      simpa using h1
    generalize (w6.setCell ⟨w4.heap.size, 4, none⟩ (.slice A6 c32.length c6)) = W7 at hbp7 hbr7 hk7 hown7 ⊢
    clear hbp6 hbr6 hk6 z4 fz4 hown6 happ6 hbp hbr hrr hkk5 q0 hb5 hr5 hk5
    have p0 := hbp7.cell 0
    have p1 := hbp7.cell 1
    have p2 := hbp7.cell 2
    have p3 := hbp7.cell 3
    have p4 := hbp7.cell 4
    have y1 := hbr7.cell 1
    have z0 := hk7.1.cell 0
    have z1 := hk7.1.cell 1
    have z2 := hk7.1.cell 2
    have z3 := hk7.1.cell 3
    have z4 := hk7.1.cell 4
    simp at p0 p1 p2 p3 p4 y1 z0 z1 z2 z3 z4
    have f0 := hk7.1.frozen 0
    have f1 := hk7.1.frozen 1
    have f2 := hk7.1.frozen 2
    have f3 := hk7.1.frozen 3
    have f4 := hk7.1.frozen 4
    have hbw := hk7.2.2
    have lg := hk7.1.lt
    have lp := hbp7.lt
    have HOW := Lib.hid hown7
    clear hown7
    cases c33 with
    | true =>
      have hu4 : unp bs = (172, Pk.zero) := by rw [HU3.out, HP.out, if_pos (.inl rfl)]
      go_wp2_with fail
      refine bodyPost_ret (v := .tuple #[.agg #[.int .i64 0, .int .u64 0, .int .u64 0, .int .u64 0, .slice none 0 0], .int .i64 172]) (by simp [results, Try.results76, go_sem, z0, z1, z2, z3, z4]) rfl ?_
      rw [hu4]
      refine UnpPost.err 172 ?_
      refine Below.setCell (Below.setCell (Below.setCell (Below.setCell (Below.setCell hbw ?_ _) ?_ _) ?_ _) ?_ _) ?_ _ <;> exact Nat.le_refl _
    | false =>
      have HM := Lib.hid (may_any (kk : Int) (.int .u64 tk) (.int .u64 sq) (.int .u64 c31) A6 c32.length c6 W7 ⟨_, rfl⟩ ⟨_, rfl⟩ ⟨_, rfl⟩)
      cases hmB : mayB (kk : Int) c32.length with
      | false =>
        have hu4 : unp bs = (172, Pk.zero) := by rw [HU3.out, HP.out, if_pos (.inr hmB)]
        rw [hmB] at HM
        clear hmB
        go_wp2_with fail
        refine HM.out.mono ?_
        rintro e w8 ⟨rfl, rfl⟩
        clear HM p0 p1 p2 p3 p4 y1 z0 z1 z2 z3 z4 f0 f1 f2 f3 f4 hbw lg lp
        have hbp8 := hbp7.alloc (.cells #[.int .i64 kk, .int .u64 tk, .int .u64 sq, .int .u64 c31, .slice A6 c32.length c6] 39)
        have hk8 := hk7.alloc (.cells #[.int .i64 kk, .int .u64 tk, .int .u64 sq, .int .u64 c31, .slice A6 c32.length c6] 39)
        have HOW8 := Lib.hid (HOW.out.alloc (.cells #[.int .i64 kk, .int .u64 tk, .int .u64 sq, .int .u64 c31, .slice A6 c32.length c6] 39))
        generalize (W7.alloc (.cells #[.int .i64 kk, .int .u64 tk, .int .u64 sq, .int .u64 c31, .slice A6 c32.length c6] 39)) = W8 at hbp8 hk8 HOW8 ⊢
        clear hbp7 hk7 HOW hbr7
        have p0 := hbp8.cell 0
        have p1 := hbp8.cell 1
        have p2 := hbp8.cell 2
        have p3 := hbp8.cell 3
        have p4 := hbp8.cell 4
        have z0 := hk8.1.cell 0
        have z1 := hk8.1.cell 1
        have z2 := hk8.1.cell 2
        have z3 := hk8.1.cell 3
        have z4 := hk8.1.cell 4
        simp at p0 p1 p2 p3 p4 z0 z1 z2 z3 z4
        have f0 := hk8.1.frozen 0
        have f1 := hk8.1.frozen 1
        have f2 := hk8.1.frozen 2
        have f3 := hk8.1.frozen 3
        have f4 := hk8.1.frozen 4
        have hbw := hk8.2.2
        have lg := hk8.1.lt
        have lp := hbp8.lt
        go_wp2_with fail
        refine bodyPost_ret (v := .tuple #[.agg #[.int .i64 0, .int .u64 0, .int .u64 0, .int .u64 0, .slice none 0 0], .int .i64 172]) (by simp [results, Try.results76, go_sem, z0, z1, z2, z3, z4]) rfl ?_
        rw [hu4]
        refine UnpPost.err 172 ?_
        refine Below.setCell (Below.setCell (Below.setCell (Below.setCell (Below.setCell hbw ?_ _) ?_ _) ?_ _) ?_ _) ?_ _ <;> exact Nat.le_refl _
      | true =>
        have hu4 : unp bs = (0, ⟨kk, tk, sq, c31, c32⟩) := by rw [HU3.out, HP.out, if_neg (by simp [hmB])]
        rw [hmB] at HM
        clear hmB
        go_wp2_with fail
        refine HM.out.mono ?_
        rintro e w8 ⟨rfl, rfl⟩
        clear HM p0 p1 p2 p3 p4 y1 z0 z1 z2 z3 z4 f0 f1 f2 f3 f4 hbw lg lp
        have hbp8 := hbp7.alloc (.cells #[.int .i64 kk, .int .u64 tk, .int .u64 sq, .int .u64 c31, .slice A6 c32.length c6] 39)
        have hk8 := hk7.alloc (.cells #[.int .i64 kk, .int .u64 tk, .int .u64 sq, .int .u64 c31, .slice A6 c32.length c6] 39)
        have HOW8 := Lib.hid (HOW.out.alloc (.cells #[.int .i64 kk, .int .u64 tk, .int .u64 sq, .int .u64 c31, .slice A6 c32.length c6] 39))
        generalize (W7.alloc (.cells #[.int .i64 kk, .int .u64 tk, .int .u64 sq, .int .u64 c31, .slice A6 c32.length c6] 39)) = W8 at hbp8 hk8 HOW8 ⊢
        clear hbp7 hk7 HOW hbr7
        have p0 := hbp8.cell 0
        have p1 := hbp8.cell 1
        have p2 := hbp8.cell 2
        have p3 := hbp8.cell 3
        have p4 := hbp8.cell 4
        have z0 := hk8.1.cell 0
        have z1 := hk8.1.cell 1
        have z2 := hk8.1.cell 2
        have z3 := hk8.1.cell 3
        have z4 := hk8.1.cell 4
        simp at p0 p1 p2 p3 p4 z0 z1 z2 z3 z4
        have f0 := hk8.1.frozen 0
        have f1 := hk8.1.frozen 1
        have f2 := hk8.1.frozen 2
        have f3 := hk8.1.frozen 3
        have f4 := hk8.1.frozen 4
        have hbw := hk8.2.2
        have lg := hk8.1.lt
        have lp := hbp8.lt
        go_wp2_with fail
        refine bodyPost_ret (v := .tuple #[.agg #[.int .i64 kk, .int .u64 tk, .int .u64 sq, .int .u64 c31, .slice A6 c32.length c6], .int .i64 0]) (by simp [results, Try.results76, go_sem, z0, z1, z2, z3, z4]) rfl ?_
        rw [hu4]
        refine ⟨A6, c6, rfl, ?_, ?_⟩
        · exact OwnB.far (OwnB.far (OwnB.far (OwnB.far (OwnB.far HOW8.out hk8.1 (by decide) 0 _) (hk8.1.set_ 0 _) (by decide) 1 _) ((hk8.1.set_ 0 _).set_ 1 _) (by decide) 2 _) (((hk8.1.set_ 0 _).set_ 1 _).set_ 2 _) (by decide) 3 _) ((((hk8.1.set_ 0 _).set_ 1 _).set_ 2 _).set_ 3 _) (by decide) 4 _
        · refine Below.setCell (Below.setCell (Below.setCell (Below.setCell (Below.setCell hbw ?_ _) ?_ _) ?_ _) ?_ _) ?_ _ <;> exact Nat.le_refl _
  · have he : (bs.drop (n - 4) == [s0, s1, s2, s3]) = false := by rw [beq_eq_false_iff_ne]; exact hE
    have hu2 : unp bs = (171, Pk.zero) := by
      rw [HU.out, HLE.out, ← HS.out, ← HL4.out, if_pos hE]
    refine HEQ.out.mono ?_
    rw [he]
    rintro e w1 ⟨rfl, rfl⟩
    clear HEQ he hlast
    generalize (W.alloc (.cells #[.int .u8 (s0.toNat : Int), .int .u8 (s1.toNat : Int), .int .u8 (s2.toNat : Int), .int .u8 (s3.toNat : Int)] 5)) = W2 at hK2 ⊢
    have c0 := hK2.1.cell 0
    have c1 := hK2.1.cell 1
    have c2 := hK2.1.cell 2
    have c3 := hK2.1.cell 3
    have c4 := hK2.1.cell 4
    simp at c0 c1 c2 c3 c4
    have f0 := hK2.1.frozen 0
    have f1 := hK2.1.frozen 1
    have f2 := hK2.1.frozen 2
    have f3 := hK2.1.frozen 3
    have f4 := hK2.1.frozen 4
    have hbw := hK2.2.2
    go_wp2
    refine bodyPost_ret (v := .tuple #[.agg #[.int .i64 0, .int .u64 0, .int .u64 0, .int .u64 0, .slice none 0 0], .int .i64 171]) (by simp [results, Try.results76, go_sem, c0, c1, c2, c3, c4]) rfl ?_
    rw [hu2]
    refine UnpPost.err 171 ?_
    refine Below.setCell (Below.setCell (Below.setCell (Below.setCell (Below.setCell hbw ?_ _) ?_ _) ?_ _) ?_ _) ?_ _ <;> exact Nat.le_refl _

/-- Unpack, whatever the bytes -/
theorem unp_any (A : Option Addr) (n c : Nat) (bs : List UInt8) (w : World) (h : RdB w w.heap.size A n bs) (hc : n ≤ c) :
    Calls Try.prog 76 #[.slice A n c] w (UnpPost w (unp bs)) := by
  by_cases hn : n < 8
  · exact unp_short A n c bs w h hn
  · by_cases h0 : bs.getD 0 0 = 239
    · by_cases h1 : bs.getD 1 0 = 30
      · by_cases hl : n = lenOf bs + 8
        · exact unp_main A n c bs w h hc (by omega) h0 h1 hl
        · exact unp_len A n c bs w h (by omega) h0 h1 hl
      · exact unp_magic A n c bs w h (by omega) (.inr h1)
    · exact unp_magic A n c bs w h (by omega) (.inl h0)
end Go.Proofs.Ytjhkfpemcplaaaa
namespace Go.Proofs.Ytjhkfpemcplaaaa
open Go.RowKit

def leN : Nat → Nat → List UInt8
  | 0, _ => []
  | f + 1, q => UInt8.ofNat q :: leN f (q / 256)
theorem leN_le4 (S : Nat) : le4 S = leN 4 S := by
  simp [le4, leN, Nat.div_div_eq_div_mul]
theorem leN_step {bs : List UInt8} {m f q : Nat} (hm : m < bs.length) : (bs.drop m = leN (f + 1) q ↔ (bs.getD m 0 = UInt8.ofNat q ∧ bs.drop (m + 1) = leN f (q / 256))) := by
  rw [List.drop_eq_getElem_cons hm, leN]
  have e : bs.getD m 0 = bs[m] := by simp [List.getD_eq_getElem?_getD, hm]
  rw [e]
  constructor
  · intro h
    injection h with h1 h2
    exact ⟨h1, h2⟩
  · rintro ⟨h1, h2⟩
    rw [h1, h2]

/-- the checks at the head, on the world in which they are read -/
structure Head (w : World) (b off n : Nat) (bs : List UInt8) : Prop where
  a0 : w.cell? ⟨b, off, none⟩ = some (.int .u8 ((bs.getD 0 0).toNat : Int))
  a1 : w.cell? ⟨b, off + 1, none⟩ = some (.int .u8 ((bs.getD 1 0).toNat : Int))
  a2 : w.cell? ⟨b, off + 2, none⟩ = some (.int .u8 ((bs.getD 2 0).toNat : Int))
  a3 : w.cell? ⟨b, off + 3, none⟩ = some (.int .u8 ((bs.getD 3 0).toNat : Int))
theorem head_of {w W : World} {b off n : Nat} {bs : List UInt8} (h : RdB w w.heap.size (some ⟨b, off, none⟩) n bs) (hn : 4 ≤ n) (hw : Below w.heap.size w W) : Head W b off n bs := by
  obtain ⟨b', off', e, hb, hc⟩ := two_cells h hn
  injection e with e
  injection e with e1 e2
  subst e1 e2
  exact ⟨(hw.cell (p := ⟨b, off, none⟩) hb).trans (hc 0 (by omega)), (hw.cell (p := ⟨b, off + 1, none⟩) hb).trans (hc 1 (by omega)), (hw.cell (p := ⟨b, off + 2, none⟩) hb).trans (hc 2 (by omega)), (hw.cell (p := ⟨b, off + 3, none⟩) hb).trans (hc 3 (by omega))⟩

set_option maxRecDepth 20000 in
set_option maxHeartbeats 4000000 in
theorem runp_short (A : Option Addr) (n c : Nat) (bs : List UInt8) (w : World) (h : RdB w w.heap.size A n bs) (hn : n < 8) :
    Calls Try.prog 17 #[.slice A n c] w (UnpPost w (unp bs)) := by
  have hu : unp bs = (170, Pk.zero) := by
    have := h.len1
    unfold unp
    rw [if_pos (.inl (by omega))]
  rw [hu]
  have d0 : decide ((n : Int) < 8) = true := by simp; omega
  clear hn h
  go_enter Try.func17, Try.ntmps17
  go_wp2
  go_quiet (fail)
  go_wp2
  refine bodyPost_ret (v := .tuple #[.agg #[.int .i64 0, .int .u64 0, .int .u64 0, .int .u64 0, .slice none 0 0], .int .i64 170]) (by simp [results, Try.results17, go_sem]) rfl (UnpPost.err 170 ?_)
  refine Below.setCell (Below.setCell (Below.setCell (Below.setCell (Below.setCell (below_drewN ((Below.refl _ _).alloc (Nat.le_refl _) _) nq) ?_ _) ?_ _) ?_ _) ?_ _) ?_ _ <;> exact Nat.le_refl _

theorem bne_byte {x v : UInt8} (h : x ≠ v) : ((x.toNat : Int) != (v.toNat : Int)) = true := by
  rw [bne_iff_ne]
  intro e
  exact h (UInt8.toNat_inj.1 (by omega))
set_option maxRecDepth 20000 in
set_option maxHeartbeats 4000000 in
theorem runp_m0 (A : Option Addr) (n c : Nat) (bs : List UInt8) (w : World) (h : RdB w w.heap.size A n bs) (hn : 8 ≤ n) (h0 : bs.getD 0 0 ≠ 239) :
    Calls Try.prog 17 #[.slice A n c] w (UnpPost w (unp bs)) := by
  have hu : unp bs = (170, Pk.zero) := by
    unfold unp
    rw [if_pos (.inr (.inl h0))]
  rw [hu]
  obtain ⟨b, off, rfl, hb, hc⟩ := two_cells h (by omega)
  have a0 : ∀ o, (w.alloc o).cell? ⟨b, off, none⟩ = some (.int .u8 ((bs.getD 0 0).toNat : Int)) := fun o => (head_of h (by omega) ((Below.refl _ _).alloc (Nat.le_refl _) o)).a0
  have a1 : ∀ o, (w.alloc o).cell? ⟨b, off + 1, none⟩ = some (.int .u8 ((bs.getD 1 0).toNat : Int)) := fun o => (head_of h (by omega) ((Below.refl _ _).alloc (Nat.le_refl _) o)).a1
  have a2 : ∀ o, (w.alloc o).cell? ⟨b, off + 2, none⟩ = some (.int .u8 ((bs.getD 2 0).toNat : Int)) := fun o => (head_of h (by omega) ((Below.refl _ _).alloc (Nat.le_refl _) o)).a2
  have a3 : ∀ o, (w.alloc o).cell? ⟨b, off + 3, none⟩ = some (.int .u8 ((bs.getD 3 0).toNat : Int)) := fun o => (head_of h (by omega) ((Below.refl _ _).alloc (Nat.le_refl _) o)).a3
  have b0 := u8_lt (bs.getD 0 0)
  have b1 := u8_lt (bs.getD 1 0)
  have b2 := u8_lt (bs.getD 2 0)
  have b3 := u8_lt (bs.getD 3 0)
  have d0 : decide ((n : Int) < 8) = false := by simp; omega
  have n0 : (0 : Int) < (n : Int) := by omega
  have n1 : (1 : Int) < (n : Int) := by omega
  have n2 : (2 : Int) < (n : Int) := by omega
  have n3 : (3 : Int) < (n : Int) := by omega
  have t0 : (((bs.getD 0 0).toNat : Int) != 239) = true := bne_byte h0
  generalize (bs.getD 0 0).toNat = x0 at *
  generalize (bs.getD 1 0).toNat = x1 at *
  generalize (bs.getD 2 0).toNat = x2 at *
  generalize (bs.getD 3 0).toNat = x3 at *
  clear hc h h0 hu hn
  go_enter Try.func17, Try.ntmps17
  go_wp2
  go_quiet (fail)
  go_wp2
  refine bodyPost_ret (v := .tuple #[.agg #[.int .i64 0, .int .u64 0, .int .u64 0, .int .u64 0, .slice none 0 0], .int .i64 170]) (by simp [results, Try.results17, go_sem]) rfl (UnpPost.err 170 ?_)
  refine Below.setCell (Below.setCell (Below.setCell (Below.setCell (Below.setCell (below_drewN ((Below.refl _ _).alloc (Nat.le_refl _) _) nq) ?_ _) ?_ _) ?_ _) ?_ _) ?_ _ <;> exact Nat.le_refl _

set_option maxRecDepth 20000 in
set_option maxHeartbeats 4000000 in
theorem runp_m1 (A : Option Addr) (n c : Nat) (bs : List UInt8) (w : World) (h : RdB w w.heap.size A n bs) (hn : 8 ≤ n) (h0 : bs.getD 0 0 = 239) (h1 : bs.getD 1 0 ≠ 30) :
    Calls Try.prog 17 #[.slice A n c] w (UnpPost w (unp bs)) := by
  have hu : unp bs = (170, Pk.zero) := by
    unfold unp
    rw [if_pos (.inr (.inr (.inl h1)))]
  rw [hu]
  obtain ⟨b, off, rfl, hb, hc⟩ := two_cells h (by omega)
  have a0 : ∀ o, (w.alloc o).cell? ⟨b, off, none⟩ = some (.int .u8 ((bs.getD 0 0).toNat : Int)) := fun o => (head_of h (by omega) ((Below.refl _ _).alloc (Nat.le_refl _) o)).a0
  have a1 : ∀ o, (w.alloc o).cell? ⟨b, off + 1, none⟩ = some (.int .u8 ((bs.getD 1 0).toNat : Int)) := fun o => (head_of h (by omega) ((Below.refl _ _).alloc (Nat.le_refl _) o)).a1
  have a2 : ∀ o, (w.alloc o).cell? ⟨b, off + 2, none⟩ = some (.int .u8 ((bs.getD 2 0).toNat : Int)) := fun o => (head_of h (by omega) ((Below.refl _ _).alloc (Nat.le_refl _) o)).a2
  have a3 : ∀ o, (w.alloc o).cell? ⟨b, off + 3, none⟩ = some (.int .u8 ((bs.getD 3 0).toNat : Int)) := fun o => (head_of h (by omega) ((Below.refl _ _).alloc (Nat.le_refl _) o)).a3
  have b0 := u8_lt (bs.getD 0 0)
  have b1 := u8_lt (bs.getD 1 0)
  have b2 := u8_lt (bs.getD 2 0)
  have b3 := u8_lt (bs.getD 3 0)
  have d0 : decide ((n : Int) < 8) = false := by simp; omega
  have n0 : (0 : Int) < (n : Int) := by omega
  have n1 : (1 : Int) < (n : Int) := by omega
  have n2 : (2 : Int) < (n : Int) := by omega
  have n3 : (3 : Int) < (n : Int) := by omega
  have t0 : (((bs.getD 0 0).toNat : Int) != 239) = false := by rw [h0]; rfl
  have t1 : (((bs.getD 1 0).toNat : Int) != 30) = true := bne_byte h1
  generalize (bs.getD 0 0).toNat = x0 at *
  generalize (bs.getD 1 0).toNat = x1 at *
  generalize (bs.getD 2 0).toNat = x2 at *
  generalize (bs.getD 3 0).toNat = x3 at *
  clear hc h h0 h1 hu hn
  go_enter Try.func17, Try.ntmps17
  go_wp2
  go_quiet (fail)
  go_wp2
  refine bodyPost_ret (v := .tuple #[.agg #[.int .i64 0, .int .u64 0, .int .u64 0, .int .u64 0, .slice none 0 0], .int .i64 170]) (by simp [results, Try.results17, go_sem]) rfl (UnpPost.err 170 ?_)
  refine Below.setCell (Below.setCell (Below.setCell (Below.setCell (Below.setCell (below_drewN ((Below.refl _ _).alloc (Nat.le_refl _) _) nq) ?_ _) ?_ _) ?_ _) ?_ _) ?_ _ <;> exact Nat.le_refl _

set_option maxRecDepth 20000 in
set_option maxHeartbeats 4000000 in
theorem runp_len (A : Option Addr) (n c : Nat) (bs : List UInt8) (w : World) (h : RdB w w.heap.size A n bs) (hm : n ≤ 9223372036854775807) (hn : 8 ≤ n) (h0 : bs.getD 0 0 = 239) (h1 : bs.getD 1 0 = 30) (hl : n ≠ lenOf bs + 8) :
    Calls Try.prog 17 #[.slice A n c] w (UnpPost w (unp bs)) := by
  have hu : unp bs = (170, Pk.zero) := by
    have := h.len1
    unfold unp
    rw [if_pos (.inr (.inr (.inr (by omega))))]
  rw [hu]
  unfold lenOf at hl
  obtain ⟨b, off, rfl, hb, hc⟩ := two_cells h (by omega)
  have a0 : ∀ o, (w.alloc o).cell? ⟨b, off, none⟩ = some (.int .u8 ((bs.getD 0 0).toNat : Int)) := fun o => (head_of h (by omega) ((Below.refl _ _).alloc (Nat.le_refl _) o)).a0
  have a1 : ∀ o, (w.alloc o).cell? ⟨b, off + 1, none⟩ = some (.int .u8 ((bs.getD 1 0).toNat : Int)) := fun o => (head_of h (by omega) ((Below.refl _ _).alloc (Nat.le_refl _) o)).a1
  have a2 : ∀ o, (w.alloc o).cell? ⟨b, off + 2, none⟩ = some (.int .u8 ((bs.getD 2 0).toNat : Int)) := fun o => (head_of h (by omega) ((Below.refl _ _).alloc (Nat.le_refl _) o)).a2
  have a3 : ∀ o, (w.alloc o).cell? ⟨b, off + 3, none⟩ = some (.int .u8 ((bs.getD 3 0).toNat : Int)) := fun o => (head_of h (by omega) ((Below.refl _ _).alloc (Nat.le_refl _) o)).a3
  have b0 := u8_lt (bs.getD 0 0)
  have b1 := u8_lt (bs.getD 1 0)
  have b2 := u8_lt (bs.getD 2 0)
  have b3 := u8_lt (bs.getD 3 0)
  have d0 : decide ((n : Int) < 8) = false := by simp; omega
  have n0 : (0 : Int) < (n : Int) := by omega
  have n1 : (1 : Int) < (n : Int) := by omega
  have n2 : (2 : Int) < (n : Int) := by omega
  have n3 : (3 : Int) < (n : Int) := by omega
  have t0 : (((bs.getD 0 0).toNat : Int) != 239) = false := by rw [h0]; rfl
  have t1 : (((bs.getD 1 0).toNat : Int) != 30) = false := by rw [h1]; rfl
  have t2 : (((bs.getD 2 0).toNat : Int) + 256 * ((bs.getD 3 0).toNat : Int) != (n : Int) - 8) = true := by rw [bne_iff_ne]; omega
  have n8 : 8 ≤ (n : Int) := by omega
  generalize (bs.getD 0 0).toNat = x0 at *
  generalize (bs.getD 1 0).toNat = x1 at *
  generalize (bs.getD 2 0).toNat = x2 at *
  generalize (bs.getD 3 0).toNat = x3 at *
  clear hc h h0 h1 hu hn hl
  go_enter Try.func17, Try.ntmps17
  go_wp2
  go_quiet (fail)
  go_wp2
  refine bodyPost_ret (v := .tuple #[.agg #[.int .i64 0, .int .u64 0, .int .u64 0, .int .u64 0, .slice none 0 0], .int .i64 170]) (by simp [results, Try.results17, go_sem]) rfl (UnpPost.err 170 ?_)
  refine Below.setCell (Below.setCell (Below.setCell (Below.setCell (Below.setCell (below_drewN ((Below.refl _ _).alloc (Nat.le_refl _) _) nq) ?_ _) ?_ _) ?_ _) ?_ _) ?_ _ <;> exact Nat.le_refl _

theorem PartIs.far {w : World} {T B g : Nat} {l : List UInt8} {b : Bool} (h : PartIs w T B g l b) {p : Addr} (hp : g ≠ p.block) (hB : B ≤ p.block) (u : Value) : PartIs (w.setCell p u) T B g l b := by
  obtain ⟨h1, h2, A, c, hb, hr, hc⟩ := h
  exact ⟨h1, h2, A, c, hb.far hp u, hr.setCell hB u, hc⟩
theorem PartIs.alloc {w : World} {T B g : Nat} {l : List UInt8} {b : Bool} (h : PartIs w T B g l b) (o : Obj) : PartIs (w.alloc o) T B g l b := by
  obtain ⟨h1, h2, A, c, hb, hr, hc⟩ := h
  have := hb.lt
  exact ⟨h1, h2, A, c, hb.alloc o, hr.alloc (by omega) o, hc⟩
theorem Kept.far {w w1 : World} {T g n : Nat} {cs : Array Value} {A : Option Addr} {bs : List UInt8} (h : Kept w T g cs A n bs w1) {p : Addr} (hp : g ≠ p.block) (hB : w.heap.size ≤ p.block) (u : Value) : Kept w T g cs A n bs (w1.setCell p u) :=
  ⟨h.1.far hp u, h.2.1.setCell hB u, h.2.2.setCell hB u⟩
/-- the reader, what is kept, the packet under way -/
def RK3 (w : World) (g r pb : Nat) (cs pcs : Array Value) (A : Option Addr) (n : Nat) (bs l : List UInt8) (b : Bool) (w1 : World) : Prop := PartIs w1 110 w.heap.size r l b ∧ Kept w 39 g cs A n bs w1 ∧ Blk w1 pb 39 pcs
theorem rcnt_kept {w W : World} {g r pb n : Nat} {cs pcs : Array Value} {A : Option Addr} {bs l : List UInt8} {b : Bool} (h : RK3 w g r pb cs pcs A n bs l b W) (hne : g ≠ r) (hpr : pb ≠ r) :
    Calls Try.prog 46 #[.pointer (some ⟨r, 0, none⟩)] W fun e w1 => e = .returned (.int .u64 ((cnt l b).1 : Nat)) ∧ RK3 w g r pb cs pcs A n bs (cnt l b).2.1 (cnt l b).2.2 w1 :=
  (rcnt_any _ r l b W h.1).mono fun _ _ ⟨he, hp, hg⟩ => ⟨he, hp, h.2.1.only hg h.1.1 hne, h.2.2.grown hg (fun e => hpr (by injection e))⟩
theorem RK3.set {w W : World} {g r pb n : Nat} {cs pcs : Array Value} {A : Option Addr} {bs l : List UInt8} {b : Bool} (h : RK3 w g r pb cs pcs A n bs l b W) (hg : g ≠ pb) (hr : r ≠ pb) (hB : w.heap.size ≤ pb) (i : Nat) (u : Value) :
    RK3 w g r pb cs (pcs.setIfInBounds i u) A n bs l b (W.setCell ⟨pb, i, none⟩ u) :=
  ⟨h.1.far (p := ⟨pb, i, none⟩) hr hB u, h.2.1.far (p := ⟨pb, i, none⟩) hg hB u, h.2.2.set_ i u⟩

set_option maxRecDepth 20000 in
set_option maxHeartbeats 8000000 in
theorem runp_main (A : Option Addr) (n c : Nat) (bs : List UInt8) (w : World) (h : RdB w w.heap.size A n bs) (hcap : n ≤ c) (hn : 8 ≤ n) (h0 : bs.getD 0 0 = 239) (h1 : bs.getD 1 0 = 30) (hl : n = lenOf bs + 8) :
    Calls Try.prog 17 #[.slice A n c] w (UnpPost w (unp bs)) := by
  have hlen := h.len1
  have hL := lenOf_lt bs
  have hu : unp bs = if bs.drop (bs.length - 4) ≠ le4 (crc (bs.take (bs.length - 4))) then (171, Pk.zero)
      else if (parse (midB bs)).2 = true ∨ mayB (parse (midB bs)).1.kind (parse (midB bs)).1.body.length = false then (172, Pk.zero)
      else (0, (parse (midB bs)).1) := by
    conv => lhs; unfold unp
    rw [if_neg]
    rintro (q | q | q | q)
    · omega
    · exact q h0
    · exact q h1
    · omega
  have HU := Lib.hid hu
  have HH := Lib.hid h
  have HLE := Lib.hid hlen
  have hn2 : n < 65544 := by omega
  unfold lenOf at hl
  obtain ⟨b, off, rfl, hb, hc⟩ := two_cells h (by omega)
  have a0 : ∀ o, (w.alloc o).cell? ⟨b, off, none⟩ = some (.int .u8 ((bs.getD 0 0).toNat : Int)) := fun o => (head_of h (by omega) ((Below.refl _ _).alloc (Nat.le_refl _) o)).a0
  have a1 : ∀ o, (w.alloc o).cell? ⟨b, off + 1, none⟩ = some (.int .u8 ((bs.getD 1 0).toNat : Int)) := fun o => (head_of h (by omega) ((Below.refl _ _).alloc (Nat.le_refl _) o)).a1
  have a2 : ∀ o, (w.alloc o).cell? ⟨b, off + 2, none⟩ = some (.int .u8 ((bs.getD 2 0).toNat : Int)) := fun o => (head_of h (by omega) ((Below.refl _ _).alloc (Nat.le_refl _) o)).a2
  have a3 : ∀ o, (w.alloc o).cell? ⟨b, off + 3, none⟩ = some (.int .u8 ((bs.getD 3 0).toNat : Int)) := fun o => (head_of h (by omega) ((Below.refl _ _).alloc (Nat.le_refl _) o)).a3
  have b0 := u8_lt (bs.getD 0 0)
  have b1 := u8_lt (bs.getD 1 0)
  have b2 := u8_lt (bs.getD 2 0)
  have b3 := u8_lt (bs.getD 3 0)
  have d0 : decide ((n : Int) < 8) = false := by simp; omega
  have n0 : (0 : Int) < (n : Int) := by omega
  have n1 : (1 : Int) < (n : Int) := by omega
  have n2 : (2 : Int) < (n : Int) := by omega
  have n3 : (3 : Int) < (n : Int) := by omega
  have n4 : (0 : Int) ≤ (n : Int) - 4 := by omega
  have t0 : (((bs.getD 0 0).toNat : Int) != 239) = false := by rw [h0]; rfl
  have t1 : (((bs.getD 1 0).toNat : Int) != 30) = false := by rw [h1]; rfl
  have t2 : (((bs.getD 2 0).toNat : Int) + 256 * ((bs.getD 3 0).toNat : Int) != (n : Int) - 8) = false := by rw [bne_eq_false_iff_eq]; omega
  have n8 : 8 ≤ (n : Int) := by omega
  generalize (bs.getD 0 0).toNat = x0 at *
  generalize (bs.getD 1 0).toNat = x1 at *
  generalize (bs.getD 2 0).toNat = x2 at *
  generalize (bs.getD 3 0).toNat = x3 at *
  clear hc h h0 h1 hu hl hL hlen
  go_enter Try.func17, Try.ntmps17
  go_wp2
  go_quiet (fail)
  go_wp2_with fail
  have hK : Kept w 39 w.heap.size #[.int .i64 0, .int .u64 0, .int .u64 0, .int .u64 0, .slice none 0 0] (some ⟨b, off, none⟩) n bs ((w.alloc (.cells #[.int .i64 0, .int .u64 0, .int .u64 0, .int .u64 0, .slice none 0 0] 39)).drewN nq) :=
    ⟨(Blk.new w _ _).drewN nq, (HH.out.alloc (Nat.le_refl _) _).drewN nq, below_drewN ((Below.refl _ _).alloc (Nat.le_refl _) _) nq⟩
  generalize ((w.alloc (.cells #[.int .i64 0, .int .u64 0, .int .u64 0, .int .u64 0, .slice none 0 0] 39)).drewN nq) = W at hK ⊢
  obtain ⟨S, HS⟩ : ∃ S, Hid (S = crc (bs.take (n - 4))) := ⟨_, rfl⟩
  have HSUM := Lib.hid (rsum_any (some ⟨b, off, none⟩) (n - 4) c w.heap.size (bs.take (n - 4)) W (hK.2.1.first (by omega)) (by omega))
  have hS : S < 4294967296 := by rw [HS.out]; exact crc_lt _
  refine HSUM.out.mono ?_
  rw [← HS.out]
  rintro e w1 ⟨rfl, rfl⟩
  clear HSUM a0 a1 a2 a3 d0 t0 t1 t2 b0 b1 b2 b3
  go_wp2_with fail
  go_loop [5, 6] (fun s i => ∃ k q : Nat, k ≤ 4 ∧ i = .int .i64 k ∧ s = .int .u32 q ∧ q < 4294967296 ∧ (bs.drop (n - 4) = le4 S ↔ bs.drop (n - 4 + k) = leN (4 - k) q)) (fun _ i => 4 - (intOf i).toNat)
  case atStart => exact ⟨0, S, by omega, rfl, rfl, hS, by rw [leN_le4]; rfl⟩
  case round =>
    obtain ⟨k, q, hk, rfl, rfl, hq, hiff⟩ := hrel
    by_cases hlt : k < 4
    · obtain ⟨b', off', e', -, hcell⟩ := two_cells hK.2.1 (by omega)
      injection e' with e'
      injection e' with e1 e2
      subst e1 e2
      have hc0 := hcell (n - 4 + k) (by omega)
      obtain ⟨f, hf⟩ : ∃ f, 4 - k = f + 1 := ⟨3 - k, by omega⟩
      have hst := leN_step (bs := bs) (m := n - 4 + k) (f := f) (q := q) (by have := HLE.out; omega)
      rw [← hf] at hst
      have hnk : (n : Int) - 4 + (k : Int) < (n : Int) := by omega
      have hk0 : (0 : Int) ≤ (n : Int) - 4 + (k : Int) := by omega
      have hb := u8_lt (bs.getD (n - 4 + k) 0)
      by_cases hm : bs.getD (n - 4 + k) 0 = UInt8.ofNat q
      · have tq : (((bs.getD (n - 4 + k) 0).toNat : Int) != (q : Int) % 256) = false := by rw [hm, bne_eq_false_iff_eq]; exact (low8 q).symm
        have HR := Lib.hid (hiff.trans (hst.trans ⟨fun h => h.2, fun h => ⟨hm, h⟩⟩))
        have HF := Lib.hid hf
        generalize (bs.getD (n - 4 + k) 0).toNat = x at *
        clear hiff hst hm hf hcell
        go_wp2_with fail
        go_round
        case rel => exact ⟨k + 1, q / 256, by omega, by go_num, by go_num, by omega, by have := HF.out; have := HR.out; rw [show 4 - (k + 1) = f from by omega, show n - 4 + (k + 1) = n - 4 + k + 1 from by omega]; exact this⟩
        case measure => simp [intOf]; omega
      · have tq : (((bs.getD (n - 4 + k) 0).toNat : Int) != (q : Int) % 256) = true := by rw [low8 q]; exact bne_byte hm
        have hu2 : unp bs = (171, Pk.zero) := by
          rw [HU.out, HLE.out, ← HS.out, if_pos (fun h => hm (hst.1 (hiff.1 h)).1)]
        generalize (bs.getD (n - 4 + k) 0).toNat = x at *
        clear hiff hst hm hf hcell
        have c0 := hK.1.cell 0
        have c1 := hK.1.cell 1
        have c2 := hK.1.cell 2
        have c3 := hK.1.cell 3
        have c4 := hK.1.cell 4
        simp at c0 c1 c2 c3 c4
        have f0 := hK.1.frozen 0
        have f1 := hK.1.frozen 1
        have f2 := hK.1.frozen 2
        have f3 := hK.1.frozen 3
        have f4 := hK.1.frozen 4
        have hbw := hK.2.2
        have HU2 := Lib.hid hu2
        clear hu2
        go_wp2_with fail
        refine bodyPost_ret (v := .tuple #[.agg #[.int .i64 0, .int .u64 0, .int .u64 0, .int .u64 0, .slice none 0 0], .int .i64 171]) (by simp [results, Try.results17, go_sem, c0, c1, c2, c3, c4]) rfl ?_
        rw [HU2.out]
        refine UnpPost.err 171 ?_
        refine Below.setCell (Below.setCell (Below.setCell (Below.setCell (Below.setCell hbw ?_ _) ?_ _) ?_ _) ?_ _) ?_ _ <;> exact Nat.le_refl _
    · obtain rfl : k = 4 := by omega
      have hE : bs.drop (n - 4) = le4 S := by
        rw [hiff]
        show bs.drop (n - 4 + 4) = []
        exact List.drop_eq_nil_of_le (by have := HLE.out; omega)
      clear hiff hlt
      go_wp2_with fail
      have hlt := hK.1.lt
      have hne : w.heap.size ≠ W.heap.size := by omega
      obtain ⟨l, HLl⟩ : ∃ l, Hid (l = midB bs) := ⟨_, rfl⟩
      have hll : l.length = n - 4 - 4 := by rw [HLl.out]; simp [midB, HLE.out]
      have hmid : RdB W w.heap.size (some ⟨b, off + 4, none⟩) l.length l := by
        have h2 := (hK.2.1.first (k := n - 4) (by omega)).last (k := 4) (by omega)
        rw [hll, HLl.out]
        unfold midB
        rw [HLE.out]
        simpa [Addr.add] using h2
      have hu3 : unp bs = if (parse l).2 = true ∨ mayB (parse l).1.kind (parse l).1.body.length = false then (172, Pk.zero) else (0, (parse l).1) := by
        have e1 : bs.drop (bs.length - 4) = le4 (crc (bs.take (bs.length - 4))) := by rw [HLE.out, hE, HS.out]
        rw [HU.out, if_neg (fun q => q e1), HLl.out]
      have HU3 := Lib.hid hu3
      have hP0 : PartIs (W.alloc (.cells #[.slice (some ⟨b, off + 4, none⟩) (n - 4 - 4) (c - 4), .bool false] 110)) 110 w.heap.size W.heap.size l false :=
        ⟨hK.2.2.size, by omega, some ⟨b, off + 4, none⟩, c - 4, by rw [hll]; exact Blk.new' W 110 _ _ rfl, hmid.alloc hK.2.2.size _, by omega⟩
      have hK0 := hK.alloc (.cells #[.slice (some ⟨b, off + 4, none⟩) (n - 4 - 4) (c - 4), .bool false] 110)
      clear hmid hK hu3 hE
      obtain ⟨kk, HKK⟩ : ∃ k, Hid (k = byteV l) := ⟨_, rfl⟩
      have hkk : kk < 256 := by rw [HKK.out]; exact byteV_lt l
      have HB := Lib.hid (rbyte_any w.heap.size W.heap.size l false _ hP0)
      generalize (W.alloc (.cells #[.slice (some ⟨b, off + 4, none⟩) (n - 4 - 4) (c - 4), .bool false] 110)) = V0 at hK0 HB ⊢
      refine HB.out.mono ?_
      rintro e w1 ⟨rfl, hP1, hg1⟩
      rw [← HKK.out]
      have hK1 := hK0.only hg1 hP1.1 hne
      clear HB hP0 hg1 hK0
      go_wp2_with fail
      obtain ⟨c1, HC1⟩ : ∃ c1, Hid (c1 = cnt l.tail (false || l.isEmpty)) := ⟨_, rfl⟩
      have HB := Lib.hid (rcnt_any _ _ _ _ _ hP1)
      refine HB.out.mono ?_
      rintro e w2 ⟨rfl, hP2, hg2⟩
      have hK2 := hK1.only hg2 hP2.1 hne
      rw [← HC1.out] at hP2 ⊢
      obtain ⟨tk, c12, c13⟩ := c1
      clear HB hP1 hg2 hK1
      dsimp only at hP2 ⊢
      go_wp2_with fail
      have hlw := hK2.1.lt
      have hlr : W.heap.size < w2.heap.size := by
        obtain ⟨_, _, _, _, hbb, _⟩ := hP2
        exact hbb.lt
      have R0 : RK3 w w.heap.size W.heap.size w2.heap.size #[.int .i64 0, .int .u64 0, .int .u64 0, .int .u64 0, .slice none 0 0] #[.int .i64 kk, .int .u64 tk, .int .u64 0, .int .u64 0, .slice none 0 0] (some ⟨b, off, none⟩) n bs c12 c13 (w2.alloc (.cells #[.int .i64 kk, .int .u64 tk, .int .u64 0, .int .u64 0, .slice none 0 0] 39)) :=
        ⟨hP2.alloc _, hK2.alloc _, Blk.new' w2 39 _ _ rfl⟩
      generalize (w2.alloc (.cells #[.int .i64 kk, .int .u64 tk, .int .u64 0, .int .u64 0, .slice none 0 0] 39)) = V1 at R0 ⊢
      clear hP2 hK2
      generalize hpbe : w2.heap.size = pb at R0 hlw hlr ⊢
      generalize hree : W.heap.size = r at R0 hlr hne HU HU3 ⊢
      clear hpbe hree
      have HB := Lib.hid (rcnt_kept R0 hne (by omega))
      obtain ⟨c2, HC2⟩ : ∃ c2, Hid (c2 = cnt c12 c13) := ⟨_, rfl⟩
      rw [← HC2.out] at HB
      refine HB.out.mono ?_
      rintro e w3 ⟨rfl, R1⟩
      obtain ⟨sq, c22, c23⟩ := c2
      clear HB R0
      dsimp only at R1 ⊢
      have p2 := R1.2.2.cell 2
      have p3 := R1.2.2.cell 3
      have p4 := R1.2.2.cell 4
      have g2 := R1.2.2.frozen 2
      have g3 := R1.2.2.frozen 3
      have g4 := R1.2.2.frozen 4
      simp at p2 p3 p4
      go_wp2_with fail
      have R2 := R1.set (by omega) (by omega) (by omega) 2 (.int .u64 sq)
      simp only [List.setIfInBounds_toArray, List.set_cons_succ, List.set_cons_zero] at R2
      clear R1 p2 p3 p4 g2 g3 g4
      generalize (w3.setCell ⟨pb, 2, none⟩ (.int .u64 sq)) = V2 at R2 ⊢
      have HB := Lib.hid (rcnt_kept R2 hne (by omega))
      obtain ⟨c3, HC3⟩ : ∃ c3, Hid (c3 = cnt c22 c23) := ⟨_, rfl⟩
      rw [← HC3.out] at HB
      refine HB.out.mono ?_
      rintro e w4 ⟨rfl, R3⟩
      have hpar : parse l = (⟨kk, tk, sq, c3.1, c3.2.1⟩, c3.2.2) := by
        have e1 : cnt l.tail l.isEmpty = (tk, c12, c13) := HC1.out.symm
        have e2 : cnt c12 c13 = (sq, c22, c23) := HC2.out.symm
        rw [HKK.out, HC3.out]
        simp only [parse, e1, e2]
      have hl3 : c3.2.1.length ≤ l.length := by
        have e1 := cnt_len l.tail (false || l.isEmpty)
        have e2 := cnt_len c12 c13
        have e3 := cnt_len c22 c23
        rw [← HC1.out] at e1
        rw [← HC2.out] at e2
        rw [← HC3.out] at e3
        simp at e1 e2
        omega
      have HP := Lib.hid hpar
      clear hpar HC1 HC2 HC3 HKK
      obtain ⟨c31, c32, c33⟩ := c3
      clear HB R2
      dsimp only at R3 HP hl3 ⊢
      have p2 := R3.2.2.cell 2
      have p3 := R3.2.2.cell 3
      have p4 := R3.2.2.cell 4
      have g2 := R3.2.2.frozen 2
      have g3 := R3.2.2.frozen 3
      have g4 := R3.2.2.frozen 4
      simp at p2 p3 p4
      go_upto_region 15 with fail
      have R4 := R3.set (by omega) (by omega) (by omega) 3 (.int .u64 c31)
      simp only [List.setIfInBounds_toArray, List.set_cons_succ, List.set_cons_zero] at R4
      clear R3 p2 p3 p4 g2 g3 g4
      generalize (w4.setCell ⟨pb, 3, none⟩ (.int .u64 c31)) = V3 at R4 ⊢
      obtain ⟨⟨hr1, hr2, A5, c5, hb5, hr5, hc5⟩, hkk5, hbp⟩ := R4
      have q0 := hb5.cell 0
      simp at q0
      have hl32 : c32.length < 65536 := by omega
      go_upto_region 16 with (at_builtin; refine wpList_app rfl (.const (.slice none 0 0)) (.tmp 83) 37 rfl w.heap.size 5 info5 Try.underlying37 (.slice none 0 0) [] rfl (OwnB.nil 5 V3 _) w.heap.size A5 c32.length c5 c32 rfl hr5 (by simp; omega) hkk5.2.2.size ?_; intro v6 w6 hown6 happ6; obtain ⟨A6, c6, rfl, hc6⟩ := hown6.form; clear hc6; have hbp6 := happ6.blk hbp (by simp [Value.ownBlock]); have hbr6 := happ6.blk hb5 (by simp [Value.ownBlock]); have hk6 := hkk5.app (OwnB.nil 5 V3 _) (by decide) happ6; have z4 := hbp6.cell 4; have fz4 := hbp6.frozen 4; simp at z4)
      have hbp7 : Blk (w6.setCell ⟨pb, 4, none⟩ (.slice A6 c32.length c6)) pb 39 #[.int .i64 kk, .int .u64 tk, .int .u64 sq, .int .u64 c31, .slice A6 c32.length c6] := by
        have := hbp6.set_ 4 (.slice A6 c32.length c6)
        simpa using this
      have hbr7 : Blk (w6.setCell ⟨pb, 4, none⟩ (.slice A6 c32.length c6)) r 110 #[.slice A5 c32.length c5, .bool c33] := hbr6.far (p := ⟨pb, 4, none⟩) (by show r ≠ pb; omega) _
      have hk7 := hk6.far (p := ⟨pb, 4, none⟩) (by show w.heap.size ≠ pb; omega) (by show w.heap.size ≤ pb; omega) (.slice A6 c32.length c6)
      have hown7 : OwnB 5 (w6.setCell ⟨pb, 4, none⟩ (.slice A6 c32.length c6)) w.heap.size (.slice A6 c32.length c6) c32 := by
        have h1 := OwnB.far hown6 hbp6 (by decide) 4 (.slice A6 c32.length c6)
        simpa using h1
      generalize (w6.setCell ⟨pb, 4, none⟩ (.slice A6 c32.length c6)) = W7 at hbp7 hbr7 hk7 hown7 ⊢
      clear hbp6 hbr6 hk6 z4 fz4 hown6 happ6 hbp hkk5 q0 hb5 hr5
      have p0 := hbp7.cell 0
      have p1 := hbp7.cell 1
      have p2 := hbp7.cell 2
      have p3 := hbp7.cell 3
      have p4 := hbp7.cell 4
      have y1 := hbr7.cell 1
      have z0 := hk7.1.cell 0
      have z1 := hk7.1.cell 1
      have z2 := hk7.1.cell 2
      have z3 := hk7.1.cell 3
      have z4 := hk7.1.cell 4
      simp at p0 p1 p2 p3 p4 y1 z0 z1 z2 z3 z4
      have f0 := hk7.1.frozen 0
      have f1 := hk7.1.frozen 1
      have f2 := hk7.1.frozen 2
      have f3 := hk7.1.frozen 3
      have f4 := hk7.1.frozen 4
      have hbw := hk7.2.2
      have lg := hk7.1.lt
      have lp := hbp7.lt
      have HOW := Lib.hid hown7
      clear hown7
      cases c33 with
      | true =>
        have hu4 : unp bs = (172, Pk.zero) := by rw [HU3.out, HP.out, if_pos (.inl rfl)]
        go_wp2_with fail
        refine bodyPost_ret (v := .tuple #[.agg #[.int .i64 0, .int .u64 0, .int .u64 0, .int .u64 0, .slice none 0 0], .int .i64 172]) (by simp [results, Try.results17, go_sem, z0, z1, z2, z3, z4]) rfl ?_
        rw [hu4]
        refine UnpPost.err 172 ?_
        refine Below.setCell (Below.setCell (Below.setCell (Below.setCell (Below.setCell hbw ?_ _) ?_ _) ?_ _) ?_ _) ?_ _ <;> exact Nat.le_refl _
      | false =>
        have HM := Lib.hid (rmay_any (kk : Int) (.int .u64 tk) (.int .u64 sq) (.int .u64 c31) A6 c32.length c6 W7 ⟨_, rfl⟩ ⟨_, rfl⟩ ⟨_, rfl⟩)
        cases hmB : mayB (kk : Int) c32.length with
        | false =>
          have hu4 : unp bs = (172, Pk.zero) := by rw [HU3.out, HP.out, if_pos (.inr hmB)]
          rw [hmB] at HM
          clear hmB
          go_wp2_with fail
          refine HM.out.mono ?_
          rintro e w8 ⟨rfl, rfl⟩
          clear HM p0 p1 p2 p3 p4 y1 z0 z1 z2 z3 z4 f0 f1 f2 f3 f4 hbw lg lp
          have hbp8 := hbp7.alloc (.cells #[.int .i64 kk, .int .u64 tk, .int .u64 sq, .int .u64 c31, .slice A6 c32.length c6] 39)
          have hk8 := hk7.alloc (.cells #[.int .i64 kk, .int .u64 tk, .int .u64 sq, .int .u64 c31, .slice A6 c32.length c6] 39)
          have HOW8 := Lib.hid (HOW.out.alloc (.cells #[.int .i64 kk, .int .u64 tk, .int .u64 sq, .int .u64 c31, .slice A6 c32.length c6] 39))
          generalize (W7.alloc (.cells #[.int .i64 kk, .int .u64 tk, .int .u64 sq, .int .u64 c31, .slice A6 c32.length c6] 39)) = W8 at hbp8 hk8 HOW8 ⊢
          clear hbp7 hk7 HOW hbr7
          have p0 := hbp8.cell 0
          have p1 := hbp8.cell 1
          have p2 := hbp8.cell 2
          have p3 := hbp8.cell 3
          have p4 := hbp8.cell 4
          have z0 := hk8.1.cell 0
          have z1 := hk8.1.cell 1
          have z2 := hk8.1.cell 2
          have z3 := hk8.1.cell 3
          have z4 := hk8.1.cell 4
          simp at p0 p1 p2 p3 p4 z0 z1 z2 z3 z4
          have f0 := hk8.1.frozen 0
          have f1 := hk8.1.frozen 1
          have f2 := hk8.1.frozen 2
          have f3 := hk8.1.frozen 3
          have f4 := hk8.1.frozen 4
          have hbw := hk8.2.2
          have lg := hk8.1.lt
          have lp := hbp8.lt
          go_wp2_with fail
          refine bodyPost_ret (v := .tuple #[.agg #[.int .i64 0, .int .u64 0, .int .u64 0, .int .u64 0, .slice none 0 0], .int .i64 172]) (by simp [results, Try.results17, go_sem, z0, z1, z2, z3, z4]) rfl ?_
          rw [hu4]
          refine UnpPost.err 172 ?_
          refine Below.setCell (Below.setCell (Below.setCell (Below.setCell (Below.setCell hbw ?_ _) ?_ _) ?_ _) ?_ _) ?_ _ <;> exact Nat.le_refl _
        | true =>
          have hu4 : unp bs = (0, ⟨kk, tk, sq, c31, c32⟩) := by rw [HU3.out, HP.out, if_neg (by simp [hmB])]
          rw [hmB] at HM
          clear hmB
          go_wp2_with fail
          refine HM.out.mono ?_
          rintro e w8 ⟨rfl, rfl⟩
          clear HM p0 p1 p2 p3 p4 y1 z0 z1 z2 z3 z4 f0 f1 f2 f3 f4 hbw lg lp
          have hbp8 := hbp7.alloc (.cells #[.int .i64 kk, .int .u64 tk, .int .u64 sq, .int .u64 c31, .slice A6 c32.length c6] 39)
          have hk8 := hk7.alloc (.cells #[.int .i64 kk, .int .u64 tk, .int .u64 sq, .int .u64 c31, .slice A6 c32.length c6] 39)
          have HOW8 := Lib.hid (HOW.out.alloc (.cells #[.int .i64 kk, .int .u64 tk, .int .u64 sq, .int .u64 c31, .slice A6 c32.length c6] 39))
          generalize (W7.alloc (.cells #[.int .i64 kk, .int .u64 tk, .int .u64 sq, .int .u64 c31, .slice A6 c32.length c6] 39)) = W8 at hbp8 hk8 HOW8 ⊢
          clear hbp7 hk7 HOW hbr7
          have p0 := hbp8.cell 0
          have p1 := hbp8.cell 1
          have p2 := hbp8.cell 2
          have p3 := hbp8.cell 3
          have p4 := hbp8.cell 4
          have z0 := hk8.1.cell 0
          have z1 := hk8.1.cell 1
          have z2 := hk8.1.cell 2
          have z3 := hk8.1.cell 3
          have z4 := hk8.1.cell 4
          simp at p0 p1 p2 p3 p4 z0 z1 z2 z3 z4
          have f0 := hk8.1.frozen 0
          have f1 := hk8.1.frozen 1
          have f2 := hk8.1.frozen 2
          have f3 := hk8.1.frozen 3
          have f4 := hk8.1.frozen 4
          have hbw := hk8.2.2
          have lg := hk8.1.lt
          have lp := hbp8.lt
          go_wp2_with fail
          refine bodyPost_ret (v := .tuple #[.agg #[.int .i64 kk, .int .u64 tk, .int .u64 sq, .int .u64 c31, .slice A6 c32.length c6], .int .i64 0]) (by simp [results, Try.results17, go_sem, z0, z1, z2, z3, z4]) rfl ?_
          rw [hu4]
          refine ⟨A6, c6, rfl, ?_, ?_⟩
          · exact OwnB.far (OwnB.far (OwnB.far (OwnB.far (OwnB.far HOW8.out hk8.1 (by decide) 0 _) (hk8.1.set_ 0 _) (by decide) 1 _) ((hk8.1.set_ 0 _).set_ 1 _) (by decide) 2 _) (((hk8.1.set_ 0 _).set_ 1 _).set_ 2 _) (by decide) 3 _) ((((hk8.1.set_ 0 _).set_ 1 _).set_ 2 _).set_ 3 _) (by decide) 4 _
          · refine Below.setCell (Below.setCell (Below.setCell (Below.setCell (Below.setCell hbw ?_ _) ?_ _) ?_ _) ?_ _) ?_ _ <;> exact Nat.le_refl _

/-- the document's Unpack, whatever the bytes -/
theorem runp_any (A : Option Addr) (n c : Nat) (bs : List UInt8) (w : World) (h : RdB w w.heap.size A n bs) (hc : n ≤ c) (hm : n ≤ 9223372036854775807) :
    Calls Try.prog 17 #[.slice A n c] w (UnpPost w (unp bs)) := by
  by_cases hn : n < 8
  · exact runp_short A n c bs w h hn
  · by_cases h0 : bs.getD 0 0 = 239
    · by_cases h1 : bs.getD 1 0 = 30
      · by_cases hl : n = lenOf bs + 8
        · exact runp_main A n c bs w h hc (by omega) h0 h1 hl
        · exact runp_len A n c bs w h hm (by omega) h0 h1 hl
      · exact runp_m1 A n c bs w h (by omega) h0 h1
    · exact runp_m0 A n c bs w h (by omega) h0
end Go.Proofs.Ytjhkfpemcplaaaa
namespace Go.Proofs.Ytjhkfpemcplaaaa
open Go.RowKit

/-- from nothing: what was owned stays owned -/
theorem OwnB.fresh {e : TypeId} {w w1 : World} {base : Nat} {u v1 : Value} {xs : List UInt8} (h : OwnB e w base u xs) (ha : App w (.slice none 0 0) w1 v1) : OwnB e w1 base u xs := by
  refine ha.own h ?_
  cases hu : u.ownBlock with
  | none => exact .inl rfl
  | some k => exact .inr (by simp [Value.ownBlock])
def CountPost (w : World) (g : Nat) (cs : Array Value) (A : Option Addr) (n : Nat) (bs : List UInt8) (acc : Value) (xs : List UInt8) (m : Nat) (e : Ending) (w1 : World) : Prop :=
  ∃ v, e = .returned v ∧ OwnB 5 w1 w.heap.size v (enc m) ∧ OwnB 5 w1 w.heap.size acc xs ∧ Kept w 39 g cs A n bs w1
theorem rcount_kept {w W : World} {g n : Nat} {cs : Array Value} {A : Option Addr} {bs : List UInt8} (acc : Value) (xs : List UInt8) (m : Nat) (h : Kept w 39 g cs A n bs W) (ho : OwnB 5 W w.heap.size acc xs) (hm : m < 18446744073709551616) :
    Calls Try.prog 41 #[.int .u64 m] W (CountPost w g cs A n bs acc xs m) :=
  (rcount_any w.heap.size m W h.2.2.size hm).mono fun _ _ ⟨v1, he, hv, ha⟩ => ⟨v1, he, hv, ho.fresh ha, h.app (OwnB.nil 5 W w.heap.size) (by decide) ha⟩

set_option maxRecDepth 20000 in
set_option maxHeartbeats 4000000 in
theorem rpack_ok (k : Int) (t s a : Nat) (A : Option Addr) (n c : Nat) (bs : List UInt8) (w : World) (hr : RdB w w.heap.size A n bs) (hm : mayB k n = true)
    (ht : t < 18446744073709551616) (hs : s < 18446744073709551616) (ha : a < 18446744073709551616) :
    Calls Try.prog 23 #[.agg #[.int .i64 k, .int .u64 t, .int .u64 s, .int .u64 a, .slice A n c]] w fun e w' => ∃ v, e = .returned v ∧ OwnB 5 w' w.heap.size v (packB k t s a bs) ∧ Below w.heap.size w w' := by
  obtain ⟨k1, k7, hn⟩ := mayB_no hm
  obtain ⟨x, HX⟩ : ∃ x : UInt8, Hid (x = UInt8.ofNat k.toNat) := ⟨_, rfl⟩
  have hk8 : IntKind.u8.wrap k = (x.toNat : Int) := by
    rw [HX.out, IntKind.wrap_u8]
    simp only [UInt8.toNat_ofNat']
    omega
  have HT := Lib.hid ht
  have HSQ := Lib.hid hs
  have HAK := Lib.hid ha
  have hK : Kept w 39 w.heap.size #[.int .i64 k, .int .u64 t, .int .u64 s, .int .u64 a, .slice A n c] A n bs ((w.alloc (.cells #[.int .i64 k, .int .u64 t, .int .u64 s, .int .u64 a, .slice A n c] 39)).alloc (.cells #[.int .u8 (x.toNat : Int)] 5)) :=
    ⟨(Blk.new w _ _).alloc _, (hr.alloc (Nat.le_refl _) _).alloc (by simp) _, ((Below.refl _ _).alloc (Nat.le_refl _) _).alloc (by simp) _⟩
  have hO : OwnB 5 ((w.alloc (.cells #[.int .i64 k, .int .u64 t, .int .u64 s, .int .u64 a, .slice A n c] 39)).alloc (.cells #[.int .u8 (x.toNat : Int)] 5)) w.heap.size (.slice (some ⟨w.heap.size + 1, 0, none⟩) 1 1) [x] :=
    OwnB.built' 5 (w.alloc (.cells #[.int .i64 k, .int .u64 t, .int .u64 s, .int .u64 a, .slice A n c] 39)) w.heap.size (w.heap.size + 1) #[.int .u8 (x.toNat : Int)] [x] (by simp) (by simp) (by simp) rfl
  have HK := Lib.hid hK
  have HO := Lib.hid hO
  clear ht hs ha hr hm hK hO
  go_enter Try.func23, Try.ntmps23
  go_wp2
  have hK := HK.out
  have hO := HO.out
  clear HK HO
  generalize ((w.alloc (.cells #[.int .i64 k, .int .u64 t, .int .u64 s, .int .u64 a, .slice A n c] 39)).alloc (.cells #[.int .u8 (x.toNat : Int)] 5)) = W at hK hO ⊢
  have HS : Hid (∀ w' : World, Kept w 39 w.heap.size #[.int .i64 k, .int .u64 t, .int .u64 s, .int .u64 a, .slice A n c] A n bs w' → w'.cell? ⟨w.heap.size, 0, none⟩ = some (.int .i64 k) ∧ w'.cell? ⟨w.heap.size, 1, none⟩ = some (.int .u64 t) ∧ w'.cell? ⟨w.heap.size, 2, none⟩ = some (.int .u64 s) ∧ w'.cell? ⟨w.heap.size, 3, none⟩ = some (.int .u64 a) ∧ w'.cell? ⟨w.heap.size, 4, none⟩ = some (.slice A n c)) :=
    Lib.hid fun w' h => ⟨h.1.cell 0, h.1.cell 1, h.1.cell 2, h.1.cell 3, h.1.cell 4⟩
  have hS0 := HS.out W hK
  have l1 := enc_le t
  have l2 := enc_le s
  have l3 := enc_le a
  go_cut [3] (fun v wx => OwnB 5 wx w.heap.size v ([x] ++ enc t ++ enc s ++ enc a) ∧ Kept w 39 w.heap.size #[.int .i64 k, .int .u64 t, .int .u64 s, .int .u64 a, .slice A n c] A n bs wx)
  case first =>
    go_region_held3 (fun w' => w'.cell? ⟨w.heap.size, 0, none⟩ = some (.int .i64 k) ∧ w'.cell? ⟨w.heap.size, 1, none⟩ = some (.int .u64 t) ∧ w'.cell? ⟨w.heap.size, 2, none⟩ = some (.int .u64 s) ∧ w'.cell? ⟨w.heap.size, 3, none⟩ = some (.int .u64 a) ∧ w'.cell? ⟨w.heap.size, 4, none⟩ = some (.slice A n c))
      (first | go_keep | exact HS.out _ hk6 | exact HS.out _ hk5 | exact HS.out _ hk4 | exact HS.out _ hk3 | exact HS.out _ hk2 | exact HS.out _ hk1)
      (first | (refine step_app rfl (.tmp 10) (.tmp 13) 37 rfl w.heap.size 5 info5 Try.underlying37 _ [x] rfl hacc1 _ A1 _ c1 (enc t) rfl (hown1.reads rfl) (by simp; omega) hk1.2.2.size ?_; intro v2 w2 hacc2 happ2; have hk2 := hk1.app hacc1 (by decide) happ2) | (refine step_app rfl (.tmp 14) (.tmp 17) 37 rfl w.heap.size 5 info5 Try.underlying37 _ ([x] ++ enc t) rfl hacc3 _ A3 _ c3 (enc s) rfl (hown3.reads rfl) (by simp; omega) hk3.2.2.size ?_; intro v4 w4 hacc4 happ4; have hk4 := hk3.app hacc3 (by decide) happ4) | (refine step_app rfl (.tmp 18) (.tmp 21) 37 rfl w.heap.size 5 info5 Try.underlying37 _ ([x] ++ enc t ++ enc s) rfl hacc5 _ A5 _ c5 (enc a) rfl (hown5.reads rfl) (by simp; omega) hk5.2.2.size ?_; intro v6 w6 hacc6 happ6; have hk6 := hk5.app hacc5 (by decide) happ6) | (go_at_call 41; ((with_reducible refine (rcount_kept _ ([x] ++ enc t ++ enc s) a hk4 hacc4 HAK.out).mono ?_); rintro e w5 ⟨v5, rfl, hown5, hacc5, hk5⟩; obtain ⟨A5, c5, rfl, hm5⟩ := hown5.form; clear hm5)) | (go_at_call 41; ((with_reducible refine (rcount_kept _ ([x] ++ enc t) s hk2 hacc2 HSQ.out).mono ?_); rintro e w3 ⟨v3, rfl, hown3, hacc3, hk3⟩; obtain ⟨A3, c3, rfl, hm3⟩ := hown3.form; clear hm3)) | (go_at_call 41; ((with_reducible refine (rcount_kept _ [x] t hK.drew hO.drew HT.out).mono ?_); rintro e w1 ⟨v1, rfl, hown1, hacc1, hk1⟩; obtain ⟨A1, c1, rfl, hm1⟩ := hown1.form; clear hm1)))
    all_goals (go_wp2_with fail; go_meet; exact ⟨hacc6, hk6⟩)
  case rest =>
    obtain ⟨hown0, hk0⟩ := hcut
    have hlb : bs.length = n := Reads.len1 hk0.2.1
    have hl4 : ([x] ++ enc t ++ enc s ++ enc a).length + bs.length ≤ 1055 := by simp; omega
    have HI : Hid (([x] ++ enc t ++ enc s ++ enc a) ++ bs = innerB k t s a bs) := Lib.hid (by rw [HX.out]; simp [innerB])
    have hil : (innerB k t s a bs).length ≤ 1055 := by rw [← HI.out, List.length_append]; exact hl4
    generalize HIN : innerB k t s a bs = inner at HI hil
    have HIN2 := Lib.hid HIN
    have HL4' := Lib.hid hl4
    clear HIN hlb hl4 hS0 hK hO l1 l2 l3 hk8
    obtain ⟨c0, c1, c2, c3, c4'⟩ := HS.out wc hk0
    obtain ⟨A0, k0', rfl, hm0⟩ := hown0.form
    clear hm0 HS
    go_upto_region 4 with (at_builtin; refine wpList_app rfl _ _ _ rfl w.heap.size 5 info5 Try.underlying37 _ ([x] ++ enc t ++ enc s ++ enc a) rfl hown0 _ A n c bs rfl hk0.2.1 (by have := HL4'.out; omega) hk0.2.2.size ?_; intro v8 w8 hown happ8; rw [HI.out] at hown; have hk := hk0.app hown0 (by decide) happ8; clear happ8 hown0 hk0; obtain ⟨A4, c4, rfl, hc4⟩ := hown.form; clear hc4 c0 c1 c2 c3 c4')
    obtain ⟨x0, HX0⟩ : ∃ x : UInt8, Hid (x = UInt8.ofNat inner.length) := ⟨_, rfl⟩
    obtain ⟨x1, HX1⟩ : ∃ x : UInt8, Hid (x = UInt8.ofNat (inner.length / 256)) := ⟨_, rfl⟩
    have e0 : (inner.length : Int) % 256 = (x0.toNat : Int) := by rw [HX0.out]; exact low8 _
    have e1 : (inner.length : Int) / 256 = (x1.toNat : Int) := by rw [HX1.out]; simp only [UInt8.toNat_ofNat']; omega
    have b1 := u8_lt x1
    obtain ⟨fr, HFR⟩ : ∃ fr : List UInt8, Hid (fr = headB inner.length ++ inner) := ⟨_, rfl⟩
    obtain ⟨S, HSS⟩ : ∃ S : Nat, Hid (S = crc fr) := ⟨_, rfl⟩
    have HH : Hid ([239, 30, x0, x1] ++ inner = fr) := Lib.hid (by rw [HFR.out, HX0.out, HX1.out]; rfl)
    have hlen2 : fr.length ≤ 1059 := by rw [HFR.out]; simp [headB]; omega
    have HLE : Hid (frameB inner = fr ++ le4 S) := Lib.hid (by rw [HSS.out, HFR.out]; rfl)
    have hcl : S < 4294967296 := by rw [HSS.out]; exact crc_lt _
    have HIL := Lib.hid hil
    clear hil
    go_wp2_with (at_builtin; refine wpList_app rfl _ _ _ rfl w.heap.size 5 info5 Try.underlying37 _ [239, 30, x0, x1] rfl (OwnB.built' 5 w8 w.heap.size _ _ [239, 30, x0, x1] hk.2.2.size rfl (by simp) rfl) _ _ _ _ inner rfl ((hown.reads rfl).alloc (Nat.le_refl _) _) (by have := HIL.out; simp; omega) (by have := hk.2.2.size; simp; omega) ?_; intro v2 w2 hown2 happ2; rw [HH.out] at hown2; obtain ⟨A2, c2, rfl, hm2, hm3⟩ := hown2.form; have hk2 : Kept w 39 w.heap.size #[.int .i64 k, .int .u64 t, .int .u64 s, .int .u64 a, .slice A n c] A n bs w2 := (hk.alloc _).app (OwnB.built' 5 w8 w.heap.size _ _ [239, 30, x0, x1] hk.2.2.size rfl (by simp) rfl) (by decide) happ2; clear hm2 hm3 happ2 e0 e1 hk hown)
    have HSUM := Lib.hid (rsum_any A2 fr.length c2 w2.heap.size fr w2 (hown2.reads rfl) (by omega))
    refine HSUM.out.mono ?_
    rw [← HSS.out]
    rintro e w3 ⟨rfl, rfl⟩
    clear HSUM
    obtain ⟨s0, H0⟩ : ∃ x : UInt8, Hid (x = UInt8.ofNat S) := ⟨_, rfl⟩
    obtain ⟨s1, H1⟩ : ∃ x : UInt8, Hid (x = UInt8.ofNat (S / 256)) := ⟨_, rfl⟩
    obtain ⟨s2, H2⟩ : ∃ x : UInt8, Hid (x = UInt8.ofNat (S / 65536)) := ⟨_, rfl⟩
    obtain ⟨s3, H4⟩ : ∃ x : UInt8, Hid (x = UInt8.ofNat (S / 16777216)) := ⟨_, rfl⟩
    have q0 : (S : Int) % 256 = (s0.toNat : Int) := by rw [H0.out]; exact low8 _
    have q1 : (S : Int) / 256 % 256 = (s1.toNat : Int) := by rw [H1.out]; simp only [UInt8.toNat_ofNat']; omega
    have q2 : (S : Int) / 65536 % 256 = (s2.toNat : Int) := by rw [H2.out]; simp only [UInt8.toNat_ofNat']; omega
    have q3 : (S : Int) / 16777216 = (s3.toNat : Int) := by rw [H4.out]; simp only [UInt8.toNat_ofNat']; omega
    have b3 := u8_lt s3
    have HL4 : Hid ([s0, s1, s2, s3] = le4 S) := Lib.hid (by rw [H0.out, H1.out, H2.out, H4.out]; rfl)
    have hbw := hk2.2.2
    have hsz2 := hbw.size
    have HF : Hid (fr.length ≤ 1059) := Lib.hid hlen2
    clear hlen2
    go_wp2_with (at_builtin; refine wpList_app rfl _ _ _ rfl w.heap.size 5 info5 Try.underlying37 _ fr rfl (hown2.alloc _) _ _ _ _ [s0, s1, s2, s3] rfl (Reads.built w2 5 ([s0, s1, s2, s3].map bv)) (by have := HF.out; simp; omega) (by simp; omega) ?_; intro v3 w3 hown3 happ3)
    go_ret
    refine ⟨_, rfl, ?_, (hk2.app hown2 (by decide) happ3.from).2.2⟩
    show OwnB 5 w3 w.heap.size v3 (frameB (innerB k t s a bs))
    rw [HIN2.out, HLE.out, ← HL4.out]
    exact hown3
end Go.Proofs.Ytjhkfpemcplaaaa
namespace Go.Proofs.Ytjhkfpemcplaaaa
open Go.RowKit

/-- what the bytes at the front are: nothing yet, one byte to drop, a frame -/
inductive St where
  | done : St
  | drop : St
  | take (p : Pk) (k : Nat) : St
def stepB (b : List UInt8) : St :=
  if b.length = 0 then .done
  else if b.getD 0 0 ≠ 239 ∨ (1 < b.length ∧ b.getD 1 0 ≠ 30) then .drop
  else if b.length < 4 then .done
  else if 1080 < lenOf b then .drop
  else if b.length < lenOf b + 8 then .done
  else if (unp (b.take (lenOf b + 8))).1 = 0 then .take (unp (b.take (lenOf b + 8))).2 (lenOf b + 8)
  else .drop
def feedF : Nat → List UInt8 → List Pk × List UInt8 × Nat
  | 0, b => ([], b, 0)
  | f + 1, b => match stepB b with
    | .done => ([], b, 0)
    | .drop => ((feedF f b.tail).1, (feedF f b.tail).2.1, (feedF f b.tail).2.2 + 1)
    | .take p k => (p :: (feedF f (b.drop k)).1, (feedF f (b.drop k)).2.1, (feedF f (b.drop k)).2.2)
def feed (b : List UInt8) : List Pk × List UInt8 × Nat := feedF b.length b
theorem stepB_nil {b : List UInt8} (h : b.length = 0) : stepB b = .done := by unfold stepB; rw [if_pos h]
theorem stepB_take {b : List UInt8} {p : Pk} {k : Nat} (h : stepB b = .take p k) : 8 ≤ k ∧ k ≤ b.length ∧ k ≤ 1088 ∧ k = lenOf b + 8 ∧ 4 ≤ b.length ∧ unp (b.take k) = (0, p) := by
  unfold stepB at h
  split at h
  · cases h
  · split at h
    · cases h
    · split at h
      · cases h
      · split at h
        · cases h
        · split at h
          · cases h
          · split at h
            · rename_i h0
              injection h with h1 h2
              subst h1 h2
              refine ⟨by omega, by omega, by omega, rfl, by omega, ?_⟩
              rw [← h0]
            · cases h
theorem feedF_fuel : ∀ (n f : Nat) (b : List UInt8), b.length ≤ n → b.length ≤ f → feedF f b = feedF n b := by
  intro n
  induction n with
  | zero =>
    intro f b hn _
    cases f with
    | zero => rfl
    | succ f => simp only [feedF, stepB_nil (show b.length = 0 by omega)]
  | succ n ih =>
    intro f b hn hf
    cases f with
    | zero => simp only [feedF, stepB_nil (show b.length = 0 by omega)]
    | succ f =>
      rw [feedF, feedF]
      cases hs : stepB b with
      | done => rfl
      | drop =>
        have e := ih f b.tail (by rw [List.length_tail]; omega) (by rw [List.length_tail]; omega)
        dsimp only
        rw [e]
      | take p k =>
        have hk := stepB_take hs
        have e := ih f (b.drop k) (by rw [List.length_drop]; omega) (by rw [List.length_drop]; omega)
        dsimp only
        rw [e]
theorem feed_done {b : List UInt8} (h : stepB b = .done) : feed b = ([], b, 0) := by
  unfold feed
  cases b.length with
  | zero => rfl
  | succ n => rw [feedF, h]
theorem feed_drop {b : List UInt8} (h : stepB b = .drop) : feed b = ((feed b.tail).1, (feed b.tail).2.1, (feed b.tail).2.2 + 1) := by
  unfold feed
  cases hb : b.length with
  | zero => rw [stepB_nil hb] at h; cases h
  | succ n => rw [feedF, h, feedF_fuel n b.tail.length b.tail (by rw [List.length_tail]; omega) (Nat.le_refl _)]
theorem feed_take {b : List UInt8} {p : Pk} {k : Nat} (h : stepB b = .take p k) : feed b = (p :: (feed (b.drop k)).1, (feed (b.drop k)).2.1, (feed (b.drop k)).2.2) := by
  have hk := stepB_take h
  unfold feed
  cases hb : b.length with
  | zero => rw [stepB_nil hb] at h; cases h
  | succ n => rw [feedF, h, feedF_fuel n (b.drop k).length (b.drop k) (by rw [List.length_drop]; omega) (Nat.le_refl _)]

/-- as Q; by a goto: J of its label -/
def Exit.jumps (J : Nat → Act → World → Prop) (Q : Exit → Act → World → Prop) : Exit → Act → World → Prop
  | .goto l, a, w => J l a w
  | e, a, w => Q e a w
section
variable {P : Program} {a : Act} {w : World} {Q : Exit → Act → World → Prop}
/-- a scope in which the run jumps between several labels: what holds at each jump, and a measure that every pass lowers -/
theorem wp_scope_labels {c : Code} (J : Nat → Act → World → Prop) (μ : Nat → Act → World → Nat)
    (first : c.wp P (Exit.jumps J Q) a w)
    (pass : ∀ l a w, J l a w → ∃ rest, findLabel c l = some rest ∧ rest.wp P (Exit.jumps (fun l' a' w' => J l' a' w' ∧ μ l' a' w' < μ l a w) Q) a w) : (Code.scope c).wp P Q a w := by
  intro b k cs
  have key : ∀ n l a w rest, findLabel c l = some rest → μ l a w = n → J l a w → ∃ e a' w', Q e a' w' ∧ Arrives P (lone (b.at a (.code rest :: .inScope c :: k)) cs w) b k cs e a' w' := by
    intro n
    induction n using Nat.strongRecOn with
    | _ n ih =>
      intro l a w rest hf hn hJ
      obtain ⟨rest', hf', hp⟩ := pass l a w hJ
      rw [hf] at hf'
      injection hf' with hf'
      subst hf'
      obtain ⟨e, a₁, w₁, hq, harr⟩ := hp b (.inScope c :: k) cs
      cases e with
      | normal => exact ⟨.normal, a₁, w₁, hq, Steps.trans harr (.one step_inScope)⟩
      | exit id => exact ⟨.exit id, a₁, w₁, hq, fun k' hk => harr k' (by simp [exitTo, hk])⟩
      | goto l' =>
        obtain ⟨hJ', hlt⟩ := hq
        obtain ⟨rest2, hf2, _⟩ := pass l' a₁ w₁ hJ'
        have hg : gotoIn l' (.inScope c :: k) = some (.code rest2 :: .inScope c :: k) := by simp [gotoIn, hf2]
        obtain ⟨e₂, a₂, w₂, hq₂, harr₂⟩ := ih _ (by omega) l' a₁ w₁ rest2 hf2 rfl hJ'
        exact ⟨e₂, a₂, w₂, hq₂, .of_steps (harr _ hg) harr₂⟩
      | ret => exact ⟨_, a₁, w₁, hq, harr⟩
      | panic ch => exact ⟨_, a₁, w₁, hq, harr⟩
      | outgrown => exact ⟨_, a₁, w₁, hq, harr⟩
  obtain ⟨e, a₁, w₁, hq, harr⟩ := first b (.inScope c :: k) cs
  cases e with
  | normal => exact ⟨.normal, a₁, w₁, hq, .head step_scope (Steps.trans harr (.one step_inScope))⟩
  | exit id => exact ⟨.exit id, a₁, w₁, hq, fun k' hk => .head step_scope (harr k' (by simp [exitTo, hk]))⟩
  | goto l' =>
    obtain ⟨rest2, hf2, _⟩ := pass l' a₁ w₁ hq
    have hg : gotoIn l' (.inScope c :: k) = some (.code rest2 :: .inScope c :: k) := by simp [gotoIn, hf2]
    obtain ⟨e₂, a₂, w₂, hq₂, harr₂⟩ := key _ l' a₁ w₁ rest2 hf2 rfl hq
    exact ⟨e₂, a₂, w₂, hq₂, .of_steps (.head step_scope (harr _ hg)) harr₂⟩
  | ret => exact ⟨_, a₁, w₁, hq, .of_steps (.one step_scope) harr⟩
  | panic ch => exact ⟨_, a₁, w₁, hq, .of_steps (.one step_scope) harr⟩
  | outgrown => exact ⟨_, a₁, w₁, hq, .of_steps (.one step_scope) harr⟩
end

/-- a packet's cells -/
def pqCells (q : Pk × Option Addr × Nat) : List Value := [.int .i64 q.1.kind, .int .u64 q.1.tok, .int .u64 q.1.seq, .int .u64 q.1.ack, .slice q.2.1 q.1.body.length q.2.2]
/-- a row of packets, the bodies in memory of their own -/
def PkRow (w : World) (base : Nat) (V : Value) (qs : List (Pk × Option Addr × Nat)) : Prop :=
  w.ownsRow base 39 5 V qs.length (qs.flatMap pqCells) ∧ ∀ q ∈ qs, OwnB 5 w base (.slice q.2.1 q.1.body.length q.2.2) q.1.body
theorem own_own_ne {w : World} {base base' : Nat} {e e' : TypeId} {size size' n n' : Nat} {v v' : Value} {xs xs' : List Value} (h : w.ownsRow base e size v n xs) (h' : w.ownsRow base' e' size' v' n' xs') (hne : e ≠ e') :
    v.ownBlock = none ∨ v.ownBlock ≠ v'.ownBlock := by
  rcases h.2 with ⟨rfl, _⟩ | ⟨g, cap, cur, rfl, _, hh, _⟩
  · exact .inl rfl
  · refine .inr fun e => own_blk_ne h' (g := g) (t := _) hh (fun e => hne e.symm) ?_
    rw [← e]
    rfl
section
variable {w w' : World} {base : Nat} {V : Value} {qs : List (Pk × Option Addr × Nat)}
theorem PkRow.nil (w : World) (base : Nat) : PkRow w base (.slice none 0 0) [] := ⟨World.ownsRow_nil _ _ _ _, fun q hq => by cases hq⟩
theorem PkRow.kept (h : PkRow w base V qs) (hg : w.grownBy w' none) : PkRow w' base V qs :=
  ⟨h.1.kept hg (by cases V.ownBlock <;> simp), fun q hq => (h.2 q hq).kept hg (by generalize Value.ownBlock _ = o; cases o <;> simp)⟩
theorem PkRow.far (h : PkRow w base V qs) {g : Nat} {t : TypeId} {cs : Array Value} (hb : Blk w g t cs) (h1 : 39 ≠ t) (h2 : 5 ≠ t) (hg : w.grownBy w' (some g)) : PkRow w' base V qs :=
  ⟨h.1.kept hg (.inr (own_blk_ne h.1 hb h1)), fun q hq => (h.2 q hq).kept hg (.inr (own_blk_ne (h.2 q hq) hb h2))⟩
theorem PkRow.snoc (h : PkRow w base V qs) {q : Pk × Option Addr × Nat} (hq : OwnB 5 w base (.slice q.2.1 q.1.body.length q.2.2) q.1.body) (hg : w.grownBy w' V.ownBlock) {V' : Value} (ho : w'.ownsRow base 39 5 V' (qs.length + 1) (qs.flatMap pqCells ++ pqCells q)) :
    PkRow w' base V' (qs ++ [q]) := by
  refine ⟨by simpa using ho, fun x hx => ?_⟩
  have key : OwnB 5 w base (.slice x.2.1 x.1.body.length x.2.2) x.1.body := by
    rcases List.mem_append.1 hx with hx | hx
    · exact h.2 x hx
    · rw [List.mem_singleton] at hx; subst hx; exact hq
  exact World.ownsRow.kept key hg (own_own_ne key h.1 (by decide))
theorem PkRow.len (h : PkRow w base V qs) : ∃ A c, V = .slice A qs.length c ∧ qs.length ≤ c := by
  rcases h.1.2 with ⟨rfl, h0⟩ | ⟨g, cap, cur, rfl, _, _, hn, _⟩
  · exact ⟨none, 0, by rw [h0], by omega⟩
  · exact ⟨_, cap, rfl, hn⟩
end
/-- all blocks but g are as they were -/
def Keep (g : Nat) (w w' : World) : Prop := w.grownBy w' (some g)
end Go.Proofs.Ytjhkfpemcplaaaa
