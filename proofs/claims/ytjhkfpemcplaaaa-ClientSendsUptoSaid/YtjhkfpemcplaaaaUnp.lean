/-
  Contract of the program's Unpack.
-/
import Derived.Test.YtjhkfpemcplaaaaPack
namespace Go.Proofs.Ytjhkfpemcplaaaa
open Go.RowKit

structure Pk where
  kind : Nat
  tok : Nat
  seq : Nat
  ack : Nat
  body : List UInt8
def Pk.zero : Pk := ⟨0, 0, 0, 0, []⟩
/-- what stands between head and tail: the packet, whether something was bad -/
def parse (l : List UInt8) : Pk × Bool :=
  let c1 := cnt l.tail l.isEmpty
  let c2 := cnt c1.2.1 c1.2.2
  let c3 := cnt c2.2.1 c2.2.2
  (⟨byteV l, c1.1, c2.1, c3.1, c3.2.1⟩, c3.2.2)
def midB (bs : List UInt8) : List UInt8 := (bs.take (bs.length - 4)).drop 4
/-- the error's number, the packet -/
def unp (bs : List UInt8) : Nat × Pk :=
  if bs.length < 8 ∨ bs.getD 0 0 ≠ 239 ∨ bs.getD 1 0 ≠ 30 ∨ bs.length ≠ lenOf bs + 8 then (170, Pk.zero)
  else if bs.drop (bs.length - 4) ≠ le4 (crc (bs.take (bs.length - 4))) then (171, Pk.zero)
  else if (parse (midB bs)).2 = true ∨ mayB (parse (midB bs)).1.kind (parse (midB bs)).1.body.length = false then (172, Pk.zero)
  else (0, (parse (midB bs)).1)

/-- what both Unpacks end with -/
def UnpPost (w : World) (r : Nat × Pk) (e : Ending) (w' : World) : Prop :=
  ∃ A c, e = .returned (.tuple #[.agg #[.int .i64 r.2.kind, .int .u64 r.2.tok, .int .u64 r.2.seq, .int .u64 r.2.ack, .slice A r.2.body.length c], .int .i64 r.1]) ∧
    OwnB 5 w' w.heap.size (.slice A r.2.body.length c) r.2.body ∧ Below w.heap.size w w'
theorem UnpPost.err {w w' : World} (n : Nat) (hb : Below w.heap.size w w') :
    UnpPost w (n, Pk.zero) (.returned (.tuple #[.agg #[.int .i64 0, .int .u64 0, .int .u64 0, .int .u64 0, .slice none 0 0], .int .i64 n])) w' :=
  ⟨none, 0, rfl, OwnB.nil 5 w' _, hb⟩

theorem Reads.first {w : World} {B n k : Nat} {A : Option Addr} {bs : List UInt8} (h : RdB w B A n bs) (hk : k ≤ n) : RdB w B A k (bs.take k) := by
  have hl := h.len1
  refine ⟨by simp; omega, fun h0 => ?_⟩
  obtain ⟨ad, e, hbk, hcell⟩ := h.2 (by omega)
  refine ⟨ad, e, hbk, fun j u hu => hcell j u ?_⟩
  rw [List.map_take, List.getElem?_take] at hu
  split at hu
  · exact hu
  · cases hu
theorem Reads.last {w : World} {B n k : Nat} {A : Option Addr} {bs : List UInt8} (h : RdB w B A n bs) (hk : k ≤ n) : RdB w B (A.map (·.add k)) (n - k) (bs.drop k) := by
  have hc := Reads.cut h (cap := n + k + 1) hk (by omega)
  rw [if_neg (by omega)] at hc
  show Reads w B 1 _ _ ((bs.drop k).map bv)
  rw [List.map_drop]
  simpa using hc

set_option maxRecDepth 20000 in
set_option maxHeartbeats 4000000 in
theorem unp_short (A : Option Addr) (n c : Nat) (bs : List UInt8) (w : World) (h : RdB w w.heap.size A n bs) (hn : n < 8) :
    Calls Try.prog 76 #[.slice A n c] w (UnpPost w (unp bs)) := by
  have hu : unp bs = (170, Pk.zero) := by
    have := h.len1
    unfold unp
    rw [if_pos (.inl (by omega))]
  rw [hu]
  go_enter Try.func76, Try.ntmps76
  go_wp2
  exact bodyPost_ret (v := .tuple #[.agg #[.int .i64 0, .int .u64 0, .int .u64 0, .int .u64 0, .slice none 0 0], .int .i64 170]) (by simp [results, Try.results76, go_sem]) rfl (UnpPost.err 170 (by exact (Below.refl _ _).alloc (Nat.le_refl _) _))

theorem getD_ne {bs : List UInt8} {k : Nat} {v : UInt8} (h : bs.getD k 0 ≠ v) : (((bs.getD k 0).toNat : Int) == (v.toNat : Int)) = false := by
  rw [beq_eq_false_iff_ne]
  intro e
  exact h (UInt8.toNat_inj.1 (by omega))
theorem two_cells {w : World} {B n : Nat} {A : Option Addr} {bs : List UInt8} (h : RdB w B A n bs) (hn : 4 ≤ n) :
    ∃ b off, A = some ⟨b, off, none⟩ ∧ b < B ∧ (∀ k, k < n → w.cell? ⟨b, off + k, none⟩ = some (.int .u8 ((bs.getD k 0).toNat : Int))) := by
  obtain ⟨b, off, e, h0⟩ := byte_getD h (k := 0) (by omega)
  obtain ⟨ad, e2, hb, _⟩ := h.2 (by omega)
  rw [e] at e2
  injection e2 with e2
  subst e2
  refine ⟨b, off, e, hb, fun k hk => ?_⟩
  obtain ⟨b', off', e', h0'⟩ := byte_getD h hk
  rw [e] at e'
  injection e' with e'
  injection e' with e1 e2
  subst e1 e2
  exact h0'

set_option maxRecDepth 20000 in
set_option maxHeartbeats 4000000 in
theorem unp_magic (A : Option Addr) (n c : Nat) (bs : List UInt8) (w : World) (h : RdB w w.heap.size A n bs) (hn : 8 ≤ n) (h0 : bs.getD 0 0 ≠ 239 ∨ bs.getD 1 0 ≠ 30) :
    Calls Try.prog 76 #[.slice A n c] w (UnpPost w (unp bs)) := by
  have hu : unp bs = (170, Pk.zero) := by
    unfold unp
    rcases h0 with h0 | h0
    · rw [if_pos (.inr (.inl h0))]
    · rw [if_pos (.inr (.inr (.inl h0)))]
  rw [hu]
  obtain ⟨b, off, rfl, hb, hc⟩ := two_cells h (by omega)
  have c0 := hc 0 (by omega)
  have c1 := hc 1 (by omega)
  have a0 : ∀ o, (w.alloc o).cell? ⟨b, off, none⟩ = some (.int .u8 ((bs.getD 0 0).toNat : Int)) := fun o => (World.cell?_alloc_lt w o ⟨b, off, none⟩ hb).trans (by simpa using c0)
  have a1 : ∀ o, (w.alloc o).cell? ⟨b, off + 1, none⟩ = some (.int .u8 ((bs.getD 1 0).toNat : Int)) := fun o => (World.cell?_alloc_lt w o ⟨b, off + 1, none⟩ hb).trans c1
  have b0 := u8_lt (bs.getD 0 0)
  have b1 := u8_lt (bs.getD 1 0)
  have hn0 : decide ((n : Int) < 8) = false := by simp; omega
  have hn1 : (1 : Int) < (n : Int) := by omega
  by_cases hz : bs.getD 0 0 = 239
  · have hz1 : bs.getD 1 0 ≠ 30 := by
      rcases h0 with h0 | h0
      · exact absurd hz h0
      · exact h0
    have t0 : (((bs.getD 0 0).toNat : Int) != 239) = false := by rw [hz]; rfl
    have t1 : (((bs.getD 1 0).toNat : Int) != 30) = true := by
      have := getD_ne hz1
      simp only [bne, Bool.not_eq_true']
      exact this
    generalize (bs.getD 0 0).toNat = x0 at *
    generalize (bs.getD 1 0).toNat = x1 at *
    clear hc c0 c1 hz hz1 h h0 hu
    go_enter Try.func76, Try.ntmps76
    go_wp2
    exact bodyPost_ret (v := .tuple #[.agg #[.int .i64 0, .int .u64 0, .int .u64 0, .int .u64 0, .slice none 0 0], .int .i64 170]) (by simp [results, Try.results76, go_sem]) rfl (UnpPost.err 170 (by exact (Below.refl _ _).alloc (Nat.le_refl _) _))
  · have t0 : (((bs.getD 0 0).toNat : Int) != 239) = true := by
      have := getD_ne hz
      simp only [bne, Bool.not_eq_true']
      exact this
    generalize (bs.getD 0 0).toNat = x0 at *
    generalize (bs.getD 1 0).toNat = x1 at *
    clear hc c0 c1 hz h h0 hu
    go_enter Try.func76, Try.ntmps76
    go_wp2
    exact bodyPost_ret (v := .tuple #[.agg #[.int .i64 0, .int .u64 0, .int .u64 0, .int .u64 0, .slice none 0 0], .int .i64 170]) (by simp [results, Try.results76, go_sem]) rfl (UnpPost.err 170 (by exact (Below.refl _ _).alloc (Nat.le_refl _) _))

theorem lenOf_lt (bs : List UInt8) : lenOf bs < 65536 := by
  have := u8_lt (bs.getD 2 0)
  have := u8_lt (bs.getD 3 0)
  unfold lenOf
  omega
set_option maxRecDepth 20000 in
set_option maxHeartbeats 4000000 in
theorem unp_len (A : Option Addr) (n c : Nat) (bs : List UInt8) (w : World) (h : RdB w w.heap.size A n bs) (hn : 8 ≤ n) (h0 : bs.getD 0 0 = 239) (h1 : bs.getD 1 0 = 30) (hl : n ≠ lenOf bs + 8) :
    Calls Try.prog 76 #[.slice A n c] w (UnpPost w (unp bs)) := by
  have hu : unp bs = (170, Pk.zero) := by
    have := h.len1
    unfold unp
    rw [if_pos (.inr (.inr (.inr (by omega))))]
  rw [hu]
  obtain ⟨b, off, rfl, hb, hc⟩ := two_cells h (by omega)
  have c0 := hc 0 (by omega)
  have c1 := hc 1 (by omega)
  rw [h0] at c0
  rw [h1] at c1
  have a0 : ∀ o, (w.alloc o).cell? ⟨b, off, none⟩ = some (.int .u8 239) := fun o => (World.cell?_alloc_lt w o ⟨b, off, none⟩ hb).trans (by simpa using c0)
  have a1 : ∀ o, (w.alloc o).cell? ⟨b, off + 1, none⟩ = some (.int .u8 30) := fun o => (World.cell?_alloc_lt w o ⟨b, off + 1, none⟩ hb).trans (by simpa using c1)
  have hn0 : decide ((n : Int) < 8) = false := by simp; omega
  have hn1 : (1 : Int) < (n : Int) := by omega
  have HLen := Lib.hid fun o => length_any (some ⟨b, off, none⟩) n c w.heap.size bs (w.alloc o) (h.alloc (Nat.le_refl _) o) (by omega)
  have hL := lenOf_lt bs
  have tl' : ((n : Int) != (lenOf bs : Int) + 8) = true := by rw [bne_iff_ne]; omega
  generalize lenOf bs = L at *
  clear hc c0 c1 h h0 hu hl h1
  go_enter Try.func76, Try.ntmps76
  go_wp2_with fail
  refine (HLen.out _).mono ?_
  rintro e w1 ⟨rfl, k, rfl⟩
  clear HLen
  go_wp2_with fail
  refine bodyPost_ret (v := .tuple #[.agg #[.int .i64 0, .int .u64 0, .int .u64 0, .int .u64 0, .slice none 0 0], .int .i64 170]) (by simp [results, Try.results76, go_sem]) rfl (UnpPost.err 170 ?_)
  refine Below.setCell (Below.setCell (Below.setCell (Below.setCell (Below.setCell (below_drewN ((Below.refl _ _).alloc (Nat.le_refl _) _) k) ?_ _) ?_ _) ?_ _) ?_ _) ?_ _ <;> exact Nat.le_refl _

theorem Kept.only {w w1 w2 : World} {T g n r : Nat} {cs : Array Value} {A : Option Addr} {bs : List UInt8} (h : Kept w T g cs A n bs w1) (hg : w1.grownBy w2 (some r)) (hr : w.heap.size ≤ r) (hne : g ≠ r) : Kept w T g cs A n bs w2 := by
  obtain ⟨hb, hrd, hbw⟩ := h
  exact ⟨hb.grown hg (fun e => hne (by injection e)), hrd.grown hg hbw.size (fun k hk => by injection hk with hk; omega), hbw.grown hg hbw.size (fun k hk => by injection hk with hk; omega)⟩
/-- the reader and what is kept -/
def RdKept (w : World) (T g r : Nat) (cs : Array Value) (A : Option Addr) (n : Nat) (bs l : List UInt8) (b : Bool) (T' : Nat) (w1 : World) : Prop := PartIs w1 T' w.heap.size r l b ∧ Kept w T g cs A n bs w1
theorem byte_kept {w W : World} {T g r n : Nat} {cs : Array Value} {A : Option Addr} {bs l : List UInt8} {b : Bool} (h : RdKept w T g r cs A n bs l b 151 W) (hne : g ≠ r) :
    Calls Try.prog 89 #[.pointer (some ⟨r, 0, none⟩)] W fun e w1 => e = .returned (.int .u8 (byteV l : Nat)) ∧ RdKept w T g r cs A n bs l.tail (b || l.isEmpty) 151 w1 :=
  (byte_any _ r l b W h.1).mono fun _ _ ⟨he, hp, hg⟩ => ⟨he, hp, h.2.only hg h.1.1 hne⟩
theorem cnt_kept {w W : World} {T g r n : Nat} {cs : Array Value} {A : Option Addr} {bs l : List UInt8} {b : Bool} (h : RdKept w T g r cs A n bs l b 151 W) (hne : g ≠ r) :
    Calls Try.prog 90 #[.pointer (some ⟨r, 0, none⟩)] W fun e w1 => e = .returned (.int .u64 ((cnt l b).1 : Nat)) ∧ RdKept w T g r cs A n bs (cnt l b).2.1 (cnt l b).2.2 151 w1 :=
  (cnt_any _ r l b W h.1).mono fun _ _ ⟨he, hp, hg⟩ => ⟨he, hp, h.2.only hg h.1.1 hne⟩

set_option maxRecDepth 20000 in
set_option maxHeartbeats 8000000 in
theorem unp_main (A : Option Addr) (n c : Nat) (bs : List UInt8) (w : World) (h : RdB w w.heap.size A n bs) (hc : n ≤ c) (hn : 8 ≤ n) (h0 : bs.getD 0 0 = 239) (h1 : bs.getD 1 0 = 30) (hl : n = lenOf bs + 8) :
    Calls Try.prog 76 #[.slice A n c] w (UnpPost w (unp bs)) := by
  have hlen := h.len1
  have hu : unp bs = if bs.drop (bs.length - 4) ≠ le4 (crc (bs.take (bs.length - 4))) then (171, Pk.zero)
      else if (parse (midB bs)).2 = true ∨ mayB (parse (midB bs)).1.kind (parse (midB bs)).1.body.length = false then (172, Pk.zero)
      else (0, (parse (midB bs)).1) := by
    conv => lhs; unfold unp
    rw [if_neg]
    rintro (q | q | q | q)
    · omega
    · exact q h0
    · exact q h1
    · omega
  obtain ⟨b, off, rfl, hb, hce⟩ := two_cells h (by omega)
  have c0 := hce 0 (by omega)
  have c1 := hce 1 (by omega)
  rw [h0] at c0
  rw [h1] at c1
  have a0 : ∀ o, (w.alloc o).cell? ⟨b, off, none⟩ = some (.int .u8 239) := fun o => (World.cell?_alloc_lt w o ⟨b, off, none⟩ hb).trans (by simpa using c0)
  have a1 : ∀ o, (w.alloc o).cell? ⟨b, off + 1, none⟩ = some (.int .u8 30) := fun o => (World.cell?_alloc_lt w o ⟨b, off + 1, none⟩ hb).trans (by simpa using c1)
  have hn0 : decide ((n : Int) < 8) = false := by simp; omega
  have hn1 : (1 : Int) < (n : Int) := by omega
  have HLen := Lib.hid fun o => length_any (some ⟨b, off, none⟩) n c w.heap.size bs (w.alloc o) (h.alloc (Nat.le_refl _) o) (by omega)
  have hL := lenOf_lt bs
  have hn2 : n < 65544 := by omega
  have tl' : ((n : Int) != (lenOf bs : Int) + 8) = false := by rw [bne_eq_false_iff_eq]; omega
  have HU := Lib.hid hu
  have HH := Lib.hid h
  generalize lenOf bs = L at *
  have HLE := Lib.hid hlen
  have n1 : (0 : Int) ≤ (n : Int) - 4 := by omega
  have ncn : ¬ c = n - 4 := by omega
  clear hce c0 c1 h h0 hu hl h1 hlen
  go_enter Try.func76, Try.ntmps76
  go_wp2_with fail
  refine (HLen.out _).mono ?_
  rintro e w1 ⟨rfl, k, rfl⟩
  clear HLen
  go_wp2_with fail
  have hK : Kept w 39 w.heap.size #[.int .i64 0, .int .u64 0, .int .u64 0, .int .u64 0, .slice none 0 0] (some ⟨b, off, none⟩) n bs ((w.alloc (.cells #[.int .i64 0, .int .u64 0, .int .u64 0, .int .u64 0, .slice none 0 0] 39)).drewN k) :=
    ⟨(Blk.new w _ _).drewN k, (HH.out.alloc (Nat.le_refl _) _).drewN k, below_drewN ((Below.refl _ _).alloc (Nat.le_refl _) _) k⟩
  generalize ((w.alloc (.cells #[.int .i64 0, .int .u64 0, .int .u64 0, .int .u64 0, .slice none 0 0] 39)).drewN k) = W at hK ⊢
  obtain ⟨S, HS⟩ : ∃ S, Hid (S = crc (bs.take (n - 4))) := ⟨_, rfl⟩
  have HSUM := Lib.hid (sum_any (some ⟨b, off, none⟩) (n - 4) c w.heap.size (bs.take (n - 4)) W (hK.2.1.first (by omega)) (by omega))
  have hS : S < 4294967296 := by rw [HS.out]; exact crc_lt _
  refine HSUM.out.mono ?_
  rw [← HS.out]
  rintro e w1 ⟨rfl, rfl⟩
  clear HSUM a0 a1 hn0 tl'
  obtain ⟨s0, H0⟩ : ∃ x : UInt8, Hid (x = UInt8.ofNat S) := ⟨_, rfl⟩
  obtain ⟨s1, H1⟩ : ∃ x : UInt8, Hid (x = UInt8.ofNat (S / 256)) := ⟨_, rfl⟩
  obtain ⟨s2, H2⟩ : ∃ x : UInt8, Hid (x = UInt8.ofNat (S / 65536)) := ⟨_, rfl⟩
  obtain ⟨s3, H4⟩ : ∃ x : UInt8, Hid (x = UInt8.ofNat (S / 16777216)) := ⟨_, rfl⟩
  have q0 : (S : Int) % 256 = (s0.toNat : Int) := by rw [H0.out]; exact low8 _
  have q1 : (S : Int) / 256 % 256 = (s1.toNat : Int) := by rw [H1.out]; simp only [UInt8.toNat_ofNat']; omega
  have q2 : (S : Int) / 65536 % 256 = (s2.toNat : Int) := by rw [H2.out]; simp only [UInt8.toNat_ofNat']; omega
  have q3 : (S : Int) / 16777216 = (s3.toNat : Int) := by rw [H4.out]; simp only [UInt8.toNat_ofNat']; omega
  have b3 := u8_lt s3
  have HL4 : Hid ([s0, s1, s2, s3] = le4 S) := Lib.hid (by rw [H0.out, H1.out, H2.out, H4.out]; rfl)
  go_wp2_with fail
  have hlast : RdB W w.heap.size (some ⟨b, off + (n - 4), none⟩) (n - (n - 4)) (bs.drop (n - 4)) := by
    have := hK.2.1.last (k := n - 4) (by omega)
    simpa [Addr.add, show n - 4 ≠ 0 from by omega] using this
  have HEQ := Lib.hid (equal_any (some ⟨b, off + (n - 4), none⟩) (some ⟨W.heap.size, 0, none⟩) (n - (n - 4)) 4 (c - (n - 4)) 4 w.heap.size (W.heap.size + 1) (bs.drop (n - 4)) [s0, s1, s2, s3] (W.alloc (.cells #[.int .u8 (s0.toNat : Int), .int .u8 (s1.toNat : Int), .int .u8 (s2.toNat : Int), .int .u8 (s3.toNat : Int)] 5))
    (hlast.alloc hK.2.2.size _) (Reads.built W 5 ([s0, s1, s2, s3].map bv)))
  have hK2 := hK.alloc (.cells #[.int .u8 (s0.toNat : Int), .int .u8 (s1.toNat : Int), .int .u8 (s2.toNat : Int), .int .u8 (s3.toNat : Int)] 5)
  by_cases hE : bs.drop (n - 4) = [s0, s1, s2, s3]
  · have he : (bs.drop (n - 4) == [s0, s1, s2, s3]) = true := by rw [hE]; exact beq_self_eq_true _
    refine HEQ.out.mono ?_
    rw [he]
    rintro e w1 ⟨rfl, rfl⟩
    clear HEQ he hlast
    generalize (W.alloc (.cells #[.int .u8 (s0.toNat : Int), .int .u8 (s1.toNat : Int), .int .u8 (s2.toNat : Int), .int .u8 (s3.toNat : Int)] 5)) = W2 at hK2 ⊢
    go_wp2_with fail
    have hlt := hK2.1.lt
    have hne : w.heap.size ≠ W2.heap.size := by omega
    obtain ⟨l, HLl⟩ : ∃ l, Hid (l = midB bs) := ⟨_, rfl⟩
    have hll : l.length = n - 4 - 4 := by rw [HLl.out]; simp [midB, HLE.out]
    have hmid : RdB W2 w.heap.size (some ⟨b, off + 4, none⟩) l.length l := by
      have h2 := (hK2.2.1.first (k := n - 4) (by omega)).last (k := 4) (by omega)
      rw [hll, HLl.out]
      unfold midB
      rw [HLE.out]
      simpa [Addr.add] using h2
    have hR : RdKept w 39 w.heap.size W2.heap.size #[.int .i64 0, .int .u64 0, .int .u64 0, .int .u64 0, .slice none 0 0] (some ⟨b, off, none⟩) n bs l false 151 (W2.alloc (.cells #[.slice (some ⟨b, off + 4, none⟩) (n - 4 - 4) (c - 4), .bool false] 151)) :=
      ⟨⟨hK2.2.2.size, by omega, some ⟨b, off + 4, none⟩, c - 4, by rw [hll]; exact Blk.new' W2 151 _ _ rfl, hmid.alloc hK2.2.2.size _, by omega⟩, hK2.alloc _⟩
    clear hmid hK hK2
    have hu3 : unp bs = if (parse l).2 = true ∨ mayB (parse l).1.kind (parse l).1.body.length = false then (172, Pk.zero) else (0, (parse l).1) := by
      have e1 : bs.drop (bs.length - 4) = le4 (crc (bs.take (bs.length - 4))) := by rw [HLE.out, hE, HL4.out, HS.out]
      rw [HU.out, if_neg (fun q => q e1), HLl.out]
    have HU3 := Lib.hid hu3
    clear hu3 hE
    obtain ⟨kk, HKK⟩ : ∃ k, Hid (k = byteV l) := ⟨_, rfl⟩
    have hkk : kk < 256 := by rw [HKK.out]; exact byteV_lt l
    have HB := Lib.hid (byte_kept hR hne)
    refine HB.out.mono ?_
    rw [← HKK.out]
    rintro e w1 ⟨rfl, hR1⟩
    clear HB
    go_wp2_with fail
    obtain ⟨c1, HC1⟩ : ∃ c1, Hid (c1 = cnt l.tail (false || l.isEmpty)) := ⟨_, rfl⟩
    have HB := Lib.hid (cnt_kept hR1 hne)
    rw [← HC1.out] at HB
    refine HB.out.mono ?_
    rintro e w2 ⟨rfl, hR2⟩
    clear HB
    go_wp2_with fail
    obtain ⟨c2, HC2⟩ : ∃ c2, Hid (c2 = cnt c1.2.1 c1.2.2) := ⟨_, rfl⟩
    have HB := Lib.hid (cnt_kept hR2 hne)
    rw [← HC2.out] at HB
    refine HB.out.mono ?_
    rintro e w3 ⟨rfl, hR3⟩
    clear HB
    go_wp2_with fail
    obtain ⟨c3, HC3⟩ : ∃ c3, Hid (c3 = cnt c2.2.1 c2.2.2) := ⟨_, rfl⟩
    have HB := Lib.hid (cnt_kept hR3 hne)
    rw [← HC3.out] at HB
    refine HB.out.mono ?_
    rintro e w4 ⟨rfl, hR4⟩
    clear HB
    have hpar : parse l = (⟨kk, c1.1, c2.1, c3.1, c3.2.1⟩, c3.2.2) := by
      rw [HKK.out, HC3.out, HC2.out, HC1.out]
      rfl
    have HP := Lib.hid hpar
    have hl3 : c3.2.1.length ≤ l.length := by
      rw [HC3.out]
      refine Nat.le_trans (cnt_len _ _) ?_
      rw [HC2.out]
      refine Nat.le_trans (cnt_len _ _) ?_
      rw [HC1.out]
      exact Nat.le_trans (cnt_len _ _) (by simp)
    clear hpar HC1 HC2 HC3 HKK
    obtain ⟨⟨hr1, hr2, A5, c5, hb5, hr5, hc5⟩, hk5⟩ := hR4
    clear hR hR1 hR2 hR3
    obtain ⟨tk, c12, c13⟩ := c1
    obtain ⟨sq, c22, c23⟩ := c2
    obtain ⟨c31, c32, c33⟩ := c3
    dsimp only at hb5 hr5 hc5 HP hr2 hl3 ⊢
    go_upto_region 9 with fail
    have hbp : Blk (w4.alloc (.cells #[.int .i64 kk, .int .u64 tk, .int .u64 sq, .int .u64 c31, .slice none 0 0] 39)) w4.heap.size 39 #[.int .i64 kk, .int .u64 tk, .int .u64 sq, .int .u64 c31, .slice none 0 0] := Blk.new _ _ _
    have hbr := hb5.alloc (.cells #[.int .i64 kk, .int .u64 tk, .int .u64 sq, .int .u64 c31, .slice none 0 0] 39)
    have hrr := hr5.alloc hk5.2.2.size (.cells #[.int .i64 kk, .int .u64 tk, .int .u64 sq, .int .u64 c31, .slice none 0 0] 39)
    have hkk5 := hk5.alloc (.cells #[.int .i64 kk, .int .u64 tk, .int .u64 sq, .int .u64 c31, .slice none 0 0] 39)
    have ltp := hbp.lt
    have ltr := hb5.lt
    have ltg := hk5.1.lt
    have nrp : W2.heap.size ≠ w4.heap.size := by omega
    have ngp : w.heap.size ≠ w4.heap.size := by omega
    generalize (w4.alloc (.cells #[.int .i64 kk, .int .u64 tk, .int .u64 sq, .int .u64 c31, .slice none 0 0] 39)) = W5 at hbp hbr hrr hkk5 ltp ⊢
    have q0 : ∀ o, (W5.alloc o).cell? ⟨W2.heap.size, 0, none⟩ = some (.slice A5 c32.length c5) := fun o => by
      have := (hbr.alloc o).cell 0
      simpa using this
    have hl32 : c32.length < 65536 := by omega
    go_upto_region 10 with (at_builtin; refine wpList_app rfl (.tmp 73) (.tmp 77) 37 rfl w.heap.size 5 info5 Try.underlying37 (.slice (some ⟨W5.heap.size, 0, none⟩) 0 0) [] rfl (OwnB.built' 5 W5 w.heap.size W5.heap.size #[] [] hkk5.2.2.size rfl (by simp) rfl) w.heap.size A5 c32.length c5 c32 rfl (hrr.alloc hkk5.2.2.size _) (by simp; omega) (by have := hkk5.2.2.size; simp; omega) ?_; intro v6 w6 hown6 happ6; obtain ⟨A6, c6, rfl, hc6⟩ := hown6.form; clear hc6; have hbp6 := happ6.blk (hbp.alloc _) (by simp [Value.ownBlock]; omega); have hbr6 := happ6.blk (hbr.alloc _) (by simp [Value.ownBlock]; omega); have hk6 := (hkk5.alloc _).app (OwnB.built' 5 W5 w.heap.size W5.heap.size #[] [] hkk5.2.2.size rfl (by simp) rfl) (by decide) happ6; have z4 := hbp6.cell 4; have fz4 := hbp6.frozen 4; simp at z4)
    have hbp7 : Blk (w6.setCell ⟨w4.heap.size, 4, none⟩ (.slice A6 c32.length c6)) w4.heap.size 39 #[.int .i64 kk, .int .u64 tk, .int .u64 sq, .int .u64 c31, .slice A6 c32.length c6] := by
      have := hbp6.set_ 4 (.slice A6 c32.length c6)
      simpa using this
    have hbr7 : Blk (w6.setCell ⟨w4.heap.size, 4, none⟩ (.slice A6 c32.length c6)) W2.heap.size 151 #[.slice A5 c32.length c5, .bool c33] := hbr6.far (p := ⟨w4.heap.size, 4, none⟩) nrp _
    have hk7 : Kept w 39 w.heap.size #[.int .i64 0, .int .u64 0, .int .u64 0, .int .u64 0, .slice none 0 0] (some ⟨b, off, none⟩) n bs (w6.setCell ⟨w4.heap.size, 4, none⟩ (.slice A6 c32.length c6)) :=
      ⟨hk6.1.far (p := ⟨w4.heap.size, 4, none⟩) ngp _, hk6.2.1.setCell (p := ⟨w4.heap.size, 4, none⟩) (by show w.heap.size ≤ w4.heap.size; omega) _, hk6.2.2.setCell (p := ⟨w4.heap.size, 4, none⟩) (by show w.heap.size ≤ w4.heap.size; omega) _⟩
    have hown7 : OwnB 5 (w6.setCell ⟨w4.heap.size, 4, none⟩ (.slice A6 c32.length c6)) w.heap.size (.slice A6 c32.length c6) c32 := by
      have h1 := World.ownsRow.kept hown6 (only_setCell (p := ⟨w4.heap.size, 4, none⟩) (World.grownBy.refl w6 (some w4.heap.size)) (.inl rfl) (.slice A6 c32.length c6)) (.inr (own_blk_ne hown6 hbp6 (by decide)))
      simpa using h1
    generalize (w6.setCell ⟨w4.heap.size, 4, none⟩ (.slice A6 c32.length c6)) = W7 at hbp7 hbr7 hk7 hown7 ⊢
    clear hbp6 hbr6 hk6 z4 fz4 hown6 happ6 hbp hbr hrr hkk5 q0 hb5 hr5 hk5
    have p0 := hbp7.cell 0
    have p1 := hbp7.cell 1
    have p2 := hbp7.cell 2
    have p3 := hbp7.cell 3
    have p4 := hbp7.cell 4
    have y1 := hbr7.cell 1
    have z0 := hk7.1.cell 0
    have z1 := hk7.1.cell 1
    have z2 := hk7.1.cell 2
    have z3 := hk7.1.cell 3
    have z4 := hk7.1.cell 4
    simp at p0 p1 p2 p3 p4 y1 z0 z1 z2 z3 z4
    have f0 := hk7.1.frozen 0
    have f1 := hk7.1.frozen 1
    have f2 := hk7.1.frozen 2
    have f3 := hk7.1.frozen 3
    have f4 := hk7.1.frozen 4
    have hbw := hk7.2.2
    have lg := hk7.1.lt
    have lp := hbp7.lt
    have HOW := Lib.hid hown7
    clear hown7
    cases c33 with
    | true =>
      have hu4 : unp bs = (172, Pk.zero) := by rw [HU3.out, HP.out, if_pos (.inl rfl)]
      go_wp2_with fail
      refine bodyPost_ret (v := .tuple #[.agg #[.int .i64 0, .int .u64 0, .int .u64 0, .int .u64 0, .slice none 0 0], .int .i64 172]) (by simp [results, Try.results76, go_sem, z0, z1, z2, z3, z4]) rfl ?_
      rw [hu4]
      refine UnpPost.err 172 ?_
      refine Below.setCell (Below.setCell (Below.setCell (Below.setCell (Below.setCell hbw ?_ _) ?_ _) ?_ _) ?_ _) ?_ _ <;> exact Nat.le_refl _
    | false =>
      have HM := Lib.hid (may_any (kk : Int) (.int .u64 tk) (.int .u64 sq) (.int .u64 c31) A6 c32.length c6 W7 ⟨_, rfl⟩ ⟨_, rfl⟩ ⟨_, rfl⟩)
      cases hmB : mayB (kk : Int) c32.length with
      | false =>
        have hu4 : unp bs = (172, Pk.zero) := by rw [HU3.out, HP.out, if_pos (.inr hmB)]
        rw [hmB] at HM
        clear hmB
        go_wp2_with fail
        refine HM.out.mono ?_
        rintro e w8 ⟨rfl, rfl⟩
        clear HM p0 p1 p2 p3 p4 y1 z0 z1 z2 z3 z4 f0 f1 f2 f3 f4 hbw lg lp
        have hbp8 := hbp7.alloc (.cells #[.int .i64 kk, .int .u64 tk, .int .u64 sq, .int .u64 c31, .slice A6 c32.length c6] 39)
        have hk8 := hk7.alloc (.cells #[.int .i64 kk, .int .u64 tk, .int .u64 sq, .int .u64 c31, .slice A6 c32.length c6] 39)
        have HOW8 := Lib.hid (HOW.out.alloc (.cells #[.int .i64 kk, .int .u64 tk, .int .u64 sq, .int .u64 c31, .slice A6 c32.length c6] 39))
        generalize (W7.alloc (.cells #[.int .i64 kk, .int .u64 tk, .int .u64 sq, .int .u64 c31, .slice A6 c32.length c6] 39)) = W8 at hbp8 hk8 HOW8 ⊢
        clear hbp7 hk7 HOW hbr7
        have p0 := hbp8.cell 0
        have p1 := hbp8.cell 1
        have p2 := hbp8.cell 2
        have p3 := hbp8.cell 3
        have p4 := hbp8.cell 4
        have z0 := hk8.1.cell 0
        have z1 := hk8.1.cell 1
        have z2 := hk8.1.cell 2
        have z3 := hk8.1.cell 3
        have z4 := hk8.1.cell 4
        simp at p0 p1 p2 p3 p4 z0 z1 z2 z3 z4
        have f0 := hk8.1.frozen 0
        have f1 := hk8.1.frozen 1
        have f2 := hk8.1.frozen 2
        have f3 := hk8.1.frozen 3
        have f4 := hk8.1.frozen 4
        have hbw := hk8.2.2
        have lg := hk8.1.lt
        have lp := hbp8.lt
        go_wp2_with fail
        refine bodyPost_ret (v := .tuple #[.agg #[.int .i64 0, .int .u64 0, .int .u64 0, .int .u64 0, .slice none 0 0], .int .i64 172]) (by simp [results, Try.results76, go_sem, z0, z1, z2, z3, z4]) rfl ?_
        rw [hu4]
        refine UnpPost.err 172 ?_
        refine Below.setCell (Below.setCell (Below.setCell (Below.setCell (Below.setCell hbw ?_ _) ?_ _) ?_ _) ?_ _) ?_ _ <;> exact Nat.le_refl _
      | true =>
        have hu4 : unp bs = (0, ⟨kk, tk, sq, c31, c32⟩) := by rw [HU3.out, HP.out, if_neg (by simp [hmB])]
        rw [hmB] at HM
        clear hmB
        go_wp2_with fail
        refine HM.out.mono ?_
        rintro e w8 ⟨rfl, rfl⟩
        clear HM p0 p1 p2 p3 p4 y1 z0 z1 z2 z3 z4 f0 f1 f2 f3 f4 hbw lg lp
        have hbp8 := hbp7.alloc (.cells #[.int .i64 kk, .int .u64 tk, .int .u64 sq, .int .u64 c31, .slice A6 c32.length c6] 39)
        have hk8 := hk7.alloc (.cells #[.int .i64 kk, .int .u64 tk, .int .u64 sq, .int .u64 c31, .slice A6 c32.length c6] 39)
        have HOW8 := Lib.hid (HOW.out.alloc (.cells #[.int .i64 kk, .int .u64 tk, .int .u64 sq, .int .u64 c31, .slice A6 c32.length c6] 39))
        generalize (W7.alloc (.cells #[.int .i64 kk, .int .u64 tk, .int .u64 sq, .int .u64 c31, .slice A6 c32.length c6] 39)) = W8 at hbp8 hk8 HOW8 ⊢
        clear hbp7 hk7 HOW hbr7
        have p0 := hbp8.cell 0
        have p1 := hbp8.cell 1
        have p2 := hbp8.cell 2
        have p3 := hbp8.cell 3
        have p4 := hbp8.cell 4
        have z0 := hk8.1.cell 0
        have z1 := hk8.1.cell 1
        have z2 := hk8.1.cell 2
        have z3 := hk8.1.cell 3
        have z4 := hk8.1.cell 4
        simp at p0 p1 p2 p3 p4 z0 z1 z2 z3 z4
        have f0 := hk8.1.frozen 0
        have f1 := hk8.1.frozen 1
        have f2 := hk8.1.frozen 2
        have f3 := hk8.1.frozen 3
        have f4 := hk8.1.frozen 4
        have hbw := hk8.2.2
        have lg := hk8.1.lt
        have lp := hbp8.lt
        go_wp2_with fail
        refine bodyPost_ret (v := .tuple #[.agg #[.int .i64 kk, .int .u64 tk, .int .u64 sq, .int .u64 c31, .slice A6 c32.length c6], .int .i64 0]) (by simp [results, Try.results76, go_sem, z0, z1, z2, z3, z4]) rfl ?_
        rw [hu4]
        refine ⟨A6, c6, rfl, ?_, ?_⟩
        · exact OwnB.far (OwnB.far (OwnB.far (OwnB.far (OwnB.far HOW8.out hk8.1 (by decide) 0 _) (hk8.1.set_ 0 _) (by decide) 1 _) ((hk8.1.set_ 0 _).set_ 1 _) (by decide) 2 _) (((hk8.1.set_ 0 _).set_ 1 _).set_ 2 _) (by decide) 3 _) ((((hk8.1.set_ 0 _).set_ 1 _).set_ 2 _).set_ 3 _) (by decide) 4 _
        · refine Below.setCell (Below.setCell (Below.setCell (Below.setCell (Below.setCell hbw ?_ _) ?_ _) ?_ _) ?_ _) ?_ _ <;> exact Nat.le_refl _
  · have he : (bs.drop (n - 4) == [s0, s1, s2, s3]) = false := by rw [beq_eq_false_iff_ne]; exact hE
    have hu2 : unp bs = (171, Pk.zero) := by
      rw [HU.out, HLE.out, ← HS.out, ← HL4.out, if_pos hE]
    refine HEQ.out.mono ?_
    rw [he]
    rintro e w1 ⟨rfl, rfl⟩
    clear HEQ he hlast
    generalize (W.alloc (.cells #[.int .u8 (s0.toNat : Int), .int .u8 (s1.toNat : Int), .int .u8 (s2.toNat : Int), .int .u8 (s3.toNat : Int)] 5)) = W2 at hK2 ⊢
    have c0 := hK2.1.cell 0
    have c1 := hK2.1.cell 1
    have c2 := hK2.1.cell 2
    have c3 := hK2.1.cell 3
    have c4 := hK2.1.cell 4
    simp at c0 c1 c2 c3 c4
    have f0 := hK2.1.frozen 0
    have f1 := hK2.1.frozen 1
    have f2 := hK2.1.frozen 2
    have f3 := hK2.1.frozen 3
    have f4 := hK2.1.frozen 4
    have hbw := hK2.2.2
    go_wp2
    refine bodyPost_ret (v := .tuple #[.agg #[.int .i64 0, .int .u64 0, .int .u64 0, .int .u64 0, .slice none 0 0], .int .i64 171]) (by simp [results, Try.results76, go_sem, c0, c1, c2, c3, c4]) rfl ?_
    rw [hu2]
    refine UnpPost.err 171 ?_
    refine Below.setCell (Below.setCell (Below.setCell (Below.setCell (Below.setCell hbw ?_ _) ?_ _) ?_ _) ?_ _) ?_ _ <;> exact Nat.le_refl _

/-- Unpack, whatever the bytes -/
theorem unp_any (A : Option Addr) (n c : Nat) (bs : List UInt8) (w : World) (h : RdB w w.heap.size A n bs) (hc : n ≤ c) :
    Calls Try.prog 76 #[.slice A n c] w (UnpPost w (unp bs)) := by
  by_cases hn : n < 8
  · exact unp_short A n c bs w h hn
  · by_cases h0 : bs.getD 0 0 = 239
    · by_cases h1 : bs.getD 1 0 = 30
      · by_cases hl : n = lenOf bs + 8
        · exact unp_main A n c bs w h hc (by omega) h0 h1 hl
        · exact unp_len A n c bs w h (by omega) h0 h1 hl
      · exact unp_magic A n c bs w h (by omega) (.inr h1)
    · exact unp_magic A n c bs w h (by omega) (.inl h0)
end Go.Proofs.Ytjhkfpemcplaaaa
