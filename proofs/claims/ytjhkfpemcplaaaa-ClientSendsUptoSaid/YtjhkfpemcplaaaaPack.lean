/-
  Contracts of the two Pack functions.
-/
import Derived.Test.YtjhkfpemcplaaaaSmall
import Derived.Test.YtjhkfpemcplaaaaSum
import Derived.Deep.RegionHeld3
import Derived.Deep.DeepCutAuto
namespace Go.Proofs.Ytjhkfpemcplaaaa
open Go.RowKit

def le4 (s : Nat) : List UInt8 := [UInt8.ofNat s, UInt8.ofNat (s / 256), UInt8.ofNat (s / 65536), UInt8.ofNat (s / 16777216)]
def innerB (k : Int) (t s a : Nat) (body : List UInt8) : List UInt8 := UInt8.ofNat k.toNat :: (enc t ++ enc s ++ enc a) ++ body
def headB (m : Nat) : List UInt8 := [239, 30, UInt8.ofNat m, UInt8.ofNat (m / 256)]
def frameB (inner : List UInt8) : List UInt8 := (headB inner.length ++ inner) ++ le4 (crc (headB inner.length ++ inner))
def packB (k : Int) (t s a : Nat) (body : List UInt8) : List UInt8 := frameB (innerB k t s a body)

theorem mayB_no {k : Int} {n : Nat} (h : mayB k n = true) : 1 ≤ k ∧ k ≤ 7 ∧ n ≤ 1024 := by simpa [mayB, and_assoc] using h

set_option maxRecDepth 20000 in
set_option maxHeartbeats 4000000 in
theorem pack_bad (k : Int) (t s a : Nat) (A : Option Addr) (n c : Nat) (w : World) (hm : mayB k n = false) :
    Calls Try.prog 72 #[.agg #[.int .i64 k, .int .u64 t, .int .u64 s, .int .u64 a, .slice A n c]] w fun e w' => e = .returned (.tuple #[.slice none 0 0, .int .i64 172]) ∧ ∃ o o', (w.alloc o).alloc o' = w' := by
  have hmay := fun w => may_any k (.int .u64 t) (.int .u64 s) (.int .u64 a) A n c w ⟨_, rfl⟩ ⟨_, rfl⟩ ⟨_, rfl⟩
  rw [hm] at hmay
  have HM := Lib.hid hmay
  clear hmay hm
  go_enter Try.func72, Try.ntmps72
  go_wp2_with fail
  refine (HM.out _).mono ?_
  rintro e w1 ⟨rfl, rfl⟩
  go_wp2
  go_ret2
  exact ⟨rfl, _, _, rfl⟩

/-- what a call keeps while it appends: its box, the bytes that came in, all that was there -/
def Kept (w : World) (T g : Nat) (cs : Array Value) (A : Option Addr) (n : Nat) (bs : List UInt8) (w1 : World) : Prop := Blk w1 g T cs ∧ RdB w1 w.heap.size A n bs ∧ Below w.heap.size w w1
section
variable {w w1 w2 : World} {T g n : Nat} {cs : Array Value} {A : Option Addr} {bs xs : List UInt8} {v v1 : Value}
theorem Kept.app (h : Kept w T g cs A n bs w1) (ho : OwnB 5 w1 w.heap.size v xs) (hT : 5 ≠ T) (ha : App w1 v w2 v1) : Kept w T g cs A n bs w2 := by
  obtain ⟨hb, hr, hbw⟩ := h
  have hlt := ho.lt
  exact ⟨ha.blk hb (own_blk_ne ho hb hT), ha.reads hr hbw.size (fun k hk => (hlt k hk).1), hbw.trans (ha.below hbw.size (fun k hk => (hlt k hk).1))⟩
theorem Kept.alloc (h : Kept w T g cs A n bs w1) (o : Obj) : Kept w T g cs A n bs (w1.alloc o) := ⟨h.1.alloc o, h.2.1.alloc h.2.2.size o, h.2.2.alloc h.2.2.size o⟩
theorem Kept.drew (h : Kept w T g cs A n bs w1) : Kept w T g cs A n bs w1.drew := ⟨h.1, h.2.1, h.2.2.drew⟩
end
/-- appended, and kept -/
def KPost (w : World) (T g : Nat) (cs : Array Value) (A : Option Addr) (n : Nat) (bs ys : List UInt8) (e : Ending) (w1 : World) : Prop := ∃ v, e = .returned v ∧ OwnB 5 w1 w.heap.size v ys ∧ Kept w T g cs A n bs w1
theorem counts_kept {w W : World} {T g n : Nat} {cs : Array Value} {A : Option Addr} {bs : List UInt8} (v : Value) (xs : List UInt8) (lb m c : Nat) (ns : List Nat) (h : Kept w T g cs A n bs W) (hT : 5 ≠ T) (hv : OwnB 5 W w.heap.size v xs)
    (hl : Blk W lb 22 (ns.map uv).toArray) (hm : m = ns.length) (hn : ∀ n ∈ ns, n < 18446744073709551616) (hns : ns.length ≤ 1000) (hsz : xs.length ≤ 1099511627776) :
    Calls Try.prog 73 #[v, .slice (some ⟨lb, 0, none⟩) m c] W (KPost w T g cs A n bs (xs ++ encs ns)) :=
  (counts_any w.heap.size v xs lb m c ns W hv h.2.2.size hl hm hn hns hsz).mono fun _ _ ⟨v1, he, ho, ha⟩ => ⟨v1, he, ho, h.app hv hT ha⟩

set_option maxRecDepth 20000 in
set_option maxHeartbeats 4000000 in
theorem pack_ok (k : Int) (t s a : Nat) (A : Option Addr) (n c : Nat) (bs : List UInt8) (w : World) (hr : RdB w w.heap.size A n bs) (hm : mayB k n = true)
    (ht : t < 18446744073709551616) (hs : s < 18446744073709551616) (ha : a < 18446744073709551616) :
    Calls Try.prog 72 #[.agg #[.int .i64 k, .int .u64 t, .int .u64 s, .int .u64 a, .slice A n c]] w fun e w' => ∃ v, e = .returned (.tuple #[v, .int .i64 0]) ∧ OwnB 5 w' w.heap.size v (packB k t s a bs) ∧ Below w.heap.size w w' := by
  obtain ⟨k1, k7, hn⟩ := mayB_no hm
  have hmay := fun w => may_any k (.int .u64 t) (.int .u64 s) (.int .u64 a) A n c w ⟨_, rfl⟩ ⟨_, rfl⟩ ⟨_, rfl⟩
  rw [hm] at hmay
  have HM := Lib.hid hmay
  clear hmay hm
  go_enter Try.func72, Try.ntmps72
  go_wp2_with fail
  refine (HM.out _).mono ?_
  rintro e w1 ⟨rfl, rfl⟩
  go_wp2
  have hK : Kept w 39 w.heap.size #[.int .i64 k, .int .u64 t, .int .u64 s, .int .u64 a, .slice A n c] A n bs ((w.alloc (.cells #[.int .i64 k, .int .u64 t, .int .u64 s, .int .u64 a, .slice A n c] 39)).alloc (.cells #[.int .i64 k, .int .u64 t, .int .u64 s, .int .u64 a, .slice A n c] 39)) :=
    ⟨(Blk.new w _ _).alloc _, (hr.alloc (Nat.le_refl _) _).alloc (by simp) _, ((Below.refl _ _).alloc (Nat.le_refl _) _).alloc (by simp) _⟩
  generalize ((w.alloc (.cells #[.int .i64 k, .int .u64 t, .int .u64 s, .int .u64 a, .slice A n c] 39)).alloc (.cells #[.int .i64 k, .int .u64 t, .int .u64 s, .int .u64 a, .slice A n c] 39)) = W at hK ⊢
  clear HM
  have HS : Hid (∀ w' : World, Kept w 39 w.heap.size #[.int .i64 k, .int .u64 t, .int .u64 s, .int .u64 a, .slice A n c] A n bs w' → w'.cell? ⟨w.heap.size, 0, none⟩ = some (.int .i64 k) ∧ w'.cell? ⟨w.heap.size, 1, none⟩ = some (.int .u64 t) ∧ w'.cell? ⟨w.heap.size, 2, none⟩ = some (.int .u64 s) ∧ w'.cell? ⟨w.heap.size, 3, none⟩ = some (.int .u64 a) ∧ w'.cell? ⟨w.heap.size, 4, none⟩ = some (.slice A n c)) :=
    Lib.hid fun w' h => ⟨h.1.cell 0, h.1.cell 1, h.1.cell 2, h.1.cell 3, h.1.cell 4⟩
  obtain ⟨x, HX⟩ : ∃ x : UInt8, Hid (x = UInt8.ofNat k.toNat) := ⟨_, rfl⟩
  have hk8 : IntKind.u8.wrap k = (x.toNat : Int) := by
    rw [HX.out, IntKind.wrap_u8]
    simp only [UInt8.toNat_ofNat']
    omega
  have H3 : Hid (∀ y ∈ [t, s, a], y < 18446744073709551616) := Lib.hid (by simp; omega)
  have hS0 := HS.out W hK
  clear ht hs ha hr
  have HC := Lib.hid (counts_kept (.slice (some ⟨W.heap.size, 0, none⟩) 1 1) [x] (W.heap.size + 1) 3 3 [t, s, a] ((hK.alloc (.cells #[.int .u8 (x.toNat : Int)] 5)).alloc (.cells #[.int .u64 t, .int .u64 s, .int .u64 a] 22)).drew (by decide)
    (((OwnB.built' 5 W w.heap.size _ #[.int .u8 (x.toNat : Int)] [x] hK.2.2.size rfl (by simp) rfl).alloc _).drew) ((Blk.new' (W.alloc (.cells #[.int .u8 (x.toNat : Int)] 5)) 22 (W.heap.size + 1) #[.int .u64 t, .int .u64 s, .int .u64 a] (by simp)).drew) rfl H3.out (by simp) (by simp))
  have HC2 := Lib.hid (counts_kept (.slice (some ⟨W.heap.size + 1, 0, none⟩) 1 1) [x] W.heap.size 3 3 [t, s, a] ((hK.alloc (.cells #[.int .u64 t, .int .u64 s, .int .u64 a] 22)).alloc (.cells #[.int .u8 (x.toNat : Int)] 5)).drew (by decide)
    ((OwnB.built' 5 (W.alloc (.cells #[.int .u64 t, .int .u64 s, .int .u64 a] 22)) w.heap.size (W.heap.size + 1) #[.int .u8 (x.toNat : Int)] [x] (hK.alloc _).2.2.size (by simp) (by simp) rfl).drew) (((Blk.new' W 22 _ #[.int .u64 t, .int .u64 s, .int .u64 a] rfl).alloc (.cells #[.int .u8 (x.toNat : Int)] 5)).drew) rfl H3.out (by simp) (by simp))
  have hle := encs_le [t, s, a]
  have hlb : bs.length = n := Reads.len1 hK.2.1
  have hel : ([x] ++ encs [t, s, a]).length + bs.length ≤ 1055 := by simp at hle ⊢; omega
  have HI : Hid (([x] ++ encs [t, s, a]) ++ bs = innerB k t s a bs) := Lib.hid (by rw [HX.out]; simp [innerB, encs])
  have hil : (innerB k t s a bs).length ≤ 1055 := by rw [← HI.out, List.length_append]; exact hel
  clear hle
  have HEL := Lib.hid hel
  clear hel hlb hK
  go_cut [4] (fun v wx => OwnB 5 wx w.heap.size v (innerB k t s a bs) ∧ Kept w 39 w.heap.size #[.int .i64 k, .int .u64 t, .int .u64 s, .int .u64 a, .slice A n c] A n bs wx)
  case first =>
    go_region_held3 (fun w' => w'.cell? ⟨w.heap.size, 0, none⟩ = some (.int .i64 k) ∧ w'.cell? ⟨w.heap.size, 1, none⟩ = some (.int .u64 t) ∧ w'.cell? ⟨w.heap.size, 2, none⟩ = some (.int .u64 s) ∧ w'.cell? ⟨w.heap.size, 3, none⟩ = some (.int .u64 a) ∧ w'.cell? ⟨w.heap.size, 4, none⟩ = some (.slice A n c))
      (first | go_keep | exact HS.out _ hk2 | exact HS.out _ hk1)
      (first | (refine step_app rfl (.tmp 21) (.tmp 23) 37 rfl w.heap.size 5 info5 Try.underlying37 _ ([x] ++ encs [t, s, a]) rfl hown1 _ A n c bs rfl hk1.2.1 (by have := HEL.out; omega) hk1.2.2.size ?_; intro v2 w2 hown2 happ2; have hk2 := hk1.app hown1 (by decide) happ2) | (go_at_call 73; ((with_reducible refine HC.out.mono ?_); rintro e w1 ⟨v1, rfl, hown1, hk1⟩)) | (go_at_call 73; ((with_reducible refine HC2.out.mono ?_); rintro e w1 ⟨v1, rfl, hown1, hk1⟩)))
    all_goals (go_wp2_with fail; go_meet; exact ⟨by rw [← HI.out]; exact hown2, hk2⟩)
  case rest =>
    obtain ⟨hown, hk⟩ := hcut
    clear HC HC2 hS0 HEL HS
    generalize HIN : innerB k t s a bs = inner at hown hil
    have HIN2 := Lib.hid HIN
    clear HIN
    obtain ⟨A4, c4, rfl, hc4, hc4m⟩ := hown.form
    clear hc4 hc4m
    obtain ⟨x0, HX0⟩ : ∃ x : UInt8, Hid (x = UInt8.ofNat inner.length) := ⟨_, rfl⟩
    obtain ⟨x1, HX1⟩ : ∃ x : UInt8, Hid (x = UInt8.ofNat (inner.length / 256)) := ⟨_, rfl⟩
    have e0 : (inner.length : Int) % 256 = (x0.toNat : Int) := by rw [HX0.out]; exact low8 _
    have e1 : (inner.length : Int) / 256 = (x1.toNat : Int) := by rw [HX1.out]; simp only [UInt8.toNat_ofNat']; omega
    have b1 := u8_lt x1
    obtain ⟨fr, HFR⟩ : ∃ fr : List UInt8, Hid (fr = headB inner.length ++ inner) := ⟨_, rfl⟩
    obtain ⟨S, HSS⟩ : ∃ S : Nat, Hid (S = crc fr) := ⟨_, rfl⟩
    have HH : Hid ([239, 30, x0, x1] ++ inner = fr) := Lib.hid (by rw [HFR.out, HX0.out, HX1.out]; rfl)
    have hlen2 : fr.length ≤ 1059 := by rw [HFR.out]; simp [headB]; omega
    have HLE : Hid (frameB inner = fr ++ le4 S) := Lib.hid (by rw [HSS.out, HFR.out]; rfl)
    have hcl : S < 4294967296 := by rw [HSS.out]; exact crc_lt _
    have HIL := Lib.hid hil
    clear hil
    go_wp2_with (at_builtin; refine wpList_app rfl _ _ _ rfl w.heap.size 5 info5 Try.underlying37 _ [239, 30, x0, x1] rfl (OwnB.built' 5 wc w.heap.size _ _ [239, 30, x0, x1] hk.2.2.size rfl (by simp) rfl) _ _ _ _ inner rfl ((hown.reads rfl).alloc (Nat.le_refl _) _) (by have := HIL.out; simp; omega) (by have := hk.2.2.size; simp; omega) ?_; intro v2 w2 hown2 happ2; rw [HH.out] at hown2; obtain ⟨A2, c2, rfl, hm2, hm3⟩ := hown2.form; have hk2 : Kept w 39 w.heap.size #[.int .i64 k, .int .u64 t, .int .u64 s, .int .u64 a, .slice A n c] A n bs w2 := (hk.alloc _).app (OwnB.built' 5 wc w.heap.size _ _ [239, 30, x0, x1] hk.2.2.size rfl (by simp) rfl) (by decide) happ2; clear hm2 hm3 happ2 e0 e1 hk hown)
    have HSUM := Lib.hid (sum_any A2 fr.length c2 w2.heap.size fr w2 (hown2.reads rfl) (by omega))
    refine HSUM.out.mono ?_
    rw [← HSS.out]
    rintro e w3 ⟨rfl, rfl⟩
    clear HSUM
    obtain ⟨s0, H0⟩ : ∃ x : UInt8, Hid (x = UInt8.ofNat S) := ⟨_, rfl⟩
    obtain ⟨s1, H1⟩ : ∃ x : UInt8, Hid (x = UInt8.ofNat (S / 256)) := ⟨_, rfl⟩
    obtain ⟨s2, H2⟩ : ∃ x : UInt8, Hid (x = UInt8.ofNat (S / 65536)) := ⟨_, rfl⟩
    obtain ⟨s3, H4⟩ : ∃ x : UInt8, Hid (x = UInt8.ofNat (S / 16777216)) := ⟨_, rfl⟩
    have q0 : (S : Int) % 256 = (s0.toNat : Int) := by rw [H0.out]; exact low8 _
    have q1 : (S : Int) / 256 % 256 = (s1.toNat : Int) := by rw [H1.out]; simp only [UInt8.toNat_ofNat']; omega
    have q2 : (S : Int) / 65536 % 256 = (s2.toNat : Int) := by rw [H2.out]; simp only [UInt8.toNat_ofNat']; omega
    have q3 : (S : Int) / 16777216 = (s3.toNat : Int) := by rw [H4.out]; simp only [UInt8.toNat_ofNat']; omega
    have b3 := u8_lt s3
    have HL4 : Hid ([s0, s1, s2, s3] = le4 S) := Lib.hid (by rw [H0.out, H1.out, H2.out, H4.out]; rfl)
    have hbw := hk2.2.2
    have hsz2 := hbw.size
    have HF : Hid (fr.length ≤ 1059) := Lib.hid hlen2
    clear hlen2
    go_wp2_with (at_builtin; refine wpList_app rfl _ _ _ rfl w.heap.size 5 info5 Try.underlying37 _ fr rfl (hown2.alloc _) _ _ _ _ [s0, s1, s2, s3] rfl (Reads.built w2 5 ([s0, s1, s2, s3].map bv)) (by have := HF.out; simp; omega) (by simp; omega) ?_; intro v3 w3 hown3 happ3)
    go_ret2
    refine ⟨_, rfl, ?_, (hk2.app hown2 (by decide) happ3.from).2.2⟩
    show OwnB 5 w3 w.heap.size v3 (frameB (innerB k t s a bs))
    rw [HIN2.out, HLE.out, ← HL4.out]
    exact hown3
end Go.Proofs.Ytjhkfpemcplaaaa
