/-
  Contract of the document's Pack.
-/
import Derived.Test.YtjhkfpemcplaaaaPack
namespace Go.Proofs.Ytjhkfpemcplaaaa
open Go.RowKit

/-- from nothing: what was owned stays owned -/
theorem OwnB.fresh {e : TypeId} {w w1 : World} {base : Nat} {u v1 : Value} {xs : List UInt8} (h : OwnB e w base u xs) (ha : App w (.slice none 0 0) w1 v1) : OwnB e w1 base u xs := by
  refine ha.own h ?_
  cases hu : u.ownBlock with
  | none => exact .inl rfl
  | some k => exact .inr (by simp [Value.ownBlock])
def CountPost (w : World) (g : Nat) (cs : Array Value) (A : Option Addr) (n : Nat) (bs : List UInt8) (acc : Value) (xs : List UInt8) (m : Nat) (e : Ending) (w1 : World) : Prop :=
  ∃ v, e = .returned v ∧ OwnB 5 w1 w.heap.size v (enc m) ∧ OwnB 5 w1 w.heap.size acc xs ∧ Kept w 39 g cs A n bs w1
theorem rcount_kept {w W : World} {g n : Nat} {cs : Array Value} {A : Option Addr} {bs : List UInt8} (acc : Value) (xs : List UInt8) (m : Nat) (h : Kept w 39 g cs A n bs W) (ho : OwnB 5 W w.heap.size acc xs) (hm : m < 18446744073709551616) :
    Calls Try.prog 41 #[.int .u64 m] W (CountPost w g cs A n bs acc xs m) :=
  (rcount_any w.heap.size m W h.2.2.size hm).mono fun _ _ ⟨v1, he, hv, ha⟩ => ⟨v1, he, hv, ho.fresh ha, h.app (OwnB.nil 5 W w.heap.size) (by decide) ha⟩

set_option maxRecDepth 20000 in
set_option maxHeartbeats 4000000 in
theorem rpack_ok (k : Int) (t s a : Nat) (A : Option Addr) (n c : Nat) (bs : List UInt8) (w : World) (hr : RdB w w.heap.size A n bs) (hm : mayB k n = true)
    (ht : t < 18446744073709551616) (hs : s < 18446744073709551616) (ha : a < 18446744073709551616) :
    Calls Try.prog 23 #[.agg #[.int .i64 k, .int .u64 t, .int .u64 s, .int .u64 a, .slice A n c]] w fun e w' => ∃ v, e = .returned v ∧ OwnB 5 w' w.heap.size v (packB k t s a bs) ∧ Below w.heap.size w w' := by
  obtain ⟨k1, k7, hn⟩ := mayB_no hm
  obtain ⟨x, HX⟩ : ∃ x : UInt8, Hid (x = UInt8.ofNat k.toNat) := ⟨_, rfl⟩
  have hk8 : IntKind.u8.wrap k = (x.toNat : Int) := by
    rw [HX.out, IntKind.wrap_u8]
    simp only [UInt8.toNat_ofNat']
    omega
  have HT := Lib.hid ht
  have HSQ := Lib.hid hs
  have HAK := Lib.hid ha
  have hK : Kept w 39 w.heap.size #[.int .i64 k, .int .u64 t, .int .u64 s, .int .u64 a, .slice A n c] A n bs ((w.alloc (.cells #[.int .i64 k, .int .u64 t, .int .u64 s, .int .u64 a, .slice A n c] 39)).alloc (.cells #[.int .u8 (x.toNat : Int)] 5)) :=
    ⟨(Blk.new w _ _).alloc _, (hr.alloc (Nat.le_refl _) _).alloc (by simp) _, ((Below.refl _ _).alloc (Nat.le_refl _) _).alloc (by simp) _⟩
  have hO : OwnB 5 ((w.alloc (.cells #[.int .i64 k, .int .u64 t, .int .u64 s, .int .u64 a, .slice A n c] 39)).alloc (.cells #[.int .u8 (x.toNat : Int)] 5)) w.heap.size (.slice (some ⟨w.heap.size + 1, 0, none⟩) 1 1) [x] :=
    OwnB.built' 5 (w.alloc (.cells #[.int .i64 k, .int .u64 t, .int .u64 s, .int .u64 a, .slice A n c] 39)) w.heap.size (w.heap.size + 1) #[.int .u8 (x.toNat : Int)] [x] (by simp) (by simp) (by simp) rfl
  have HK := Lib.hid hK
  have HO := Lib.hid hO
  clear ht hs ha hr hm hK hO
  go_enter Try.func23, Try.ntmps23
  go_wp2
  have hK := HK.out
  have hO := HO.out
  clear HK HO
  generalize ((w.alloc (.cells #[.int .i64 k, .int .u64 t, .int .u64 s, .int .u64 a, .slice A n c] 39)).alloc (.cells #[.int .u8 (x.toNat : Int)] 5)) = W at hK hO ⊢
  have HS : Hid (∀ w' : World, Kept w 39 w.heap.size #[.int .i64 k, .int .u64 t, .int .u64 s, .int .u64 a, .slice A n c] A n bs w' → w'.cell? ⟨w.heap.size, 0, none⟩ = some (.int .i64 k) ∧ w'.cell? ⟨w.heap.size, 1, none⟩ = some (.int .u64 t) ∧ w'.cell? ⟨w.heap.size, 2, none⟩ = some (.int .u64 s) ∧ w'.cell? ⟨w.heap.size, 3, none⟩ = some (.int .u64 a) ∧ w'.cell? ⟨w.heap.size, 4, none⟩ = some (.slice A n c)) :=
    Lib.hid fun w' h => ⟨h.1.cell 0, h.1.cell 1, h.1.cell 2, h.1.cell 3, h.1.cell 4⟩
  have hS0 := HS.out W hK
  have l1 := enc_le t
  have l2 := enc_le s
  have l3 := enc_le a
  go_cut [3] (fun v wx => OwnB 5 wx w.heap.size v ([x] ++ enc t ++ enc s ++ enc a) ∧ Kept w 39 w.heap.size #[.int .i64 k, .int .u64 t, .int .u64 s, .int .u64 a, .slice A n c] A n bs wx)
  case first =>
    go_region_held3 (fun w' => w'.cell? ⟨w.heap.size, 0, none⟩ = some (.int .i64 k) ∧ w'.cell? ⟨w.heap.size, 1, none⟩ = some (.int .u64 t) ∧ w'.cell? ⟨w.heap.size, 2, none⟩ = some (.int .u64 s) ∧ w'.cell? ⟨w.heap.size, 3, none⟩ = some (.int .u64 a) ∧ w'.cell? ⟨w.heap.size, 4, none⟩ = some (.slice A n c))
      (first | go_keep | exact HS.out _ hk6 | exact HS.out _ hk5 | exact HS.out _ hk4 | exact HS.out _ hk3 | exact HS.out _ hk2 | exact HS.out _ hk1)
      (first | (refine step_app rfl (.tmp 10) (.tmp 13) 37 rfl w.heap.size 5 info5 Try.underlying37 _ [x] rfl hacc1 _ A1 _ c1 (enc t) rfl (hown1.reads rfl) (by simp; omega) hk1.2.2.size ?_; intro v2 w2 hacc2 happ2; have hk2 := hk1.app hacc1 (by decide) happ2) | (refine step_app rfl (.tmp 14) (.tmp 17) 37 rfl w.heap.size 5 info5 Try.underlying37 _ ([x] ++ enc t) rfl hacc3 _ A3 _ c3 (enc s) rfl (hown3.reads rfl) (by simp; omega) hk3.2.2.size ?_; intro v4 w4 hacc4 happ4; have hk4 := hk3.app hacc3 (by decide) happ4) | (refine step_app rfl (.tmp 18) (.tmp 21) 37 rfl w.heap.size 5 info5 Try.underlying37 _ ([x] ++ enc t ++ enc s) rfl hacc5 _ A5 _ c5 (enc a) rfl (hown5.reads rfl) (by simp; omega) hk5.2.2.size ?_; intro v6 w6 hacc6 happ6; have hk6 := hk5.app hacc5 (by decide) happ6) | (go_at_call 41; ((with_reducible refine (rcount_kept _ ([x] ++ enc t ++ enc s) a hk4 hacc4 HAK.out).mono ?_); rintro e w5 ⟨v5, rfl, hown5, hacc5, hk5⟩; obtain ⟨A5, c5, rfl, hm5⟩ := hown5.form; clear hm5)) | (go_at_call 41; ((with_reducible refine (rcount_kept _ ([x] ++ enc t) s hk2 hacc2 HSQ.out).mono ?_); rintro e w3 ⟨v3, rfl, hown3, hacc3, hk3⟩; obtain ⟨A3, c3, rfl, hm3⟩ := hown3.form; clear hm3)) | (go_at_call 41; ((with_reducible refine (rcount_kept _ [x] t hK.drew hO.drew HT.out).mono ?_); rintro e w1 ⟨v1, rfl, hown1, hacc1, hk1⟩; obtain ⟨A1, c1, rfl, hm1⟩ := hown1.form; clear hm1)))
    all_goals (go_wp2_with fail; go_meet; exact ⟨hacc6, hk6⟩)
  case rest =>
    obtain ⟨hown0, hk0⟩ := hcut
    have hlb : bs.length = n := Reads.len1 hk0.2.1
    have hl4 : ([x] ++ enc t ++ enc s ++ enc a).length + bs.length ≤ 1055 := by simp; omega
    have HI : Hid (([x] ++ enc t ++ enc s ++ enc a) ++ bs = innerB k t s a bs) := Lib.hid (by rw [HX.out]; simp [innerB])
    have hil : (innerB k t s a bs).length ≤ 1055 := by rw [← HI.out, List.length_append]; exact hl4
    generalize HIN : innerB k t s a bs = inner at HI hil
    have HIN2 := Lib.hid HIN
    have HL4' := Lib.hid hl4
    clear HIN hlb hl4 hS0 hK hO l1 l2 l3 hk8
    obtain ⟨c0, c1, c2, c3, c4'⟩ := HS.out wc hk0
    obtain ⟨A0, k0', rfl, hm0⟩ := hown0.form
    clear hm0 HS
    go_upto_region 4 with (at_builtin; refine wpList_app rfl _ _ _ rfl w.heap.size 5 info5 Try.underlying37 _ ([x] ++ enc t ++ enc s ++ enc a) rfl hown0 _ A n c bs rfl hk0.2.1 (by have := HL4'.out; omega) hk0.2.2.size ?_; intro v8 w8 hown happ8; rw [HI.out] at hown; have hk := hk0.app hown0 (by decide) happ8; clear happ8 hown0 hk0; obtain ⟨A4, c4, rfl, hc4⟩ := hown.form; clear hc4 c0 c1 c2 c3 c4')
    obtain ⟨x0, HX0⟩ : ∃ x : UInt8, Hid (x = UInt8.ofNat inner.length) := ⟨_, rfl⟩
    obtain ⟨x1, HX1⟩ : ∃ x : UInt8, Hid (x = UInt8.ofNat (inner.length / 256)) := ⟨_, rfl⟩
    have e0 : (inner.length : Int) % 256 = (x0.toNat : Int) := by rw [HX0.out]; exact low8 _
    have e1 : (inner.length : Int) / 256 = (x1.toNat : Int) := by rw [HX1.out]; simp only [UInt8.toNat_ofNat']; omega
    have b1 := u8_lt x1
    obtain ⟨fr, HFR⟩ : ∃ fr : List UInt8, Hid (fr = headB inner.length ++ inner) := ⟨_, rfl⟩
    obtain ⟨S, HSS⟩ : ∃ S : Nat, Hid (S = crc fr) := ⟨_, rfl⟩
    have HH : Hid ([239, 30, x0, x1] ++ inner = fr) := Lib.hid (by rw [HFR.out, HX0.out, HX1.out]; rfl)
    have hlen2 : fr.length ≤ 1059 := by rw [HFR.out]; simp [headB]; omega
    have HLE : Hid (frameB inner = fr ++ le4 S) := Lib.hid (by rw [HSS.out, HFR.out]; rfl)
    have hcl : S < 4294967296 := by rw [HSS.out]; exact crc_lt _
    have HIL := Lib.hid hil
    clear hil
    go_wp2_with (at_builtin; refine wpList_app rfl _ _ _ rfl w.heap.size 5 info5 Try.underlying37 _ [239, 30, x0, x1] rfl (OwnB.built' 5 w8 w.heap.size _ _ [239, 30, x0, x1] hk.2.2.size rfl (by simp) rfl) _ _ _ _ inner rfl ((hown.reads rfl).alloc (Nat.le_refl _) _) (by have := HIL.out; simp; omega) (by have := hk.2.2.size; simp; omega) ?_; intro v2 w2 hown2 happ2; rw [HH.out] at hown2; obtain ⟨A2, c2, rfl, hm2, hm3⟩ := hown2.form; have hk2 : Kept w 39 w.heap.size #[.int .i64 k, .int .u64 t, .int .u64 s, .int .u64 a, .slice A n c] A n bs w2 := (hk.alloc _).app (OwnB.built' 5 w8 w.heap.size _ _ [239, 30, x0, x1] hk.2.2.size rfl (by simp) rfl) (by decide) happ2; clear hm2 hm3 happ2 e0 e1 hk hown)
    have HSUM := Lib.hid (rsum_any A2 fr.length c2 w2.heap.size fr w2 (hown2.reads rfl) (by omega))
    refine HSUM.out.mono ?_
    rw [← HSS.out]
    rintro e w3 ⟨rfl, rfl⟩
    clear HSUM
    obtain ⟨s0, H0⟩ : ∃ x : UInt8, Hid (x = UInt8.ofNat S) := ⟨_, rfl⟩
    obtain ⟨s1, H1⟩ : ∃ x : UInt8, Hid (x = UInt8.ofNat (S / 256)) := ⟨_, rfl⟩
    obtain ⟨s2, H2⟩ : ∃ x : UInt8, Hid (x = UInt8.ofNat (S / 65536)) := ⟨_, rfl⟩
    obtain ⟨s3, H4⟩ : ∃ x : UInt8, Hid (x = UInt8.ofNat (S / 16777216)) := ⟨_, rfl⟩
    have q0 : (S : Int) % 256 = (s0.toNat : Int) := by rw [H0.out]; exact low8 _
    have q1 : (S : Int) / 256 % 256 = (s1.toNat : Int) := by rw [H1.out]; simp only [UInt8.toNat_ofNat']; omega
    have q2 : (S : Int) / 65536 % 256 = (s2.toNat : Int) := by rw [H2.out]; simp only [UInt8.toNat_ofNat']; omega
    have q3 : (S : Int) / 16777216 = (s3.toNat : Int) := by rw [H4.out]; simp only [UInt8.toNat_ofNat']; omega
    have b3 := u8_lt s3
    have HL4 : Hid ([s0, s1, s2, s3] = le4 S) := Lib.hid (by rw [H0.out, H1.out, H2.out, H4.out]; rfl)
    have hbw := hk2.2.2
    have hsz2 := hbw.size
    have HF : Hid (fr.length ≤ 1059) := Lib.hid hlen2
    clear hlen2
    go_wp2_with (at_builtin; refine wpList_app rfl _ _ _ rfl w.heap.size 5 info5 Try.underlying37 _ fr rfl (hown2.alloc _) _ _ _ _ [s0, s1, s2, s3] rfl (Reads.built w2 5 ([s0, s1, s2, s3].map bv)) (by have := HF.out; simp; omega) (by simp; omega) ?_; intro v3 w3 hown3 happ3)
    go_ret
    refine ⟨_, rfl, ?_, (hk2.app hown2 (by decide) happ3.from).2.2⟩
    show OwnB 5 w3 w.heap.size v3 (frameB (innerB k t s a bs))
    rw [HIN2.out, HLE.out, ← HL4.out]
    exact hown3
end Go.Proofs.Ytjhkfpemcplaaaa
