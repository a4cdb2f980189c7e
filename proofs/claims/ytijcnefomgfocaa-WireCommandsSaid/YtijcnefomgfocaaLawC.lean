/-
  The walk of WireCommands: it returns true, and writes nothing that was there.
-/
import Derived.Test.YtijcnefomgfocaaPlainc
import Derived.Test.YtijcnefomgfocaaRgetc
import Derived.Test.YtijcnefomgfocaaSamec
import Derived.Test.YtijcnefomgfocaaRputc
namespace Go.Proofs.Ytijcnefomgfocaa
open Go.RowKit

set_option maxRecDepth 20000 in
set_option maxHeartbeats 4000000 in
theorem lawc_any (haw : ∀ w : World, Calls Try.prog 17 #[] w fun e w' => e = .returned (.bool true) ∧ Below w.heap.size w w') (kind : Int) (hd : Nat) (A A2 : Option Addr) (n c n2 c2 : Nat) (ns : List Int) (s : ByteArray) (raw : List UInt8) (w : World)
    (he : hd < 18446744073709551616) (hr : RdI w w.heap.size A n ns) (hu : ∀ z ∈ ns, I64 z) (hr2 : RdB w w.heap.size A2 n2 raw) (hc2 : n2 ≤ c2) (hm2 : n2 ≤ 9223372036854775807) :
    Calls Try.prog 5 #[.agg #[.int .i64 kind, .int .u64 (hd : Int), .slice A n c, .string s], .slice A2 n2 c2] w fun e w' => e = .returned (.bool true) ∧ Below w.heap.size w w' := by
  have HAW := Lib.hid haw
  have HRV := Lib.hid hr
  have HR2 := Lib.hid hr2
  have HPUT := Lib.hid fun (w : World) (hr : RdI w w.heap.size A n ns) => putc_any kind hd A n c ns s w he hr hu
  have HRPUT := Lib.hid fun (w : World) (hr : RdI w w.heap.size A n ns) => rputc_any kind hd A n c ns s w he hr hu
  have HGET := Lib.hid fun (w : World) (hr : RdB w w.heap.size A2 n2 raw) => getc_any A2 n2 c2 raw w hr hc2 hm2
  have HRGET := Lib.hid fun (w : World) (hr : RdB w w.heap.size A2 n2 raw) => rgetc_any A2 n2 c2 raw w hr hc2 hm2
  obtain ⟨P, HP⟩ : ∃ P, Hid (goodC kind hd ns s.data.toList = P) := ⟨_, rfl⟩
  obtain ⟨bytes, HBY⟩ : ∃ P, Hid (cmdB kind hd ns s.data.toList = P) := ⟨_, rfl⟩
  rw [HP.out, HBY.out] at HPUT HRPUT
  have hQ := cmd_good raw
  have htx := (txt_flag (cmdN raw).2.1 (cmdN raw).2.2)
  have hlen2 := hr2.len1
  obtain ⟨Q, HQ⟩ : ∃ P, Hid (((cmdT raw).2.2 = false ∧ (cmdT raw).2.1 = [] ∧ goodC (byteV raw) (cmdH raw).1 (cmdN raw).1 (cmdT raw).1) = P) := ⟨_, rfl⟩
  rw [HQ.out] at HGET hQ
  obtain ⟨Q2, HQ2⟩ : ∃ P, Hid (((cmdTD raw).2.2 = false ∧ (cmdTD raw).2.1 = [] ∧ n2 ≤ 1024 ∧ (1 ≤ (byteV raw : Int) ∧ (byteV raw : Int) ≤ 23) ∧ (cmdN raw).1.length ≤ 32) = P) := ⟨_, rfl⟩
  rw [HQ2.out] at HRGET
  rw [hlen2, HQ2.out] at hQ
  have hT : Q → (cmdTD raw).1 = (cmdT raw).1 := fun h => by
    have h2 := hQ.1 h
    rw [← HQ2.out] at h2
    exact congrArg (·.1) (htx.2 h2.1).symm
  obtain ⟨kdd, HED⟩ : ∃ P, Hid ((byteV raw : Int) = P) := ⟨_, rfl⟩
  obtain ⟨hdd, HHD⟩ : ∃ P, Hid ((cmdH raw).1 = P) := ⟨_, rfl⟩
  obtain ⟨vsd, HVD⟩ : ∃ P, Hid ((cmdN raw).1 = P) := ⟨_, rfl⟩
  obtain ⟨td, HTD⟩ : ∃ P, Hid ((cmdT raw).1 = P) := ⟨_, rfl⟩
  obtain ⟨td2, HTD2⟩ : ∃ P, Hid ((cmdTD raw).1 = P) := ⟨_, rfl⟩
  rw [HED.out, HHD.out, HVD.out] at HGET HRGET
  rw [HTD.out] at HGET hT
  rw [HTD2.out] at HRGET hT
  have hvl : vsd.length ≤ 9223372036854775807 := by
    rw [← HVD.out]
    have := intsD_len (byteV (cmdH raw).2.1) (cmdH raw).2.1.tail ((cmdH raw).2.2 || (cmdH raw).2.1.isEmpty)
    have h2 := byteV_lt (cmdH raw).2.1
    unfold cmdN
    omega
  have HVL := Lib.hid hvl
  clear HED HHD HVD HTD HTD2 HQ HQ2 hr hr2 haw he hu hc2 hm2 hlen2 htx hvl
  by_cases hq : Q
  · have hq2 := hQ.1 hq
    have hte := hT hq
    subst hte
    have HGET2 : Hid (∀ (w : World), RdB w w.heap.size A2 n2 raw → Calls Try.prog 26 #[.slice A2 n2 c2] w fun e w' => Below w.heap.size w w' ∧ ∃ A n c, e = .returned (.tuple #[.agg #[.int .i64 kdd, .int .u64 (hdd : Int), .slice A n c, .string ⟨td2.toArray⟩], .int .i64 0]) ∧ RdI w' w'.heap.size A n vsd) :=
      Lib.hid fun w hr => (HGET.out w hr).mono fun e w' ⟨hb, h⟩ => ⟨hb, by rcases h with ⟨_, h⟩ | ⟨h, _⟩ <;> first | exact h | exact absurd hq h⟩
    have HRGET2 : Hid (∀ (w : World), RdB w w.heap.size A2 n2 raw → Calls Try.prog 27 #[.slice A2 n2 c2] w fun e w' => Below w.heap.size w w' ∧ ∃ A n c, e = .returned (.tuple #[.agg #[.int .i64 kdd, .int .u64 (hdd : Int), .slice A n c, .string ⟨td2.toArray⟩], .bool true]) ∧ RdI w' w'.heap.size A n vsd) :=
      Lib.hid fun w hr => (HRGET.out w hr).mono fun e w' ⟨hb, h⟩ => ⟨hb, by rcases h with ⟨_, h⟩ | ⟨h, _⟩ <;> first | exact h | exact absurd hq2 h⟩
    clear HGET HRGET hQ hT hq hq2
    generalize (⟨td2.toArray⟩ : ByteArray) = sd at HGET2 HRGET2
    clear td2
    go_enter Try.func5, Try.ntmps5
    have hk := Blk.new w 56 #[.int .i64 kind, .int .u64 (hd : Int), .slice A n c, .string s]
    have hb := (Below.refl w.heap.size w).alloc (Nat.le_refl _) (.cells #[.int .i64 kind, .int .u64 (hd : Int), .slice A n c, .string s] 56)
    go_upto_region 1 with fail
    generalize (w.alloc (.cells #[.int .i64 kind, .int .u64 (hd : Int), .slice A n c, .string s] 56)) = W at hk hb ⊢
    have p0 := hk.cell 0
    have p1 := hk.cell 1
    have p2 := hk.cell 2
    have p3 := hk.cell 3
    simp at p0 p1 p2 p3
    have H1 := Lib.hid (HPUT.out W ((HRV.out.below hb).more hb.size))
    go_wp2_with fail
    refine H1.out.mono ?_
    intro e w1 hpost
    obtain ⟨A5, n5, c5, e6, b5, rfl, hr5, hb1, HC⟩ := hpost.form
    have hk1 := hk.below hb1 hk.lt
    have hbw1 := hb.trans (hb1.mono hb.size)
    clear H1 hpost hk hb hb1 p0 p1 p2 p3 HPUT
    have H2 := Lib.hid (HGET2.out w1 ((HR2.out.below hbw1).more hbw1.size))
    go_wp2_with fail
    refine H2.out.mono ?_
    rintro e w2 ⟨hb2, Ad, nd, cd, rfl, hrd⟩
    have hk2 := hk1.below hb2 hk1.lt
    have hbw2 := hbw1.trans (hb2.mono hbw1.size)
    have hr52 := (hr5.below hb2).more hb2.size
    clear H2 hk1 hbw1 hr5 hb2 HGET2
    go_upto_region 3 with fail
    have hd3 := Blk.new w2 56 #[.int .i64 kdd, .int .u64 (hdd : Int), .slice Ad nd cd, .string sd]
    have hk3 := hk2.alloc (.cells #[.int .i64 kdd, .int .u64 (hdd : Int), .slice Ad nd cd, .string sd] 56)
    have hbw3 := hbw2.alloc hbw2.size (.cells #[.int .i64 kdd, .int .u64 (hdd : Int), .slice Ad nd cd, .string sd] 56)
    have hr53 := (hr52.alloc (Nat.le_refl _) (.cells #[.int .i64 kdd, .int .u64 (hdd : Int), .slice Ad nd cd, .string sd] 56)).more (B' := (w2.alloc (.cells #[.int .i64 kdd, .int .u64 (hdd : Int), .slice Ad nd cd, .string sd] 56)).heap.size) (by simp)
    have hrd3 := (hrd.alloc (Nat.le_refl _) (.cells #[.int .i64 kdd, .int .u64 (hdd : Int), .slice Ad nd cd, .string sd] 56)).more (B' := (w2.alloc (.cells #[.int .i64 kdd, .int .u64 (hdd : Int), .slice Ad nd cd, .string sd] 56)).heap.size) (by simp)
    generalize (w2.alloc (.cells #[.int .i64 kdd, .int .u64 (hdd : Int), .slice Ad nd cd, .string sd] 56)) = W3 at hd3 hk3 hbw3 hr53 hrd3 ⊢
    generalize w2.heap.size = gd at hd3 ⊢
    clear hk2 hbw2 hr52 hrd w2
    have H3 := Lib.hid (HRGET2.out W3 ((HR2.out.below hbw3).more hbw3.size))
    go_wp2_with fail
    refine H3.out.mono ?_
    rintro e w4 ⟨hb4, Aw, nw, cw, rfl, hrw⟩
    have hk4 := hk3.below hb4 hk3.lt
    have hd4 := hd3.below hb4 hd3.lt
    have hbw4 := hbw3.trans (hb4.mono hbw3.size)
    have hr54 := (hr53.below hb4).more hb4.size
    have hrd4 := (hrd3.below hb4).more hb4.size
    clear H3 hk3 hd3 hbw3 hr53 hrd3 hb4 HRGET2
    go_upto_region 4 with fail
    have hw5 := Blk.new w4 56 #[.int .i64 kdd, .int .u64 (hdd : Int), .slice Aw nw cw, .string sd]
    have hk5 := hk4.alloc (.cells #[.int .i64 kdd, .int .u64 (hdd : Int), .slice Aw nw cw, .string sd] 56)
    have hd5 := hd4.alloc (.cells #[.int .i64 kdd, .int .u64 (hdd : Int), .slice Aw nw cw, .string sd] 56)
    have hbw5 := hbw4.alloc hbw4.size (.cells #[.int .i64 kdd, .int .u64 (hdd : Int), .slice Aw nw cw, .string sd] 56)
    have hr55 := (hr54.alloc (Nat.le_refl _) (.cells #[.int .i64 kdd, .int .u64 (hdd : Int), .slice Aw nw cw, .string sd] 56)).more (B' := (w4.alloc (.cells #[.int .i64 kdd, .int .u64 (hdd : Int), .slice Aw nw cw, .string sd] 56)).heap.size) (by simp)
    have hrd5 := (hrd4.alloc (Nat.le_refl _) (.cells #[.int .i64 kdd, .int .u64 (hdd : Int), .slice Aw nw cw, .string sd] 56)).more (B' := (w4.alloc (.cells #[.int .i64 kdd, .int .u64 (hdd : Int), .slice Aw nw cw, .string sd] 56)).heap.size) (by simp)
    have hrw5 := (hrw.alloc (Nat.le_refl _) (.cells #[.int .i64 kdd, .int .u64 (hdd : Int), .slice Aw nw cw, .string sd] 56)).more (B' := (w4.alloc (.cells #[.int .i64 kdd, .int .u64 (hdd : Int), .slice Aw nw cw, .string sd] 56)).heap.size) (by simp)
    generalize (w4.alloc (.cells #[.int .i64 kdd, .int .u64 (hdd : Int), .slice Aw nw cw, .string sd] 56)) = W5 at hw5 hk5 hd5 hbw5 hr55 hrd5 hrw5 ⊢
    generalize w4.heap.size = gw at hw5 ⊢
    clear hk4 hd4 hbw4 hr54 hrd4 hrw w4
    have q0 := hd5.cell 0
    have q1 := hd5.cell 1
    have q2 := hd5.cell 2
    have q3 := hd5.cell 3
    have r0 := hw5.cell 0
    have r1 := hw5.cell 1
    have r2 := hw5.cell 2
    have r3 := hw5.cell 3
    simp at q0 q1 q2 q3 r0 r1 r2 r3
    have en1 := RdI.len hrd5
    have en2 := RdI.len hrw5
    have hmd : nd ≤ 9223372036854775807 := by rw [← en1]; exact HVL.out
    obtain rfl : nw = nd := by rw [← en1, ← en2]
    have H4 := Lib.hid (samec_any kdd hdd Ad Aw nw cd cw sd vsd W5 hrd5 hrw5 hmd)
    clear en1 en2 hmd
    go_wp2_with fail
    refine H4.out.mono ?_
    rintro e w6 ⟨rfl, hb6⟩
    have hk6 := hk5.below hb6 hk5.lt
    have hbw6 := hbw5.trans (hb6.mono hbw5.size)
    have hr56 := (hr55.below hb6).more hb6.size
    clear H4 hk5 hd5 hw5 hbw5 hr55 hrd5 hrw5 hb6 q0 q1 q2 q3 r0 r1 r2 r3
    have H5 := Lib.hid (HAW.out w6)
    go_wp2_with fail
    refine H5.out.mono ?_
    rintro e w7 ⟨rfl, hb7⟩
    have hk7 := hk6.below hb7 hk6.lt
    have hbw7 := hbw6.trans (hb7.mono hbw6.size)
    have hr57 := (hr56.below hb7).more hb7.size
    clear H5 hk6 hbw6 hr56 hb7
    have p0 := hk7.cell 0
    have p1 := hk7.cell 1
    have p2 := hk7.cell 2
    have p3 := hk7.cell 3
    simp at p0 p1 p2 p3
    have H6 := Lib.hid (HRPUT.out w7 ((HRV.out.below hbw7).more hbw7.size))
    go_wp2_with fail
    refine H6.out.mono ?_
    rintro e w8 ⟨hb8, hpost⟩
    have hbw8 := hbw7.trans (hb8.mono hbw7.size)
    have hr58 := hr57.below hb8
    have HB8 := Lib.hid hbw8
    clear H6 hk7 hbw7 hr57 hb8 p0 p1 p2 p3 HRPUT hbw8
    rcases hpost with ⟨hp, v8, rfl, hown8⟩ | ⟨hp, A8, n8, c8, rfl⟩
    · obtain ⟨rfl, rfl⟩ : e6 = 0 ∧ b5 = bytes := by
        rcases HC.out with ⟨_, h⟩ | ⟨h, _⟩
        · exact h
        · exact absurd hp h
      obtain ⟨A8, c8, rfl, -⟩ := OwnB.form hown8
      have cv1 := run_string_of (P := Try.prog) (c := c5) w8 24 9 5 hr58 Try.underlying24 Try.underlying5 Try.underlying9
      have cv2 := run_string_of (P := Try.prog) (c := c8) w8 24 9 5 (OwnB.reads hown8 rfl) Try.underlying24 Try.underlying5 Try.underlying9
      clear hr58 hown8 HC
      go_wp2_with fail
      go_ret
      exact ⟨ret_bool (by simp), HB8.out⟩
    · obtain ⟨rfl, rfl⟩ : e6 = 173 ∧ n5 = 0 := by
        rcases HC.out with ⟨h, _⟩ | ⟨_, h⟩
        · exact absurd h hp
        · exact h
      clear hr58 HC
      go_wp2_with fail
      go_ret
      exact ⟨rfl, HB8.out⟩
  · have hq2 : ¬ Q2 := fun h => hq (hQ.2 h)
    obtain ⟨kdd, HE0⟩ : ∃ z : Int, Hid ((0 : Int) = z) := ⟨_, rfl⟩
    obtain ⟨hdd, HE1⟩ : ∃ z : Nat, Hid ((0 : Int) = (z : Int)) := ⟨0, rfl⟩
    have HGET2 : Hid (∀ (w : World), RdB w w.heap.size A2 n2 raw → Calls Try.prog 26 #[.slice A2 n2 c2] w fun e w' => Below w.heap.size w w' ∧ ∃ A n c, e = .returned (.tuple #[.agg #[.int .i64 kdd, .int .u64 (hdd : Int), .slice A n c, .string ByteArray.empty], .int .i64 173]) ∧ RdI w' w'.heap.size A n []) :=
      Lib.hid fun w hr => (HGET.out w hr).mono fun e w' ⟨hb, h⟩ => ⟨hb, by rcases h with ⟨h, _⟩ | ⟨_, h⟩ <;> first | exact absurd h hq | (rw [← HE0.out, ← HE1.out]; exact ⟨_, _, _, h, Reads.none_⟩)⟩
    have HRGET2 : Hid (∀ (w : World), RdB w w.heap.size A2 n2 raw → Calls Try.prog 27 #[.slice A2 n2 c2] w fun e w' => Below w.heap.size w w' ∧ ∃ A n c, e = .returned (.tuple #[.agg #[.int .i64 kdd, .int .u64 (hdd : Int), .slice A n c, .string ByteArray.empty], .bool false]) ∧ RdI w' w'.heap.size A n []) :=
      Lib.hid fun w hr => (HRGET.out w hr).mono fun e w' ⟨hb, h⟩ => ⟨hb, by rcases h with ⟨h, _⟩ | ⟨_, h⟩ <;> first | exact absurd h hq2 | (rw [← HE0.out, ← HE1.out]; exact ⟨_, _, _, h, Reads.none_⟩)⟩
    clear HGET HRGET hQ hT hq hq2 HVL
    have HVL : Hid (([] : List Int).length ≤ 9223372036854775807) := Lib.hid (by simp)
    clear HE0 HE1 vsd
    generalize ByteArray.empty = sd at HGET2 HRGET2
    generalize ([] : List Int) = vsd at HGET2 HRGET2 HVL
    go_enter Try.func5, Try.ntmps5
    have hk := Blk.new w 56 #[.int .i64 kind, .int .u64 (hd : Int), .slice A n c, .string s]
    have hb := (Below.refl w.heap.size w).alloc (Nat.le_refl _) (.cells #[.int .i64 kind, .int .u64 (hd : Int), .slice A n c, .string s] 56)
    go_upto_region 1 with fail
    generalize (w.alloc (.cells #[.int .i64 kind, .int .u64 (hd : Int), .slice A n c, .string s] 56)) = W at hk hb ⊢
    have p0 := hk.cell 0
    have p1 := hk.cell 1
    have p2 := hk.cell 2
    have p3 := hk.cell 3
    simp at p0 p1 p2 p3
    have H1 := Lib.hid (HPUT.out W ((HRV.out.below hb).more hb.size))
    go_wp2_with fail
    refine H1.out.mono ?_
    intro e w1 hpost
    obtain ⟨A5, n5, c5, e6, b5, rfl, hr5, hb1, HC⟩ := hpost.form
    have hk1 := hk.below hb1 hk.lt
    have hbw1 := hb.trans (hb1.mono hb.size)
    clear H1 hpost hk hb hb1 p0 p1 p2 p3 HPUT
    have H2 := Lib.hid (HGET2.out w1 ((HR2.out.below hbw1).more hbw1.size))
    go_wp2_with fail
    refine H2.out.mono ?_
    rintro e w2 ⟨hb2, Ad, nd, cd, rfl, hrd⟩
    have hk2 := hk1.below hb2 hk1.lt
    have hbw2 := hbw1.trans (hb2.mono hbw1.size)
    have hr52 := (hr5.below hb2).more hb2.size
    clear H2 hk1 hbw1 hr5 hb2 HGET2
    go_upto_region 3 with fail
    have hd3 := Blk.new w2 56 #[.int .i64 kdd, .int .u64 (hdd : Int), .slice Ad nd cd, .string sd]
    have hk3 := hk2.alloc (.cells #[.int .i64 kdd, .int .u64 (hdd : Int), .slice Ad nd cd, .string sd] 56)
    have hbw3 := hbw2.alloc hbw2.size (.cells #[.int .i64 kdd, .int .u64 (hdd : Int), .slice Ad nd cd, .string sd] 56)
    have hr53 := (hr52.alloc (Nat.le_refl _) (.cells #[.int .i64 kdd, .int .u64 (hdd : Int), .slice Ad nd cd, .string sd] 56)).more (B' := (w2.alloc (.cells #[.int .i64 kdd, .int .u64 (hdd : Int), .slice Ad nd cd, .string sd] 56)).heap.size) (by simp)
    have hrd3 := (hrd.alloc (Nat.le_refl _) (.cells #[.int .i64 kdd, .int .u64 (hdd : Int), .slice Ad nd cd, .string sd] 56)).more (B' := (w2.alloc (.cells #[.int .i64 kdd, .int .u64 (hdd : Int), .slice Ad nd cd, .string sd] 56)).heap.size) (by simp)
    generalize (w2.alloc (.cells #[.int .i64 kdd, .int .u64 (hdd : Int), .slice Ad nd cd, .string sd] 56)) = W3 at hd3 hk3 hbw3 hr53 hrd3 ⊢
    generalize w2.heap.size = gd at hd3 ⊢
    clear hk2 hbw2 hr52 hrd w2
    have H3 := Lib.hid (HRGET2.out W3 ((HR2.out.below hbw3).more hbw3.size))
    go_wp2_with fail
    refine H3.out.mono ?_
    rintro e w4 ⟨hb4, Aw, nw, cw, rfl, hrw⟩
    have hk4 := hk3.below hb4 hk3.lt
    have hd4 := hd3.below hb4 hd3.lt
    have hbw4 := hbw3.trans (hb4.mono hbw3.size)
    have hr54 := (hr53.below hb4).more hb4.size
    have hrd4 := (hrd3.below hb4).more hb4.size
    clear H3 hk3 hd3 hbw3 hr53 hrd3 hb4 HRGET2
    go_upto_region 4 with fail
    have hw5 := Blk.new w4 56 #[.int .i64 kdd, .int .u64 (hdd : Int), .slice Aw nw cw, .string sd]
    have hk5 := hk4.alloc (.cells #[.int .i64 kdd, .int .u64 (hdd : Int), .slice Aw nw cw, .string sd] 56)
    have hd5 := hd4.alloc (.cells #[.int .i64 kdd, .int .u64 (hdd : Int), .slice Aw nw cw, .string sd] 56)
    have hbw5 := hbw4.alloc hbw4.size (.cells #[.int .i64 kdd, .int .u64 (hdd : Int), .slice Aw nw cw, .string sd] 56)
    have hr55 := (hr54.alloc (Nat.le_refl _) (.cells #[.int .i64 kdd, .int .u64 (hdd : Int), .slice Aw nw cw, .string sd] 56)).more (B' := (w4.alloc (.cells #[.int .i64 kdd, .int .u64 (hdd : Int), .slice Aw nw cw, .string sd] 56)).heap.size) (by simp)
    have hrd5 := (hrd4.alloc (Nat.le_refl _) (.cells #[.int .i64 kdd, .int .u64 (hdd : Int), .slice Aw nw cw, .string sd] 56)).more (B' := (w4.alloc (.cells #[.int .i64 kdd, .int .u64 (hdd : Int), .slice Aw nw cw, .string sd] 56)).heap.size) (by simp)
    have hrw5 := (hrw.alloc (Nat.le_refl _) (.cells #[.int .i64 kdd, .int .u64 (hdd : Int), .slice Aw nw cw, .string sd] 56)).more (B' := (w4.alloc (.cells #[.int .i64 kdd, .int .u64 (hdd : Int), .slice Aw nw cw, .string sd] 56)).heap.size) (by simp)
    generalize (w4.alloc (.cells #[.int .i64 kdd, .int .u64 (hdd : Int), .slice Aw nw cw, .string sd] 56)) = W5 at hw5 hk5 hd5 hbw5 hr55 hrd5 hrw5 ⊢
    generalize w4.heap.size = gw at hw5 ⊢
    clear hk4 hd4 hbw4 hr54 hrd4 hrw w4
    have q0 := hd5.cell 0
    have q1 := hd5.cell 1
    have q2 := hd5.cell 2
    have q3 := hd5.cell 3
    have r0 := hw5.cell 0
    have r1 := hw5.cell 1
    have r2 := hw5.cell 2
    have r3 := hw5.cell 3
    simp at q0 q1 q2 q3 r0 r1 r2 r3
    have en1 := RdI.len hrd5
    have en2 := RdI.len hrw5
    have hmd : nd ≤ 9223372036854775807 := by rw [← en1]; exact HVL.out
    obtain rfl : nw = nd := by rw [← en1, ← en2]
    have H4 := Lib.hid (samec_any kdd hdd Ad Aw nw cd cw sd vsd W5 hrd5 hrw5 hmd)
    clear en1 en2 hmd
    go_wp2_with fail
    refine H4.out.mono ?_
    rintro e w6 ⟨rfl, hb6⟩
    have hk6 := hk5.below hb6 hk5.lt
    have hbw6 := hbw5.trans (hb6.mono hbw5.size)
    have hr56 := (hr55.below hb6).more hb6.size
    clear H4 hk5 hd5 hw5 hbw5 hr55 hrd5 hrw5 hb6 q0 q1 q2 q3 r0 r1 r2 r3
    have H5 := Lib.hid (HAW.out w6)
    go_wp2_with fail
    refine H5.out.mono ?_
    rintro e w7 ⟨rfl, hb7⟩
    have hk7 := hk6.below hb7 hk6.lt
    have hbw7 := hbw6.trans (hb7.mono hbw6.size)
    have hr57 := (hr56.below hb7).more hb7.size
    clear H5 hk6 hbw6 hr56 hb7
    have p0 := hk7.cell 0
    have p1 := hk7.cell 1
    have p2 := hk7.cell 2
    have p3 := hk7.cell 3
    simp at p0 p1 p2 p3
    have H6 := Lib.hid (HRPUT.out w7 ((HRV.out.below hbw7).more hbw7.size))
    go_wp2_with fail
    refine H6.out.mono ?_
    rintro e w8 ⟨hb8, hpost⟩
    have hbw8 := hbw7.trans (hb8.mono hbw7.size)
    have hr58 := hr57.below hb8
    have HB8 := Lib.hid hbw8
    clear H6 hk7 hbw7 hr57 hb8 p0 p1 p2 p3 HRPUT hbw8
    rcases hpost with ⟨hp, v8, rfl, hown8⟩ | ⟨hp, A8, n8, c8, rfl⟩
    · obtain ⟨rfl, rfl⟩ : e6 = 0 ∧ b5 = bytes := by
        rcases HC.out with ⟨_, h⟩ | ⟨h, _⟩
        · exact h
        · exact absurd hp h
      obtain ⟨A8, c8, rfl, -⟩ := OwnB.form hown8
      have cv1 := run_string_of (P := Try.prog) (c := c5) w8 24 9 5 hr58 Try.underlying24 Try.underlying5 Try.underlying9
      have cv2 := run_string_of (P := Try.prog) (c := c8) w8 24 9 5 (OwnB.reads hown8 rfl) Try.underlying24 Try.underlying5 Try.underlying9
      clear hr58 hown8 HC
      go_wp2_with fail
      go_ret
      exact ⟨ret_bool (by simp), HB8.out⟩
    · obtain ⟨rfl, rfl⟩ : e6 = 173 ∧ n5 = 0 := by
        rcases HC.out with ⟨h, _⟩ | ⟨_, h⟩
        · exact absurd h hp
        · exact h
      clear hr58 HC
      go_wp2_with fail
      go_ret
      exact ⟨rfl, HB8.out⟩
end Go.Proofs.Ytijcnefomgfocaa
