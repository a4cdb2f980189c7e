/-
  Contract of the document's PutCommand.
-/
import Derived.Test.YtjhkfpemcplaaaaPutc
import Derived.Test.YtjhkfpemcplaaaaRputr
namespace Go.Proofs.Ytjhkfpemcplaaaa
open Go.RowKit

set_option maxRecDepth 20000 in
set_option maxHeartbeats 2000000 in
theorem rputc_long (kind : Int) (hd : Nat) (A : Option Addr) (n c : Nat) (s : ByteArray) (w : World) (h : ¬ (1 ≤ kind ∧ kind ≤ 23 ∧ n ≤ 32 ∧ s.size ≤ 512)) :
    Calls Try.prog 14 #[.agg #[.int .i64 kind, .int .u64 hd, .slice A n c, .string s]] w fun e w' => e = .returned (.tuple #[.slice none 0 0, .bool false]) ∧ ∃ o, w.alloc o = w' := by
  by_cases h1 : kind < 1
  · have d1 : decide (kind < 1) = true := by simp; omega
    clear h
    go_enter Try.func14, Try.ntmps14
    go_wp2
    go_ret2
    exact ⟨rfl, _, rfl⟩
  · have d1 : decide (kind < 1) = false := by simp; omega
    by_cases h2 : 23 < kind
    · have d2 : decide (23 < kind) = true := by simp; omega
      clear h
      go_enter Try.func14, Try.ntmps14
      go_wp2
      go_ret2
      exact ⟨rfl, _, rfl⟩
    · have d2 : decide (23 < kind) = false := by simp; omega
      by_cases h3 : 32 < n
      · have d : decide ((32 : Int) < (n : Int)) = true := by simp; omega
        clear h
        go_enter Try.func14, Try.ntmps14
        go_wp2
        go_ret2
        exact ⟨rfl, _, rfl⟩
      · have d : decide ((32 : Int) < (n : Int)) = false := by simp; omega
        have h4 : 512 < s.size := by omega
        have d3 : decide ((512 : Int) < (s.size : Int)) = true := by simp; omega
        clear h
        go_enter Try.func14, Try.ntmps14
        go_wp2
        go_ret2
        exact ⟨rfl, _, rfl⟩

set_option maxRecDepth 20000 in
set_option maxHeartbeats 4000000 in
theorem rputc_main (kind : Int) (hd : Nat) (A : Option Addr) (n c : Nat) (ns : List Int) (s : ByteArray) (w : World) (hka : 1 ≤ kind) (hkb : kind ≤ 23) (hh : hd < 18446744073709551616) (hr : RdI w w.heap.size A n ns) (hn : n ≤ 32) (ht : s.size ≤ 512)
    (hu : ∀ z ∈ ns, I64 z) :
    Calls Try.prog 14 #[.agg #[.int .i64 kind, .int .u64 hd, .slice A n c, .string s]] w (RPutPost w (goodC kind hd ns s.data.toList) (cmdB kind hd ns s.data.toList)) := by
  obtain ⟨x, HX⟩ : ∃ x : UInt8, Hid (x = UInt8.ofNat n) := ⟨_, rfl⟩
  have hx8 : (n : Int) = (x.toNat : Int) := by rw [HX.out]; simp only [UInt8.toNat_ofNat']; omega
  have HXN := Lib.hid hx8
  obtain ⟨y, HY⟩ : ∃ x : UInt8, Hid (x = UInt8.ofNat kind.toNat) := ⟨_, rfl⟩
  have hy8 : kind = (y.toNat : Int) := by rw [HY.out]; simp only [UInt8.toNat_ofNat']; omega
  have HYN := Lib.hid hy8
  clear hx8 hy8
  have hK : Kept w 35 w.heap.size #[.int .i64 kind, .int .u64 hd, .slice A n c, .string s] none 0 [] (w.alloc (.cells #[.int .i64 kind, .int .u64 hd, .slice A n c, .string s] 35)) :=
    ⟨Blk.new w _ _, Reads.none_, (Below.refl _ _).alloc (Nat.le_refl _) _⟩
  have d1 : decide (kind < 1) = false := by simp; omega
  have d2 : decide (23 < kind) = false := by simp; omega
  have d : decide ((32 : Int) < (n : Int)) = false := by simp; omega
  have d3 : decide ((512 : Int) < (s.size : Int)) = false := by simp; omega
  have HU := Lib.hid hu
  have HKR := Lib.hid (And.intro hka hkb)
  have HH := Lib.hid hh
  clear hu
  go_enter Try.func14, Try.ntmps14
  go_upto_region 3 with fail
  generalize (w.alloc (.cells #[.int .i64 kind, .int .u64 hd, .slice A n c, .string s] 35)) = W at hK ⊢
  have HS : Hid (∀ w' : World, Kept w 35 w.heap.size #[.int .i64 kind, .int .u64 hd, .slice A n c, .string s] none 0 [] w' → w'.cell? ⟨w.heap.size, 0, none⟩ = some (.int .i64 kind) ∧ w'.cell? ⟨w.heap.size, 1, none⟩ = some (.int .u64 hd) ∧ w'.cell? ⟨w.heap.size, 2, none⟩ = some (.slice A n c) ∧ w'.cell? ⟨w.heap.size, 3, none⟩ = some (.string s)) :=
    Lib.hid fun w' h => ⟨h.1.cell 0, h.1.cell 1, h.1.cell 2, h.1.cell 3⟩
  have hS0 := HS.out W hK
  have hw8 : IntKind.u8.wrap (n : Int) = (x.toNat : Int) := by have := HXN.out; have := u8_lt x; rw [IntKind.wrap_u8]; omega
  have hv8 : IntKind.u8.wrap kind = (y.toNat : Int) := by have := HYN.out; have := u8_lt y; rw [IntKind.wrap_u8]; omega
  have hsz : w.heap.size ≤ W.heap.size := hK.2.2.size
  have eh := enc_le hd
  have HK := Lib.hid hK
  have HC1 := Lib.hid (rcnt_keep (.slice none 0 0) [] hd hK.drew (by decide) (OwnB.nil 5 _ _) hh)
  have HC2 := Lib.hid (rcnt_keep (.slice (some ⟨W.heap.size, 0, none⟩) 1 1) [y] hd ((hK.alloc (.cells #[.int .u8 (y.toNat : Int)] 5)).drew) (by decide) (OwnB.built' 5 W w.heap.size W.heap.size #[.int .u8 (y.toNat : Int)] [y] hsz rfl (by simp) rfl).drew hh)
  clear hK hh
  go_cut [4] (fun v wx => OwnB 5 wx w.heap.size v ([y] ++ enc hd) ∧ Kept w 35 w.heap.size #[.int .i64 kind, .int .u64 hd, .slice A n c, .string s] none 0 [] wx)
  case first =>
    go_region_held3 (fun w' => w'.cell? ⟨w.heap.size, 0, none⟩ = some (.int .i64 kind) ∧ w'.cell? ⟨w.heap.size, 1, none⟩ = some (.int .u64 hd) ∧ w'.cell? ⟨w.heap.size, 2, none⟩ = some (.slice A n c) ∧ w'.cell? ⟨w.heap.size, 3, none⟩ = some (.string s))
      (first | exact HS.out _ hk2 | exact HS.out _ hk1 | exact HS.out _ (hk1.alloc _) | exact HS.out _ HK.out.drew | exact HS.out _ (Kept.alloc HK.out _).drew)
      (first | (refine step_app rfl (.tmp 30) (.tmp 33) 37 rfl w.heap.size 5 info5 Try.underlying37 _ [y] rfl (OwnB.built' 5 w1 w.heap.size w1.heap.size #[.int .u8 (y.toNat : Int)] [y] hk1.2.2.size rfl (by simp) rfl) _ A1 _ c1 (enc hd) rfl (Reads.alloc (OwnB.reads hnew1 rfl) (Nat.le_refl _) _) (by simp; omega) (by have := hk1.2.2.size; simp; omega) ?_; intro v2 w2 hown2 happ2; have hk2 := (hk1.alloc _).app (OwnB.built' 5 w1 w.heap.size w1.heap.size #[.int .u8 (y.toNat : Int)] [y] hk1.2.2.size rfl (by simp) rfl) (by decide) happ2) | (refine step_app rfl (.tmp 30) (.tmp 33) 37 rfl w.heap.size 5 info5 Try.underlying37 _ [y] rfl hacc1 _ A1 _ c1 (enc hd) rfl (OwnB.reads hnew1 rfl) (by simp; omega) hk1.2.2.size ?_; intro v2 w2 hown2 happ2; have hk2 := hk1.app hacc1 (by decide) happ2) | (go_at_call 41; ((with_reducible refine HC1.out.mono ?_); rintro e w1 ⟨v1, rfl, hnew1, hacc1, hk1, -⟩; obtain ⟨A1, c1, rfl, hm1⟩ := hnew1.form; clear hm1)) | (go_at_call 41; ((with_reducible refine HC2.out.mono ?_); rintro e w1 ⟨v1, rfl, hnew1, hacc1, hk1, -⟩; obtain ⟨A1, c1, rfl, hm1⟩ := hnew1.form; clear hm1)))
    all_goals (go_wp2_with fail; go_meet; exact ⟨hown2, hk2⟩)
  case rest =>
    obtain ⟨hown, hk⟩ := hcut
    clear HC1 HC2
    clear hv8 hS0 HK hsz
    obtain ⟨s0, s1, s2, s3⟩ := HS.out _ hk
    have hol : ([y] ++ enc hd).length ≤ 11 := by simp; omega
    go_wp2_with (at_builtin; refine wpList_app rfl _ _ _ rfl w.heap.size 5 info5 Try.underlying37 _ ([y] ++ enc hd) rfl (hown.alloc _) _ _ _ _ [x] rfl (Reads.built wc 5 [bv x]) (by simp; omega) (by have := hk.2.2.size; simp; omega) ?_; intro v2 w2 hown2 happ2; have hk2 := (hk.alloc _).app (hown.alloc _) (by decide) happ2; clear s0 s1 s2 s3; obtain ⟨s0, s1, s2, s3⟩ := HS.out _ hk2)
    clear s0 s1 s2 s3 hown hk hw8 hol
    obtain ⟨pre, HPRE⟩ : ∃ pre : List UInt8, Hid (pre = [y] ++ enc hd ++ [x]) := ⟨_, rfl⟩
    rw [← HPRE.out] at hown2
    have hpl : pre.length ≤ 12 := by rw [HPRE.out]; simp; omega
    go_loopw [4, 6, 45] (fun u _ i wr => ∃ k : Nat, k ≤ n ∧ i = .int .i64 k ∧ OwnB 5 wr w.heap.size u (pre ++ (ns.take k).flatMap numB) ∧ Kept w 35 w.heap.size #[.int .i64 kind, .int .u64 hd, .slice A n c, .string s] none 0 [] wr) (fun _ _ i _ => n - (intOf i).toNat)
    case atStart => exact ⟨0, Nat.zero_le _, rfl, by simpa using hown2, hk2⟩
    case round =>
      obtain ⟨k, hkn, rfl, hown, hk⟩ := hrel
      clear hown2 hk2
      by_cases hlt : k < n
      · obtain ⟨ad, z, rfl, hb, hv, e1⟩ := RdI.at1 (Reads.below hr hk.2.2) hlt
        have HZ := Lib.hid (HU.out z (List.mem_of_getElem? hv))
        have hxl : (pre ++ (ns.take k).flatMap numB).length ≤ 1000 := by
          have := nums_le (ns.take k)
          have e := RdI.len hr
          rw [List.length_take] at this
          rw [List.length_append]
          omega
        have HXL := Lib.hid hxl
        have HTK := Lib.hid (nums_take ns k z hv)
        clear hv hxl
        have l1 : (0 : Int) ≤ (k : Int) := by omega
        have l2 : (k : Int) < (n : Int) := by omega
        go_wp2_with (go_at_call 42; ((with_reducible refine (rzig_any z _ HZ.out).mono ?_); rintro e w2 ⟨rfl, rfl⟩))
        have HC := Lib.hid (rcnt_keep _ _ (zig z) hk (by decide) hown (zig_lt HZ.out))
        refine HC.out.mono ?_
        rintro e w3 ⟨v3, rfl, hnew, hacc, hk3, -⟩
        obtain ⟨A1, c1, rfl, -⟩ := hnew.form
        clear HC hown hk
        go_wp2_with (at_builtin; refine wpList_app rfl _ _ _ rfl w.heap.size 5 info5 Try.underlying37 _ _ rfl hacc _ _ _ _ _ rfl (OwnB.reads hnew rfl) (by have := HXL.out; have := enc_le (zig z); omega) hk3.2.2.size ?_; intro v4 w4 hown4 happ4; have hk4 := hk3.app hacc (by decide) happ4)
        go_roundw
        case rel => exact ⟨k + 1, by omega, by go_num, by rw [HTK.out]; simpa [numB] using hown4, hk4⟩
        case measure => simp [intOf]; omega
      · go_wp2_with fail
        obtain rfl : k = n := by omega
        have e0 := RdI.len hr
        have HVN : Hid (ns.take k = ns) := Lib.hid (List.take_of_length_le (by omega))
        rw [HVN.out] at hown
        have hxl : (pre ++ ns.flatMap numB).length ≤ 1000 := by
          have := nums_le ns
          rw [List.length_append]
          omega
        have HXL := Lib.hid hxl
        have HLV := Lib.hid e0
        clear hxl e0
        generalize HBB : pre ++ ns.flatMap numB = bb at hown HXL
        have HBBH := Lib.hid HBB
        clear HBB
        have hS0 := HS.out _ hk
        have HC := Lib.hid (rcnt_keep _ _ s.size hk.drew (by decide) hown.drew (by omega))
        have hsw : IntKind.u64.wrap (s.size : Int) = (s.size : Int) := by rw [IntKind.wrap_u64]; omega
        go_cut [4] (fun v wx => OwnB 5 wx w.heap.size v (bb ++ enc s.size ++ s.data.toList) ∧ Kept w 35 w.heap.size #[.int .i64 kind, .int .u64 hd, .slice A k c, .string s] none 0 [] wx)
        case first =>
          go_region_held3 (fun w' => w'.cell? ⟨w.heap.size, 0, none⟩ = some (.int .i64 kind) ∧ w'.cell? ⟨w.heap.size, 1, none⟩ = some (.int .u64 hd) ∧ w'.cell? ⟨w.heap.size, 2, none⟩ = some (.slice A k c) ∧ w'.cell? ⟨w.heap.size, 3, none⟩ = some (.string s))
            (first | go_keep | exact HS.out _ hk3 | exact HS.out _ hk2 | exact HS.out _ hk1)
            (first | (refine step_app_str rfl (.tmp 61) (.tmp 63) 37 9 rfl w.heap.size 5 info5 Try.underlying37 Try.underlying9 _ (bb ++ enc s.size) rfl hown2 s rfl (by have := HXL.out; have := enc_le s.size; simp; omega) hk2.2.2.size ?_; intro v3 w3 hown3 happ3; have hk3 := hk2.grw hown2 (by decide) happ3) | (refine step_app rfl (.tmp 55) (.tmp 60) 37 rfl w.heap.size 5 info5 Try.underlying37 _ bb rfl hacc1 _ A1 _ c1 (enc s.size) rfl (OwnB.reads hnew1 rfl) (by have := HXL.out; have := enc_le s.size; omega) hk1.2.2.size ?_; intro v2 w2 hown2 happ2; have hk2 := hk1.app hacc1 (by decide) happ2) | (go_at_call 41; ((with_reducible refine HC.out.mono ?_); rintro e w1 ⟨v1, rfl, hnew1, hacc1, hk1, -⟩; obtain ⟨A1, c1, rfl, hm1⟩ := hnew1.form; clear hm1)))
          all_goals (go_wp2_with fail; go_meet; exact ⟨hown3, hk3⟩)
        case rest =>
          obtain ⟨hown, hk⟩ := hcut
          have hrb : bb ++ enc s.size ++ s.data.toList = cmdB kind hd ns s.data.toList := by
            rw [← HBBH.out, HPRE.out, HX.out, HY.out, ← HLV.out]
            have : s.data.toList.length = s.size := by rw [Array.length_toList]; rfl
            simp [cmdB, this]
          rw [hrb] at hown
          generalize hR : cmdB kind hd ns s.data.toList = R at hown
          have HR := Lib.hid hR
          have HTL : Hid (s.data.toList.length = s.size) := Lib.hid (by rw [Array.length_toList]; rfl)
          have hbw := hk.2.2
          obtain ⟨A4, c4, rfl, hc4⟩ := hown.form
          clear hR hrb hc4 HC hS0 hsw
          by_cases h1024 : R.length ≤ 1024
          · have d5 : decide ((R.length : Int) ≤ 1024) = true := by simp; omega
            have HG : Hid (goodC kind hd ns s.data.toList) := Lib.hid ⟨HKR.out.1, HKR.out.2, by rw [HLV.out]; exact hn, by rw [HTL.out]; exact ht, by rw [HR.out]; exact h1024⟩
            go_wp2_with fail
            go_ret2
            exact ⟨hbw, .inl ⟨HG.out, _, rfl, by rw [HR.out]; exact hown⟩⟩
          · have d5 : decide ((R.length : Int) ≤ 1024) = false := by simp; omega
            have HG : Hid (¬ goodC kind hd ns s.data.toList) := Lib.hid fun h => by have := h.2.2.2.2; rw [HR.out] at this; omega
            go_wp2_with fail
            go_ret2
            exact ⟨hbw, .inr ⟨HG.out, _, _, _, rfl⟩⟩

/-- the document's PutCommand, whatever the command -/
theorem rputc_any (kind : Int) (hd : Nat) (A : Option Addr) (n c : Nat) (ns : List Int) (s : ByteArray) (w : World) (hh : hd < 18446744073709551616) (hr : RdI w w.heap.size A n ns) (hu : ∀ z ∈ ns, I64 z) :
    Calls Try.prog 14 #[.agg #[.int .i64 kind, .int .u64 hd, .slice A n c, .string s]] w (RPutPost w (goodC kind hd ns s.data.toList) (cmdB kind hd ns s.data.toList)) := by
  have hl := RdI.len hr
  have htl : s.data.toList.length = s.size := by rw [Array.length_toList]; rfl
  by_cases h : 1 ≤ kind ∧ kind ≤ 23 ∧ n ≤ 32 ∧ s.size ≤ 512
  · exact rputc_main kind hd A n c ns s w h.1 h.2.1 hh hr h.2.2.1 h.2.2.2 hu
  · refine (rputc_long kind hd A n c s w h).mono ?_
    rintro e w1 ⟨rfl, o, rfl⟩
    refine ⟨(Below.refl _ _).alloc (Nat.le_refl _) _, .inr ⟨fun g => h ⟨g.1, g.2.1, ?_, ?_⟩, _, _, _, rfl⟩⟩
    · have := g.2.2.1; omega
    · have := g.2.2.2.1; omega
end Go.Proofs.Ytjhkfpemcplaaaa
