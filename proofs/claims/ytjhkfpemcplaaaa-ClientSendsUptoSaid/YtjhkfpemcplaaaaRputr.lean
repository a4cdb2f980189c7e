/-
  Contract of the document's PutReply.
-/
import Derived.Test.YtjhkfpemcplaaaaPutr
import Derived.Test.YtjhkfpemcplaaaaRpack
namespace Go.Proofs.Ytjhkfpemcplaaaa
open Go.RowKit

def RCPost (w : World) (T g : Nat) (cs : Array Value) (W : World) (acc : Value) (xs : List UInt8) (m : Nat) (e : Ending) (w1 : World) : Prop :=
  ∃ v, e = .returned v ∧ OwnB 5 w1 w.heap.size v (enc m) ∧ OwnB 5 w1 w.heap.size acc xs ∧ Kept w T g cs none 0 [] w1 ∧ (∀ k t ds, Blk W k t ds → Blk w1 k t ds)
theorem rcnt_keep {w W : World} {T g : Nat} {cs : Array Value} (acc : Value) (xs : List UInt8) (m : Nat) (h : Kept w T g cs none 0 [] W) (hT : 5 ≠ T) (ho : OwnB 5 W w.heap.size acc xs) (hm : m < 18446744073709551616) :
    Calls Try.prog 41 #[.int .u64 (m : Int)] W (RCPost w T g cs W acc xs m) :=
  (rcount_any w.heap.size m W h.2.2.size hm).mono fun _ _ ⟨v1, he, hv, ha⟩ => ⟨v1, he, hv, ho.fresh ha, h.app (OwnB.nil 5 W w.heap.size) hT ha, fun _ _ _ hb => ha.blk hb (by simp [Value.ownBlock])⟩
/-- what the document's Put ends with -/
def RPutPost (w : World) (good : Prop) (bytes : List UInt8) (e : Ending) (w' : World) : Prop :=
  Below w.heap.size w w' ∧ ((good ∧ ∃ v, e = .returned (.tuple #[v, .bool true]) ∧ OwnB 5 w' w.heap.size v bytes) ∨ (¬ good ∧ ∃ A n c, e = .returned (.tuple #[.slice A n c, .bool false])))

set_option maxRecDepth 20000 in
set_option maxHeartbeats 2000000 in
theorem rputr_long (err : Int) (A : Option Addr) (n c : Nat) (s : ByteArray) (w : World) (h : 32 < n ∨ 512 < s.size) :
    Calls Try.prog 18 #[.agg #[.int .i64 err, .slice A n c, .string s]] w fun e w' => e = .returned (.tuple #[.slice none 0 0, .bool false]) ∧ ∃ o, w.alloc o = w' := by
  by_cases h1 : 32 < n
  · have d : decide ((32 : Int) < (n : Int)) = true := by simp; omega
    clear h
    go_enter Try.func18, Try.ntmps18
    go_wp2
    go_ret2
    exact ⟨rfl, _, rfl⟩
  · have d : decide ((32 : Int) < (n : Int)) = false := by simp; omega
    have d2 : decide ((512 : Int) < (s.size : Int)) = true := by simp; omega
    clear h
    go_enter Try.func18, Try.ntmps18
    go_wp2
    go_ret2
    exact ⟨rfl, _, rfl⟩

set_option maxRecDepth 20000 in
set_option maxHeartbeats 4000000 in
theorem rputr_main (err : Int) (A : Option Addr) (n c : Nat) (vs : List (Nat × Int)) (s : ByteArray) (w : World) (he : I64 err) (hr : RdV w w.heap.size A n vs) (hn : n ≤ 32) (ht : s.size ≤ 512)
    (hu : ∀ v ∈ vs, v.1 < 18446744073709551616 ∧ I64 v.2) :
    Calls Try.prog 18 #[.agg #[.int .i64 err, .slice A n c, .string s]] w (RPutPost w (goodR err vs s.data.toList) (replyB err vs s.data.toList)) := by
  obtain ⟨x, HX⟩ : ∃ x : UInt8, Hid (x = UInt8.ofNat n) := ⟨_, rfl⟩
  have hx8 : (n : Int) = (x.toNat : Int) := by rw [HX.out]; simp only [UInt8.toNat_ofNat']; omega
  have HXN := Lib.hid hx8
  clear hx8
  have hK : Kept w 53 w.heap.size #[.int .i64 err, .slice A n c, .string s] none 0 [] (w.alloc (.cells #[.int .i64 err, .slice A n c, .string s] 53)) :=
    ⟨Blk.new w _ _, Reads.none_, (Below.refl _ _).alloc (Nat.le_refl _) _⟩
  have d : decide ((32 : Int) < (n : Int)) = false := by simp; omega
  have d2 : decide ((512 : Int) < (s.size : Int)) = false := by simp; omega
  have HE := Lib.hid he
  have HU := Lib.hid hu
  clear he hu
  go_enter Try.func18, Try.ntmps18
  go_upto_region 3 with fail
  generalize (w.alloc (.cells #[.int .i64 err, .slice A n c, .string s] 53)) = W at hK ⊢
  have HS : Hid (∀ w' : World, Kept w 53 w.heap.size #[.int .i64 err, .slice A n c, .string s] none 0 [] w' → w'.cell? ⟨w.heap.size, 0, none⟩ = some (.int .i64 err) ∧ w'.cell? ⟨w.heap.size, 1, none⟩ = some (.slice A n c) ∧ w'.cell? ⟨w.heap.size, 2, none⟩ = some (.string s)) :=
    Lib.hid fun w' h => ⟨h.1.cell 0, h.1.cell 1, h.1.cell 2⟩
  have hS0 := HS.out W hK
  have hz : zig err < 18446744073709551616 := zig_lt HE.out
  have HC1 := Lib.hid (rcnt_keep (.slice none 0 0) [] (zig err) hK.drew (by decide) (OwnB.nil 5 _ _) hz)
  have HC2 := Lib.hid (rcnt_keep (.slice none 0 0) [] (zig err) ((hK.alloc (.cells #[.int .u8 (x.toNat : Int)] 5)).drew) (by decide) (OwnB.nil 5 _ _) hz)
  have B2 := Lib.hid ((Blk.new' W 5 _ #[.int .u8 (x.toNat : Int)] rfl).drew)
  have ele : (enc (zig err)).length ≤ 10 := enc_le _
  have hw8 : IntKind.u8.wrap (n : Int) = (x.toNat : Int) := by have := HXN.out; have := u8_lt x; rw [IntKind.wrap_u8]; omega
  clear hz hK
  go_cut [4] (fun v wx => OwnB 5 wx w.heap.size v (enc (zig err) ++ [x]) ∧ Kept w 53 w.heap.size #[.int .i64 err, .slice A n c, .string s] none 0 [] wx)
  case first =>
    go_region_held3 (fun w' => w'.cell? ⟨w.heap.size, 0, none⟩ = some (.int .i64 err) ∧ w'.cell? ⟨w.heap.size, 1, none⟩ = some (.slice A n c) ∧ w'.cell? ⟨w.heap.size, 2, none⟩ = some (.string s))
      (first | go_keep | exact HS.out _ hk2 | exact HS.out _ hk1)
      (first | (refine step_app rfl (.tmp 20) (.tmp 25) 37 rfl w.heap.size 5 info5 Try.underlying37 _ (enc (zig err)) rfl (hown1.alloc _) _ _ _ _ [x] rfl (Reads.built w1 5 [bv x]) (by simp; omega) (by have := hk1.2.2.size; simp; omega) ?_; intro v2 w2 hown2 happ2; have hk2 := (hk1.alloc _).app (hown1.alloc _) (by decide) happ2) | (refine step_app rfl (.tmp 20) (.tmp 25) 37 rfl w.heap.size 5 info5 Try.underlying37 _ (enc (zig err)) rfl hown1 _ _ _ _ [x] rfl (Reads.of_blk (cs := [bv x]) (hold1 _ _ _ B2.out)) (by simp; omega) hk1.2.2.size ?_; intro v2 w2 hown2 happ2; have hk2 := hk1.app hown1 (by decide) happ2) | (go_at_call 42; ((with_reducible refine (rzig_any err _ HE.out).mono ?_); rintro e w1 ⟨rfl, rfl⟩)) | (go_at_call 41; ((with_reducible refine HC1.out.mono ?_); rintro e w1 ⟨v1, rfl, hown1, -, hk1, hold1⟩)) | (go_at_call 41; ((with_reducible refine HC2.out.mono ?_); rintro e w1 ⟨v1, rfl, hown1, -, hk1, hold1⟩)))
    all_goals (go_wp2_with fail; go_meet; exact ⟨hown2, hk2⟩)
  case rest =>
    obtain ⟨hown, hk⟩ := hcut
    clear HC1 HC2 B2 ele hw8 hS0
    obtain ⟨s0, s1, s2⟩ := HS.out _ hk
    obtain ⟨pre, HPRE⟩ : ∃ pre : List UInt8, Hid (pre = enc (zig err) ++ [x]) := ⟨_, rfl⟩
    rw [← HPRE.out] at hown
    have hpl : pre.length ≤ 11 := by rw [HPRE.out]; have := enc_le (zig err); simp; omega
    go_wp2_with fail
    clear s0 s1 s2
    go_loopw [4, 6, 30] (fun u _ i wr => ∃ k : Nat, k ≤ n ∧ i = .int .i64 k ∧ OwnB 5 wr w.heap.size u (pre ++ (vs.take k).flatMap valB) ∧ Kept w 53 w.heap.size #[.int .i64 err, .slice A n c, .string s] none 0 [] wr ∧ Hid (okV (vs.take k))) (fun _ _ i _ => n - (intOf i).toNat)
    case atStart => exact ⟨0, Nat.zero_le _, rfl, by simpa using hown, hk, Lib.hid (by intro v hv; simp at hv)⟩
    case round =>
      obtain ⟨k, hkn, rfl, hown, hk, HOK⟩ := hrel
      by_cases hlt : k < n
      · obtain ⟨b, off, v, rfl, hb, hv, e1, e2⟩ := RdV.at2 (Reads.below hr hk.2.2) hlt
        have HV := Lib.hid hv
        obtain ⟨hv1, hv2⟩ := HU.out v (List.mem_of_getElem? hv)
        have HV1 := Lib.hid hv1
        have HV2 := Lib.hid hv2
        have hxl : (pre ++ (vs.take k).flatMap valB).length ≤ 1000 := by
          have := vals_le (vs.take k)
          have e := RdV.len hr
          rw [List.length_take] at this
          rw [List.length_append]
          omega
        have HXL := Lib.hid hxl
        have HTK := Lib.hid (vals_take vs k v hv)
        clear hv hv1 hv2 hxl
        go_upto_region 7 with fail
        have hbv := Blk.new wr 68 #[.int .u64 (v.1 : Int), .int .i64 v.2]
        have hk1 := hk.alloc (.cells #[.int .u64 (v.1 : Int), .int .i64 v.2] 68)
        have hown1 := hown.alloc (.cells #[.int .u64 (v.1 : Int), .int .i64 v.2] 68)
        generalize wr.alloc (.cells #[.int .u64 (v.1 : Int), .int .i64 v.2] 68) = W1 at hbv hk1 hown1 ⊢
        clear hk hown e1 e2
        have e1 := hbv.cell 0
        have e2 := hbv.cell 1
        simp at e1 e2
        have HC := Lib.hid (rcnt_keep _ _ v.1 hk1 (by decide) hown1 HV1.out)
        by_cases h0 : v.1 = 0
        · have t0 : ((v.1 : Int) == 0) = true := by rw [beq_iff_eq]; omega
          have t1 : ((v.1 : Int) != 0) = false := by rw [bne_eq_false_iff_eq]; omega
          have HVB : Hid (valB v = enc v.1 ++ enc (zig v.2)) := Lib.hid (by unfold valB; rw [if_pos h0])
          have HOK2 : Hid (okV (vs.take (k + 1))) := Lib.hid (okV_take HV.out HOK.out (.inl h0))
          clear h0
          go_wp2_with fail
          refine HC.out.mono ?_
          rintro e w1 ⟨v1, rfl, hnew, hacc, hk2, hh⟩
          obtain ⟨A1, c1, rfl, -⟩ := hnew.form
          have hbv2 := hh _ _ _ hbv
          clear HC hh hbv hk1 hown1 e1 e2
          have hac2 := hacc
          go_wp2_with (at_builtin; refine wpList_app rfl _ _ _ rfl w.heap.size 5 info5 Try.underlying37 _ _ rfl hacc _ _ _ _ _ rfl (OwnB.reads hnew rfl) (by have := HXL.out; have := enc_le v.1; omega) hk2.2.2.size ?_; intro v2 w2 hown2 happ2; have hk3 := hk2.app hacc (by decide) happ2; have hbv3 := happ2.blk hbv2 (own_blk_ne hacc hbv2 (by decide)); have e1 := hbv3.cell 0; have e2 := hbv3.cell 1; simp at e1 e2)
          have HZ := Lib.hid (rzig_any v.2 w2 HV2.out)
          refine HZ.out.mono ?_
          rintro e w3 ⟨rfl, rfl⟩
          have HC2 := Lib.hid (rcnt_keep _ _ (zig v.2) hk3 (by decide) hown2 (zig_lt HV2.out))
          clear hac2 hacc hnew happ2 HZ
          go_wp2_with fail
          refine HC2.out.mono ?_
          rintro e w4 ⟨v4, rfl, hnew, hacc, hk4, -⟩
          obtain ⟨A4, c4, rfl, -⟩ := hnew.form
          clear HC2 hown2 hk3
          go_wp2_with (at_builtin; refine wpList_app rfl _ _ _ rfl w.heap.size 5 info5 Try.underlying37 _ _ rfl hacc _ _ _ _ _ rfl (OwnB.reads hnew rfl) (by have := HXL.out; have := enc_le v.1; have := enc_le (zig v.2); rw [List.length_append]; omega) hk4.2.2.size ?_; intro v5 w5 hown5 happ5; have hk5 := hk4.app hacc (by decide) happ5)
          go_roundw
          case rel => exact ⟨k + 1, by omega, by go_num, by rw [HTK.out, HVB.out]; simpa using hown5, hk5, HOK2⟩
          case measure => simp [intOf]; omega
        · have t0 : ((v.1 : Int) == 0) = false := by rw [beq_eq_false_iff_ne]; omega
          have t1 : ((v.1 : Int) != 0) = true := by rw [bne_iff_ne]; omega
          by_cases h2 : v.2 = 0
          · have t2 : (v.2 != 0) = false := by rw [bne_eq_false_iff_eq]; exact h2
            have HVB : Hid (valB v = enc v.1) := Lib.hid (by unfold valB; rw [if_neg h0]; simp)
            have HOK2 : Hid (okV (vs.take (k + 1))) := Lib.hid (okV_take HV.out HOK.out (.inr h2))
            clear h0 h2
            go_wp2_with fail
            refine HC.out.mono ?_
            rintro e w1 ⟨v1, rfl, hnew, hacc, hk2, hh⟩
            obtain ⟨A1, c1, rfl, -⟩ := hnew.form
            have hbv2 := hh _ _ _ hbv
            clear HC hh hbv hk1 hown1 e1 e2
            go_wp2_with (at_builtin; refine wpList_app rfl _ _ _ rfl w.heap.size 5 info5 Try.underlying37 _ _ rfl hacc _ _ _ _ _ rfl (OwnB.reads hnew rfl) (by have := HXL.out; have := enc_le v.1; omega) hk2.2.2.size ?_; intro v2 w2 hown2 happ2; have hk3 := hk2.app hacc (by decide) happ2; have hbv3 := happ2.blk hbv2 (own_blk_ne hacc hbv2 (by decide)); have e1 := hbv3.cell 0; have e2 := hbv3.cell 1; simp at e1 e2)
            go_roundw
            case rel => exact ⟨k + 1, by omega, by go_num, by rw [HTK.out, HVB.out]; simpa using hown2, hk3, HOK2⟩
            case measure => simp [intOf]; omega
          · have t2 : (v.2 != 0) = true := by rw [bne_iff_ne]; exact h2
            have hbad : ¬ okV vs := fun h => by
              rcases h v (List.mem_of_getElem? HV.out) with q | q
              · exact h0 q
              · exact h2 q
            have HB := Lib.hid hbad
            clear h0 h2 hbad
            have hbw := hk1.2.2
            go_wp2_with fail
            go_ret2
            exact ⟨hbw, .inr ⟨fun h => HB.out h.2.2.1, _, _, _, rfl⟩⟩
      · go_wp2_with fail
        obtain rfl : k = n := by omega
        have e0 := RdV.len hr
        have HVN : Hid (vs.take k = vs) := Lib.hid (List.take_of_length_le (by omega))
        have hOK := HOK.out
        rw [HVN.out] at hown hOK
        have HOK2 := Lib.hid hOK
        have hxl : (pre ++ vs.flatMap valB).length ≤ 1000 := by
          have := vals_le vs
          rw [List.length_append]
          omega
        have HXL := Lib.hid hxl
        have HLV := Lib.hid e0
        clear hOK hxl HOK e0
        generalize HBB : pre ++ vs.flatMap valB = bb at hown HXL
        have HBBH := Lib.hid HBB
        clear HBB
        have hS0 := HS.out _ hk
        have HC := Lib.hid (rcnt_keep _ _ s.size hk.drew (by decide) hown.drew (by omega))
        have hsw : IntKind.u64.wrap (s.size : Int) = (s.size : Int) := by rw [IntKind.wrap_u64]; omega
        go_cut [4] (fun v wx => OwnB 5 wx w.heap.size v (bb ++ enc s.size ++ s.data.toList) ∧ Kept w 53 w.heap.size #[.int .i64 err, .slice A k c, .string s] none 0 [] wx)
        case first =>
          go_region_held3 (fun w' => w'.cell? ⟨w.heap.size, 0, none⟩ = some (.int .i64 err) ∧ w'.cell? ⟨w.heap.size, 1, none⟩ = some (.slice A k c) ∧ w'.cell? ⟨w.heap.size, 2, none⟩ = some (.string s))
            (first | go_keep | exact HS.out _ hk3 | exact HS.out _ hk2 | exact HS.out _ hk1)
            (first | (refine step_app_str rfl (.tmp 63) (.tmp 65) 37 9 rfl w.heap.size 5 info5 Try.underlying37 Try.underlying9 _ (bb ++ enc s.size) rfl hown2 s rfl (by have := HXL.out; have := enc_le s.size; simp; omega) hk2.2.2.size ?_; intro v3 w3 hown3 happ3; have hk3 := hk2.grw hown2 (by decide) happ3) | (refine step_app rfl (.tmp 57) (.tmp 62) 37 rfl w.heap.size 5 info5 Try.underlying37 _ bb rfl hacc1 _ A1 _ c1 (enc s.size) rfl (OwnB.reads hnew1 rfl) (by have := HXL.out; have := enc_le s.size; omega) hk1.2.2.size ?_; intro v2 w2 hown2 happ2; have hk2 := hk1.app hacc1 (by decide) happ2) | (go_at_call 41; ((with_reducible refine HC.out.mono ?_); rintro e w1 ⟨v1, rfl, hnew1, hacc1, hk1, -⟩; obtain ⟨A1, c1, rfl, hm1⟩ := hnew1.form; clear hm1)))
          all_goals (go_wp2_with fail; go_meet; exact ⟨hown3, hk3⟩)
        case rest =>
          obtain ⟨hown, hk⟩ := hcut
          have hrb : bb ++ enc s.size ++ s.data.toList = replyB err vs s.data.toList := by
            rw [← HBBH.out, HPRE.out, HX.out, ← HLV.out]
            have : s.data.toList.length = s.size := by rw [Array.length_toList]; rfl
            simp [replyB, this]
          rw [hrb] at hown
          generalize hR : replyB err vs s.data.toList = R at hown
          have HR := Lib.hid hR
          have HTL : Hid (s.data.toList.length = s.size) := Lib.hid (by rw [Array.length_toList]; rfl)
          have hbw := hk.2.2
          obtain ⟨A4, c4, rfl, hc4⟩ := hown.form
          clear hR hrb hc4 HC hS0 hsw
          by_cases h1024 : R.length ≤ 1024
          · have d3 : decide ((R.length : Int) ≤ 1024) = true := by simp; omega
            have HG : Hid (goodR err vs s.data.toList) := Lib.hid ⟨by rw [HLV.out]; exact hn, by rw [HTL.out]; exact ht, HOK2.out, by rw [HR.out]; exact h1024⟩
            go_wp2_with fail
            go_ret2
            exact ⟨hbw, .inl ⟨HG.out, _, rfl, by rw [HR.out]; exact hown⟩⟩
          · have d3 : decide ((R.length : Int) ≤ 1024) = false := by simp; omega
            have HG : Hid (¬ goodR err vs s.data.toList) := Lib.hid fun h => by have := h.2.2.2; rw [HR.out] at this; omega
            go_wp2_with fail
            go_ret2
            exact ⟨hbw, .inr ⟨HG.out, _, _, _, rfl⟩⟩

/-- the document's PutReply, whatever the reply -/
theorem rputr_any (err : Int) (A : Option Addr) (n c : Nat) (vs : List (Nat × Int)) (s : ByteArray) (w : World) (he : I64 err) (hr : RdV w w.heap.size A n vs)
    (hu : ∀ v ∈ vs, v.1 < 18446744073709551616 ∧ I64 v.2) :
    Calls Try.prog 18 #[.agg #[.int .i64 err, .slice A n c, .string s]] w (RPutPost w (goodR err vs s.data.toList) (replyB err vs s.data.toList)) := by
  have hl := RdV.len hr
  have htl : s.data.toList.length = s.size := by rw [Array.length_toList]; rfl
  by_cases h : 32 < n ∨ 512 < s.size
  · refine (rputr_long err A n c s w h).mono ?_
    rintro e w1 ⟨rfl, o, rfl⟩
    refine ⟨(Below.refl _ _).alloc (Nat.le_refl _) _, .inr ⟨fun g => ?_, _, _, _, rfl⟩⟩
    have h1 := g.1
    have h2 := g.2.1
    omega
  · exact rputr_main err A n c vs s w he hr (by omega) (by omega) hu
end Go.Proofs.Ytjhkfpemcplaaaa
