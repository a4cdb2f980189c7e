/-
  UnpackBytes once more: the slice that comes back is of a block that the call made, its capacity its length.
-/
import Derived.Test.YtlopmhnakehnaaaDoorUnb
import Derived.BigQuiet
import Derived.Deep.QuietTactic
import Derived.Deep.DeepCutAuto
import Derived.Laws.MakeOwn
namespace Go.Proofs.YtlopmhnakehnaaaDoor
open Go.RowKit

/-- a slice that the call made, and that no other holds: its capacity is its length -/
def OwnD (w : World) (base : Nat) (A : Option Addr) (m : Nat) : Prop := (A = none ∧ m = 0) ∨ ∃ g cur, A = some ⟨g, 0, none⟩ ∧ base ≤ g ∧ Blk w g 5 cur ∧ m ≤ cur.size
theorem OwnD.of_own {w : World} {base N c m : Nat} {A : Option Addr} {bs : List UInt8} (h : OwnB 5 w base (.slice A N c) bs) (hl : bs.length = N) (hm : m ≤ N) : OwnD w base A m := by
  obtain ⟨_, ⟨e, h0⟩ | ⟨g, cap, cur, e, h1, h2, h3, h4, h5, h6⟩⟩ := h
  · injection e with e1 e2 e3
    exact .inl ⟨e1, by omega⟩
  · injection e with e1 e2 e3
    exact .inr ⟨g, cur, e1, h1, h2, by omega⟩
def UnQ (ws : List Nat) (sp : Int) (w : World) (e : Ending) (w' : World) : Prop :=
  Below w.heap.size w w' ∧ ∃ A, e = .returned (.tuple #[.slice A (unpR ws sp).1.length (unpR ws sp).1.length, .int .i64 (unpR ws sp).2]) ∧ RdB w' w'.heap.size A (unpR ws sp).1.length (unpR ws sp).1 ∧ OwnD w' w.heap.size A (unpR ws sp).1.length
theorem UnQ.bad {ws : List Nat} {sp k : Int} {w : World} (h : unpR ws sp = ([], k)) : UnQ ws sp w (.returned (.tuple #[.slice none 0 0, .int .i64 k])) w := by
  unfold UnQ
  rw [h]
  exact ⟨Below.refl _ _, none, rfl, Reads.none_, .inl ⟨rfl, rfl⟩⟩
theorem unq_end_bad {w w' : World} {ws : List Nat} {s : Nat} (hn : ws.length ≤ 65535) (hs : s ≤ 3) (hs0 : ¬ (0 < s ∧ ws.length = 0)) {m : Nat} (hm : 4 * ws.length - s = m) {j : Nat} {x : UInt8} (hx : ((unpB ws).drop m)[j]? = some x) (hx0 : ¬ x = 0)
    (hb : Below w.heap.size w w') : UnQ ws s w (.returned (.tuple #[.slice none 0 0, .int .i64 10])) w' := by
  have e : unpR ws (s : Int) = ([], 10) := by
    rw [unpR_cond hn hs hs0 hm, if_neg]
    intro h
    have := List.all_eq_true.1 h x (List.mem_of_getElem? hx)
    exact hx0 (by simpa using this)
  unfold UnQ
  rw [e]
  exact ⟨hb, none, rfl, Reads.none_, .inl ⟨rfl, rfl⟩⟩
theorem unq_end_ok {w w' : World} {ws : List Nat} {s : Nat} (hn : ws.length ≤ 65535) (hs : s ≤ 3) (hs0 : ¬ (0 < s ∧ ws.length = 0)) {m : Nat} (hm : 4 * ws.length - s = m) {tl : List UInt8} (htl : (unpB ws).drop m = tl) (hall : ∀ t, t < tl.length → tl.getD t 0 = 0)
    (hb : Below w.heap.size w w') (A : Option Addr) (hr : RdB w' w'.heap.size A m ((unpB ws).take m)) (hd : OwnD w' w.heap.size A m) : UnQ ws s w (.returned (.tuple #[.slice A m m, .int .i64 0])) w' := by
  have e : unpR ws (s : Int) = ((unpB ws).take m, 0) := by
    rw [unpR_cond hn hs hs0 hm, if_pos]
    rw [htl]
    refine List.all_eq_true.2 fun x hx => ?_
    obtain ⟨t, ht, rfl⟩ := List.getElem_of_mem hx
    have := hall t ht
    rw [List.getD, List.getElem?_eq_getElem ht] at this
    simpa using this
  have hl : ((unpB ws).take m).length = m := hr.len1
  unfold UnQ
  rw [e]
  exact ⟨hb, A, by simp only [hl], by simpa only [hl] using hr, by simpa only [hl] using hd⟩
set_option maxRecDepth 20000 in
set_option maxHeartbeats 8000000 in
theorem unpackq_main (A : Option Addr) (c : Nat) (ws : List Nat) (s : Nat) (w : World) (h : RdW w w.heap.size A ws.length ws) (hx32 : ∀ x ∈ ws, x < 4294967296) (hn : ws.length ≤ 65535) (hs : s ≤ 3) (hs0 : ¬ (0 < s ∧ ws.length = 0)) :
    Calls Tryd.prog 28 #[.slice A ws.length c, .int .i64 (s : Int)] w (UnQ ws s w) := by
  obtain ⟨i0, hi, hz0, hz1, hz2⟩ := info_parts info5
  obtain ⟨wm, hrun, hown, hgrow⟩ := run_make_own (P := Tryd.prog) (w := w) w.heap.size 53 5 i0 (.int .u8 0) 1 Tryd.underlying53 hi hz0 hz1 .i64 .i64 (4 * ws.length) (by rw [hz2]; omega) (by simp only [maxLen]; omega) (Nat.le_refl _)
  rw [show ((4 * ws.length : Nat) : Int) = 4 * (ws.length : Int) from by omega] at hrun
  have H := Lib.hid h
  have HX32 := Lib.hid hx32
  have HOWN := Lib.hid hown
  have HBM : Hid (Below w.heap.size w wm) := Lib.hid ((Below.refl _ _).grown hgrow (Nat.le_refl _) (fun k hk => by cases hk))
  have HS0 := Lib.hid hs0
  clear hi hz0 hz1 hz2 h hx32 hown hgrow
  have t0 : (0 : Int) ≤ (s : Int) := by omega
  have t1 : (s : Int) ≤ 3 := by omega
  clear hs0
  go_enter Tryd.func28, Tryd.ntmps28
  go_upto_region 3 with fail
  go_cut [29] (fun s29 wx => s29 = .bool false ∧ w = wx)
  case first =>
    by_cases t3 : (0 : Int) < (s : Int)
    · have t6 : ((ws.length : Int) == 0) = false := by
        have h1 : ¬ ws.length = 0 := fun h2 => HS0.out ⟨by omega, h2⟩
        have : (ws.length : Int) ≠ 0 := by omega
        simpa using this
      go_wp2
      go_meet
      exact ⟨congrArg Value.bool (by simp; omega), rfl⟩
    · go_wp2
      go_meet
      exact ⟨congrArg Value.bool (by simp; omega), rfl⟩
  case rest =>
  obtain ⟨rfl, rfl⟩ := hcut
  go_wp2
  clear hrun
  go_loopw [6, 36] (fun v i wr => ∃ k : Nat, k ≤ ws.length ∧ i = .int .i64 k ∧ OwnB 5 wr w.heap.size v (unpB (ws.take k)) ∧ Below w.heap.size w wr) (fun _ i _ => ws.length - (intOf i).toNat)
  case atStart => exact ⟨0, Nat.zero_le _, rfl, HOWN.out, HBM.out⟩
  case round =>
    obtain ⟨k, hk, rfl, hown, hb⟩ := hrel
    by_cases hlt : k < ws.length
    · obtain ⟨ad, x, rfl, hb1, hx, hc⟩ := (H.out.below hb).word hlt
      have hx2 : x < 4294967296 := HX32.out x (List.mem_of_getElem? hx)
      have HT := Lib.hid (unpB_take hx)
      have HL := Lib.hid (unpB_len (ws.take k))
      have l1 : (0 : Int) ≤ (k : Int) := by omega
      have l2 : (k : Int) < (ws.length : Int) := by omega
      have HB := Lib.hid hb
      have HO := Lib.hid hown
      clear hx hb1 hb hown
      have HRB := Lib.hid (four_reads wr x hx2)
      have HLB : Hid ((unpB (ws.take k)).length + (four x).length ≤ 140737488355328) := Lib.hid (by rw [HL.out, List.length_take]; simp [four]; omega)
      go_wp2_with (at_builtin; refine wpList_app rfl (.tmp 40) (.tmp 52) 53 rfl w.heap.size 5 info5 Tryd.underlying53 _ (unpB (ws.take k)) rfl (HO.out.alloc _) _ _ _ _ (four x) rfl HRB.out HLB.out (by have := HB.out.size; simp; omega) ?_; intro v1 w1 hown1 happ1; have HO1 := Lib.hid hown1; have HB1 := Lib.hid ((HB.out.alloc HB.out.size _).trans (happ1.below (base := w.heap.size) (by have := HB.out.size; simp; omega) (fun k' hk' => (HO.out.lt k' hk').1))); clear hown1 happ1)
      go_roundw
      case rel => exact ⟨k + 1, by omega, by go_num, by rw [HT.out]; exact HO1.out, HB1.out⟩
      case measure => simp [intOf]; omega
    · obtain rfl : k = ws.length := by omega
      have HE : Hid (unpB (ws.take ws.length) = unpB ws) := Lib.hid (by rw [List.take_length])
      rw [HE.out] at hown
      obtain ⟨A8, c8, rfl, hc8, hc8m⟩ := OwnB.form hown
      have hl := unpB_len ws
      have hown2 : OwnB 5 wr w.heap.size (.slice A8 (unpB ws).length c8) (unpB ws) := hown
      rw [hl] at hown hc8 ⊢
      go_upto_region 12 with fail
      have hs4 : s ≤ 4 * ws.length := by
        by_cases h0 : ws.length = 0
        · have : ¬ 0 < s := fun h1 => HS0.out ⟨h1, h0⟩
          omega
        · omega
      obtain ⟨N, hN⟩ : ∃ N, 4 * ws.length = N := ⟨_, rfl⟩
      obtain ⟨m, hm⟩ : ∃ m, N - s = m := ⟨_, rfl⟩
      have hmN : m ≤ N := by omega
      rw [hN] at hown hc8 hs4 hl ⊢
      rw [show 4 * (ws.length : Int) - (s : Int) = (m : Int) from by omega]
      have hrd : RdB wr wr.heap.size A8 N (unpB ws) := by have := OwnB.reads hown2 rfl; rwa [hl] at this
      have HRD := Lib.hid hrd
      have HOD : Hid (OwnD wr w.heap.size A8 m) := Lib.hid (OwnD.of_own (by rwa [hl] at hown2) hl hmN)
      have HBW := Lib.hid hb
      have HUL := Lib.hid hl
      have HM := Lib.hid hm
      have HN := Lib.hid hN
      have hNl : N ≤ 262140 := by omega
      clear hown hown2 hb hl hrd hm hN hk hlt
      go_cut [61, 62, 63] (fun s61 s62 s63 wx => ∃ A9 c9, s61 = .slice A9 (N - m) c9 ∧ s62 = .int .i64 ((N - m : Nat) : Int) ∧ s63 = .int .i64 0 ∧ RdB wr wr.heap.size A9 (N - m) ((unpB ws).drop m) ∧ wr = wx)
      case first =>
        have l1 : (0 : Int) ≤ (m : Int) := by omega
        have l2 : (m : Int) ≤ (N : Int) := by omega
        have l3 : (m : Int) ≤ (c8 : Int) := by omega
        have HK := Lib.hid (cut_rdO HRD.out hmN hc8)
        by_cases hcm : c8 = m
        · have hcm2 := hcm.symm
          have e1 : Hid ((unpB ws).drop m = []) := Lib.hid (List.drop_eq_nil_of_le (by rw [HUL.out]; omega))
          have e0 : Hid (N - m = 0) := Lib.hid (by omega)
          subst hcm2
          go_wp2
          go_meet
          rw [e0.out, e1.out]
          exact ⟨_, _, rfl, rfl, rfl, Reads.none_, rfl⟩
        · go_wp2
          go_meet
          exact ⟨_, _, rfl, rfl, rfl, by have := HK.out; rwa [if_neg hcm] at this, rfl⟩
      case rest =>
      obtain ⟨A9, c9, rfl, rfl, rfl, hr9, rfl⟩ := hcut
      have HR9 := Lib.hid hr9
      have hsm : N - m = s := by have := HM.out; omega
      obtain ⟨s2, hs2⟩ : ∃ s2, N - m = s2 := ⟨_, rfl⟩
      rw [hs2] at HR9 ⊢
      have hs23 : s2 ≤ 3 := by omega
      have HS2 := Lib.hid hs2
      clear hr9 hsm hs2
      have hdl : ((unpB ws).drop m).length = s2 := HR9.out.len1
      have HDL := Lib.hid hdl
      obtain ⟨tl, HTL⟩ : ∃ tl, Hid ((unpB ws).drop m = tl) := ⟨_, rfl⟩
      rw [HTL.out] at HR9 HDL
      clear hdl
      go_wp2
      go_loopw [63] (fun i wx => ∃ j : Nat, j ≤ s2 ∧ i = .int .i64 j ∧ (∀ t, t < j → tl.getD t 0 = 0) ∧ wr = wx) (fun i _ => s2 - (intOf i).toNat)
      case atStart => exact ⟨0, Nat.zero_le _, rfl, (fun t ht => absurd ht (by omega)), rfl⟩
      case round =>
        obtain ⟨j, hj, rfl, hall, rfl⟩ := hrel
        have HALL := Lib.hid hall
        clear hall
        by_cases hlt : j < s2
        · obtain ⟨ad, x, rfl, hb1, hx, hc⟩ := HR9.out.byte hlt
          have l1 : (0 : Int) ≤ (j : Int) := by omega
          have l2 : (j : Int) < (s2 : Int) := by omega
          by_cases hx0 : x = 0
          · have d : ((x.toNat : Int) != 0) = false := by rw [hx0]; rfl
            have HX := Lib.hid hx
            have HX0 := Lib.hid hx0
            clear hx hb1 hx0
            go_wp2
            go_roundw
            case rel => exact ⟨j + 1, by omega, by go_num, (fun t ht => by
              by_cases e : t = j
              · rw [e, List.getD, HX.out, HX0.out]; rfl
              · exact HALL.out t (by omega)), by first | rfl | trivial⟩
            case measure => simp [intOf]; omega
          · have d : ((x.toNat : Int) != 0) = true := by
              have : x.toNat ≠ 0 := fun h => hx0 (UInt8.toNat_inj.1 (by rw [h]; rfl))
              have : (x.toNat : Int) ≠ 0 := by omega
              simpa using this
            have HEND := Lib.hid (unq_end_bad (w := w) (w' := wr) (ws := ws) (s := s) hn hs HS0.out (m := m) (by rw [HN.out]; exact HM.out) (j := j) (x := x) (by rw [HTL.out]; exact hx) hx0 HBW.out)
            clear hx hb1 hx0
            go_wp2
            go_ret2
            exact HEND.out
        · have HEND := Lib.hid fun (A : Option Addr) (hr : RdB wr wr.heap.size A m ((unpB ws).take m)) (hd : OwnD wr w.heap.size A m) => unq_end_ok (w := w) (w' := wr) (ws := ws) (s := s) hn hs HS0.out (m := m) (by rw [HN.out]; exact HM.out) (tl := tl) HTL.out (by rw [HDL.out]; exact fun t ht => HALL.out t (by omega)) HBW.out A hr hd
          have HRT := Lib.hid (HRD.out.first (k := m) hmN)
          have l1 : (0 : Int) ≤ (m : Int) := by omega
          have l2 : (m : Int) ≤ (c8 : Int) := by omega
          have hlt2 : ¬ (j : Int) < (s2 : Int) := by omega
          clear hlt
          go_wp2
          go_ret2
          exact HEND.out _ HRT.out HOD.out
set_option maxRecDepth 20000 in
set_option maxHeartbeats 4000000 in
theorem unpackq_any (A : Option Addr) (n c : Nat) (ws : List Nat) (sp : Int) (w : World) (h : RdW w w.heap.size A n ws) (hx32 : ∀ x ∈ ws, x < 4294967296) (hm : n ≤ 4611686018427387904) :
    Calls Tryd.prog 28 #[.slice A n c, .int .i64 sp] w (UnQ ws sp w) := by
  obtain rfl : ws.length = n := h.lenW
  by_cases c0 : 65535 < ws.length
  · have e : unpR ws sp = ([], 2) := by unfold unpR; rw [if_pos c0]
    have HB := Lib.hid (UnQ.bad (w := w) e)
    clear e h
    go_enter Tryd.func28, Tryd.ntmps28
    go_wp2
    go_ret2
    exact HB.out
  have g0 : ws.length ≤ 65535 := by omega
  by_cases c1 : sp < 0 ∨ 3 < sp ∨ (0 < sp ∧ ws.length = 0)
  · have e : unpR ws sp = ([], 1) := by unfold unpR; rw [if_neg c0, if_pos c1]
    have HB := Lib.hid (UnQ.bad (w := w) e)
    clear e h c0
    rcases c1 with c1 | c1 | ⟨c1, c2⟩
    · go_enter Tryd.func28, Tryd.ntmps28
      go_wp2
      go_ret2
      exact HB.out
    · have c3 : 0 ≤ sp := by omega
      go_enter Tryd.func28, Tryd.ntmps28
      go_wp2
      go_ret2
      exact HB.out
    · by_cases c3 : sp ≤ 3
      · have c4 : 0 ≤ sp := by omega
        have d : ((ws.length : Int) == 0) = true := by rw [c2]; rfl
        clear c2
        go_enter Tryd.func28, Tryd.ntmps28
        go_wp2
        go_ret2
        exact HB.out
      · have c4 : 0 ≤ sp := by omega
        clear c2
        go_enter Tryd.func28, Tryd.ntmps28
        go_wp2
        go_ret2
        exact HB.out
  obtain ⟨s, rfl⟩ := Int.eq_ofNat_of_zero_le (show 0 ≤ sp by omega)
  exact unpackq_main A c ws s w h hx32 g0 (by omega) (fun h1 => c1 (.inr (.inr ⟨by omega, h1.2⟩)))
end Go.Proofs.YtlopmhnakehnaaaDoor
