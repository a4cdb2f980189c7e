/-
  The contract of the document's UnpackBytes.
-/
import Derived.Test.YtlopmhnakehnaaaDoorUnb
namespace Go.Proofs.YtlopmhnakehnaaaDoor
open Go.RowKit

/-- byte t of a word, and what is left behind t bytes -/
theorem four_take {x t : Nat} (ht : t < 4) : (four x).take (t + 1) = (four x).take t ++ [UInt8.ofNat (x / 256 ^ t)] := by
  obtain rfl | rfl | rfl | rfl : t = 0 ∨ t = 1 ∨ t = 2 ∨ t = 3 := by omega
  all_goals simp [four]
theorem one_read (w : World) (v : Nat) : RdB (w.alloc (.cells #[.int .u8 ((v : Int) % 256)] 5)) (w.heap.size + 1) (some ⟨w.heap.size, 0, none⟩) 1 [UInt8.ofNat v] := by
  have h := Reads.built w 5 ([UInt8.ofNat v].map bv)
  have e : ([UInt8.ofNat v].map bv).toArray = #[.int .u8 ((v : Int) % 256)] := by
    simp only [List.map_cons, List.map_nil, bv, u8n]
  rw [e] at h
  exact h
theorem div_pow {x t : Nat} : x / 256 ^ (t + 1) = x / 256 ^ t / 256 := by rw [Nat.pow_succ, Nat.div_div_eq_div_mul]

set_option maxRecDepth 20000 in
set_option maxHeartbeats 8000000 in
theorem runpackb_main (A : Option Addr) (c : Nat) (ws : List Nat) (s : Nat) (w : World) (h : RdW w w.heap.size A ws.length ws) (hx32 : ∀ x ∈ ws, x < 4294967296) (hn : ws.length ≤ 65535) (hs : s ≤ 3) (hs0 : ¬ (0 < s ∧ ws.length = 0)) :
    Calls Tryd.prog 32 #[.slice A ws.length c, .int .i64 (s : Int)] w (UnP ws s w) := by
  have H := Lib.hid h
  have HX32 := Lib.hid hx32
  have HS0 := Lib.hid hs0
  clear h hx32 hs0
  have t0 : (0 : Int) ≤ (s : Int) := by omega
  have t1 : (s : Int) ≤ 3 := by omega
  go_enter Tryd.func32, Tryd.ntmps32
  go_upto_region 3 with fail
  go_cut [28] (fun s29 wx => s29 = .bool false ∧ w = wx)
  case first =>
    by_cases t3 : (0 : Int) < (s : Int)
    · have t6 : ((ws.length : Int) == 0) = false := by
        have h1 : ¬ ws.length = 0 := fun h2 => HS0.out ⟨by omega, h2⟩
        have : (ws.length : Int) ≠ 0 := by omega
        simpa using this
      go_wp2
      go_meet
      exact ⟨congrArg Value.bool (by simp; omega), rfl⟩
    · go_wp2
      go_meet
      exact ⟨congrArg Value.bool (by simp; omega), rfl⟩
  case rest =>
  obtain ⟨rfl, rfl⟩ := hcut
  go_wp2
  go_loopw [6, 31] (fun v i wr => ∃ k : Nat, k ≤ ws.length ∧ i = .int .i64 k ∧ OwnB 5 wr w.heap.size v (unpB (ws.take k)) ∧ Below w.heap.size w wr) (fun _ i _ => ws.length - (intOf i).toNat)
  case atStart => exact ⟨0, Nat.zero_le _, rfl, OwnB.nil 5 w _, Below.refl _ _⟩
  case round =>
    obtain ⟨k, hk, rfl, hown, hb⟩ := hrel
    by_cases hlt : k < ws.length
    · obtain ⟨ad, x, rfl, hb1, hx, hc⟩ := (H.out.below hb).word hlt
      have hx2 : x < 4294967296 := HX32.out x (List.mem_of_getElem? hx)
      have HT := Lib.hid (unpB_take hx)
      have HL := Lib.hid (unpB_len (ws.take k))
      have l1 : (0 : Int) ≤ (k : Int) := by omega
      have l2 : (k : Int) < (ws.length : Int) := by omega
      have HB := Lib.hid hb
      have HO := Lib.hid hown
      have hkl : (ws.take k).length ≤ 65535 := by rw [List.length_take]; omega
      clear hx hb1 hb hown
      generalize unpB (ws.take k) = acc at HT HL HO ⊢
      have hal : acc.length ≤ 262140 := by rw [HL.out]; omega
      clear hkl
      go_wp2
      obtain ⟨wo, rfl⟩ : ∃ wo : World, wo = wr := ⟨_, rfl⟩
      go_loopw [6, 8, 9] (fun v y i wx => ∃ t : Nat, t ≤ 4 ∧ i = .int .i64 t ∧ y = .int .u32 (x / 256 ^ t : Nat) ∧ OwnB 5 wx w.heap.size v (acc ++ (four x).take t) ∧ Below w.heap.size w wx) (fun _ _ i _ => 4 - (intOf i).toNat)
      case atStart => exact ⟨0, by omega, rfl, by simp, by rw [List.take_zero, List.append_nil]; exact HO.out, HB.out⟩
      case round =>
        obtain ⟨t, ht, rfl, rfl, hown, hb⟩ := hrel
        by_cases htl : t < 4
        · have HFT := Lib.hid (four_take (x := x) htl)
          have HDP := Lib.hid (div_pow (x := x) (t := t))
          have hv : x / 256 ^ t < 4294967296 := Nat.lt_of_le_of_lt (Nat.div_le_self _ _) hx2
          generalize x / 256 ^ t = v at HFT HDP hv ⊢
          have HB2 := Lib.hid hb
          have HO2 := Lib.hid hown
          have hl2 : (acc ++ (four x).take t).length + 1 ≤ 140737488355328 := by rw [List.length_append, List.length_take]; simp [four]; omega
          have HL2 := Lib.hid hl2
          clear hb hown hl2
          go_wp2_with (at_builtin; refine wpList_app rfl (.tmp 39) (.tmp 43) 53 rfl w.heap.size 5 info5 Tryd.underlying53 _ (acc ++ (four x).take t) rfl (HO2.out.alloc _) _ _ _ _ [UInt8.ofNat v] rfl (one_read _ v) HL2.out (by have := HB2.out.size; simp; omega) ?_; intro v1 w1 hown1 happ1; have HO1 := Lib.hid hown1; have HB1 := Lib.hid ((HB2.out.alloc HB2.out.size _).trans (happ1.below (base := w.heap.size) (by have := HB2.out.size; simp; omega) (fun k' hk' => (HO2.out.lt k' hk').1))); clear hown1 happ1)
          go_roundw
          case rel => exact ⟨t + 1, by omega, by go_num, by rw [HDP.out]; go_num, by rw [HFT.out, ← List.append_assoc]; exact HO1.out, HB1.out⟩
          case measure => simp [intOf]; omega
        · obtain rfl : t = 4 := by omega
          have HE4 : Hid ((four x).take 4 = four x) := Lib.hid rfl
          rw [HE4.out] at hown
          have HB2 := Lib.hid hb
          have HO2 := Lib.hid hown
          clear hb hown
          go_wp2
          go_roundw
          case rel => exact ⟨k + 1, by omega, by go_num, by rw [HT.out]; exact HO2.out, HB2.out⟩
          case measure => simp [intOf]; omega
    · obtain rfl : k = ws.length := by omega
      have HE : Hid (unpB (ws.take ws.length) = unpB ws) := Lib.hid (by rw [List.take_length])
      rw [HE.out] at hown
      obtain ⟨A8, c8, rfl, hc8, hc8m⟩ := OwnB.form hown
      have hl := unpB_len ws
      have hrd : RdB wr wr.heap.size A8 (unpB ws).length (unpB ws) := OwnB.reads hown rfl
      have hs4 : s ≤ 4 * ws.length := by
        by_cases h0 : ws.length = 0
        · have : ¬ 0 < s := fun h1 => HS0.out ⟨h1, h0⟩
          omega
        · omega
      obtain ⟨N, hN⟩ : ∃ N, 4 * ws.length = N := ⟨_, rfl⟩
      obtain ⟨m, hm⟩ : ∃ m, N - s = m := ⟨_, rfl⟩
      have hmN : m ≤ N := by omega
      rw [hl, hN] at hrd hc8 ⊢
      have HRD := Lib.hid hrd
      have HBW := Lib.hid hb
      have HUL : Hid ((unpB ws).length = N) := Lib.hid (by omega)
      have HM := Lib.hid hm
      have HN := Lib.hid hN
      have hNl : N ≤ 262140 := by omega
      have hsub : (N : Int) - (s : Int) = (m : Int) := by omega
      obtain ⟨tl, HTL⟩ : ∃ tl, Hid ((unpB ws).drop m = tl) := ⟨_, rfl⟩
      clear hown hb hl hrd hm hN hk hlt
      go_wp2
      go_loopw [10] (fun i wx => ∃ j : Nat, m ≤ j ∧ j ≤ N ∧ i = .int .i64 j ∧ (∀ t, m + t < j → tl.getD t 0 = 0) ∧ wr = wx) (fun i _ => N - (intOf i).toNat)
      case atStart => exact ⟨m, Nat.le_refl _, hmN, rfl, (fun t ht => absurd ht (by omega)), rfl⟩
      case round =>
        obtain ⟨j, hmj, hj, rfl, hall, rfl⟩ := hrel
        have HALL := Lib.hid hall
        clear hall
        by_cases hlt : j < N
        · obtain ⟨ad, x, rfl, hb1, hx, hc⟩ := HRD.out.byte hlt
          have l1 : (0 : Int) ≤ (j : Int) := by omega
          have l2 : (j : Int) < (N : Int) := by omega
          have htx : tl[j - m]? = some x := by rw [← HTL.out, List.getElem?_drop, show m + (j - m) = j from by omega]; exact hx
          by_cases hx0 : x = 0
          · have d : ((x.toNat : Int) != 0) = false := by rw [hx0]; rfl
            have HX := Lib.hid htx
            have HX0 := Lib.hid hx0
            clear hx htx hb1 hx0
            go_wp2
            go_roundw
            case rel => exact ⟨j + 1, by omega, by omega, by go_num, (fun t ht => by
              by_cases e : m + t = j
              · have e2 : t = j - m := by omega
                rw [e2, List.getD, HX.out, HX0.out]; rfl
              · exact HALL.out t (by omega)), by first | rfl | trivial⟩
            case measure => simp [intOf]; omega
          · have d : ((x.toNat : Int) != 0) = true := by
              have : x.toNat ≠ 0 := fun h => hx0 (UInt8.toNat_inj.1 (by rw [h]; rfl))
              have : (x.toNat : Int) ≠ 0 := by omega
              simpa using this
            have HEND := Lib.hid (unp_end_bad (w := w) (w' := wr) (ws := ws) (s := s) hn hs HS0.out (m := m) (by rw [HN.out]; exact HM.out) (j := j - m) (x := x) (by rw [HTL.out]; exact htx) hx0 HBW.out)
            clear hx htx hb1 hx0
            go_wp2
            go_ret2
            exact HEND.out
        · have HTN : Hid (tl.length = N - m) := Lib.hid (by rw [← HTL.out, List.length_drop, HUL.out])
          have HEND := Lib.hid fun (A : Option Addr) (c : Nat) (hr : RdB wr wr.heap.size A m ((unpB ws).take m)) => unp_end_ok (w := w) (w' := wr) (ws := ws) (s := s) hn hs HS0.out (m := m) (by rw [HN.out]; exact HM.out) (tl := tl) HTL.out (fun t ht => HALL.out t (by rw [HTN.out] at ht; omega)) HBW.out A c hr
          have HRT := Lib.hid (HRD.out.first (k := m) hmN)
          have l1 : (0 : Int) ≤ (m : Int) := by omega
          have l2 : (m : Int) ≤ (c8 : Int) := by omega
          go_wp2
          go_ret2
          exact HEND.out _ _ HRT.out
set_option maxRecDepth 20000 in
set_option maxHeartbeats 4000000 in
theorem runpackb_any (A : Option Addr) (n c : Nat) (ws : List Nat) (sp : Int) (w : World) (h : RdW w w.heap.size A n ws) (hx32 : ∀ x ∈ ws, x < 4294967296) (hm : n ≤ 4611686018427387904) :
    Calls Tryd.prog 32 #[.slice A n c, .int .i64 sp] w (UnP ws sp w) := by
  obtain rfl : ws.length = n := h.lenW
  by_cases c0 : 65535 < ws.length
  · have e : unpR ws sp = ([], 2) := by unfold unpR; rw [if_pos c0]
    have HB := Lib.hid (UnP.bad (w := w) e)
    clear e h
    go_enter Tryd.func32, Tryd.ntmps32
    go_wp2
    go_ret2
    exact HB.out
  have g0 : ws.length ≤ 65535 := by omega
  by_cases c1 : sp < 0 ∨ 3 < sp ∨ (0 < sp ∧ ws.length = 0)
  · have e : unpR ws sp = ([], 1) := by unfold unpR; rw [if_neg c0, if_pos c1]
    have HB := Lib.hid (UnP.bad (w := w) e)
    clear e h c0
    rcases c1 with c1 | c1 | ⟨c1, c2⟩
    · go_enter Tryd.func32, Tryd.ntmps32
      go_wp2
      go_ret2
      exact HB.out
    · have c3 : 0 ≤ sp := by omega
      go_enter Tryd.func32, Tryd.ntmps32
      go_wp2
      go_ret2
      exact HB.out
    · by_cases c3 : sp ≤ 3
      · have c4 : 0 ≤ sp := by omega
        have d : ((ws.length : Int) == 0) = true := by rw [c2]; rfl
        clear c2
        go_enter Tryd.func32, Tryd.ntmps32
        go_wp2
        go_ret2
        exact HB.out
      · have c4 : 0 ≤ sp := by omega
        clear c2
        go_enter Tryd.func32, Tryd.ntmps32
        go_wp2
        go_ret2
        exact HB.out
  obtain ⟨s, rfl⟩ := Int.eq_ofNat_of_zero_le (show 0 ≤ sp by omega)
  exact runpackb_main A c ws s w h hx32 g0 (by omega) (fun h1 => c1 (.inr (.inr ⟨by omega, h1.2⟩)))
end Go.Proofs.YtlopmhnakehnaaaDoor
