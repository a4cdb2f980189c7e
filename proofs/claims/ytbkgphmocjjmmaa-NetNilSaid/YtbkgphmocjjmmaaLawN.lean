/-
  The walk of the law NetNil f7.
-/
import Derived.Test.YtbkgphmocjjmmaaNtN
import Derived.BigQuiet
import Derived.Deep.CutBlock
namespace Go.Proofs.Ytbkgphmocjjmmaa
open Go.RowKit

/-- the cells of a net that New did not make -/
def net0 : Array Value := layN ⟨0, false, 0, 0, fun _ => [], fun _ => ⟨0, 0, 0, 0, 0, 0, 0⟩⟩ fun _ => .slice none 0 0
/-- a world of the walk: the act's box, the net that New did not make, the two pointers -/
structure SN (w : World) (a : Array Value) (W : World) : Prop where
  box : Blk W w.heap.size 55 a
  net : Blk W (w.heap.size + 1) 68 net0
  ptr : Blk W (w.heap.size + 2) 24 #[.pointer none, .pointer (some ⟨w.heap.size + 1, 0, none⟩)]
  old : Below w.heap.size w W
theorem SN.below {w W W' : World} {a : Array Value} (h : SN w a W) (hb : Below W.heap.size W W') : SN w a W' :=
  ⟨h.box.below hb h.box.lt, h.net.below hb h.net.lt, h.ptr.below hb h.ptr.lt, h.old.trans (hb.mono h.old.size)⟩
theorem SN.no {w W : World} {a : Array Value} (h : SN w a W) : NoNet W (some ⟨w.heap.size + 1, 0, none⟩) := .inr ⟨_, rfl, h.net.cell 0⟩
/-- the pointer of a round -/
theorem SN.at_ {w W : World} {a : Array Value} (h : SN w a W) {i : Nat} (hi : i < 2) : ∃ p, W.cell? ⟨w.heap.size + 2, i, none⟩ = some (.pointer p) ∧ ∀ W', SN w a W' → NoNet W' p := by
  rcases i with _ | _ | i
  · exact ⟨none, h.ptr.cell 0, fun _ _ => .inl rfl⟩
  · exact ⟨_, h.ptr.cell 1, fun _ h => h.no⟩
  · omega
theorem rd_nil (w : World) : RdB w 0 none 0 [] := Reads.none_
theorem samep_nil (w : World) : Calls Try.prog 22 #[.agg #[.int .i64 0, .slice none 0 0], .agg #[.int .i64 0, .slice none 0 0]] w (AwP w) :=
  (samep_any 0 0 none none 0 0 0 0 0 0 [] [] w (rd_nil w) (rd_nil w) (by omega) (by omega) (by omega)).mono fun _ _ h => ⟨h.1, h.2⟩
set_option maxRecDepth 20000 in
set_option maxHeartbeats 4000000 in
theorem nil_any (k z i j m : Int) (A : Option Addr) (n c : Nat) (w : World) : Calls Try.prog 7 #[actV k z i j m A n c] w (AwP w) := by
  unfold actV
  go_enter Try.func7, Try.ntmps7
  go_upto_region 4 with fail
  have hs0 : SN w #[.int .i64 k, .int .i64 z, .int .i64 i, .int .i64 j, .int .u8 m, .slice A n c] (((w.alloc _).alloc _).alloc _) :=
    ⟨((Blk.new w 55 _).alloc _).alloc _, (Blk.new' _ 68 _ _ (by simp)).alloc _, Blk.new' _ 24 _ _ (by simp), (((Below.refl _ _).alloc (Nat.le_refl _) _).alloc (by simp) _).alloc (by simp; omega) _⟩
  have HS0 := Lib.hid hs0
  clear hs0
  go_loopw [5] (fun q wr => ∃ t : Nat, t ≤ 2 ∧ q = .int .i64 t ∧ SN w #[.int .i64 k, .int .i64 z, .int .i64 i, .int .i64 j, .int .u8 m, .slice A n c] wr) (fun q _ => 2 - (intOf q).toNat)
  case atStart => exact ⟨0, Nat.zero_le _, rfl, HS0.out⟩
  case round =>
    obtain ⟨t, ht, rfl, hs⟩ := hrel
    have HS := Lib.hid hs
    clear hs HS0
    by_cases ht2 : t < 2
    · obtain ⟨p, hp, hno⟩ := HS.out.at_ ht2
      have HNO := Lib.hid hno
      have HT := Lib.hid ht2
      have hx1 := fun W (h : SN w #[.int .i64 k, .int .i64 z, .int .i64 i, .int .i64 j, .int .u8 m, .slice A n c] W) => h.box.cell 1
      have HX1 := Lib.hid hx1
      have l1 : (0 : Int) ≤ (t : Int) := by omega
      have l2 : (t : Int) < 2 := by omega
      have l3 : t < 2 := ht2
      clear hno ht2 ht hx1
      have x1 := HX1.out _ HS.out
      go_wp2_with fail
      refine (up_no p _ (HNO.out _ HS.out)).mono ?_
      rintro e w' ⟨rfl, rfl⟩
      go_wp2_with fail
      refine (epoch_no p _ (HNO.out _ HS.out)).mono ?_
      rintro e w' ⟨rfl, rfl⟩
      go_wp2_with fail
      refine (under_no p z _ (.inr (HNO.out _ HS.out))).mono ?_
      rintro e w' ⟨rfl, rfl⟩
      go_wp2_with fail
      refine (counts_no p z _ (.inr (HNO.out _ HS.out))).mono ?_
      rintro e w2 ⟨rfl, hb2⟩
      have HS2 := Lib.hid (HS.out.below hb2)
      clear hb2 x1 hp HS
      unfold cnt0
      go_wp2_with fail
      refine (connect_no p _ (HNO.out _ HS2.out)).mono ?_
      rintro e w' ⟨rfl, rfl⟩
      go_wp2_with fail
      refine (num_any _ _).mono ?_
      rintro e w' ⟨rfl, rfl⟩
      go_upto_region 10 with fail
      have x0 := HS2.out.box.cell 0
      have x1 := HS2.out.box.cell 1
      have x5 := HS2.out.box.cell 5
      go_quiet (fail)
      have HS3 := Lib.hid (HS2.out.below (below_drewN (Below.refl _ _) nq))
      clear x0 x1 x5 HS2
      generalize w2.drewN nq = w3 at *
      have x5 := HS3.out.box.cell 5
      go_upto_block 2 with fail
      go_cut [7] (fun s7 wx => s7 = .int .i64 (wantN k z n) ∧ wx = w3)
      case first =>
        have hleaf : ∀ v : Int, wantN k z n = v → Hid (wantN k z n = v) := fun _ h => Lib.hid h
        by_cases k1 : k = 1
        · have HV := hleaf 1 (by unfold wantN; rw [if_pos k1])
          have d1 : (k == 1) = true := by rw [k1]; rfl
          clear k1 hleaf
          go_wp2_with fail
          go_meet
          exact ⟨by rw [HV.out], rfl⟩
        · have d1 : (k == 1) = false := by rw [beq_eq_false_iff_ne]; exact k1
          by_cases k2 : k < 1
          · have HV := hleaf 184 (by unfold wantN; rw [if_neg k1, if_pos (.inl k2)])
            clear k1 hleaf
            go_wp2_with fail
            go_meet
            exact ⟨by rw [HV.out], rfl⟩
          · by_cases k3 : 8 < k
            · have HV := hleaf 184 (by unfold wantN; rw [if_neg k1, if_pos (.inr k3)])
              clear k1 hleaf
              go_wp2_with fail
              go_meet
              exact ⟨by rw [HV.out], rfl⟩
            · have k0 : ¬ (k < 1 ∨ 8 < k) := by omega
              by_cases k4 : 2 < k
              · by_cases z1 : z < 1
                · have HV := hleaf 182 (by unfold wantN; rw [if_neg k1, if_neg k0, if_pos ⟨k4, .inl z1⟩])
                  clear k1 hleaf k0
                  go_wp2_with fail
                  go_meet
                  exact ⟨by rw [HV.out], rfl⟩
                · by_cases z2 : 2 < z
                  · have HV := hleaf 182 (by unfold wantN; rw [if_neg k1, if_neg k0, if_pos ⟨k4, .inr z2⟩])
                    clear k1 hleaf k0
                    go_wp2_with fail
                    go_meet
                    exact ⟨by rw [HV.out], rfl⟩
                  · have z0 : ¬ (2 < k ∧ (z < 1 ∨ 2 < z)) := by omega
                    by_cases k5 : k = 3
                    · have d3 : (k == 3) = true := by rw [k5]; rfl
                      by_cases n1 : 8192 < n
                      · have HV := hleaf 2 (by unfold wantN; rw [if_neg k1, if_neg k0, if_neg z0, if_pos ⟨k5, n1⟩])
                        have n2 : (8192 : Int) < (n : Int) := by omega
                        clear k1 hleaf k0 z0 k5 n1
                        go_wp2_with fail
                        go_meet
                        exact ⟨by rw [HV.out], rfl⟩
                      · have HV := hleaf 181 (by unfold wantN; rw [if_neg k1, if_neg k0, if_neg z0, if_neg (fun h => n1 h.2)])
                        have n2 : ¬ (8192 : Int) < (n : Int) := by omega
                        clear k1 hleaf k0 z0 k5 n1
                        go_wp2_with fail
                        go_meet
                        exact ⟨by rw [HV.out], rfl⟩
                    · have d3 : (k == 3) = false := by rw [beq_eq_false_iff_ne]; exact k5
                      have HV := hleaf 181 (by unfold wantN; rw [if_neg k1, if_neg k0, if_neg z0, if_neg (fun h => k5 h.1)])
                      clear k1 hleaf k0 z0 k5
                      go_wp2_with fail
                      go_meet
                      exact ⟨by rw [HV.out], rfl⟩
              · have d3 : (k == 3) = false := by rw [beq_eq_false_iff_ne]; omega
                have HV := hleaf 181 (by unfold wantN; rw [if_neg k1, if_neg k0, if_neg (fun h => k4 h.1), if_neg (fun h => k4 (by omega))])
                clear k1 hleaf k0
                go_wp2_with fail
                go_meet
                exact ⟨by rw [HV.out], rfl⟩
      case rest =>
        obtain ⟨rfl, rfl⟩ := hcut
        have x0 := HS3.out.box.cell 0
        have x1 := HS3.out.box.cell 1
        have x2 := HS3.out.box.cell 2
        have x3 := HS3.out.box.cell 3
        have x4 := HS3.out.box.cell 4
        go_wp2_with fail
        refine (act_no p k z i j m A n c _ (HNO.out _ HS3.out)).mono ?_
        rintro e w4 ⟨rfl, hb4⟩
        have HS4 := Lib.hid (HS3.out.below hb4)
        clear hb4 x0 x1 x2 x3 x4 x5 HS3
        unfold toldV
        generalize wantN k z n = V
        go_wp2_with fail
        refine (num_any _ _).mono ?_
        rintro e w' ⟨rfl, rfl⟩
        go_wp2_with fail
        refine (samep_nil _).mono ?_
        rintro e w5 ⟨rfl, hb5⟩
        have HS5 := Lib.hid (HS4.out.below (((Below.refl _ _).alloc (Nat.le_refl _) _).trans (hb5.mono (by simp))))
        clear hb5 HS4
        go_wp2_with fail
        refine (cut_no p _ (up_no p _ (HNO.out _ HS5.out))).mono ?_
        rintro e w' ⟨rfl, rfl⟩
        go_wp2_with fail
        refine (num_any _ _).mono ?_
        rintro e w' ⟨rfl, rfl⟩
        go_wp2_with fail
        refine (up_no p _ (HNO.out _ HS5.out)).mono ?_
        rintro e w' ⟨rfl, rfl⟩
        go_wp2
        go_roundw
        case rel => exact ⟨t + 1, HT.out, by go_num, HS5.out⟩
        case measure => simp [intOf]; omega
    · obtain rfl : t = 2 := by omega
      go_wp2_with fail
      refine (awake_any _).mono ?_
      rintro e w2 ⟨rfl, hb⟩
      have HB : Hid (Below w.heap.size w w2) := Lib.hid (HS.out.old.trans (hb.mono HS.out.old.size))
      clear hb
      go_wp2
      go_ret
      exact ⟨rfl, HB.out⟩
end Go.Proofs.Ytbkgphmocjjmmaa
