/-
  The walks of the document's numbers: a number times a base; its text.
-/
import Derived.Test.YtaigfelpecdajaaRefA
import Derived.Laws.MakeOwn
namespace Go.Proofs.Ytaigfelpecdajaa
open Go.RowKit

theorem made_own (w : World) (n : Nat) (hn : n ≤ 1000000) : OwnB 5 (w.alloc (.cells (madeCells #[.int .u8 0] n) 5)) w.heap.size (.slice (some ⟨w.heap.size, 0, none⟩) n n) (List.replicate n 0) := by
  have h := World.ownsRow_lit (base := w.heap.size) (e := 5) (size := 1) w (madeCells #[.int .u8 0] n) n (Nat.le_refl _) (by simp only [maxLen]; omega) (by simp [madeCells])
  rw [toList_madeCells_one] at h
  show World.ownsRow _ _ _ _ _ (List.replicate n (0 : UInt8)).length ((List.replicate n (0 : UInt8)).map bv)
  rw [List.length_replicate, List.map_replicate]
  exact h
theorem dgB_rep (done : List Nat) (k : Nat) : Lx.dgB (done ++ List.replicate k 0) = Lx.dgB done ++ List.replicate k 0 := by simp [Lx.dgB]
/-- what grown hands back -/
def GrowP (m : List Nat) (w : World) (e : Ending) (w' : World) : Prop := ∃ v', e = .returned v' ∧ OwnG w' w.heap.size v' m ∧ Below w.heap.size w w'
theorem mid_set0 {done : List Nat} {k d : Nat} : (done ++ List.replicate (k + 1) 0).set done.length d = (done ++ [d]) ++ List.replicate k 0 := by
  rw [List.replicate_succ]; exact mid_set
set_option maxRecDepth 20000 in
set_option maxHeartbeats 4000000 in
theorem grown_any (A : Option Addr) (cp base d : Nat) (m : List Nat) (w : World) (h : RdB w w.heap.size A m.length (Lx.dgB m)) (hm : Lx.Dg m) (hl : m.length ≤ 100000) (h36 : base ≤ 36) (hd : d < base) :
    Calls Try.prog 55 #[.slice A m.length cp, .int .i64 (base : Int), .int .i64 (d : Int)] w (GrowP (Lx.growF base m d) w) := by
  obtain ⟨i0, hi, hz0, hz1, hz2⟩ := info_parts info5'
  have hmk := fun (w : World) => run_make_rowN (P := Try.prog) 47 5 i0 (.int .u8 0) Try.underlying47 hi hz0 .i64 .i64 m.length m.length (Nat.le_refl _) (by rw [hz2]; omega) (by omega) w
  simp only [hz1, Nat.mul_one, Value.cells] at hmk
  have HMO := Lib.hid (made_own w m.length (by omega))
  have H := Lib.hid h
  have HDM := Lib.hid hm
  have HD := Lib.hid hd
  clear h hm hi hz0 hz1 hz2 hd
  go_enter Try.func55, Try.ntmps55
  go_wp2
  clear hmk
  go_loopw [2, 8] (fun s2 s8 wx => ∃ (j c : Nat) (done : List Nat), j ≤ m.length ∧ s8 = .int .i64 j ∧ s2 = .int .i64 c ∧ c < base ∧ done.length = j ∧ Lx.Dg done ∧ done ++ Lx.growF base (m.drop j) c = Lx.growF base m d ∧
    OwnG wx w.heap.size (.slice (some ⟨w.heap.size, 0, none⟩) m.length m.length) (done ++ List.replicate (m.length - j) 0) ∧ Below w.heap.size w wx) (fun _ s8 _ => m.length - (intOf s8).toNat)
  case atStart => exact ⟨0, d, [], Nat.zero_le _, rfl, rfl, HD.out, rfl, (fun x hx => by cases hx), rfl, by have h := HMO.out; show OwnB _ _ _ _ _; simp only [List.nil_append, Nat.sub_zero]; rw [show Lx.dgB (List.replicate m.length 0) = List.replicate m.length 0 from by simp [Lx.dgB]]; exact h, (Below.refl _ _).alloc (Nat.le_refl _) _⟩
  case round =>
    obtain ⟨j, c, done, hj, rfl, rfl, hcb, hdl, hdd, hgr, hown, hb⟩ := hrel
    have HO2 := Lib.hid hown
    have HB2 := Lib.hid hb
    have HGR := Lib.hid hgr
    have HDD := Lib.hid hdd
    have HDL := Lib.hid hdl
    clear hown hb hgr hdd hdl
    by_cases hjl : j < m.length
    · have hy10 : m[j] < 10 := HDM.out _ (List.getElem_mem hjl)
      have HDJ := Lib.hid (drop_get hjl)
      obtain ⟨ad, x, rfl, hb1, hx, hc⟩ := (H.out.below HB2.out).byte hjl
      have hxv : (x.toNat : Int) = (m[j] : Nat) := by
        have e : x = UInt8.ofNat m[j] := by
          rw [Lx.dgB, List.getElem?_map, List.getElem?_eq_getElem hjl] at hx
          exact (Option.some.inj hx).symm
        rw [e]; exact ofNat_val (by omega)
      rw [hxv] at hc
      obtain ⟨y, hy⟩ : ∃ y, m[j] = y := ⟨_, rfl⟩
      rw [hy] at HDJ hy10 hc
      rw [HDJ.out] at HGR
      have hk : m.length - j = (m.length - (j + 1)) + 1 := by omega
      rw [hk] at HO2
      have HLL : Hid ((done ++ List.replicate ((m.length - (j + 1)) + 1) 0).length = m.length) := Lib.hid (by simp [HDL.out]; omega)
      have c1 := (OwnG.at_ HO2.out HLL.out (i := j) (y := 0) (by rw [← HDL.out, List.replicate_succ]; exact mid_get) (by omega)).1
      have f1 := (OwnG.at_ HO2.out HLL.out (i := j) (y := 0) (by rw [← HDL.out, List.replicate_succ]; exact mid_get) (by omega)).2
      have HST := Lib.hid (OwnG.stored HO2.out HLL.out done.length ((y * base + c) % 10) (by omega))
      rw [mid_set0, HDL.out] at HST
      have HQ0 : Hid ((((y * base + c) % 10 : Nat) : Int) = ((y : Int) * (base : Int) + (c : Int)) % 10) := Lib.hid (by rw [Int.natCast_emod, Int.natCast_add, Int.natCast_mul]; rfl)
      have HQ : Hid ((((y * base + c) / 10 : Nat) : Int) = ((y : Int) * (base : Int) + (c : Int)) / 10) := Lib.hid (by rw [Int.natCast_ediv, Int.natCast_add, Int.natCast_mul]; rfl)
      rw [HQ0.out] at HST
      have p1 : (0 : Int) ≤ (y : Int) * (base : Int) := Int.mul_nonneg (by omega) (by omega)
      have p2 : (y : Int) * (base : Int) ≤ 9 * 36 := Int.mul_le_mul (by omega) (by omega) (by omega) (by omega)
      have HCL := Lib.hid (Lx.carry_lt hy10 hcb)
      clear hx hxv hy hk hb1
      go_wp2
      go_roundw
      case rel => exact ⟨j + 1, (y * base + c) / 10, done ++ [(y * base + c) % 10], hjl, by go_num, by rw [HQ.out], HCL.out, by simp [HDL.out], (fun z hz => by
        rcases List.mem_append.1 hz with hz | hz
        · exact HDD.out z hz
        · simp at hz; omega), by rw [← HGR.out]; simp [Lx.growF], HST.out, HB2.out.setCell (Nat.le_refl _) _⟩
      case measure => simp [intOf]; omega
    · obtain rfl : j = m.length := by omega
      have HO3 : Hid (OwnG wr w.heap.size (.slice (some ⟨w.heap.size, 0, none⟩) m.length m.length) done) := Lib.hid (by have := HO2.out; rwa [Nat.sub_self, List.replicate_zero, List.append_nil] at this)
      have HG3 : Hid (done ++ Lx.co c = Lx.growF base m d) := Lib.hid (by have := HGR.out; rwa [List.drop_length] at this)
      have HGL := Lib.hid (Lx.growF_len base m d)
      clear HO2 HGR hj hjl H HMO
      obtain ⟨wi, rfl⟩ : ∃ wi : World, wi = wr := ⟨_, rfl⟩
      go_wp2
      go_loopw [2, 7] (fun s2 v wx => ∃ (c : Nat) (cur : List Nat), s2 = .int .i64 c ∧ c < 100 ∧ cur ++ Lx.co c = Lx.growF base m d ∧ OwnG wx w.heap.size v cur ∧ Below w.heap.size w wx) (fun s2 _ _ => (intOf s2).toNat)
      case atStart => exact ⟨c, done, rfl, by omega, HG3.out, HO3.out, HB2.out⟩
      case round =>
        obtain ⟨c1, cur, rfl, hc100, hg4, hown, hb⟩ := hrel
        have HO4 := Lib.hid hown
        have HB4 := Lib.hid hb
        have HG4 := Lib.hid hg4
        clear hown hb hg4
        by_cases h0 : 0 < c1
        · have HCO := Lib.hid (Lx.co_step h0 hc100)
          have HCL : Hid (cur.length ≤ m.length + 2) := Lib.hid (by
            have h1 := HGL.out
            rw [← HG4.out, List.length_append] at h1
            omega)
          have HRD : Hid (RdB (wr.alloc (.cells #[.int .u8 ((c1 : Int) % 10)] 5)) (wr.heap.size + 1) (some ⟨wr.heap.size, 0, none⟩) 1 [UInt8.ofNat (c1 % 10)]) := Lib.hid (by
            have h1 := read_one8 wr (UInt8.ofNat (c1 % 10))
            rw [ofNat_val (by omega), Int.natCast_emod] at h1
            exact h1)
          have HLD : Hid ((Lx.dgB cur).length + 1 ≤ 140737488355328) := Lib.hid (by rw [Lx.dgB_len]; have := HCL.out; omega)
          go_wp2_with (at_builtin; refine wpList_app rfl (.tmp 38) (.tmp 42) 47 rfl w.heap.size 5 info5' Try.underlying47 _ (Lx.dgB cur) rfl (HO4.out.alloc _) _ _ _ _ [UInt8.ofNat (c1 % 10)] rfl HRD.out HLD.out (by have := HB4.out.size; simp; omega) ?_; intro v1 w1 hown1 happ1; have HO5 := Lib.hid hown1; have HA5 := Lib.hid happ1; clear hown1 happ1)
          go_roundw
          case rel => exact ⟨c1 / 10, cur ++ [c1 % 10], by rw [Int.natCast_ediv]; rfl, by omega, by rw [← HG4.out, HCO.out]; simp, by have h := HO5.out; rw [show Lx.dgB cur ++ [UInt8.ofNat (c1 % 10)] = Lx.dgB (cur ++ [c1 % 10]) from by simp [Lx.dgB]] at h; exact h, bapp HB4.out HO4.out HA5.out⟩
          case measure => simp [intOf]; omega
        · obtain rfl : c1 = 0 := by omega
          have HE2 : Hid (cur = Lx.growF base m d) := Lib.hid (by have := HG4.out; rwa [Lx.co_zero, List.append_nil] at this)
          go_wp2
          go_ret
          exact ⟨_, rfl, by rw [← HE2.out]; exact HO4.out, HB4.out⟩
end Go.Proofs.Ytaigfelpecdajaa
