/-
  The walk of the document's Act f21.
-/
import Derived.Test.YtbkgphmocjjmmaaRnH
import Derived.Test.YtbkgphmocjjmmaaNtX
namespace Go.Proofs.Ytbkgphmocjjmmaa
open Go.RowKit

theorem conn_end {w W : World} {k z i j m : Int} {A : Option Addr} {n c g : Nat} {S : Ns} {v : Bool → Value} {l : Bool → List LP} (h : NetR w g S v l) (hs : RatS w k z i j m A n c W) :
    Blk ((W.setCell ⟨g, 1, none⟩ (.bool true)).setCell ⟨g, 2, none⟩ (.int .i64 (S.epoch + 1))) (w.heap.size + 1) 36 #[.int .i64 0, .slice none 0 0] ∧
    Blk ((((W.setCell ⟨g, 1, none⟩ (.bool true)).setCell ⟨g, 2, none⟩ (.int .i64 (S.epoch + 1))).setCell ⟨w.heap.size + 1, 0, none⟩ (.int .i64 0)).setCell ⟨w.heap.size + 1, 1, none⟩ (.slice none 0 0)) (w.heap.size + 1) 36 #[.int .i64 0, .slice none 0 0] ∧
    RStepP w g v l S.conn 0 [] 0 (.returned (.tuple #[.agg #[.int .i64 0, .slice none 0 0], .int .i64 0])) ((((W.setCell ⟨g, 1, none⟩ (.bool true)).setCell ⟨g, 2, none⟩ (.int .i64 (S.epoch + 1))).setCell ⟨w.heap.size + 1, 0, none⟩ (.int .i64 0)).setCell ⟨w.heap.size + 1, 1, none⟩ (.slice none 0 0)) := by
  have hc : Chg (· = g) W ((W.setCell ⟨g, 1, none⟩ (.bool true)).setCell ⟨g, 2, none⟩ (.int .i64 (S.epoch + 1))) := ((Chg.refl (· = g) W).setCell (p := ⟨g, 1, none⟩) (fun _ => rfl) _).setCell (p := ⟨g, 2, none⟩) (fun _ => rfl) _
  have hW := h.below hs.old
  have hn : NetR ((W.setCell ⟨g, 1, none⟩ (.bool true)).setCell ⟨g, 2, none⟩ (.int .i64 (S.epoch + 1))) g S.conn v l := hW.head ((hW.blk.set_ 1 _).set_ 2 _) rfl (fun k hk hn => hc.block k hk hn) (by decide) (by decide)
  exact rat_end (num := 0) (A := none) (c := 0) (bytes := []) 0 h hs.old hs.res (by omega) hn (fun k hk => .inl hk) (hc.mono fun k _ e => .inl e) (OwnQ.nil _ _ _)
set_option maxRecDepth 20000 in
set_option maxHeartbeats 4000000 in
theorem ract_conn0 (g : Nat) (S : Ns) (v : Bool → Value) (l : Bool → List LP) (k z i j m : Int) (A : Option Addr) (n c : Nat) (w : World) (h : NetR w g S v l) (hk : k = 1) (hu : S.up = true) :
    Calls Try.prog 21 #[.pointer (some ⟨g, 0, none⟩), actV k z i j m A n c] w (RStepP w g v l S 0 [] 180) := by
  have k1 : w.cell? ⟨g, 1, none⟩ = some (.bool S.up) := h.blk.cell 1
  have hg : g < w.heap.size := h.blk.lt
  rw [hu] at k1
  have e1 : (k == 1) = true := by rw [hk]; rfl
  clear hk
  have HST := Lib.hid (RatS.start w k z i j m A n c)
  have H := Lib.hid h
  clear h
  unfold actV
  go_enter Try.func21, Try.ntmps21
  go_upto_region 1 with fail
  generalize (w.alloc (.cells #[.int .i64 k, .int .i64 z, .int .i64 i, .int .i64 j, .int .u8 m, .slice A n c] 55)).alloc (.cells #[.int .i64 0, .slice none 0 0] 36) = w1 at *
  have a0 : w1.cell? ⟨w.heap.size, 0, none⟩ = some (.int .i64 k) := HST.out.act.cell 0
  have a1 : w1.cell? ⟨w.heap.size, 1, none⟩ = some (.int .i64 z) := HST.out.act.cell 1
  have a5 : w1.cell? ⟨w.heap.size, 5, none⟩ = some (.slice A n c) := HST.out.act.cell 5
  have u1 := (HST.out.old.cell (p := ⟨g, _, none⟩) hg).trans k1
  have r0 := HST.out.res.cell 0
  have r1 := HST.out.res.cell 1
  have f0 := HST.out.res.frozen 0
  have f1 := HST.out.res.frozen 1
  have hb1 := HST.out.res.lt
  have hg1 : g < w1.heap.size := by omega
  have hw1 : w.heap.size < w1.heap.size := by omega
  clear k1
  go_wp2
  clear r0 r1 f0 f1 a0 a1 a5 u1
  have HE := HST.out.err H.out 180
  have t0 := HE.1.cell 0
  have t1 := HE.1.cell 1
  exact bodyPost_ret (v := .tuple #[.agg #[.int .i64 0, .slice none 0 0], .int .i64 180]) (by simp [results, Try.results21, go_sem, t0, t1]) rfl HE.2
set_option maxRecDepth 20000 in
set_option maxHeartbeats 4000000 in
theorem ract_bad1 (g : Nat) (S : Ns) (v : Bool → Value) (l : Bool → List LP) (k z i j m : Int) (A : Option Addr) (n c : Nat) (w : World) (h : NetR w g S v l) (hk : k < 1) :
    Calls Try.prog 21 #[.pointer (some ⟨g, 0, none⟩), actV k z i j m A n c] w (RStepP w g v l S 0 [] 184) := by
  have k1 : w.cell? ⟨g, 1, none⟩ = some (.bool S.up) := h.blk.cell 1
  have hg : g < w.heap.size := h.blk.lt
  have e1 : (k == 1) = false := by rw [beq_eq_false_iff_ne]; omega
  have HST := Lib.hid (RatS.start w k z i j m A n c)
  have H := Lib.hid h
  clear h
  unfold actV
  go_enter Try.func21, Try.ntmps21
  go_upto_region 1 with fail
  generalize (w.alloc (.cells #[.int .i64 k, .int .i64 z, .int .i64 i, .int .i64 j, .int .u8 m, .slice A n c] 55)).alloc (.cells #[.int .i64 0, .slice none 0 0] 36) = w1 at *
  have a0 : w1.cell? ⟨w.heap.size, 0, none⟩ = some (.int .i64 k) := HST.out.act.cell 0
  have a1 : w1.cell? ⟨w.heap.size, 1, none⟩ = some (.int .i64 z) := HST.out.act.cell 1
  have a5 : w1.cell? ⟨w.heap.size, 5, none⟩ = some (.slice A n c) := HST.out.act.cell 5
  have u1 := (HST.out.old.cell (p := ⟨g, _, none⟩) hg).trans k1
  have r0 := HST.out.res.cell 0
  have r1 := HST.out.res.cell 1
  have f0 := HST.out.res.frozen 0
  have f1 := HST.out.res.frozen 1
  have hb1 := HST.out.res.lt
  have hg1 : g < w1.heap.size := by omega
  have hw1 : w.heap.size < w1.heap.size := by omega
  clear k1
  go_wp2
  clear r0 r1 f0 f1 a0 a1 a5 u1
  have HE := HST.out.err H.out 184
  have t0 := HE.1.cell 0
  have t1 := HE.1.cell 1
  exact bodyPost_ret (v := .tuple #[.agg #[.int .i64 0, .slice none 0 0], .int .i64 184]) (by simp [results, Try.results21, go_sem, t0, t1]) rfl HE.2
set_option maxRecDepth 20000 in
set_option maxHeartbeats 4000000 in
theorem ract_bad2 (g : Nat) (S : Ns) (v : Bool → Value) (l : Bool → List LP) (k z i j m : Int) (A : Option Addr) (n c : Nat) (w : World) (h : NetR w g S v l) (hk : 8 < k) :
    Calls Try.prog 21 #[.pointer (some ⟨g, 0, none⟩), actV k z i j m A n c] w (RStepP w g v l S 0 [] 184) := by
  have k1 : w.cell? ⟨g, 1, none⟩ = some (.bool S.up) := h.blk.cell 1
  have hg : g < w.heap.size := h.blk.lt
  have e1 : (k == 1) = false := by rw [beq_eq_false_iff_ne]; omega
  have e2 : ¬ k < 1 := by omega
  have HST := Lib.hid (RatS.start w k z i j m A n c)
  have H := Lib.hid h
  clear h
  unfold actV
  go_enter Try.func21, Try.ntmps21
  go_upto_region 1 with fail
  generalize (w.alloc (.cells #[.int .i64 k, .int .i64 z, .int .i64 i, .int .i64 j, .int .u8 m, .slice A n c] 55)).alloc (.cells #[.int .i64 0, .slice none 0 0] 36) = w1 at *
  have a0 : w1.cell? ⟨w.heap.size, 0, none⟩ = some (.int .i64 k) := HST.out.act.cell 0
  have a1 : w1.cell? ⟨w.heap.size, 1, none⟩ = some (.int .i64 z) := HST.out.act.cell 1
  have a5 : w1.cell? ⟨w.heap.size, 5, none⟩ = some (.slice A n c) := HST.out.act.cell 5
  have u1 := (HST.out.old.cell (p := ⟨g, _, none⟩) hg).trans k1
  have r0 := HST.out.res.cell 0
  have r1 := HST.out.res.cell 1
  have f0 := HST.out.res.frozen 0
  have f1 := HST.out.res.frozen 1
  have hb1 := HST.out.res.lt
  have hg1 : g < w1.heap.size := by omega
  have hw1 : w.heap.size < w1.heap.size := by omega
  clear k1
  go_wp2
  clear r0 r1 f0 f1 a0 a1 a5 u1
  have HE := HST.out.err H.out 184
  have t0 := HE.1.cell 0
  have t1 := HE.1.cell 1
  exact bodyPost_ret (v := .tuple #[.agg #[.int .i64 0, .slice none 0 0], .int .i64 184]) (by simp [results, Try.results21, go_sem, t0, t1]) rfl HE.2
set_option maxRecDepth 20000 in
set_option maxHeartbeats 4000000 in
theorem ract_side1 (g : Nat) (S : Ns) (v : Bool → Value) (l : Bool → List LP) (k z i j m : Int) (A : Option Addr) (n c : Nat) (w : World) (h : NetR w g S v l) (hk : 2 < k) (hk8 : k ≤ 8) (hz : z < 1) :
    Calls Try.prog 21 #[.pointer (some ⟨g, 0, none⟩), actV k z i j m A n c] w (RStepP w g v l S 0 [] 182) := by
  have k1 : w.cell? ⟨g, 1, none⟩ = some (.bool S.up) := h.blk.cell 1
  have hg : g < w.heap.size := h.blk.lt
  have e1 : (k == 1) = false := by rw [beq_eq_false_iff_ne]; omega
  have e2 : ¬ k < 1 := by omega
  have e3 : ¬ 8 < k := by omega
  have HST := Lib.hid (RatS.start w k z i j m A n c)
  have H := Lib.hid h
  clear h
  unfold actV
  go_enter Try.func21, Try.ntmps21
  go_upto_region 1 with fail
  generalize (w.alloc (.cells #[.int .i64 k, .int .i64 z, .int .i64 i, .int .i64 j, .int .u8 m, .slice A n c] 55)).alloc (.cells #[.int .i64 0, .slice none 0 0] 36) = w1 at *
  have a0 : w1.cell? ⟨w.heap.size, 0, none⟩ = some (.int .i64 k) := HST.out.act.cell 0
  have a1 : w1.cell? ⟨w.heap.size, 1, none⟩ = some (.int .i64 z) := HST.out.act.cell 1
  have a5 : w1.cell? ⟨w.heap.size, 5, none⟩ = some (.slice A n c) := HST.out.act.cell 5
  have u1 := (HST.out.old.cell (p := ⟨g, _, none⟩) hg).trans k1
  have r0 := HST.out.res.cell 0
  have r1 := HST.out.res.cell 1
  have f0 := HST.out.res.frozen 0
  have f1 := HST.out.res.frozen 1
  have hb1 := HST.out.res.lt
  have hg1 : g < w1.heap.size := by omega
  have hw1 : w.heap.size < w1.heap.size := by omega
  clear k1
  go_wp2
  clear r0 r1 f0 f1 a0 a1 a5 u1
  have HE := HST.out.err H.out 182
  have t0 := HE.1.cell 0
  have t1 := HE.1.cell 1
  exact bodyPost_ret (v := .tuple #[.agg #[.int .i64 0, .slice none 0 0], .int .i64 182]) (by simp [results, Try.results21, go_sem, t0, t1]) rfl HE.2
set_option maxRecDepth 20000 in
set_option maxHeartbeats 4000000 in
theorem ract_side2 (g : Nat) (S : Ns) (v : Bool → Value) (l : Bool → List LP) (k z i j m : Int) (A : Option Addr) (n c : Nat) (w : World) (h : NetR w g S v l) (hk : 2 < k) (hk8 : k ≤ 8) (hz : 2 < z) :
    Calls Try.prog 21 #[.pointer (some ⟨g, 0, none⟩), actV k z i j m A n c] w (RStepP w g v l S 0 [] 182) := by
  have k1 : w.cell? ⟨g, 1, none⟩ = some (.bool S.up) := h.blk.cell 1
  have hg : g < w.heap.size := h.blk.lt
  have e1 : (k == 1) = false := by rw [beq_eq_false_iff_ne]; omega
  have e2 : ¬ k < 1 := by omega
  have e3 : ¬ 8 < k := by omega
  have e4 : ¬ z < 1 := by omega
  have HST := Lib.hid (RatS.start w k z i j m A n c)
  have H := Lib.hid h
  clear h
  unfold actV
  go_enter Try.func21, Try.ntmps21
  go_upto_region 1 with fail
  generalize (w.alloc (.cells #[.int .i64 k, .int .i64 z, .int .i64 i, .int .i64 j, .int .u8 m, .slice A n c] 55)).alloc (.cells #[.int .i64 0, .slice none 0 0] 36) = w1 at *
  have a0 : w1.cell? ⟨w.heap.size, 0, none⟩ = some (.int .i64 k) := HST.out.act.cell 0
  have a1 : w1.cell? ⟨w.heap.size, 1, none⟩ = some (.int .i64 z) := HST.out.act.cell 1
  have a5 : w1.cell? ⟨w.heap.size, 5, none⟩ = some (.slice A n c) := HST.out.act.cell 5
  have u1 := (HST.out.old.cell (p := ⟨g, _, none⟩) hg).trans k1
  have r0 := HST.out.res.cell 0
  have r1 := HST.out.res.cell 1
  have f0 := HST.out.res.frozen 0
  have f1 := HST.out.res.frozen 1
  have hb1 := HST.out.res.lt
  have hg1 : g < w1.heap.size := by omega
  have hw1 : w.heap.size < w1.heap.size := by omega
  clear k1
  go_wp2
  clear r0 r1 f0 f1 a0 a1 a5 u1
  have HE := HST.out.err H.out 182
  have t0 := HE.1.cell 0
  have t1 := HE.1.cell 1
  exact bodyPost_ret (v := .tuple #[.agg #[.int .i64 0, .slice none 0 0], .int .i64 182]) (by simp [results, Try.results21, go_sem, t0, t1]) rfl HE.2
set_option maxRecDepth 20000 in
set_option maxHeartbeats 4000000 in
theorem ract_long (g : Nat) (S : Ns) (v : Bool → Value) (l : Bool → List LP) (k z i j m : Int) (A : Option Addr) (n c : Nat) (w : World) (h : NetR w g S v l) (hk : k = 3) (hz : 1 ≤ z ∧ z ≤ 2) (hn : 8192 < n) :
    Calls Try.prog 21 #[.pointer (some ⟨g, 0, none⟩), actV k z i j m A n c] w (RStepP w g v l S 0 [] 2) := by
  have k1 : w.cell? ⟨g, 1, none⟩ = some (.bool S.up) := h.blk.cell 1
  have hg : g < w.heap.size := h.blk.lt
  have e1 : (k == 1) = false := by rw [beq_eq_false_iff_ne]; omega
  have e2 : ¬ k < 1 := by omega
  have e3 : ¬ 8 < k := by omega
  have e6 : 2 < k := by omega
  have e5 : (k == 3) = true := by rw [hk]; rfl
  clear hk
  have z1 : ¬ z < 1 := by omega
  have z2 : ¬ 2 < z := by omega
  have n1 : (8192 : Int) < (n : Int) := by omega
  have HST := Lib.hid (RatS.start w k z i j m A n c)
  have H := Lib.hid h
  clear h
  unfold actV
  go_enter Try.func21, Try.ntmps21
  go_upto_region 1 with fail
  generalize (w.alloc (.cells #[.int .i64 k, .int .i64 z, .int .i64 i, .int .i64 j, .int .u8 m, .slice A n c] 55)).alloc (.cells #[.int .i64 0, .slice none 0 0] 36) = w1 at *
  have a0 : w1.cell? ⟨w.heap.size, 0, none⟩ = some (.int .i64 k) := HST.out.act.cell 0
  have a1 : w1.cell? ⟨w.heap.size, 1, none⟩ = some (.int .i64 z) := HST.out.act.cell 1
  have a5 : w1.cell? ⟨w.heap.size, 5, none⟩ = some (.slice A n c) := HST.out.act.cell 5
  have u1 := (HST.out.old.cell (p := ⟨g, _, none⟩) hg).trans k1
  have r0 := HST.out.res.cell 0
  have r1 := HST.out.res.cell 1
  have f0 := HST.out.res.frozen 0
  have f1 := HST.out.res.frozen 1
  have hb1 := HST.out.res.lt
  have hg1 : g < w1.heap.size := by omega
  have hw1 : w.heap.size < w1.heap.size := by omega
  clear k1
  go_wp2
  clear r0 r1 f0 f1 a0 a1 a5 u1
  have HE := HST.out.err H.out 2
  have t0 := HE.1.cell 0
  have t1 := HE.1.cell 1
  exact bodyPost_ret (v := .tuple #[.agg #[.int .i64 0, .slice none 0 0], .int .i64 2]) (by simp [results, Try.results21, go_sem, t0, t1]) rfl HE.2
set_option maxRecDepth 20000 in
set_option maxHeartbeats 4000000 in
theorem ract_down2 (g : Nat) (S : Ns) (v : Bool → Value) (l : Bool → List LP) (k z i j m : Int) (A : Option Addr) (n c : Nat) (w : World) (h : NetR w g S v l) (hk : k = 2) (hu : S.up = false) :
    Calls Try.prog 21 #[.pointer (some ⟨g, 0, none⟩), actV k z i j m A n c] w (RStepP w g v l S 0 [] 181) := by
  have k1 : w.cell? ⟨g, 1, none⟩ = some (.bool S.up) := h.blk.cell 1
  have hg : g < w.heap.size := h.blk.lt
  rw [hu] at k1
  have e1 : (k == 1) = false := by rw [beq_eq_false_iff_ne]; omega
  have e2 : ¬ k < 1 := by omega
  have e3 : ¬ 8 < k := by omega
  have e6 : ¬ 2 < k := by omega
  have e5 : (k == 3) = false := by rw [beq_eq_false_iff_ne]; omega
  clear hk
  have HST := Lib.hid (RatS.start w k z i j m A n c)
  have H := Lib.hid h
  clear h
  unfold actV
  go_enter Try.func21, Try.ntmps21
  go_upto_region 1 with fail
  generalize (w.alloc (.cells #[.int .i64 k, .int .i64 z, .int .i64 i, .int .i64 j, .int .u8 m, .slice A n c] 55)).alloc (.cells #[.int .i64 0, .slice none 0 0] 36) = w1 at *
  have a0 : w1.cell? ⟨w.heap.size, 0, none⟩ = some (.int .i64 k) := HST.out.act.cell 0
  have a1 : w1.cell? ⟨w.heap.size, 1, none⟩ = some (.int .i64 z) := HST.out.act.cell 1
  have a5 : w1.cell? ⟨w.heap.size, 5, none⟩ = some (.slice A n c) := HST.out.act.cell 5
  have u1 := (HST.out.old.cell (p := ⟨g, _, none⟩) hg).trans k1
  have r0 := HST.out.res.cell 0
  have r1 := HST.out.res.cell 1
  have f0 := HST.out.res.frozen 0
  have f1 := HST.out.res.frozen 1
  have hb1 := HST.out.res.lt
  have hg1 : g < w1.heap.size := by omega
  have hw1 : w.heap.size < w1.heap.size := by omega
  clear k1
  go_wp2
  clear r0 r1 f0 f1 a0 a1 a5 u1
  have HE := HST.out.err H.out 181
  have t0 := HE.1.cell 0
  have t1 := HE.1.cell 1
  exact bodyPost_ret (v := .tuple #[.agg #[.int .i64 0, .slice none 0 0], .int .i64 181]) (by simp [results, Try.results21, go_sem, t0, t1]) rfl HE.2
set_option maxRecDepth 20000 in
set_option maxHeartbeats 4000000 in
theorem ract_down3 (g : Nat) (S : Ns) (v : Bool → Value) (l : Bool → List LP) (k z i j m : Int) (A : Option Addr) (n c : Nat) (w : World) (h : NetR w g S v l) (hk : k = 3) (hz : 1 ≤ z ∧ z ≤ 2) (hn : n ≤ 8192) (hu : S.up = false) :
    Calls Try.prog 21 #[.pointer (some ⟨g, 0, none⟩), actV k z i j m A n c] w (RStepP w g v l S 0 [] 181) := by
  have k1 : w.cell? ⟨g, 1, none⟩ = some (.bool S.up) := h.blk.cell 1
  have hg : g < w.heap.size := h.blk.lt
  rw [hu] at k1
  have e1 : (k == 1) = false := by rw [beq_eq_false_iff_ne]; omega
  have e2 : ¬ k < 1 := by omega
  have e3 : ¬ 8 < k := by omega
  have e6 : 2 < k := by omega
  have e5 : (k == 3) = true := by rw [hk]; rfl
  clear hk
  have z1 : ¬ z < 1 := by omega
  have z2 : ¬ 2 < z := by omega
  have n1 : ¬ (8192 : Int) < (n : Int) := by omega
  have HST := Lib.hid (RatS.start w k z i j m A n c)
  have H := Lib.hid h
  clear h
  unfold actV
  go_enter Try.func21, Try.ntmps21
  go_upto_region 1 with fail
  generalize (w.alloc (.cells #[.int .i64 k, .int .i64 z, .int .i64 i, .int .i64 j, .int .u8 m, .slice A n c] 55)).alloc (.cells #[.int .i64 0, .slice none 0 0] 36) = w1 at *
  have a0 : w1.cell? ⟨w.heap.size, 0, none⟩ = some (.int .i64 k) := HST.out.act.cell 0
  have a1 : w1.cell? ⟨w.heap.size, 1, none⟩ = some (.int .i64 z) := HST.out.act.cell 1
  have a5 : w1.cell? ⟨w.heap.size, 5, none⟩ = some (.slice A n c) := HST.out.act.cell 5
  have u1 := (HST.out.old.cell (p := ⟨g, _, none⟩) hg).trans k1
  have r0 := HST.out.res.cell 0
  have r1 := HST.out.res.cell 1
  have f0 := HST.out.res.frozen 0
  have f1 := HST.out.res.frozen 1
  have hb1 := HST.out.res.lt
  have hg1 : g < w1.heap.size := by omega
  have hw1 : w.heap.size < w1.heap.size := by omega
  clear k1
  go_wp2
  clear r0 r1 f0 f1 a0 a1 a5 u1
  have HE := HST.out.err H.out 181
  have t0 := HE.1.cell 0
  have t1 := HE.1.cell 1
  exact bodyPost_ret (v := .tuple #[.agg #[.int .i64 0, .slice none 0 0], .int .i64 181]) (by simp [results, Try.results21, go_sem, t0, t1]) rfl HE.2
set_option maxRecDepth 20000 in
set_option maxHeartbeats 4000000 in
theorem ract_down4 (g : Nat) (S : Ns) (v : Bool → Value) (l : Bool → List LP) (k z i j m : Int) (A : Option Addr) (n c : Nat) (w : World) (h : NetR w g S v l) (hk : 3 < k) (hk8 : k ≤ 8) (hz : 1 ≤ z ∧ z ≤ 2) (hu : S.up = false) :
    Calls Try.prog 21 #[.pointer (some ⟨g, 0, none⟩), actV k z i j m A n c] w (RStepP w g v l S 0 [] 181) := by
  have k1 : w.cell? ⟨g, 1, none⟩ = some (.bool S.up) := h.blk.cell 1
  have hg : g < w.heap.size := h.blk.lt
  rw [hu] at k1
  have e1 : (k == 1) = false := by rw [beq_eq_false_iff_ne]; omega
  have e2 : ¬ k < 1 := by omega
  have e3 : ¬ 8 < k := by omega
  have e5 : (k == 3) = false := by rw [beq_eq_false_iff_ne]; omega
  have e6 : 2 < k := by omega
  have z1 : ¬ z < 1 := by omega
  have z2 : ¬ 2 < z := by omega
  have HST := Lib.hid (RatS.start w k z i j m A n c)
  have H := Lib.hid h
  clear h
  unfold actV
  go_enter Try.func21, Try.ntmps21
  go_upto_region 1 with fail
  generalize (w.alloc (.cells #[.int .i64 k, .int .i64 z, .int .i64 i, .int .i64 j, .int .u8 m, .slice A n c] 55)).alloc (.cells #[.int .i64 0, .slice none 0 0] 36) = w1 at *
  have a0 : w1.cell? ⟨w.heap.size, 0, none⟩ = some (.int .i64 k) := HST.out.act.cell 0
  have a1 : w1.cell? ⟨w.heap.size, 1, none⟩ = some (.int .i64 z) := HST.out.act.cell 1
  have a5 : w1.cell? ⟨w.heap.size, 5, none⟩ = some (.slice A n c) := HST.out.act.cell 5
  have u1 := (HST.out.old.cell (p := ⟨g, _, none⟩) hg).trans k1
  have r0 := HST.out.res.cell 0
  have r1 := HST.out.res.cell 1
  have f0 := HST.out.res.frozen 0
  have f1 := HST.out.res.frozen 1
  have hb1 := HST.out.res.lt
  have hg1 : g < w1.heap.size := by omega
  have hw1 : w.heap.size < w1.heap.size := by omega
  clear k1
  go_wp2
  clear r0 r1 f0 f1 a0 a1 a5 u1
  have HE := HST.out.err H.out 181
  have t0 := HE.1.cell 0
  have t1 := HE.1.cell 1
  exact bodyPost_ret (v := .tuple #[.agg #[.int .i64 0, .slice none 0 0], .int .i64 181]) (by simp [results, Try.results21, go_sem, t0, t1]) rfl HE.2
set_option maxRecDepth 20000 in
set_option maxHeartbeats 4000000 in
theorem ract_conn (g : Nat) (S : Ns) (v : Bool → Value) (l : Bool → List LP) (k z i j m : Int) (A : Option Addr) (n c : Nat) (w : World) (h : NetR w g S v l) (K : Int) (hok : S.ok K) (hK : K ≤ 4611686018427387900) (hk : k = 1) (hu : S.up = false) :
    Calls Try.prog 21 #[.pointer (some ⟨g, 0, none⟩), actV k z i j m A n c] w (RStepP w g v l S.conn 0 [] 0) := by
  have k1 : w.cell? ⟨g, 1, none⟩ = some (.bool S.up) := h.blk.cell 1
  rw [hu] at k1
  have k2 : w.cell? ⟨g, 2, none⟩ = some (.int .i64 S.epoch) := h.blk.cell 2
  have g1 := h.blk.frozen 1
  have g2 := h.blk.frozen 2
  have x0 := hok.ep.1
  have x1 := Int.le_trans hok.ep.2 hK
  have hg : g < w.heap.size := h.blk.lt
  have e1 : (k == 1) = true := by rw [hk]; rfl
  have HST := Lib.hid (RatS.start w k z i j m A n c)
  have H := Lib.hid h
  have HEND := Lib.hid fun (W : World) (hW : RatS w k z i j m A n c W) => conn_end h hW
  clear h hk hok
  generalize S.epoch = ep at *
  unfold actV
  go_enter Try.func21, Try.ntmps21
  go_upto_region 1 with fail
  generalize (w.alloc (.cells #[.int .i64 k, .int .i64 z, .int .i64 i, .int .i64 j, .int .u8 m, .slice A n c] 55)).alloc (.cells #[.int .i64 0, .slice none 0 0] 36) = w1 at *
  have a0 : w1.cell? ⟨w.heap.size, 0, none⟩ = some (.int .i64 k) := HST.out.act.cell 0
  have a1 : w1.cell? ⟨w.heap.size, 1, none⟩ = some (.int .i64 z) := HST.out.act.cell 1
  have a5 : w1.cell? ⟨w.heap.size, 5, none⟩ = some (.slice A n c) := HST.out.act.cell 5
  have u1 := (HST.out.old.cell (p := ⟨g, _, none⟩) hg).trans k1
  have hb1 := HST.out.res.lt
  have hg1 : g < w1.heap.size := by omega
  have hw1 : w.heap.size < w1.heap.size := by omega
  clear k1
  have u2 := (HST.out.old.cell (p := ⟨g, _, none⟩) hg).trans k2
  have v1 := (HST.out.old.frozen (p := ⟨g, _, none⟩) hg).trans g1
  have v2 := (HST.out.old.frozen (p := ⟨g, _, none⟩) hg).trans g2
  have HE := Lib.hid (HEND.out w1 HST.out)
  clear k2 g1 g2
  go_upto_region 8 with fail
  generalize (w1.setCell _ _).setCell _ _ = w2 at HE ⊢
  clear u1 u2 v1 v2 a0 a1 a5
  have r0 := HE.out.1.cell 0
  have r1 := HE.out.1.cell 1
  have f0 := HE.out.1.frozen 0
  have f1 := HE.out.1.frozen 1
  have hb2 := HE.out.1.lt
  go_wp2
  clear r0 r1 f0 f1
  have t0 := HE.out.2.1.cell 0
  have t1 := HE.out.2.1.cell 1
  exact bodyPost_ret (v := .tuple #[.agg #[.int .i64 0, .slice none 0 0], .int .i64 0]) (by simp [results, Try.results21, go_sem, t0, t1]) rfl HE.out.2.2
set_option maxRecDepth 20000 in
set_option maxHeartbeats 4000000 in
theorem ract_at (g : Nat) (S : Ns) (v : Bool → Value) (l : Bool → List LP) (k z i j m : Int) (A : Option Addr) (n c : Nat) (w : World) (h : NetR w g S v l) (s : Bool) {S' : Ns} {num er : Int} {bytes : List UInt8} (hk : 3 < k) (hk8 : k ≤ 8) (hz : z = sideN s) (hu : S.up = true) (hat : ∀ W : World, NetR W g S v l → Calls Try.prog 39 #[.pointer (some ⟨g, 0, none⟩), .int .i64 k, .int .i64 (idxN s), actV k z i j m A n c] W (RStepP W g v l S' num bytes er)) :
    Calls Try.prog 21 #[.pointer (some ⟨g, 0, none⟩), actV k z i j m A n c] w (RStepP w g v l S' num bytes er) := by
  have k1 : w.cell? ⟨g, 1, none⟩ = some (.bool S.up) := h.blk.cell 1
  rw [hu] at k1
  have hg : g < w.heap.size := h.blk.lt
  have HAT := Lib.hid fun (W : World) (hW : RatS w k z i j m A n c W) => hat W (h.below hW.old)
  have HZ := Lib.hid hz
  have z1 : ¬ z < 1 := by cases s <;> simp only [sideN] at hz <;> omega
  have z2 : ¬ 2 < z := by cases s <;> simp only [sideN] at hz <;> omega
  have z3 : IntKind.i64.wrap (z - 1) = idxN s := by rw [hz]; cases s <;> rfl
  have e1 : (k == 1) = false := by rw [beq_eq_false_iff_ne]; omega
  have e2 : ¬ k < 1 := by omega
  have e3 : ¬ 8 < k := by omega
  have e5 : (k == 3) = false := by rw [beq_eq_false_iff_ne]; omega
  have e7 : (k == 2) = false := by rw [beq_eq_false_iff_ne]; omega
  have e6 : 2 < k := by omega
  have HST := Lib.hid (RatS.start w k z i j m A n c)
  have H := Lib.hid h
  clear h hz hat
  unfold actV at *
  go_enter Try.func21, Try.ntmps21
  go_upto_region 1 with fail
  generalize (w.alloc (.cells #[.int .i64 k, .int .i64 z, .int .i64 i, .int .i64 j, .int .u8 m, .slice A n c] 55)).alloc (.cells #[.int .i64 0, .slice none 0 0] 36) = w1 at *
  have a0 : w1.cell? ⟨w.heap.size, 0, none⟩ = some (.int .i64 k) := HST.out.act.cell 0
  have a1 : w1.cell? ⟨w.heap.size, 1, none⟩ = some (.int .i64 z) := HST.out.act.cell 1
  have a5 : w1.cell? ⟨w.heap.size, 5, none⟩ = some (.slice A n c) := HST.out.act.cell 5
  have u1 := (HST.out.old.cell (p := ⟨g, _, none⟩) hg).trans k1
  have hb1 := HST.out.res.lt
  have hg1 : g < w1.heap.size := by omega
  have hw1 : w.heap.size < w1.heap.size := by omega
  clear k1
  have a2 : w1.cell? ⟨w.heap.size, 2, none⟩ = some (.int .i64 i) := HST.out.act.cell 2
  have a3 : w1.cell? ⟨w.heap.size, 3, none⟩ = some (.int .i64 j) := HST.out.act.cell 3
  have a4 : w1.cell? ⟨w.heap.size, 4, none⟩ = some (.int .u8 m) := HST.out.act.cell 4
  have HA := Lib.hid (HAT.out w1 HST.out)
  go_wp2_with fail
  try rw [z3]
  refine (HA.out).mono ?_
  rintro e w2 ⟨v2, l2, B, d, rfl, hn2, hsub2, hc2, ho2⟩
  have HD := Lib.hid (rat_end (num := num) er H.out HST.out.old HST.out.res (by omega) hn2 hsub2 hc2 ⟨ho2.1, fun k hk => (ho2.2 k hk).imp id fun e => by have := HST.out.old.size; omega⟩)
  clear hn2 hsub2 hc2 ho2 a0 a1 a2 a3 a4 a5 u1 HA HAT
  have r0 := HD.out.1.cell 0
  have r1 := HD.out.1.cell 1
  have f0 := HD.out.1.frozen 0
  have f1 := HD.out.1.frozen 1
  have hb2 := HD.out.1.lt
  go_wp2
  clear r0 r1 f0 f1
  have t0 := HD.out.2.1.cell 0
  have t1 := HD.out.2.1.cell 1
  exact bodyPost_ret (v := .tuple #[.agg #[.int .i64 num, .slice B bytes.length d], .int .i64 er]) (by simp [results, Try.results21, go_sem, t0, t1]) rfl HD.out.2.2
end Go.Proofs.Ytbkgphmocjjmmaa
