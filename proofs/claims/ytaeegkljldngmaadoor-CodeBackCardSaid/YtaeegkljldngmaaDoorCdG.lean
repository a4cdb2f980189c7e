/-
  The program's encode f32. No statement of the seat is proved here.
-/
import Derived.Test.YtaeegkljldngmaaDoorCdF
namespace Go.Proofs.YtaeegkljldngmaaDoor
open Go.RowKit

def layK (h : Int) (x : Ins) : Nat → List UInt8
  | 0 => [by8 x.op]
  | k + 1 => layK h x k ++ (if has3 h k then [by8 (sel3 x k)] else [])
def layH (h : Int) (x : Ins) : List UInt8 := layK h x 3 ++ (if hT h then [by8 (x.z / 256), by8 x.z] else [])
theorem layK_len (h : Int) (x : Ins) : ∀ k, (layK h x k).length ≤ k + 1 ∧ 1 ≤ (layK h x k).length
  | 0 => by simp [layK]
  | k + 1 => by
    have := layK_len h x k
    simp only [layK, List.length_append]
    split <;> simp <;> omega
theorem layH_len (h : Int) (x : Ins) : (layH h x).length ≤ 6 := by
  have := layK_len h x 3
  simp only [layH, List.length_append]
  split <;> simp <;> omega
/-- while an instruction is laid behind bytes -/
structure EncR (w : World) (base : Nat) (v : Value) (b0 b1 : Nat) (ec xc : Array Value) (u : Value) (ys : List UInt8) (wr : World) : Prop where
  own : OwnB 5 wr base u ys
  app : App w v wr u
  eb : Blk wr b0 50 ec
  xb : Blk wr b1 34 xc
section
variable {w wr w' : World} {base b0 b1 : Nat} {v u u' : Value} {ec xc : Array Value} {ys zs : List UInt8}
theorem EncR.drewN (h : EncR w base v b0 b1 ec xc u ys wr) (n : Nat) : EncR w base v b0 b1 ec xc u ys (wr.drewN n) := ⟨h.own, h.app.drewN n, h.eb.drewN n, h.xb.drewN n⟩
theorem EncR.alloc (h : EncR w base v b0 b1 ec xc u ys wr) (o : Obj) : EncR w base v b0 b1 ec xc u ys (wr.alloc o) := ⟨h.own.alloc o, h.app.alloc o, h.eb.alloc o, h.xb.alloc o⟩
theorem EncR.step (h : EncR w base v b0 b1 ec xc u ys wr) (ho : OwnB 5 w' base u' zs) (ha : App wr u w' u') : EncR w base v b0 b1 ec xc u' zs w' :=
  ⟨ho, h.app.trans ha, ha.blk h.eb (own_blk_ne h.own h.eb (by decide)), ha.blk h.xb (own_blk_ne h.own h.xb (by decide))⟩
end
set_option maxRecDepth 20000 in
/-- one lay behind another -/
theorem lay_enc {w wr : World} {base b0 b1 : Nat} {v u : Value} {ec xc : Array Value} {ys : List UInt8} (h : EncR w base v b0 b1 ec xc u ys wr) (hb : base ≤ wr.heap.size) (zs : List Int) (m lb : Nat) (hm : m = zs.length) (hlb : lb = wr.heap.size) (hl : zs.length ≤ 1000) (hy : ys.length ≤ 1099511627776) :
    Calls Tryd.prog 34 #[u, .slice (some ⟨lb, 0, none⟩) m m] (wr.alloc (.cells (zs.map iv).toArray 3)) fun e w' => ∃ u', e = .returned u' ∧ EncR w base v b0 b1 ec xc u' (ys ++ zs.map by8) w' := by
  subst hlb
  exact (lay_any base u ys wr.heap.size m m zs _ (h.own.alloc _) (by simp; omega) (Blk.new wr 3 _) hm hl hy).mono fun e w' ⟨u', he, ho, ha⟩ => ⟨u', he, (h.alloc _).step ho ha⟩
set_option maxRecDepth 100000 in
set_option maxHeartbeats 8000000 in
theorem encode_any (base : Nat) (v : Value) (xs : List UInt8) (e : En) (x : Ins) (w : World) (hv : OwnB 5 w base v xs) (hb : base ≤ w.heap.size) (h : HasOk e.has) (hsz : xs.length ≤ 1000000000) :
    Calls Tryd.prog 16 #[v, e.val, x.val] w fun r w' => ∃ v', r = .returned v' ∧ OwnB 5 w' base v' (xs ++ layH e.has x) ∧ App w v w' v' := by
  obtain ⟨nm, has, take, put, ends⟩ := e
  dsimp only at h
  simp only [En.val, Ins.val]
  have HL3 : Hid (layH has x = layK has x 3 ++ (if hT has then [by8 (x.z / 256), by8 x.z] else [])) := Lib.hid rfl
  have HL : Hid (∀ k, layK has x (k + 1) = layK has x k ++ (if has3 has k then [by8 (sel3 x k)] else [])) := Lib.hid fun k => rfl
  have HLL := Lib.hid fun k => layK_len has x k
  have HL0 : Hid (layK has x 0 = [by8 x.op]) := Lib.hid rfl
  generalize hX : sel3 x = sx at *
  have s0 : sx 0 = x.a := by rw [← hX]; rfl
  have s1 : sx 1 = x.b := by rw [← hX]; rfl
  have s2 : sx 2 = x.c := by rw [← hX]; rfl
  rw [← s0, ← s1, ← s2]
  clear hX s0 s1 s2
  have h0 : EncR w base v w.heap.size (w.heap.size + 1) #[.string nm, .int .i64 has, .int .i64 take, .int .i64 put, .bool ends] #[.int .i64 x.op, .int .i64 (sx 0), .int .i64 (sx 1), .int .i64 (sx 2), .int .i64 x.z] v xs ((w.alloc (.cells #[.string nm, .int .i64 has, .int .i64 take, .int .i64 put, .bool ends] 50)).alloc (.cells #[.int .i64 x.op, .int .i64 (sx 0), .int .i64 (sx 1), .int .i64 (sx 2), .int .i64 x.z] 34)) :=
    ⟨(hv.alloc _).alloc _, ((App.refl w v).alloc _).alloc _, (Blk.new w _ _).alloc _, Blk.new' _ _ _ _ (by simp)⟩
  have H1 := Lib.hid (lay_enc h0 (by simp; omega) [x.op] 1 (w.heap.size + 2) rfl (by simp) (by simp) (by omega))
  have HSZ := Lib.hid hsz
  have HV := Lib.hid hv
  clear hsz h0 hv
  go_enter Tryd.func16, Tryd.ntmps16
  go_wp2_with fail
  refine H1.out.mono ?_
  rintro r w1 ⟨v1, rfl, hr1⟩
  have HR1 : Hid (EncR w base v w.heap.size (w.heap.size + 1) #[.string nm, .int .i64 has, .int .i64 take, .int .i64 put, .bool ends] #[.int .i64 x.op, .int .i64 (sx 0), .int .i64 (sx 1), .int .i64 (sx 2), .int .i64 x.z] v1 (xs ++ layK has x 0) w1) := Lib.hid (by rw [HL0.out]; exact hr1)
  have c1 : w1.cell? ⟨w.heap.size + 1, 1, none⟩ = some (.int .i64 (sx 0)) := hr1.xb.cell 1
  have c2 : w1.cell? ⟨w.heap.size + 1, 2, none⟩ = some (.int .i64 (sx 1)) := hr1.xb.cell 2
  have c3 : w1.cell? ⟨w.heap.size + 1, 3, none⟩ = some (.int .i64 (sx 2)) := hr1.xb.cell 3
  clear hr1 H1
  go_wp2
  clear c1 c2 c3
  go_loopw [0, 21] (fun u i wr => ∃ k : Nat, k ≤ 3 ∧ i = .int .i64 k ∧ EncR w base v w.heap.size (w.heap.size + 1) #[.string nm, .int .i64 has, .int .i64 take, .int .i64 put, .bool ends] #[.int .i64 x.op, .int .i64 (sx 0), .int .i64 (sx 1), .int .i64 (sx 2), .int .i64 x.z] u (xs ++ layK has x k) wr) (fun _ i _ => 3 - (intOf i).toNat)
  case atStart => exact ⟨0, by omega, rfl, HR1.out⟩
  case round =>
    obtain ⟨k, hk, rfl, hR⟩ := hrel
    have HR := Lib.hid hR
    have c74 : wr.cell? ⟨w.heap.size, 1, none⟩ = some (.int .i64 has) := hR.eb.cell 1
    have hws := hR.app.size
    by_cases hk3 : k = 3
    · subst hk3
      have c4 : wr.cell? ⟨w.heap.size + 1, 4, none⟩ = some (.int .i64 x.z) := hR.xb.cell 4
      clear hR
      simp only [show ((3 : Nat) : Int) = 3 from rfl]
      have H2 := Lib.hid (lay_enc HR.out (by omega) [x.z / 256, x.z] 2 wr.heap.size rfl rfl (by simp) (by have := HSZ.out; have := (HLL.out 3).1; simp; omega))
      obtain rfl | rfl | rfl | rfl | rfl := h
      all_goals go_wp2_with fail
      all_goals first
        | (go_ret; exact ⟨_, rfl, by have := HR.out.own; rw [show layH _ x = _ from HL3.out]; simpa [hT] using this, HR.out.app⟩)
        | (refine H2.out.mono ?_; rintro r w2 ⟨v2, rfl, hr2⟩; have HR2 := Lib.hid hr2; clear hr2; go_wp2; go_ret; exact ⟨_, rfl, by have := HR2.out.own; rw [show layH _ x = _ from HL3.out]; simpa [hT] using this, HR2.out.app⟩)
    · have hkk : k < 3 := by omega
      clear hR
      have HLk := Lib.hid (HL.out k)
      have H2 := Lib.hid fun n => lay_enc (HR.out.drewN n) (by simp; omega) [sx k] 1 wr.heap.size rfl rfl (by simp) (by have := HSZ.out; have := (HLL.out k).1; simp; omega)
      have x0 := idx0
      have x1 := idx1
      have x2 := idx2
      obtain rfl | rfl | rfl : k = 0 ∨ k = 1 ∨ k = 2 := by omega
      all_goals obtain rfl | rfl | rfl | rfl | rfl := h
      all_goals simp only [show ((0 : Nat) : Int) = 0 from rfl, show ((1 : Nat) : Int) = 1 from rfl, show ((2 : Nat) : Int) = 2 from rfl]
      all_goals go_wp2
      all_goals go_quiet (fail)
      all_goals go_wp2_with (go_at_call 34; refine (H2.out _).mono ?_; rintro r w2 ⟨v2, rfl, hr2⟩)
      all_goals first
        | (go_roundw; (case rel => exact ⟨1, by omega, rfl, by first | (rw [show layK _ x 1 = _ from HLk.out, ← List.append_assoc]; exact hr2) | (rw [show layK _ x 1 = _ from HLk.out]; simpa [has3, hA, hB, hC] using HR.out.drewN _)⟩); (case measure => decide))
        | (go_roundw; (case rel => exact ⟨2, by omega, rfl, by first | (rw [show layK _ x 2 = _ from HLk.out, ← List.append_assoc]; exact hr2) | (rw [show layK _ x 2 = _ from HLk.out]; simpa [has3, hA, hB, hC] using HR.out.drewN _)⟩); (case measure => decide))
        | (go_roundw; (case rel => exact ⟨3, by omega, rfl, by first | (rw [show layK _ x 3 = _ from HLk.out, ← List.append_assoc]; exact hr2) | (rw [show layK _ x 3 = _ from HLk.out]; simpa [has3, hA, hB, hC] using HR.out.drewN _)⟩); (case measure => decide))

end Go.Proofs.YtaeegkljldngmaaDoor
