/-
  The walks of the document's small functions: twin f47, New f20, Counts f42.
-/
import Derived.Test.YtbkgphmocjjmmaaNtU
namespace Go.Proofs.Ytbkgphmocjjmmaa
open Go.RowKit

theorem app_nil_below {w w' : World} {v' : Value} (h : App w (.slice none 0 0) w' v') : Below w.heap.size w w' :=
  h.below (Nat.le_refl _) (fun k hk => by simp [Value.ownBlock] at hk)
set_option maxRecDepth 20000 in
set_option maxHeartbeats 1000000 in
theorem twin_any (num : Int) (A : Option Addr) (m c B : Nat) (bs : List UInt8) (w : World) (h : RdB w B A m bs) (hB : B ≤ w.heap.size) (hm : bs.length ≤ 140737488355328) : Calls Try.prog 47 #[.agg #[.int .i64 num, .slice A m c]] w (ToldP w num bs) := by
  have HR := Lib.hid fun (o o' : Obj) => (h.alloc hB o).alloc (show B ≤ (w.alloc o).heap.size by simp; omega) o'
  have HB1 := Lib.hid hB
  have HM := Lib.hid hm
  clear h hm hB
  go_enter Try.func47, Try.ntmps47
  go_upto_region 3 with (at_builtin; refine wpList_app rfl (.tmp 4) (.tmp 6) 23 rfl (w.heap.size + 2) 5 info5 Try.underlying23 (.slice none 0 0) [] rfl (OwnB.nil _ _ _) _ _ _ _ bs rfl (HR.out _ _) (by have := HM.out; simp; omega) (by simp) ?_; intro v1 w1 hown happ; rw [List.nil_append] at hown; have HO := Lib.hid hown; have HB := Lib.hid (app_nil_below happ); obtain ⟨A1, c1, rfl, _, _⟩ := own_form hown; clear hown happ)
  have HX : Hid (Blk w1 w.heap.size 36 #[.int .i64 num, .slice A m c]) := Lib.hid (((Blk.new w 36 _).alloc _).below HB.out (by simp; omega))
  have HY : Hid (Blk w1 (w.heap.size + 1) 36 #[.int .i64 0, .slice none 0 0]) := Lib.hid ((Blk.new' _ 36 _ _ (by simp)).below HB.out (by simp))
  have x0 := HX.out.cell 0
  have x1 := HX.out.cell 1
  have y0 := HY.out.cell 0
  have y1 := HY.out.cell 1
  have g0 := HY.out.frozen 0
  have g1 := HY.out.frozen 1
  have hlt : w.heap.size + 1 < w1.heap.size := HY.out.lt
  have hB2 : Below w.heap.size w ((w1.setCell ⟨w.heap.size + 1, 0, none⟩ (.int .i64 num)).setCell ⟨w.heap.size + 1, 1, none⟩ (.slice A1 bs.length c1)) :=
    ((((((Below.refl _ _).alloc (Nat.le_refl _) _).alloc (by simp) _).trans (HB.out.mono (by simp; omega))).setCell (by simp) _).setCell (by simp) _)
  have hb2 : Blk ((w1.setCell ⟨w.heap.size + 1, 0, none⟩ (.int .i64 num)).setCell ⟨w.heap.size + 1, 1, none⟩ (.slice A1 bs.length c1)) (w.heap.size + 1) 36 #[.int .i64 num, .slice A1 bs.length c1] := (HY.out.set_ 0 _).set_ 1 _
  have hO2 : OwnB 5 ((w1.setCell ⟨w.heap.size + 1, 0, none⟩ (.int .i64 num)).setCell ⟨w.heap.size + 1, 1, none⟩ (.slice A1 bs.length c1)) w.heap.size (.slice A1 bs.length c1) bs :=
    own_base ((HO.out.far HY.out (by decide) 0 _).far (HY.out.set_ 0 _) (by decide) 1 _) (by omega)
  have HB2 := Lib.hid hB2
  have HO2 := Lib.hid hO2
  have HK2 := Lib.hid hb2
  clear hB2 hO2 hb2
  go_wp2
  have t0 := HK2.out.cell 0
  have t1 := HK2.out.cell 1
  clear x0 x1 y0 y1 g0 g1
  exact bodyPost_ret (v := .agg #[.int .i64 num, .slice A1 bs.length c1]) (by simp [results, Try.results47, go_sem, t0, t1]) rfl ⟨A1, c1, rfl, HO2.out, HB2.out⟩
theorem rnew_bad (limit : Int) (w : World) (h : limit < 1 ∨ 64 < limit) : Calls Try.prog 20 #[.int .i64 limit] w fun e w' => e = .returned (.pointer none) ∧ w = w' := by
  by_cases t1 : limit < 1
  · go_enter Try.func20, Try.ntmps20
    go_wp2
    go_ret
    exact ⟨rfl, rfl⟩
  · have t2 : 64 < limit := by omega
    go_enter Try.func20, Try.ntmps20
    go_wp2
    go_ret
    exact ⟨rfl, rfl⟩
def RNewP (w : World) (limit : Int) (e : Ending) (w' : World) : Prop := e = .returned (.pointer (some ⟨w.heap.size, 0, none⟩)) ∧ NetR w' w.heap.size (Ns.new limit) (fun _ => .slice none 0 0) (fun _ => []) ∧ Below w.heap.size w w'
theorem rnew_ok (limit : Int) (w : World) (h1 : 1 ≤ limit) (h2 : limit ≤ 64) : Calls Try.prog 20 #[.int .i64 limit] w (RNewP w limit) := by
  have t1 : ¬ limit < 1 := by omega
  have t2 : ¬ 64 < limit := by omega
  go_enter Try.func20, Try.ntmps20
  go_wp2
  go_ret
  exact ⟨rfl, NetX.fresh (Blk.new w 92 _), (Below.refl _ _).alloc (Nat.le_refl _) _⟩
/-- where the document's net has a way, and its counts -/
def rwayO : Bool → Nat
  | false => 4
  | true => 5
def rcntO : Bool → Nat
  | false => 6
  | true => 13
theorem layR_under (S : Ns) (v : Bool → Value) (s : Bool) : (layR S v)[rwayO s]? = some (v s) := by cases s <;> rfl
theorem layR_get (S : Ns) (v : Bool → Value) (s : Bool) (k : Nat) (hk : k < 7) : (layR S v)[rcntO s + k]? = some (.int .i64 ((S.c s).get k)) := by
  match k, hk with
  | 0, _ => cases s <;> rfl
  | 1, _ => cases s <;> rfl
  | 2, _ => cases s <;> rfl
  | 3, _ => cases s <;> rfl
  | 4, _ => cases s <;> rfl
  | 5, _ => cases s <;> rfl
  | 6, _ => cases s <;> rfl
theorem layR_add (S : Ns) (v : Bool → Value) (s : Bool) (k : Nat) (n : Int) (hk : k < 7) : (layR S v).setIfInBounds (rcntO s + k) (.int .i64 ((S.c s).get k + n)) = layR (S.add s k n) v := by
  match k, hk with
  | 0, _ => cases s <;> simp [layR, rcntO, upd, Ns.add, Cn.put, Cn.get]
  | 1, _ => cases s <;> simp [layR, rcntO, upd, Ns.add, Cn.put, Cn.get]
  | 2, _ => cases s <;> simp [layR, rcntO, upd, Ns.add, Cn.put, Cn.get]
  | 3, _ => cases s <;> simp [layR, rcntO, upd, Ns.add, Cn.put, Cn.get]
  | 4, _ => cases s <;> simp [layR, rcntO, upd, Ns.add, Cn.put, Cn.get]
  | 5, _ => cases s <;> simp [layR, rcntO, upd, Ns.add, Cn.put, Cn.get]
  | 6, _ => cases s <;> simp [layR, rcntO, upd, Ns.add, Cn.put, Cn.get]
theorem NetX.radd {w : World} {g : Nat} {S : Ns} {v : Bool → Value} {l : Bool → List LP} (h : NetR w g S v l) (s : Bool) (k : Nat) (n : Int) (hk : k < 7) : NetR (w.setCell ⟨g, rcntO s + k, none⟩ (.int .i64 ((S.c s).get k + n))) g (S.add s k n) v l :=
  h.head (by rw [← layR_add S v s k n hk]; exact h.blk.set_ _ _) rfl (fun i _ hn => Below.heap_setCell _ _ _ _ hn) (by decide) (by decide)
set_option maxRecDepth 20000 in
set_option maxHeartbeats 2000000 in
theorem rcounts_any (g : Nat) (S : Ns) (v : Bool → Value) (l : Bool → List LP) (s : Bool) (w : World) (h : NetR w g S v l) :
    Calls Try.prog 42 #[.pointer (some ⟨g, 0, none⟩), .int .i64 (sideN s)] w (CountsP w (S.c s)) := by
  have hg := h.blk.lt
  have c0 := fun (k : Nat) (hk : k < 7) => (h.blk.cell (rcntO s + k)).trans (layR_get S v s k hk)
  have k0 := c0 0 (by omega)
  have k1 := c0 1 (by omega)
  have k2 := c0 2 (by omega)
  have k3 := c0 3 (by omega)
  have k4 := c0 4 (by omega)
  have k5 := c0 5 (by omega)
  have k6 := c0 6 (by omega)
  have HV : Hid ((S.c s).vals = [.int .i64 ((S.c s).get 0), .int .i64 ((S.c s).get 1), .int .i64 ((S.c s).get 2), .int .i64 ((S.c s).get 3), .int .i64 ((S.c s).get 4), .int .i64 ((S.c s).get 5), .int .i64 ((S.c s).get 6)]) := Lib.hid rfl
  generalize (S.c s).get 0 = x0 at *
  generalize (S.c s).get 1 = x1 at *
  generalize (S.c s).get 2 = x2 at *
  generalize (S.c s).get 3 = x3 at *
  generalize (S.c s).get 4 = x4 at *
  generalize (S.c s).get 5 = x5 at *
  generalize (S.c s).get 6 = x6 at *
  clear c0 h
  cases s
  all_goals
    simp only [sideN, rcntO] at *
    simp only [Nat.reduceAdd] at *
    go_enter Try.func42, Try.ntmps42
    go_wp2
    refine bodyPost_ret (v := .agg #[.int .i64 x0, .int .i64 x1, .int .i64 x2, .int .i64 x3, .int .i64 x4, .int .i64 x5, .int .i64 x6]) (by simp [results, Try.results42, go_sem]) rfl ⟨by rw [HV.out], ?_⟩
    exact (Below.refl _ _).alloc (Nat.le_refl _) _
set_option maxRecDepth 20000 in
theorem rcounts_no (g : Nat) (z : Int) (w : World) (hz : sideB z = false) : Calls Try.prog 42 #[.pointer (some ⟨g, 0, none⟩), .int .i64 z] w (CntNo w) := by
  have hz' : z < 1 ∨ 2 < z := by simp [sideB] at hz; omega
  clear hz
  by_cases t1 : z < 1
  · go_enter Try.func42, Try.ntmps42
    go_wp2
    refine bodyPost_ret (v := cnt0) (by simp [results, Try.results42, go_sem, cnt0]) rfl ⟨rfl, ?_⟩
    exact (Below.refl _ _).alloc (Nat.le_refl _) _
  · have t2 : 2 < z := by omega
    clear hz'
    go_enter Try.func42, Try.ntmps42
    go_wp2
    refine bodyPost_ret (v := cnt0) (by simp [results, Try.results42, go_sem, cnt0]) rfl ⟨rfl, ?_⟩
    exact (Below.refl _ _).alloc (Nat.le_refl _) _
end Go.Proofs.Ytbkgphmocjjmmaa
