/-
  The toy, plain and in memory; its reply. No statement of the seat is proved here.
-/
import Derived.Test.YtjhkfpemcplaaaaEnB
import Derived.Test.YtjhkfpemcplaaaaEnA
import Derived.Test.YtjhkfpemcplaaaaClS
namespace Go.Proofs.Ytjhkfpemcplaaaa
open Go.RowKit

structure Ty where
  win : Nat
  beg : Bool
  nonce : Nat
  app : List (List UInt8)
  ack : Nat
/-- the toy's reply to command k, its values -/
def tV (app : List (List UInt8)) (k : Nat) : List (Nat × Int) := [(0, (k : Int)), (0, ((crc (app.getD (k - 1) []) : Nat) : Int))]
def tB (app : List (List UInt8)) (k : Nat) : List UInt8 := replyB 0 (tV app k) []
/-- what the toy does with one packet -/
def tyA (y : Ty) (q : Pk) : Nat := if y.ack < q.ack ∧ q.ack ≤ y.app.length then q.ack else y.ack
def tyL (y : Ty) (q : Pk) : List (List UInt8) := if q.seq = y.app.length + 1 ∧ y.app.length - tyA y q < y.win then y.app ++ [q.body] else y.app
def tyF (y : Ty) (q : Pk) : List Pk × Ty :=
  if q.kind = 1 then
    if (q.tok = 0 ∧ (y.beg = false ∨ q.seq = y.nonce)) ∨ (q.tok = 5 ∧ y.beg = true) then ([⟨2, 5, 0, y.app.length, []⟩], { y with beg := true, nonce := if q.tok = 0 then q.seq else y.nonce }) else ([], y)
  else if q.kind = 3 then
    if y.beg = false ∨ q.tok ≠ 5 then ([], y)
    else (if q.seq ≤ tyA y q ∨ (tyL y q).length < q.seq then [] else [⟨4, 5, q.seq, (tyL y q).length, tB (tyL y q) q.seq⟩], { y with ack := tyA y q, app := tyL y q })
  else ([], y)
structure Ty.Ok (N : Nat) (y : Ty) : Prop where
  wi : 1 ≤ y.win ∧ y.win ≤ 16
  no : y.nonce < 18446744073709551616
  ak : y.ack ≤ y.app.length
  le : y.app.length ≤ N
theorem tyA_le {N : Nat} {y : Ty} (h : y.Ok N) (q : Pk) : tyA y q ≤ y.app.length := by
  unfold tyA
  split
  · rename_i h1; exact h1.2
  · exact h.ak
theorem tyL_len (y : Ty) (q : Pk) : y.app.length ≤ (tyL y q).length ∧ (tyL y q).length ≤ y.app.length + 1 := by
  unfold tyL
  split <;> simp
theorem tyF_ok {N : Nat} {y : Ty} (h : y.Ok N) (q : Pk) (hs : q.seq < 18446744073709551616) : (tyF y q).2.Ok (N + 1) := by
  have hl := tyL_len y q
  have ha := tyA_le h q
  have h' : y.Ok (N + 1) := ⟨h.wi, h.no, h.ak, by have := h.le; omega⟩
  unfold tyF
  split
  · split
    · refine ⟨h.wi, ?_, h.ak, h'.le⟩
      dsimp only
      split
      · exact hs
      · exact h.no
    · exact h'
  · split
    · split
      · exact h'
      · exact ⟨h.wi, h.no, by dsimp only; omega, by have := h.le; dsimp only; omega⟩
    · exact h'
theorem tV_ok (app : List (List UInt8)) {k : Nat} (hk : k < 9223372036854775808) : ∀ v ∈ tV app k, v.1 < 18446744073709551616 ∧ I64 v.2 := by
  intro v hv
  have := crc_lt (app.getD (k - 1) [])
  simp only [tV, List.mem_cons, List.not_mem_nil, or_false] at hv
  rcases hv with rfl | rfl
  · exact ⟨Nat.zero_lt_succ _, by unfold I64; dsimp only; omega⟩
  · exact ⟨Nat.zero_lt_succ _, by unfold I64; dsimp only; omega⟩
theorem tB_len (app : List (List UInt8)) (k : Nat) : (tB app k).length ≤ 100 := by
  unfold tB replyB tV
  generalize crc (app.getD (k - 1) []) = s
  have h1 := enc_le (zig 0)
  have h2 := enc_le (zig (k : Int))
  have h3 := enc_le (zig (s : Int))
  have h4 := enc_le 0
  simp [valB]
  omega
theorem tV_good (app : List (List UInt8)) {k : Nat} : goodR 0 (tV app k) [] := by
  refine ⟨by simp [tV], by simp, fun v hv => ?_, ?_⟩
  · simp only [tV, List.mem_cons, List.not_mem_nil, or_false] at hv
    rcases hv with rfl | rfl <;> exact .inl rfl
  · have := tB_len app k
    unfold tB at this
    omega
/-- where a toy lies -/
structure TyP where
  g : Nat
  av : Value
  al : List (QX (List UInt8))
  kA : Option Addr
  kc : Nat
def TF (t : TyP) (k : Nat) : Prop := k = t.g ∨ (t.av.ownBlock = some k ∨ kB.inB t.al k)
structure TA (base : Nat) (w : World) (t : TyP) (y : Ty) : Prop where
  blk : Blk w t.g 79 #[.int .i64 (y.win : Int), .bool y.beg, .int .u64 (y.nonce : Int), t.av, .int .u64 (y.ack : Int), .slice t.kA 0 t.kc, .int .i64 0]
  row : RowK kB base w t.av t.al
  is : t.al.map (·.1) = y.app
  ge : base ≤ t.g
section
variable {base : Nat} {w w' : World} {t t' : TyP} {y y' : Ty} {F : Nat → Prop}
theorem TA.lt (h : TA base w t y) {k : Nat} (hk : TF t k) : base ≤ k ∧ k < w.heap.size := by
  rcases hk with rfl | hk
  · exact ⟨h.ge, h.blk.lt⟩
  · exact h.row.lt hk
theorem TA.keep (h : TA base w t y) (hk : ∀ k, TF t k → w'.heap[k]? = w.heap[k]?) : TA base w' t y := ⟨(hk _ (.inl rfl)).trans h.blk, h.row.keep fun k e => hk k (.inr e), h.is, h.ge⟩
theorem TA.chg (h : TA base w t y) (hc : Chg F w w') (hn : ∀ k, TF t k → ¬ F k) : TA base w' t y := h.keep fun k hk => hc.block k (h.lt hk).2 (hn k hk)
theorem TA.below (h : TA base w t y) (hb : Below w.heap.size w w') : TA base w' t y := h.keep fun k hk => hb.block k (h.lt hk).2
theorem TA.len (h : TA base w t y) : t.al.length = y.app.length := by have := congrArg List.length h.is; simpa using this
end
/-- what a call of the toy may write -/
def TW (t : TyP) (k : Nat) : Prop := k = t.g ∨ t.av.ownBlock = some k
/-- the toy behind a call -/
structure StpT (base : Nat) (w : World) (t : TyP) (y' : Ty) (t' : TyP) (w' : World) : Prop where
  ta : TA base w' t' y'
  g : t'.g = t.g
  sub : ∀ k, TF t' k → TF t k ∨ w.heap.size ≤ k
  chg : Chg (TW t) w w'
def TyAns (base : Nat) (w : World) (t : TyP) (r : List Pk × Ty) (e : Ending) (w' : World) : Prop :=
  ∃ v l t', e = .returned v ∧ StpT base w t r.2 t' w' ∧ RowK kB w.heap.size w' v l ∧ l.map (·.1) = r.1.map frm ∧ ∀ k, (v.ownBlock = some k ∨ kB.inB l k) → ¬ TF t' k
theorem StpT.refl {base : Nat} {w : World} {t : TyP} {y : Ty} (h : TA base w t y) : StpT base w t y t w := ⟨h, rfl, fun _ hk => .inl hk, Chg.refl _ _⟩
theorem StpT.below {base : Nat} {w w1 w' : World} {t t' : TyP} {y' : Ty} (h : StpT base w t y' t' w1) (hb : Below w1.heap.size w1 w') : StpT base w t y' t' w' := ⟨h.ta.below hb, h.g, h.sub, h.chg.trans (Chg.of_below hb (fun _ => False)) fun _ _ e => e.elim⟩
set_option maxRecDepth 20000 in
set_option maxHeartbeats 2000000 in
/-- the toy's reply -/
theorem treply_any {base : Nat} {w : World} {t : TyP} {y : Ty} (h : TA base w t y) (k : Nat) (h1 : 1 ≤ k) (h2 : k ≤ y.app.length) (h3 : y.app.length ≤ 1152921504606846976) :
    Calls Try.prog 60 #[.pointer (some ⟨t.g, 0, none⟩), .int .u64 (k : Int)] w fun e w' => ∃ A c, e = .returned (.agg #[.int .i64 0, .slice A 2 c, .string ByteArray.empty]) ∧ w'.ownsRow w.heap.size 68 2 (.slice A 2 c) 2 (vcells (tV y.app k)) ∧ Below w.heap.size w w' := by
  obtain ⟨Aa, ca, hav, _, hcm⟩ := h.row.form
  have hlen := h.len
  have hi : k - 1 < t.al.length := by omega
  obtain ⟨q, hq⟩ : ∃ q, t.al[k - 1]? = some q := ⟨_, List.getElem?_eq_getElem hi⟩
  have hqb : y.app.getD (k - 1) [] = q.1 := by
    rw [← h.is, List.getD_eq_getElem?_getD, List.getElem?_map, hq]
    rfl
  have hrow := h.row.row
  rw [hav] at hrow
  obtain ⟨ga, ca', e1, hga, hgl⟩ := hrow.form (by omega)
  injection e1 with e1 _ _
  subst e1
  have hx : (kB.flat t.al)[k - 1]? = some (kB.val q) := by
    have := kd_flat_at (K := kB) (n := 1) (fun _ => rfl) hq (j := 0) (u := kB.val q) rfl
    simpa using this
  have ha : w.cell? ⟨ga, k - 1, none⟩ = some (.slice q.2.1 q.1.length q.2.2) := by
    have := hrow.cells (g := ga) rfl _ _ hx
    rw [show (⟨ga, 0, none⟩ : Addr).add (k - 1) = ⟨ga, k - 1, none⟩ from by unfold Addr.add; split <;> simp_all] at this
    exact this
  have x3 : w.cell? ⟨t.g, 3, none⟩ = some (.slice (some ⟨ga, 0, none⟩) t.al.length ca) := by rw [← hav]; exact h.blk.cell 3
  have hown := h.row.els q (List.mem_of_getElem? hq)
  have HRD : Hid (RdB w w.heap.size q.2.1 q.1.length q.1) := Lib.hid (Reads.of_own hown)
  obtain ⟨_, _, _, hql, hqm⟩ := own_formL hown
  have hql2 : q.1.length ≤ 9223372036854775807 := by
    have h9 : kB.n q.1 = q.1.length := rfl
    rw [h9] at hql
    simp only [maxLen] at hqm
    omega
  have HQL := Lib.hid hql2
  have hg := h.blk.lt
  have HQB := Lib.hid hqb
  have l1 : (k : Int) - 1 = ((k - 1 : Nat) : Int) := by omega
  have l2 : (0 : Int) ≤ ((k - 1 : Nat) : Int) := by omega
  have l3 : ((k - 1 : Nat) : Int) < (t.al.length : Int) := by omega
  have l4 : IntKind.u64.wrap ((k - 1 : Nat) : Int) = ((k - 1 : Nat) : Int) := by simp [IntKind.wrap, IntKind.bits, IntKind.signed]; omega
  have l5 : IntKind.i64.wrap (k : Int) = (k : Int) := by rw [IntKind.wrap_i64]; omega
  have hcr := crc_lt q.1
  generalize hcx : (crc q.1 : Nat) = cx at hcr
  have l6 : IntKind.i64.wrap (cx : Int) = (cx : Int) := by rw [IntKind.wrap_i64]; omega
  have HCX := Lib.hid hcx
  have z53 : ∀ w : World, (zeroValue 53).run Try.prog w = .ok (.agg #[.int .i64 0, .slice none 0 0, .string ByteArray.empty]) w := fun w => by kernel_rfl
  have z68 : ∀ w : World, (zeroValue 68).run Try.prog w = .ok (.agg #[.int .u64 0, .int .i64 0]) w := fun w => by kernel_rfl
  obtain ⟨w1, hw1⟩ : ∃ w1, w.alloc (.cells #[.int .i64 0, .slice none 0 0, .string ByteArray.empty] 53) = w1 := ⟨_, rfl⟩
  have hb1 : Below w.heap.size w w1 := hw1 ▸ (Below.refl _ _).alloc (Nat.le_refl _) _
  have hX : Blk w1 w.heap.size 53 #[.int .i64 0, .slice none 0 0, .string ByteArray.empty] := hw1 ▸ Blk.new w 53 _
  have HB1 := Lib.hid hb1
  have HX := Lib.hid hX
  have y3 : w1.cell? ⟨t.g, 3, none⟩ = some (.slice (some ⟨ga, 0, none⟩) t.al.length ca) := (hb1.cell (p := ⟨t.g, 3, none⟩) hg).trans x3
  have ya : w1.cell? ⟨ga, k - 1, none⟩ = some (.slice q.2.1 q.1.length q.2.2) := (hb1.cell (p := ⟨ga, k - 1, none⟩) hgl).trans ha
  have HSM := Lib.hid (rsum_any q.2.1 q.1.length q.2.2 w.heap.size q.1 w1 (HRD.out.below hb1) HQL.out)
  rw [HCX.out] at HSM
  have hgx := hX.lt
  have hgn : w.heap.size ≠ w1.heap.size := by omega
  have hfx := hX.frozen 0
  have hfx1 := hX.frozen 1
  have hfx2 := hX.frozen 2
  have x0 : w1.cell? ⟨w.heap.size, 0, none⟩ = some (.int .i64 0) := hX.cell 0
  have x1 : w1.cell? ⟨w.heap.size, 1, none⟩ = some (.slice none 0 0) := hX.cell 1
  have x2 : w1.cell? ⟨w.heap.size, 2, none⟩ = some (.string ByteArray.empty) := hX.cell 2
  clear h hav hrow hx hown hql hqm hqb hq hcx hql2 hcm hi hlen x3 ha hb1 hX
  go_enter Try.func60, Try.ntmps60
  go_upto_region 1 with fail
  clear hw1
  have HQ : Hid ((∃ A c, Ending.returned (.agg #[.int .i64 0, .slice (some ⟨w1.heap.size, 0, none⟩) 2 2, .string ByteArray.empty]) = Ending.returned (.agg #[.int .i64 0, .slice A 2 c, .string ByteArray.empty]) ∧ ((((w1.setCell ⟨w.heap.size, 0, none⟩ (.int .i64 0)).setCell ⟨w.heap.size, 1, none⟩ (.slice (some ⟨w1.heap.size, 0, none⟩) 2 2)).setCell ⟨w.heap.size, 2, none⟩ (.string ByteArray.empty)).alloc (.cells #[.int .u64 0, .int .i64 (k : Int), .int .u64 0, .int .i64 (cx : Int)] 68)).ownsRow w.heap.size 68 2 (.slice A 2 c) 2 (vcells (tV y.app k)) ∧ Below w.heap.size w ((((w1.setCell ⟨w.heap.size, 0, none⟩ (.int .i64 0)).setCell ⟨w.heap.size, 1, none⟩ (.slice (some ⟨w1.heap.size, 0, none⟩) 2 2)).setCell ⟨w.heap.size, 2, none⟩ (.string ByteArray.empty)).alloc (.cells #[.int .u64 0, .int .i64 (k : Int), .int .u64 0, .int .i64 (cx : Int)] 68)))) := Lib.hid (by
    have e1 : (tV y.app k) = [(0, (k : Int)), (0, (cx : Int))] := by unfold tV; rw [HQB.out, HCX.out]
    refine ⟨_, _, rfl, ?_, ?_⟩
    · rw [e1]
      refine ⟨rfl, .inr ⟨w1.heap.size, 2, #[.int .u64 0, .int .i64 (k : Int), .int .u64 0, .int .i64 (cx : Int)], rfl, HB1.out.size, ?_, Nat.le_refl _, by decide, rfl, rfl⟩⟩
      exact Blk.new' _ 68 w1.heap.size _ (by simp [World.setCell])
    · exact ((((HB1.out.setCell (p := ⟨w.heap.size, 0, none⟩) (Nat.le_refl _) _).setCell (p := ⟨w.heap.size, 1, none⟩) (Nat.le_refl _) _).setCell (p := ⟨w.heap.size, 2, none⟩) (Nat.le_refl _) _)).alloc (by simp [World.setCell]; have := HB1.out.size; omega) _)
  clear HCX HQB HRD HQL HB1
  go_wp2_with (go_at_call 44; refine HSM.out.mono ?_; rintro e w2 ⟨rfl, rfl⟩)
  exact bodyPost_ret (v := .agg #[.int .i64 0, .slice (some ⟨w1.heap.size, 0, none⟩) 2 2, .string ByteArray.empty]) (by simp [results, Try.results60, go_sem, *]) rfl HQ.out
end Go.Proofs.Ytjhkfpemcplaaaa
