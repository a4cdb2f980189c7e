/-
  The walk of the document's out f48.
-/
import Derived.Test.YtbkgphmocjjmmaaRnC
namespace Go.Proofs.Ytbkgphmocjjmmaa
open Go.RowKit

theorem Reads.pre {w : World} {B size n k : Nat} {A : Option Addr} {xs : List Value} (h : Reads w B size A n xs) (hk : k ≤ n) : Reads w B size A k (xs.take (k * size)) := by
  have hl := h.1
  refine ⟨by rw [List.length_take, hl]; exact Nat.min_eq_left (Nat.mul_le_mul_right _ hk), fun h0 => ?_⟩
  obtain ⟨ad, e, hb, hc⟩ := h.2 (by omega)
  exact ⟨ad, e, hb, fun j u hu => hc j u (by
    rw [List.getElem?_take] at hu
    split at hu
    · exact hu
    · cases hu)⟩
theorem lpCells_pre (l : List LP) (i : Nat) : (lpCells l).take (i * 2) = lpCells (l.take i) := by
  induction l generalizing i with
  | nil => simp [lpCells]
  | cons p l ih =>
    cases i with
    | zero => simp [lpCells]
    | succ i =>
      have e : lpCells (p :: l) = p.cells ++ lpCells l := by simp [lpCells]
      have hl : p.cells.length = 2 := rfl
      rw [e, List.take_append, hl, List.take_of_length_le (by rw [hl]; omega), show (i + 1) * 2 - 2 = i * 2 by omega, ih]
      simp [lpCells]
theorem lp_one (l : List LP) : ∀ u ∈ lpCells l, u.oneCell' = true := by
  intro u hu
  simp only [lpCells, List.mem_flatMap] at hu
  obtain ⟨p, _, hu⟩ := hu
  simp only [LP.cells, List.mem_cons, List.not_mem_nil, or_false] at hu
  rcases hu with rfl | rfl <;> rfl
theorem layR_setU (S : Ns) (v : Bool → Value) (s : Bool) (x : Value) (us : List Pk) : (layR S v).setIfInBounds (rwayO s) x = layR (S.setU s us) (upd v s x) := by cases s <;> simp [layR, rwayO, upd, Ns.setU]
/-- a way's row has been made anew, out of its own packets, and stored -/
theorem rrow_net {w w5 : World} {g : Nat} {S : Ns} {v : Bool → Value} {l : Bool → List LP} {s : Bool} {v1 : Value} {l1 : List LP} (h : NetR w g S v l) (hb : Below w.heap.size w w5) (hr : RowP w5 v1 l1) (hv : ∀ k, v1.ownBlock = some k → w.heap.size ≤ k) (hl : ∀ p ∈ l1, p ∈ l s) (hp : l1.Pairwise apartP) :
    NetR (w5.setCell ⟨g, rwayO s, none⟩ v1) g (S.setU s (l1.map LP.pk)) (upd v s v1) (upd l s l1) ∧ Chg (· = g) w (w5.setCell ⟨g, rwayO s, none⟩ v1) ∧ (∀ k, NetF g (upd v s v1) (upd l s l1) k → NetF g v l k ∨ w.heap.size ≤ k) := by
  have hgw := h.blk.lt
  have hc : Chg (· = g) w (w5.setCell ⟨g, rwayO s, none⟩ v1) := (Chg.of_below hb (· = g)).setCell (p := ⟨g, rwayO s, none⟩) (fun _ => rfl) v1
  have old : ∀ k, k < w.heap.size → k ≠ g → (w5.setCell ⟨g, rwayO s, none⟩ v1).heap[k]? = w.heap[k]? := fun k hk h2 => hc.block k hk h2
  have hpk : ∀ p ∈ l s, p.own (w5.setCell ⟨g, rwayO s, none⟩ v1) := fun p hp => own_chg (h.pks s p hp) hc (fun k e e2 => by subst e2; exact own_blk_ne (h.pks s p hp) h.blk (by decide) e)
  have hv' : v1.ownBlock = none ∨ v1.ownBlock = (v s).ownBlock ∨ ∃ k, v1.ownBlock = some k ∧ w.heap.size ≤ k := by
    cases e : v1.ownBlock with
    | none => exact .inl rfl
    | some k => exact .inr (.inr ⟨k, rfl, hv k e⟩)
  have hn : ∀ p ∈ l1, p.blk = none ∨ (∃ q ∈ l s, p.blk = q.blk) ∨ ∃ k, p.blk = some k ∧ w.heap.size ≤ k := fun p hp => .inr (.inl ⟨p, hl p hp, rfl⟩)
  refine ⟨h.upd s (w' := w5.setCell ⟨g, rwayO s, none⟩ v1) (S' := S.setU s (l1.map LP.pk)) ?_ ?_ (fun p hp => hpk p (hl p hp)) rfl hp hv' hn ?_, hc, fun k hk => NetF.upd hv' hn hk⟩
  · rw [← layR_setU S v s v1]
    exact (h.blk.below hb hgw).set_ _ _
  · refine World.ownsRow.kept hr (only_setCell (p := ⟨g, rwayO s, none⟩) (World.grownBy.refl w5 (some g)) (.inl rfl) v1) (.inr (fun e => ?_))
    have := hv g e
    omega
  · intro k hk
    obtain ⟨h1, _⟩ := h.other (by decide) (by decide) s hk
    refine old k ?_ h1
    rcases hk with hk | ⟨p, hp, hk⟩
    · exact (World.ownsRow.lt (h.row _) k hk).2
    · exact (World.ownsRow.lt (h.pks _ p hp) k hk).2
/-- what out leaves -/
def ROutP (w : World) (g : Nat) (S : Ns) (v : Bool → Value) (l : Bool → List LP) (s : Bool) (i : Nat) (p : LP) (e : Ending) (w' : World) : Prop :=
  ∃ v1, e = .returned (.agg #[.int .i64 p.pk.num, .slice p.A p.pk.bytes.length p.c]) ∧ NetR w' g (S.take s i) (upd v s v1) (upd l s ((l s).eraseIdx i)) ∧ (∀ k, NetF g (upd v s v1) (upd l s ((l s).eraseIdx i)) k → NetF g v l k ∨ w.heap.size ≤ k) ∧ (∀ k, v1.ownBlock = some k → w.heap.size ≤ k) ∧ Chg (· = g) w w' ∧ p.own w'
theorem own_slice {w : World} {base : Nat} {e : TypeId} {size n : Nat} {v : Value} {xs : List Value} (h : w.ownsRow base e size v n xs) : ∃ A m c, v = .slice A m c := by
  obtain ⟨A, c, e, _⟩ := own_form h
  exact ⟨A, _, c, e⟩
theorem erase_cells (l : List LP) (i : Nat) : lpCells (l.take i) ++ (lpCells l).drop ((i + 1) * 2) = lpCells (l.eraseIdx i) := by
  rw [List.eraseIdx_eq_take_drop_succ, lpCells_app, ← lpCells_drop]
/-- behind the second append of out -/
theorem rout_mid {w w2 w4 : World} {g i : Nat} {S : Ns} {v : Bool → Value} {l : Bool → List LP} {s : Bool} {p : LP} {v2 v4 : Value} (h : NetR w g S v l) (hp : (l s)[i]? = some p) (hb : Below w.heap.size w w2) (hpb : Blk w2 (w.heap.size + 1) 36 #[.int .i64 p.pk.num, .slice p.A p.pk.bytes.length p.c]) (hrb : Blk w2 w.heap.size 36 #[.int .i64 0, .slice none 0 0])
    (hnv : ∀ k, v2.ownBlock = some k → w.heap.size + 2 ≤ k) (ho : w4.ownsRow (w.heap.size + 2) 36 2 v4 (i + ((l s).length - (i + 1))) (lpCells ((l s).take i) ++ (lpCells (l s)).drop ((i + 1) * 2))) (hg : w2.drew.grownBy w4 v2.ownBlock) :
    w4.cell? ⟨g, rwayO s, none⟩ = some (v s) ∧ w4.frozen? ⟨g, rwayO s, none⟩ = false ∧ Blk (w4.setCell ⟨g, rwayO s, none⟩ v4) (w.heap.size + 1) 36 #[.int .i64 p.pk.num, .slice p.A p.pk.bytes.length p.c] ∧ Blk (w4.setCell ⟨g, rwayO s, none⟩ v4) w.heap.size 36 #[.int .i64 0, .slice none 0 0] ∧
    NetR (w4.setCell ⟨g, rwayO s, none⟩ v4) g (S.take s i) (upd v s v4) (upd l s ((l s).eraseIdx i)) ∧ Chg (· = g) w (w4.setCell ⟨g, rwayO s, none⟩ v4) ∧ (∀ k, NetF g (upd v s v4) (upd l s ((l s).eraseIdx i)) k → NetF g v l k ∨ w.heap.size ≤ k) ∧ (∀ k, v4.ownBlock = some k → w.heap.size + 2 ≤ k) := by
  have hi : i < (l s).length := (List.getElem?_eq_some_iff.1 hp).1
  have hgw := h.blk.lt
  have hb4 : Below w.heap.size w w4 := hb.drew.grown hg hb.size (fun k hk => by have := hnv k hk; omega)
  have hnv4 : ∀ k, v4.ownBlock = some k → w.heap.size + 2 ≤ k := fun k hk => (World.ownsRow.lt ho k hk).1
  have hrow : RowP w4 v4 ((l s).eraseIdx i) := by
    rw [erase_cells] at ho
    have e : i + ((l s).length - (i + 1)) = ((l s).eraseIdx i).length := by rw [List.length_eraseIdx, if_pos hi]; omega
    rw [e] at ho
    exact own_base ho (Nat.zero_le _)
  obtain ⟨n1, n2, n3⟩ := rrow_net h hb4 hrow (fun k hk => by have := hnv4 k hk; omega) (fun q hq => List.mem_of_mem_eraseIdx hq) ((h.apart s).sublist (List.eraseIdx_sublist _ _))
  have eS : S.setU s (((l s).eraseIdx i).map LP.pk) = S.take s i := by unfold Ns.setU Ns.take; rw [← map_erase, h.is]
  rw [eS] at n1
  have hp4 : Blk w4 (w.heap.size + 1) 36 #[.int .i64 p.pk.num, .slice p.A p.pk.bytes.length p.c] := hpb.drew.grown hg (fun e => by have := hnv _ e.symm; omega)
  have hr4 : Blk w4 w.heap.size 36 #[.int .i64 0, .slice none 0 0] := hrb.drew.grown hg (fun e => by have := hnv _ e.symm; omega)
  have hgb : Blk w4 g 92 (layR S v) := h.blk.below hb4 hgw
  exact ⟨(hgb.cell _).trans (layR_under _ _ _), hgb.frozen _, hp4.far (by simp; omega) _, hr4.far (by simp; omega) _, n1, n2, n3, hnv4⟩
theorem rout_end {w w5 : World} {g i : Nat} {S : Ns} {v : Bool → Value} {l : Bool → List LP} {s : Bool} {p : LP} {v4 : Value} (hr : Blk w5 w.heap.size 36 #[.int .i64 0, .slice none 0 0]) (hn : NetR w5 g (S.take s i) (upd v s v4) (upd l s ((l s).eraseIdx i))) (hc : Chg (· = g) w w5) (hsub : ∀ k, NetF g (upd v s v4) (upd l s ((l s).eraseIdx i)) k → NetF g v l k ∨ w.heap.size ≤ k) (hnv : ∀ k, v4.ownBlock = some k → w.heap.size + 2 ≤ k) (h : NetR w g S v l) (hp : (l s)[i]? = some p) :
    Blk ((w5.setCell ⟨w.heap.size, 0, none⟩ (.int .i64 p.pk.num)).setCell ⟨w.heap.size, 1, none⟩ (.slice p.A p.pk.bytes.length p.c)) w.heap.size 36 #[.int .i64 p.pk.num, .slice p.A p.pk.bytes.length p.c] ∧
    ROutP w g S v l s i p (.returned (.agg #[.int .i64 p.pk.num, .slice p.A p.pk.bytes.length p.c])) ((w5.setCell ⟨w.heap.size, 0, none⟩ (.int .i64 p.pk.num)).setCell ⟨w.heap.size, 1, none⟩ (.slice p.A p.pk.bytes.length p.c)) := by
  obtain ⟨hb4, hc4⟩ := res_three hr p.pk.num p.A p.pk.bytes.length p.c
  have hpm := List.mem_of_getElem? hp
  have hF : ∀ k, NetF g (upd v s v4) (upd l s ((l s).eraseIdx i)) k → k ≠ w.heap.size := fun k hk e => by
    subst e
    rcases hk with e | ⟨t, e⟩ | ⟨t, q, hq, e⟩
    · have := h.blk.lt; omega
    · by_cases ht : t = s
      · subst ht
        rw [upd_at] at e
        have := hnv _ e
        omega
      · have e2 : upd v s v4 t = v t := by simp [upd, ht]
        rw [e2] at e
        have := (World.ownsRow.lt (h.row t) _ e).2
        omega
    · exact own_blk_ne (hn.pks t q hq) hr (by decide) e
  have hpo : p.own w5 := own_chg (h.pks s p hpm) hc (fun k e e2 => by subst e2; exact own_blk_ne (h.pks s p hpm) h.blk (by decide) e)
  refine ⟨hb4, v4, rfl, hn.chg hc4 hF, hsub, fun k hk => (by have := hnv k hk; omega), hc.trans hc4 (fun j hj e => by omega), own_chg hpo hc4 (fun k e e2 => by subst e2; exact own_blk_ne hpo hr (by decide) e)⟩
set_option maxRecDepth 20000 in
set_option maxHeartbeats 4000000 in
theorem rout_f (g : Nat) (S : Ns) (v : Bool → Value) (l : Bool → List LP) (i : Nat) (p : LP) (w : World) (h : NetR w g S v l) (hp : (l false)[i]? = some p) (hn : (l false).length ≤ 64) :
    Calls Try.prog 48 #[.pointer (some ⟨g, 0, none⟩), .int .i64 0, .int .i64 i] w (ROutP w g S v l false i p) := by
  have hi : i < (l false).length := (List.getElem?_eq_some_iff.1 hp).1
  have hg : g < w.heap.size := h.blk.lt
  have u0 : w.cell? ⟨g, 4, none⟩ = some (v false) := (h.blk.cell _).trans (layR_under _ _ false)
  obtain ⟨gb, cb, hv, hgb, q0, q1⟩ := (h.row false).at_ hp
  rw [val_form] at q1
  have hcap : (l false).length ≤ cb := by
    obtain ⟨A, c, e, h1, _⟩ := own_form (h.row false)
    rw [hv] at e; injection e with _ _ e; omega
  rw [hv] at u0
  have H := Lib.hid h
  have HV := Lib.hid hv
  have HP := Lib.hid hp
  obtain ⟨i0, hi0, hz0, hz1, hz2⟩ := info_parts info36
  have l1 : (0 : Int) ≤ (i : Int) := by omega
  have l2 : (i : Int) < ((l false).length : Int) := by omega
  have l3 : (i : Int) ≤ (cb : Int) := by omega
  clear h hv hp
  go_enter Try.func48, Try.ntmps48
  go_upto_region 3 with fail
  have hb1 : Below w.heap.size w ((w.alloc (.cells #[.int .i64 0, .slice none 0 0] 36)).alloc (.cells #[.int .i64 p.pk.num, .slice p.A p.pk.bytes.length p.c] 36)) := ((Below.refl _ _).alloc (Nat.le_refl _) _).alloc (by simp) _
  have HR1 : Hid (Blk ((w.alloc (.cells #[.int .i64 0, .slice none 0 0] 36)).alloc (.cells #[.int .i64 p.pk.num, .slice p.A p.pk.bytes.length p.c] 36)) w.heap.size 36 #[.int .i64 0, .slice none 0 0]) := Lib.hid ((Blk.new w 36 _).alloc _)
  have HP1 : Hid (Blk ((w.alloc (.cells #[.int .i64 0, .slice none 0 0] 36)).alloc (.cells #[.int .i64 p.pk.num, .slice p.A p.pk.bytes.length p.c] 36)) (w.heap.size + 1) 36 #[.int .i64 p.pk.num, .slice p.A p.pk.bytes.length p.c]) := Lib.hid (Blk.new' _ 36 _ _ (by simp))
  generalize (w.alloc (.cells #[.int .i64 0, .slice none 0 0] 36)).alloc (.cells #[.int .i64 p.pk.num, .slice p.A p.pk.bytes.length p.c] 36) = w1 at *
  have HB1 := Lib.hid hb1
  have hs1 : w.heap.size + 1 < w1.heap.size := HP1.out.lt
  have u1 : w1.cell? ⟨g, 4, none⟩ = some (.slice (some ⟨gb, 0, none⟩) (l false).length cb) := (hb1.cell (p := ⟨g, 4, none⟩) hg).trans u0
  have hrow1 : RowP w1 (.slice (some ⟨gb, 0, none⟩) (l false).length cb) (l false) := by rw [← HV.out]; exact own_same (H.out.row false) fun k e => hb1.block k (World.ownsRow.lt (H.out.row false) k e).2
  have HRD := Lib.hid (Reads.of_own hrow1)
  have HLE : Hid (i ≤ (l false).length) := Lib.hid (by omega)
  have HS1 := Lib.hid hs1
  clear hb1 hrow1 u0 q0 q1
  go_upto_region 4 with (at_builtin; refine wpList_append_any _ rfl (.tmp 18) (.tmp 26) 39 rfl (w.heap.size + 2) 36 i0 _ 2 32 Try.underlying39 hi0 hz0 hz1 hz2 rfl (by decide) (.slice none 0 0) 0 [] rfl (World.ownsRow_nil _ _ _ _) _ _ _ _ _ rfl (Reads.pre HRD.out HLE.out) (by rw [← lpCells_take]; exact lp_one _) (by have := HLE.out; simp only [maxLen]; omega) (by have := HLE.out; omega) (by have := HS1.out; omega) ?_; intro v2 w2 hown hgrow hv2; have HO2 := Lib.hid hown; have HG2 := Lib.hid hgrow; clear hown hgrow hv2)
  rw [List.nil_append, ← lpCells_take] at HO2
  have HB2 : Hid (Below w1.heap.size w1 w2) := Lib.hid ((Below.refl _ _).grown HG2.out (Nat.le_refl _) (fun k hk => by simp [Value.ownBlock] at hk))
  have u2 : w2.cell? ⟨g, 4, none⟩ = some (.slice (some ⟨gb, 0, none⟩) (l false).length cb) := (HB2.out.cell (p := ⟨g, 4, none⟩) (by show g < _; have := HB1.out.size; omega)).trans u1
  have HRD2 := Lib.hid ((Reads.cut (HRD.out.below HB2.out) (k := i + 1) (by have := hi; omega) hcap))
  have hg2 : g < w2.heap.size := by have := HB1.out.size; have := HB2.out.size; omega
  have HP2 := Lib.hid (HP1.out.below HB2.out HP1.out.lt)
  have HR2 := Lib.hid (HR1.out.below HB2.out HR1.out.lt)
  obtain ⟨A2, c2, hv2, _, _⟩ := own_form HO2.out
  have HV2 := Lib.hid hv2
  clear hv2 u1 HG2
  have l4 : (i : Int) + 1 ≤ ((l false).length : Int) := by omega
  have l5 : (i : Int) + 1 ≤ (cb : Int) := by omega
  have l6 : (0 : Int) ≤ (i : Int) + 1 := by omega
  have hwr : IntKind.i64.wrap ((i : Int) + 1) = (i : Int) + 1 := by simp [IntKind.wrap, IntKind.bits, IntKind.signed]; omega
  have htn : ((i : Int) + 1).toNat = i + 1 := by omega
  have eA : (if cb = i + 1 then (some ⟨gb, 0, none⟩ : Option Addr) else (some (⟨gb, 0, none⟩ : Addr)).map (·.add ((i + 1) * 2))) = (if cb = i + 1 then some ⟨gb, 0, none⟩ else some ⟨gb, (i + 1) * 2, none⟩) := by
    split
    · rfl
    · simp [Addr.add]
  rw [eA] at HRD2
  have HO3 : Hid (w2.drew.ownsRow (w.heap.size + 2) 36 2 v2 i (lpCells ((l false).take i))) := Lib.hid (by have := HO2.out; rwa [Nat.zero_add] at this)
  have HLT : Hid (i + 1 ≤ (l false).length ∧ (l false).length ≤ 64) := Lib.hid ⟨by omega, hn⟩
  have HNV : Hid (∀ k, v2.ownBlock = some k → w.heap.size + 2 ≤ k) := Lib.hid (fun k hk => (World.ownsRow.lt HO3.out k hk).1)
  clear HO2 eA
  go_region_law (first
    | (refine step_append_any _ rfl (.tmp 30) (.tmp 39) 39 rfl (w.heap.size + 2) 36 i0 _ 2 32 Try.underlying39 hi0 hz0 hz1 hz2 rfl (by decide) v2 i (lpCells ((l false).take i)) (by simp [Act.eval, Act.put]) HO3.out w2.heap.size (if cb = i + 1 then some ⟨gb, 0, none⟩ else some ⟨gb, (i + 1) * 2, none⟩) ((l false).length - (i + 1)) (cb - (i + 1)) _ (by simp [Act.eval, Act.put]) (HRD2.out.drew.more HB2.out.size) (by rw [← lpCells_drop]; exact lp_one _) (by have := HLT.out; simp only [maxLen]; omega) (by have := HLT.out; omega) (by have := HS1.out; have := HB2.out.size; simp; omega) ?_; intro v4 w4 hown4 hgrow4 hv4; have HX := Lib.hid (rout_mid H.out HP.out (HB1.out.trans (HB2.out.mono HB1.out.size)) HP2.out HR2.out HNV.out hown4 hgrow4); have u4 : w4.cell? ⟨g, 4, none⟩ = some (v false) := HX.out.1; have f4 : w4.frozen? ⟨g, 4, none⟩ = false := HX.out.2.1; obtain ⟨A4, n4, c4, rfl⟩ := own_slice hown4; clear hown4 hgrow4 hv4))
  all_goals
    have HY : Hid (Blk (w4.setCell ⟨g, 4, none⟩ (.slice A4 n4 c4)) (w.heap.size + 1) 36 #[.int .i64 p.pk.num, .slice p.A p.pk.bytes.length p.c] ∧ Blk (w4.setCell ⟨g, 4, none⟩ (.slice A4 n4 c4)) w.heap.size 36 #[.int .i64 0, .slice none 0 0] ∧
      NetR (w4.setCell ⟨g, 4, none⟩ (.slice A4 n4 c4)) g (S.take false i) (upd v false (.slice A4 n4 c4)) (upd l false ((l false).eraseIdx i)) ∧ Chg (· = g) w (w4.setCell ⟨g, 4, none⟩ (.slice A4 n4 c4)) ∧ (∀ k, NetF g (upd v false (.slice A4 n4 c4)) (upd l false ((l false).eraseIdx i)) k → NetF g v l k ∨ w.heap.size ≤ k) ∧ (∀ k, (Value.slice A4 n4 c4).ownBlock = some k → w.heap.size + 2 ≤ k)) := Lib.hid HX.out.2.2
    clear HX u4 f4
    go_upto_region 5 with fail
    generalize hw5 : w4.setCell ⟨g, 4, none⟩ (.slice A4 n4 c4) = w5 at HY ⊢
    have x0 := HY.out.1.cell 0
    have x1 := HY.out.1.cell 1
    have r0 := HY.out.2.1.cell 0
    have r1 := HY.out.2.1.cell 1
    have s0 := HY.out.2.1.frozen 0
    have s1 := HY.out.2.1.frozen 1
    have hlt := HY.out.1.lt
    have HEND := Lib.hid (rout_end (HY.out.2.1) HY.out.2.2.1 HY.out.2.2.2.1 HY.out.2.2.2.2.1 HY.out.2.2.2.2.2 H.out HP.out)
    go_wp2
    all_goals
      have t0 := HEND.out.1.cell 0
      have t1 := HEND.out.1.cell 1
      clear x0 x1 r0 r1 s0 s1
      exact bodyPost_ret (v := .agg #[.int .i64 p.pk.num, .slice p.A p.pk.bytes.length p.c]) (by simp [results, Try.results48, go_sem, t0, t1]) rfl HEND.out.2
set_option maxRecDepth 20000 in
set_option maxHeartbeats 4000000 in
theorem rout_t (g : Nat) (S : Ns) (v : Bool → Value) (l : Bool → List LP) (i : Nat) (p : LP) (w : World) (h : NetR w g S v l) (hp : (l true)[i]? = some p) (hn : (l true).length ≤ 64) :
    Calls Try.prog 48 #[.pointer (some ⟨g, 0, none⟩), .int .i64 1, .int .i64 i] w (ROutP w g S v l true i p) := by
  have hi : i < (l true).length := (List.getElem?_eq_some_iff.1 hp).1
  have hg : g < w.heap.size := h.blk.lt
  have u0 : w.cell? ⟨g, 5, none⟩ = some (v true) := (h.blk.cell _).trans (layR_under _ _ true)
  obtain ⟨gb, cb, hv, hgb, q0, q1⟩ := (h.row true).at_ hp
  rw [val_form] at q1
  have hcap : (l true).length ≤ cb := by
    obtain ⟨A, c, e, h1, _⟩ := own_form (h.row true)
    rw [hv] at e; injection e with _ _ e; omega
  rw [hv] at u0
  have H := Lib.hid h
  have HV := Lib.hid hv
  have HP := Lib.hid hp
  obtain ⟨i0, hi0, hz0, hz1, hz2⟩ := info_parts info36
  have l1 : (0 : Int) ≤ (i : Int) := by omega
  have l2 : (i : Int) < ((l true).length : Int) := by omega
  have l3 : (i : Int) ≤ (cb : Int) := by omega
  clear h hv hp
  go_enter Try.func48, Try.ntmps48
  go_upto_region 3 with fail
  have hb1 : Below w.heap.size w ((w.alloc (.cells #[.int .i64 0, .slice none 0 0] 36)).alloc (.cells #[.int .i64 p.pk.num, .slice p.A p.pk.bytes.length p.c] 36)) := ((Below.refl _ _).alloc (Nat.le_refl _) _).alloc (by simp) _
  have HR1 : Hid (Blk ((w.alloc (.cells #[.int .i64 0, .slice none 0 0] 36)).alloc (.cells #[.int .i64 p.pk.num, .slice p.A p.pk.bytes.length p.c] 36)) w.heap.size 36 #[.int .i64 0, .slice none 0 0]) := Lib.hid ((Blk.new w 36 _).alloc _)
  have HP1 : Hid (Blk ((w.alloc (.cells #[.int .i64 0, .slice none 0 0] 36)).alloc (.cells #[.int .i64 p.pk.num, .slice p.A p.pk.bytes.length p.c] 36)) (w.heap.size + 1) 36 #[.int .i64 p.pk.num, .slice p.A p.pk.bytes.length p.c]) := Lib.hid (Blk.new' _ 36 _ _ (by simp))
  generalize (w.alloc (.cells #[.int .i64 0, .slice none 0 0] 36)).alloc (.cells #[.int .i64 p.pk.num, .slice p.A p.pk.bytes.length p.c] 36) = w1 at *
  have HB1 := Lib.hid hb1
  have hs1 : w.heap.size + 1 < w1.heap.size := HP1.out.lt
  have u1 : w1.cell? ⟨g, 5, none⟩ = some (.slice (some ⟨gb, 0, none⟩) (l true).length cb) := (hb1.cell (p := ⟨g, 5, none⟩) hg).trans u0
  have hrow1 : RowP w1 (.slice (some ⟨gb, 0, none⟩) (l true).length cb) (l true) := by rw [← HV.out]; exact own_same (H.out.row true) fun k e => hb1.block k (World.ownsRow.lt (H.out.row true) k e).2
  have HRD := Lib.hid (Reads.of_own hrow1)
  have HLE : Hid (i ≤ (l true).length) := Lib.hid (by omega)
  have HS1 := Lib.hid hs1
  clear hb1 hrow1 u0 q0 q1
  go_upto_region 4 with (at_builtin; refine wpList_append_any _ rfl (.tmp 18) (.tmp 26) 39 rfl (w.heap.size + 2) 36 i0 _ 2 32 Try.underlying39 hi0 hz0 hz1 hz2 rfl (by decide) (.slice none 0 0) 0 [] rfl (World.ownsRow_nil _ _ _ _) _ _ _ _ _ rfl (Reads.pre HRD.out HLE.out) (by rw [← lpCells_take]; exact lp_one _) (by have := HLE.out; simp only [maxLen]; omega) (by have := HLE.out; omega) (by have := HS1.out; omega) ?_; intro v2 w2 hown hgrow hv2; have HO2 := Lib.hid hown; have HG2 := Lib.hid hgrow; clear hown hgrow hv2)
  rw [List.nil_append, ← lpCells_take] at HO2
  have HB2 : Hid (Below w1.heap.size w1 w2) := Lib.hid ((Below.refl _ _).grown HG2.out (Nat.le_refl _) (fun k hk => by simp [Value.ownBlock] at hk))
  have u2 : w2.cell? ⟨g, 5, none⟩ = some (.slice (some ⟨gb, 0, none⟩) (l true).length cb) := (HB2.out.cell (p := ⟨g, 5, none⟩) (by show g < _; have := HB1.out.size; omega)).trans u1
  have HRD2 := Lib.hid ((Reads.cut (HRD.out.below HB2.out) (k := i + 1) (by have := hi; omega) hcap))
  have hg2 : g < w2.heap.size := by have := HB1.out.size; have := HB2.out.size; omega
  have HP2 := Lib.hid (HP1.out.below HB2.out HP1.out.lt)
  have HR2 := Lib.hid (HR1.out.below HB2.out HR1.out.lt)
  obtain ⟨A2, c2, hv2, _, _⟩ := own_form HO2.out
  have HV2 := Lib.hid hv2
  clear hv2 u1 HG2
  have l4 : (i : Int) + 1 ≤ ((l true).length : Int) := by omega
  have l5 : (i : Int) + 1 ≤ (cb : Int) := by omega
  have l6 : (0 : Int) ≤ (i : Int) + 1 := by omega
  have hwr : IntKind.i64.wrap ((i : Int) + 1) = (i : Int) + 1 := by simp [IntKind.wrap, IntKind.bits, IntKind.signed]; omega
  have htn : ((i : Int) + 1).toNat = i + 1 := by omega
  have eA : (if cb = i + 1 then (some ⟨gb, 0, none⟩ : Option Addr) else (some (⟨gb, 0, none⟩ : Addr)).map (·.add ((i + 1) * 2))) = (if cb = i + 1 then some ⟨gb, 0, none⟩ else some ⟨gb, (i + 1) * 2, none⟩) := by
    split
    · rfl
    · simp [Addr.add]
  rw [eA] at HRD2
  have HO3 : Hid (w2.drew.ownsRow (w.heap.size + 2) 36 2 v2 i (lpCells ((l true).take i))) := Lib.hid (by have := HO2.out; rwa [Nat.zero_add] at this)
  have HLT : Hid (i + 1 ≤ (l true).length ∧ (l true).length ≤ 64) := Lib.hid ⟨by omega, hn⟩
  have HNV : Hid (∀ k, v2.ownBlock = some k → w.heap.size + 2 ≤ k) := Lib.hid (fun k hk => (World.ownsRow.lt HO3.out k hk).1)
  clear HO2 eA
  go_region_law (first
    | (refine step_append_any _ rfl (.tmp 30) (.tmp 39) 39 rfl (w.heap.size + 2) 36 i0 _ 2 32 Try.underlying39 hi0 hz0 hz1 hz2 rfl (by decide) v2 i (lpCells ((l true).take i)) (by simp [Act.eval, Act.put]) HO3.out w2.heap.size (if cb = i + 1 then some ⟨gb, 0, none⟩ else some ⟨gb, (i + 1) * 2, none⟩) ((l true).length - (i + 1)) (cb - (i + 1)) _ (by simp [Act.eval, Act.put]) (HRD2.out.drew.more HB2.out.size) (by rw [← lpCells_drop]; exact lp_one _) (by have := HLT.out; simp only [maxLen]; omega) (by have := HLT.out; omega) (by have := HS1.out; have := HB2.out.size; simp; omega) ?_; intro v4 w4 hown4 hgrow4 hv4; have HX := Lib.hid (rout_mid H.out HP.out (HB1.out.trans (HB2.out.mono HB1.out.size)) HP2.out HR2.out HNV.out hown4 hgrow4); have u4 : w4.cell? ⟨g, 5, none⟩ = some (v true) := HX.out.1; have f4 : w4.frozen? ⟨g, 5, none⟩ = false := HX.out.2.1; obtain ⟨A4, n4, c4, rfl⟩ := own_slice hown4; clear hown4 hgrow4 hv4))
  all_goals
    have HY : Hid (Blk (w4.setCell ⟨g, 5, none⟩ (.slice A4 n4 c4)) (w.heap.size + 1) 36 #[.int .i64 p.pk.num, .slice p.A p.pk.bytes.length p.c] ∧ Blk (w4.setCell ⟨g, 5, none⟩ (.slice A4 n4 c4)) w.heap.size 36 #[.int .i64 0, .slice none 0 0] ∧
      NetR (w4.setCell ⟨g, 5, none⟩ (.slice A4 n4 c4)) g (S.take true i) (upd v true (.slice A4 n4 c4)) (upd l true ((l true).eraseIdx i)) ∧ Chg (· = g) w (w4.setCell ⟨g, 5, none⟩ (.slice A4 n4 c4)) ∧ (∀ k, NetF g (upd v true (.slice A4 n4 c4)) (upd l true ((l true).eraseIdx i)) k → NetF g v l k ∨ w.heap.size ≤ k) ∧ (∀ k, (Value.slice A4 n4 c4).ownBlock = some k → w.heap.size + 2 ≤ k)) := Lib.hid HX.out.2.2
    clear HX u4 f4
    go_upto_region 5 with fail
    generalize hw5 : w4.setCell ⟨g, 5, none⟩ (.slice A4 n4 c4) = w5 at HY ⊢
    have x0 := HY.out.1.cell 0
    have x1 := HY.out.1.cell 1
    have r0 := HY.out.2.1.cell 0
    have r1 := HY.out.2.1.cell 1
    have s0 := HY.out.2.1.frozen 0
    have s1 := HY.out.2.1.frozen 1
    have hlt := HY.out.1.lt
    have HEND := Lib.hid (rout_end (HY.out.2.1) HY.out.2.2.1 HY.out.2.2.2.1 HY.out.2.2.2.2.1 HY.out.2.2.2.2.2 H.out HP.out)
    go_wp2
    all_goals
      have t0 := HEND.out.1.cell 0
      have t1 := HEND.out.1.cell 1
      clear x0 x1 r0 r1 s0 s1
      exact bodyPost_ret (v := .agg #[.int .i64 p.pk.num, .slice p.A p.pk.bytes.length p.c]) (by simp [results, Try.results48, go_sem, t0, t1]) rfl HEND.out.2
theorem rout_any (g : Nat) (S : Ns) (v : Bool → Value) (l : Bool → List LP) (s : Bool) (i : Nat) (p : LP) (w : World) (h : NetR w g S v l) (hp : (l s)[i]? = some p) (hn : (l s).length ≤ 64) :
    Calls Try.prog 48 #[.pointer (some ⟨g, 0, none⟩), .int .i64 (idxN s), .int .i64 i] w (ROutP w g S v l s i p) := by
  cases s with
  | false => exact rout_f g S v l i p w h hp hn
  | true => exact rout_t g S v l i p w h hp hn
end Go.Proofs.Ytbkgphmocjjmmaa
