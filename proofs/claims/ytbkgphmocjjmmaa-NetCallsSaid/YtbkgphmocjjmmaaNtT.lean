/-
  The walk of Flip where there is a packet at the place, and where there is none.
-/
import Derived.Test.YtbkgphmocjjmmaaNtP
import Derived.Test.YtbkgphmocjjmmaaNtS
namespace Go.Proofs.Ytbkgphmocjjmmaa
open Go.RowKit

/-- a store into a row of one-cell elements -/
theorem own_setA {w : World} {base g j : Nat} {e : TypeId} {n : Nat} {v : Value} {xs : List Value} (h : w.ownsRow base e 1 v n xs) (hg : v.ownBlock = some g) (u : Value) : (w.setCell ⟨g, j, none⟩ u).ownsRow base e 1 v n (xs.set j u) := by
  refine ⟨by rw [List.length_set]; exact h.1, ?_⟩
  rcases h.2 with ⟨rfl, _⟩ | ⟨g', cap, cur, rfl, hb, hgg, hn, hm, hc, ht⟩
  · simp [Value.ownBlock] at hg
  · have : g' = g := by simpa [Value.ownBlock] using hg
    subst this
    refine .inr ⟨g', cap, cur.setIfInBounds j u, rfl, hb, ?_, hn, hm, by simp [hc], ?_⟩
    · simp [World.setCell, Array.getElem?_modify, hgg]
    · rw [← ht]
      simp [List.take_set]
theorem bytes_set {bs : List UInt8} (j : Nat) (x : UInt8) : (bs.map bv).set j (bv x) = (bs.set j x).map bv := by rw [List.map_set]
theorem own_setB {w : World} {base g j : Nat} {v : Value} {bs : List UInt8} (h : OwnB 5 w base v bs) (hg : v.ownBlock = some g) (x : UInt8) : OwnB 5 (w.setCell ⟨g, j, none⟩ (bv x)) base v (bs.set j x) := by
  have := own_setA h hg (j := j) (bv x)
  rw [bytes_set] at this
  show World.ownsRow _ base 5 1 v (bs.set j x).length _
  rw [List.length_set]
  exact this
def Pk.flip (p : Pk) (j : Nat) (x : UInt8) : Pk := ⟨p.num, p.bytes.set j x⟩
def Ns.flip (S : Ns) (s : Bool) (i : Nat) (q : Pk) : Ns := { S with u := upd S.u s ((S.u s).set i q) }
def LP.flip (p : LP) (j : Nat) (x : UInt8) : LP := ⟨p.pk.flip j x, p.A, p.c⟩
theorem LP.flip_val (p : LP) (j : Nat) (x : UInt8) : (p.flip j x).val = p.val := by simp [LP.flip, LP.val, Pk.flip]
theorem LP.flip_blk (p : LP) (j : Nat) (x : UInt8) : (p.flip j x).blk = p.blk := by simp [LP.blk, LP.flip_val]
theorem LP.flip_cells (p : LP) (j : Nat) (x : UInt8) : (p.flip j x).cells = p.cells := by simp [LP.cells, LP.flip_val]; rfl
theorem lpCells_set {l : List LP} {i : Nat} {p q : LP} (hp : l[i]? = some p) (h : q.cells = p.cells) : lpCells (l.set i q) = lpCells l := by
  have hi : i < l.length := (List.getElem?_eq_some_iff.1 hp).1
  have hx : l[i] = p := (List.getElem?_eq_some_iff.1 hp).2
  have e : l.set i q = l.take i ++ q :: l.drop (i + 1) := List.set_eq_take_append_cons_drop.trans (by rw [if_pos hi])
  have e2 : l = l.take i ++ p :: l.drop (i + 1) := by rw [← hx, ← List.drop_eq_getElem_cons hi, List.take_append_drop]
  rw [e]
  conv => rhs; rw [e2]
  simp [lpCells, h]
theorem set_mem {α : Type} {l : List α} {i : Nat} {q r : α} (h : r ∈ l.set i q) : r = q ∨ r ∈ l := by
  rcases List.mem_or_eq_of_mem_set h with h | h
  · exact .inr h
  · exact .inl h
theorem apart_set {l : List LP} {i : Nat} {p q : LP} (h : l.Pairwise apartP) (hp : l[i]? = some p) (hb : q.blk = p.blk) : (l.set i q).Pairwise apartP := by
  rw [List.pairwise_iff_getElem] at h ⊢
  intro a b ha hb' hab
  simp only [List.length_set] at ha hb'
  have hx : l[i]'((List.getElem?_eq_some_iff.1 hp).1) = p := (List.getElem?_eq_some_iff.1 hp).2
  have key := h a b ha hb' hab
  unfold apartP at *
  have e : ∀ c (hc : c < l.length), ((l.set i q)[c]'(by simpa using hc)).blk = l[c].blk := by
    intro c hc
    rw [List.getElem_set]
    split
    · rename_i e; subst e; rw [hb, ← hx]
    · rfl
  rw [e a ha, e b hb']
  exact key
/-- a packet of the net that stands at a place is none of the others -/
theorem apart_at {l : List LP} {i j : Nat} {p q : LP} (h : l.Pairwise apartP) (hp : l[i]? = some p) (hq : l[j]? = some q) (hij : i ≠ j) : apartP p q := by
  have hi : i < l.length := (List.getElem?_eq_some_iff.1 hp).1
  have hj : j < l.length := (List.getElem?_eq_some_iff.1 hq).1
  have hx : l[i] = p := (List.getElem?_eq_some_iff.1 hp).2
  have hy : l[j] = q := (List.getElem?_eq_some_iff.1 hq).2
  rw [List.pairwise_iff_getElem] at h
  rcases Nat.lt_or_gt_of_ne hij with h1 | h1
  · have := h i j hi hj h1; rw [hx, hy] at this; exact this
  · have := h j i hj hi h1; rw [hx, hy] at this; exact this.symm
/-- a byte of a packet under way has turned -/
theorem net_flip {t : TypeId} {lay : Ns → (Bool → Value) → Array Value} {w : World} {g : Nat} {S : Ns} {v : Bool → Value} {l : Bool → List LP} {s : Bool} {i j gp : Nat} {p : LP} (h : NetX t lay w g S v l) (hlay : ∀ q, lay (S.flip s i q) v = lay S v) (h5 : t ≠ 5) (hp : (l s)[i]? = some p) (hb : p.blk = some gp) (x : UInt8) :
    NetX t lay (w.setCell ⟨gp, j, none⟩ (bv x)) g (S.flip s i (p.pk.flip j x)) v (upd l s ((l s).set i (p.flip j x))) ∧ (∀ k, NetF g v (upd l s ((l s).set i (p.flip j x))) k → NetF g v l k) ∧ (p.flip j x).own (w.setCell ⟨gp, j, none⟩ (bv x)) := by
  have hpm : p ∈ l s := List.mem_of_getElem? hp
  have hpo := h.pks s p hpm
  have hg : g ≠ gp := fun e => by subst e; exact own_blk_ne hpo h.blk (Ne.symm h5) hb
  have hrow : ∀ s', (v s').ownBlock ≠ some gp := fun s' e => own_apart hpo (h.row s') (by decide) gp hb e
  have hfo : (p.flip j x).own (w.setCell ⟨gp, j, none⟩ (bv x)) := by
    show OwnB 5 _ 0 (p.flip j x).val (p.pk.bytes.set j x)
    rw [LP.flip_val]
    exact own_setB hpo hb x
  have old : ∀ k, k ≠ gp → (w.setCell ⟨gp, j, none⟩ (bv x)).heap[k]? = w.heap[k]? := fun k hk => Below.heap_setCell _ _ _ _ hk
  have hpo2 : ∀ s', ∀ q ∈ upd l s ((l s).set i (p.flip j x)) s', q.own (w.setCell ⟨gp, j, none⟩ (bv x)) := by
    intro s' q hq
    by_cases hs : s' = s
    · subst hs
      rw [upd_at] at hq
      obtain ⟨a, ha⟩ := List.getElem?_of_mem hq
      rw [List.getElem?_set] at ha
      split at ha
      · rename_i e
        subst e
        split at ha
        · injection ha with ha; subst ha; exact hfo
        · cases ha
      · rename_i e
        have hap := apart_at (h.apart s') hp ha e
        refine own_same (h.pks s' q (List.mem_of_getElem? ha)) fun k hk => old k (fun e2 => ?_)
        subst e2
        rcases hap with h1 | h1
        · rw [hb] at h1; cases h1
        · exact h1 (hb.trans hk.symm)
    · have e : upd l s ((l s).set i (p.flip j x)) s' = l s' := by simp [upd, hs]
      rw [e] at hq
      refine own_same (h.pks s' q hq) fun k hk => old k (fun e2 => ?_)
      subst e2
      have hap : apartP p q := by
        cases s with
        | false => have : s' = true := by cases s' <;> simp_all
                   subst this; exact h.cross p hpm q hq
        | true => have : s' = false := by cases s' <;> simp_all
                  subst this; exact (h.cross q hq p hpm).symm
      rcases hap with h1 | h1
      · rw [hb] at h1; cases h1
      · exact h1 (hb.trans hk.symm)
  have hlen : ((l s).set i (p.flip j x)).length = (l s).length := List.length_set
  refine ⟨⟨?_, fun s' => ?_, hpo2, fun s' => ?_, h.rows, fun s' => ?_, ?_⟩, fun k hk => ?_, hfo⟩
  · rw [hlay]; exact (old g hg).trans h.blk
  · have h1 := own_same (h.row s') (w' := w.setCell ⟨gp, j, none⟩ (bv x)) fun k hk => old k (fun e => hrow s' (by rw [hk, e]))
    by_cases hs : s' = s
    · subst hs
      rw [upd_at]
      unfold RowP
      rw [hlen, lpCells_set hp (LP.flip_cells p j x)]
      exact h1
    · have e : upd l s ((l s).set i (p.flip j x)) s' = l s' := by simp [upd, hs]
      rw [e]; exact h1
  · by_cases hs : s' = s
    · subst hs
      simp only [Ns.flip, upd_at]
      rw [List.map_set, h.is]; rfl
    · simp only [Ns.flip, upd, hs, if_false]
      exact h.is s'
  · by_cases hs : s' = s
    · subst hs
      rw [upd_at]
      exact apart_set (h.apart s') hp (LP.flip_blk p j x)
    · have e : upd l s ((l s).set i (p.flip j x)) s' = l s' := by simp [upd, hs]
      rw [e]; exact h.apart s'
  · intro a ha b hb'
    have ea : ∃ a' ∈ l false, a.blk = a'.blk := by
      by_cases hs : s = false
      · subst hs
        rw [upd_at] at ha
        rcases set_mem ha with e | e
        · subst e; exact ⟨p, hpm, LP.flip_blk p j x⟩
        · exact ⟨a, e, rfl⟩
      · have e : upd l s ((l s).set i (p.flip j x)) false = l false := by simp [upd, Ne.symm hs]
        rw [e] at ha; exact ⟨a, ha, rfl⟩
    have eb : ∃ b' ∈ l true, b.blk = b'.blk := by
      by_cases hs : s = true
      · subst hs
        rw [upd_at] at hb'
        rcases set_mem hb' with e | e
        · subst e; exact ⟨p, hpm, LP.flip_blk p j x⟩
        · exact ⟨b, e, rfl⟩
      · have e : upd l s ((l s).set i (p.flip j x)) true = l true := by simp [upd, Ne.symm hs]
        rw [e] at hb'; exact ⟨b, hb', rfl⟩
    obtain ⟨a', ha', e1⟩ := ea
    obtain ⟨b', hb2, e2⟩ := eb
    have := h.cross a' ha' b' hb2
    unfold apartP at *
    rw [e1, e2]; exact this
  · rcases hk with e | ⟨s', e⟩ | ⟨s', q, hq, e⟩
    · exact .inl e
    · exact .inr (.inl ⟨s', e⟩)
    · by_cases hs : s' = s
      · subst hs
        rw [upd_at] at hq
        rcases set_mem hq with e2 | e2
        · subst e2
          rw [LP.flip_blk] at e
          exact .inr (.inr ⟨s', p, hpm, e⟩)
        · exact .inr (.inr ⟨s', q, e2, e⟩)
      · have e2 : upd l s ((l s).set i (p.flip j x)) s' = l s' := by simp [upd, hs]
        rw [e2] at hq
        exact .inr (.inr ⟨s', q, hq, e⟩)
theorem Ns.flip_ok {K : Int} {S : Ns} (h : S.ok K) (s : Bool) (i : Nat) (q : Pk) : (S.flip s i q).ok K := by
  refine ⟨h.lo, h.hi, h.ep, h.nu, fun t => ?_, h.cn⟩
  by_cases ht : t = s
  · subst ht
    have := h.len t
    simp only [Ns.flip, upd_at, List.length_set]
    exact this
  · have := h.len t
    simpa [Ns.flip, upd, ht] using this
theorem layN_flip (S : Ns) (v : Bool → Value) (s : Bool) (i : Nat) (q : Pk) : layN (S.flip s i q) v = layN S v := rfl
theorem own_addr {w : World} {p : LP} (h : p.own w) (hl : 0 < p.pk.bytes.length) : ∃ gp, p.A = some ⟨gp, 0, none⟩ ∧ p.blk = some gp ∧ gp < w.heap.size := by
  obtain ⟨g, cap, hv, _, hlt⟩ := World.ownsRow.form h hl
  have e : p.A = some ⟨g, 0, none⟩ := by unfold LP.val at hv; injection hv
  exact ⟨g, e, by unfold LP.blk; rw [hv]; simp [Value.ownBlock], hlt⟩
theorem own_byte {w : World} {p : LP} {gp j : Nat} {b : UInt8} (h : p.own w) (hA : p.A = some ⟨gp, 0, none⟩) (hb : p.pk.bytes[j]? = some b) : w.cell? ⟨gp, j, none⟩ = some (.int .u8 (b.toNat : Int)) ∧ w.frozen? ⟨gp, j, none⟩ = false := by
  have hj : j < p.pk.bytes.length := (List.getElem?_eq_some_iff.1 hb).1
  have ad : ∀ j, (⟨gp, 0, none⟩ : Addr).add j = ⟨gp, j, none⟩ := fun j => by unfold Addr.add; split <;> simp_all
  obtain ⟨ad', x, e, _, hx, hc⟩ := Reads.byte (OwnB.reads (n := p.pk.bytes.length) h rfl) hj
  rw [hA] at e
  injection e with e
  subst e
  rw [ad] at hc
  rw [hb] at hx
  injection hx with hx
  subst hx
  refine ⟨hc, ?_⟩
  rcases h.2 with ⟨hn, h0⟩ | ⟨q, cap, cur, hv, _, hq, _⟩
  · omega
  · unfold LP.val at hv
    rw [hA] at hv
    injection hv with hv
    injection hv with hv
    injection hv with hv
    subst hv
    simp [World.frozen?, hq]
theorem xor_u8 (a b : UInt8) : bits .xor .u8 (a.toNat : Int) (b.toNat : Int) = ((a ^^^ b).toNat : Int) := by
  rw [UInt8.toNat_xor]
  exact u8_xor_nat a.toNat b.toNat (u8_lt a) (u8_lt b)
set_option maxRecDepth 20000 in
set_option maxHeartbeats 4000000 in
theorem flip_none (g : Nat) (S : Ns) (v : Bool → Value) (l : Bool → List LP) (K : Int) (s : Bool) (i : Nat) (j : Int) (mk : UInt8) (p : LP) (w : World) (h : NetA w g S v l) (hk : S.ok K) (hu : S.up = true) (hp : (l s)[i]? = some p) (hj : j < 0 ∨ (p.pk.bytes.length : Int) ≤ j ∨ mk = 0) :
    Calls Try.prog 17 #[.pointer (some ⟨g, 0, none⟩), .int .i64 (sideN s), .int .i64 i, .int .i64 j, .int .u8 (mk.toNat : Int)] w (NoP w 1) := by
  have hi : i < (l s).length := (List.getElem?_eq_some_iff.1 hp).1
  have hl := hk.lo
  have hg : g < w.heap.size := h.blk.lt
  have u0 : w.cell? ⟨g, wayO s, none⟩ = some (v s) := (h.blk.cell _).trans (layN_under _ _ _)
  obtain ⟨gb, cb, hv, hgb, q0, q1⟩ := (h.row s).at_ hp
  rw [val_form] at q1
  have HAT := Lib.hid fun (W : World) (hW : Below w.heap.size w W) (hz : RdZ W (w.heap.size + 1) [(i : Int)]) => at_up g (w.heap.size + 1) 1 S.limit s [(i : Int)] (some ⟨gb, 0, none⟩) (l s).length cb W ((h.blk.below hW hg).cell 0) (by rw [← hu]; exact (h.blk.below hW hg).cell 1) (by omega) (by rw [← hv, hW.cell (p := ⟨g, wayO s, none⟩) hg]; exact u0) hz (by simp)
  have HIN : Hid ([(i : Int)].all (inB (l s).length) = true) := Lib.hid (by simp [inB]; omega)
  have HZ : Hid (RdZ ((w.alloc (.cells #[.int .i64 0, .slice none 0 0] 36)).alloc (.cells #[.int .i64 i] 3)) (w.heap.size + 1) [(i : Int)]) := Lib.hid (fun k z hk => by
    match k with
    | 0 => simp only [List.getElem?_cons_zero, Option.some.injEq] at hk; subst hk; exact (Blk.new' _ 3 _ _ (by simp)).cell 0
    | k + 1 => simp at hk)
  have hb1 : Below w.heap.size w ((w.alloc (.cells #[.int .i64 0, .slice none 0 0] 36)).alloc (.cells #[.int .i64 i] 3)) := ((Below.refl _ _).alloc (Nat.le_refl _) _).alloc (by simp) _
  have hres : Blk ((w.alloc (.cells #[.int .i64 0, .slice none 0 0] 36)).alloc (.cells #[.int .i64 i] 3)) w.heap.size 36 #[.int .i64 0, .slice none 0 0] := (Blk.new w 36 _).alloc _
  have HB1 := Lib.hid hb1
  have HV := Lib.hid hv
  clear h hu hv hb1 hp hk
  go_enter Try.func17, Try.ntmps17
  go_wp2_with fail
  refine (HAT.out _ HB1.out HZ.out).mono ?_
  rw [HIN.out]
  rintro e w1 ⟨rfl, rfl⟩
  have u1 : ((w.alloc (.cells #[.int .i64 0, .slice none 0 0] 36)).alloc (.cells #[.int .i64 i] 3)).cell? ⟨g, wayO s, none⟩ = some (.slice (some ⟨gb, 0, none⟩) (l s).length cb) := by rw [HB1.out.cell (p := ⟨g, wayO s, none⟩) hg, u0, HV.out]
  have q3 : ((w.alloc (.cells #[.int .i64 0, .slice none 0 0] 36)).alloc (.cells #[.int .i64 i] 3)).cell? ⟨gb, i * 2 + 1, none⟩ = some (.slice p.A p.pk.bytes.length p.c) := by rw [HB1.out.cell (p := ⟨gb, i * 2 + 1, none⟩) hgb, q1]
  have r0 := hres.cell 0
  have r1 := hres.cell 1
  have s0 := hres.frozen 0
  have s1 := hres.frozen 1
  have hrl := hres.lt
  have HRES := Lib.hid hres
  generalize hw1 : (w.alloc (.cells #[.int .i64 0, .slice none 0 0] 36)).alloc (.cells #[.int .i64 i] 3) = w1 at *
  have l1 : (0 : Int) ≤ (i : Int) := by omega
  have l2 : (i : Int) < ((l s).length : Int) := by omega
  have hg1 : g < w1.heap.size := by have := HB1.out.size; omega
  have hgb1 : gb < w1.heap.size := by have := HB1.out.size; omega
  clear hw1 u0 q0 q1 HAT HIN HZ hres HV
  simp only [if_true]
  have HFIN : Hid (Below w.heap.size w ((w1.setCell ⟨w.heap.size, 0, none⟩ (.int .i64 0)).setCell ⟨w.heap.size, 1, none⟩ (.slice none 0 0)) ∧ Blk ((w1.setCell ⟨w.heap.size, 0, none⟩ (.int .i64 0)).setCell ⟨w.heap.size, 1, none⟩ (.slice none 0 0)) w.heap.size 36 #[.int .i64 0, .slice none 0 0]) := Lib.hid ⟨(HB1.out.setCell (p := ⟨w.heap.size, 0, none⟩) (Nat.le_refl _) _).setCell (p := ⟨w.heap.size, 1, none⟩) (Nat.le_refl _) _, (HRES.out.set_ 0 _).set_ 1 _⟩
  by_cases t1 : j < 0
  · clear hj
    go_wp2
    have t0 := HFIN.out.2.cell 0
    have t1 := HFIN.out.2.cell 1
    clear r0 r1 s0 s1
    exact bodyPost_ret (v := .tuple #[.agg #[.int .i64 0, .slice none 0 0], .int .i64 1]) (by simp [results, Try.results17, go_sem, t0, t1]) rfl ⟨rfl, HFIN.out.1⟩
  · by_cases t2 : (p.pk.bytes.length : Int) ≤ j
    · clear hj
      go_wp2
      have t0 := HFIN.out.2.cell 0
      have t1 := HFIN.out.2.cell 1
      clear r0 r1 s0 s1
      exact bodyPost_ret (v := .tuple #[.agg #[.int .i64 0, .slice none 0 0], .int .i64 1]) (by simp [results, Try.results17, go_sem, t0, t1]) rfl ⟨rfl, HFIN.out.1⟩
    · have t3 : ((mk.toNat : Int) == 0) = true := by
        rcases hj with h | h | h
        · omega
        · omega
        · rw [h]; rfl
      clear hj
      go_wp2
      have t0 := HFIN.out.2.cell 0
      have t1 := HFIN.out.2.cell 1
      clear r0 r1 s0 s1
      exact bodyPost_ret (v := .tuple #[.agg #[.int .i64 0, .slice none 0 0], .int .i64 1]) (by simp [results, Try.results17, go_sem, t0, t1]) rfl ⟨rfl, HFIN.out.1⟩
/-- behind Flip -/
theorem flip_end {w w1 w3 w4 : World} {g gp i j : Nat} {S : Ns} {v : Bool → Value} {l : Bool → List LP} {s : Bool} {p : LP} {x : UInt8} {A2 : Option Addr} {c2 : Nat} (h : NetA w g S v l) (hb1 : Below w.heap.size w w1) (hp : (l s)[i]? = some p) (hb : p.blk = some gp) (hr : Blk w1 w.heap.size 36 #[.int .i64 0, .slice none 0 0])
    (hn : NetA w3 g ((S.flip s i (p.pk.flip j x)).add s 6 1) v (upd l s ((l s).set i (p.flip j x)))) (hsub : ∀ k, NetF g v (upd l s ((l s).set i (p.flip j x))) k → NetF g v l k) (hc : Chg (fun k => k = g ∨ k = gp) w1 w3) (hb4 : Below w3.heap.size w3 w4) (ho : OwnB 5 w4 w3.heap.size (.slice A2 (p.pk.bytes.set j x).length c2) (p.pk.bytes.set j x)) :
    Blk w4 w.heap.size 36 #[.int .i64 0, .slice none 0 0] ∧ Blk ((w4.setCell ⟨w.heap.size, 0, none⟩ (.int .i64 p.pk.num)).setCell ⟨w.heap.size, 1, none⟩ (.slice A2 (p.pk.bytes.set j x).length c2)) w.heap.size 36 #[.int .i64 p.pk.num, .slice A2 (p.pk.bytes.set j x).length c2] ∧
    StepP w g v l ((S.flip s i (p.pk.flip j x)).add s 6 1) (OutP w (NetF g v l) p.pk.num (p.pk.bytes.set j x) 0) (.returned (.tuple #[.agg #[.int .i64 p.pk.num, .slice A2 (p.pk.bytes.set j x).length c2], .int .i64 0])) ((w4.setCell ⟨w.heap.size, 0, none⟩ (.int .i64 p.pk.num)).setCell ⟨w.heap.size, 1, none⟩ (.slice A2 (p.pk.bytes.set j x).length c2)) := by
  have hpF : NetF g v l gp := .inr (.inr ⟨s, p, List.mem_of_getElem? hp, hb⟩)
  have hgl := h.blk.lt
  have hpl := h.lt hpF
  have hs1 := hb1.size
  have hs3 := hc.size
  have hr3 : Blk w3 w.heap.size 36 #[.int .i64 0, .slice none 0 0] := hc.blk hr (by omega)
  have hr4 : Blk w4 w.heap.size 36 #[.int .i64 0, .slice none 0 0] := hr3.below hb4 hr3.lt
  obtain ⟨hb5, hc5⟩ := res_three hr4 p.pk.num A2 (p.pk.bytes.set j x).length c2
  have hF : ∀ k, NetF g v (upd l s ((l s).set i (p.flip j x))) k → k ≠ w.heap.size := fun k hk e => by have := h.lt (hsub k hk); omega
  refine ⟨hr4, hb5, v, _, (hn.below hb4).chg hc5 hF, fun k hk => .inl (hsub k hk), ?_, A2, c2, rfl, ?_, fun k hk => ⟨fun hf => ?_, .inr ?_⟩⟩
  · exact (((Chg.of_below hb1 (NetF g v l)).trans hc (fun i _ e => by rcases e with e | e; exact .inl e; exact e ▸ hpF)).trans (Chg.of_below hb4 (fun _ => False)) (fun _ _ h => h.elim)).trans hc5 (fun i hi e => by omega)
  · exact own_base (own_chg ho hc5 (fun k hk e => by have := (ho.lt k hk).1; have := hr3.lt; omega)) (Nat.zero_le _)
  · have := h.lt (hsub k hf); have := (ho.lt k hk).1; omega
  · have := (ho.lt k hk).1; omega
set_option maxRecDepth 20000 in
set_option maxHeartbeats 4000000 in
theorem flip_any (g : Nat) (S : Ns) (v : Bool → Value) (l : Bool → List LP) (K : Int) (s : Bool) (i j : Nat) (b mk : UInt8) (p : LP) (w : World) (h : NetA w g S v l) (hk : S.ok K) (hK : K ≤ 4611686018427387900) (hu : S.up = true) (hp : (l s)[i]? = some p) (hj : p.pk.bytes[j]? = some b) (hm : mk ≠ 0) (hbl : p.pk.bytes.length ≤ 140737488355328) :
    Calls Try.prog 17 #[.pointer (some ⟨g, 0, none⟩), .int .i64 (sideN s), .int .i64 i, .int .i64 j, .int .u8 (mk.toNat : Int)] w (StepP w g v l ((S.flip s i (p.pk.flip j (b ^^^ mk))).add s 6 1) (OutP w (NetF g v l) p.pk.num (p.pk.bytes.set j (b ^^^ mk)) 0)) := by
  have hi : i < (l s).length := (List.getElem?_eq_some_iff.1 hp).1
  have hjl : j < p.pk.bytes.length := (List.getElem?_eq_some_iff.1 hj).1
  have hl := hk.lo
  have hg : g < w.heap.size := h.blk.lt
  have hpm := List.mem_of_getElem? hp
  obtain ⟨gp, hA, hpb, hgp⟩ := own_addr (h.pks s p hpm) (by omega)
  have hgg : gp ≠ g := fun e => by subst e; exact own_blk_ne (h.pks s p hpm) h.blk (by decide) hpb
  have u0 : w.cell? ⟨g, wayO s, none⟩ = some (v s) := (h.blk.cell _).trans (layN_under _ _ _)
  obtain ⟨gb, cb, hv, hgb, q0, q1⟩ := (h.row s).at_ hp
  rw [val_form] at q1
  have hgbp : gb ≠ gp := fun e => by subst e; exact own_apart (h.pks s p hpm) (h.row s) (by decide) gb hpb (by rw [hv]; simp [Value.ownBlock])
  have hgbg : gb ≠ g := fun e => by subst e; exact own_blk_ne (h.row s) h.blk (by decide) (by rw [hv]; simp [Value.ownBlock])
  have HAT := Lib.hid fun (W : World) (hW : Below w.heap.size w W) (hz : RdZ W (w.heap.size + 1) [(i : Int)]) => at_up g (w.heap.size + 1) 1 S.limit s [(i : Int)] (some ⟨gb, 0, none⟩) (l s).length cb W ((h.blk.below hW hg).cell 0) (by rw [← hu]; exact (h.blk.below hW hg).cell 1) (by omega) (by rw [← hv, hW.cell (p := ⟨g, wayO s, none⟩) hg]; exact u0) hz (by simp)
  have HIN : Hid ([(i : Int)].all (inB (l s).length) = true) := Lib.hid (by simp [inB]; omega)
  have HZ : Hid (RdZ ((w.alloc (.cells #[.int .i64 0, .slice none 0 0] 36)).alloc (.cells #[.int .i64 i] 3)) (w.heap.size + 1) [(i : Int)]) := Lib.hid (fun k z hk => by
    match k with
    | 0 => simp only [List.getElem?_cons_zero, Option.some.injEq] at hk; subst hk; exact (Blk.new' _ 3 _ _ (by simp)).cell 0
    | k + 1 => simp at hk)
  have hb1 : Below w.heap.size w ((w.alloc (.cells #[.int .i64 0, .slice none 0 0] 36)).alloc (.cells #[.int .i64 i] 3)) := ((Below.refl _ _).alloc (Nat.le_refl _) _).alloc (by simp) _
  have HRES : Hid (Blk ((w.alloc (.cells #[.int .i64 0, .slice none 0 0] 36)).alloc (.cells #[.int .i64 i] 3)) w.heap.size 36 #[.int .i64 0, .slice none 0 0]) := Lib.hid ((Blk.new w 36 _).alloc _)
  have HB1 := Lib.hid hb1
  have H := Lib.hid h
  have HV := Lib.hid hv
  have HPI := Lib.hid hp
  have HPB := Lib.hid hpb
  have HJ := Lib.hid hj
  have HA := Lib.hid hA
  have HBO := Lib.hid (own_byte (h.pks s p hpm) hA hj)
  have hc0 := Cn.get_ok (hk.cn s) 6 (by omega)
  have hb0 := hc0.1
  have hb2 : (S.c s).get 6 ≤ 4611686018427387900 := Int.le_trans hc0.2 hK
  have HC6 : Hid (((S.flip s i (p.pk.flip j (b ^^^ mk))).c s).get 6 = (S.c s).get 6) := Lib.hid rfl
  rw [hA] at q1
  have l1 : (0 : Int) ≤ (i : Int) := by omega
  have l2 : (i : Int) < ((l s).length : Int) := by omega
  have l3 : ¬ (j : Int) < 0 := by omega
  have l4 : (0 : Int) ≤ (j : Int) := by omega
  have l5 : ¬ (p.pk.bytes.length : Int) ≤ (j : Int) := by omega
  have l6 : (j : Int) < (p.pk.bytes.length : Int) := by omega
  have t3 : ((mk.toNat : Int) == 0) = false := by
    rw [beq_eq_false_iff_ne]; intro e
    exact hm (UInt8.toNat_inj.1 (by simpa using e))
  clear h hu hv hb1 hp hk hpm hj hA hpb hc0 hm
  go_enter Try.func17, Try.ntmps17
  go_wp2_with fail
  refine (HAT.out _ HB1.out HZ.out).mono ?_
  rw [HIN.out]
  rintro e w1 ⟨rfl, rfl⟩
  have u1 : ((w.alloc (.cells #[.int .i64 0, .slice none 0 0] 36)).alloc (.cells #[.int .i64 i] 3)).cell? ⟨g, wayO s, none⟩ = some (.slice (some ⟨gb, 0, none⟩) (l s).length cb) := by rw [HB1.out.cell (p := ⟨g, wayO s, none⟩) hg, u0, HV.out]
  have q2 : ((w.alloc (.cells #[.int .i64 0, .slice none 0 0] 36)).alloc (.cells #[.int .i64 i] 3)).cell? ⟨gb, i * 2, none⟩ = some (.int .i64 p.pk.num) := by rw [HB1.out.cell (p := ⟨gb, i * 2, none⟩) hgb, q0]
  have q3 : ((w.alloc (.cells #[.int .i64 0, .slice none 0 0] 36)).alloc (.cells #[.int .i64 i] 3)).cell? ⟨gb, i * 2 + 1, none⟩ = some (.slice (some ⟨gp, 0, none⟩) p.pk.bytes.length p.c) := by rw [HB1.out.cell (p := ⟨gb, i * 2 + 1, none⟩) hgb, q1]
  have hn1 := H.out.below HB1.out
  have hbo := own_byte (hn1.pks s p (List.mem_of_getElem? HPI.out)) HA.out HJ.out
  generalize hw1 : (w.alloc (.cells #[.int .i64 0, .slice none 0 0] 36)).alloc (.cells #[.int .i64 i] 3) = w1 at *
  have b0 := hbo.1
  have fb0 := hbo.2
  have k0 : w1.cell? ⟨g, wayO s + 1 + 6, none⟩ = some (.int .i64 ((S.c s).get 6)) := (hn1.blk.cell _).trans (layN_get _ _ _ 6 (by omega))
  have f0 := hn1.blk.frozen (wayO s + 1 + 6)
  obtain ⟨hn2, hsub2, hfo2⟩ := net_flip hn1 (fun q => layN_flip S v s i q) (by decide) HPI.out HPB.out (b ^^^ mk)
  have hn3 := hn2.add s 6 1 (by omega)
  rw [HC6.out] at hn3
  have HN3 := Lib.hid hn3
  have HSUB := Lib.hid hsub2
  have hx : bits .xor .u8 (b.toNat : Int) (mk.toNat : Int) = ((b ^^^ mk).toNat : Int) := xor_u8 b mk
  have hc3 : Chg (fun k => k = g ∨ k = gp) w1 ((w1.setCell ⟨gp, j, none⟩ (bv (b ^^^ mk))).setCell ⟨g, wayO s + 1 + 6, none⟩ (.int .i64 ((S.c s).get 6 + 1))) := ((Chg.refl _ w1).setCell (p := ⟨gp, j, none⟩) (fun _ => .inr rfl) _).setCell (p := ⟨g, wayO s + 1 + 6, none⟩) (fun _ => .inl rfl) _
  have HC3 := Lib.hid hc3
  have hg1 : g < w1.heap.size := hn1.blk.lt
  have hgb1 : gb < w1.heap.size := by have := HB1.out.size; omega
  have hgp1 : gp < w1.heap.size := by have := HB1.out.size; omega
  have hpo3 : OwnB 5 ((w1.setCell ⟨gp, j, none⟩ (bv (b ^^^ mk))).setCell ⟨g, wayO s + 1 + 6, none⟩ (.int .i64 ((S.c s).get 6 + 1))) 0 (.slice (some ⟨gp, 0, none⟩) p.pk.bytes.length p.c) (p.pk.bytes.set j (b ^^^ mk)) := by
    have e := hn3.pks s (p.flip j (b ^^^ mk)) (by rw [upd_at]; exact List.mem_of_getElem? (i := i) (by rw [List.getElem?_set]; simp [hi]))
    have e2 : (p.flip j (b ^^^ mk)).val = .slice (some ⟨gp, 0, none⟩) p.pk.bytes.length p.c := by rw [LP.flip_val]; unfold LP.val; rw [HA.out]
    show World.ownsRow _ _ _ _ _ _ _
    rw [← e2]; exact e
  have HPO3 := Lib.hid hpo3
  have q4 : ((w1.setCell ⟨gp, j, none⟩ (bv (b ^^^ mk))).setCell ⟨g, wayO s + 1 + 6, none⟩ (.int .i64 ((S.c s).get 6 + 1))).cell? ⟨gb, i * 2, none⟩ = some (.int .i64 p.pk.num) := by
    rw [World.cell?_of_block (hc3.block gb hgb1 (by simp [hgbp, hgbg]))]; exact q2
  have q5 : ((w1.setCell ⟨gp, j, none⟩ (bv (b ^^^ mk))).setCell ⟨g, wayO s + 1 + 6, none⟩ (.int .i64 ((S.c s).get 6 + 1))).cell? ⟨gb, i * 2 + 1, none⟩ = some (.slice (some ⟨gp, 0, none⟩) p.pk.bytes.length p.c) := by
    rw [World.cell?_of_block (hc3.block gb hgb1 (by simp [hgbp, hgbg]))]; exact q3
  have u3 : ((w1.setCell ⟨gp, j, none⟩ (bv (b ^^^ mk))).setCell ⟨g, wayO s + 1 + 6, none⟩ (.int .i64 ((S.c s).get 6 + 1))).cell? ⟨g, wayO s, none⟩ = some (.slice (some ⟨gb, 0, none⟩) (l s).length cb) := by
    rw [← HV.out]; exact (hn3.blk.cell _).trans (layN_under _ _ _)
  clear hw1 u0 q0 q1 HAT HIN HZ hn1 hbo hn2 hsub2 hfo2 hn3 hc3 hpo3 HV
  simp only [if_true]
  generalize (S.c s).get 6 = cc at *
  unfold bv at *
  go_upto_region 8 with fail
  rw [show b.toNat ^^^ mk.toNat = (b ^^^ mk).toNat from (UInt8.toNat_xor b mk).symm]
  generalize hw3 : (w1.setCell ⟨gp, j, none⟩ (.int .u8 ((b ^^^ mk).toNat : Int))).setCell ⟨g, wayO s + 1 + 6, none⟩ (.int .i64 (cc + 1)) = w3 at *
  clear hw3 b0 fb0 k0 f0 u1 q2 q3
  have HT := Lib.hid fun (W : World) (hW : Below w3.heap.size w3 W) => told_any p.pk.num (some ⟨gp, 0, none⟩) p.pk.bytes.length p.c w3.heap.size (p.pk.bytes.set j (b ^^^ mk)) W ((OwnB.reads HPO3.out (by simp)).below hW) hW.size (by rw [List.length_set]; exact hbl)
  go_wp2_with fail
  refine (HT.out _ (Below.refl _ _)).mono ?_
  rintro e w4 ⟨A2, c2, rfl, ho4, hb4⟩
  have HEND := Lib.hid (flip_end H.out HB1.out HPI.out HPB.out HRES.out HN3.out HSUB.out HC3.out hb4 (ho4))
  rw [List.length_set] at HEND
  clear q4 q5 u3 ho4 hb4
  have r0 := HEND.out.1.cell 0
  have r1 := HEND.out.1.cell 1
  have s0 := HEND.out.1.frozen 0
  have s1 := HEND.out.1.frozen 1
  have hrl := HEND.out.1.lt
  go_wp2
  have t0 := HEND.out.2.1.cell 0
  have t1 := HEND.out.2.1.cell 1
  clear r0 r1 s0 s1
  exact bodyPost_ret (v := .tuple #[.agg #[.int .i64 p.pk.num, .slice A2 p.pk.bytes.length c2], .int .i64 0]) (by simp [results, Try.results17, go_sem, t0, t1]) rfl HEND.out.2.2
end Go.Proofs.Ytbkgphmocjjmmaa
