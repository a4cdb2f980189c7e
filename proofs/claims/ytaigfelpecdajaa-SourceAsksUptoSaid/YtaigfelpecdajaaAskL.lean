/-
  The walk of Twin: a tree in memory of its own.
-/
import Derived.Test.YtaigfelpecdajaaAskK
import Derived.Deep.RegionLaw
import Derived.Deep.AppendLies
namespace Go.Proofs.Ytaigfelpecdajaa
open Go.RowKit

def TwinSaid (f : Nat) : Prop := ∀ (t : TrF f) (cs : List Value) (B : Nat) (w : World), NodeAt f w B cs t → B ≤ w.heap.size → wtT f t ≤ 1048576 → Calls Try.prog 7 #[.agg cs.toArray] w (TwinP f w t)
theorem own_far26 {w : World} {base g : Nat} {v : Value} {l : List ByteArray} {cs : Array Value} (h : OwnS w base v l) (hb : Blk w g 26 cs) (i : Nat) (u : Value) : OwnS (w.setCell ⟨g, i, none⟩ u) base v l :=
  World.ownsRow.kept h (only_setCell (p := ⟨g, i, none⟩) (World.grownBy.refl w (some g)) (.inl rfl) u) (.inr (own_blk_ne h hb (by decide)))
/-- own rows of two types lie apart -/
theorem own_apart {w : World} {b1 b2 : Nat} {e1 e2 : TypeId} {s1 s2 n m : Nat} {v u : Value} {xs ys : List Value} (h : w.ownsRow b1 e1 s1 v n xs) (h' : w.ownsRow b2 e2 s2 u m ys) (hne : e1 ≠ e2) : v.ownBlock = none ∨ v.ownBlock ≠ u.ownBlock := by
  rcases h'.2 with ⟨rfl, _⟩ | ⟨q, cap, cur, rfl, _, hq, _⟩
  · cases hv : v.ownBlock with
    | none => exact .inl rfl
    | some k => exact .inr (by simp [Value.ownBlock])
  · exact .inr (own_blk_ne h (show Blk w q e2 cur from hq) hne)
section
variable {P : Program} {w : World}
/-- texts behind a list in an own row -/
theorem wpList_joinS {ops : Array Oper} {rest : List Oper} {o : Oper} {a : Act} {Q : Exit → Act → World → Prop} (hgd : o.guard = none) (s x : Operand) (t : TypeId)
    (ho : o.op = .call { callee := .builtin .append, args := #[s, x], argTypes := #[t, t] })
    (hinfo : (P.info? 9).map (fun i => (i.zero, i.size, i.bytes)) = some (some (.string ⟨#[]⟩), 1, 16)) (ht : P.underlying t = some (.slice 9))
    (base : Nat) (v : Value) (l : List ByteArray) (hs : a.eval s = v) (hown : OwnS w base v l)
    (B : Nat) (A : Option Addr) (m c : Nat) (news : List ByteArray) (hx : a.eval x = .slice A m c) (hr : RdS w B A m news)
    (hb : l.length + news.length ≤ 1000000000) (hbase : base ≤ w.heap.size)
    (h : ∀ v' w', OwnS w' base v' (l ++ news) → App w v w' v' → wpList P ops Q rest (a.put o.dst v') w') : wpList P ops Q (o :: rest) a w := by
  obtain ⟨i, hi, hz, hsz, hby⟩ := info_parts hinfo
  have hm := hr.len
  subst hm
  refine wpList_append_any w hgd s x t ho base 9 i _ 1 16 ht hi hz hsz hby rfl (by omega) v l.length (l.map Value.string) hs hown B A news.length c (news.map Value.string) hx hr (strs_one _) (by simp only [maxLen]; omega) (by omega) hbase fun v' w' h1 h2 h3 => h v' w' ?_ ⟨h2, ?_⟩
  · show w'.ownsRow base 9 1 v' (l ++ news).length ((l ++ news).map Value.string)
    rw [List.length_append, List.map_append]
    exact h1
  · rcases h3 with h3 | h3
    · exact .inl h3
    · exact .inr ⟨_, h3, Nat.le_refl _⟩
end
theorem below_lit {w w' : World} {v' : Value} {cs : Array Value} {t : TypeId} {n c : Nat} (h : App (w.alloc (.cells cs t)) (.slice (some ⟨w.heap.size, 0, none⟩) n c) w' v') : Below w.heap.size w w' :=
  ((Below.refl _ _).alloc (Nat.le_refl _) _).trans (h.below (by simp) (fun k hk => by
    simp only [Value.ownBlock, Option.some.injEq] at hk
    omega))
/-- Twin's blocks: the argument, the result, what is made -/
structure TwA (w wz : World) (g : Nat) (ncs rcs xcs : Array Value) : Prop where
  n : Blk wz g 26 ncs
  r : Blk wz (g + 1) 26 rcs
  x : Blk wz (g + 1 + 1) 26 xcs
  below : Below g w wz
theorem TwA.step {w wz w1 : World} {g i : Nat} {ncs rcs xcs : Array Value} {u : Value} (h : TwA w wz g ncs rcs xcs) (hb : Below wz.heap.size wz w1) : TwA w (w1.setCell ⟨g + 1 + 1, i, none⟩ u) g ncs rcs (xcs.setIfInBounds i u) := by
  have h1 := h.n.below hb h.n.lt
  have h2 := h.r.below hb h.r.lt
  have h3 := h.x.below hb h.x.lt
  refine ⟨h1.far (by simp; omega) _, h2.far (by simp) _, h3.set_ i u, ?_⟩
  have hg := h.x.lt
  exact ((h.below.trans (hb.mono (by omega)))).setCell (by simp; omega) u
/-- ahead of the loop's round k -/
structure TwL (f : Nat) (w : World) (g : Nat) (ncs rcs : Array Value) (kd pr pl : Int) (nm : ByteArray) (ns ts : List ByteArray) (xs : List (TrF f)) (v2 v3 : Value) (k : Nat) (v4 : Value) (wr : World) : Prop where
  a : TwA w wr g ncs rcs #[.int .i64 kd, .string nm, v2, v3, v4, .int .i64 pr, .int .i64 pl]
  o2 : OwnS wr g v2 ns
  o3 : OwnS wr g v3 ts
  kids : ∃ css : List (List Value), css.length = k ∧ wr.ownsRow (g + 3) 26 7 v4 k css.flatten ∧ ∀ (i : Nat) (cs' : List Value) (t' : TrF f), css[i]? = some cs' → xs[i]? = some t' → NodeIn f wr (fun b => g + 3 ≤ b ∧ b < wr.heap.size ∧ some b ≠ v4.ownBlock) cs' t'
section
variable {f : Nat} {w : World} {g : Nat} {ncs rcs : Array Value} {kd pr pl : Int} {nm : ByteArray} {ns ts : List ByteArray} {xs : List (TrF f)} {v2 v3 : Value} {k : Nat} {v4 v5 : Value} {wr w5 w6 : World} {cs5 : List Value} {o : Obj} {t5 : TrF f}
theorem TwL.x6 (h : TwL f w g ncs rcs kd pr pl nm ns ts xs v2 v3 k v4 wr) (hb : Below wr.heap.size wr w5) {css : List (List Value)} (ho4 : wr.ownsRow (g + 3) 26 7 v4 k css.flatten) (hg : (w5.alloc o).grownBy w6 v4.ownBlock) :
    Blk w6 (g + 1 + 1) 26 #[.int .i64 kd, .string nm, v2, v3, v4, .int .i64 pr, .int .i64 pl] :=
  Blk.grown ((h.a.x.below hb h.a.x.lt).alloc o) hg (fun e => by have := (ho4.lt _ e.symm).1; omega)
theorem TwL.next (h : TwL f w g ncs rcs kd pr pl nm ns ts xs v2 v3 k v4 wr) (ht : xs[k]? = some t5) (hn : NodeIn f w5 (fun b => wr.heap.size ≤ b ∧ b < w5.heap.size) cs5 t5) (hb : Below wr.heap.size wr w5)
    {css : List (List Value)} (hk : css.length = k) (hcss : ∀ (i : Nat) (cs' : List Value) (t' : TrF f), css[i]? = some cs' → xs[i]? = some t' → NodeIn f wr (fun b => g + 3 ≤ b ∧ b < wr.heap.size ∧ some b ≠ v4.ownBlock) cs' t')
    (ho4 : wr.ownsRow (g + 3) 26 7 v4 k css.flatten) (ho5 : w6.ownsRow (g + 3) 26 7 v5 (k + 1) (css.flatten ++ cs5)) (hg : (w5.alloc o).grownBy w6 v4.ownBlock) (hv : v5.ownBlock = v4.ownBlock ∨ v5.ownBlock = some (w5.heap.size + 1)) :
    TwL f w g ncs rcs kd pr pl nm ns ts xs v2 v3 (k + 1) v5 (w6.setCell ⟨g + 1 + 1, 4, none⟩ v5) := by
  have hx := h.a.x.lt
  have hsz := hb.size
  have hsz6 : w5.heap.size + 1 ≤ w6.heap.size := by have := hg.size; simpa using this
  have hne : ∀ q, q < g + 3 → v4.ownBlock ≠ some q := fun q hq e => by have := (ho4.lt q e).1; omega
  have old : ∀ q, q < wr.heap.size → some q ≠ v4.ownBlock → w6.heap[q]? = wr.heap[q]? := fun q hq hn =>
    ((hg.block q (by simp; omega) hn).trans (Below.heap_alloc w5 o q (by omega))).trans (hb.block q hq)
  have hx6 : Blk w6 (g + 1 + 1) 26 #[.int .i64 kd, .string nm, v2, v3, v4, .int .i64 pr, .int .i64 pl] := (old _ hx (fun e => hne _ (by omega) e.symm)).trans h.a.x
  have own9 : ∀ v l, OwnS wr g v l → OwnS (w6.setCell ⟨g + 1 + 1, 4, none⟩ v5) g v l := fun v l hl => by
    refine own_far26 (World.ownsRow.kept ((own_below hl hb).alloc o) hg ?_) hx6 _ _
    exact own_apart hl ho4 (by decide)
  refine ⟨⟨Blk.far (show Blk w6 g 26 ncs from (old _ h.a.n.lt (fun e => hne _ (by omega) e.symm)).trans h.a.n) (by simp; omega) _, Blk.far (show Blk w6 (g + 1) 26 rcs from (old _ h.a.r.lt (fun e => hne _ (by omega) e.symm)).trans h.a.r) (by simp) _, hx6.set_ 4 v5, ?_⟩, own9 _ _ h.o2, own9 _ _ h.o3, css ++ [cs5], by simp [hk], ?_, ?_⟩
  · refine Below.setCell ?_ (by simp; omega) _
    exact ⟨hg.os.trans (hb.os.trans h.a.below.os), hg.tape.trans (hb.tape.trans h.a.below.tape), hg.output.trans (hb.output.trans h.a.below.output), by have := h.a.below.size; omega, fun q hq => (old q (by omega) (fun e => hne _ (by omega) e.symm)).trans (h.a.below.block q hq)⟩
  · rw [List.flatten_append, List.flatten_cons, List.flatten_nil, List.append_nil]
    exact World.ownsRow.kept ho5 (only_setCell (p := ⟨g + 1 + 1, 4, none⟩) (World.grownBy.refl w6 (some (g + 1 + 1))) (.inl rfl) v5) (.inr (fun e => by have := (ho5.lt _ e).1; omega))
  · intro i cs' t' hc ht'
    have hfar : ∀ (S : Nat → Prop) (c : List Value) (t : TrF f), (∀ q, S q → g + 3 ≤ q) → NodeIn f w6 S c t → NodeIn f (w6.setCell ⟨g + 1 + 1, 4, none⟩ v5) S c t := fun S c t hS hN =>
      hN.keep fun p hp => World.cell?_setCell_other w6 _ p v5 (fun e => by subst e; have := hS _ hp; simp at this; omega)
    have hs6 : (w6.setCell ⟨g + 1 + 1, 4, none⟩ v5).heap.size = w6.heap.size := by simp [World.setCell]
    rcases Nat.lt_or_ge i k with hi | hi
    · rw [List.getElem?_append_left (by omega)] at hc
      have hN := hcss i cs' t' hc ht'
      have hN6 : NodeIn f w6 _ cs' t' := hN.keep fun p hp => cell_of_heap (old _ hp.2.1 hp.2.2)
      refine (hfar _ _ _ (fun q hq => hq.1) hN6).more fun q hq => ⟨hq.1, by rw [hs6]; omega, ?_⟩
      rcases hv with e | e
      · rw [e]; exact hq.2.2
      · rw [e]; intro e2; injection e2 with e2; have := hq.2.1; omega
    · have hik : i = k := by
        have : i < (css ++ [cs5]).length := by
          rcases Nat.lt_or_ge i (css ++ [cs5]).length with h1 | h1
          · exact h1
          · rw [List.getElem?_eq_none h1] at hc; cases hc
        simp at this; omega
      subst hik
      rw [List.getElem?_append_right (by omega), hk, Nat.sub_self] at hc
      simp only [List.getElem?_cons_zero, Option.some.injEq] at hc
      rw [ht] at ht'
      injection ht' with ht'
      subst hc ht'
      have hN6 : NodeIn f w6 _ cs5 t5 := hn.keep fun p hp => cell_of_heap ((hg.block p.block (by have := hp.2; simp; omega) (fun e => by have := (ho4.lt _ e.symm).2; have := hp.1; omega)).trans (Below.heap_alloc w5 o p.block hp.2))
      refine (hfar _ _ _ (fun q hq => by have := hq.1; omega) hN6).more fun q hq => ⟨by have := hq.1; omega, by rw [hs6]; have := hq.2; omega, ?_⟩
      rcases hv with e | e
      · rw [e]; intro e2; have := (ho4.lt q e2.symm).2; have := hq.1; omega
      · rw [e]; intro e2; injection e2 with e2; have := hq.2; omega
end
theorem NodeIn.seven : {f : Nat} → {w : World} → {S : Nat → Prop} → {cs : List Value} → {t : TrF f} → NodeIn f w S cs t →
    ∃ (k : Int) (nm : ByteArray) (A1 : Option Addr) (n1 c1 : Nat) (A2 : Option Addr) (n2 c2 : Nat) (A3 : Option Addr) (n3 c3 : Nat) (p pl : Int), cs = [.int .i64 k, .string nm, .slice A1 n1 c1, .slice A2 n2 c2, .slice A3 n3 c3, .int .i64 p, .int .i64 pl]
  | 0, _, _, _, _, h => h.elim
  | _ + 1, _, _, _, _, ⟨A1, c1, A2, c2, A3, c3, _, h, _⟩ => ⟨_, _, A1, _, c1, A2, _, c2, A3, _, c3, _, _, h⟩
theorem own_form {w : World} {base : Nat} {e : TypeId} {size n : Nat} {v : Value} {xs : List Value} (h : w.ownsRow base e size v n xs) : ∃ A c, v = .slice A n c ∧ n ≤ c ∧ c ≤ maxLen := by
  rcases h.2 with ⟨rfl, rfl⟩ | ⟨g, cap, cur, rfl, _, _, hn, hm, _⟩
  · exact ⟨none, 0, rfl, by omega, by simp⟩
  · exact ⟨_, cap, rfl, hn, hm⟩
theorem own_kept_below {w w' : World} {base : Nat} {e : TypeId} {size n : Nat} {v : Value} {xs : List Value} (h : w.ownsRow base e size v n xs) (hb : Below w.heap.size w w') : w'.ownsRow base e size v n xs :=
  World.ownsRow.kept h (only_of_below hb none) (by cases v.ownBlock <;> simp)
theorem own_drew {w : World} {base : Nat} {e : TypeId} {size n : Nat} {v : Value} {xs : List Value} (h : w.ownsRow base e size v n xs) : w.drew.ownsRow base e size v n xs :=
  World.ownsRow.kept h (only_of_below (Below.refl w.heap.size w).drew none) (by cases v.ownBlock <;> simp)
theorem TwL.drew {f : Nat} {w : World} {g : Nat} {ncs rcs : Array Value} {kd pr pl : Int} {nm : ByteArray} {ns ts : List ByteArray} {xs : List (TrF f)} {v2 v3 : Value} {k : Nat} {v4 : Value} {wr : World}
    (h : TwL f w g ncs rcs kd pr pl nm ns ts xs v2 v3 k v4 wr) : TwL f w g ncs rcs kd pr pl nm ns ts xs v2 v3 k v4 wr.drew := by
  obtain ⟨ha, h2, h3, css, hk, ho, hc⟩ := h
  exact ⟨⟨ha.n.drew, ha.r.drew, ha.x.drew, ha.below.drew⟩, own_drew h2, own_drew h3, css, hk, own_drew ho, fun i cs' t' a b => (hc i cs' t' a b).keep fun p _ => rfl⟩
theorem read_one7 (w : World) (x0 x1 x2 x3 x4 x5 x6 : Value) : Reads (w.alloc (.cells #[x0, x1, x2, x3, x4, x5, x6] 26)) (w.heap.size + 1) 7 (some ⟨w.heap.size, 0, none⟩) 1 [x0, x1, x2, x3, x4, x5, x6] :=
  ⟨rfl, fun _ => (Reads.built w 26 [x0, x1, x2, x3, x4, x5, x6]).2 (by simp)⟩
theorem twin_end {f : Nat} {w : World} {g : Nat} {kd pr pl : Int} {nm : ByteArray} {ns ts : List ByteArray} {xs : List (TrF f)} {A1 A2 A4 : Option Addr} {c1 c2 c4 : Nat} {wr wf : World} {css : List (List Value)}
    (hg : w.heap.size = g) (hb : Below g w wr.drew) (h2 : OwnS wr.drew g (.slice A1 ns.length c1) ns) (h3 : OwnS wr.drew g (.slice A2 ts.length c2) ts) (hk : css.length = xs.length)
    (ho : wr.drew.ownsRow (g + 3) 26 7 (.slice A4 xs.length c4) xs.length css.flatten)
    (hc : ∀ (i : Nat) (cs' : List Value) (t' : TrF f), css[i]? = some cs' → xs[i]? = some t' → NodeIn f wr.drew (fun b => g + 3 ≤ b ∧ b < wr.drew.heap.size ∧ some b ≠ (Value.slice A4 xs.length c4).ownBlock) cs' t')
    (hGr : wr.grownBy wf (some (g + 1))) (hs : wf.heap.size = wr.heap.size) {x : Blk wr (g + 1) 26 #[.int .i64 0, .string ⟨#[]⟩, .slice none 0 0, .slice none 0 0, .slice none 0 0, .int .i64 0, .int .i64 0]} :
    TwinP (f + 1) w ⟨kd, nm, ns, ts, xs, pr, pl⟩ (.returned (.agg #[.int .i64 kd, .string nm, .slice A1 ns.length c1, .slice A2 ts.length c2, .slice A4 xs.length c4, .int .i64 pr, .int .i64 pl])) wf := by
  subst hg
  have hb1 : Below w.heap.size w wr := ⟨hb.os, hb.tape, hb.output, hb.size, hb.block⟩
  have k2 : OwnS wf w.heap.size (.slice A1 ns.length c1) ns := World.ownsRow.kept (w := wr) h2 hGr (.inr (own_blk_ne (w := wr) h2 x (by decide)))
  have k3 : OwnS wf w.heap.size (.slice A2 ts.length c2) ts := World.ownsRow.kept (w := wr) h3 hGr (.inr (own_blk_ne (w := wr) h3 x (by decide)))
  have k4 : wf.ownsRow (w.heap.size + 3) 26 7 (.slice A4 xs.length c4) xs.length css.flatten := World.ownsRow.kept (w := wr) ho hGr (.inr (fun e => by have := (ho.lt _ e).1; omega))
  refine ⟨_, rfl, ⟨A1, c1, A2, c2, A4, c4, css, rfl, ReadsI.of_own k2 (fun k h => k2.lt k h), ReadsI.of_own k3 (fun k h => k3.lt k h), hk, ReadsI.of_own k4 (fun k h => ⟨by have := (k4.lt k h).1; omega, (k4.lt k h).2⟩), fun i cs' t' h1 h2' => ?_⟩, ?_⟩
  · refine ((hc i cs' t' h1 h2').keep (w' := wf) fun p hp => cell_of_heap (hGr.block p.block hp.2.1 (fun e => by injection e with e; have := hp.1; omega))).more fun q hq => ⟨by have := hq.1; omega, by rw [hs]; exact hq.2.1⟩
  · exact ⟨hGr.os.trans hb1.os, hGr.tape.trans hb1.tape, hGr.output.trans hb1.output, Nat.le_trans hb1.size hGr.size, fun q hq => (hGr.block q (Nat.lt_of_lt_of_le hq hb1.size) (fun e => by injection e with e; omega)).trans (hb1.block q hq)⟩
theorem set7 {wr : World} {g : Nat} {t : TypeId} {x0 x1 x2 x3 x4 x5 x6 : Value} (h : Blk wr g t #[x0, x1, x2, x3, x4, x5, x6]) (v0 v1 v2 v3 v4 v5 v6 : Value) :
    Blk (((((((wr.setCell ⟨g, 0, none⟩ v0).setCell ⟨g, 1, none⟩ v1).setCell ⟨g, 2, none⟩ v2).setCell ⟨g, 3, none⟩ v3).setCell ⟨g, 4, none⟩ v4).setCell ⟨g, 5, none⟩ v5).setCell ⟨g, 6, none⟩ v6) g t #[v0, v1, v2, v3, v4, v5, v6] ∧ wr.grownBy (((((((wr.setCell ⟨g, 0, none⟩ v0).setCell ⟨g, 1, none⟩ v1).setCell ⟨g, 2, none⟩ v2).setCell ⟨g, 3, none⟩ v3).setCell ⟨g, 4, none⟩ v4).setCell ⟨g, 5, none⟩ v5).setCell ⟨g, 6, none⟩ v6) (some g) ∧ (((((((wr.setCell ⟨g, 0, none⟩ v0).setCell ⟨g, 1, none⟩ v1).setCell ⟨g, 2, none⟩ v2).setCell ⟨g, 3, none⟩ v3).setCell ⟨g, 4, none⟩ v4).setCell ⟨g, 5, none⟩ v5).setCell ⟨g, 6, none⟩ v6).heap.size = wr.heap.size := by
  have step : ∀ (w : World) (cs : Array Value) (i : Nat) (u : Value), Blk w g t cs → wr.grownBy w (some g) → w.heap.size = wr.heap.size →
      Blk (w.setCell ⟨g, i, none⟩ u) g t (cs.setIfInBounds i u) ∧ wr.grownBy (w.setCell ⟨g, i, none⟩ u) (some g) ∧ (w.setCell ⟨g, i, none⟩ u).heap.size = wr.heap.size :=
    fun w cs i u a b c => ⟨a.set_ i u, only_setCell (p := ⟨g, i, none⟩) b (.inl rfl) u, by simp only [World.setCell, Array.size_modify]; exact c⟩
  have a := h
  have b := World.grownBy.refl wr (some g)
  have c : wr.heap.size = wr.heap.size := rfl
  obtain ⟨a, b, c⟩ := step _ _ 0 v0 a b c
  simp only [List.setIfInBounds_toArray, List.set_cons_zero] at a
  obtain ⟨a, b, c⟩ := step _ _ 1 v1 a b c
  simp only [List.setIfInBounds_toArray, List.set_cons_zero, List.set_cons_succ] at a
  obtain ⟨a, b, c⟩ := step _ _ 2 v2 a b c
  simp only [List.setIfInBounds_toArray, List.set_cons_zero, List.set_cons_succ] at a
  obtain ⟨a, b, c⟩ := step _ _ 3 v3 a b c
  simp only [List.setIfInBounds_toArray, List.set_cons_zero, List.set_cons_succ] at a
  obtain ⟨a, b, c⟩ := step _ _ 4 v4 a b c
  simp only [List.setIfInBounds_toArray, List.set_cons_zero, List.set_cons_succ] at a
  obtain ⟨a, b, c⟩ := step _ _ 5 v5 a b c
  simp only [List.setIfInBounds_toArray, List.set_cons_zero, List.set_cons_succ] at a
  obtain ⟨a, b, c⟩ := step _ _ 6 v6 a b c
  simp only [List.setIfInBounds_toArray, List.set_cons_zero, List.set_cons_succ] at a
  exact ⟨a, b, c⟩
theorem info26 : (Try.prog.info? 26).map (fun i => (i.zero, i.size, i.bytes)) = some (some (.agg #[.int .i64 0, .string ⟨#[]⟩, .slice none 0 0, .slice none 0 0, .slice none 0 0, .int .i64 0, .int .i64 0]), 7, 112) := by kernel_rfl
set_option maxRecDepth 20000 in
set_option maxHeartbeats 1000000 in
theorem twin_step (f : Nat) (ih : TwinSaid f) : TwinSaid (f + 1) := by
  intro t cs B w hT hB hw
  obtain ⟨A1, c1, A2, c2, A3, c3, css, rfl, p1, p2, p3, p4, p5⟩ := hT
  have P1 := Lib.hid p1
  have P2 := Lib.hid p2
  have P3 : Hid (NodesAt f w B A3 t.nodes) := Lib.hid ⟨css, p3, p4, p5⟩
  have IH := Lib.hid ih
  replace hw : 1 + t.names.length + t.temps.length + (t.nodes.map (wtT f)).sum ≤ 1048576 := hw
  clear p1 p2 p3 p4 p5 ih
  obtain ⟨kd, nm, ns, ts, xs, pr, pl⟩ := t
  dsimp only at *
  have hx2 : xs.length ≤ 1048576 := Nat.le_trans (wt_nodes f xs) (by omega)
  have HW := Lib.hid hw
  clear hw
  obtain ⟨i0, hi, hz0, hz1, hz2⟩ := info_parts info9
  obtain ⟨i1, hi', hz0', hz1', hz2'⟩ := info_parts info26
  go_enter Try.func7, Try.ntmps7
  go_upto_region 2 with fail
  have HT : Hid (TwA w (((w.alloc (.cells #[.int .i64 kd, .string nm, .slice A1 ns.length c1, .slice A2 ts.length c2, .slice A3 xs.length c3, .int .i64 pr, .int .i64 pl] 26)).alloc (.cells #[.int .i64 0, .string ⟨#[]⟩, .slice none 0 0, .slice none 0 0, .slice none 0 0, .int .i64 0, .int .i64 0] 26)).alloc (.cells #[.int .i64 kd, .string nm, .slice A1 ns.length c1, .slice A2 ts.length c2, .slice A3 xs.length c3, .int .i64 pr, .int .i64 pl] 26)) w.heap.size #[.int .i64 kd, .string nm, .slice A1 ns.length c1, .slice A2 ts.length c2, .slice A3 xs.length c3, .int .i64 pr, .int .i64 pl] #[.int .i64 0, .string ⟨#[]⟩, .slice none 0 0, .slice none 0 0, .slice none 0 0, .int .i64 0, .int .i64 0] #[.int .i64 kd, .string nm, .slice A1 ns.length c1, .slice A2 ts.length c2, .slice A3 xs.length c3, .int .i64 pr, .int .i64 pl]) :=
    Lib.hid ⟨((Blk.new w 26 _).alloc _).alloc _, (Blk.new' _ 26 _ _ (by simp)).alloc _, Blk.new' _ 26 _ _ (by simp), (((Below.refl _ _).alloc (Nat.le_refl _) _).alloc (by simp) _).alloc (by simp; omega) _⟩
  generalize ((w.alloc (.cells #[.int .i64 kd, .string nm, .slice A1 ns.length c1, .slice A2 ts.length c2, .slice A3 xs.length c3, .int .i64 pr, .int .i64 pl] 26)).alloc (.cells #[.int .i64 0, .string ⟨#[]⟩, .slice none 0 0, .slice none 0 0, .slice none 0 0, .int .i64 0, .int .i64 0] 26)).alloc (.cells #[.int .i64 kd, .string nm, .slice A1 ns.length c1, .slice A2 ts.length c2, .slice A3 xs.length c3, .int .i64 pr, .int .i64 pl] 26) = wz at HT ⊢
  generalize hg : w.heap.size = g at HT ⊢
  have HG := Lib.hid hg
  have hBg : B ≤ g := by omega
  clear hg
  have HP : Hid (RdS wz B A1 ns.length ns) := Lib.hid (Reads.below P1.out (HT.out.below.mono hBg))
  have k1 : wz.cell? ⟨g, 2, none⟩ = some (.slice A1 ns.length c1) := HT.out.n.cell 2
  have hs0 : g < wz.heap.size := HT.out.n.lt
  have hs1 : g + 1 + 1 < wz.heap.size := HT.out.x.lt
  have HE : Hid (OwnS (wz.alloc (.cells #[] 9)) g (.slice (some ⟨wz.heap.size, 0, none⟩) 0 0) []) := Lib.hid (World.ownsRow_lit (base := g) (e := 9) (size := 1) wz #[] 0 (by omega) (by decide) (by simp))
  go_upto_region 3 with (at_builtin; refine wpList_joinS rfl (.tmp 6) (.tmp 8) 23 rfl info9 Try.underlying23 g _ [] rfl HE.out _ _ _ _ ns rfl (HP.out.alloc (by omega) _) (by have := HW.out; simp; omega) (by simp; omega) ?_; intro v w' hown happ; rw [List.nil_append] at hown; have HB := Lib.hid (below_lit happ); have HO := Lib.hid hown; obtain ⟨A1', c1', rfl, _, _⟩ := OwnS.form hown; have x2 := (HT.out.x.below HB.out HT.out.x.lt).cell 2; have f2 := (HT.out.x.below HB.out HT.out.x.lt).frozen 2; have hs2 := (HT.out.x.below HB.out HT.out.x.lt).lt; clear hown happ)
  have HTn := Lib.hid (HT.out.step (i := 2) (u := .slice A1' ns.length c1') HB.out)
  have HQ1 := Lib.hid (own_far26 HO.out (HT.out.x.below HB.out HT.out.x.lt) 2 (.slice A1' ns.length c1'))
  clear x2 f2 k1 hs0 hs1 hs2 HE HP HT HB HO
  generalize w'.setCell ⟨g + 1 + 1, 2, none⟩ (.slice A1' ns.length c1') = wy at HTn HQ1 ⊢
  have HT : Hid (TwA w wy g #[.int .i64 kd, .string nm, .slice A1 ns.length c1, .slice A2 ts.length c2, .slice A3 xs.length c3, .int .i64 pr, .int .i64 pl] #[.int .i64 0, .string ⟨#[]⟩, .slice none 0 0, .slice none 0 0, .slice none 0 0, .int .i64 0, .int .i64 0] #[.int .i64 kd, .string nm, .slice A1' ns.length c1', .slice A2 ts.length c2, .slice A3 xs.length c3, .int .i64 pr, .int .i64 pl]) := HTn
  clear HTn
  have HP : Hid (RdS wy B A2 ts.length ts) := Lib.hid (Reads.below P2.out (HT.out.below.mono hBg))
  have k1 : wy.cell? ⟨g, 3, none⟩ = some (.slice A2 ts.length c2) := HT.out.n.cell 3
  have hs0 : g < wy.heap.size := HT.out.n.lt
  have hs1 : g + 1 + 1 < wy.heap.size := HT.out.x.lt
  have HE : Hid (OwnS (wy.alloc (.cells #[] 9)) g (.slice (some ⟨wy.heap.size, 0, none⟩) 0 0) []) := Lib.hid (World.ownsRow_lit (base := g) (e := 9) (size := 1) wy #[] 0 (by omega) (by decide) (by simp))
  go_upto_region 4 with (at_builtin; refine wpList_joinS rfl (.tmp 11) (.tmp 13) 23 rfl info9 Try.underlying23 g _ [] rfl HE.out _ _ _ _ ts rfl (HP.out.alloc (by omega) _) (by have := HW.out; simp; omega) (by simp; omega) ?_; intro v w' hown happ; rw [List.nil_append] at hown; have HB := Lib.hid (below_lit happ); have HO := Lib.hid hown; obtain ⟨A2', c2', rfl, _, _⟩ := OwnS.form hown; have x2 := (HT.out.x.below HB.out HT.out.x.lt).cell 3; have f2 := (HT.out.x.below HB.out HT.out.x.lt).frozen 3; have hs2 := (HT.out.x.below HB.out HT.out.x.lt).lt; clear hown happ)
  have HTn := Lib.hid ((HT.out.step (i := 3) (u := .slice A2' ts.length c2') HB.out))
  have HQ2 := Lib.hid (own_far26 HO.out (HT.out.x.below HB.out HT.out.x.lt) 3 (.slice A2' ts.length c2'))
  have HQ1n := Lib.hid (own_far26 (own_below HQ1.out HB.out) (HT.out.x.below HB.out HT.out.x.lt) 3 (.slice A2' ts.length c2'))
  clear x2 f2 k1 hs0 hs1 hs2 HE HP HT HB HO HQ1
  generalize w'.setCell ⟨g + 1 + 1, 3, none⟩ (.slice A2' ts.length c2') = wx at HTn HQ2 HQ1n ⊢
  have HT : Hid (TwA w wx g #[.int .i64 kd, .string nm, .slice A1 ns.length c1, .slice A2 ts.length c2, .slice A3 xs.length c3, .int .i64 pr, .int .i64 pl] #[.int .i64 0, .string ⟨#[]⟩, .slice none 0 0, .slice none 0 0, .slice none 0 0, .int .i64 0, .int .i64 0] #[.int .i64 kd, .string nm, .slice A1' ns.length c1', .slice A2' ts.length c2', .slice A3 xs.length c3, .int .i64 pr, .int .i64 pl]) := HTn
  clear HTn
  have x2 := HT.out.x.cell 4
  have f2 := HT.out.x.frozen 4
  have hs2 := HT.out.x.lt
  have HL : Hid (TwL f w g #[.int .i64 kd, .string nm, .slice A1 ns.length c1, .slice A2 ts.length c2, .slice A3 xs.length c3, .int .i64 pr, .int .i64 pl] #[.int .i64 0, .string ⟨#[]⟩, .slice none 0 0, .slice none 0 0, .slice none 0 0, .int .i64 0, .int .i64 0] kd pr pl nm ns ts xs (.slice A1' ns.length c1') (.slice A2' ts.length c2') 0 (.slice none 0 0) (wx.setCell ⟨g + 1 + 1, 4, none⟩ (.slice none 0 0))) :=
    Lib.hid ⟨HT.out.step (i := 4) (u := .slice none 0 0) (Below.refl _ _), own_far26 HQ1n.out HT.out.x 4 _, own_far26 HQ2.out HT.out.x 4 _, [], rfl, World.ownsRow_nil _ _ _ _, fun i cs' t' h => by cases h⟩
  clear HT HQ2 HQ1n
  go_upto_block 0 with fail
  generalize wx.setCell ⟨g + 1 + 1, 4, none⟩ (.slice none 0 0) = wl at HL ⊢
  clear x2 f2 hs2
  go_wp2
  go_loopw [4] (fun i wr => ∃ k : Nat, i = .int .i64 k ∧ k ≤ xs.length ∧ ∃ v4, TwL f w g #[.int .i64 kd, .string nm, .slice A1 ns.length c1, .slice A2 ts.length c2, .slice A3 xs.length c3, .int .i64 pr, .int .i64 pl] #[.int .i64 0, .string ⟨#[]⟩, .slice none 0 0, .slice none 0 0, .slice none 0 0, .int .i64 0, .int .i64 0] kd pr pl nm ns ts xs (.slice A1' ns.length c1') (.slice A2' ts.length c2') k v4 wr) (fun i _ => xs.length - (intOf i).toNat)
  case atStart => exact ⟨0, rfl, Nat.zero_le _, _, HL.out⟩
  case round =>
    obtain ⟨k, rfl, hk, v4, hl⟩ := hrel
    have HR := Lib.hid hl.drew
    have n4 : wr.cell? ⟨g, 4, none⟩ = some (.slice A3 xs.length c3) := hl.a.n.cell 4
    have x4 : wr.cell? ⟨g + 1 + 1, 4, none⟩ = some v4 := hl.a.x.cell 4
    have hs0 : g < wr.heap.size := hl.a.n.lt
    have hs1 : g + 1 + 1 < wr.heap.size := hl.a.x.lt
    have hs2 : B ≤ wr.heap.size := by omega
    obtain ⟨css1, q1, q2, q3⟩ := P3.out.below (hl.a.below.mono hBg)
    clear hl
    by_cases hkl : k < xs.length
    · obtain ⟨b1, o1, x0, x1, y2, x3, y4, x5, x6, rfl, hbk1, n1, a0, a1, a2, a3, a4, a5, a6⟩ := NodeAt.sub q1 q2 q3 hkl
      obtain ⟨ka', na', Aa1, na1, ca1, Aa2, na2, ca2, Aa3, na3, ca3, pa', pla', rfl, rfl, rfl, rfl, rfl, rfl, rfl⟩ := n1.forms
      have l1 : (0 : Int) ≤ (k : Int) := by omega
      have l2 : (k : Int) < (xs.length : Int) := by omega
      have hb1 : b1 < wr.heap.size := by omega
      have HIH := Lib.hid (IH.out xs[k] _ B wr.drew (n1.below (Below.refl _ _).drew) hs2 (Nat.le_trans (wt_sub (List.getElem_mem hkl)) (by have := HW.out; omega)))
      clear q1 q2 q3 n1
      obtain ⟨css4, hk4, ho4, hc4⟩ := HR.out.kids
      have HO4 := Lib.hid ho4
      have HC4 := Lib.hid hc4
      have HK4 := Lib.hid hk4
      obtain ⟨A4, c4, rfl, _, _⟩ := own_form ho4
      clear hk4 ho4 hc4
      go_wp2
      go_region_law (first
        | (refine step_append_any _ rfl (.tmp 25) (.tmp 32) 24 rfl (g + 3) 26 i1 _ 7 112 Try.underlying24 hi' hz0' hz1' hz2' rfl (by decide) (.slice A4 k c4) k css4.flatten (by simp [Act.eval]) (World.ownsRow.alloc HO5.out _) (w5.heap.size + 1) (some ⟨w5.heap.size, 0, none⟩) 1 1 _ (by simp [Act.eval]) (read_one7 _ _ _ _ _ _ _ _) (by intro u hu; simp only [List.mem_cons, List.not_mem_nil, or_false] at hu; rcases hu with rfl | rfl | rfl | rfl | rfl | rfl | rfl <;> rfl) (by simp only [maxLen]; omega) (by omega) (by simp; omega) ?_; intro v6 w6 hown6 hgrow6 hv6; have HNX := Lib.hid (HR.out.next (List.getElem?_eq_getElem hkl) HN5.out HB5.out HK4.out HC4.out HO4.out hown6 hgrow6 (by simpa using hv6)); have hX6 := HR.out.x6 HB5.out HO4.out hgrow6; obtain ⟨A6, c6, rfl, _, _⟩ := own_form hown6; have e6 := hX6.cell 4; have g6 := hX6.frozen 4; clear hX6 hown6 hgrow6 hv6)
        | (go_simp; go_at_call 7; refine HIH.out.mono ?_; rintro e w5 ⟨cs5, rfl, hn5, hb5⟩; obtain ⟨kb', nb', Ab1, nb1, cb1, Ab2, nb2, cb2, Ab3, nb3, cb3, pb', plb', rfl⟩ := hn5.seven; have HN5 := Lib.hid hn5; have HB5 := Lib.hid hb5; have z5 : w5.cell? ⟨g + 1 + 1, 4, none⟩ = some (.slice A4 k c4) := (HR.out.a.x.below hb5 HR.out.a.x.lt).cell 4; have zs5 : g + 1 + 1 < w5.heap.size := (HR.out.a.x.below hb5 HR.out.a.x.lt).lt; have HO5 := Lib.hid (own_kept_below HO4.out hb5); clear hn5 hb5))
      all_goals
        go_wp2
        go_roundw
        case rel => exact ⟨k + 1, by go_num, hkl, _, HNX.out⟩
        case measure => simp [intOf]; omega
    · obtain rfl : k = xs.length := by omega
      clear q1 q2 q3
      obtain ⟨css4, hk4, ho4, hc4⟩ := HR.out.kids
      have HO4 := Lib.hid ho4
      have HC4 := Lib.hid hc4
      have HK4 := Lib.hid hk4
      obtain ⟨A4, c4, rfl, _, _⟩ := own_form ho4
      clear hk4 ho4 hc4
      have hX : Blk wr (g + 1 + 1) 26 #[.int .i64 kd, .string nm, .slice A1' ns.length c1', .slice A2' ts.length c2', .slice A4 xs.length c4, .int .i64 pr, .int .i64 pl] := HR.out.a.x
      have hRR : Blk wr (g + 1) 26 #[.int .i64 0, .string ⟨#[]⟩, .slice none 0 0, .slice none 0 0, .slice none 0 0, .int .i64 0, .int .i64 0] := HR.out.a.r
      have m0 := hX.cell 0
      have m1 := hX.cell 1
      have m2 := hX.cell 2
      have m3 := hX.cell 3
      have m5 := hX.cell 5
      have m6 := hX.cell 6
      have r0 := hRR.cell 0
      have r1 := hRR.cell 1
      have r2 := hRR.cell 2
      have r3 := hRR.cell 3
      have r4 := hRR.cell 4
      have r5 := hRR.cell 5
      have r6 := hRR.cell 6
      have s0 := hRR.frozen 0
      have s1 := hRR.frozen 1
      have s2 := hRR.frozen 2
      have s3 := hRR.frozen 3
      have s4 := hRR.frozen 4
      have s5 := hRR.frozen 5
      have s6 := hRR.frozen 6
      clear hX
      go_wp2
      obtain ⟨hF, hGr, hSz⟩ := set7 hRR (.int .i64 kd) (.string nm) (.slice A1' ns.length c1') (.slice A2' ts.length c2') (.slice A4 xs.length c4) (.int .i64 pr) (.int .i64 pl)
      clear r0 r1 r2 r3 r4 r5 r6 s0 s1 s2 s3 s4 s5 s6
      generalize ((((((wr.setCell ⟨g + 1, 0, none⟩ (.int .i64 kd)).setCell ⟨g + 1, 1, none⟩ (.string nm)).setCell ⟨g + 1, 2, none⟩ (.slice A1' ns.length c1')).setCell ⟨g + 1, 3, none⟩ (.slice A2' ts.length c2')).setCell ⟨g + 1, 4, none⟩ (.slice A4 xs.length c4)).setCell ⟨g + 1, 5, none⟩ (.int .i64 pr)).setCell ⟨g + 1, 6, none⟩ (.int .i64 pl) = wf at hF hGr hSz ⊢
      have HFIN := Lib.hid (twin_end (f := f) (kd := kd) (pr := pr) (pl := pl) (nm := nm) HG.out HR.out.a.below HR.out.o2 HR.out.o3 HK4.out HO4.out HC4.out hGr hSz (x := hRR))
      clear hGr hSz hRR
      have t0 := hF.cell 0
      have t1 := hF.cell 1
      have t2 := hF.cell 2
      have t3 := hF.cell 3
      have t4 := hF.cell 4
      have t5 := hF.cell 5
      have t6 := hF.cell 6
      refine bodyPost_ret (v := .agg #[.int .i64 kd, .string nm, .slice A1' ns.length c1', .slice A2' ts.length c2', .slice A4 xs.length c4, .int .i64 pr, .int .i64 pl]) (by simp [results, Try.results7, go_sem, t0, t1, t2, t3, t4, t5, t6]) rfl HFIN.out
theorem twin_any : ∀ f, TwinSaid f
  | 0 => fun t => t.elim
  | f + 1 => twin_step f (twin_any f)
end Go.Proofs.Ytaigfelpecdajaa
