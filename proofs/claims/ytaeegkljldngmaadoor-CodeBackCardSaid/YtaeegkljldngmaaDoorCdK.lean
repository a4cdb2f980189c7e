/-
  The program's Decode f24. No statement of the seat is proved here.
-/
import Derived.Test.YtaeegkljldngmaaDoorCdJ
import Derived.Test.YtaeegkljldngmaaDoorCvM
import Derived.Deep.LoopGhost
namespace Go.Proofs.YtaeegkljldngmaaDoor
open Go.RowKit

theorem Reads.builtN (w : World) (t : TypeId) (cs : List Value) (n size : Nat) (h : cs.length = n * size) : Reads (w.alloc (.cells cs.toArray t)) (w.heap.size + 1) size (some ⟨w.heap.size, 0, none⟩) n cs :=
  ⟨h, fun hn => by
    rcases Nat.eq_zero_or_pos cs.length with h0 | h0
    · obtain rfl : cs = [] := List.eq_nil_of_length_eq_zero h0
      exact ⟨_, rfl, by simp, fun j u hu => by simp at hu⟩
    · obtain ⟨ad, e, hb, hc⟩ := (Reads.built w t cs).2 h0
      exact ⟨ad, e, hb, hc⟩⟩
theorem Reads.builtN' (w : World) (t : TypeId) (g : Nat) (cs : List Value) (n size : Nat) (h : cs.length = n * size) (hg : w.heap.size = g) : Reads (w.alloc (.cells cs.toArray t)) (w.heap.size + 1) size (some ⟨g, 0, none⟩) n cs := by
  subst hg
  exact Reads.builtN w t cs n size h
section
variable {w : World} {ops : Array Oper} {rest : List Oper} {o : Oper} {a : Act} {Q : Exit → Act → World → Prop} {K : Act → World → Prop} {E : Prop}
theorem app_ins (hgd : o.guard = none) (s x : Operand) (ho : o.op = .call { callee := .builtin .append, args := #[s, x], argTypes := #[22, 22] })
    (base : Nat) (v : Value) (l : List Ins) (hs : a.eval s = v) (hown : OwnIn w base v l) (B : Nat) (A : Option Addr) (m c : Nat) (news : List Ins) (hx : a.eval x = .slice A m c) (hr : Reads w B 5 A m (insC news))
    (hb : (l.length + m) * 40 ≤ 140737488355328) (hbase : base ≤ w.heap.size)
    (h : ∀ v' w', OwnIn w' base v' (l ++ news) → App w v w' v' → wpList Tryd.prog ops Q rest (a.put o.dst v') w') : wpList Tryd.prog ops Q (o :: rest) a w := by
  obtain ⟨i0, hi, hz0, hz1, hz2⟩ := info_parts info34
  refine wpList_append_any w hgd s x 22 ho base 34 i0 _ 5 40 Tryd.underlying22 hi hz0 hz1 hz2 rfl (by decide) v l.length (insC l) hs hown B A m c (insC news) hx hr (insC_one _) (by simp only [maxLen]; omega) hb hbase fun v' w' h1 h2 h3 => h v' w' ?_ ⟨h2, ?_⟩
  · have hl : news.length = m := by have := hr.1; rw [insC_len] at this; omega
    show w'.ownsRow base 34 5 v' (l ++ news).length (insC (l ++ news))
    rw [List.length_append, insC_app, hl]
    exact h1
  · rcases h3 with e | e
    · exact .inl e
    · exact .inr ⟨_, e, Nat.le_refl _⟩
theorem app_z (hgd : o.guard = none) (s x : Operand) (ho : o.op = .call { callee := .builtin .append, args := #[s, x], argTypes := #[28, 28] })
    (base : Nat) (v : Value) (l : List Int) (hs : a.eval s = v) (hown : OwnZ w base v l) (B : Nat) (A : Option Addr) (m c : Nat) (news : List Int) (hx : a.eval x = .slice A m c) (hr : Reads w B 1 A m (news.map iv))
    (hb : (l.length + m) * 8 ≤ 140737488355328) (hbase : base ≤ w.heap.size)
    (h : ∀ v' w', OwnZ w' base v' (l ++ news) → App w v w' v' → wpList Tryd.prog ops Q rest (a.put o.dst v') w') : wpList Tryd.prog ops Q (o :: rest) a w := by
  obtain ⟨i0, hi, hz0, hz1, hz2⟩ := info_parts info3
  refine wpList_append_any w hgd s x 28 ho base 3 i0 _ 1 8 Tryd.underlying28 hi hz0 hz1 hz2 rfl (by decide) v l.length (l.map iv) hs hown B A m c (news.map iv) hx hr (iv_one _) (by simp only [maxLen]; omega) hb hbase fun v' w' h1 h2 h3 => h v' w' ?_ ⟨h2, ?_⟩
  · have hl : news.length = m := by have := hr.1; simpa using this
    show w'.ownsRow base 3 1 v' (l ++ news).length ((l ++ news).map iv)
    rw [List.length_append, List.map_append, hl]
    exact h1
  · rcases h3 with e | e
    · exact .inl e
    · exact .inr ⟨_, e, Nat.le_refl _⟩
theorem step_z (hgd : o.guard = none) (s x : Operand) (ho : o.op = .call { callee := .builtin .append, args := #[s, x], argTypes := #[28, 28] })
    (base : Nat) (v : Value) (l : List Int) (hs : a.eval s = v) (hown : OwnZ w base v l) (B : Nat) (A : Option Addr) (m c : Nat) (news : List Int) (hx : a.eval x = .slice A m c) (hr : Reads w B 1 A m (news.map iv))
    (hb : (l.length + m) * 8 ≤ 140737488355328) (hbase : base ≤ w.heap.size)
    (h : ∀ v' w', OwnZ w' base v' (l ++ news) → App w v w' v' → K (a.put o.dst v') w') : if Region.wanted o (yielded ops a.tmps) = true then Oper.wp Tryd.prog o a w K Q else E := by
  obtain ⟨i0, hi, hz0, hz1, hz2⟩ := info_parts info3
  refine step_append_any w hgd s x 28 ho base 3 i0 _ 1 8 Tryd.underlying28 hi hz0 hz1 hz2 rfl (by decide) v l.length (l.map iv) hs hown B A m c (news.map iv) hx hr (iv_one _) (by simp only [maxLen]; omega) hb hbase fun v' w' h1 h2 h3 => h v' w' ?_ ⟨h2, ?_⟩
  · have hl : news.length = m := by have := hr.1; simpa using this
    show w'.ownsRow base 3 1 v' (l ++ news).length ((l ++ news).map iv)
    rw [List.length_append, List.map_append, hl]
    exact h1
  · rcases h3 with e | e
    · exact .inl e
    · exact .inr ⟨_, e, Nat.le_refl _⟩
end
theorem two_app {w w2 : World} {v v2 p : Value} {b1 b2 s1 s2 n m : Nat} {e1 e2 : TypeId} {xs ys : List Value} (ha : App w v w2 v2) (hv : w.ownsRow b1 e1 s1 v n xs) (hp : w.ownsRow b2 e2 s2 p m ys) (hne : e1 ≠ e2) : w2.ownsRow b2 e2 s2 p m ys :=
  own_same hp fun k hk => ha.1.block k (World.ownsRow.lt hp k hk).2 fun e => own_apart hv hp hne k e.symm hk
theorem below_app {w0 w w2 : World} {v v2 : Value} {B s n : Nat} {e : TypeId} {xs : List Value} (hB : B ≤ w0.heap.size) (hb : Below B w0 w) (ha : App w v w2 v2) (hv : w.ownsRow B e s v n xs) : Below B w0 w2 :=
  hb.trans (ha.below (Nat.le_trans hB hb.size) fun k hk => (World.ownsRow.lt hv k hk).1)
def DcP (R : List Ins × List Nat × Nat × Int) (w : World) (e : Ending) (w' : World) : Prop :=
  Below w.heap.size w w' ∧ ∃ lv pv, e = .returned (.tuple #[lv, pv, .int .i64 (R.2.2.1 : Int), .int .i64 R.2.2.2]) ∧ OwnIn w' w.heap.size lv R.1 ∧ OwnZ w' w.heap.size pv (natZ R.2.1)
theorem DcP.bad_ {R : List Ins × List Nat × Nat × Int} {w w' : World} {p : Nat} {z : Int} (hR : R = ([], [], p, z)) (hb : Below w.heap.size w w') : DcP R w (.returned (.tuple #[.slice none 0 0, .slice none 0 0, .int .i64 (p : Int), .int .i64 z])) w' := by
  subst hR
  exact ⟨hb, _, _, rfl, World.ownsRow_nil _ _ _ _, World.ownsRow_nil _ _ _ _⟩
theorem dc_end {fn : Func} {t0 t1 t2 t3 : Tmp} (hf : fn.results = #[.tmp t0, .tmp t1, .tmp t2, .tmp t3]) {W : World} {tmps : Array Value} {a b c d : Value} {Q : Ending → World → Prop} (h0 : tmps.getD t0 undef = a) (h1 : tmps.getD t1 undef = b) (h2 : tmps.getD t2 undef = c) (h3 : tmps.getD t3 undef = d) (hQ : Q (.returned (.tuple #[a, b, c, d])) W) :
    bodyPost Tryd.prog fn Q Exit.ret { tmps := tmps, defers := [] } W := by
  subst h0 h1 h2 h3
  exact bodyPost_ret (results_tmp4 hf tmps Tryd.prog W) rfl hQ
set_option maxRecDepth 100000 in
set_option maxHeartbeats 4000000 in
theorem Decode_any (A : Option Addr) (n c : Nat) (bs : List UInt8) (w : World) (hr : RdB w w.heap.size A n bs) : Calls Tryd.prog 6 #[.slice A n c] w (DcP (decL bs) w) := by
  have hlen := hr.len1
  by_cases hbig : 32767 < n
  · have HF : Hid (decL bs = ([], [], 0, 2)) := Lib.hid (by unfold decL; rw [if_pos (by omega)])
    have hb1 : (32767 : Int) < (n : Int) := by omega
    clear hr hlen hbig
    go_enter Tryd.func6, Tryd.ntmps6
    go_wp2
    exact dc_end Tryd.results6 rfl rfl rfl rfl (DcP.bad_ (p := 0) HF.out (Below.refl _ _))
  · have hn : n ≤ 32767 := by omega
    obtain ⟨R, hR⟩ : ∃ R, decF bs (bs.length + 1) 0 [] [] = R := ⟨_, rfl⟩
    have HT : Hid (decL bs = R) := Lib.hid (by unfold decL; rw [if_neg (by omega)]; exact hR)
    have HR := Lib.hid hR
    have HRD := Lib.hid hr
    have HLN := Lib.hid hlen
    have z43 := zero34
    clear hR hbig hr hlen
    go_enter Tryd.func6, Tryd.ntmps6
    go_wp2
    go_loopg [6, 7, 8] (bs.length + 1) (fun f s6 s7 s8 wr => ∃ (i : Nat) (l : List Ins) (ps : List Nat), s8 = .int .i64 (i : Int) ∧ n < i + f ∧ i ≤ n ∧ l.length ≤ i ∧ ps.length = l.length ∧ OwnIn wr w.heap.size s6 l ∧ OwnZ wr w.heap.size s7 (natZ ps) ∧ Below w.heap.size w wr ∧ decF bs f i l ps = R)
    case atStart => exact ⟨0, [], [], rfl, by have := HLN.out; omega, Nat.zero_le _, Nat.le_refl _, rfl, World.ownsRow_nil _ _ _ _, World.ownsRow_nil _ _ _ _, Below.refl _ _, HR.out⟩
    case round =>
      obtain ⟨i, l, ps, rfl, hif, hin, hli, hpl, hol, hop, hB, hdec⟩ := hrel
      obtain ⟨A1, c1, rfl, hx1, hx2⟩ := own_form hol
      obtain ⟨A2, c2, rfl, hx3, hx4⟩ := own_form hop
      have HOL := Lib.hid hol
      have HOP := Lib.hid hop
      have HB := Lib.hid hB
      have HL := Lib.hid hdec
      have HPL := Lib.hid hpl
      have hws := hB.size
      clear hol hop hB hdec hpl hx1 hx2 hx3 hx4
      by_cases hlt : i < n
      · obtain ⟨f, rfl⟩ : ∃ f, gk = f + 1 := ⟨gk - 1, by omega⟩
        have HD : Hid (Calls Tryd.prog 17 #[.slice A n c, .int .i64 (i : Int)] wr fun e w' => Below wr.heap.size wr w' ∧ ((okAt bs i = true ∧ e = .returned (.tuple #[(insAt bs i).val, .int .i64 ((i + (insAt bs i).size : Nat) : Int), .bool true])) ∨ (okAt bs i = false ∧ e = .returned (.tuple #[.agg #[.int .i64 0, .int .i64 0, .int .i64 0, .int .i64 0, .int .i64 0], .int .i64 0, .bool false])))) :=
          Lib.hid ((decode_any A n c bs i wr ((HRD.out.below HB.out).more hws) hlt hn).mono fun _ _ h => h)
        have HNEXT : Hid (okAt bs i = true → decF bs f (i + (insAt bs i).size) (l ++ [insAt bs i]) (ps ++ [i]) = R) := Lib.hid fun h => by
          have := HL.out
          unfold decF at this
          rw [if_neg (by rw [HLN.out]; omega), if_pos h] at this
          exact this
        have HBAD : Hid (okAt bs i = false → R = ([], [], i, 50)) := Lib.hid fun h => by
          have := HL.out
          unfold decF at this
          rw [if_neg (by rw [HLN.out]; omega), h] at this
          exact this.symm
        have HSZ : Hid (okAt bs i = true → 1 ≤ (insAt bs i).size ∧ i + (insAt bs i).size ≤ n) := Lib.hid fun h => by
          have h1 : inO (bAt bs i) = true ∧ (i : Int) + szO (bAt bs i) ≤ (bs.length : Int) := by
            unfold okAt at h
            simpa using h
          have hsz := size_cast (x := insAt bs i) h1.1
          have e : (insAt bs i).op = bAt bs i := rfl
          rw [e, ] at hsz
          have := HLN.out
          omega
        generalize insAt bs i = x at *
        obtain ⟨xo, xa, xb, xc, xz⟩ := x
        generalize (⟨xo, xa, xb, xc, xz⟩ : Ins).size = sx at *
        go_wp2_with fail
        refine HD.out.mono ?_
        rintro e w1 ⟨hb1, ⟨hok, rfl⟩ | ⟨hok, rfl⟩⟩
        · obtain ⟨hs1, hs2⟩ := HSZ.out hok
          have HN := Lib.hid (HNEXT.out hok)
          have HO1 : Hid (OwnIn w1 w.heap.size (.slice A1 l.length c1) l) := Lib.hid (own_same HOL.out fun k hk => hb1.block k (World.ownsRow.lt HOL.out k hk).2)
          have HP1 : Hid (OwnZ w1 w.heap.size (.slice A2 (natZ ps).length c2) (natZ ps)) := Lib.hid (own_same HOP.out fun k hk => hb1.block k (World.ownsRow.lt HOP.out k hk).2)
          have HB1 := Lib.hid (HB.out.trans (hb1.mono hws))
          have hw1 := hb1.size
          have hpn : (natZ ps).length ≤ n := by have := HPL.out; simp [natZ]; omega
          have HNX : Hid (Value.int .i64 ((i + sx : Nat) : Int) = .int .i64 ((i : Int) + sx)) := Lib.hid (by rw [Int.natCast_add])
          simp only [Ins.val]
          clear hb1 hok HSZ HBAD HNEXT
          go_wp2_with (first
            | (at_builtin; refine app_ins rfl (.tmp 29) (.tmp 31) rfl w.heap.size _ l rfl ((HO1.out.alloc _).alloc _) _ _ 1 1 [⟨xo, xa, xb, xc, xz⟩] rfl (Reads.builtN' _ 34 _ (insC [⟨xo, xa, xb, xc, xz⟩]) 1 5 rfl (by simp)) (by omega) (by simp; omega) ?_; intro v2 w2 ho2 ha2; have HO2 := Lib.hid ho2; have HP2 := Lib.hid (two_app ha2 ((HO1.out.alloc _).alloc _) ((HP1.out.alloc _).alloc _) (by decide)); have HB2 := Lib.hid (below_app (Nat.le_refl _) ((HB1.out.alloc HB1.out.size _).alloc (Nat.le_trans HB1.out.size (by simp)) _) ha2 ((HO1.out.alloc _).alloc _)); have hw2 := HB2.out.size; clear ho2 ha2)
            | (at_builtin; refine app_z rfl (.tmp 33) (.tmp 35) rfl w.heap.size _ (natZ ps) rfl (HP2.out.alloc _) _ _ 1 1 [(i : Int)] rfl (Reads.builtN' _ 3 _ ([(i : Int)].map iv) 1 1 rfl rfl) (by omega) (by simp; omega) ?_; intro v3 w3 ho3 ha3; have HP3 := Lib.hid ho3; have HO3 := Lib.hid (two_app ha3 (HP2.out.alloc _) (HO2.out.alloc _) (by decide)); have HB3 := Lib.hid (below_app (Nat.le_refl _) (HB2.out.alloc HB2.out.size _) ha3 (HP2.out.alloc _)); clear ho3 ha3))
          go_roundg f
          case measure => omega
          case rel => exact ⟨i + sx, _, _, by first | rfl | exact HNX.out.symm, by omega, by omega, by simp; omega, by simp [HPL.out], HO3.out, by have := HP3.out; simpa [natZ] using this, HB3.out, HN.out⟩
        · have HBD := Lib.hid (HBAD.out hok)
          have HB1 := Lib.hid (HB.out.trans (hb1.mono hws))
          clear hb1 hok HSZ HBAD HNEXT
          go_wp2
          exact dc_end Tryd.results6 rfl rfl rfl rfl (DcP.bad_ (p := i) (by rw [HT.out]; exact HBD.out) (HB1.out.alloc HB1.out.size _))
      · have HE : Hid (R = (l, ps, 0, 0)) := Lib.hid (by
          have := HL.out
          obtain ⟨f, rfl⟩ : ∃ f, gk = f + 1 := ⟨gk - 1, by omega⟩
          unfold decF at this
          rw [if_pos (by rw [HLN.out]; omega)] at this
          exact this.symm)
        go_wp2
        refine dc_end Tryd.results6 rfl rfl rfl rfl ?_
        rw [HT.out, HE.out]
        exact ⟨HB.out, _, _, rfl, HOL.out, HOP.out⟩
end Go.Proofs.YtaeegkljldngmaaDoor
