/-
  What a script comes to: the states and what is told. The walk of the program's Play f19.
-/
import Derived.Test.YtbkgphmocjjmmaaNuB
import Derived.Test.YtbkgphmocjjmmaaNtZ
import Derived.Test.YtbkgphmocjjmmaaNtV
import Derived.ScopeJumps
import Derived.WalkMore
namespace Go.Proofs.Ytbkgphmocjjmmaa
open Go.RowKit

structure Tl where
  num : Int
  b : List UInt8
  er : Int
def PathOf (S0 : Ns) (ac : List Ac) (st : Nat → Ns) (tl : Nat → Tl) : Prop := st 0 = S0 ∧ ∀ (i : Nat) (a : Ac), ac[i]? = some a → ActC (st i) a (st (i + 1)) (tl i).num (tl i).b (tl i).er
theorem path_n (S0 : Ns) (h0 : S0.ok 0) (hs : S0.sm) (ac : List Ac) : ∀ n, n ≤ ac.length → ∃ (st : Nat → Ns) (tl : Nat → Tl), st 0 = S0 ∧ (∀ (i : Nat) (a : Ac), i < n → ac[i]? = some a → ActC (st i) a (st (i + 1)) (tl i).num (tl i).b (tl i).er) ∧ ∀ i, i ≤ n → (st i).ok (128 * (i : Int)) ∧ (st i).sm := by
  intro n
  induction n with
  | zero =>
    refine fun _ => ⟨fun _ => S0, fun _ => ⟨0, [], 0⟩, rfl, fun i a h => by omega, fun i hi => ?_⟩
    obtain rfl : i = 0 := by omega
    exact ⟨by simpa using h0, hs⟩
  | succ n ih =>
    intro hn
    obtain ⟨st, tl, e0, hst, hok⟩ := ih (by omega)
    have ha : ac[n]? = some (ac[n]'(by omega)) := List.getElem?_eq_getElem (by omega)
    generalize ac[n]'(by omega) = a at ha
    obtain ⟨S', num, b, er, hA⟩ := ActC.any (hok n (Nat.le_refl _)).1 a
    have hk := hA.ok (hok n (Nat.le_refl _)).1 (hok n (Nat.le_refl _)).2
    refine ⟨fun i => if i = n + 1 then S' else st i, fun i => if i = n then ⟨num, b, er⟩ else tl i, by simp [e0], fun i a' hi ha' => ?_, fun i hi => ?_⟩
    · rcases Nat.lt_or_ge i n with h1 | h1
      · have h2 := hst i a' h1 ha'
        simp only [show i ≠ n + 1 by omega, show i + 1 ≠ n + 1 by omega, show i ≠ n by omega, if_false]
        exact h2
      · obtain rfl : i = n := by omega
        rw [ha] at ha'; injection ha' with ha'; subst ha'
        simp only [show i ≠ i + 1 by omega, if_false, if_true]
        exact hA
    · by_cases h1 : i = n + 1
      · subst h1
        simp only [if_true]
        refine ⟨Ns.ok_mono hk.1 (by push_cast; omega), hk.2.1⟩
      · simp only [h1, if_false]
        exact hok i (by omega)
structure PathK (S0 : Ns) (ac : List Ac) (st : Nat → Ns) (tl : Nat → Tl) : Prop where
  at0 : st 0 = S0
  step : ∀ (i : Nat) (a : Ac), ac[i]? = some a → ActC (st i) a (st (i + 1)) (tl i).num (tl i).b (tl i).er
  ok : ∀ i, i ≤ ac.length → (st i).ok (128 * (i : Int)) ∧ (st i).sm
theorem path_any (S0 : Ns) (h0 : S0.ok 0) (hs : S0.sm) (ac : List Ac) : ∃ (st : Nat → Ns) (tl : Nat → Tl), PathK S0 ac st tl := by
  obtain ⟨st, tl, h1, h2, h3⟩ := path_n S0 h0 hs ac ac.length (Nat.le_refl _)
  exact ⟨st, tl, h1, fun i a h => h2 i a (List.getElem?_eq_some_iff.1 h).1 h, h3⟩
def Tl.ex (t : Tl) (A : Option Addr) (c : Nat) : EX := ⟨[.int .i64 t.er, .int .i64 t.num], t.b, A, c⟩
/-- the told ones lie in a row of their own, none of F -/
structure TlR (base : Nat) (F : Nat → Prop) (tl : Nat → Tl) (k : Nat) (v : Value) (l : List EX) (W : World) : Prop where
  row : RowX 57 3 base W v l
  len : l.length = k
  at_ : ∀ i, i < k → ∃ A c, l[i]? = some ((tl i).ex A c)
  free : ∀ q, RowB v l q → ¬ F q
section
variable {w W W2 W4 : World} {g k : Nat} {S S' : Ns} {vn vn' : Bool → Value} {ln ln' : Bool → List LP} {tl : Nat → Tl} {v v1 : Value} {l : List EX} {A : Option Addr} {c : Nat} {o : Obj}
/-- an act is done, and what it told is put behind -/
theorem TlR.next (hf : FrN w g S vn ln W) (h : TlR w.heap.size (NetF g vn ln) tl k v l W) (hn : NetA W2 g S' vn' ln') (hsub : ∀ q, NetF g vn' ln' q → NetF g vn ln q ∨ W.heap.size ≤ q) (hc : Chg (NetF g vn ln) W W2)
    (ho : OwnB 5 W2 0 (.slice A (tl k).b.length c) (tl k).b) (hfr : ∀ q, (Value.slice A (tl k).b.length c).ownBlock = some q → ¬ NetF g vn' ln' q ∧ (NetF g vn ln q ∨ W.heap.size ≤ q))
    (hr : W4.ownsRow w.heap.size 57 3 v1 (l.length + 1) (exCells l ++ ((tl k).ex A c).cells)) (hg : (W2.alloc o).grownBy W4 v.ownBlock) (hv : v1.ownBlock = v.ownBlock ∨ v1.ownBlock = some (W2.heap.size + 1)) :
    FrN w g S' vn' ln' W4 ∧ TlR w.heap.size (NetF g vn' ln') tl (k + 1) v1 (l ++ [(tl k).ex A c]) W4 := by
  have hs := hc.size
  have h2 : FrN w g S' vn' ln' W2 := hf.step hn hsub hc
  have hrow2 : RowX 57 3 w.heap.size W2 v l := h.row.chg hc h.free
  have hnew : ∀ q, (Value.slice A (tl k).b.length c).ownBlock = some q → w.heap.size ≤ q := fun q hq => by
    have := hf.old.size
    rcases (hfr q hq).2 with e | e
    · exact hf.new q e
    · omega
  have hfree : ∀ q, RowB v l q → ¬ NetF g vn' ln' q := fun q hq e => by
    have := (h.row.lt hq).2
    rcases hsub q e with e1 | e1
    · exact h.free q hq e1
    · omega
  refine ⟨?_, hrow2.push (by decide) (own_up ho hnew) hr hg, by simp [h.len], fun i hi => ?_, fun q hq e => ?_⟩
  · have hcg : Chg (fun q => v.ownBlock = some q) W2 W4 := ((Chg.of_below ((Below.refl _ _).alloc (Nat.le_refl _) o) (fun q => v.ownBlock = some q)).trans (Chg.of_grown (F := fun q => v.ownBlock = some q) hg (fun q e => e)) (fun _ _ e => e))
    exact h2.chg hcg (fun q hq e => hfree q (.inl e) hq) (fun q _ e => (h.row.lt (.inl e)).1)
  · rcases Nat.lt_or_ge i k with h1 | h1
    · obtain ⟨A', c', h3⟩ := h.at_ i h1
      exact ⟨A', c', by rw [List.getElem?_append_left (by rw [h.len]; omega)]; exact h3⟩
    · obtain rfl : i = k := by omega
      exact ⟨A, c, by rw [List.getElem?_append_right (by rw [h.len]; omega), h.len]; simp⟩
  · rcases RowB.push hv hq with e1 | e1 | e1
    · exact hfree q e1 e
    · exact (hfr q e1).1 e
    · have := hn.lt e; omega
end
theorem told_one (t : Tl) (A : Option Addr) (c : Nat) : ∀ u ∈ [(.int .i64 t.er : Value), .int .i64 t.num, .slice A t.b.length c], u.oneCell' = true := by
  intro u hu
  simp only [List.mem_cons, List.not_mem_nil, or_false] at hu
  rcases hu with rfl | rfl | rfl <;> rfl
def PlayP (w : World) (tl : Nat → Tl) (n : Nat) (e : Ending) (W : World) : Prop := ∃ A c l, e = .returned (.tuple #[.slice A n c, .int .i64 0]) ∧ TlR w.heap.size (fun _ => False) tl n (.slice A n c) l W ∧ Below w.heap.size w W
theorem frn_first {w W : World} {limit : Int} {e : Ending} (h : NewP w limit e W) : e = .returned (.tuple #[.pointer (some ⟨w.heap.size, 0, none⟩), .int .i64 0]) ∧ FrN w w.heap.size (Ns.new limit) (fun _ => .slice none 0 0) (fun _ => []) W := by
  obtain ⟨rfl, hn, hb⟩ := h
  refine ⟨rfl, hn, fun k hk => ?_, hb⟩
  rcases hk with rfl | ⟨s, hs⟩ | ⟨s, p, hp, _⟩
  · exact Nat.le_refl _
  · cases hs
  · cases hp
theorem play_bad (limit : Int) (A : Option Addr) (n c : Nat) (w : World) (h : limit < 1 ∨ 64 < limit) : Calls Try.prog 19 #[.int .i64 limit, .slice A n c] w fun e w' => e = .returned (.tuple #[.slice none 0 0, .int .i64 1]) ∧ w = w' := by
  have H := Lib.hid (new_bad limit w h)
  clear h
  go_enter Try.func19, Try.ntmps19
  go_wp2_with fail
  refine wp_scope_jumps 0 (fun _ _ => False) (fun _ _ => 0) rfl ?_ ?_
  · go_wp2_with (go_at_call 9; refine H.out.mono ?_; rintro e w' ⟨rfl, rfl⟩)
    dsimp +zetaDelta only [Exit.jump]
    go_ret2
    exact ⟨rfl, rfl⟩
  · intro a w h
    exact h.elim
set_option maxRecDepth 20000 in
set_option maxHeartbeats 4000000 in
theorem play_any (limit : Int) (A : Option Addr) (n c : Nat) (ac : List Ac) (st : Nat → Ns) (tl : Nat → Tl) (w : World) (h1 : 1 ≤ limit) (h2 : limit ≤ 64) (hp : PathK (Ns.new limit) ac st tl) (ha : ActsAt w w.heap.size A n ac) (hn : n ≤ 2199023255488) : Calls Try.prog 19 #[.int .i64 limit, .slice A n c] w (PlayP w tl n) := by
  have hlen := ha.1
  have H := Lib.hid (new_ok limit w h1 h2)
  have HA := Lib.hid ha
  have HP := Lib.hid hp
  have HL := Lib.hid hlen
  obtain ⟨i0, hi, hz0, hz1, hz2⟩ := info_parts info57
  clear hp ha hlen
  go_enter Try.func19, Try.ntmps19
  go_wp2_with fail
  refine wp_scope_jumps 0 (fun a' w' => ∃ (k : Nat) (vn : Bool → Value) (ln : Bool → List LP) (v : Value) (l : List EX) (u2 u3 u10 u11 u12 u13 u14 u15 u16 u17 u18 u19 u20 u21 u22 u23 u24 u25 u26 u27 u28 u29 u30 u31 u32 u33 : Value), a' = ⟨#[.int .i64 limit, .slice A n c, u2, u3, .slice none 0 0, .int .i64 0, .pointer (some ⟨w.heap.size, 0, none⟩), .int .i64 0, v, .int .i64 k, u10, u11, u12, u13, u14, u15, u16, u17, u18, u19, u20, u21, u22, u23, u24, u25, u26, u27, u28, u29, u30, u31, u32, u33], []⟩ ∧ k ≤ n ∧ FrN w w.heap.size (st k) vn ln w' ∧ TlR w.heap.size (NetF w.heap.size vn ln) tl k v l w') (fun a' _ => n - (intOf (a'.tmps.getD 9 undef)).toNat) rfl ?_ ?_
  focus
    go_wp2_with (go_at_call 9; refine H.out.mono ?_; rintro e w1 ⟨rfl, hnn, hb⟩)
    have hstart : FrN w w.heap.size (st 0) (fun _ => .slice none 0 0) (fun _ => []) w1 := by
      rw [HP.out.at0]
      exact (frn_first ⟨rfl, hnn, hb⟩).2
    go_step3
    rename_i K hK
    suffices hX : ∀ (k : Nat) (vn : Bool → Value) (ln : Bool → List LP) (v : Value) (l : List EX) (w' : World) (u2 u3 u10 u11 u12 u13 u14 u15 u16 u17 u18 u19 u20 u21 u22 u23 u24 u25 u26 u27 u28 u29 u30 u31 u32 u33 : Value), k ≤ n → FrN w w.heap.size (st k) vn ln w' → TlR w.heap.size (NetF w.heap.size vn ln) tl k v l w' → K ⟨#[.int .i64 limit, .slice A n c, u2, u3, .slice none 0 0, .int .i64 0, .pointer (some ⟨w.heap.size, 0, none⟩), .int .i64 0, v, .int .i64 k, u10, u11, u12, u13, u14, u15, u16, u17, u18, u19, u20, u21, u22, u23, u24, u25, u26, u27, u28, u29, u30, u31, u32, u33], []⟩ w' from
      hX 0 _ _ _ [] w1 _ _ _ _ _ _ _ _ _ _ _ _ _ _ _ _ _ _ _ _ _ _ _ _ _ _ (Nat.zero_le _) hstart ⟨RowX.start _ _ _ _, rfl, fun i hi => by omega, fun q hq => by rcases hq with hq | ⟨e, he, _⟩; cases hq; cases he⟩
    clear hstart hnn hb H
    intro k vn ln v l w' u2 u3 u10 u11 u12 u13 u14 u15 u16 u17 u18 u19 u20 u21 u22 u23 u24 u25 u26 u27 u28 u29 u30 u31 u32 u33 hk hf ht
    refine hK _ _ ?_
    clear hK
  rotate_left
  focus
    rintro a w' ⟨k, vn, ln, v, l, u2, u3, u10, u11, u12, u13, u14, u15, u16, u17, u18, u19, u20, u21, u22, u23, u24, u25, u26, u27, u28, u29, u30, u31, u32, u33, rfl, hk, hf, ht⟩
    clear H
  all_goals
    have HF := Lib.hid hf
    have HT := Lib.hid ht
    have hs := hf.old.size
    clear hf ht
    by_cases hkn : k < n
    · obtain ⟨a, ha⟩ : ∃ a, ac[k]? = some a := ⟨_, List.getElem?_eq_getElem (by rw [HL.out]; exact hkn)⟩
      obtain ⟨b, o, Ai, ci, hA, hb, hc, hr⟩ := HA.out.2 k a ha
      have hok := HP.out.ok k (by rw [HL.out]; exact hk)
      have HACT := Lib.hid (act_net w.heap.size (st k) vn ln (128 * (k : Int)) a Ai a.b.length ci w.heap.size w' HF.out.net hok.1 (by omega) hok.2 (hr.below HF.out.old) hs (fun hn ad e hf => by
        obtain ⟨ad', e', hlt, _⟩ := hr.2 hn
        rw [e'] at e; injection e with e; subst e
        have := HF.out.new _ hf; omega) (HP.out.step k a ha))
      have u0 : w'.cell? ⟨b, o + k * 6, none⟩ = some (.int .i64 a.k) := (HF.out.old.cell (p := ⟨b, o + k * 6, none⟩) hb).trans (hc 0 _ rfl)
      have u1 : w'.cell? ⟨b, o + k * 6 + 1, none⟩ = some (.int .i64 a.z) := (HF.out.old.cell (p := ⟨b, o + k * 6 + 1, none⟩) hb).trans (hc 1 _ rfl)
      have u2' : w'.cell? ⟨b, o + k * 6 + 2, none⟩ = some (.int .i64 a.i) := (HF.out.old.cell (p := ⟨b, o + k * 6 + 2, none⟩) hb).trans (hc 2 _ rfl)
      have u3' : w'.cell? ⟨b, o + k * 6 + 3, none⟩ = some (.int .i64 a.j) := (HF.out.old.cell (p := ⟨b, o + k * 6 + 3, none⟩) hb).trans (hc 3 _ rfl)
      have u4' : w'.cell? ⟨b, o + k * 6 + 4, none⟩ = some (.int .u8 (a.m.toNat : Int)) := (HF.out.old.cell (p := ⟨b, o + k * 6 + 4, none⟩) hb).trans (hc 4 _ rfl)
      have u5' : w'.cell? ⟨b, o + k * 6 + 5, none⟩ = some (.slice Ai a.b.length ci) := (HF.out.old.cell (p := ⟨b, o + k * 6 + 5, none⟩) hb).trans (hc 5 _ rfl)
      have l1 : (0 : Int) ≤ (k : Int) := by omega
      have l2 : (k : Int) < (n : Int) := by omega
      have HLK := Lib.hid HT.out.len
      have HNB := Lib.hid (show l.length + 1 ≤ 140737488355328 / 40 by rw [HLK.out]; omega)
      have HLE := Lib.hid hs
      have HAA := Lib.hid hA
      clear ha hok hb hc hr hs hk HA
      subst hA
      unfold actV at HACT
      go_wp2_with fail
      refine HACT.out.mono ?_
      rintro e w2 ⟨vn', ln', A2, c2, rfl, hn2, hsub2, hc2, ho2, hf2⟩
      have HNX := Lib.hid fun v1 W4 o2 => TlR.next (W4 := W4) (v1 := v1) (o := o2) HF.out HT.out hn2 hsub2 hc2 ho2 hf2
      have HRW := Lib.hid (own_chg HT.out.row.row hc2 fun q hq => HT.out.free q (.inl hq))
      have HS2 := Lib.hid hc2.size
      clear hn2 hsub2 hc2 ho2 hf2 u0 u1 u2' u3' u4' u5' HACT
      unfold toldV
      obtain ⟨Av, cv, rfl, _, _⟩ := own_form HT.out.row.row
      go_wp2_with (at_builtin; refine wpList_append_any _ rfl (.tmp 22) (.tmp 29) 46 rfl w.heap.size 57 i0 _ 3 40 Try.underlying46 hi hz0 hz1 hz2 rfl (by decide) _ l.length (exCells l) rfl (World.ownsRow.alloc HRW.out _) _ _ _ _ _ rfl (read_one _ _ _) (told_one _ _ _) (by have := HNB.out; simp only [maxLen]; omega) (by have := HNB.out; omega) (by have := HLE.out; have := HS2.out; simp; omega) ?_; intro v1 w4 hown hgrow hv1; have HN := Lib.hid (HNX.out v1 w4 _ hown hgrow (hv1.imp (fun e => e) (fun e => by simpa using e))); clear hown hgrow hv1)
      go_step3
      have e1 : (k : Int) + 1 = ((k + 1 : Nat) : Int) := by omega
      rw [e1]
      first
        | exact ⟨rfl, k + 1, vn', ln', v1, _, _, _, _, _, _, _, _, _, _, _, _, _, _, _, _, _, _, _, _, _, _, _, _, _, _, _, rfl, hkn, HN.out.1, HN.out.2⟩
        | exact ⟨rfl, ⟨k + 1, vn', ln', v1, _, _, _, _, _, _, _, _, _, _, _, _, _, _, _, _, _, _, _, _, _, _, _, _, _, _, _, rfl, hkn, HN.out.1, HN.out.2⟩, by simp [intOf]; omega⟩
    · obtain rfl : k = n := by omega
      have HE : Hid (PlayP w tl k (.returned (.tuple #[v, .int .i64 0])) w') := Lib.hid (by
        have h3 := HT.out
        obtain ⟨Av, cv, hv, _, _⟩ := own_form h3.row.row
        rw [h3.len] at hv
        subst hv
        exact ⟨Av, cv, l, rfl, ⟨h3.row, h3.len, h3.at_, fun _ _ h => h⟩, HF.out.old⟩)
      go_wp2
      dsimp +zetaDelta only [Exit.jump]
      go_ret2
      exact HE.out
end Go.Proofs.Ytbkgphmocjjmmaa
