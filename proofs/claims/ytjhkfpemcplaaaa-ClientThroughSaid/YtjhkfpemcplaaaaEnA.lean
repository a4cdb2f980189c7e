/-
  Rows that may begin inside their block, and append to them. No statement of the seat is proved here.
-/
import Derived.Test.YtjhkfpemcplaaaaClL
import Derived.ArgAppend
import Derived.Laws.IdiomCopy
namespace Go.Proofs.Ytjhkfpemcplaaaa
open Go.RowKit

theorem Reads.firstK {w : World} {B size n k : Nat} {A : Option Addr} {xs : List Value} (h : Reads w B size A n xs) (hk : k ≤ n) : Reads w B size A k (xs.take (k * size)) := by
  refine ⟨by rw [List.length_take, h.1]; exact Nat.min_eq_left (Nat.mul_le_mul_right _ hk), fun hp => ?_⟩
  obtain ⟨ad, e, hb, hc⟩ := h.2 (by omega)
  refine ⟨ad, e, hb, fun j u hu => hc j u ?_⟩
  rw [List.getElem?_take] at hu
  split at hu
  · exact hu
  · cases hu
/-- a row of one's own that begins anywhere in its block -/
def OwnO (w : World) (base : Nat) (e : TypeId) (size : Nat) (v : Value) (n : Nat) (xs : List Value) : Prop :=
  xs.length = n * size ∧ ((v = .slice none 0 0 ∧ n = 0) ∨ ∃ g o cap cur, v = .slice (some ⟨g, o, none⟩) n cap ∧ base ≤ g ∧ Blk w g e cur ∧ n ≤ cap ∧ cap ≤ maxLen ∧ (∀ j, j < cap * size → (cur[o + j]?).isSome = true) ∧ ∀ j u, xs[j]? = some u → cur[o + j]? = some u)
theorem OwnO.of {w : World} {base : Nat} {e : TypeId} {size n : Nat} {v : Value} {xs : List Value} (h : w.ownsRow base e size v n xs) : OwnO w base e size v n xs := by
  refine ⟨h.1, ?_⟩
  rcases h.2 with ⟨e1, hx⟩ | ⟨g, cap, cur, e1, hb, hg, hn, hm, hcs, hcell⟩
  · exact .inl ⟨e1, by omega⟩
  · refine .inr ⟨g, 0, cap, cur, e1, hb, hg, hn, hm, fun j hj => ?_, fun j u hu => ?_⟩
    · rw [Nat.zero_add, Array.getElem?_eq_getElem (by omega)]
      rfl
    · rw [Nat.zero_add]
      conv at hu => lhs; rw [← hcell]
      rw [List.getElem?_take] at hu
      split at hu
      · simpa using hu
      · cases hu
section
variable {w w' : World} {base base' : Nat} {e : TypeId} {size n : Nat} {v : Value} {xs : List Value}
theorem OwnO.lt (h : OwnO w base e size v n xs) : ∀ k, v.ownBlock = some k → base ≤ k ∧ k < w.heap.size := by
  intro k hk
  rcases h.2 with ⟨rfl, _⟩ | ⟨g, o, cap, cur, rfl, hb, hg, _⟩
  · simp [Value.ownBlock] at hk
  · have : g = k := by simpa [Value.ownBlock] using hk
    subst this
    exact ⟨hb, Blk.lt (t := e) hg⟩
theorem OwnO.same (h : OwnO w base e size v n xs) (hk : ∀ k, v.ownBlock = some k → w'.heap[k]? = w.heap[k]?) : OwnO w' base e size v n xs := by
  refine ⟨h.1, ?_⟩
  rcases h.2 with hn | ⟨g, o, cap, cur, rfl, hb, hg, rest⟩
  · exact .inl hn
  · exact .inr ⟨g, o, cap, cur, rfl, hb, (hk g (by simp [Value.ownBlock])).trans hg, rest⟩
theorem OwnO.base_ (h : OwnO w base e size v n xs) (hb : base' ≤ base) : OwnO w base' e size v n xs := by
  refine ⟨h.1, ?_⟩
  rcases h.2 with hn | ⟨g, o, cap, cur, e1, hbg, rest⟩
  · exact .inl hn
  · exact .inr ⟨g, o, cap, cur, e1, Nat.le_trans hb hbg, rest⟩
theorem OwnO.form (h : OwnO w base e size v n xs) : ∃ A c, v = .slice A n c ∧ n ≤ c ∧ c ≤ maxLen := by
  rcases h.2 with ⟨rfl, rfl⟩ | ⟨g, o, cap, cur, rfl, _, _, hn, hm, _⟩
  · exact ⟨none, 0, rfl, by omega, by simp⟩
  · exact ⟨_, cap, rfl, hn, hm⟩
theorem OwnO.blk_ne {g : Nat} {t : TypeId} {cs : Array Value} (h : OwnO w base e size v n xs) (hg : Blk w g t cs) (hne : e ≠ t) : v.ownBlock ≠ some g := by
  rcases h.2 with ⟨rfl, _⟩ | ⟨g', o, cap, cur, rfl, _, hh, _⟩
  · simp [Value.ownBlock]
  · intro he
    have : g' = g := by simpa [Value.ownBlock] using he
    subst this
    exact Blk.ne_ (t := e) hh hg hne rfl
theorem OwnO.reads {A : Option Addr} {c : Nat} (h : OwnO w base e size (.slice A n c) n xs) : Reads w w.heap.size size A n xs := by
  refine ⟨h.1, fun hn => ?_⟩
  rcases h.2 with ⟨e1, hx⟩ | ⟨g, o, cap, cur, e1, hb, hg, hnc, hm, hs, hc⟩
  · omega
  · injection e1 with e1 _ _
    subst e1
    refine ⟨_, rfl, Blk.lt (t := e) hg, fun j u hu => ?_⟩
    have : (⟨g, o, none⟩ : Addr).add j = ⟨g, o + j, none⟩ := by simp [Addr.add]
    rw [this, Blk.cell (t := e) hg]
    exact hc j u hu
/-- the end of a row -/
theorem OwnO.tail {g o cap k : Nat} (h : OwnO w base e size (.slice (some ⟨g, o, none⟩) n cap) n xs) (hk : k ≤ n) : OwnO w base e size (.slice (some ⟨g, o + k * size, none⟩) (n - k) (cap - k)) (n - k) (xs.drop (k * size)) := by
  refine ⟨by rw [List.length_drop, h.1, Nat.sub_mul], ?_⟩
  rcases h.2 with ⟨e1, hx⟩ | ⟨g', o', cap', cur, e1, hb, hg, hnc, hm, hs, hc⟩
  · cases e1
  · injection e1 with e1 _ e3
    injection e1 with e1
    injection e1 with e4 e5
    subst e3 e4 e5
    refine .inr ⟨g, _, _, cur, rfl, hb, hg, by omega, by omega, fun j hj => ?_, fun j u hu => ?_⟩
    · rw [Nat.add_assoc]
      refine hs _ ?_
      rw [Nat.sub_mul] at hj
      omega
    · rw [Nat.add_assoc]
      refine hc _ u ?_
      rw [← hu, List.getElem?_drop]
end
theorem blk_setCells {g : Nat} {e : TypeId} : ∀ (vs : List Value) (o : Nat) (w : World) (cur : Array Value), Blk w g e cur → ∃ cur', Blk (w.setCells g o vs) g e cur' ∧ cur'.size = cur.size ∧ (∀ (j : Nat) (u : Value), vs[j]? = some u → o + j < cur.size → cur'[o + j]? = some u) ∧ ∀ i, (i < o ∨ o + vs.length ≤ i) → cur'[i]? = cur[i]?
  | [], o, w, cur, h => ⟨cur, h, rfl, (fun j u hu => by simp at hu), fun _ _ => rfl⟩
  | x :: r, o, w, cur, h => by
    obtain ⟨cur', h1, h2, h3, h4⟩ := blk_setCells r (o + 1) (w.setCell ⟨g, o, none⟩ x) (cur.setIfInBounds o x) (h.set_ o x)
    simp only [Array.size_setIfInBounds] at h2 h3
    refine ⟨cur', h1, h2, fun j u hu hj => ?_, fun i hi => ?_⟩
    · cases j with
      | zero =>
        simp only [List.getElem?_cons_zero, Option.some.injEq] at hu
        subst hu
        rw [Nat.add_zero] at hj ⊢
        rw [h4 o (.inl (by omega)), Array.getElem?_setIfInBounds_self_of_lt hj]
      | succ j =>
        rw [List.getElem?_cons_succ] at hu
        rw [show o + (j + 1) = o + 1 + j by omega]
        exact h3 j u hu (by omega)
    · simp only [List.length_cons] at hi
      rw [h4 i (by omega), Array.getElem?_setIfInBounds_ne (by omega)]
theorem arr_lt {cur : Array Value} {i : Nat} (h : (cur[i]?).isSome = true) : i < cur.size := by
  rcases Nat.lt_or_ge i cur.size with h1 | h1
  · exact h1
  · rw [Array.getElem?_eq_none h1] at h; cases h
theorem arr_some {cur : Array Value} {i : Nat} (h : i < cur.size) : (cur[i]?).isSome = true := by rw [Array.getElem?_eq_getElem h]; rfl
theorem tape_setCells (g : Nat) : ∀ (vs : List Value) (o : Nat) (w : World), (w.setCells g o vs).tape = w.tape
  | [], _, _ => rfl
  | _ :: r, o, w => by rw [World.setCells, tape_setCells g r]; rfl
theorem size_setCells' (g : Nat) : ∀ (vs : List Value) (o : Nat) (w : World), (w.setCells g o vs).heap.size = w.heap.size
  | [], _, _ => rfl
  | _ :: r, o, w => by rw [World.setCells, size_setCells' g r]; simp [World.setCell]
section
variable {P : Program} (w : World)
theorem run_append_o (base : Nat) (t ty e : TypeId) (i : TypeInfo) (z : Value) (size bytes : Nat) (ht : P.underlying t = some (.slice e)) (hi : P.info? e = some i) (hz : i.zero = some z)
    (hsize : i.size = size) (hby : i.bytes = bytes) (hzs : z.cells.size = size) (hsz : 0 < size)
    (v : Value) (n : Nat) (xs : List Value) (hown : OwnO w base e size v n xs)
    (B : Nat) (A : Option Addr) (m c : Nat) (news : List Value) (hr : Reads w B size A m news) (h1 : ∀ u ∈ news, u.oneCell' = true)
    (h63 : n + m ≤ maxLen) (hbytes : (n + m) * bytes ≤ 140737488355328) (hbase : base ≤ w.heap.size) :
    ∃ v' w', (Builtin.append_ #[t, t] ty #[v, .slice A m c]).run P w = .ok v' w' ∧ OwnO w' base e size v' (n + m) (xs ++ news) ∧ w.grownBy w' v.ownBlock ∧
      (v'.ownBlock = v.ownBlock ∨ v'.ownBlock = some w.heap.size) := by
  subst hsize
  subst hby
  have hown' := hown
  rcases hown.2 with ⟨rfl, rfl⟩ | ⟨g, o, cap, cur, rfl, hbg, hg, hnc, hcm, hcs, hcell⟩
  · have hx : xs = [] := List.eq_nil_of_length_eq_zero (by simpa using hown.1)
    subst hx
    obtain ⟨v', w', hrun, h2, h3, h4⟩ := run_append_any (P := P) w base t ty e i z i.size i.bytes ht hi hz rfl rfl hzs hsz (.slice none 0 0) 0 [] (World.ownsRow_nil _ _ _ _) B A m c news hr h1 h63 hbytes hbase
    exact ⟨v', w', hrun, OwnO.of h2, h3, h4⟩
  · have hsmall : n + m ≤ 9223372036854775807 := by simp only [maxLen] at h63; omega
    rcases A with _ | ad
    · have hm : m = 0 := by
        rcases Nat.eq_zero_or_pos m with h0 | h0
        · exact h0
        · obtain ⟨ad, h, _⟩ := hr.2 h0
          cases h
      subst hm
      have hn : news = [] := List.eq_nil_of_length_eq_zero (by simpa using hr.1)
      subst hn
      refine ⟨_, w, ?_, by simpa using hown', World.grownBy.refl w _, .inl rfl⟩
      simp [Builtin.append_, run_underlying ht, sizeOf, typeInfo, hi, Builtin.lenOf, Builtin.firstCells, hnc, storeCells]
    · have hcells : ∀ j u, news[j]? = some u → w.cell? (ad.add j) = some u := by
        intro j u hu
        rcases Nat.eq_zero_or_pos m with h0 | h0
        · subst h0
          have hn : news = [] := List.eq_nil_of_length_eq_zero (by simpa using hr.1)
          subst hn
          simp at hu
        · obtain ⟨ad', h, _, hc⟩ := hr.2 h0
          injection h with h
          subst h
          exact hc j u hu
      have hadd : ∀ j, (⟨g, o, none⟩ : Addr).add j = ⟨g, o + j, none⟩ := fun j => by simp [Addr.add]
      by_cases hroom : n + m ≤ cap
      · have hle : (n + m) * i.size ≤ cap * i.size := Nat.mul_le_mul_right _ hroom
        have hsum : (n + m) * i.size = n * i.size + m * i.size := Nat.add_mul _ _ _
        have hin : ∀ j, j < news.length → (cur[o + n * i.size + j]?).isSome = true := fun j hj => by
          rw [Nat.add_assoc]
          exact hcs _ (by rw [hr.1] at hj; omega)
        have hrun := run_append_room_cells (P := P) w t ty e i ht hi g o n cap ad m c news hr.1 hcells h1 hroom (fun j hj => by rw [Blk.cell (t := e) hg]; exact hin j hj) (fun j _ => Blk.frozen (t := e) hg _)
        obtain ⟨cur', hb', hs', hset, hout⟩ := blk_setCells (e := e) news (o + n * i.size) w cur hg
        refine ⟨_, _, hrun, ⟨by rw [List.length_append, hown.1, hr.1, hsum], .inr ⟨g, o, cap, cur', rfl, hbg, hb', hroom, hcm, fun j hj => ?_, fun j u hu => ?_⟩⟩, ⟨?_, ?_, ?_, ?_, fun k hk hn => ?_⟩, .inl rfl⟩
        · exact arr_some (by rw [hs']; exact arr_lt (hcs j hj))
        · rcases Nat.lt_or_ge j (n * i.size) with hj | hj
          · rw [List.getElem?_append_left (by rw [hown.1]; exact hj)] at hu
            rw [hout _ (.inl (by omega))]
            exact hcell j u hu
          · rw [List.getElem?_append_right (by rw [hown.1]; exact hj), hown.1] at hu
            have hjl : j - n * i.size < news.length := (List.getElem?_eq_some_iff.1 hu).1
            have := hset (j - n * i.size) u hu (arr_lt (hin _ hjl))
            rw [show o + n * i.size + (j - n * i.size) = o + j by omega] at this
            exact this
        · exact (World.keptBut_setCells g (may := fun _ => True) news (o + n * i.size) w (fun _ _ => trivial)).1
        · exact tape_setCells _ _ _ _
        · exact (World.keptBut_setCells g (may := fun _ => True) news (o + n * i.size) w (fun _ _ => trivial)).2.1
        · exact Nat.le_of_eq (size_setCells' _ _ _ _).symm
        · exact (World.keptBut_setCells g (may := fun p => p.block = g) news (o + n * i.size) w (fun _ _ => rfl)).block hk (fun _ hp e => hn (by rw [← e.trans rfl, hp]; simp [Value.ownBlock]))
      · have hrun := run_append_grow (P := P) w t ty e i z ht hi hz ⟨g, o, none⟩ n cap xs hown.1 (fun j u hu => by rw [hadd, Blk.cell (t := e) hg]; exact hcell j u hu) ad m c news hr.1 hcells (by omega) (by omega) (growslice_fits (by omega) hbytes)
        have hge := grownCap_ge w (n + m) cap e
        have hcm' : grownCap w (n + m) cap e ≤ maxLen := grownCap_le_maxLen w (n + m) cap e h63
        have hlen : (xs ++ news).length = (n + m) * i.size := by rw [List.length_append, hown.1, hr.1, Nat.add_mul]
        refine ⟨_, _, hrun, OwnO.of ⟨hlen, .inr ⟨w.heap.size, _, _, rfl, hbase, heap_alloc_new w.drew _, hge, hcm', ?_, ?_⟩⟩, ⟨rfl, rfl, rfl, by simp, fun k hk _ => Below.heap_alloc w.drew _ k hk⟩, .inr rfl⟩
        · simp only [Array.size_append, List.size_toArray, size_zeroCells, hzs, hown.1, hr.1, ← Nat.add_mul]
          congr 1
          omega
        · simp only [Array.toList_append, List.append_assoc]
          rw [← List.append_assoc, ← hlen]
          exact List.take_left
theorem wp_append_o {o : Oper} {a : Act} {K : Act → World → Prop} {Q : Exit → Act → World → Prop} (s x : Operand) (t : TypeId)
    (ho : o.op = .call { callee := .builtin .append, args := #[s, x], argTypes := #[t, t] })
    (base : Nat) (e : TypeId) (i : TypeInfo) (z : Value) (size bytes : Nat) (ht : P.underlying t = some (.slice e)) (hi : P.info? e = some i) (hz : i.zero = some z)
    (hsize : i.size = size) (hby : i.bytes = bytes) (hzs : z.cells.size = size) (hsz : 0 < size)
    (v : Value) (n : Nat) (xs : List Value) (hs : a.eval s = v) (hown : OwnO w base e size v n xs)
    (B : Nat) (A : Option Addr) (m c : Nat) (news : List Value) (hx : a.eval x = .slice A m c) (hr : Reads w B size A m news) (h1 : ∀ u ∈ news, u.oneCell' = true)
    (h63 : n + m ≤ maxLen) (hbytes : (n + m) * bytes ≤ 140737488355328) (hbase : base ≤ w.heap.size)
    (h : ∀ v' w', OwnO w' base e size v' (n + m) (xs ++ news) → w.grownBy w' v.ownBlock → (v'.ownBlock = v.ownBlock ∨ v'.ownBlock = some w.heap.size) → K (a.put o.dst v') w') : o.wp P a w K Q := by
  obtain ⟨v', w', hrun, h2, h3, h4⟩ := run_append_o (P := P) w base t o.type e i z size bytes ht hi hz hsize hby hzs hsz v n xs hown B A m c news hr h1 h63 hbytes hbase
  unfold Oper.wp execOp
  simp only [ho, resolve, invoke, builtin, Sem.run_bind, Sem.run_pure, Result.andThen_ok, List.map_toArray, List.map_cons, List.map_nil, hs, hx, hrun]
  exact h v' w' h2 h3 h4
theorem wpList_append_o {ops : Array Oper} {rest : List Oper} {o : Oper} {a : Act} {Q : Exit → Act → World → Prop} (hgd : o.guard = none) (s x : Operand) (t : TypeId)
    (ho : o.op = .call { callee := .builtin .append, args := #[s, x], argTypes := #[t, t] })
    (base : Nat) (e : TypeId) (i : TypeInfo) (z : Value) (size bytes : Nat) (ht : P.underlying t = some (.slice e)) (hi : P.info? e = some i) (hz : i.zero = some z)
    (hsize : i.size = size) (hby : i.bytes = bytes) (hzs : z.cells.size = size) (hsz : 0 < size)
    (v : Value) (n : Nat) (xs : List Value) (hs : a.eval s = v) (hown : OwnO w base e size v n xs)
    (B : Nat) (A : Option Addr) (m c : Nat) (news : List Value) (hx : a.eval x = .slice A m c) (hr : Reads w B size A m news) (h1 : ∀ u ∈ news, u.oneCell' = true)
    (h63 : n + m ≤ maxLen) (hbytes : (n + m) * bytes ≤ 140737488355328) (hbase : base ≤ w.heap.size)
    (h : ∀ v' w', OwnO w' base e size v' (n + m) (xs ++ news) → w.grownBy w' v.ownBlock → (v'.ownBlock = v.ownBlock ∨ v'.ownBlock = some w.heap.size) → wpList P ops Q rest (a.put o.dst v') w') : wpList P ops Q (o :: rest) a w :=
  wpList_plain hgd fun _ hK => wp_append_o w s x t ho base e i z size bytes ht hi hz hsize hby hzs hsz v n xs hs hown B A m c news hx hr h1 h63 hbytes hbase fun v' w' h2 h3 h4 => hK _ _ (h v' w' h2 h3 h4)
theorem step_append_o {ops : Array Oper} {o : Oper} {a : Act} {K : Act → World → Prop} {Q : Exit → Act → World → Prop} {E : Prop} (hgd : o.guard = none) (s x : Operand) (t : TypeId)
    (ho : o.op = .call { callee := .builtin .append, args := #[s, x], argTypes := #[t, t] })
    (base : Nat) (e : TypeId) (i : TypeInfo) (z : Value) (size bytes : Nat) (ht : P.underlying t = some (.slice e)) (hi : P.info? e = some i) (hz : i.zero = some z)
    (hsize : i.size = size) (hby : i.bytes = bytes) (hzs : z.cells.size = size) (hsz : 0 < size)
    (v : Value) (n : Nat) (xs : List Value) (hs : a.eval s = v) (hown : OwnO w base e size v n xs)
    (B : Nat) (A : Option Addr) (m c : Nat) (news : List Value) (hx : a.eval x = .slice A m c) (hr : Reads w B size A m news) (h1 : ∀ u ∈ news, u.oneCell' = true)
    (h63 : n + m ≤ maxLen) (hbytes : (n + m) * bytes ≤ 140737488355328) (hbase : base ≤ w.heap.size)
    (h : ∀ v' w', OwnO w' base e size v' (n + m) (xs ++ news) → w.grownBy w' v.ownBlock → (v'.ownBlock = v.ownBlock ∨ v'.ownBlock = some w.heap.size) → K (a.put o.dst v') w') :
    if Region.wanted o (yielded ops a.tmps) = true then Oper.wp P o a w K Q else E := by
  have hw : Region.wanted o (yielded ops a.tmps) = true := by simp [Region.wanted, hgd]
  rw [if_pos hw]
  exact wp_append_o w s x t ho base e i z size bytes ht hi hz hsize hby hzs hsz v n xs hs hown B A m c news hx hr h1 h63 hbytes hbase h
end
/-- a row whose elements own a slice, beginning anywhere in its block -/
structure RowO {α : Type} (K : Kd α) (base : Nat) (w : World) (v : Value) (l : List (QX α)) : Prop where
  row : OwnO w base K.t K.size v l.length (K.flat l)
  els : ∀ q ∈ l, w.ownsRow base K.et K.es (K.val q) (K.n q.1) (K.xs q.1)
section
variable {α : Type} {K : Kd α} {base base' : Nat} {w w' w2 : World} {v v' v2 : Value} {l l2 : List (QX α)} {q : QX α} {F : Nat → Prop}
theorem RowO.of (h : RowK K base w v l) : RowO K base w v l := ⟨OwnO.of h.row, h.els⟩
theorem RowO.nil (K : Kd α) (base : Nat) (w : World) : RowO K base w (.slice none 0 0) [] := RowO.of (RowK.nil K base w)
theorem RowO.lt (h : RowO K base w v l) {k : Nat} (hk : v.ownBlock = some k ∨ K.inB l k) : base ≤ k ∧ k < w.heap.size := by
  rcases hk with hk | ⟨q, hq, hk⟩
  · exact h.row.lt k hk
  · exact World.ownsRow.lt (h.els q hq) k hk
theorem RowO.keep (h : RowO K base w v l) (hk : ∀ k, (v.ownBlock = some k ∨ K.inB l k) → w'.heap[k]? = w.heap[k]?) : RowO K base w' v l :=
  ⟨h.row.same fun k e => hk k (.inl e), fun q hq => own_same (h.els q hq) fun k e => hk k (.inr ⟨q, hq, e⟩)⟩
theorem RowO.chg (h : RowO K base w v l) (hc : Chg F w w') (hn : ∀ k, (v.ownBlock = some k ∨ K.inB l k) → ¬ F k) : RowO K base w' v l := h.keep fun k hk => hc.block k (h.lt hk).2 (hn k hk)
theorem RowO.below (h : RowO K base w v l) (hb : Below w.heap.size w w') : RowO K base w' v l := h.keep fun k hk => hb.block k (h.lt hk).2
theorem RowO.rebase (h : RowO K base w v l) (hb : base' ≤ base) : RowO K base' w v l := ⟨h.row.base_ hb, fun q hq => own_base (h.els q hq) hb⟩
theorem RowO.form (h : RowO K base w v l) : ∃ A c, v = .slice A l.length c ∧ l.length ≤ c ∧ c ≤ maxLen := h.row.form
theorem RowO.append (h : RowO K base w v l) (h2 : ∀ q ∈ l2, w.ownsRow base K.et K.es (K.val q) (K.n q.1) (K.xs q.1)) (hne : K.t ≠ K.et) (hr : OwnO w' base K.t K.size v' (l.length + l2.length) (K.flat l ++ K.flat l2)) (hg : w.grownBy w' v.ownBlock) : RowO K base w' v' (l ++ l2) := by
  have keep : ∀ x : QX α, w.ownsRow base K.et K.es (K.val x) (K.n x.1) (K.xs x.1) → w'.ownsRow base K.et K.es (K.val x) (K.n x.1) (K.xs x.1) := fun x hx =>
    own_same hx fun k hk => hg.block k (World.ownsRow.lt hx k hk).2 fun e => by
      rcases h.row.2 with ⟨rfl, _⟩ | ⟨g, o, cap, cur, rfl, _, hb, _⟩
      · simp [Value.ownBlock] at e
      · have : k = g := by simpa [Value.ownBlock] using e
        exact own_blk_ne hx hb (Ne.symm hne) (by rw [hk, this])
  refine ⟨by simpa [Kd.flat] using hr, fun x hx => ?_⟩
  rcases List.mem_append.1 hx with e | e
  · exact keep x (h.els x e)
  · exact keep x (h2 x e)
end
end Go.Proofs.Ytjhkfpemcplaaaa
