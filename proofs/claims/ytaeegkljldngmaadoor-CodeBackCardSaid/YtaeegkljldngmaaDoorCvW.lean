/-
  For the verifier's walk f39. No statement of the seat is proved here.
-/
import Derived.Test.YtaeegkljldngmaaDoorCvK
namespace Go.Proofs.YtaeegkljldngmaaDoor
open Go.RowKit

structure WalkOk (l : List Ins) (st : List Nat) : Prop where
  nodup : st.Nodup
  ne : 0 < st.length
  le : st.length ≤ 32768
  lt : ∀ k, k < st.length → st.getD k 0 < l.length
  nxt : ∀ k, k < st.length → (ent (insD l (st.getD k 0)).op).ends = false → k + 1 < st.length
  jmp : ∀ k, k < st.length → isJ (insD l (st.getD k 0)).op = true → ∃ j, j < st.length ∧ st.getD j 0 = goalO l (st.getD k 0)
theorem info4 : (Tryd.prog.info? 4).map (fun i => (i.zero, i.size, i.bytes)) = some (some (.bool false), 1, 1) := by kernel_rfl
def rankT (st : List Nat) (k : Nat) : List (Int × Value) := (List.range k).map fun j => (((st.getD j 0 : Nat) : Int), .int .i64 (j : Int))
theorem rankT_succ (st : List Nat) (k : Nat) : rankT st (k + 1) = rankT st k ++ [(((st.getD k 0 : Nat) : Int), .int .i64 (k : Int))] := by simp [rankT, List.range_succ]
theorem rankT_new {st : List Nat} (hn : st.Nodup) {k : Nat} (hk : k < st.length) : getI (rankT st k) ((st.getD k 0 : Nat) : Int) = none := by
  cases h : getI (rankT st k) ((st.getD k 0 : Nat) : Int) with
  | none => rfl
  | some v =>
    obtain ⟨p, hp, h1, _⟩ := getI_some h
    simp only [rankT, List.mem_map, List.mem_range] at hp
    obtain ⟨j, hj, rfl⟩ := hp
    dsimp only at h1
    have e : st.getD j 0 = st.getD k 0 := by omega
    rw [List.getD_eq_getElem?_getD, List.getD_eq_getElem?_getD, List.getElem?_eq_getElem (by omega), List.getElem?_eq_getElem hk] at e
    exact absurd e (List.pairwise_iff_getElem.1 hn j k (by omega) hk hj)
/-- the walk's own variables, ahead of its first round -/
structure Wk0 (base : Nat) (K : VK) (A : WA) (D : VD) (n : Nat) (f : List (Int × Value)) (W0 W : World) : Prop where
  vm : VM base K D W
  x2 : Blk W A.b2 78 #[.pointer (some ⟨K.g, 0, none⟩)]
  x3 : Blk W A.b3 86 #[.pointer (some ⟨A.rb, A.q * 6, none⟩)]
  x4 : Blk W A.b4 106 #[A.wv]
  x5 : Blk W A.b5 79 #[.map (some A.mr)]
  wt : W.ownsRow base 4 1 A.wv n (List.replicate n (.bool false))
  rk : MapI .i64 W A.mr f
  ne : A.mr ≠ K.mb
  old : Below base W0 W
  lv : ∀ k, VB K D k → k ≠ A.mr
  gm : base ≤ A.mr
theorem Wk0.put {base : Nat} {K : VK} {A : WA} {D : VD} {n : Nat} {f : List (Int × Value)} {W0 W : World} (h : Wk0 base K A D n f W0 W) (z : Int) (v : Value) : Wk0 base K A D n (f ++ [(z, v)]) W0 (mapPut W .i64 A.mr f z v) := by
  have keep : ∀ k, k ≠ A.mr → (mapPut W .i64 A.mr f z v).heap[k]? = W.heap[k]? := fun k hk => h.rk.put_far z v hk
  refine ⟨h.vm.keep (fun k hk => keep k (h.lv k hk)) fun p hp => World.cell?_of_block (keep p.block (by have := h.gm; omega)), (keep _ (map_blk_ne h.rk h.x2)).trans h.x2, (keep _ (map_blk_ne h.rk h.x3)).trans h.x3, (keep _ (map_blk_ne h.rk h.x4)).trans h.x4, (keep _ (map_blk_ne h.rk h.x5)).trans h.x5, own_same h.wt fun k hk => keep k fun e => map_own_ne h.rk h.wt (by rw [hk, e]), h.rk.put z v, h.ne, ?_, h.lv, h.gm⟩
  exact h.old.trans ⟨rfl, rfl, rfl, by rw [mapPut_size]; exact Nat.le_refl _, fun i hi => keep i (by have := h.gm; omega)⟩
def waOf (hs n rb rc q : Nat) : WA := ⟨hs, hs + 1, hs + 1 + 1 + 1, hs + 1 + 1 + 1 + 1 + 1, hs + 1 + 1 + 1 + 1, .slice (some ⟨hs + 1 + 1, 0, none⟩) n n, rb, rc, q⟩
theorem wk0_start {base : Nat} {K : VK} {D : VD} {W : World} (h : VM base K D W) (hB : base ≤ W.heap.size) (n rb rc q : Nat) (hn : n ≤ 32768) :
    Wk0 base K (waOf W.heap.size n rb rc q) D n [] W ((((((W.alloc (.cells #[.pointer (some ⟨K.g, 0, none⟩)] 78)).alloc (.cells #[.pointer (some ⟨rb, q * 6, none⟩)] 86)).alloc (.cells (madeCells (Value.bool false).cells (n * 1)) 4)).alloc (.cells #[.slice (some ⟨W.heap.size + 1 + 1, 0, none⟩) n n] 106)).alloc (.map #[] 0)).alloc (.cells #[.map (some (W.heap.size + 1 + 1 + 1 + 1))] 79)) := by
  have v1 := h.alloc hB (.cells #[.pointer (some ⟨K.g, 0, none⟩)] 78)
  have v2 := v1.alloc (by simp; omega) (.cells #[.pointer (some ⟨rb, q * 6, none⟩)] 86)
  have v3 := v2.alloc (by simp; omega) (.cells (madeCells (Value.bool false).cells (n * 1)) 4)
  have v4 := v3.alloc (by simp; omega) (.cells #[.slice (some ⟨W.heap.size + 1 + 1, 0, none⟩) n n] 106)
  have v5 := v4.alloc (by simp; omega) (.map #[] 0)
  have v6 := v5.alloc (by simp; omega) (.cells #[.map (some (W.heap.size + 1 + 1 + 1 + 1))] 79)
  have ow := World.ownsRow_lit (base := base) (e := 4) (size := 1) ((W.alloc (.cells #[.pointer (some ⟨K.g, 0, none⟩)] 78)).alloc (.cells #[.pointer (some ⟨rb, q * 6, none⟩)] 86)) (madeCells (Value.bool false).cells (n * 1)) n (by simp; omega) (by simp only [maxLen]; omega) (by simp [madeCells])
  have om : (madeCells (Value.bool false).cells (n * 1)).toList = List.replicate n (.bool false) := by
    rw [Nat.mul_one]
    exact toList_madeCells_one _ _
  rw [om] at ow
  have hz : ∀ (w : World) (o : Obj), (w.alloc o).heap.size = w.heap.size + 1 := fun w o => (size_new w o).symm
  simp only [hz] at ow
  refine ⟨v6, ((((Blk.new W 78 _).alloc _).alloc _).alloc _).alloc _ |>.alloc _, ((((Blk.new' _ 86 _ _ (by simp [waOf])).alloc _).alloc _).alloc _).alloc _, (((Blk.new' _ 106 _ _ (by simp [waOf]))).alloc _).alloc _, Blk.new' _ 79 _ _ (by simp [waOf]), ((ow.alloc _).alloc _).alloc _, ?_, ?_, ?_, ?_, ?_⟩
  · have h5 := MapI.made ((((W.alloc (.cells #[.pointer (some ⟨K.g, 0, none⟩)] 78)).alloc (.cells #[.pointer (some ⟨rb, q * 6, none⟩)] 86)).alloc (.cells (madeCells (Value.bool false).cells (n * 1)) 4)).alloc (.cells #[.slice (some ⟨W.heap.size + 1 + 1, 0, none⟩) n n] 106)) .i64
    simp only [hz] at h5
    exact h5.keep (Below.heap_alloc _ _ _ (by simp))
  · intro e
    have := h.mp.lt
    simp only [waOf] at e
    omega
  · exact (((((((Below.refl base W).alloc hB _).alloc (by simp; omega) _).alloc (by simp; omega) _).alloc (by simp; omega) _).alloc (by simp; omega) _).alloc (by simp; omega) _)
  · intro k hk e
    have := (h.lt hk).2
    simp only [waOf] at e
    omega
  · simp only [waOf]
    omega
theorem idx_none : ∀ {l : List Bool}, (∀ j, j < l.length → l.getD j false = false) → l.idxOf? true = none
  | [], _ => rfl
  | x :: l, h => by
    have h0 : x = false := h 0 (by simp)
    have h1 := idx_none (l := l) fun j hj => h (j + 1) (by simpa using hj)
    rw [List.idxOf?_cons, h0, h1]
    rfl
theorem idx_some : ∀ {l : List Bool} {k : Nat}, l.getD k false = true → (∀ j, j < k → l.getD j false = false) → l.idxOf? true = some k
  | [], k, h, _ => by simp at h
  | x :: l, 0, h, _ => by
    have h0 : x = true := h
    rw [List.idxOf?_cons, h0]
    rfl
  | x :: l, k + 1, h, hf => by
    have h0 : x = false := hf 0 (by omega)
    have h1 := idx_some (l := l) (k := k) h fun j hj => hf (j + 1) (by omega)
    rw [List.idxOf?_cons, h0, h1]
    rfl
theorem idx_get : ∀ {l : List Bool} {k : Nat}, l.idxOf? true = some k → l.getD k false = true ∧ k < l.length
  | [], k, h => by cases h
  | x :: l, k, h => by
    rw [List.idxOf?_cons] at h
    cases x with
    | true =>
      simp at h
      subst h
      simp
    | false =>
      cases k with
      | zero => simp at h
      | succ k =>
        have h1 : l.idxOf? true = some k := by simpa using h
        have := idx_get h1
        exact ⟨this.1, by simpa using this.2⟩
theorem idx_zero {l : List Bool} (h : cntT l = 0) : l.idxOf? true = none := idx_none fun j hj => by
  cases hb : l.getD j false with
  | false => rfl
  | true =>
    have := cntT_lt l j hb
    omega
theorem putO_pos {x : Ins} (h : x.Ok) : 0 ≤ putO x ∧ putO x ≤ 2 := by
  unfold putO
  split
  · omega
  · split
    · omega
    · have e : ∀ k : Fin 26, 0 ≤ (ent k.1).put ∧ (ent k.1).put ≤ 2 := by decide
      have := e ⟨x.op.toNat, by have := h.op; omega⟩
      rw [show ((x.op.toNat : Nat) : Int) = x.op by have := h.op; omega] at this
      exact this
theorem wkF_fuel {l : List Ins} {st : List Nat} (hl : ∀ x ∈ l, x.Ok) (hw : WalkOk l st) : ∀ (f g : Nat) (W : Wk), W.dp.length = l.length → W.wt.length = st.length → wkM W ≤ f → wkM W ≤ g → wkF l st f W = wkF l st g W := by
  have none_ : ∀ (g : Nat) (W : Wk), W.wt.idxOf? true = none → wkF l st g W = W := fun g W h => by
    cases g with
    | zero => rfl
    | succ g => unfold wkF; rw [h]
  intro f
  induction f with
  | zero =>
    intro g W hd ht h0 hg
    have hc : cntT W.wt = 0 := by have := wkM_eq W; omega
    rw [none_ 0 W (idx_zero hc), none_ g W (idx_zero hc)]
  | succ f ih =>
    intro g W hd ht hf hg
    cases hx : W.wt.idxOf? true with
    | none => rw [none_ _ W hx, none_ g W hx]
    | some k =>
      obtain ⟨h1, h2⟩ := idx_get hx
      have hk : k < st.length := by omega
      have hlt := wkStep_lt l st k W h1 (putO_pos (hl _ (insD_mem (hw.lt k hk)))).1 (fun he => by rw [hd]; exact hw.lt _ (hw.nxt k hk he)) (fun hj => by
        obtain ⟨j, hj1, hj2⟩ := hw.jmp k hk hj
        rw [hd, ← hj2]
        exact hw.lt j hj1)
      cases g with
      | zero => omega
      | succ g =>
        unfold wkF
        rw [hx]
        exact ih g _ (by rw [(wkStep_len l st k W).1]; exact hd) (by rw [(wkStep_len l st k W).2]; exact ht) (by omega) (by omega)
/-- every depth is -1 (none as yet) or one that the stack bears -/
def DpOk (l : List Int) : Prop := ∀ i, -1 ≤ l.getD i 0 ∧ l.getD i 0 ≤ 127
theorem DpOk.set {l : List Int} (h : DpOk l) (i : Nat) {d : Int} (h1 : -1 ≤ d) (h2 : d ≤ 127) : DpOk (l.set i d) := fun j => by
  have hj := h j
  rw [List.getD_eq_getElem?_getD] at hj ⊢
  rw [List.getElem?_set]
  split
  · split
    · exact ⟨h1, h2⟩
    · simp
  · exact hj
theorem putW_ok {l : List Ins} {i k : Nat} {d : Int} {W : Wk} (h : DpOk W.dp) (h1 : -1 ≤ d) (h2 : d ≤ 127) : DpOk (putW l i k d W).dp := by
  unfold putW
  dsimp only
  split
  · exact h.set i h1 h2
  · split <;> exact h
theorem wkStep_ok {l : List Ins} {st : List Nat} {k : Nat} {W : Wk} (h : DpOk W.dp) (hp : 0 ≤ putO (insD l (st.getD k 0))) : DpOk (wkStep l st k W).dp := by
  unfold wkStep
  dsimp only
  by_cases hb : W.dp.getD (st.getD k 0) 0 < takeO (insD l (st.getD k 0)) ∨ 127 < W.dp.getD (st.getD k 0) 0 - takeO (insD l (st.getD k 0)) + putO (insD l (st.getD k 0))
  · rw [if_pos hb]
    exact h
  · rw [if_neg hb]
    have h1 : -1 ≤ W.dp.getD (st.getD k 0) 0 - takeO (insD l (st.getD k 0)) + putO (insD l (st.getD k 0)) := by omega
    have h2 : W.dp.getD (st.getD k 0) 0 - takeO (insD l (st.getD k 0)) + putO (insD l (st.getD k 0)) ≤ 127 := by omega
    generalize W.dp.getD (st.getD k 0) 0 - takeO (insD l (st.getD k 0)) + putO (insD l (st.getD k 0)) = d at *
    have key : ∀ W1 : Wk, DpOk W1.dp → DpOk (if isJ (insD l (st.getD k 0)).op = true then putW l (goalO l (st.getD k 0)) (st.idxOf (goalO l (st.getD k 0))) d W1 else W1).dp := fun W1 hw => by
      split
      · exact putW_ok hw h1 h2
      · exact hw
    refine key _ ?_
    split
    · exact h
    · exact putW_ok (W := ⟨W.dp, W.wt.set k false, max W.most d, W.fault⟩) h h1 h2
/-- a round of the walk -/
theorem wkF_round {l : List Ins} {st : List Nat} (hl : ∀ x ∈ l, x.Ok) (hw : WalkOk l st) {S R : Wk} {k : Nat} (hx : S.wt.idxOf? true = some k) (hd : S.dp.length = l.length) (ht : S.wt.length = st.length) (ho : DpOk S.dp) (h : wkF l st (wkM S) S = R) :
    wkM (wkStep l st k S) < wkM S ∧ wkF l st (wkM (wkStep l st k S)) (wkStep l st k S) = R ∧ (wkStep l st k S).wt.length = st.length ∧ (wkStep l st k S).dp.length = l.length ∧ DpOk (wkStep l st k S).dp := by
  obtain ⟨h1, h2⟩ := idx_get hx
  have hk : k < st.length := by omega
  have hp := (putO_pos (hl _ (insD_mem (hw.lt k hk)))).1
  have hlt := wkStep_lt l st k S h1 hp (fun he => by rw [hd]; exact hw.lt _ (hw.nxt k hk he)) (fun hj => by
    obtain ⟨j, hj1, hj2⟩ := hw.jmp k hk hj
    rw [hd, ← hj2]
    exact hw.lt j hj1)
  have hlen := wkStep_len l st k S
  refine ⟨hlt, ?_, by rw [hlen.2, ht], by rw [hlen.1, hd], wkStep_ok ho hp⟩
  cases hm : wkM S with
  | zero => omega
  | succ f =>
    rw [hm] at h
    unfold wkF at h
    rw [hx] at h
    dsimp only at h
    rw [← h]
    exact wkF_fuel hl hw _ _ _ (by rw [hlen.1, hd]) (by rw [hlen.2, ht]) (Nat.le_refl _) (by omega)
theorem takeO_le {x : Ins} (h : x.Ok) : 0 ≤ takeO x ∧ takeO x ≤ 300 := by
  have ha := h.a
  have hb := h.b
  unfold takeO
  split
  · omega
  · split
    · omega
    · have e : ∀ k : Fin 26, 0 ≤ (ent k.1).take ∧ (ent k.1).take ≤ 2 := by decide
      have := e ⟨x.op.toNat, by have := h.op; omega⟩
      rw [show ((x.op.toNat : Nat) : Int) = x.op by have := h.op; omega] at this
      omega
/-- the walk's state, and an instruction in a block of its own -/
structure WB (base : Nat) (K : VK) (A : WA) (st : List Nat) (W0 : World) (bx : Nat) (cs : Array Value) (D : VD) (S : Wk) (W : World) : Prop where
  m : WkM base K A st D S W
  box : Blk W bx 34 cs
  old : Below base W0 W
  ne : K.lv.ownBlock ≠ some bx
  hB : base ≤ W0.heap.size
section
variable {base : Nat} {K : VK} {A : WA} {st : List Nat} {W0 W W' : World} {bx : Nat} {cs : Array Value} {D D' : VD} {S S' : Wk}
theorem WB.le (h : WB base K A st W0 bx cs D S W) : base ≤ W.heap.size := Nat.le_trans h.hB h.old.size
theorem WB.not (h : WB base K A st W0 bx cs D S W) : ¬ (VB K D bx ∨ A.wv.ownBlock = some bx) := by
  rintro ((e | e | e | e | ⟨v, hv, e⟩) | e)
  · exact Blk.ne_ h.box h.m.vm.blk (by decide) e
  · exact map_blk_ne h.m.vm.mp h.box e
  · exact h.ne e
  · exact own_blk_ne h.m.vm.rgs h.box (by decide) e
  · obtain ⟨n, xs, ho⟩ := h.m.vm.row hv
    exact own_blk_ne ho h.box (by decide) e
  · exact own_blk_ne h.m.wt h.box (by decide) e
theorem WB.below (h : WB base K A st W0 bx cs D S W) (hb : Below W.heap.size W W') : WB base K A st W0 bx cs D S W' :=
  ⟨h.m.below hb h.le, h.box.below hb h.box.lt, h.old.trans (hb.mono h.le), h.ne, h.hB⟩
theorem WB.put (h : WB base K A st W0 bx cs D S W) (hm : WkM base K A st D' S' W') (hb : Below base W W') (hc : Chg (fun j => VB K D j ∨ A.wv.ownBlock = some j) W W') : WB base K A st W0 bx cs D' S' W' :=
  ⟨hm, hc.blk h.box h.not, h.old.trans hb, h.ne, h.hB⟩
end
/-- what stays of the verifier while a region is walked -/
def SameD (D0 : VD) (q : Nat) (D : VD) (m : Int) : Prop := D.rv = D0.rv ∧ D.sv = D0.sv ∧ D.ov = D0.ov ∧ D.of = D0.of ∧ D.bv = D0.bv ∧ D.body = D0.body ∧ D.rs = setMost D0.rs q m ∧ D.dv = D0.dv
theorem putW_most (l : List Ins) (i k : Nat) (d : Int) (W : Wk) : (putW l i k d W).most = max W.most d := by
  unfold putW
  dsimp only
  split
  · rfl
  · split <;> rfl
theorem idx_of {st : List Nat} {g : Nat} (h : ∃ j, j < st.length ∧ st.getD j 0 = g) : st.idxOf g < st.length ∧ st.getD (st.idxOf g) 0 = g := by
  obtain ⟨j, hj, e⟩ := h
  rw [List.getD_eq_getElem?_getD, List.getElem?_eq_getElem hj] at e
  have hm : g ∈ st := by
    rw [← e]
    exact List.getElem_mem hj
  have hl := List.idxOf_lt_length_of_mem hm
  refine ⟨hl, ?_⟩
  rw [List.getD_eq_getElem?_getD, List.getElem?_eq_getElem hl]
  simp
theorem SameD.scell {base : Nat} {K : VK} {D0 D : VD} {q : Nat} {m : Int} {W : World} {st : List Nat} {sb sc : Nat} (h : SameD D0 q D m) (hv : VM base K D W) (hq : q < D0.rs.length) (hst : (rgAt D0.rs q).steps = st) (hsv : D0.sv.getD q (.slice none 0 0) = .slice (some ⟨sb, 0, none⟩) st.length sc) {k : Nat} (hk : k < st.length) :
    W.cell? ⟨sb, k, none⟩ = some (.int .i64 ((st.getD k 0 : Nat) : Int)) := by
  obtain ⟨e1, e2, e3, e4, e5, e6, e7, e8⟩ := h
  have h1 := hv.scell (r := q) (b := sb) (c := sc) (by rw [e7]; simpa [setMost] using hq) (by rw [e2, e7]; unfold setMost; rw [rgAt_set hq, if_pos rfl]; dsimp only; rw [hst]; exact hsv) (i := k) (by rw [e7]; unfold setMost; rw [rgAt_set hq, if_pos rfl]; dsimp only; rw [hst]; exact hk)
  have h2 := h1.1
  rw [e7] at h2
  unfold setMost at h2
  rw [rgAt_set hq, if_pos rfl] at h2
  dsimp only at h2
  rw [hst] at h2
  exact h2
theorem setMost_setMost (rs : List Rg) (q : Nat) (a b : Int) (hq : q < rs.length) : setMost (setMost rs q a) q b = setMost rs q b := by
  unfold setMost
  rw [rgAt_set hq, if_pos rfl]
  simp
theorem SameD.most {D0 D D' : VD} {q : Nat} {m : Int} (h : SameD D0 q D m) (hq : q < D0.rs.length) (m' : Int) (h1 : D'.rv = D.rv) (h2 : D'.sv = D.sv) (h3 : D'.ov = D.ov) (h4 : D'.of = D.of) (h5 : D'.bv = D.bv) (h6 : D'.body = D.body) (h7 : D'.rs = setMost D.rs q m') (h8 : D'.dv = D.dv) : SameD D0 q D' m' :=
  ⟨h1.trans h.1, h2.trans h.2.1, h3.trans h.2.2.1, h4.trans h.2.2.2.1, h5.trans h.2.2.2.2.1, h6.trans h.2.2.2.2.2.1, by rw [h7, h.2.2.2.2.2.2.1, setMost_setMost _ _ _ _ hq], h8.trans h.2.2.2.2.2.2.2⟩
end Go.Proofs.YtaeegkljldngmaaDoor
