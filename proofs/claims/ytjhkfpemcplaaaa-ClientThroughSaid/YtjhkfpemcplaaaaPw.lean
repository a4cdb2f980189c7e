/-
  Merged: Words, Enc, Dec, Counts, Part, Cnt, Small, Crc, Sum, Pack.
-/
import Derived.WalkKit
import Derived.Below
import Derived.Laws.OwnMore
import Derived.Deep.AppendLies
import Derived.Deep.Draws
import Derived.Laws.Rows
import Derived.Maps.AppendAt
import Derived.RegionTactic
import Derived.OwnWalk
import Derived.LaidEqlPtr
import Derived.Laws.MakeOwn
import Derived.Laws.BitsAllLaws
import Derived.Laws.BitsLemmas
import Derived.ChangeSame
import Derived.Deep.OwnRows
import Derived.Lib.Hide
import Derived.Laws.BytesArg
import Derived.Test.YtjhkfpemcplaaaaChecked
import Derived.Outline
import Derived.WalkLawsBesides
import Derived.Deep.DeepMust
import Derived.BigQuiet
import Derived.Deep.QuietTactic
import Derived.Deep.RegionHeld3
import Derived.Deep.DeepCutAuto
namespace Go.Proofs.Ytjhkfpemcplaaaa
open Go.RowKit
theorem block_of_add (a : Addr) (n : Nat) : (a.add n).block = a.block := by unfold Addr.add; split <;> rfl
theorem add_of_add (a : Addr) (i j : Nat) : (a.add i).add j = a.add (i + j) := by
  unfold Addr.add
  by_cases hi : i = 0 <;> by_cases hj : j = 0 <;> simp [hi, hj, Nat.add_assoc]

def Reads (w : World) (B size : Nat) (A : Option Addr) (n : Nat) (xs : List Value) : Prop :=
  xs.length = n * size ∧ (0 < n → ∃ ad, A = some ad ∧ ad.block < B ∧ ∀ j u, xs[j]? = some u → w.cell? (ad.add j) = some u)

section
variable {w w' : World} {B B' size n : Nat} {A : Option Addr} {xs : List Value}
theorem Reads.none_ : Reads w B size A 0 [] := ⟨by simp, fun h => absurd h (by omega)⟩
theorem Reads.at_ {k : Nat} (h : Reads w B 1 A n xs) (hk : k < n) : ∃ ad u, A = some ad ∧ ad.block < B ∧ xs[k]? = some u ∧ w.cell? (ad.add k) = some u := by
  obtain ⟨ad, e, hb, hc⟩ := h.2 (by omega)
  have hl : k < xs.length := by have := h.1; omega
  exact ⟨ad, xs[k], e, hb, List.getElem?_eq_getElem hl, hc k _ (List.getElem?_eq_getElem hl)⟩
theorem Reads.keep (h : Reads w B size A n xs) (hk : ∀ p : Addr, p.block < B → w'.cell? p = w.cell? p) : Reads w' B size A n xs :=
  ⟨h.1, fun hn => by
    obtain ⟨ad, e, hb, hc⟩ := h.2 hn
    exact ⟨ad, e, hb, fun j u hu => (hk _ (by rw [block_of_add]; exact hb)).trans (hc j u hu)⟩⟩
theorem Reads.more (h : Reads w B size A n xs) (hB : B ≤ B') : Reads w B' size A n xs :=
  ⟨h.1, fun hn => by
    obtain ⟨ad, e, hb, hc⟩ := h.2 hn
    exact ⟨ad, e, by omega, hc⟩⟩
theorem Reads.below (h : Reads w B size A n xs) (hb : Below B w w') : Reads w' B size A n xs := h.keep fun _ hp => hb.cell hp
theorem Reads.drew (h : Reads w B size A n xs) : Reads w.drew B size A n xs := h
theorem Reads.drewN (h : Reads w B size A n xs) (k : Nat) : Reads (w.drewN k) B size A n xs := h
theorem Reads.alloc (h : Reads w B size A n xs) (hB : B ≤ w.heap.size) (o : Obj) : Reads (w.alloc o) B size A n xs := h.keep fun p hp => World.cell?_alloc_lt w o p (by omega)
theorem Reads.setCell (h : Reads w B size A n xs) {p : Addr} (hB : B ≤ p.block) (u : Value) : Reads (w.setCell p u) B size A n xs :=
  h.keep fun q hq => World.cell?_setCell_other w p q u (fun e => by subst e; omega)
theorem Reads.grown (h : Reads w B size A n xs) {row : Option Nat} (hg : w.grownBy w' row) (hB : B ≤ w.heap.size) (hr : ∀ g, row = some g → B ≤ g) : Reads w' B size A n xs :=
  h.keep fun p hp => World.cell?_of_block (hg.block p.block (by omega) (fun e => by have := hr _ e.symm; omega))
theorem Reads.cut (h : Reads w B size A n xs) {k cap : Nat} (hk : k ≤ n) (hc : n ≤ cap) :
    Reads w B size (if cap = k then A else A.map (·.add (k * size))) (n - k) (xs.drop (k * size)) := by
  refine ⟨by rw [List.length_drop, h.1, Nat.sub_mul], fun hn => ?_⟩
  obtain ⟨ad, rfl, hb, hcell⟩ := h.2 (by omega)
  rw [if_neg (by omega)]
  refine ⟨ad.add (k * size), rfl, by rw [block_of_add]; exact hb, fun j u hu => ?_⟩
  rw [add_of_add]
  exact hcell _ u (by rw [← hu, List.getElem?_drop])
theorem Reads.of_own {base : Nat} {e : TypeId} {c : Nat} (h : w.ownsRow base e size (.slice A n c) n xs) : Reads w w.heap.size size A n xs := by
  refine ⟨h.1, fun hn => ?_⟩
  obtain ⟨g, cap, hv, _, hlt⟩ := h.form hn
  have hA : A = some ⟨g, 0, none⟩ := by injection hv
  subst hA
  exact ⟨_, rfl, hlt, h.cells (g := g) rfl⟩
end

def Blk (w : World) (g : Nat) (t : TypeId) (cs : Array Value) : Prop := w.heap[g]? = some (.cells cs t (0, 0))

section
variable {w w' : World} {g : Nat} {t : TypeId} {cs : Array Value}
theorem Blk.lt (h : Blk w g t cs) : g < w.heap.size := by
  rcases Nat.lt_or_ge g w.heap.size with hlt | hge
  · exact hlt
  · unfold Blk at h; rw [Array.getElem?_eq_none hge] at h; cases h
theorem Blk.cell (h : Blk w g t cs) (i : Nat) : w.cell? ⟨g, i, none⟩ = cs[i]? := cell_of_row w g i cs t (0, 0) h
theorem Blk.frozen (h : Blk w g t cs) (i : Nat) : w.frozen? ⟨g, i, none⟩ = false := by
  unfold Blk at h
  simp [World.frozen?, h]
theorem Blk.new (w : World) (t : TypeId) (cs : Array Value) : Blk (w.alloc (.cells cs t)) w.heap.size t cs := heap_alloc_new w _
theorem Blk.drew (h : Blk w g t cs) : Blk w.drew g t cs := h
theorem Blk.drewN (h : Blk w g t cs) (n : Nat) : Blk (w.drewN n) g t cs := h
theorem Blk.alloc (h : Blk w g t cs) (o : Obj) : Blk (w.alloc o) g t cs := (Below.heap_alloc w o g h.lt).trans h
theorem Blk.set_ (h : Blk w g t cs) (i : Nat) (u : Value) : Blk (w.setCell ⟨g, i, none⟩ u) g t (cs.setIfInBounds i u) := by
  unfold Blk at h ⊢
  simp [World.setCell, Array.getElem?_modify, h]
theorem Blk.far (h : Blk w g t cs) {p : Addr} (hp : g ≠ p.block) (u : Value) : Blk (w.setCell p u) g t cs := (Below.heap_setCell w p u g hp).trans h
theorem Blk.below {B : Nat} (h : Blk w g t cs) (hb : Below B w w') (hg : g < B) : Blk w' g t cs := (hb.block g hg).trans h
theorem Blk.grown {row : Option Nat} (h : Blk w g t cs) (hb : w.grownBy w' row) (hg : some g ≠ row) : Blk w' g t cs := (hb.block g h.lt hg).trans h
theorem Blk.ne_ {g' : Nat} {t' : TypeId} {cs' : Array Value} (h : Blk w g t cs) (h' : Blk w g' t' cs') (hne : t ≠ t') : g ≠ g' := by
  rintro rfl
  unfold Blk at h h'
  rw [h] at h'
  injection h' with h'
  injection h' with _ ht
  exact hne ht
theorem own_blk_ne {base : Nat} {e : TypeId} {size n : Nat} {v : Value} {xs : List Value} (h : w.ownsRow base e size v n xs) (hg : Blk w g t cs) (hne : e ≠ t) : v.ownBlock ≠ some g := by
  rcases h.2 with ⟨rfl, _⟩ | ⟨g', cap, cur, rfl, _, hh, _⟩
  · simp [Value.ownBlock]
  · intro he
    have : g' = g := by simpa [Value.ownBlock] using he
    subst this
    exact Blk.ne_ (t := e) hh hg hne rfl
end

section
variable {P : Program} (w : World)

theorem run_append_of_nil (base : Nat) (t ty e : TypeId) (i : TypeInfo) (size : Nat) (ht : P.underlying t = some (.slice e)) (hi : P.info? e = some i)
    (v : Value) (n : Nat) (xs : List Value) (hown : w.ownsRow base e size v n xs) (c : Nat) : (Builtin.append_ #[t, t] ty #[v, .slice none 0 c]).run P w = .ok v w := by
  rcases hown.2 with ⟨rfl, rfl⟩ | ⟨g, cap, cur, rfl, _, _, hnc, _⟩
  · simp [Builtin.append_, run_underlying ht, sizeOf, typeInfo, hi, Builtin.lenOf, Builtin.firstCells]
  · simp [Builtin.append_, run_underlying ht, sizeOf, typeInfo, hi, Builtin.lenOf, Builtin.firstCells, hnc, storeCells]

theorem run_append_any (base : Nat) (t ty e : TypeId) (i : TypeInfo) (z : Value) (size bytes : Nat) (ht : P.underlying t = some (.slice e)) (hi : P.info? e = some i) (hz : i.zero = some z)
    (hsize : i.size = size) (hby : i.bytes = bytes) (hzs : z.cells.size = size) (hsz : 0 < size)
    (v : Value) (n : Nat) (xs : List Value) (hown : w.ownsRow base e size v n xs)
    (B : Nat) (A : Option Addr) (m c : Nat) (news : List Value) (hr : Reads w B size A m news) (h1 : ∀ u ∈ news, u.oneCell' = true)
    (h63 : n + m ≤ maxLen) (hbytes : (n + m) * bytes ≤ 140737488355328) (hbase : base ≤ w.heap.size) :
    ∃ v' w', (Builtin.append_ #[t, t] ty #[v, .slice A m c]).run P w = .ok v' w' ∧ w'.ownsRow base e size v' (n + m) (xs ++ news) ∧ w.grownBy w' v.ownBlock ∧
      (v'.ownBlock = v.ownBlock ∨ v'.ownBlock = some w.heap.size) := by
  rcases A with _ | ad
  · have hm : m = 0 := by
      rcases Nat.eq_zero_or_pos m with h0 | h0
      · exact h0
      · obtain ⟨ad, h, _⟩ := hr.2 h0
        cases h
    subst hm
    have hn : news = [] := List.eq_nil_of_length_eq_zero (by simpa using hr.1)
    subst hn
    exact ⟨v, w, run_append_of_nil w base t ty e i size ht hi v n xs hown c, by simpa using hown, World.grownBy.refl w _, .inl rfl⟩
  · have hcells : ∀ j u, news[j]? = some u → w.cell? (ad.add j) = some u := by
      intro j u hu
      rcases Nat.eq_zero_or_pos m with h0 | h0
      · subst h0
        have hn : news = [] := List.eq_nil_of_length_eq_zero (by simpa using hr.1)
        subst hn
        simp at hu
      · obtain ⟨ad', h, _, hc⟩ := hr.2 h0
        injection h with h
        subst h
        exact hc j u hu
    obtain ⟨v', w', hrun, h2, h3, _, h5⟩ := run_append_own_at (P := P) w base t ty e i z size bytes ht hi hz hsize hby hzs hsz v n xs hown ad m c news hr.1 hcells h1 h63 hbytes hbase
    exact ⟨v', w', hrun, h2, h3, h5⟩

theorem wp_append_any {o : Oper} {a : Act} {K : Act → World → Prop} {Q : Exit → Act → World → Prop} (s x : Operand) (t : TypeId)
    (ho : o.op = .call { callee := .builtin .append, args := #[s, x], argTypes := #[t, t] })
    (base : Nat) (e : TypeId) (i : TypeInfo) (z : Value) (size bytes : Nat) (ht : P.underlying t = some (.slice e)) (hi : P.info? e = some i) (hz : i.zero = some z)
    (hsize : i.size = size) (hby : i.bytes = bytes) (hzs : z.cells.size = size) (hsz : 0 < size)
    (v : Value) (n : Nat) (xs : List Value) (hs : a.eval s = v) (hown : w.ownsRow base e size v n xs)
    (B : Nat) (A : Option Addr) (m c : Nat) (news : List Value) (hx : a.eval x = .slice A m c) (hr : Reads w B size A m news) (h1 : ∀ u ∈ news, u.oneCell' = true)
    (h63 : n + m ≤ maxLen) (hbytes : (n + m) * bytes ≤ 140737488355328) (hbase : base ≤ w.heap.size)
    (h : ∀ v' w', w'.ownsRow base e size v' (n + m) (xs ++ news) → w.grownBy w' v.ownBlock → (v'.ownBlock = v.ownBlock ∨ v'.ownBlock = some w.heap.size) → K (a.put o.dst v') w') : o.wp P a w K Q := by
  obtain ⟨v', w', hrun, h2, h3, h4⟩ := run_append_any (P := P) w base t o.type e i z size bytes ht hi hz hsize hby hzs hsz v n xs hown B A m c news hr h1 h63 hbytes hbase
  unfold Oper.wp execOp
  simp only [ho, resolve, invoke, builtin, Sem.run_bind, Sem.run_pure, Result.andThen_ok, List.map_toArray, List.map_cons, List.map_nil, hs, hx, hrun]
  exact h v' w' h2 h3 h4

theorem wpList_append_any {ops : Array Oper} {rest : List Oper} {o : Oper} {a : Act} {Q : Exit → Act → World → Prop} (hgd : o.guard = none) (s x : Operand) (t : TypeId)
    (ho : o.op = .call { callee := .builtin .append, args := #[s, x], argTypes := #[t, t] })
    (base : Nat) (e : TypeId) (i : TypeInfo) (z : Value) (size bytes : Nat) (ht : P.underlying t = some (.slice e)) (hi : P.info? e = some i) (hz : i.zero = some z)
    (hsize : i.size = size) (hby : i.bytes = bytes) (hzs : z.cells.size = size) (hsz : 0 < size)
    (v : Value) (n : Nat) (xs : List Value) (hs : a.eval s = v) (hown : w.ownsRow base e size v n xs)
    (B : Nat) (A : Option Addr) (m c : Nat) (news : List Value) (hx : a.eval x = .slice A m c) (hr : Reads w B size A m news) (h1 : ∀ u ∈ news, u.oneCell' = true)
    (h63 : n + m ≤ maxLen) (hbytes : (n + m) * bytes ≤ 140737488355328) (hbase : base ≤ w.heap.size)
    (h : ∀ v' w', w'.ownsRow base e size v' (n + m) (xs ++ news) → w.grownBy w' v.ownBlock → (v'.ownBlock = v.ownBlock ∨ v'.ownBlock = some w.heap.size) → wpList P ops Q rest (a.put o.dst v') w') : wpList P ops Q (o :: rest) a w :=
  wpList_plain hgd fun _ hK => wp_append_any w s x t ho base e i z size bytes ht hi hz hsize hby hzs hsz v n xs hs hown B A m c news hx hr h1 h63 hbytes hbase fun v' w' h2 h3 h4 => hK _ _ (h v' w' h2 h3 h4)

theorem step_append_any {ops : Array Oper} {o : Oper} {a : Act} {K : Act → World → Prop} {Q : Exit → Act → World → Prop} {E : Prop} (hgd : o.guard = none) (s x : Operand) (t : TypeId)
    (ho : o.op = .call { callee := .builtin .append, args := #[s, x], argTypes := #[t, t] })
    (base : Nat) (e : TypeId) (i : TypeInfo) (z : Value) (size bytes : Nat) (ht : P.underlying t = some (.slice e)) (hi : P.info? e = some i) (hz : i.zero = some z)
    (hsize : i.size = size) (hby : i.bytes = bytes) (hzs : z.cells.size = size) (hsz : 0 < size)
    (v : Value) (n : Nat) (xs : List Value) (hs : a.eval s = v) (hown : w.ownsRow base e size v n xs)
    (B : Nat) (A : Option Addr) (m c : Nat) (news : List Value) (hx : a.eval x = .slice A m c) (hr : Reads w B size A m news) (h1 : ∀ u ∈ news, u.oneCell' = true)
    (h63 : n + m ≤ maxLen) (hbytes : (n + m) * bytes ≤ 140737488355328) (hbase : base ≤ w.heap.size)
    (h : ∀ v' w', w'.ownsRow base e size v' (n + m) (xs ++ news) → w.grownBy w' v.ownBlock → (v'.ownBlock = v.ownBlock ∨ v'.ownBlock = some w.heap.size) → K (a.put o.dst v') w') :
    if Region.wanted o (yielded ops a.tmps) = true then Oper.wp P o a w K Q else E := by
  have hw : Region.wanted o (yielded ops a.tmps) = true := by simp [Region.wanted, hgd]
  rw [if_pos hw]
  exact wp_append_any w s x t ho base e i z size bytes ht hi hz hsize hby hzs hsz v n xs hs hown B A m c news hx hr h1 h63 hbytes hbase h
end

theorem hide {p : Prop} (h : p) : Hid p := h
theorem unhide {p : Prop} (h : Hid p) : p := h

theorem results_tmp4 {fn : Func} {t u v x : Tmp} (h : fn.results = #[.tmp t, .tmp u, .tmp v, .tmp x]) (tmps : Array Value) (P : Program) (w : World) :
    (results fn tmps).run P w = .ok (.tuple #[tmps.getD t undef, tmps.getD u undef, tmps.getD v undef, tmps.getD x undef]) w := by simp [results, h]
theorem results_tmp5 {fn : Func} {t u v x y : Tmp} (h : fn.results = #[.tmp t, .tmp u, .tmp v, .tmp x, .tmp y]) (tmps : Array Value) (P : Program) (w : World) :
    (results fn tmps).run P w = .ok (.tuple #[tmps.getD t undef, tmps.getD u undef, tmps.getD v undef, tmps.getD x undef, tmps.getD y undef]) w := by simp [results, h]

theorem below_drewN {B : Nat} {a w : World} (h : Below B a w) (n : Nat) : Below B a (w.drewN n) := ⟨h.os, h.tape, h.output, h.size, h.block⟩
theorem rowIs_drewN {w : World} {b : Nat} {t : TypeId} {n : Nat} {f : Nat → Value} (h : w.rowIs b t n f) (k : Nat) : (w.drewN k).rowIs b t n f := h
theorem grown_trans {a b c : World} (h : Grown a b) (k : Grown b c) : Grown a c :=
  ⟨World.keptBut_trans h.1 k.1, fun x => (k.2.1 x).trans (h.2.1 x), Nat.le_trans h.2.2 k.2.2⟩

theorem only_drewN {a w : World} {row : Option Nat} (h : a.grownBy w row) (n : Nat) : a.grownBy (w.drewN n) row := ⟨h.os, h.tape, h.output, h.size, h.block⟩
theorem only_drew {a w : World} {row : Option Nat} (h : a.grownBy w row) : a.grownBy w.drew row := ⟨h.os, h.tape, h.output, h.size, h.block⟩
theorem only_alloc {a w : World} {row : Option Nat} (h : a.grownBy w row) (o : Obj) : a.grownBy (w.alloc o) row :=
  ⟨h.os, h.tape, h.output, Nat.le_trans h.size (by simp), fun i hi hne => (Below.heap_alloc w o i (Nat.lt_of_lt_of_le hi h.size)).trans (h.block i hi hne)⟩
theorem only_setCell {a w : World} {g : Nat} (h : a.grownBy w (some g)) {p : Addr} (hp : p.block = g ∨ a.heap.size ≤ p.block) (u : Value) : a.grownBy (w.setCell p u) (some g) :=
  ⟨h.os, h.tape, h.output, by simpa [World.setCell] using h.size, fun i hi hne => (Below.heap_setCell w p u i (by
    rintro rfl
    rcases hp with hp | hp
    · exact hne (by rw [hp])
    · omega)).trans (h.block i hi hne)⟩
theorem only_of_below {a w : World} (h : Below a.heap.size a w) (row : Option Nat) : a.grownBy w row := ⟨h.os, h.tape, h.output, h.size, fun i hi _ => h.block i hi⟩

theorem run_make_rowN {P : Program} (t e : TypeId) (i : TypeInfo) (z : Value) (ht : P.underlying t = some (.slice e)) (hi : P.info? e = some i) (hz : i.zero = some z)
    (kl kc : IntKind) (n c : Nat) (hnc : n ≤ c) (hbytes : i.bytes * c ≤ 281474976710656) (h63 : c ≤ 9223372036854775807) (w : World) :
    (Instr.makeSlice t (.int kl (n : Int)) (.int kc (c : Int))).run P w = .ok (.slice (some ⟨w.heap.size, 0, none⟩) n c) (w.alloc (.cells (madeCells z.cells (c * i.size)) e)) := by
  have hb : (i.bytes : Int) * (c : Int) ≤ 281474976710656 := by
    have h : ((i.bytes * c : Nat) : Int) ≤ 281474976710656 := by omega
    rwa [Int.natCast_mul] at h
  have hr := run_make (P := P) w t e i z ht hi hz kl kc n c (by omega) (by omega) hb (by omega)
  simp only [Int.toNat_natCast] at hr
  exact hr
theorem run_makeMap_hint {P : Program} (t k e : TypeId) (kd : IntKind) (n : Int) (ht : P.underlying t = some (.map k e)) (w : World) :
    (Instr.makeMap t (some (.int kd n))).run P w = .ok (.map (some w.heap.size)) (w.alloc (.map #[] 0)) := by
  simp [Instr.makeMap, run_underlying ht]; rfl


theorem ret_int {k : IntKind} {a b : Int} (h : a = b) : Ending.returned (.int k a) = .returned (.int k b) := by rw [h]
theorem ret_bool {a b : Bool} (h : a = b) : Ending.returned (.bool a) = .returned (.bool b) := by rw [h]
/-! ## Bytes -/
/-- the value of a byte -/
def bv (x : UInt8) : Value := .int .u8 (x.toNat : Int)
theorem bv_one (bs : List UInt8) : ∀ u ∈ bs.map bv, u.oneCell' = true := by
  intro u hu
  obtain ⟨x, _, rfl⟩ := List.mem_map.1 hu
  rfl
theorem u8_lt (x : UInt8) : x.toNat < 256 := x.toNat_lt
/-- slice value '.slice A n c' reads as the bytes bs, below block B -/
abbrev RdB (w : World) (B : Nat) (A : Option Addr) (n : Nat) (bs : List UInt8) : Prop := Reads w B 1 A n (bs.map bv)
theorem Reads.len1 {w : World} {B n : Nat} {A : Option Addr} {bs : List UInt8} (h : RdB w B A n bs) : bs.length = n := by
  have := h.1
  simpa using this
theorem Reads.byte {w : World} {B n k : Nat} {A : Option Addr} {bs : List UInt8} (h : RdB w B A n bs) (hk : k < n) :
    ∃ ad x, A = some ad ∧ ad.block < B ∧ bs[k]? = some x ∧ w.cell? (ad.add k) = some (.int .u8 (x.toNat : Int)) := by
  obtain ⟨ad, u, rfl, hb, hx, hc⟩ := Reads.at_ h hk
  rw [List.getElem?_map] at hx
  cases hy : bs[k]? with
  | none => rw [hy] at hx; cases hx
  | some x =>
    rw [hy] at hx
    injection hx with hx
    subst hx
    exact ⟨ad, x, rfl, hb, rfl, hc⟩
theorem run_string_of {P : Program} (w : World) (src dst e : TypeId) {B n c : Nat} {A : Option Addr} {bs : List UInt8} (h : RdB w B A n bs)
    (hs : P.underlying src = some (.slice e)) (he : P.underlying e = some (.int .u8)) (hd : P.underlying dst = some .string) :
    (convert src dst (.slice A n c)).run P w = .ok (.string ⟨bs.toArray⟩) w := by
  have hl := h.len1
  rw [run_convert_bytes_string w src dst e _ n c hs he hd]
  rcases A with _ | ad
  · have hn : n = 0 := by
      rcases Nat.eq_zero_or_pos n with h0 | h0
      · exact h0
      · obtain ⟨ad, e, _⟩ := h.2 h0
        cases e
    subst hn
    have : bs = [] := List.eq_nil_of_length_eq_zero hl
    subst this
    simp [Conv.bytesToString]
    rfl
  · have hcell : (loadCells ad n).run P w = .ok ((bs.map fun x => (x.toNat : Int)).map (Value.int .u8)).toArray w := by
      have := run_loadCells_list (P := P) w ad ((bs.map fun x => (x.toNat : Int)).map (Value.int .u8)) (fun j v hj => by
        have hjl : j < n := by
          rcases Nat.lt_or_ge j n with h1 | h1
          · exact h1
          · rw [List.getElem?_eq_none (by simp; omega)] at hj
            cases hj
        obtain ⟨ad', x, e, _, hx, hc⟩ := h.byte hjl
        injection e with e
        subst e
        rw [hc]
        simp [List.getElem?_map, hx] at hj
        rw [hj])
      simpa [hl] using this
    rw [run_bytesToString w ad n c _ hcell, foldl_push_bytes]
    have e : (bs.map fun x => (x.toNat : Int)).map (fun n => UInt8.ofNat n.toNat) = bs := by
      rw [List.map_map]
      exact (List.map_congr_left (fun x _ => by simp)).trans (List.map_id bs)
    rw [e]
    simp [ByteArray.empty, ByteArray.emptyWithCapacity]
    rfl

/-! ## A slice of the call's own that is appended to -/
/-- from (w, v) to (w', v') by appends onto v: only v's own row and new blocks have turned; v' lies in v's row or in a new block -/
def App (w : World) (v : Value) (w' : World) (v' : Value) : Prop :=
  w.grownBy w' v.ownBlock ∧ (v'.ownBlock = v.ownBlock ∨ ∃ k, v'.ownBlock = some k ∧ w.heap.size ≤ k)
section
variable {w w1 w2 : World} {v v1 v2 : Value}
theorem App.refl (w : World) (v : Value) : App w v w v := ⟨World.grownBy.refl w _, .inl rfl⟩
theorem App.size (h : App w v w1 v1) : w.heap.size ≤ w1.heap.size := h.1.size
theorem App.trans (h : App w v w1 v1) (k : App w1 v1 w2 v2) : App w v w2 v2 := by
  refine ⟨⟨k.1.os.trans h.1.os, k.1.tape.trans h.1.tape, k.1.output.trans h.1.output, Nat.le_trans h.1.size k.1.size, fun i hi hne => ?_⟩, ?_⟩
  · refine (k.1.block i (Nat.lt_of_lt_of_le hi h.1.size) ?_).trans (h.1.block i hi hne)
    rcases h.2 with e | ⟨j, e, hj⟩
    · rw [e]; exact hne
    · rw [e]; intro hh; injection hh with hh; omega
  · have hs := h.1.size
    rcases k.2 with e | ⟨j, e, hj⟩
    · rw [e]; exact h.2
    · exact .inr ⟨j, e, by omega⟩
theorem App.alloc (h : App w v w1 v1) (o : Obj) : App w v (w1.alloc o) v1 := ⟨only_alloc h.1 o, h.2⟩
theorem App.drew (h : App w v w1 v1) : App w v w1.drew v1 := ⟨only_drew h.1, h.2⟩
theorem App.drewN (h : App w v w1 v1) (n : Nat) : App w v (w1.drewN n) v1 := ⟨only_drewN h.1 n, h.2⟩
theorem App.blk {g : Nat} {t : TypeId} {cs : Array Value} (h : App w v w1 v1) (hb : Blk w g t cs) (hne : v.ownBlock ≠ some g) : Blk w1 g t cs := hb.grown h.1 (fun e => hne e.symm)
theorem App.below {base : Nat} (h : App w v w1 v1) (hb : base ≤ w.heap.size) (hv : ∀ k, v.ownBlock = some k → base ≤ k) : Below base w w1 := (Below.refl _ _).grown h.1 hb hv
theorem App.reads {B size n : Nat} {A : Option Addr} {xs : List Value} (h : App w v w1 v1) (hr : Reads w B size A n xs) (hb : B ≤ w.heap.size) (hv : ∀ k, v.ownBlock = some k → B ≤ k) : Reads w1 B size A n xs := hr.grown h.1 hb hv
/-- another row, in another block, stays -/
theorem App.own {base : Nat} {e : TypeId} {size n : Nat} {u : Value} {xs : List Value} (h : App w v w1 v1) (hu : w.ownsRow base e size u n xs) (hne : u.ownBlock = none ∨ u.ownBlock ≠ v.ownBlock) : w1.ownsRow base e size u n xs := hu.kept h.1 hne
theorem App.from {o : Obj} (h : App (w.alloc o) v w1 v1) : App w v w1 v1 := by
  refine ⟨⟨h.1.os, h.1.tape, h.1.output, Nat.le_trans (by simp) h.1.size, fun i hi hne => (h.1.block i (by simp; omega) hne).trans (Below.heap_alloc w o i hi)⟩, ?_⟩
  rcases h.2 with e | ⟨k, e, hk⟩
  · exact .inl e
  · exact .inr ⟨k, e, by simp at hk; omega⟩
end
/-- v is a []byte (element type e) of the call's own from block base on, and reads bs -/
abbrev OwnB (e : TypeId) (w : World) (base : Nat) (v : Value) (bs : List UInt8) : Prop := w.ownsRow base e 1 v bs.length (bs.map bv)
theorem OwnB.nil (e : TypeId) (w : World) (base : Nat) : OwnB e w base (.slice none 0 0) [] := World.ownsRow_nil w base e 1
/-- a literal []byte{..} that the call has just built -/
theorem OwnB.built (e : TypeId) (w : World) (base : Nat) (cs : Array Value) (bs : List UInt8) (hb : base ≤ w.heap.size) (hm : bs.length ≤ 9223372036854775807) (hc : cs = (bs.map bv).toArray) :
    OwnB e (w.alloc (.cells cs e)) base (.slice (some ⟨w.heap.size, 0, none⟩) bs.length bs.length) bs := by
  have h := World.ownsRow_lit (base := base) (e := e) (size := 1) w cs bs.length hb (by simpa [maxLen] using hm) (by rw [hc]; simp)
  rw [hc] at h ⊢
  simpa using h
theorem OwnB.built' (e : TypeId) (w : World) (base g : Nat) (cs : Array Value) (bs : List UInt8) (hb : base ≤ w.heap.size) (hg : w.heap.size = g) (hm : bs.length ≤ 9223372036854775807) (hc : cs = (bs.map bv).toArray) :
    OwnB e (w.alloc (.cells cs e)) base (.slice (some ⟨g, 0, none⟩) bs.length bs.length) bs := by
  subst hg
  exact OwnB.built e w base cs bs hb hm hc
theorem Blk.new' (w : World) (t : TypeId) (g : Nat) (cs : Array Value) (hg : w.heap.size = g) : Blk (w.alloc (.cells cs t)) g t cs := by
  subst hg
  exact Blk.new w t cs
theorem Reads.built (w : World) (t : TypeId) (cs : List Value) : Reads (w.alloc (.cells cs.toArray t)) (w.heap.size + 1) 1 (some ⟨w.heap.size, 0, none⟩) cs.length cs := by
  refine ⟨by simp, fun _ => ⟨_, rfl, by simp, fun j u hu => ?_⟩⟩
  have h := (Blk.new w t cs.toArray).cell j
  have e : (⟨w.heap.size, 0, none⟩ : Addr).add j = ⟨w.heap.size, j, none⟩ := by unfold Addr.add; split <;> simp_all
  rw [e, h]
  simpa using hu
/-- what a own []byte reads as -/
theorem OwnB.reads {e : TypeId} {w : World} {base n c : Nat} {A : Option Addr} {bs : List UInt8} (h : OwnB e w base (.slice A n c) bs) (hn : n = bs.length) : RdB w w.heap.size A n bs := by
  subst hn
  exact Reads.of_own h
theorem OwnB.form {e : TypeId} {w : World} {base : Nat} {v : Value} {bs : List UInt8} (h : OwnB e w base v bs) : ∃ A c, v = .slice A bs.length c ∧ bs.length ≤ c ∧ c ≤ maxLen := by
  rcases h.2 with ⟨rfl, h0⟩ | ⟨g, cap, cur, rfl, _, _, hn, hm, _⟩
  · exact ⟨none, 0, by rw [h0], by omega, by simp⟩
  · exact ⟨_, cap, rfl, hn, hm⟩

section
variable {P : Program} {w : World}
theorem run_app (base : Nat) (t ty e : TypeId) (hinfo : (P.info? e).map (fun i => (i.zero, i.size, i.bytes)) = some (some (.int .u8 0), 1, 1)) (ht : P.underlying t = some (.slice e))
    {v : Value} {xs : List UInt8} (hown : OwnB e w base v xs) {B : Nat} {A : Option Addr} {m c : Nat} {news : List UInt8} (hr : RdB w B A m news)
    (hb : xs.length + news.length ≤ 140737488355328) (hbase : base ≤ w.heap.size) :
    ∃ v' w', (Builtin.append_ #[t, t] ty #[v, .slice A m c]).run P w = .ok v' w' ∧ OwnB e w' base v' (xs ++ news) ∧ App w v w' v' := by
  obtain ⟨i, hi, hz, hs, hby⟩ := info_parts hinfo
  have hm := hr.len1
  subst hm
  obtain ⟨v', w', h1, h2, h3, h4⟩ := run_append_any (P := P) w base t ty e i _ 1 1 ht hi hz hs hby rfl (by omega) v xs.length (xs.map bv) hown B A news.length c (news.map bv) hr (bv_one _)
    (by simp only [maxLen]; omega) (by omega) hbase
  refine ⟨v', w', h1, ?_, h3, ?_⟩
  · show w'.ownsRow base e 1 v' (xs ++ news).length ((xs ++ news).map bv)
    rw [List.length_append, List.map_append]
    exact h2
  · rcases h4 with h4 | h4
    · exact .inl h4
    · exact .inr ⟨_, h4, Nat.le_refl _⟩

theorem wpList_app {ops : Array Oper} {rest : List Oper} {o : Oper} {a : Act} {Q : Exit → Act → World → Prop} (hgd : o.guard = none) (s x : Operand) (t : TypeId)
    (ho : o.op = .call { callee := .builtin .append, args := #[s, x], argTypes := #[t, t] })
    (base : Nat) (e : TypeId) (hinfo : (P.info? e).map (fun i => (i.zero, i.size, i.bytes)) = some (some (.int .u8 0), 1, 1)) (ht : P.underlying t = some (.slice e))
    (v : Value) (xs : List UInt8) (hs : a.eval s = v) (hown : OwnB e w base v xs)
    (B : Nat) (A : Option Addr) (m c : Nat) (news : List UInt8) (hx : a.eval x = .slice A m c) (hr : RdB w B A m news)
    (hb : xs.length + news.length ≤ 140737488355328) (hbase : base ≤ w.heap.size)
    (h : ∀ v' w', OwnB e w' base v' (xs ++ news) → App w v w' v' → wpList P ops Q rest (a.put o.dst v') w') : wpList P ops Q (o :: rest) a w := by
  obtain ⟨v', w', h1, h2, h3⟩ := run_app (P := P) base t o.type e hinfo ht hown (c := c) hr hb hbase
  refine wpList_plain hgd fun K hK => ?_
  unfold Oper.wp execOp
  simp only [ho, resolve, invoke, builtin, Sem.run_bind, Sem.run_pure, Result.andThen_ok, List.map_toArray, List.map_cons, List.map_nil, hs, hx, h1]
  exact hK _ _ (h v' w' h2 h3)

theorem step_app {ops : Array Oper} {o : Oper} {a : Act} {K : Act → World → Prop} {Q : Exit → Act → World → Prop} {E : Prop} (hgd : o.guard = none) (s x : Operand) (t : TypeId)
    (ho : o.op = .call { callee := .builtin .append, args := #[s, x], argTypes := #[t, t] })
    (base : Nat) (e : TypeId) (hinfo : (P.info? e).map (fun i => (i.zero, i.size, i.bytes)) = some (some (.int .u8 0), 1, 1)) (ht : P.underlying t = some (.slice e))
    (v : Value) (xs : List UInt8) (hs : a.eval s = v) (hown : OwnB e w base v xs)
    (B : Nat) (A : Option Addr) (m c : Nat) (news : List UInt8) (hx : a.eval x = .slice A m c) (hr : RdB w B A m news)
    (hb : xs.length + news.length ≤ 140737488355328) (hbase : base ≤ w.heap.size)
    (h : ∀ v' w', OwnB e w' base v' (xs ++ news) → App w v w' v' → K (a.put o.dst v') w') :
    if Region.wanted o (yielded ops a.tmps) = true then Oper.wp P o a w K Q else E := by
  obtain ⟨v', w', h1, h2, h3⟩ := run_app (P := P) base t o.type e hinfo ht hown (c := c) hr hb hbase
  have hw : Region.wanted o (yielded ops a.tmps) = true := by simp [Region.wanted, hgd]
  rw [if_pos hw]
  unfold Oper.wp execOp
  simp only [ho, resolve, invoke, builtin, Sem.run_bind, Sem.run_pure, Result.andThen_ok, List.map_toArray, List.map_cons, List.map_nil, hs, hx, h1]
  exact h v' w' h2 h3
end

/-- a store into a block of another element type -/
theorem OwnB.far {e t : TypeId} {w : World} {base g : Nat} {v : Value} {bs : List UInt8} {cs : Array Value} (h : OwnB e w base v bs) (hb : Blk w g t cs) (hne : e ≠ t) (i : Nat) (u : Value) : OwnB e (w.setCell ⟨g, i, none⟩ u) base v bs :=
  World.ownsRow.kept h (only_setCell (p := ⟨g, i, none⟩) (World.grownBy.refl w (some g)) (.inl rfl) u) (.inr (own_blk_ne h hb hne))

end Go.Proofs.Ytjhkfpemcplaaaa
namespace Go.Proofs.Ytjhkfpemcplaaaa
open Go.RowKit

/-- seven bits a byte, the low ones first, the high bit says that more follow -/
def encF : Nat → Nat → List UInt8
  | 0, n => [UInt8.ofNat n]
  | f + 1, n => if n < 128 then [UInt8.ofNat n] else UInt8.ofNat (n % 128 + 128) :: encF f (n / 128)
def enc (n : Nat) : List UInt8 := encF 9 n
def encs (ns : List Nat) : List UInt8 := ns.flatMap enc

theorem encF_succ (f n : Nat) : encF (f + 1) n = if n < 128 then [UInt8.ofNat n] else UInt8.ofNat (n % 128 + 128) :: encF f (n / 128) := rfl
theorem encF_more : ∀ (f n : Nat), n < 128 ^ (f + 1) → encF (f + 1) n = encF f n := by
  intro f
  induction f with
  | zero => intro n h; simp only [encF]; rw [if_pos (by omega)]
  | succ f ih =>
    intro n h
    have hd : n / 128 < 128 ^ (f + 1) := by
      rw [Nat.pow_succ] at h
      exact Nat.div_lt_of_lt_mul (by omega)
    have e := ih (n / 128) hd
    rw [encF_succ (f + 1) n, encF_succ f n]
    split
    · rfl
    · rw [e]
theorem enc_small {n : Nat} (h : n < 128) : enc n = [UInt8.ofNat n] := by unfold enc encF; rw [if_pos h]
theorem enc_big {n : Nat} (h : ¬ n < 128) (hn : n < 18446744073709551616) : enc n = UInt8.ofNat (n % 128 + 128) :: enc (n / 128) := by
  have e : encF 9 (n / 128) = encF 8 (n / 128) := encF_more 8 _ (by omega)
  unfold enc
  rw [e]
  rw [encF, if_neg h]
theorem encF_pos (f n : Nat) : 1 ≤ (encF f n).length := by
  cases f with
  | zero => simp [encF]
  | succ f => unfold encF; split <;> simp
theorem encF_le : ∀ (f n : Nat), (encF f n).length ≤ f + 1 := by
  intro f
  induction f with
  | zero => intro n; simp [encF]
  | succ f ih =>
    intro n
    unfold encF
    split
    · simp
    · have := ih (n / 128)
      simp only [List.length_cons]
      omega
theorem enc_pos (n : Nat) : 1 ≤ (enc n).length := encF_pos 9 n
theorem enc_le (n : Nat) : (enc n).length ≤ 10 := encF_le 9 n
theorem encs_le (ns : List Nat) : (encs ns).length ≤ 10 * ns.length := by
  induction ns with
  | nil => simp [encs]
  | cons n l ih =>
    have h1 := enc_le n
    have e : encs (n :: l) = enc n ++ encs l := by simp [encs]
    rw [e, List.length_append, List.length_cons]
    omega
theorem encs_take (ns : List Nat) (k n : Nat) (h : ns[k]? = some n) : encs (ns.take (k + 1)) = encs (ns.take k) ++ enc n := by
  rw [List.take_add_one, h]
  simp [encs]
theorem encs_take_le (ns : List Nat) (k : Nat) (h : k ≤ ns.length) : (encs (ns.take k)).length ≤ 10 * k := by
  have := encs_le (ns.take k)
  rw [List.length_take] at this
  omega

/-- what the machine's numbers come to -/
theorem or128 (q : Nat) : bits .or .u8 ((q : Int) % 256) 128 = ((UInt8.ofNat (q % 128 + 128)).toNat : Int) := by
  have h := u8_or_nat (q % 256) 128 (by omega) (by omega)
  have e : ∀ r : Nat, r < 256 → r ||| 128 = r % 128 + 128 := by decide +kernel
  rw [e _ (by omega)] at h
  have e2 : (UInt8.ofNat (q % 128 + 128)).toNat = q % 256 % 128 + 128 := by
    simp only [UInt8.toNat_ofNat']
    omega
  rw [e2]
  have e3 : ((q % 256 : Nat) : Int) = (q : Int) % 256 := by omega
  rw [← e3]
  exact h
theorem add128 (q : Nat) : (q : Int) % 128 + 128 = ((UInt8.ofNat (q % 128 + 128)).toNat : Int) := by
  simp only [UInt8.toNat_ofNat']
  omega
theorem low8 (q : Nat) : (q : Int) % 256 = ((UInt8.ofNat q).toNat : Int) := by
  simp only [UInt8.toNat_ofNat']
  omega

end Go.Proofs.Ytjhkfpemcplaaaa
namespace Go.Proofs.Ytjhkfpemcplaaaa
open Go.RowKit

def byteV : List UInt8 → Nat
  | [] => 0
  | x :: _ => x.toNat
theorem byteV_lt (l : List UInt8) : byteV l < 256 := by
  cases l with
  | nil => simp [byteV]
  | cons x l => exact u8_lt x
/-- one count, from round i on: the number, what is left, whether something was bad -/
def cntS : Nat → Nat → Nat → List UInt8 → Bool → Nat × List UInt8 × Bool
  | 0, _, _, l, _ => (0, l, true)
  | f + 1, i, n, l, b =>
    if (b || l.isEmpty) || (i == 9 && decide (1 < byteV l)) || (decide (0 < i) && byteV l == 0) then (0, l.tail, true)
    else if byteV l < 128 then (n + byteV l % 128 * 2 ^ (7 * i), l.tail, false)
    else cntS f (i + 1) (n + byteV l % 128 * 2 ^ (7 * i)) l.tail false
def cnt (l : List UInt8) (b : Bool) : Nat × List UInt8 × Bool := cntS 10 0 0 l b

theorem cntS_bad {f i n : Nat} {l : List UInt8} {b : Bool} (h : ((b || l.isEmpty) || (i == 9 && decide (1 < byteV l)) || (decide (0 < i) && byteV l == 0)) = true) : cntS (f + 1) i n l b = (0, l.tail, true) := by
  rw [cntS, if_pos h]
theorem cntS_end {f i n : Nat} {l : List UInt8} {b : Bool} (h : ((b || l.isEmpty) || (i == 9 && decide (1 < byteV l)) || (decide (0 < i) && byteV l == 0)) = false) (hx : byteV l < 128) :
    cntS (f + 1) i n l b = (n + byteV l % 128 * 2 ^ (7 * i), l.tail, false) := by
  rw [cntS, if_neg (by rw [h]; simp), if_pos hx]
theorem cntS_on {f i n : Nat} {l : List UInt8} {b : Bool} (h : ((b || l.isEmpty) || (i == 9 && decide (1 < byteV l)) || (decide (0 < i) && byteV l == 0)) = false) (hx : ¬ byteV l < 128) :
    cntS (f + 1) i n l b = cntS f (i + 1) (n + byteV l % 128 * 2 ^ (7 * i)) l.tail false := by
  rw [cntS, if_neg (by rw [h]; simp), if_neg hx]

/-- what the machine's numbers come to -/
theorem and127 {x : Nat} (h : x < 256) : bits .and .u8 (x : Int) 127 = ((x % 128 : Nat) : Int) := by
  have h1 := u8_and_nat x 127 h (by omega)
  have e : ∀ r : Nat, r < 256 → r &&& 127 = r % 128 := by decide +kernel
  rw [e _ h] at h1
  exact h1
theorem pow7_lt {i y : Nat} (hi : i ≤ 9) (hy : y < 128) (h9 : i = 9 → y ≤ 1) : y * 2 ^ (7 * i) < 18446744073709551616 := by
  have : i = 0 ∨ i = 1 ∨ i = 2 ∨ i = 3 ∨ i = 4 ∨ i = 5 ∨ i = 6 ∨ i = 7 ∨ i = 8 ∨ i = 9 := by omega
  rcases this with rfl | rfl | rfl | rfl | rfl | rfl | rfl | rfl | rfl | rfl
  all_goals first | (have := h9 rfl; omega) | omega
theorem shl7 {i y : Nat} (hi : i ≤ 9) (hy : y < 128) (h9 : i = 9 → y ≤ 1) : IntKind.u64.wrap ((y : Int) * 2 ^ min (7 * (i : Int)).toNat 64) = ((y * 2 ^ (7 * i) : Nat) : Int) := by
  have h := pow7_lt hi hy h9
  rw [show min (7 * (i : Int)).toNat 64 = 7 * i from by omega, IntKind.wrap_u64]
  have e : (y : Int) * 2 ^ (7 * i) = ((y * 2 ^ (7 * i) : Nat) : Int) := by simp
  rw [e]
  omega
theorem or7 {i n y : Nat} (hi : i ≤ 9) (hn : n < 2 ^ (7 * i)) (hy : y < 128) (h9 : i = 9 → y ≤ 1) :
    bits .or .u64 (n : Int) ((y * 2 ^ (7 * i) : Nat) : Int) = ((n + y * 2 ^ (7 * i) : Nat) : Int) := by
  have h := pow7_lt hi hy h9
  have hn64 : n < 18446744073709551616 := by
    have : 2 ^ (7 * i) ≤ 2 ^ 63 := Nat.pow_le_pow_right (by omega) (by omega)
    omega
  rw [u64_or_nat n (y * 2 ^ (7 * i)) hn64 h]
  have := Nat.two_pow_add_eq_or_of_lt hn y
  rw [Nat.mul_comm (2 ^ (7 * i)) y] at this
  rw [Nat.or_comm, ← this, Nat.add_comm]
theorem shl7' {i x : Nat} (hi : i ≤ 9) (h9 : i = 9 → x % 128 ≤ 1) : IntKind.u64.wrap ((x : Int) % 128 * 2 ^ (7 * i)) = ((x % 128 * 2 ^ (7 * i) : Nat) : Int) := by
  have h := shl7 (y := x % 128) hi (by omega) h9
  rw [show min (7 * (i : Int)).toNat 64 = 7 * i from by omega] at h
  simpa using h
theorem orshl {i n x : Nat} (hi : i ≤ 9) (hn : n < 2 ^ (7 * i)) (h9 : i = 9 → x % 128 ≤ 1) :
    bits .or .u64 (n : Int) (IntKind.u64.wrap ((x : Int) % 128 * 2 ^ (7 * i))) = ((n + x % 128 * 2 ^ (7 * i) : Nat) : Int) := by
  rw [shl7' hi h9]
  exact or7 hi hn (by omega) h9
theorem acc_lt {i n y : Nat} (hn : n < 2 ^ (7 * i)) (hy : y < 128) : n + y * 2 ^ (7 * i) < 2 ^ (7 * (i + 1)) := by
  have e : 2 ^ (7 * (i + 1)) = 128 * 2 ^ (7 * i) := by
    rw [show 7 * (i + 1) = 7 * i + 7 from by omega, Nat.pow_add]
    omega
  rw [e]
  have : y * 2 ^ (7 * i) ≤ 127 * 2 ^ (7 * i) := Nat.mul_le_mul_right _ (by omega)
  omega
theorem sum_lt {i n y : Nat} (hi : i ≤ 9) (hn : n < 2 ^ (7 * i)) (hy : y < 128) (h9 : i = 9 → y ≤ 1) : n + y * 2 ^ (7 * i) < 18446744073709551616 := by
  have : i = 0 ∨ i = 1 ∨ i = 2 ∨ i = 3 ∨ i = 4 ∨ i = 5 ∨ i = 6 ∨ i = 7 ∨ i = 8 ∨ i = 9 := by omega
  rcases this with rfl | rfl | rfl | rfl | rfl | rfl | rfl | rfl | rfl | rfl
  all_goals first | (have := h9 rfl; omega) | omega
theorem addshl {i n x : Nat} (hi : i ≤ 9) (hn : n < 2 ^ (7 * i)) (h9 : i = 9 → x % 128 ≤ 1) :
    IntKind.u64.wrap ((n : Int) + IntKind.u64.wrap ((x : Int) % 128 * 2 ^ (7 * i))) = ((n + x % 128 * 2 ^ (7 * i) : Nat) : Int) := by
  have h := sum_lt hi hn (y := x % 128) (by omega) h9
  rw [shl7' hi h9, IntKind.wrap_u64]
  omega
theorem cntS_lt (f : Nat) : ∀ (i n : Nat) (l : List UInt8) (b : Bool), f + i = 10 → n < 2 ^ (7 * i) → (cntS f i n l b).1 < 18446744073709551616 := by
  induction f with
  | zero => intro i n l b _ _; simp [cntS]
  | succ f ih =>
    intro i n l b hf hn
    have hy : byteV l % 128 < 128 := by omega
    by_cases h : ((b || l.isEmpty) || (i == 9 && decide (1 < byteV l)) || (decide (0 < i) && byteV l == 0)) = true
    · rw [cntS_bad h]; simp
    · have h' := eq_false_of_ne_true h
      have h9 : i = 9 → byteV l % 128 ≤ 1 := by
        intro e
        subst e
        simp at h'
        omega
      by_cases hx : byteV l < 128
      · rw [cntS_end h' hx]
        exact sum_lt (by omega) hn hy h9
      · rw [cntS_on h' hx]
        exact ih _ _ _ _ (by omega) (acc_lt hn hy)
theorem cnt_lt (l : List UInt8) (b : Bool) : (cnt l b).1 < 18446744073709551616 := cntS_lt 10 0 0 l b (by omega) (by simp)

theorem cntS_len (f : Nat) : ∀ (i n : Nat) (l : List UInt8) (b : Bool), (cntS f i n l b).2.1.length ≤ l.length := by
  induction f with
  | zero => intro i n l b; exact Nat.le_refl _
  | succ f ih =>
    intro i n l b
    have ht : l.tail.length ≤ l.length := by simp
    rw [cntS]
    split
    · exact ht
    · split
      · exact ht
      · exact Nat.le_trans (ih _ _ _ _) ht
theorem cnt_len (l : List UInt8) (b : Bool) : (cnt l b).2.1.length ≤ l.length := cntS_len 10 0 0 l b

end Go.Proofs.Ytjhkfpemcplaaaa
namespace Go.Proofs.Ytjhkfpemcplaaaa
open Go.RowKit

theorem info5 : (Try.prog.info? 5).map (fun i => (i.zero, i.size, i.bytes)) = some (some (.int .u8 0), 1, 1) := by kernel_rfl
def uv (n : Nat) : Value := .int .u64 (n : Int)
/-- a value that owns bs, made from v by appends alone -/
def AppPost (w : World) (base : Nat) (v : Value) (bs : List UInt8) (e : Ending) (w' : World) : Prop := ∃ v', e = .returned v' ∧ OwnB 5 w' base v' bs ∧ App w v w' v'

/-- the inner loop's relation: what is done, and what is to come -/
def InRel (base : Nat) (v0 : Value) (w0 : World) (all : List UInt8) (v n : Value) (wr : World) : Prop :=
  ∃ (q : Nat) (bs : List UInt8), n = .int .u64 q ∧ q < 18446744073709551616 ∧ OwnB 5 wr base v bs ∧ App w0 v0 wr v ∧ bs ++ enc q = all
theorem InRel.step {base : Nat} {v0 : Value} {w0 : World} {all : List UInt8} {v' : Value} {w' : World} {q : Nat} {bs : List UInt8}
    (hq : q < 18446744073709551616) (hg : ¬ q < 128) (h1 : OwnB 5 w' base v' (bs ++ [UInt8.ofNat (q % 128 + 128)])) (h2 : App w0 v0 w' v') (h3 : bs ++ enc q = all) :
    InRel base v0 w0 all v' (.int .u64 ((q / 128 : Nat) : Int)) w' :=
  ⟨q / 128, _, rfl, by omega, h1, h2, by rw [← h3, enc_big hg hq]; simp⟩

set_option maxHeartbeats 400000 in
theorem counts_any (base : Nat) (v : Value) (xs : List UInt8) (lb m c : Nat) (ns : List Nat) (w : World) (hv : OwnB 5 w base v xs) (hb : base ≤ w.heap.size)
    (hl : Blk w lb 22 (ns.map uv).toArray) (hm : m = ns.length) (hn : ∀ n ∈ ns, n < 18446744073709551616) (hns : ns.length ≤ 1000) (hsz : xs.length ≤ 1099511627776) :
    Calls Try.prog 73 #[v, .slice (some ⟨lb, 0, none⟩) m c] w (AppPost w base v (xs ++ encs ns)) := by
  subst hm
  have hle := encs_le ns
  have HN := Lib.hid hn
  clear hn
  have hne : v.ownBlock ≠ some lb := own_blk_ne hv hl (by decide)
  go_enter Try.func73, Try.ntmps73
  go_wp2
  go_loopw [0, 6, 9] (fun u _ i wr => ∃ k : Nat, k ≤ ns.length ∧ i = .int .i64 k ∧ OwnB 5 wr base u (xs ++ encs (ns.take k)) ∧ App w v wr u) (fun _ _ i _ => ns.length - (intOf i).toNat)
  case atStart => exact ⟨0, Nat.zero_le _, rfl, by simpa [encs] using hv, App.refl _ _⟩
  case round =>
    obtain ⟨k, hk, rfl, hown, happ⟩ := hrel
    by_cases hlt : k < ns.length
    · obtain ⟨n, hx⟩ : ∃ n, ns[k]? = some n := ⟨_, List.getElem?_eq_getElem hlt⟩
      have hn64 := HN.out n (List.mem_of_getElem? hx)
      have hcell : wr.cell? ⟨lb, k, none⟩ = some (.int .u64 (n : Int)) := by
        rw [(happ.blk hl hne).cell k]
        simp [uv, hx]
      have HT := Lib.hid (encs_take ns k n hx)
      have hle2 := encs_take_le ns k hk
      go_wp2
      go_loopw [0, 6] (fun u q wr => InRel base v w (xs ++ encs (ns.take (k + 1))) u q wr) (fun _ q _ => (intOf q).toNat)
      case atStart => exact ⟨n, _, rfl, hn64, hown, happ, by rw [HT.out, List.append_assoc]⟩
      case round =>
        obtain ⟨q, bs, rfl, hq, hown2, happ2, hall⟩ := hrel
        have hlen := congrArg List.length hall
        rw [HT.out] at hlen
        simp only [List.length_append] at hlen
        have hp := enc_pos q
        have hnl := enc_le n
        have hbl : bs.length + 1 ≤ 140737488355328 := by omega
        clear hlen
        have hba := Nat.le_trans hb happ2.size
        have HA := Lib.hid hall
        clear hall
        have HQ := Lib.hid hq
        have HB := Lib.hid hbl
        clear hq hbl hn64 hsz hle2 hle
        by_cases hg : q < 128
        · have hd : decide ((128 : Int) ≤ (q : Int)) = false := by simp; omega
          have HE := Lib.hid (enc_small hg)
          have hor := low8 q
          generalize UInt8.ofNat q = x at hor HE
          clear hg
          go_wp2_with (at_builtin; refine wpList_app rfl _ _ _ rfl base 5 info5 Try.underlying37 _ bs rfl (hown2.alloc _) _ _ _ _ [x] rfl (Reads.built _ _ [bv x]) (by simpa using HB.out) (by simp; omega) ?_; intro v1 w1 hown3 happ3)
          go_roundw
          case rel => exact ⟨k + 1, by omega, by go_num, by rw [← HA.out, HE.out]; exact hown3, happ2.trans happ3.from⟩
          case measure => simp [intOf]; omega
        · have hd : decide ((128 : Int) ≤ (q : Int)) = true := by simp; omega
          have hor := or128 q
          have HS := Lib.hid (fun v' w' => InRel.step (base := base) (v0 := v) (w0 := w) (v' := v') (w' := w') HQ.out hg (h3 := HA.out) (bs := bs))
          generalize UInt8.ofNat (q % 128 + 128) = x at hor HS
          have hm : q / 128 < q := by omega
          clear hg
          go_wp2_with (at_builtin; refine wpList_app rfl _ _ _ rfl base 5 info5 Try.underlying37 _ bs rfl (hown2.alloc _) _ _ _ _ [x] rfl (Reads.built _ _ [bv x]) (by simpa using HB.out) (by simp; omega) ?_; intro v1 w1 hown3 happ3)
          go_roundw
          case rel => exact HS.out v1 w1 hown3 (happ2.trans happ3.from)
          case measure => simp [intOf]; omega
    · have HE := Lib.hid (List.take_of_length_le (by omega) : ns.take k = ns)
      go_wp2
      go_ret
      exact ⟨_, rfl, by rw [HE.out] at hown; exact hown, happ⟩

set_option maxHeartbeats 400000 in
theorem rcount_any (base : Nat) (n : Nat) (w : World) (hb : base ≤ w.heap.size) (hn : n < 18446744073709551616) :
    Calls Try.prog 41 #[.int .u64 n] w (AppPost w base (.slice none 0 0) (enc n)) := by
  have HN := Lib.hid hn
  clear hn
  go_enter Try.func41, Try.ntmps41
  go_wp2
  go_loopw [0, 3] (fun q u wr => InRel base (.slice none 0 0) w (enc n) u q wr) (fun q _ _ => (intOf q).toNat)
  case atStart => exact ⟨n, [], rfl, HN.out, OwnB.nil 5 _ _, App.refl _ _, rfl⟩
  case round =>
    obtain ⟨q, bs, rfl, hq, hown2, happ2, hall⟩ := hrel
    have hlen := congrArg List.length hall
    simp only [List.length_append] at hlen
    have hp := enc_pos q
    have hnl := enc_le n
    have hbl : bs.length + 1 ≤ 140737488355328 := by omega
    clear hlen
    have hba := Nat.le_trans hb happ2.size
    have HA := Lib.hid hall
    clear hall
    have HQ := Lib.hid hq
    have HB := Lib.hid hbl
    clear hq hbl
    by_cases hg : q < 128
    · have hd : decide ((128 : Int) ≤ (q : Int)) = false := by simp; omega
      have HE := Lib.hid (enc_small hg)
      have hor := low8 q
      generalize UInt8.ofNat q = x at hor HE
      clear hg
      go_wp2_with (at_builtin; refine wpList_app rfl _ _ _ rfl base 5 info5 Try.underlying37 _ bs rfl (hown2.alloc _) _ _ _ _ [x] rfl (Reads.built _ _ [bv x]) (by simpa using HB.out) (by simp; omega) ?_; intro v1 w1 hown3 happ3)
      go_ret
      exact ⟨_, rfl, by rw [← HA.out, HE.out]; exact hown3, happ2.trans happ3.from⟩
    · have hd : decide ((128 : Int) ≤ (q : Int)) = true := by simp; omega
      have hor := add128 q
      have HS := Lib.hid (fun v' w' => InRel.step (base := base) (v0 := .slice none 0 0) (w0 := w) (v' := v') (w' := w') HQ.out hg (h3 := HA.out) (bs := bs))
      generalize UInt8.ofNat (q % 128 + 128) = x at hor HS
      have hm : q / 128 < q := by omega
      have hw : IntKind.u64.wrap ((q : Int) / 128) = (q : Int) / 128 := by
        have := HQ.out
        rw [IntKind.wrap_u64]
        omega
      clear hg
      go_wp2_with (at_builtin; refine wpList_app rfl _ _ _ rfl base 5 info5 Try.underlying37 _ bs rfl (hown2.alloc _) _ _ _ _ [x] rfl (Reads.built _ _ [bv x]) (by simpa using HB.out) (by simp; omega) ?_; intro v1 w1 hown3 happ3)
      go_roundw
      case rel => exact HS.out v1 w1 hown3 (happ2.trans happ3.from)
      case measure => simp [intOf]; omega
end Go.Proofs.Ytjhkfpemcplaaaa
namespace Go.Proofs.Ytjhkfpemcplaaaa
open Go.RowKit

/-- block g is a reader: what is left reads l, below block B; b: something was bad -/
def PartIs (w : World) (T B g : Nat) (l : List UInt8) (b : Bool) : Prop :=
  B ≤ g ∧ l.length ≤ 9223372036854775807 ∧ ∃ A c, Blk w g T #[.slice A l.length c, .bool b] ∧ RdB w B A l.length l ∧ l.length ≤ c
theorem PartIs.grown {w w' : World} {T B g : Nat} {l : List UInt8} {b : Bool} {row : Option Nat} (h : PartIs w T B g l b) (hg : w.grownBy w' row) (hr : ∀ k, row = some k → B ≤ k) (hne : row ≠ some g) : PartIs w' T B g l b := by
  obtain ⟨h1, h2, A, c, hb, hr', hc⟩ := h
  have := hb.lt
  exact ⟨h1, h2, A, c, hb.grown hg (fun e => hne e.symm), hr'.grown hg (by omega) hr, hc⟩

def TakePost (w : World) (T B g : Nat) (m : Nat) (got rest : List UInt8) (b : Bool) (e : Ending) (w' : World) : Prop :=
  ∃ A c, e = .returned (.slice A m c) ∧ m = got.length ∧ RdB w' B A m got ∧ PartIs w' T B g rest b ∧ w.grownBy w' (some g)

set_option maxHeartbeats 400000 in
theorem take_bad (B g n : Nat) (l : List UInt8) (b : Bool) (w : World) (h : PartIs w 151 B g l b) (hn : l.length < n) :
    Calls Try.prog 93 #[.pointer (some ⟨g, 0, none⟩), .int .i64 n] w (TakePost w 151 B g 0 [] [] true) := by
  obtain ⟨h1, h2, A, c, hb, hr, hc⟩ := h
  have c0 := hb.cell 0
  have c1 := hb.cell 1
  have f0 := hb.frozen 0
  have f1 := hb.frozen 1
  simp at c0 c1
  go_enter Try.func93, Try.ntmps93
  go_wp2
  go_ret
  refine ⟨none, 0, rfl, rfl, Reads.none_, ⟨h1, by simp, none, 0, ?_, Reads.none_, by simp⟩, ?_⟩
  · have h3 := (hb.set_ 1 (.bool true)).set_ 0 (.slice none 0 0)
    simpa using h3
  · exact only_setCell (p := ⟨g, 0, none⟩) (only_setCell (p := ⟨g, 1, none⟩) (World.grownBy.refl w _) (.inl rfl) _) (.inl rfl) _
theorem take_end {B g n c c' : Nat} {l : List UInt8} {b : Bool} {w : World} {A A' : Option Addr} (h1 : B ≤ g) (h2 : l.length ≤ 9223372036854775807) (hb : Blk w g 151 #[.slice A l.length c, .bool b])
    (hr : RdB w B A l.length l) (hc : l.length ≤ c) (hn : n ≤ l.length) (hA : A' = if c = n then A else A.map (·.add n)) (hc' : c' = c - n) :
    TakePost w 151 B g n (l.take n) (l.drop n) b (.returned (.slice A n c)) (w.setCell ⟨g, 0, none⟩ (.slice A' (l.length - n) c')) := by
  have hcut := Reads.cut hr hn hc
  have hcut' : RdB w B A' (l.drop n).length (l.drop n) := by
    rw [hA, List.length_drop]
    show Reads w B 1 _ _ ((l.drop n).map bv)
    rw [List.map_drop]
    simpa using hcut
  have hne : ∀ B', B' ≤ g → B' ≤ (⟨g, 0, none⟩ : Addr).block := fun _ h => h
  have htake : RdB w B A n (l.take n) := by
    refine ⟨by simp; omega, fun h0 => ?_⟩
    obtain ⟨ad, e, hbk, hcell⟩ := hr.2 (by omega)
    refine ⟨ad, e, hbk, fun j u hu => hcell j u ?_⟩
    rw [List.map_take, List.getElem?_take] at hu
    split at hu
    · exact hu
    · cases hu
  refine ⟨A, c, rfl, by simp; omega, htake.setCell (hne B h1) _, ⟨h1, by simp; omega, A', c', ?_, hcut'.setCell (hne B h1) _, by simp; omega⟩, only_setCell (p := ⟨g, 0, none⟩) (World.grownBy.refl w _) (.inl rfl) _⟩
  have h3 := hb.set_ 0 (.slice A' (l.length - n) c')
  rw [List.length_drop]
  simpa using h3
set_option maxHeartbeats 400000 in
theorem take_ok (B g n : Nat) (l : List UInt8) (b : Bool) (w : World) (h : PartIs w 151 B g l b) (hn : n ≤ l.length)  :
    Calls Try.prog 93 #[.pointer (some ⟨g, 0, none⟩), .int .i64 n] w (TakePost w 151 B g n (l.take n) (l.drop n) b) := by
  obtain ⟨h1, h2, A, c, hb, hr, hc⟩ := h
  have c0 := hb.cell 0
  have c1 := hb.cell 1
  have f0 := hb.frozen 0
  have f1 := hb.frozen 1
  simp at c0 c1
  have hk : Hid (∀ A' c', (A' = if c = n then A else A.map (·.add n)) → c' = c - n → TakePost w 151 B g n (l.take n) (l.drop n) b (.returned (.slice A n c)) (w.setCell ⟨g, 0, none⟩ (.slice A' (l.length - n) c'))) :=
    Lib.hid fun _ _ e1 e2 => take_end h1 h2 hb hr hc hn e1 e2
  by_cases hcn : c = n
  · subst hcn
    go_enter Try.func93, Try.ntmps93
    go_wp2
    go_ret
    have h3 := hk.out A 0 (by simp) (by simp)
    rw [show l.length - c = 0 from by omega] at h3
    exact h3
  · go_enter Try.func93, Try.ntmps93
    go_wp2
    go_ret
    exact hk.out _ _ (by rw [if_neg hcn]) rfl

def BytePost (k : IntKind) (w : World) (T B g : Nat) (l : List UInt8) (b : Bool) (e : Ending) (w' : World) : Prop :=
  e = .returned (.int k (byteV l : Nat)) ∧ PartIs w' T B g l.tail (b || l.isEmpty) ∧ w.grownBy w' (some g)

set_option maxHeartbeats 400000 in
theorem byte_any (B g : Nat) (l : List UInt8) (b : Bool) (w : World) (h : PartIs w 151 B g l b) :
    Calls Try.prog 89 #[.pointer (some ⟨g, 0, none⟩)] w (BytePost .u8 w 151 B g l b) := by
  cases l with
  | nil =>
    have hk := Lib.hid (take_bad B g 1 [] b w h (by simp))
    clear h
    go_enter Try.func89, Try.ntmps89
    go_wp2_with fail
    refine hk.out.mono ?_
    rintro e w1 ⟨A, c, rfl, -, hr, hp, hg⟩
    have HP := Lib.hid hp
    clear hp hk
    go_wp2
    go_ret
    exact ⟨rfl, by simpa using HP.out, hg⟩
  | cons x l =>
    have hk := Lib.hid (take_ok B g 1 (x :: l) b w h (by simp))
    clear h
    go_enter Try.func89, Try.ntmps89
    go_wp2_with fail
    refine hk.out.mono ?_
    rintro e w1 ⟨A, c, rfl, -, hr, hp, hg⟩
    have HP := Lib.hid hp
    clear hp hk
    obtain ⟨ad, y, rfl, hb, hx, hc⟩ := Reads.byte (bs := [x]) hr (k := 0) (by omega)
    simp at hx
    subst hx
    have hc' : w1.cell? ad = some (.int .u8 (x.toNat : Int)) := by simpa [Addr.add] using hc
    go_wp2
    go_ret
    exact ⟨rfl, by simpa using HP.out, hg⟩

set_option maxHeartbeats 400000 in
theorem rbyte_any (B g : Nat) (l : List UInt8) (b : Bool) (w : World) (h : PartIs w 110 B g l b) :
    Calls Try.prog 45 #[.pointer (some ⟨g, 0, none⟩)] w (BytePost .i64 w 110 B g l b) := by
  obtain ⟨h1, h2, A, c, hb, hr, hc⟩ := h
  have c0 := hb.cell 0
  have c1 := hb.cell 1
  have f0 := hb.frozen 0
  have f1 := hb.frozen 1
  simp at c0 c1
  cases l with
  | nil =>
    go_enter Try.func45, Try.ntmps45
    go_wp2
    go_ret
    refine ⟨rfl, ⟨h1, by simp, A, c, ?_, hr.setCell (p := ⟨g, 1, none⟩) h1 _, by simp⟩, only_setCell (p := ⟨g, 1, none⟩) (World.grownBy.refl w _) (.inl rfl) _⟩
    have h3 := hb.set_ 1 (.bool true)
    simpa using h3
  | cons x l =>
    obtain ⟨ad, y, rfl, hbk, hx, hcell⟩ := Reads.byte hr (k := 0) (by simp)
    simp at hx
    subst hx
    have hc' : w.cell? ad = some (.int .u8 (x.toNat : Int)) := by simpa [Addr.add] using hcell
    have hk : Hid (∀ A' c', (A' = if c = 1 then some ad else some (ad.add 1)) → c' = c - 1 → BytePost .i64 w 110 B g (x :: l) b (.returned (.int .i64 (x.toNat : Int))) (w.setCell ⟨g, 0, none⟩ (.slice A' l.length c'))) := Lib.hid fun A' c' e1 e2 => by
      have hcut := Reads.cut hr (k := 1) (by simp) hc
      have hcut' : RdB w B A' l.length l := by
        rw [e1]
        simpa using hcut
      refine ⟨rfl, ⟨h1, by simp at h2 ⊢; omega, A', c', ?_, hcut'.setCell (p := ⟨g, 0, none⟩) h1 _, by simp at hc ⊢; omega⟩, only_setCell (p := ⟨g, 0, none⟩) (World.grownBy.refl w _) (.inl rfl) _⟩
      have h3 := hb.set_ 0 (.slice A' l.length c')
      simpa using h3
    simp at hc h2 c0
    clear hcell hr hb
    have hx8 := u8_lt x
    by_cases hcn : c = 1
    · subst hcn
      obtain rfl : l = [] := List.eq_nil_of_length_eq_zero (by omega)
      have hk2 := Lib.hid (hk.out (some ad) 0 (by simp) (by simp))
      clear hk
      go_enter Try.func45, Try.ntmps45
      go_wp2
      go_ret
      exact hk2.out
    · go_enter Try.func45, Try.ntmps45
      go_wp2
      go_ret
      exact hk.out _ _ (by simp [Addr.add, hcn]) rfl
end Go.Proofs.Ytjhkfpemcplaaaa
namespace Go.Proofs.Ytjhkfpemcplaaaa
open Go.RowKit

theorem PartIs.cells {w : World} {T B g : Nat} {l : List UInt8} {b : Bool} (h : PartIs w T B g l b) : w.cell? ⟨g, 1, none⟩ = some (.bool b) ∧ w.frozen? ⟨g, 1, none⟩ = false := by
  obtain ⟨h1, h2, A, c, hb, hr, hc⟩ := h
  have c1 := hb.cell 1
  simp at c1
  exact ⟨c1, hb.frozen 1⟩
theorem PartIs.setBad {w : World} {T B g : Nat} {l : List UInt8} {b : Bool} (h : PartIs w T B g l b) : PartIs (w.setCell ⟨g, 1, none⟩ (.bool true)) T B g l true := by
  obtain ⟨h1, h2, A, c, hb, hr, hc⟩ := h
  refine ⟨h1, h2, A, c, ?_, hr.setCell (p := ⟨g, 1, none⟩) h1 _, hc⟩
  have h3 := hb.set_ 1 (.bool true)
  simpa using h3
def CntPost (w : World) (T B g : Nat) (l : List UInt8) (b : Bool) (e : Ending) (w' : World) : Prop :=
  e = .returned (.int .u64 ((cnt l b).1 : Nat)) ∧ PartIs w' T B g (cnt l b).2.1 (cnt l b).2.2 ∧ w.grownBy w' (some g)
def CntRel (w : World) (T B g : Nat) (l : List UInt8) (b : Bool) (n i : Value) (wr : World) : Prop :=
  ∃ (j m : Nat) (l' : List UInt8) (b' : Bool), j ≤ 10 ∧ i = .int .i64 j ∧ n = .int .u64 m ∧ m < 2 ^ (7 * j) ∧ PartIs wr T B g l' b' ∧ w.grownBy wr (some g) ∧ cnt l b = cntS (10 - j) j m l' b'
/-- a bad end -/
theorem CntPost.bad {w w1 : World} {T B g : Nat} {l l' : List UInt8} {b b1 : Bool} (h : cnt l b = (0, l', true)) (hp : PartIs w1 T B g l' b1) (hg : w.grownBy w1 (some g)) :
    CntPost w T B g l b (.returned (.int .u64 0)) (w1.setCell ⟨g, 1, none⟩ (.bool true)) := by
  refine ⟨by rw [h]; rfl, by rw [h]; exact hp.setBad, only_setCell (p := ⟨g, 1, none⟩) hg (.inl rfl) _⟩
theorem CntPost.good {w w1 : World} {T B g n : Nat} {l l' : List UInt8} {b : Bool} (h : cnt l b = (n, l', false)) (hp : PartIs w1 T B g l' false) (hg : w.grownBy w1 (some g)) :
    CntPost w T B g l b (.returned (.int .u64 (n : Int))) w1 := by
  refine ⟨by rw [h], by rw [h]; exact hp, hg⟩

set_option maxRecDepth 20000 in
set_option maxHeartbeats 4000000 in
theorem cnt_any (B g : Nat) (l : List UInt8) (b : Bool) (w : World) (h : PartIs w 151 B g l b) :
    Calls Try.prog 90 #[.pointer (some ⟨g, 0, none⟩)] w (CntPost w 151 B g l b) := by
  go_enter Try.func90, Try.ntmps90
  go_wp2
  go_loopw [3, 4, 5, 6] (fun n _ _ i wr => CntRel w 151 B g l b n i wr) (fun _ _ _ i _ => 10 - (intOf i).toNat)
  case atStart => exact ⟨0, 0, l, b, by omega, rfl, rfl, by simp, h, World.grownBy.refl w _, rfl⟩
  case round =>
    obtain ⟨j, m, l', b', hj, rfl, rfl, hm, hp, hg, hcnt⟩ := hrel
    have HM := Lib.hid hm
    have HC := Lib.hid hcnt
    clear hm hcnt h
    by_cases hlt : j < 10
    · have hby := Lib.hid (byte_any B g l' b' _ hp)
      clear hp
      obtain ⟨f, hf⟩ : ∃ f, 10 - j = f + 1 := ⟨9 - j, by omega⟩
      have HF := Lib.hid hf
      clear hf
      have hx := byteV_lt l'
      have ha := and127 hx
      go_wp2_with fail
      refine hby.out.mono ?_
      rintro e w1 ⟨rfl, hp1, hg1⟩
      obtain ⟨c1, f1⟩ := hp1.cells
      have hg2 := hg.trans hg1
      clear hg hg1 hby
      have HP := Lib.hid hp1
      clear hp1
      by_cases hb1 : (b' || l'.isEmpty) = true
      · rw [hb1] at c1
        have HE := Lib.hid (CntPost.bad (w := w) (b1 := (b' || l'.isEmpty)) (by rw [HC.out, HF.out]; exact cntS_bad (by rw [hb1]; rfl)) HP.out hg2)
        clear hb1 hg2
        go_wp2
        go_ret
        exact HE.out
      · have hb2 := eq_false_of_ne_true hb1
        clear hb1
        rw [hb2] at c1
        by_cases h9 : j = 9
        · have d9 : ((j : Int) == 9) = true := by rw [beq_iff_eq]; omega
          have d0 : decide ((0 : Int) < (j : Int)) = true := by simp; omega
          have p0 : 0 < j := by omega
          by_cases x1 : 1 < byteV l'
          · have e1 : decide ((1 : Int) < (byteV l' : Int)) = true := by simp; omega
            have HE := Lib.hid (CntPost.bad (w := w) (b1 := (b' || l'.isEmpty)) (by rw [HC.out, HF.out]; exact cntS_bad (by simp [hb2, h9, x1])) HP.out hg2)
            clear hb2 hg2 h9
            go_wp2
            go_ret
            exact HE.out
          · have e1 : decide ((1 : Int) < (byteV l' : Int)) = false := by simp; omega
            by_cases x0 : byteV l' = 0
            · have e0 : ((byteV l' : Int) == 0) = true := by rw [beq_iff_eq]; omega
              have HE := Lib.hid (CntPost.bad (w := w) (b1 := (b' || l'.isEmpty)) (by rw [HC.out, HF.out]; exact cntS_bad (by simp [hb2, h9, x0])) HP.out hg2)
              clear hb2 hg2 h9 x0
              go_wp2
              go_ret
              exact HE.out
            · have e0 : ((byteV l' : Int) == 0) = false := by rw [beq_eq_false_iff_ne]; omega
              have hz : ((b' || l'.isEmpty) || (j == 9 && decide (1 < byteV l')) || (decide (0 < j) && byteV l' == 0)) = false := by simp [hb2, h9, x0, x1]
              have HE := Lib.hid (CntPost.good (w := w) (by rw [HC.out, HF.out]; exact cntS_end hz (by omega)) (by rw [← hb2]; exact HP.out) hg2)
              have ho := orshl (i := j) (n := m) (x := byteV l') (by omega) HM.out (by omega)
              have d128 : decide ((byteV l' : Int) < 128) = true := by simp; omega
              clear hb2 hg2 hz h9
              generalize m + byteV l' % 128 * 2 ^ (7 * j) = s at HE ho
              go_wp2
              go_ret
              exact HE.out
        · have d9 : ((j : Int) == 9) = false := by rw [beq_eq_false_iff_ne]; omega
          by_cases h0 : j = 0
          · have d0 : decide ((0 : Int) < (j : Int)) = false := by simp; omega
            have p0 : ¬ 0 < j := by omega
            by_cases x128 : byteV l' < 128
            · skip
              have hz : ((b' || l'.isEmpty) || (j == 9 && decide (1 < byteV l')) || (decide (0 < j) && byteV l' == 0)) = false := by simp [hb2, h0]
              have HE := Lib.hid (CntPost.good (w := w) (by rw [HC.out, HF.out]; exact cntS_end hz (by omega)) (by rw [← hb2]; exact HP.out) hg2)
              have ho := orshl (i := j) (n := m) (x := byteV l') (by omega) HM.out (by omega)
              have d128 : decide ((byteV l' : Int) < 128) = true := by simp; omega
              clear hb2 hg2 hz h9 h0
              generalize m + byteV l' % 128 * 2 ^ (7 * j) = s at HE ho
              go_wp2
              go_ret
              exact HE.out
            · skip
              have hz : ((b' || l'.isEmpty) || (j == 9 && decide (1 < byteV l')) || (decide (0 < j) && byteV l' == 0)) = false := by simp [hb2, h0]
              have HE : Hid (CntRel w 151 B g l b (.int .u64 ((m + byteV l' % 128 * 2 ^ (7 * j) : Nat) : Int)) (.int .i64 ((j + 1 : Nat) : Int)) w1) := Lib.hid ⟨j + 1, _, l'.tail, false, by omega, rfl, rfl, acc_lt HM.out (by omega), by rw [← hb2]; exact HP.out, hg2, by rw [HC.out, HF.out, cntS_on hz (by omega)]; congr 1; have := HF.out; omega⟩
              have ho := orshl (i := j) (n := m) (x := byteV l') (by omega) HM.out (by omega)
              have d128 : decide ((byteV l' : Int) < 128) = false := by simp; omega
              clear hb2 hg2 hz h9 h0
              generalize m + byteV l' % 128 * 2 ^ (7 * j) = s at HE ho
              go_wp2
              go_roundw
              case rel => exact HE.out
              case measure => simp [intOf]; omega
          · have d0 : decide ((0 : Int) < (j : Int)) = true := by simp; omega
            have p0 : 0 < j := by omega
            by_cases x0 : byteV l' = 0
            · have e0 : ((byteV l' : Int) == 0) = true := by rw [beq_iff_eq]; omega
              have HE := Lib.hid (CntPost.bad (w := w) (b1 := (b' || l'.isEmpty)) (by rw [HC.out, HF.out]; exact cntS_bad (by simp [hb2, x0]; omega)) HP.out hg2)
              clear hb2 hg2 h9 x0
              go_wp2
              go_ret
              exact HE.out
            · have e0 : ((byteV l' : Int) == 0) = false := by rw [beq_eq_false_iff_ne]; omega
              by_cases x128 : byteV l' < 128
              · skip
                have hz : ((b' || l'.isEmpty) || (j == 9 && decide (1 < byteV l')) || (decide (0 < j) && byteV l' == 0)) = false := by simp [hb2, h9, x0]
                have HE := Lib.hid (CntPost.good (w := w) (by rw [HC.out, HF.out]; exact cntS_end hz (by omega)) (by rw [← hb2]; exact HP.out) hg2)
                have ho := orshl (i := j) (n := m) (x := byteV l') (by omega) HM.out (by omega)
                have d128 : decide ((byteV l' : Int) < 128) = true := by simp; omega
                clear hb2 hg2 hz h9
                generalize m + byteV l' % 128 * 2 ^ (7 * j) = s at HE ho
                go_wp2
                go_ret
                exact HE.out
              · skip
                have hz : ((b' || l'.isEmpty) || (j == 9 && decide (1 < byteV l')) || (decide (0 < j) && byteV l' == 0)) = false := by simp [hb2, h9, x0]
                have HE : Hid (CntRel w 151 B g l b (.int .u64 ((m + byteV l' % 128 * 2 ^ (7 * j) : Nat) : Int)) (.int .i64 ((j + 1 : Nat) : Int)) w1) := Lib.hid ⟨j + 1, _, l'.tail, false, by omega, rfl, rfl, acc_lt HM.out (by omega), by rw [← hb2]; exact HP.out, hg2, by rw [HC.out, HF.out, cntS_on hz (by omega)]; congr 1; have := HF.out; omega⟩
                have ho := orshl (i := j) (n := m) (x := byteV l') (by omega) HM.out (by omega)
                have d128 : decide ((byteV l' : Int) < 128) = false := by simp; omega
                clear hb2 hg2 hz h9
                generalize m + byteV l' % 128 * 2 ^ (7 * j) = s at HE ho
                go_wp2
                go_roundw
                case rel => exact HE.out
                case measure => simp [intOf]; omega
    · obtain rfl : j = 10 := by omega
      obtain ⟨c1, f1⟩ := hp.cells
      have HE := Lib.hid (CntPost.bad (w := w) (l' := l') (b1 := b') (by rw [HC.out]; rfl) hp hg)
      clear hp hg
      go_wp2
      go_ret
      exact HE.out
set_option maxRecDepth 20000 in
set_option maxHeartbeats 4000000 in
theorem rcnt_any (B g : Nat) (l : List UInt8) (b : Bool) (w : World) (h : PartIs w 110 B g l b) :
    Calls Try.prog 46 #[.pointer (some ⟨g, 0, none⟩)] w (CntPost w 110 B g l b) := by
  go_enter Try.func46, Try.ntmps46
  go_wp2
  go_loopw [3, 4, 5] (fun n i _ wr => CntRel w 110 B g l b n i wr) (fun _ i _ _ => 10 - (intOf i).toNat)
  case atStart => exact ⟨0, 0, l, b, by omega, rfl, rfl, by simp, h, World.grownBy.refl w _, rfl⟩
  case round =>
    obtain ⟨j, m, l', b', hj, rfl, rfl, hm, hp, hg, hcnt⟩ := hrel
    have HM := Lib.hid hm
    have HC := Lib.hid hcnt
    clear hm hcnt h
    by_cases hlt : j < 10
    · have hby := Lib.hid (rbyte_any B g l' b' _ hp)
      clear hp
      obtain ⟨f, hf⟩ : ∃ f, 10 - j = f + 1 := ⟨9 - j, by omega⟩
      have HF := Lib.hid hf
      clear hf
      have hx := byteV_lt l'
      go_wp2_with fail
      refine hby.out.mono ?_
      rintro e w1 ⟨rfl, hp1, hg1⟩
      obtain ⟨c1, f1⟩ := hp1.cells
      have hg2 := hg.trans hg1
      clear hg hg1 hby
      have HP := Lib.hid hp1
      clear hp1
      by_cases hb1 : (b' || l'.isEmpty) = true
      · rw [hb1] at c1
        have HE := Lib.hid (CntPost.bad (w := w) (b1 := (b' || l'.isEmpty)) (by rw [HC.out, HF.out]; exact cntS_bad (by rw [hb1]; rfl)) HP.out hg2)
        clear hb1 hg2
        go_wp2
        go_ret
        exact HE.out
      · have hb2 := eq_false_of_ne_true hb1
        clear hb1
        rw [hb2] at c1
        by_cases h9 : j = 9
        · have d9 : ((j : Int) == 9) = true := by rw [beq_iff_eq]; omega
          have d0 : decide ((0 : Int) < (j : Int)) = true := by simp; omega
          have p0 : 0 < j := by omega
          by_cases x1 : 1 < byteV l'
          · have e1 : decide ((1 : Int) < (byteV l' : Int)) = true := by simp; omega
            have HE := Lib.hid (CntPost.bad (w := w) (b1 := (b' || l'.isEmpty)) (by rw [HC.out, HF.out]; exact cntS_bad (by simp [hb2, h9, x1])) HP.out hg2)
            clear hb2 hg2 h9
            go_wp2
            go_ret
            exact HE.out
          · have e1 : decide ((1 : Int) < (byteV l' : Int)) = false := by simp; omega
            by_cases x0 : byteV l' = 0
            · have e0 : ((byteV l' : Int) == 0) = true := by rw [beq_iff_eq]; omega
              have HE := Lib.hid (CntPost.bad (w := w) (b1 := (b' || l'.isEmpty)) (by rw [HC.out, HF.out]; exact cntS_bad (by simp [hb2, h9, x0])) HP.out hg2)
              clear hb2 hg2 h9 x0
              go_wp2
              go_ret
              exact HE.out
            · have e0 : ((byteV l' : Int) == 0) = false := by rw [beq_eq_false_iff_ne]; omega
              have hz : ((b' || l'.isEmpty) || (j == 9 && decide (1 < byteV l')) || (decide (0 < j) && byteV l' == 0)) = false := by simp [hb2, h9, x0, x1]
              have HE := Lib.hid (CntPost.good (w := w) (by rw [HC.out, HF.out]; exact cntS_end hz (by omega)) (by rw [← hb2]; exact HP.out) hg2)
              have ho := addshl (i := j) (n := m) (x := byteV l') (by omega) HM.out (by omega)
              have d128 : decide ((byteV l' : Int) < 128) = true := by simp; omega
              clear hb2 hg2 hz h9
              generalize m + byteV l' % 128 * 2 ^ (7 * j) = s at HE ho
              go_wp2
              go_ret
              exact HE.out
        · have d9 : ((j : Int) == 9) = false := by rw [beq_eq_false_iff_ne]; omega
          by_cases h0 : j = 0
          · have d0 : decide ((0 : Int) < (j : Int)) = false := by simp; omega
            have p0 : ¬ 0 < j := by omega
            by_cases x128 : byteV l' < 128
            · skip
              have hz : ((b' || l'.isEmpty) || (j == 9 && decide (1 < byteV l')) || (decide (0 < j) && byteV l' == 0)) = false := by simp [hb2, h0]
              have HE := Lib.hid (CntPost.good (w := w) (by rw [HC.out, HF.out]; exact cntS_end hz (by omega)) (by rw [← hb2]; exact HP.out) hg2)
              have ho := addshl (i := j) (n := m) (x := byteV l') (by omega) HM.out (by omega)
              have d128 : decide ((byteV l' : Int) < 128) = true := by simp; omega
              clear hb2 hg2 hz h9 h0
              generalize m + byteV l' % 128 * 2 ^ (7 * j) = s at HE ho
              go_wp2
              go_ret
              exact HE.out
            · skip
              have hz : ((b' || l'.isEmpty) || (j == 9 && decide (1 < byteV l')) || (decide (0 < j) && byteV l' == 0)) = false := by simp [hb2, h0]
              have HE : Hid (CntRel w 110 B g l b (.int .u64 ((m + byteV l' % 128 * 2 ^ (7 * j) : Nat) : Int)) (.int .i64 ((j + 1 : Nat) : Int)) w1) := Lib.hid ⟨j + 1, _, l'.tail, false, by omega, rfl, rfl, acc_lt HM.out (by omega), by rw [← hb2]; exact HP.out, hg2, by rw [HC.out, HF.out, cntS_on hz (by omega)]; congr 1; have := HF.out; omega⟩
              have ho := addshl (i := j) (n := m) (x := byteV l') (by omega) HM.out (by omega)
              have d128 : decide ((byteV l' : Int) < 128) = false := by simp; omega
              clear hb2 hg2 hz h9 h0
              generalize m + byteV l' % 128 * 2 ^ (7 * j) = s at HE ho
              go_wp2
              go_roundw
              case rel => exact HE.out
              case measure => simp [intOf]; omega
          · have d0 : decide ((0 : Int) < (j : Int)) = true := by simp; omega
            have p0 : 0 < j := by omega
            by_cases x0 : byteV l' = 0
            · have e0 : ((byteV l' : Int) == 0) = true := by rw [beq_iff_eq]; omega
              have HE := Lib.hid (CntPost.bad (w := w) (b1 := (b' || l'.isEmpty)) (by rw [HC.out, HF.out]; exact cntS_bad (by simp [hb2, x0]; omega)) HP.out hg2)
              clear hb2 hg2 h9 x0
              go_wp2
              go_ret
              exact HE.out
            · have e0 : ((byteV l' : Int) == 0) = false := by rw [beq_eq_false_iff_ne]; omega
              by_cases x128 : byteV l' < 128
              · skip
                have hz : ((b' || l'.isEmpty) || (j == 9 && decide (1 < byteV l')) || (decide (0 < j) && byteV l' == 0)) = false := by simp [hb2, h9, x0]
                have HE := Lib.hid (CntPost.good (w := w) (by rw [HC.out, HF.out]; exact cntS_end hz (by omega)) (by rw [← hb2]; exact HP.out) hg2)
                have ho := addshl (i := j) (n := m) (x := byteV l') (by omega) HM.out (by omega)
                have d128 : decide ((byteV l' : Int) < 128) = true := by simp; omega
                clear hb2 hg2 hz h9
                generalize m + byteV l' % 128 * 2 ^ (7 * j) = s at HE ho
                go_wp2
                go_ret
                exact HE.out
              · skip
                have hz : ((b' || l'.isEmpty) || (j == 9 && decide (1 < byteV l')) || (decide (0 < j) && byteV l' == 0)) = false := by simp [hb2, h9, x0]
                have HE : Hid (CntRel w 110 B g l b (.int .u64 ((m + byteV l' % 128 * 2 ^ (7 * j) : Nat) : Int)) (.int .i64 ((j + 1 : Nat) : Int)) w1) := Lib.hid ⟨j + 1, _, l'.tail, false, by omega, rfl, rfl, acc_lt HM.out (by omega), by rw [← hb2]; exact HP.out, hg2, by rw [HC.out, HF.out, cntS_on hz (by omega)]; congr 1; have := HF.out; omega⟩
                have ho := addshl (i := j) (n := m) (x := byteV l') (by omega) HM.out (by omega)
                have d128 : decide ((byteV l' : Int) < 128) = false := by simp; omega
                clear hb2 hg2 hz h9
                generalize m + byteV l' % 128 * 2 ^ (7 * j) = s at HE ho
                go_wp2
                go_roundw
                case rel => exact HE.out
                case measure => simp [intOf]; omega
    · obtain rfl : j = 10 := by omega
      obtain ⟨c1, f1⟩ := hp.cells
      have HE := Lib.hid (CntPost.bad (w := w) (l' := l') (b1 := b') (by rw [HC.out]; rfl) hp hg)
      clear hp hg
      go_wp2
      go_ret
      exact HE.out
end Go.Proofs.Ytjhkfpemcplaaaa
namespace Go.Proofs.Ytjhkfpemcplaaaa
open Go.RowKit

def mayB (k : Int) (n : Nat) : Bool := decide (1 ≤ k) && decide (k ≤ 7) && decide (n ≤ 1024)
set_option maxRecDepth 20000 in
set_option maxHeartbeats 1000000 in
theorem may_any (k : Int) (t s a : Value) (A : Option Addr) (n c : Nat) (w : World) (ht : ∃ x, t = .int .u64 x) (hs : ∃ x, s = .int .u64 x) (ha : ∃ x, a = .int .u64 x) :
    Calls Try.prog 86 #[.agg #[.int .i64 k, t, s, a, .slice A n c]] w fun e w' => e = .returned (.bool (mayB k n)) ∧ w.alloc (.cells #[.int .i64 k, t, s, a, .slice A n c] 39) = w' := by
  obtain ⟨t, rfl⟩ := ht
  obtain ⟨s, rfl⟩ := hs
  obtain ⟨a, rfl⟩ := ha
  by_cases h1 : 1 ≤ k
  · by_cases h2 : k ≤ 7
    · have e : mayB k n = decide ((n : Int) ≤ 1024) := by simp [mayB, h1, h2]; omega
      rw [e]
      go_enter Try.func86, Try.ntmps86
      go_wp2
      go_ret
      exact ⟨rfl, rfl⟩
    · have e : mayB k n = false := by simp [mayB, h2]
      rw [e]
      go_enter Try.func86, Try.ntmps86
      go_wp2
      go_ret
      exact ⟨rfl, rfl⟩
  · have e : mayB k n = false := by simp [mayB, h1]
    rw [e]
    go_enter Try.func86, Try.ntmps86
    go_wp2
    go_ret
    exact ⟨rfl, rfl⟩

set_option maxRecDepth 20000 in
set_option maxHeartbeats 1000000 in
theorem rmay_any (k : Int) (t s a : Value) (A : Option Addr) (n c : Nat) (w : World) (ht : ∃ x, t = .int .u64 x) (hs : ∃ x, s = .int .u64 x) (ha : ∃ x, a = .int .u64 x) :
    Calls Try.prog 47 #[.agg #[.int .i64 k, t, s, a, .slice A n c]] w fun e w' => e = .returned (.bool (mayB k n)) ∧ w.alloc (.cells #[.int .i64 k, t, s, a, .slice A n c] 39) = w' := by
  obtain ⟨t, rfl⟩ := ht
  obtain ⟨s, rfl⟩ := hs
  obtain ⟨a, rfl⟩ := ha
  by_cases h1 : 1 ≤ k
  · by_cases h2 : k ≤ 7
    · have e : mayB k n = decide ((n : Int) ≤ 1024) := by simp [mayB, h1, h2]; omega
      rw [e]
      go_enter Try.func47, Try.ntmps47
      go_wp2
      go_ret
      exact ⟨rfl, rfl⟩
    · have e : mayB k n = false := by simp [mayB, h2]
      rw [e]
      go_enter Try.func47, Try.ntmps47
      go_wp2
      go_ret
      exact ⟨rfl, rfl⟩
  · have e : mayB k n = false := by simp [mayB, h1]
    rw [e]
    go_enter Try.func47, Try.ntmps47
    go_wp2
    go_ret
    exact ⟨rfl, rfl⟩

/-- the count of a signed number -/
def zig (n : Int) : Nat := if 0 ≤ n then (2 * n).toNat else (2 * (-(n + 1)) + 1).toNat
set_option maxRecDepth 20000 in
theorem zig_any (n : Int) (w : World) (h : -9223372036854775808 ≤ n ∧ n ≤ 9223372036854775807) :
    Calls Try.prog 74 #[.int .i64 n] w fun e w' => e = .returned (.int .u64 (zig n : Nat)) ∧ w = w' := by
  obtain ⟨h1, h2⟩ := h
  by_cases h0 : 0 ≤ n
  · have e : ((zig n : Nat) : Int) = 2 * n := by unfold zig; rw [if_pos h0]; omega
    rw [e]
    go_enter Try.func74, Try.ntmps74
    go_wp2
    go_ret
    exact ⟨ret_int (by simp), rfl⟩
  · have e : ((zig n : Nat) : Int) = 2 * (-(n + 1)) + 1 := by unfold zig; rw [if_neg h0]; omega
    rw [e]
    go_enter Try.func74, Try.ntmps74
    go_wp2
    go_ret
    exact ⟨ret_int (by simp), rfl⟩
theorem zig_lt {n : Int} (h : -9223372036854775808 ≤ n ∧ n ≤ 9223372036854775807) : zig n < 18446744073709551616 := by unfold zig; split <;> omega
set_option maxRecDepth 20000 in
theorem rzig_any (n : Int) (w : World) (h : -9223372036854775808 ≤ n ∧ n ≤ 9223372036854775807) :
    Calls Try.prog 42 #[.int .i64 n] w fun e w' => e = .returned (.int .u64 (zig n : Nat)) ∧ w = w' := by
  obtain ⟨h1, h2⟩ := h
  by_cases h0 : 0 ≤ n
  · have e : ((zig n : Nat) : Int) = 2 * n := by unfold zig; rw [if_pos h0]; omega
    rw [e]
    go_enter Try.func42, Try.ntmps42
    go_wp2
    go_ret
    exact ⟨ret_int (by simp), rfl⟩
  · have e : ((zig n : Nat) : Int) = 2 * (-(n + 1)) + 1 := by unfold zig; rw [if_neg h0]; omega
    rw [e]
    go_enter Try.func42, Try.ntmps42
    go_wp2
    go_ret
    exact ⟨ret_int (by simp), rfl⟩

/-- the length that a frame's head tells -/
def lenOf (bs : List UInt8) : Nat := (bs.getD 2 0).toNat + 256 * (bs.getD 3 0).toNat
theorem or_shl8 {a b : Nat} (ha : a < 256) (hb : b < 256) : bits .or .i64 (a : Int) (((b : Int) * 256)) = ((a + 256 * b : Nat) : Int) := by
  have h1 : a ||| (256 * b) = a + 256 * b := by
    have := Nat.two_pow_add_eq_or_of_lt (i := 8) (b := a) (by omega) b
    rw [Nat.or_comm, show 256 * b = 2 ^ 8 * b from by omega, ← this]
    omega
  have h2 : bits .or .i64 (a : Int) ((256 * b : Nat) : Int) = ((a ||| (256 * b) : Nat) : Int) := by
    have hx : a ||| (256 * b) < 2 ^ 63 := Nat.or_lt_two_pow (by omega) (by omega)
    have e : ∀ n : Nat, n < 9223372036854775808 → (BitVec.ofInt 64 (n : Int)).toNat = n := fun n hn => by
      rw [BitVec.ofInt_natCast, BitVec.toNat_ofNat]; exact Nat.mod_eq_of_lt (by omega)
    show IntKind.i64.wrap ((BitVec.ofInt 64 (a : Int) ||| BitVec.ofInt 64 ((256 * b : Nat) : Int)).toNat : Int) = _
    rw [BitVec.toNat_or, e a (by omega), e (256 * b) (by omega), IntKind.wrap_i64]
    omega
  rw [h1] at h2
  have e : (b : Int) * 256 = ((256 * b : Nat) : Int) := by omega
  rw [e]
  exact h2
theorem byte_getD {w : World} {B n : Nat} {A : Option Addr} {bs : List UInt8} (h : RdB w B A n bs) {k : Nat} (hk : k < n) :
    ∃ b off, A = some ⟨b, off, none⟩ ∧ w.cell? ⟨b, off + k, none⟩ = some (.int .u8 ((bs.getD k 0).toNat : Int)) := by
  obtain ⟨⟨b, off, spot⟩, x, e, _, hx, hc⟩ := h.byte hk
  have hspot : spot = none := by
    obtain ⟨ad0, x0, e0, _, _, hc0⟩ := h.byte (k := 0) (by omega)
    rw [e] at e0
    injection e0 with e0
    subst e0
    simpa [Addr.add] using World.cell?_spot hc0
  subst hspot
  refine ⟨b, off, e, ?_⟩
  rw [List.getD_eq_getElem?_getD, hx]
  have e2 : (⟨b, off, none⟩ : Addr).add k = ⟨b, off + k, none⟩ := by unfold Addr.add; split <;> simp_all
  rw [← e2]
  exact hc
set_option maxRecDepth 20000 in
set_option maxHeartbeats 1000000 in
theorem length_any (A : Option Addr) (n c B : Nat) (bs : List UInt8) (w : World) (h : RdB w B A n bs) (hn : 4 ≤ n) :
    Calls Try.prog 75 #[.slice A n c] w fun e w' => e = .returned (.int .i64 (lenOf bs : Nat)) ∧ ∃ k, w' = w.drewN k := by
  obtain ⟨b, off, rfl, c2⟩ := byte_getD h (k := 2) (by omega)
  obtain ⟨b', off', e, c3⟩ := byte_getD h (k := 3) (by omega)
  injection e with e
  injection e with e1 e2
  subst e1 e2
  have h2 := u8_lt (bs.getD 2 0)
  have h3 := u8_lt (bs.getD 3 0)
  have ho := or_shl8 h2 h3
  have hl : ((lenOf bs : Nat) : Int) = (((bs.getD 2 0).toNat + 256 * (bs.getD 3 0).toNat : Nat) : Int) := rfl
  rw [hl]
  generalize bs.getD 2 0 = x at *
  generalize bs.getD 3 0 = y at *
  have HN := Lib.hid hn
  have n2 : (2 : Int) < (n : Int) := by omega
  have n3 : (3 : Int) < (n : Int) := by omega
  clear hn hl
  go_enter Try.func75, Try.ntmps75
  go_wp2
  go_quiet (fail)
  go_wp2
  go_ret
  exact ⟨rfl, _, rfl⟩

set_option maxRecDepth 20000 in
/-- two slices of bytes as strings -/
theorem equal_any (A A' : Option Addr) (n n' c c' B B' : Nat) (bs bs' : List UInt8) (w : World) (h : RdB w B A n bs) (h' : RdB w B' A' n' bs') :
    Calls Try.prog 88 #[.slice A n c, .slice A' n' c'] w fun e w' => e = .returned (.bool (bs == bs')) ∧ w = w' := by
  have h1 := run_string_of (P := Try.prog) (c := c) w 37 9 5 h Try.underlying37 Try.underlying5 Try.underlying9
  have h2 := run_string_of (P := Try.prog) (c := c') w 37 9 5 h' Try.underlying37 Try.underlying5 Try.underlying9
  go_enter Try.func88, Try.ntmps88
  go_wp2
  go_ret
  exact ⟨ret_bool (by simp), rfl⟩

def sameB (k k' : Int) (t t' s s' a a' : Nat) (bs bs' : List UInt8) : Bool := k == k' && (t == t') && (s == s') && (a == a') && (bs == bs')
end Go.Proofs.Ytjhkfpemcplaaaa
namespace Go.Proofs.Ytjhkfpemcplaaaa
open Go.RowKit

/-- one bit of the division -/
def crc1 (s : Nat) : Nat := if s % 2 = 1 then (s / 2) ^^^ 3988292384 else s / 2
def crc8 : Nat → Nat → Nat
  | 0, s => s
  | k + 1, s => crc1 (crc8 k s)
def crcF (s : Nat) (bs : List UInt8) : Nat := bs.foldl (fun s x => crc8 8 (s ^^^ x.toNat)) s
def crc (bs : List UInt8) : Nat := 4294967295 - crcF 4294967295 bs

theorem crc1_lt {s : Nat} (h : s < 4294967296) : crc1 s < 4294967296 := by
  unfold crc1
  split
  · exact Nat.xor_lt_two_pow (n := 32) (by omega) (by omega)
  · omega
theorem crc8_lt {s : Nat} (h : s < 4294967296) (k : Nat) : crc8 k s < 4294967296 := by
  induction k with
  | zero => exact h
  | succ k ih => exact crc1_lt ih
theorem xor_lt {s x : Nat} (h : s < 4294967296) (hx : x < 256) : s ^^^ x < 4294967296 := Nat.xor_lt_two_pow (n := 32) h (by omega)
theorem crcF_lt (bs : List UInt8) : ∀ {s : Nat}, s < 4294967296 → crcF s bs < 4294967296 := by
  induction bs with
  | nil => intro s h; exact h
  | cons x l ih => intro s h; exact ih (crc8_lt (xor_lt h (u8_lt x)) 8)
theorem crcF_snoc (s : Nat) (bs : List UInt8) (x : UInt8) : crcF s (bs ++ [x]) = crc8 8 (crcF s bs ^^^ x.toNat) := by simp [crcF]
theorem crcF_take (s : Nat) (bs : List UInt8) (k : Nat) (x : UInt8) (h : bs[k]? = some x) : crcF s (bs.take (k + 1)) = crc8 8 (crcF s (bs.take k) ^^^ x.toNat) := by
  rw [List.take_add_one, h]; exact crcF_snoc _ _ _
theorem crc_lt (bs : List UInt8) : crc bs < 4294967296 := by unfold crc; omega
theorem crc1_odd {s : Nat} (h : s % 2 = 1) : crc1 s = (s / 2) ^^^ 3988292384 := by unfold crc1; rw [if_pos h]
theorem crc1_even {s : Nat} (h : ¬ s % 2 = 1) : crc1 s = s / 2 := by unfold crc1; rw [if_neg h]

end Go.Proofs.Ytjhkfpemcplaaaa
namespace Go.Proofs.Ytjhkfpemcplaaaa
open Go.RowKit

theorem xor_u32 {a b : Nat} (ha : a < 4294967296) (hb : b < 256) : bits .xor .u32 (a : Int) ((b : Int) % 4294967296) = ((a ^^^ b : Nat) : Int) := by
  have e : (b : Int) % 4294967296 = (b : Int) := by omega
  rw [e]
  exact u32_xor_nat a b ha (by omega)
theorem and1_u32 {a : Nat} (ha : a < 4294967296) : bits .and .u32 (a : Int) 1 = ((a % 2 : Nat) : Int) := by
  have h := u32_and_nat a 1 ha (by omega)
  rw [Nat.and_one_is_mod] at h
  exact h
theorem poly_u32 {a : Nat} (ha : a < 4294967296) : bits .xor .u32 ((a : Int) / 2) 3988292384 = ((a / 2 ^^^ 3988292384 : Nat) : Int) :=
  u32_xor_nat (a / 2) 3988292384 (by omega) (by omega)
theorem not_u32 {a : Nat} (ha : a < 4294967296) : bits .xor .u32 IntKind.u32.max (a : Int) = ((4294967295 - a : Nat) : Int) := by
  have h := u32_xor_nat 4294967295 a (by omega) ha
  rw [show (4294967295 : Nat) ^^^ a = 4294967295 - a from ?_] at h
  · exact h
  · apply Nat.eq_of_testBit_eq
    intro i
    rw [Nat.testBit_xor, show (4294967295 : Nat) = 2 ^ 32 - (0 + 1) from rfl, show 2 ^ 32 - (0 + 1) - a = 2 ^ 32 - (a + 1) from by omega, Nat.testBit_two_pow_sub_succ (by omega), Nat.testBit_two_pow_sub_succ (by omega)]
    by_cases h : i < 32
    · simp [h]
    · simp only [h, decide_false, Bool.false_xor, Bool.false_and]
      exact Nat.testBit_lt_two_pow (Nat.lt_of_lt_of_le ha (Nat.pow_le_pow_right (n := 2) (i := 32) (by omega) (by omega : 32 ≤ i)))

set_option maxHeartbeats 400000 in
theorem sum_any (A : Option Addr) (n c B : Nat) (bs : List UInt8) (w : World) (h : RdB w B A n bs) (hn : n ≤ 9223372036854775807) :
    Calls Try.prog 87 #[.slice A n c] w fun e w' => e = .returned (.int .u32 (crc bs : Nat)) ∧ w = w' := by
  have hl := h.len1
  go_enter Try.func87, Try.ntmps87
  go_wp2
  go_loop [3, 5, 6, 9] (fun s _ _ i => ∃ k : Nat, k ≤ n ∧ i = .int .i64 k ∧ s = .int .u32 (crcF 4294967295 (bs.take k) : Nat)) (fun _ _ _ i => n - (intOf i).toNat)
  case atStart => exact ⟨0, Nat.zero_le _, rfl, rfl⟩
  case round =>
    obtain ⟨k, hk, rfl, rfl⟩ := hrel
    by_cases hlt : k < n
    · obtain ⟨ad, x, rfl, hb, hx, hc⟩ := h.byte hlt
      have hs : crcF 4294967295 (bs.take k) < 4294967296 := crcF_lt _ (by omega)
      have HT := Lib.hid (crcF_take 4294967295 bs k x hx)
      generalize crcF 4294967295 (bs.take k) = S at hs HT ⊢
      have hx1 := xor_u32 hs (u8_lt x)
      go_wp2
      clear hx1
      go_loop [3, 6, 17] (fun s _ j => ∃ t : Nat, t ≤ 8 ∧ j = .int .i64 t ∧ s = .int .u32 (crc8 t (S ^^^ x.toNat) : Nat)) (fun _ _ j => 8 - (intOf j).toNat)
      case atStart => exact ⟨0, Nat.zero_le _, rfl, rfl⟩
      case round =>
        obtain ⟨t, ht, rfl, rfl⟩ := hrel
        have hq : crc8 t (S ^^^ x.toNat) < 4294967296 := crc8_lt (xor_lt hs (u8_lt x)) t
        have HQ : Hid (crc8 (t + 1) (S ^^^ x.toNat) = crc1 (crc8 t (S ^^^ x.toNat))) := Lib.hid rfl
        by_cases hlt8 : t < 8
        · generalize crc8 t (S ^^^ x.toNat) = q at hq HQ ⊢
          have ha := and1_u32 hq
          have hp := poly_u32 hq
          by_cases ho : q % 2 = 1
          · have HO := Lib.hid (crc1_odd ho)
            have hd : (((q % 2 : Nat) : Int) == 1) = true := by rw [ho]; rfl
            go_wp2
            go_round
            case rel => exact ⟨t + 1, by omega, by go_num, by rw [HQ.out, HO.out]⟩
            case measure => simp [intOf]; omega
          · have HO := Lib.hid (crc1_even ho)
            have hd : (((q % 2 : Nat) : Int) == 1) = false := by rw [show q % 2 = 0 from by omega]; rfl
            clear ho
            go_wp2
            go_round
            case rel => exact ⟨t + 1, by omega, by go_num, by rw [HQ.out, HO.out]; go_num⟩
            case measure => simp [intOf]; omega
        · obtain rfl : t = 8 := by omega
          go_wp2
          go_round
          case rel => exact ⟨k + 1, by omega, by go_num, by rw [HT.out]⟩
          case measure => simp [intOf]; omega
    · have hs : crcF 4294967295 (bs.take k) < 4294967296 := crcF_lt _ (by omega)
      have hf := not_u32 hs
      have HE : Hid (bs.take k = bs) := Lib.hid (List.take_of_length_le (by omega))
      go_wp2
      go_ret
      exact ⟨by rw [HE.out]; rfl, rfl⟩
set_option maxHeartbeats 400000 in
theorem rsum_any (A : Option Addr) (n c B : Nat) (bs : List UInt8) (w : World) (h : RdB w B A n bs) (hn : n ≤ 9223372036854775807) :
    Calls Try.prog 44 #[.slice A n c] w fun e w' => e = .returned (.int .u32 (crc bs : Nat)) ∧ w = w' := by
  have hl := h.len1
  go_enter Try.func44, Try.ntmps44
  go_wp2
  go_loop [3, 5, 6, 9] (fun s _ _ i => ∃ k : Nat, k ≤ n ∧ i = .int .i64 k ∧ s = .int .u32 (crcF 4294967295 (bs.take k) : Nat)) (fun _ _ _ i => n - (intOf i).toNat)
  case atStart => exact ⟨0, Nat.zero_le _, rfl, rfl⟩
  case round =>
    obtain ⟨k, hk, rfl, rfl⟩ := hrel
    by_cases hlt : k < n
    · obtain ⟨ad, x, rfl, hb, hx, hc⟩ := h.byte hlt
      have hs : crcF 4294967295 (bs.take k) < 4294967296 := crcF_lt _ (by omega)
      have HT := Lib.hid (crcF_take 4294967295 bs k x hx)
      generalize crcF 4294967295 (bs.take k) = S at hs HT ⊢
      have hx1 := xor_u32 hs (u8_lt x)
      go_wp2
      clear hx1
      go_loop [3, 6] (fun s j => ∃ t : Nat, t ≤ 8 ∧ j = .int .i64 t ∧ s = .int .u32 (crc8 t (S ^^^ x.toNat) : Nat)) (fun _ j => 8 - (intOf j).toNat)
      case atStart => exact ⟨0, Nat.zero_le _, rfl, rfl⟩
      case round =>
        obtain ⟨t, ht, rfl, rfl⟩ := hrel
        have hq : crc8 t (S ^^^ x.toNat) < 4294967296 := crc8_lt (xor_lt hs (u8_lt x)) t
        have HQ : Hid (crc8 (t + 1) (S ^^^ x.toNat) = crc1 (crc8 t (S ^^^ x.toNat))) := Lib.hid rfl
        by_cases hlt8 : t < 8
        · generalize crc8 t (S ^^^ x.toNat) = q at hq HQ ⊢
          have hp := poly_u32 hq
          by_cases ho : q % 2 = 1
          · have HO := Lib.hid (crc1_odd ho)
            have hd : ((q : Int) % 2 == 1) = true := by rw [beq_iff_eq]; omega
            clear ho
            go_wp2
            go_round
            case rel => exact ⟨t + 1, by omega, by go_num, by rw [HQ.out, HO.out]⟩
            case measure => simp [intOf]; omega
          · have HO := Lib.hid (crc1_even ho)
            have hd : ((q : Int) % 2 == 1) = false := by rw [beq_eq_false_iff_ne]; omega
            clear ho
            go_wp2
            go_round
            case rel => exact ⟨t + 1, by omega, by go_num, by rw [HQ.out, HO.out]; go_num⟩
            case measure => simp [intOf]; omega
        · obtain rfl : t = 8 := by omega
          go_wp2
          go_round
          case rel => exact ⟨k + 1, by omega, by go_num, by rw [HT.out]⟩
          case measure => simp [intOf]; omega
    · have hs : crcF 4294967295 (bs.take k) < 4294967296 := crcF_lt _ (by omega)
      have HE : Hid (bs.take k = bs) := Lib.hid (List.take_of_length_le (by omega))
      go_wp2
      go_ret
      refine ⟨ret_int ?_, rfl⟩
      rw [HE.out] at hs ⊢
      unfold crc
      omega
end Go.Proofs.Ytjhkfpemcplaaaa
namespace Go.Proofs.Ytjhkfpemcplaaaa
open Go.RowKit

def le4 (s : Nat) : List UInt8 := [UInt8.ofNat s, UInt8.ofNat (s / 256), UInt8.ofNat (s / 65536), UInt8.ofNat (s / 16777216)]
def innerB (k : Int) (t s a : Nat) (body : List UInt8) : List UInt8 := UInt8.ofNat k.toNat :: (enc t ++ enc s ++ enc a) ++ body
def headB (m : Nat) : List UInt8 := [239, 30, UInt8.ofNat m, UInt8.ofNat (m / 256)]
def frameB (inner : List UInt8) : List UInt8 := (headB inner.length ++ inner) ++ le4 (crc (headB inner.length ++ inner))
def packB (k : Int) (t s a : Nat) (body : List UInt8) : List UInt8 := frameB (innerB k t s a body)

theorem mayB_no {k : Int} {n : Nat} (h : mayB k n = true) : 1 ≤ k ∧ k ≤ 7 ∧ n ≤ 1024 := by simpa [mayB, and_assoc] using h

set_option maxRecDepth 20000 in
set_option maxHeartbeats 4000000 in
theorem pack_bad (k : Int) (t s a : Nat) (A : Option Addr) (n c : Nat) (w : World) (hm : mayB k n = false) :
    Calls Try.prog 72 #[.agg #[.int .i64 k, .int .u64 t, .int .u64 s, .int .u64 a, .slice A n c]] w fun e w' => e = .returned (.tuple #[.slice none 0 0, .int .i64 172]) ∧ ∃ o o', (w.alloc o).alloc o' = w' := by
  have hmay := fun w => may_any k (.int .u64 t) (.int .u64 s) (.int .u64 a) A n c w ⟨_, rfl⟩ ⟨_, rfl⟩ ⟨_, rfl⟩
  rw [hm] at hmay
  have HM := Lib.hid hmay
  clear hmay hm
  go_enter Try.func72, Try.ntmps72
  go_wp2_with fail
  refine (HM.out _).mono ?_
  rintro e w1 ⟨rfl, rfl⟩
  go_wp2
  go_ret2
  exact ⟨rfl, _, _, rfl⟩

/-- what a call keeps while it appends: its box, the bytes that came in, all that was there -/
def Kept (w : World) (T g : Nat) (cs : Array Value) (A : Option Addr) (n : Nat) (bs : List UInt8) (w1 : World) : Prop := Blk w1 g T cs ∧ RdB w1 w.heap.size A n bs ∧ Below w.heap.size w w1
section
variable {w w1 w2 : World} {T g n : Nat} {cs : Array Value} {A : Option Addr} {bs xs : List UInt8} {v v1 : Value}
theorem Kept.app (h : Kept w T g cs A n bs w1) (ho : OwnB 5 w1 w.heap.size v xs) (hT : 5 ≠ T) (ha : App w1 v w2 v1) : Kept w T g cs A n bs w2 := by
  obtain ⟨hb, hr, hbw⟩ := h
  have hlt := ho.lt
  exact ⟨ha.blk hb (own_blk_ne ho hb hT), ha.reads hr hbw.size (fun k hk => (hlt k hk).1), hbw.trans (ha.below hbw.size (fun k hk => (hlt k hk).1))⟩
theorem Kept.alloc (h : Kept w T g cs A n bs w1) (o : Obj) : Kept w T g cs A n bs (w1.alloc o) := ⟨h.1.alloc o, h.2.1.alloc h.2.2.size o, h.2.2.alloc h.2.2.size o⟩
theorem Kept.drew (h : Kept w T g cs A n bs w1) : Kept w T g cs A n bs w1.drew := ⟨h.1, h.2.1, h.2.2.drew⟩
end
/-- appended, and kept -/
def KPost (w : World) (T g : Nat) (cs : Array Value) (A : Option Addr) (n : Nat) (bs ys : List UInt8) (e : Ending) (w1 : World) : Prop := ∃ v, e = .returned v ∧ OwnB 5 w1 w.heap.size v ys ∧ Kept w T g cs A n bs w1
theorem counts_kept {w W : World} {T g n : Nat} {cs : Array Value} {A : Option Addr} {bs : List UInt8} (v : Value) (xs : List UInt8) (lb m c : Nat) (ns : List Nat) (h : Kept w T g cs A n bs W) (hT : 5 ≠ T) (hv : OwnB 5 W w.heap.size v xs)
    (hl : Blk W lb 22 (ns.map uv).toArray) (hm : m = ns.length) (hn : ∀ n ∈ ns, n < 18446744073709551616) (hns : ns.length ≤ 1000) (hsz : xs.length ≤ 1099511627776) :
    Calls Try.prog 73 #[v, .slice (some ⟨lb, 0, none⟩) m c] W (KPost w T g cs A n bs (xs ++ encs ns)) :=
  (counts_any w.heap.size v xs lb m c ns W hv h.2.2.size hl hm hn hns hsz).mono fun _ _ ⟨v1, he, ho, ha⟩ => ⟨v1, he, ho, h.app hv hT ha⟩

set_option maxRecDepth 20000 in
set_option maxHeartbeats 4000000 in
theorem pack_ok (k : Int) (t s a : Nat) (A : Option Addr) (n c : Nat) (bs : List UInt8) (w : World) (hr : RdB w w.heap.size A n bs) (hm : mayB k n = true)
    (ht : t < 18446744073709551616) (hs : s < 18446744073709551616) (ha : a < 18446744073709551616) :
    Calls Try.prog 72 #[.agg #[.int .i64 k, .int .u64 t, .int .u64 s, .int .u64 a, .slice A n c]] w fun e w' => ∃ v, e = .returned (.tuple #[v, .int .i64 0]) ∧ OwnB 5 w' w.heap.size v (packB k t s a bs) ∧ Below w.heap.size w w' := by
  obtain ⟨k1, k7, hn⟩ := mayB_no hm
  have hmay := fun w => may_any k (.int .u64 t) (.int .u64 s) (.int .u64 a) A n c w ⟨_, rfl⟩ ⟨_, rfl⟩ ⟨_, rfl⟩
  rw [hm] at hmay
  have HM := Lib.hid hmay
  clear hmay hm
  go_enter Try.func72, Try.ntmps72
  go_wp2_with fail
  refine (HM.out _).mono ?_
  rintro e w1 ⟨rfl, rfl⟩
  go_wp2
  have hK : Kept w 39 w.heap.size #[.int .i64 k, .int .u64 t, .int .u64 s, .int .u64 a, .slice A n c] A n bs ((w.alloc (.cells #[.int .i64 k, .int .u64 t, .int .u64 s, .int .u64 a, .slice A n c] 39)).alloc (.cells #[.int .i64 k, .int .u64 t, .int .u64 s, .int .u64 a, .slice A n c] 39)) :=
    ⟨(Blk.new w _ _).alloc _, (hr.alloc (Nat.le_refl _) _).alloc (by simp) _, ((Below.refl _ _).alloc (Nat.le_refl _) _).alloc (by simp) _⟩
  generalize ((w.alloc (.cells #[.int .i64 k, .int .u64 t, .int .u64 s, .int .u64 a, .slice A n c] 39)).alloc (.cells #[.int .i64 k, .int .u64 t, .int .u64 s, .int .u64 a, .slice A n c] 39)) = W at hK ⊢
  clear HM
  have HS : Hid (∀ w' : World, Kept w 39 w.heap.size #[.int .i64 k, .int .u64 t, .int .u64 s, .int .u64 a, .slice A n c] A n bs w' → w'.cell? ⟨w.heap.size, 0, none⟩ = some (.int .i64 k) ∧ w'.cell? ⟨w.heap.size, 1, none⟩ = some (.int .u64 t) ∧ w'.cell? ⟨w.heap.size, 2, none⟩ = some (.int .u64 s) ∧ w'.cell? ⟨w.heap.size, 3, none⟩ = some (.int .u64 a) ∧ w'.cell? ⟨w.heap.size, 4, none⟩ = some (.slice A n c)) :=
    Lib.hid fun w' h => ⟨h.1.cell 0, h.1.cell 1, h.1.cell 2, h.1.cell 3, h.1.cell 4⟩
  obtain ⟨x, HX⟩ : ∃ x : UInt8, Hid (x = UInt8.ofNat k.toNat) := ⟨_, rfl⟩
  have hk8 : IntKind.u8.wrap k = (x.toNat : Int) := by
    rw [HX.out, IntKind.wrap_u8]
    simp only [UInt8.toNat_ofNat']
    omega
  have H3 : Hid (∀ y ∈ [t, s, a], y < 18446744073709551616) := Lib.hid (by simp; omega)
  have hS0 := HS.out W hK
  clear ht hs ha hr
  have HC := Lib.hid (counts_kept (.slice (some ⟨W.heap.size, 0, none⟩) 1 1) [x] (W.heap.size + 1) 3 3 [t, s, a] ((hK.alloc (.cells #[.int .u8 (x.toNat : Int)] 5)).alloc (.cells #[.int .u64 t, .int .u64 s, .int .u64 a] 22)).drew (by decide)
    (((OwnB.built' 5 W w.heap.size _ #[.int .u8 (x.toNat : Int)] [x] hK.2.2.size rfl (by simp) rfl).alloc _).drew) ((Blk.new' (W.alloc (.cells #[.int .u8 (x.toNat : Int)] 5)) 22 (W.heap.size + 1) #[.int .u64 t, .int .u64 s, .int .u64 a] (by simp)).drew) rfl H3.out (by simp) (by simp))
  have HC2 := Lib.hid (counts_kept (.slice (some ⟨W.heap.size + 1, 0, none⟩) 1 1) [x] W.heap.size 3 3 [t, s, a] ((hK.alloc (.cells #[.int .u64 t, .int .u64 s, .int .u64 a] 22)).alloc (.cells #[.int .u8 (x.toNat : Int)] 5)).drew (by decide)
    ((OwnB.built' 5 (W.alloc (.cells #[.int .u64 t, .int .u64 s, .int .u64 a] 22)) w.heap.size (W.heap.size + 1) #[.int .u8 (x.toNat : Int)] [x] (hK.alloc _).2.2.size (by simp) (by simp) rfl).drew) (((Blk.new' W 22 _ #[.int .u64 t, .int .u64 s, .int .u64 a] rfl).alloc (.cells #[.int .u8 (x.toNat : Int)] 5)).drew) rfl H3.out (by simp) (by simp))
  have hle := encs_le [t, s, a]
  have hlb : bs.length = n := Reads.len1 hK.2.1
  have hel : ([x] ++ encs [t, s, a]).length + bs.length ≤ 1055 := by simp at hle ⊢; omega
  have HI : Hid (([x] ++ encs [t, s, a]) ++ bs = innerB k t s a bs) := Lib.hid (by rw [HX.out]; simp [innerB, encs])
  have hil : (innerB k t s a bs).length ≤ 1055 := by rw [← HI.out, List.length_append]; exact hel
  clear hle
  have HEL := Lib.hid hel
  clear hel hlb hK
  go_cut [4] (fun v wx => OwnB 5 wx w.heap.size v (innerB k t s a bs) ∧ Kept w 39 w.heap.size #[.int .i64 k, .int .u64 t, .int .u64 s, .int .u64 a, .slice A n c] A n bs wx)
  case first =>
    go_region_held3 (fun w' => w'.cell? ⟨w.heap.size, 0, none⟩ = some (.int .i64 k) ∧ w'.cell? ⟨w.heap.size, 1, none⟩ = some (.int .u64 t) ∧ w'.cell? ⟨w.heap.size, 2, none⟩ = some (.int .u64 s) ∧ w'.cell? ⟨w.heap.size, 3, none⟩ = some (.int .u64 a) ∧ w'.cell? ⟨w.heap.size, 4, none⟩ = some (.slice A n c))
      (first | go_keep | exact HS.out _ hk2 | exact HS.out _ hk1)
      (first | (refine step_app rfl (.tmp 21) (.tmp 23) 37 rfl w.heap.size 5 info5 Try.underlying37 _ ([x] ++ encs [t, s, a]) rfl hown1 _ A n c bs rfl hk1.2.1 (by have := HEL.out; omega) hk1.2.2.size ?_; intro v2 w2 hown2 happ2; have hk2 := hk1.app hown1 (by decide) happ2) | (go_at_call 73; ((with_reducible refine HC.out.mono ?_); rintro e w1 ⟨v1, rfl, hown1, hk1⟩)) | (go_at_call 73; ((with_reducible refine HC2.out.mono ?_); rintro e w1 ⟨v1, rfl, hown1, hk1⟩)))
    all_goals (go_wp2_with fail; go_meet; exact ⟨by rw [← HI.out]; exact hown2, hk2⟩)
  case rest =>
    obtain ⟨hown, hk⟩ := hcut
    clear HC HC2 hS0 HEL HS
    generalize HIN : innerB k t s a bs = inner at hown hil
    have HIN2 := Lib.hid HIN
    clear HIN
    obtain ⟨A4, c4, rfl, hc4, hc4m⟩ := hown.form
    clear hc4 hc4m
    obtain ⟨x0, HX0⟩ : ∃ x : UInt8, Hid (x = UInt8.ofNat inner.length) := ⟨_, rfl⟩
    obtain ⟨x1, HX1⟩ : ∃ x : UInt8, Hid (x = UInt8.ofNat (inner.length / 256)) := ⟨_, rfl⟩
    have e0 : (inner.length : Int) % 256 = (x0.toNat : Int) := by rw [HX0.out]; exact low8 _
    have e1 : (inner.length : Int) / 256 = (x1.toNat : Int) := by rw [HX1.out]; simp only [UInt8.toNat_ofNat']; omega
    have b1 := u8_lt x1
    obtain ⟨fr, HFR⟩ : ∃ fr : List UInt8, Hid (fr = headB inner.length ++ inner) := ⟨_, rfl⟩
    obtain ⟨S, HSS⟩ : ∃ S : Nat, Hid (S = crc fr) := ⟨_, rfl⟩
    have HH : Hid ([239, 30, x0, x1] ++ inner = fr) := Lib.hid (by rw [HFR.out, HX0.out, HX1.out]; rfl)
    have hlen2 : fr.length ≤ 1059 := by rw [HFR.out]; simp [headB]; omega
    have HLE : Hid (frameB inner = fr ++ le4 S) := Lib.hid (by rw [HSS.out, HFR.out]; rfl)
    have hcl : S < 4294967296 := by rw [HSS.out]; exact crc_lt _
    have HIL := Lib.hid hil
    clear hil
    go_wp2_with (at_builtin; refine wpList_app rfl _ _ _ rfl w.heap.size 5 info5 Try.underlying37 _ [239, 30, x0, x1] rfl (OwnB.built' 5 wc w.heap.size _ _ [239, 30, x0, x1] hk.2.2.size rfl (by simp) rfl) _ _ _ _ inner rfl ((hown.reads rfl).alloc (Nat.le_refl _) _) (by have := HIL.out; simp; omega) (by have := hk.2.2.size; simp; omega) ?_; intro v2 w2 hown2 happ2; rw [HH.out] at hown2; obtain ⟨A2, c2, rfl, hm2, hm3⟩ := hown2.form; have hk2 : Kept w 39 w.heap.size #[.int .i64 k, .int .u64 t, .int .u64 s, .int .u64 a, .slice A n c] A n bs w2 := (hk.alloc _).app (OwnB.built' 5 wc w.heap.size _ _ [239, 30, x0, x1] hk.2.2.size rfl (by simp) rfl) (by decide) happ2; clear hm2 hm3 happ2 e0 e1 hk hown)
    have HSUM := Lib.hid (sum_any A2 fr.length c2 w2.heap.size fr w2 (hown2.reads rfl) (by omega))
    refine HSUM.out.mono ?_
    rw [← HSS.out]
    rintro e w3 ⟨rfl, rfl⟩
    clear HSUM
    obtain ⟨s0, H0⟩ : ∃ x : UInt8, Hid (x = UInt8.ofNat S) := ⟨_, rfl⟩
    obtain ⟨s1, H1⟩ : ∃ x : UInt8, Hid (x = UInt8.ofNat (S / 256)) := ⟨_, rfl⟩
    obtain ⟨s2, H2⟩ : ∃ x : UInt8, Hid (x = UInt8.ofNat (S / 65536)) := ⟨_, rfl⟩
    obtain ⟨s3, H4⟩ : ∃ x : UInt8, Hid (x = UInt8.ofNat (S / 16777216)) := ⟨_, rfl⟩
    have q0 : (S : Int) % 256 = (s0.toNat : Int) := by rw [H0.out]; exact low8 _
    have q1 : (S : Int) / 256 % 256 = (s1.toNat : Int) := by rw [H1.out]; simp only [UInt8.toNat_ofNat']; omega
    have q2 : (S : Int) / 65536 % 256 = (s2.toNat : Int) := by rw [H2.out]; simp only [UInt8.toNat_ofNat']; omega
    have q3 : (S : Int) / 16777216 = (s3.toNat : Int) := by rw [H4.out]; simp only [UInt8.toNat_ofNat']; omega
    have b3 := u8_lt s3
    have HL4 : Hid ([s0, s1, s2, s3] = le4 S) := Lib.hid (by rw [H0.out, H1.out, H2.out, H4.out]; rfl)
    have hbw := hk2.2.2
    have hsz2 := hbw.size
    have HF : Hid (fr.length ≤ 1059) := Lib.hid hlen2
    clear hlen2
    go_wp2_with (at_builtin; refine wpList_app rfl _ _ _ rfl w.heap.size 5 info5 Try.underlying37 _ fr rfl (hown2.alloc _) _ _ _ _ [s0, s1, s2, s3] rfl (Reads.built w2 5 ([s0, s1, s2, s3].map bv)) (by have := HF.out; simp; omega) (by simp; omega) ?_; intro v3 w3 hown3 happ3)
    go_ret2
    refine ⟨_, rfl, ?_, (hk2.app hown2 (by decide) happ3.from).2.2⟩
    show OwnB 5 w3 w.heap.size v3 (frameB (innerB k t s a bs))
    rw [HIN2.out, HLE.out, ← HL4.out]
    exact hown3
end Go.Proofs.Ytjhkfpemcplaaaa
