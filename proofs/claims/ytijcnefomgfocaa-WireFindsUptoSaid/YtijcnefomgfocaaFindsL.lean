/-
  What the walk of WireFinds needs beside the code: the row of what was sent beside the reader that is fed in parts.
-/
import Derived.Test.YtijcnefomgfocaaCutsL
import Derived.Test.YtijcnefomgfocaaFinds
import Derived.Test.YtijcnefomgfocaaAwake
namespace Go.Proofs.Ytijcnefomgfocaa
open Go.RowKit

theorem wpList_appF {P : Program} {w : World} {ops : Array Oper} {rest : List Oper} {o : Oper} {a : Act} {Q : Exit → Act → World → Prop} (hgd : o.guard = none) (s x : Operand) (t : TypeId)
    (ho : o.op = .call { callee := .builtin .append, args := #[s, x], argTypes := #[t, t] })
    (base : Nat) (e : TypeId) (z : Value) (size bytes : Nat) (hinfo : (P.info? e).map (fun i => (i.zero, i.size, i.bytes)) = some (some z, size, bytes)) (ht : P.underlying t = some (.slice e)) (hzs : z.cells.size = size) (hsz : 0 < size)
    (v : Value) (n : Nat) (xs : List Value) (hs : a.eval s = v) (hown : w.ownsRow base e size v n xs)
    (B : Nat) (A : Option Addr) (m c : Nat) (news : List Value) (hx : a.eval x = .slice A m c) (hr : Reads w B size A m news) (h1 : ∀ u ∈ news, u.oneCell' = true)
    (h63 : n + m ≤ maxLen) (hbytes : (n + m) * bytes ≤ 140737488355328) (hbase : base ≤ w.heap.size)
    (h : ∀ v' w', w'.ownsRow base e size v' (n + m) (xs ++ news) → App w v w' v' → wpList P ops Q rest (a.put o.dst v') w') : wpList P ops Q (o :: rest) a w := by
  obtain ⟨i, hi, hz, hs1, hby⟩ := info_parts hinfo
  refine wpList_append_any w hgd s x t ho base e i z size bytes ht hi hz hs1 hby hzs hsz v n xs hs hown B A m c news hx hr h1 h63 hbytes hbase fun v' w' h2 h3 h4 => h v' w' h2 ⟨h3, ?_⟩
  rcases h4 with h4 | h4
  · exact .inl h4
  · exact .inr ⟨_, h4, Nat.le_refl _⟩

/-- a reader that is fed in parts, and the row of what was sent -/
def FB (w0 : World) (g : Nat) (x : List UInt8) (V K VS : Value) (ps ss : List (Pk × Option Addr × Nat)) (M : Nat) (wr : World) : Prop :=
  CW w0 g x V K ps M wr ∧ wr.ownsRow w0.heap.size 26 5 VS ss.length (ss.flatMap pqCells) ∧ (∀ k, VS.ownBlock = some k → V.ownBlock ≠ some k)
section
variable {w0 wr w1 w2 : World} {g M : Nat} {x y : List UInt8} {V K VS : Value} {ps ss : List (Pk × Option Addr × Nat)}
theorem sep_row {base : Nat} {e : TypeId} {size n : Nat} {xs : List Value} {U V : Value} {w : World} (_ : w.ownsRow base e size U n xs) (h : ∀ k, U.ownBlock = some k → V.ownBlock ≠ some k) : U.ownBlock = none ∨ U.ownBlock ≠ V.ownBlock := by
  cases hu : U.ownBlock with
  | none => exact .inl rfl
  | some k => exact .inr fun e => h k hu e.symm
theorem sep_row' {U V : Value} (h : ∀ k, U.ownBlock = some k → V.ownBlock ≠ some k) : V.ownBlock = none ∨ V.ownBlock ≠ U.ownBlock := by
  cases hv : V.ownBlock with
  | none => exact .inl rfl
  | some k => exact .inr fun e => h k e.symm hv
theorem FB.grown0 (h : FB w0 g x V K VS ps ss M wr) (hg : wr.grownBy w1 none) : FB w0 g x V K VS ps ss M w1 :=
  ⟨h.1.grown0 hg, World.ownsRow.kept h.2.1 hg (by cases VS.ownBlock <;> simp), h.2.2⟩
/-- one packet more was sent -/
theorem FB.sent {q : Pk × Option Addr × Nat} {VS' : Value} (h : FB w0 g x V K VS ps ss M wr) (ha : App wr VS w1 VS') (ho : w1.ownsRow w0.heap.size 26 5 VS' (ss.length + 1) (ss.flatMap pqCells ++ pqCells q)) : FB w0 g x V K VS' ps (ss ++ [q]) M w1 := by
  obtain ⟨⟨h1, h2, h3, h4, h5, h6, h7, h8⟩, hr, hsep⟩ := h
  obtain ⟨hg, hb⟩ := ha
  have hs := hg.size
  refine ⟨⟨⟨hg.os.trans h1.os, hg.tape.trans h1.tape, hg.output.trans h1.output, Nat.le_trans h1.size hg.size, fun k hk hne => ?_⟩, ?_, ?_, h4, Nat.le_trans h5 hs, ⟨?_, fun q' hq' => ?_⟩, h7, h8⟩, ?_, fun k hk => ?_⟩
  · have hs1 := h1.size
    rw [hg.block k (by omega) (fun e => by have := (hr.lt k e.symm).1; omega)]
    exact h1.block k hk hne
  · exact h2.grown hg (fun e => own_blk_ne hr h2 (by decide) e.symm)
  · exact World.ownsRow.kept h3 hg (own_own_ne h3 hr (by decide))
  · exact World.ownsRow.kept h6.1 hg (sep_row' hsep)
  · exact World.ownsRow.kept (h6.2 q' hq') hg (own_own_ne (h6.2 q' hq') hr (by decide))
  · simpa using ho
  · rcases hb with e | ⟨j, e, hj⟩
    · rw [e] at hk
      exact hsep k hk
    · intro hv
      have h9 := (h6.1.lt k hv).2
      rw [e] at hk
      injection hk with hk
      omega
/-- the reader was fed, and what it told stands behind -/
theorem FB.told {V1 V' K' : Value} {qs : List (Pk × Option Addr × Nat)} {M' : Nat} (h : FB w0 g x V K VS ps ss M wr) (hG : Grown2 wr w1 g K) (hq : qs.map (·.1) = (feed ((feed x).2.1 ++ y)).1) (hp : PkRow w1 wr.heap.size V1 qs)
    (hb : Blk w1 g 74 #[.bool true, K', .int .i64 (((feed x).2.2 : Nat) + ((feed ((feed x).2.1 ++ y)).2.2 : Nat))]) (ho : OwnB 5 w1 M' K' (feed ((feed x).2.1 ++ y)).2.1) (hM : wr.heap.size ≤ M') (hM1 : M' ≤ w1.heap.size)
    (hqM : ∀ q ∈ qs, ∀ k, (Value.slice q.2.1 q.1.body.length q.2.2).ownBlock = some k → k < M') (ha : App w1 V w2 V') (hoV : w2.ownsRow w0.heap.size 26 5 V' (ps.length + qs.length) (ps.flatMap pqCells ++ qs.flatMap pqCells)) :
    FB w0 g (x ++ y) V' K' VS (ps ++ qs) ss M' w2 := by
  have hcw := h.1.told hG hq hp hb ho hM hM1 hqM ha.1 hoV
  have hfd := h.1.fed hG
  obtain ⟨⟨h1, h2, h3, h4, h5, h6, h7, h8⟩, hr, hsep⟩ := h
  have hr1 : w1.ownsRow w0.heap.size 26 5 VS ss.length (ss.flatMap pqCells) := own_keep hr fun k hk => by
    refine hG.2.2.2.2 k (hr.lt k hk).2 (fun e => own_blk_ne hr h2 (by decide) (by rw [hk, e])) (fun e => ?_)
    rcases own_own_ne hr h3 (by decide) with e2 | e2
    · rw [e2] at hk; cases hk
    · exact e2 (by rw [hk, e])
  refine ⟨hcw, World.ownsRow.kept hr1 ha.1 (sep_row hr1 hsep), fun k hk => ?_⟩
  rcases ha.2 with e | ⟨j, e, hj⟩
  · rw [e]; exact hsep k hk
  · rw [e]
    intro e2
    injection e2 with e2
    have := (hr1.lt k hk).2
    omega
end
/-- packets that came in -/
abbrev AP := Int × Nat × Nat × Nat × List UInt8 × Option Addr × Nat
def apCells (z : AP) : List Value := [.int .i64 z.1, .int .u64 z.2.1, .int .u64 z.2.2.1, .int .u64 z.2.2.2.1, .slice z.2.2.2.2.2.1 z.2.2.2.2.1.length z.2.2.2.2.2.2]
def ARd (w : World) (A : Option Addr) (zs : List AP) : Prop :=
  Reads w w.heap.size 5 A zs.length (zs.flatMap apCells) ∧ ∀ z ∈ zs, RdB w w.heap.size z.2.2.2.2.2.1 z.2.2.2.2.1.length z.2.2.2.2.1 ∧ z.2.1 < 18446744073709551616 ∧ z.2.2.1 < 18446744073709551616 ∧ z.2.2.2.1 < 18446744073709551616
theorem ARd.below {w w' : World} {A : Option Addr} {zs : List AP} (h : ARd w A zs) (hb : Below w.heap.size w w') : ARd w' A zs :=
  ⟨(h.1.below hb).more hb.size, fun z hz => ⟨((h.2 z hz).1.below hb).more hb.size, (h.2 z hz).2⟩⟩
theorem ap_at (zs : List AP) : ∀ (j : Nat) (z : AP) (i : Nat), i < 5 → zs[j]? = some z → (zs.flatMap apCells)[j * 5 + i]? = (apCells z)[i]? := by
  induction zs with
  | nil => intro j q i _ h; simp at h
  | cons x l ih =>
    intro j q i hi h
    have hl : (apCells x).length = 5 := rfl
    rw [List.flatMap_cons]
    cases j with
    | zero =>
      simp at h
      subst h
      rw [List.getElem?_append_left (by omega)]
      simp
    | succ j =>
      rw [List.getElem?_append_right (by omega), hl, show (j + 1) * 5 + i - 5 = j * 5 + i from by omega]
      exact ih j q i hi (by simpa using h)
theorem ARd.at5 {w : World} {A : Option Addr} {zs : List AP} {j : Nat} (h : ARd w A zs) (hj : j < zs.length) :
    ∃ b off z, A = some ⟨b, off, none⟩ ∧ zs[j]? = some z ∧ w.cell? ⟨b, off + j * 5, none⟩ = some (.int .i64 z.1) ∧ w.cell? ⟨b, off + j * 5 + 1, none⟩ = some (.int .u64 z.2.1) ∧ w.cell? ⟨b, off + j * 5 + 2, none⟩ = some (.int .u64 z.2.2.1) ∧
      w.cell? ⟨b, off + j * 5 + 3, none⟩ = some (.int .u64 z.2.2.2.1) ∧ w.cell? ⟨b, off + j * 5 + 4, none⟩ = some (.slice z.2.2.2.2.2.1 z.2.2.2.2.1.length z.2.2.2.2.2.2) := by
  obtain ⟨⟨b, off, spot⟩, e, _, hc⟩ := h.1.2 (by omega)
  obtain ⟨q, hq⟩ : ∃ q, zs[j]? = some q := ⟨_, List.getElem?_eq_getElem hj⟩
  obtain ⟨q0, hq0⟩ : ∃ q, zs[0]? = some q := ⟨_, List.getElem?_eq_getElem (by omega)⟩
  have h0 := hc 0 _ ((ap_at zs 0 q0 0 (by omega) hq0).trans rfl)
  have hspot : spot = none := by simpa [Addr.add] using World.cell?_spot h0
  subst hspot
  have key : ∀ i u, i < 5 → (apCells q)[i]? = some u → w.cell? ⟨b, off + j * 5 + i, none⟩ = some u := fun i u hi hu => by
    have := hc (j * 5 + i) u ((ap_at zs j q i hi hq).trans hu)
    rw [← this]
    congr 1
    unfold Addr.add
    split <;> simp <;> omega
  exact ⟨b, off, q, e, hq, by simpa using key 0 _ (by omega) rfl, key 1 _ (by omega) rfl, key 2 _ (by omega) rfl, key 3 _ (by omega) rfl, key 4 _ (by omega) rfl⟩
/-- a row of bytes beside the reader stays as it was while the reader is fed and what it told is put behind -/
theorem OwnB.fed {w0 wr w1 w2 : World} {g M base : Nat} {x f : List UInt8} {V V' K VS v : Value} {ps ss : List (Pk × Option Addr × Nat)} (h : FB w0 g x V K VS ps ss M wr) (hv : OwnB 5 wr base v f) (hsep : ∀ k, v.ownBlock = some k → K.ownBlock ≠ some k) (hG : Grown2 wr w1 g K) (ha : App w1 V w2 V') : OwnB 5 w2 base v f := by
  have hfd := h.1.fed hG
  have hv1 : OwnB 5 w1 base v f := own_keep hv fun k hk => hG.2.2.2.2 k (hv.lt k hk).2 (fun e => own_blk_ne hv h.1.2.1 (by decide) (by rw [hk, e])) (hsep k hk)
  exact World.ownsRow.kept hv1 ha.1 (own_own_ne hv1 hfd.2.1 (by decide))
/-- quiet bytes -/
def fixq (x : UInt8) : UInt8 := if x = 239 then 238 else x
theorem fixq_ne (l : List UInt8) : ∀ y ∈ l.map fixq, y ≠ 239 := by
  intro y hy
  obtain ⟨x, _, rfl⟩ := List.mem_map.1 hy
  unfold fixq
  split
  · decide
  · assumption
/-- the reader, with nothing waiting, is fed -/
theorem FB.call {w0 wr : World} {g M n c : Nat} {x y : List UInt8} {V K VS : Value} {ps ss : List (Pk × Option Addr × Nat)} {A : Option Addr} (h : FB w0 g x V K VS ps ss M wr) (hx1 : (feed x).2.1 = []) (hx2 : (feed x).2.2 ≤ 1099511627776) (hr : RdB wr wr.heap.size A n y) (hn : n ≤ 1099511627776) :
    Calls Try.prog 31 #[.pointer (some ⟨g, 0, none⟩), .slice A n c] wr (FeedPostS wr g K ((feed x).2.2 : Nat) (feed y)) := by
  have hK := h.1.2.2.1
  rw [hx1] at hK
  have := feeds_any g M wr.heap.size K [] ((feed x).2.2 : Nat) A n c y wr h.1.2.1 hK h.1.2.2.2.2.1 hr (by simp; omega) (by omega) (by omega)
  rwa [List.nil_append] at this
theorem FB.told0 {w0 wr w1 w2 : World} {g M M' : Nat} {x y : List UInt8} {V K VS V1 V' K' : Value} {ps ss qs : List (Pk × Option Addr × Nat)} (h : FB w0 g x V K VS ps ss M wr) (hx1 : (feed x).2.1 = []) (hG : Grown2 wr w1 g K) (hq : qs.map (·.1) = (feed y).1) (hp : PkRow w1 wr.heap.size V1 qs)
    (hb : Blk w1 g 74 #[.bool true, K', .int .i64 (((feed x).2.2 : Nat) + ((feed y).2.2 : Nat))]) (ho : OwnB 5 w1 M' K' (feed y).2.1) (hM : wr.heap.size ≤ M') (hM1 : M' ≤ w1.heap.size)
    (hqM : ∀ q ∈ qs, ∀ k, (Value.slice q.2.1 q.1.body.length q.2.2).ownBlock = some k → k < M') (ha : App w1 V w2 V') (hoV : w2.ownsRow w0.heap.size 26 5 V' (ps.length + qs.length) (ps.flatMap pqCells ++ qs.flatMap pqCells)) :
    FB w0 g (x ++ y) V' K' VS (ps ++ qs) ss M' w2 :=
  h.told hG (by rw [hx1, List.nil_append]; exact hq) hp (by rw [hx1, List.nil_append]; exact hb) (by rw [hx1, List.nil_append]; exact ho) hM hM1 hqM ha hoV
theorem FB.plen {w0 wr : World} {g M : Nat} {x : List UInt8} {V K VS : Value} {ps ss : List (Pk × Option Addr × Nat)} (h : FB w0 g x V K VS ps ss M wr) : ps.length = (feed x).1.length := by
  rw [← h.1.2.2.2.2.2.2.2, List.length_map]
theorem pack_row {z : Pk × Option Addr × Nat} : ∀ u ∈ pqCells z, u.oneCell' = true := by
  intro u hu
  simp [pqCells] at hu
  rcases hu with rfl | rfl | rfl | rfl | rfl <;> rfl
theorem row_room {p q : Nat} (hp : p ≤ 1000000000) (hq : q ≤ 1000000000) : p + q ≤ maxLen ∧ (p + q) * 56 ≤ 140737488355328 := by
  refine ⟨by simp only [maxLen]; omega, by omega⟩
theorem rd_keepB {w wr : World} {g n : Nat} {A : Option Addr} {b : List UInt8} (hr : RdB w g A n b) (hB : g ≤ w.heap.size) (hg : w.grownBy wr (some g)) : RdB wr wr.heap.size A n b := by
  refine ⟨hr.1, fun hn => ?_⟩
  obtain ⟨ad, e, hlt, hc⟩ := hr.2 hn
  have hs := hg.size
  refine ⟨ad, e, by omega, fun j u hu => ?_⟩
  rw [← hc j u hu]
  exact World.cell?_of_block (hg.block _ (by rw [block_of_add]; omega) (fun h => by injection h with h; rw [block_of_add] at h; omega))
theorem feed_quiet2 {x q : List UInt8} (hx : (feed x).2.1 = []) (hq : ∀ y ∈ q, y ≠ 239) : feed (x ++ q) = ((feed x).1, [], (feed x).2.2 + q.length) := by
  rw [feed_cut x q, hx, List.nil_append, feed_quiet q hq]
  simp
theorem frm_len {p : Pk} (h : okPk p) : (frm p).length ≤ 1088 := by
  have hb := (mayB_no h.1).2.2
  have hi := inner_len p.kind p.tok p.seq p.ack p.body hb
  unfold frm packB
  rw [frame_len]
  omega
theorem frm_mk (kn zt zq za : Nat) (zb : List UInt8) : packB (kn : Int) zt zq za zb = frm ⟨kn, zt, zq, za, zb⟩ := by simp only [frm]
theorem packB_len {kn zt zq za : Nat} {zb : List UInt8} (h : okPk ⟨kn, zt, zq, za, zb⟩) : (packB (kn : Int) zt zq za zb).length ≤ 1088 := by rw [frm_mk]; exact frm_len h
theorem packB_feed {kn zt zq za : Nat} {zb : List UInt8} (h : okPk ⟨kn, zt, zq, za, zb⟩) : feed (packB (kn : Int) zt zq za zb) = ([⟨kn, zt, zq, za, zb⟩], [], 0) := by rw [frm_mk]; exact feed_frame h
theorem packB_round {x q : List UInt8} {kn zt zq za : Nat} {zb : List UInt8} (hx : (feed x).2.1 = []) (hq : ∀ y ∈ q, y ≠ 239) (h : okPk ⟨kn, zt, zq, za, zb⟩) : feed (x ++ q ++ packB (kn : Int) zt zq za zb) = ((feed x).1 ++ [⟨kn, zt, zq, za, zb⟩], [], (feed x).2.2 + q.length) := by rw [frm_mk]; exact feed_round hx hq h
theorem len_of_map {qs : List (Pk × Option Addr × Nat)} {l : List Pk} (h : qs.map (·.1) = l) : qs.length = l.length := by rw [← h, List.length_map]
theorem sum_le {qs : List (Pk × Option Addr × Nat)} {l : List Pk} {n j T : Nat} {q : Pk} (h : qs.map (·.1) = l) (hs : (l.map packLen).sum ≤ n) (hT : T = ((qs.take j).map fun q => packLen q.1).sum)
    (hS : ((qs.take (j + 1)).map fun q => packLen q.1).sum = ((qs.take j).map fun q => packLen q.1).sum + packLen q) : T + packLen q ≤ n := by
  have h1 := pack_sum h (s := 0) (n := n) (by omega) (j + 1)
  omega
theorem sum_all {qs : List (Pk × Option Addr × Nat)} {l : List Pk} (h : qs.map (·.1) = l) : ((qs.take qs.length).map fun q => packLen q.1).sum = (l.map packLen).sum := by
  have := pack_all h (s := 0) (n := (l.map packLen).sum) (by omega)
  omega
theorem feed_tot (b : List UInt8) : ((feed b).1.map packLen).sum ≤ b.length := by have := (feed_all b).1; omega
/-- the reader just made has been fed -/
theorem FB.start {w7 w8 : World} {g M : Nat} {raw : List UInt8} {V K' : Value} {qs : List (Pk × Option Addr × Nat)} (hG : Grown2 w7 w8 g (.slice none 0 0)) (hq : qs.map (·.1) = (feed raw).1) (hp : PkRow w8 w7.heap.size V qs)
    (hb8 : Blk w8 g 74 #[.bool true, K', .int .i64 (0 + ((feed raw).2.2 : Nat))]) (ho : OwnB 5 w8 M K' (feed raw).2.1) (hM : w7.heap.size ≤ M) (hM1 : M ≤ w8.heap.size)
    (hqM : ∀ q ∈ qs, ∀ k, (Value.slice q.2.1 q.1.body.length q.2.2).ownBlock = some k → k < M) : FB w7 g raw V K' (.slice none 0 0) qs [] M w8 := by
  rw [Int.zero_add] at hb8
  exact ⟨⟨⟨hG.1, hG.2.1, hG.2.2.1, hG.2.2.2.1, fun k hk hne => hG.2.2.2.2 k hk (fun e => hne (by rw [e])) (by simp [Value.ownBlock])⟩, hb8, ho, hM, hM1, hp, hqM, hq⟩, World.ownsRow_nil _ _ _ _, fun k hk => by cases hk⟩
/-- fed once more, whatever waits -/
theorem FB.call1 {w0 wr : World} {g M n c : Nat} {x y : List UInt8} {V K VS : Value} {ps ss : List (Pk × Option Addr × Nat)} {A : Option Addr} (h : FB w0 g x V K VS ps ss M wr) (hx : x.length ≤ 1000000) (hr : RdB wr wr.heap.size A n y) (hn : n ≤ 1000000) :
    Calls Try.prog 31 #[.pointer (some ⟨g, 0, none⟩), .slice A n c] wr (FeedPostS wr g K ((feed x).2.2 : Nat) (feed ((feed x).2.1 ++ y))) := by
  have h1 := (feed_all x).1
  exact feeds_any g M wr.heap.size K (feed x).2.1 ((feed x).2.2 : Nat) A n c y wr h.1.2.1 h.1.2.2.1 h.1.2.2.2.2.1 hr (by omega) (by omega) (by omega)
theorem FB.plen1 {w0 wr : World} {g M : Nat} {x : List UInt8} {V K VS : Value} {ps ss : List (Pk × Option Addr × Nat)} (h : FB w0 g x V K VS ps ss M wr) : ps.length ≤ x.length := by
  rw [h.plen]; exact feed_num x
theorem zeros_read (w : World) (n : Nat) : RdB (w.alloc (.cells (madeCells #[.int .u8 0] n) 5)) (w.heap.size + 1) (some ⟨w.heap.size, 0, none⟩) n (List.replicate n 0) := by
  refine ⟨by simp, fun _ => ⟨_, rfl, by simp, fun j u hu => ?_⟩⟩
  have e : (⟨w.heap.size, 0, none⟩ : Addr).add j = ⟨w.heap.size, j, none⟩ := by unfold Addr.add; split <;> simp_all
  rw [e]
  by_cases hj : j < n
  · rw [(World.rowIs_made w (.int .u8 0) n 5).cell hj]
    simpa [hj, bv] using hu
  · rw [List.getElem?_eq_none (by simp; omega)] at hu
    cases hu
theorem make_zeros : ∃ (oz : Array Value) (Z : List UInt8), Z.length = 1088 ∧ (∀ w : World, (Instr.makeSlice 24 (.int .i64 1088) (.int .i64 1088)).run Try.prog w = .ok (.slice (some ⟨w.heap.size, 0, none⟩) 1088 1088) (w.alloc (.cells oz 5))) ∧
    ∀ w : World, RdB (w.alloc (.cells oz 5)) (w.heap.size + 1) (some ⟨w.heap.size, 0, none⟩) 1088 Z := by
  obtain ⟨i0, hi, hz0, hz1, hz2⟩ := info_parts info5
  refine ⟨madeCells #[.int .u8 0] 1088, List.replicate 1088 0, List.length_replicate, fun w => ?_, fun w => zeros_read w 1088⟩
  have h := run_make_rowN (P := Try.prog) 24 5 i0 (.int .u8 0) Try.underlying24 hi hz0 .i64 .i64 1088 1088 (Nat.le_refl _) (by rw [hz2]; omega) (by omega) w
  rw [hz1] at h
  exact h
end Go.Proofs.Ytijcnefomgfocaa
