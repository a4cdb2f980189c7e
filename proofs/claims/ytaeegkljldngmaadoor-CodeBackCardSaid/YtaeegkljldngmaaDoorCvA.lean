/-
  The verifier's small functions: behind f47, literal f51, temps f52, effect f50. No statement of the seat is proved here.
-/
import Derived.Test.YtaeegkljldngmaaDoorCdK
namespace Go.Proofs.YtaeegkljldngmaaDoor
open Go.RowKit

structure KOk (K : VK) : Prop where
  ok : ∀ x ∈ K.l, x.Ok
  fin : pl K.l K.l.length ≤ 32767
  len : K.l.length ≤ 32767
  sh : shB K.s.args K.s.temps K.s.fields K.s.lits.length = true
theorem insD_mem {l : List Ins} {i : Nat} (h : i < l.length) : insD l i ∈ l := by
  unfold insD
  rw [List.getD_eq_getElem?_getD, List.getElem?_eq_getElem h]
  exact List.getElem_mem h
theorem KOk.at_ {K : VK} (h : KOk K) {i : Nat} (hi : i < K.l.length) : (insD K.l i).Ok := h.ok _ (insD_mem hi)
theorem insD_some {l : List Ins} {i : Nat} (h : i < l.length) : l[i]? = some (insD l i) := by
  unfold insD
  rw [List.getD_eq_getElem?_getD, List.getElem?_eq_getElem h]
  rfl
theorem pl_mono (l : List Ins) : ∀ (j i : Nat), i ≤ j → pl l i ≤ pl l j := by
  intro j i h
  unfold pl
  have e : l.take j = l.take i ++ (l.take j).drop i := by
    conv => lhs; rw [← List.take_append_drop i (l.take j)]
    rw [List.take_take, Nat.min_eq_left h]
  rw [e, List.map_append, List.sum_append]
  omega
theorem KOk.pl_le {K : VK} (h : KOk K) (i : Nat) (hi : i ≤ K.l.length) : pl K.l i ≤ 32767 := Nat.le_trans (pl_mono _ _ _ hi) h.fin
theorem inO_ok {x : Ins} (h : x.Ok) : inO x.op = true := by simp [inO, h.op.1, h.op.2]
theorem KOk.beh {K : VK} (h : KOk K) {i : Nat} (hi : i < K.l.length) : beh K.l i = (pl K.l (i + 1) : Int) := by
  have h1 := size_cast (inO_ok (h.at_ hi))
  unfold Go.Proofs.YtaeegkljldngmaaDoor.beh
  rw [pl_succ _ _ hi]
  omega
section
variable {W W' : World} {base : Nat} {K : VK} {D : VD}
theorem VM.forms (h : VM base K D W) (hn : 0 < K.l.length) : ∃ pb pc lb lc, K.pv = .slice (some ⟨pb, 0, none⟩) K.l.length pc ∧ K.lv = .slice (some ⟨lb, 0, none⟩) K.l.length lc := by
  have hl : (plsL K.l).length = K.l.length := by simp [plsL]
  have h1 := h.pls
  unfold OwnZ at h1
  rw [hl] at h1
  obtain ⟨pb, pc, e1, _⟩ := own_at h1 hn
  obtain ⟨lb, lc, e2, _⟩ := own_at h.ins hn
  exact ⟨pb, pc, lb, lc, e1, e2⟩
theorem VM.pcell (h : VM base K D W) {pb pc : Nat} (hp : K.pv = .slice (some ⟨pb, 0, none⟩) K.l.length pc) {i : Nat} (hi : i < K.l.length) :
    W.cell? ⟨K.g, 5, none⟩ = some (.slice (some ⟨pb, 0, none⟩) K.l.length pc) ∧ W.cell? ⟨pb, i, none⟩ = some (.int .i64 (pl K.l i : Int)) := by
  have hl : (plsL K.l).length = K.l.length := by simp [plsL]
  refine ⟨by rw [← hp]; exact h.blk.cell 5, ?_⟩
  have h1 := h.pls
  unfold OwnZ at h1
  rw [hl, hp] at h1
  rw [World.ownsRow.cellAt h1 i (by omega)]
  simp [plsL, hi, iv]
theorem VM.lcell (h : VM base K D W) {lb lc : Nat} (hp : K.lv = .slice (some ⟨lb, 0, none⟩) K.l.length lc) {i : Nat} (hi : i < K.l.length) :
    W.cell? ⟨K.g, 4, none⟩ = some (.slice (some ⟨lb, 0, none⟩) K.l.length lc) ∧ W.cell? ⟨lb, i * 5, none⟩ = some (.int .i64 (insD K.l i).op) ∧ W.cell? ⟨lb, i * 5 + 1, none⟩ = some (.int .i64 (insD K.l i).a) ∧ W.cell? ⟨lb, i * 5 + 2, none⟩ = some (.int .i64 (insD K.l i).b) ∧ W.cell? ⟨lb, i * 5 + 3, none⟩ = some (.int .i64 (insD K.l i).c) ∧ W.cell? ⟨lb, i * 5 + 4, none⟩ = some (.int .i64 (insD K.l i).z) := by
  have h1 := h.ins
  unfold OwnIn at h1
  rw [hp] at h1
  have hx := insD_some hi
  have hc : ∀ j u, (insD K.l i).cs[j]? = some u → W.cell? ⟨lb, i * 5 + j, none⟩ = some u := fun j u hu => by
    have hj : j < 5 := (List.getElem?_eq_some_iff.1 hu).1
    rw [World.ownsRow.cellAt h1 _ (by omega)]
    exact flat_at (f := Ins.cs) (n := 5) (fun _ => rfl) hx hu
  exact ⟨by rw [← hp]; exact h.blk.cell 4, hc 0 _ rfl, hc 1 _ rfl, hc 2 _ rfl, hc 3 _ rfl, hc 4 _ rfl⟩
end
theorem below_of_drew {w w1 : World} (h : Below w.drew.heap.size w.drew w1) : Below w.heap.size w w1 := ⟨h.os, h.tape, h.output, h.size, h.block⟩
set_option maxRecDepth 100000 in
set_option maxHeartbeats 4000000 in
theorem behind_any {base : Nat} {K : VK} {D : VD} {W : World} (h : VM base K D W) (hB : base ≤ W.heap.size) (ok : KOk K) (i : Nat) (hi : i < K.l.length) :
    Calls Tryd.prog 43 #[.pointer (some ⟨K.g, 0, none⟩), .int .i64 (i : Int)] W fun e w' => e = .returned (.int .i64 (beh K.l i)) ∧ Below W.heap.size W w' := by
  obtain ⟨pb, pc, lb, lc, hp, hl⟩ := h.forms (by omega)
  have HC : Hid (∀ W, VM base K D W → W.cell? ⟨K.g, 5, none⟩ = some (.slice (some ⟨pb, 0, none⟩) K.l.length pc) ∧ W.cell? ⟨pb, i, none⟩ = some (.int .i64 (pl K.l i : Int)) ∧ W.cell? ⟨K.g, 4, none⟩ = some (.slice (some ⟨lb, 0, none⟩) K.l.length lc) ∧ W.cell? ⟨lb, i * 5, none⟩ = some (.int .i64 (insD K.l i).op)) :=
    Lib.hid fun W h => ⟨(h.pcell hp hi).1, (h.pcell hp hi).2, (h.lcell hl hi).1, (h.lcell hl hi).2.1⟩
  have HV := Lib.hid h
  have c0 := HC.out W h
  have hs := szO_pos (inO_ok (ok.at_ hi))
  have hp1 := ok.pl_le i (by omega)
  have hpe : Hid (beh K.l i = (pl K.l i : Int) + szO (insD K.l i).op) := Lib.hid rfl
  have l1 : (0 : Int) ≤ (i : Int) := by omega
  have l2 : (i : Int) < (K.l.length : Int) := by omega
  have l3 : IntKind.i64.wrap ((pl K.l i : Int) + szO (insD K.l i).op) = (pl K.l i : Int) + szO (insD K.l i).op := by rw [IntKind.wrap_i64]; omega
  have HS := Lib.hid fun w => Size_any (insD K.l i).op w
  have hz := ok.len
  generalize hOP : (insD K.l i).op = op at *
  generalize hPL : pl K.l i = p at *
  generalize szO op = sz at *
  generalize K.l.length = n at *
  clear hp hl h ok hOP hPL
  go_enter Tryd.func43, Tryd.ntmps43
  go_wp2_with fail
  go_region_held3 (fun W => W.cell? ⟨K.g, 5, none⟩ = some (.slice (some ⟨pb, 0, none⟩) n pc) ∧ W.cell? ⟨pb, i, none⟩ = some (.int .i64 (p : Int)) ∧ W.cell? ⟨K.g, 4, none⟩ = some (.slice (some ⟨lb, 0, none⟩) n lc) ∧ W.cell? ⟨lb, i * 5, none⟩ = some (.int .i64 op))
    (first | go_keep | exact HC.out _ (HV.out.below hb1 hB))
    (first | (go_at_call 58; ((with_reducible refine (HS.out _).mono ?_); rintro e w1 ⟨rfl, hb1'⟩; have hb1 := below_of_drew hb1'; clear hb1')))
  all_goals (go_wp2; go_ret; exact ⟨ret_int (by rw [hpe.out]), hb1⟩)
theorem int_at {w : World} {B n : Nat} {A : Option Addr} {zs : List Int} (h : Reads w B 1 A n (zs.map iv)) {k : Nat} (hk : k < n) : ∃ b o, A = some ⟨b, o, none⟩ ∧ b < B ∧ w.cell? ⟨b, o + k, none⟩ = some (.int .i64 (zs.getD k 0)) := by
  obtain ⟨⟨b, off, spot⟩, u, e, hb, hx, hc⟩ := Reads.at_ h hk
  have hspot : spot = none := by
    obtain ⟨ad0, u0, e0, _, _, hc0⟩ := Reads.at_ h (k := 0) (by omega)
    rw [e] at e0
    injection e0 with e0
    subst e0
    simpa [Addr.add] using World.cell?_spot hc0
  subst hspot
  refine ⟨b, off, e, hb, ?_⟩
  have e2 : (⟨b, off, none⟩ : Addr).add k = ⟨b, off + k, none⟩ := by unfold Addr.add; split <;> simp_all
  rw [← e2, hc, List.getD_eq_getElem?_getD]
  rw [List.getElem?_map] at hx
  cases hz : zs[k]? with
  | none => rw [hz] at hx; cases hx
  | some z => rw [hz] at hx; injection hx with hx; rw [← hx]; rfl
set_option maxRecDepth 100000 in
theorem literal_any {base : Nat} {K : VK} {D : VD} {W : World} (h : VM base K D W) (n kind : Int) (hn : 0 ≤ n) :
    Calls Tryd.prog 56 #[.pointer (some ⟨K.g, 0, none⟩), .int .i64 n, .int .i64 kind] W fun e w' => e = .returned (.bool (litO K.s n kind)) ∧ W = w' := by
  have c3 : W.cell? ⟨K.g, 3, none⟩ = some (.slice K.LA K.s.lits.length K.lc) := h.blk.cell 3
  by_cases hle : (K.s.lits.length : Int) ≤ n
  · rw [show litO K.s n kind = false by unfold litO; rw [if_pos hle]]
    clear h
    go_enter Tryd.func56, Tryd.ntmps56
    go_wp2
    go_ret
    exact ⟨rfl, rfl⟩
  · obtain ⟨k, rfl⟩ : ∃ k : Nat, n = k := ⟨n.toNat, by omega⟩
    obtain ⟨b, o, hA, hb, hc⟩ := int_at h.lit (k := k) (by omega)
    have hlit : litO K.s (k : Int) kind = (kind == 0 || K.s.lits.getD k 0 == kind) := by unfold litO; rw [if_neg hle]; rfl
    rw [hlit]
    rw [hA] at c3
    have l2 : (k : Int) < (K.s.lits.length : Int) := by omega
    generalize K.s.lits.length = m at *
    generalize K.s.lits.getD k 0 = z at *
    clear hlit h hA hle
    by_cases hk0 : kind = 0
    · subst hk0
      go_enter Tryd.func56, Tryd.ntmps56
      go_wp2
      go_ret
      exact ⟨by simp, rfl⟩
    · have hk : (kind == 0) = false := by simpa using hk0
      clear hk0
      go_enter Tryd.func56, Tryd.ntmps56
      go_wp2
      go_ret
      exact ⟨by simp [hk], rfl⟩
theorem ret_2 {a b c d : Int} (h1 : a = c) (h2 : b = d) : Ending.returned (.tuple #[.int .i64 a, .int .i64 b]) = Ending.returned (.tuple #[.int .i64 c, .int .i64 d]) := by rw [h1, h2]
structure RgsOk (rs : List Rg) : Prop where
  pos : 0 < rs.length
  root : (rgAt rs 0).deep = 0
  out : ∀ r, 0 < r → r < rs.length → ∃ o : Nat, (rgAt rs r).outer = o ∧ o < r ∧ (rgAt rs r).deep = (rgAt rs o).deep + 1
theorem RgsOk.deep {rs : List Rg} (h : RgsOk rs) : ∀ (n r : Nat), r ≤ n → r < rs.length → 0 ≤ (rgAt rs r).deep ∧ (rgAt rs r).deep ≤ r
  | 0, r, hr, hl => by
    obtain rfl : r = 0 := by omega
    rw [h.root]; simp
  | n + 1, r, hr, hl => by
    rcases Nat.eq_zero_or_pos r with rfl | hp
    · rw [h.root]; simp
    · obtain ⟨o, _, ho, hd⟩ := h.out r hp hl
      have := h.deep n o (by omega) (by omega)
      omega
theorem outs_snoc (rs : List Rg) : ∀ (k r : Nat), outs rs (k + 1) r = (rgAt rs (outs rs k r)).outer.toNat
  | 0, r => rfl
  | k + 1, r => by
    show outs rs (k + 1) (rgAt rs r).outer.toNat = _
    rw [outs_snoc rs k]
    rfl
theorem RgsOk.outs {rs : List Rg} (h : RgsOk rs) {r : Nat} (hr : r < rs.length) : ∀ (k : Nat), (k : Int) ≤ (rgAt rs r).deep → outs rs k r < rs.length ∧ (rgAt rs (outs rs k r)).deep = (rgAt rs r).deep - k
  | 0, _ => ⟨hr, by simp [Go.Proofs.YtaeegkljldngmaaDoor.outs]⟩
  | k + 1, hk => by
    obtain ⟨h1, h2⟩ := h.outs hr k (by omega)
    rw [outs_snoc]
    have hp : 0 < Go.Proofs.YtaeegkljldngmaaDoor.outs rs k r := by
      rcases Nat.eq_zero_or_pos (Go.Proofs.YtaeegkljldngmaaDoor.outs rs k r) with e | e
      · rw [e, h.root] at h2; omega
      · exact e
    obtain ⟨o, e, ho, hd⟩ := h.out _ hp h1
    rw [e, Int.toNat_natCast]
    exact ⟨by omega, by omega⟩
section
variable {W W' : World} {base : Nat} {K : VK} {D : VD}
theorem rgAt_some {rs : List Rg} {r : Nat} (h : r < rs.length) : rs[r]? = some (rgAt rs r) := by
  unfold rgAt
  rw [List.getD_eq_getElem?_getD, List.getElem?_eq_getElem h]
  rfl
theorem VM.rform (h : VM base K D W) (hn : 0 < D.rs.length) : ∃ rb rc, D.rv = .slice (some ⟨rb, 0, none⟩) D.rs.length rc := by
  obtain ⟨rb, rc, e1, _⟩ := own_at h.rgs hn
  exact ⟨rb, rc, e1⟩
theorem VM.rcell (h : VM base K D W) {rb rc : Nat} (hp : D.rv = .slice (some ⟨rb, 0, none⟩) D.rs.length rc) {r : Nat} (hr : r < D.rs.length) :
    W.cell? ⟨K.g, 8, none⟩ = some (.slice (some ⟨rb, 0, none⟩) D.rs.length rc) ∧ W.cell? ⟨rb, r * 6, none⟩ = some (.int .i64 (rgAt D.rs r).outer) ∧ W.cell? ⟨rb, r * 6 + 1, none⟩ = some (.int .i64 (rgAt D.rs r).deep) ∧ W.cell? ⟨rb, r * 6 + 2, none⟩ = some (.int .i64 (rgAt D.rs r).temps) ∧ W.cell? ⟨rb, r * 6 + 3, none⟩ = some (.int .i64 (rgAt D.rs r).fin) ∧ W.cell? ⟨rb, r * 6 + 4, none⟩ = some (D.sv.getD r (.slice none 0 0)) ∧ W.cell? ⟨rb, r * 6 + 5, none⟩ = some (.int .i64 (rgAt D.rs r).most) := by
  have h1 := h.rgs
  rw [hp] at h1
  have hx := rgAt_some hr
  have hc : ∀ j, j < 6 → W.cell? ⟨rb, r * 6 + j, none⟩ = ((rgAt D.rs r).cs (D.sv.getD r (.slice none 0 0)))[j]? := fun j hj => by
    rw [World.ownsRow.cellAt h1 _ (by omega)]
    exact rgC_at _ _ _ _ hx j hj
  exact ⟨by rw [← hp]; exact h.blk.cell 8, hc 0 (by omega), hc 1 (by omega), hc 2 (by omega), hc 3 (by omega), hc 4 (by omega), hc 5 (by omega)⟩
end
set_option maxRecDepth 100000 in
theorem temps_any {base : Nat} {K : VK} {D : VD} {W : World} (h : VM base K D W) (hok : RgsOk D.rs) (hrl : D.rs.length ≤ 32768) (r : Nat) (out : Int) (hr : r < D.rs.length) (ho : 0 ≤ out) :
    Calls Tryd.prog 57 #[.pointer (some ⟨K.g, 0, none⟩), .int .i64 (r : Int), .int .i64 out] W fun e w' => e = .returned (.int .i64 (tempsO D.rs r out)) ∧ W = w' := by
  obtain ⟨rb, rc, hrv⟩ := h.rform hok.pos
  have HC := Lib.hid fun r (hr : r < D.rs.length) => h.rcell hrv hr
  obtain ⟨c0, c1, c2, c3, c4, c5, c6⟩ := HC.out r hr
  have hdp := hok.deep r r (Nat.le_refl _) hr
  by_cases hlt : (rgAt D.rs r).deep < out
  · rw [show tempsO D.rs r out = -1 by unfold tempsO; rw [if_pos hlt]]
    generalize rgAt D.rs r = x at *
    generalize D.rs.length = m at *
    clear h hok hrv
    go_enter Tryd.func57, Tryd.ntmps57
    go_wp2
    go_ret
    exact ⟨rfl, rfl⟩
  · obtain ⟨q, rfl⟩ : ∃ q : Nat, out = q := ⟨out.toNat, by omega⟩
    have HT : Hid (tempsO D.rs r (q : Int) = (rgAt D.rs (outs D.rs q r)).temps) := Lib.hid (by unfold tempsO; rw [if_neg hlt, Int.toNat_natCast])
    have HO := Lib.hid fun k (hk : k ≤ q) => hok.outs hr k (by omega)
    have HOS := Lib.hid fun k (hk : k < q) => show ((rgAt D.rs (outs D.rs k r)).outer : Int) = (outs D.rs (k + 1) r : Int) by
      obtain ⟨h1, h2⟩ := hok.outs hr k (by omega)
      have hp : 0 < outs D.rs k r := by
        rcases Nat.eq_zero_or_pos (outs D.rs k r) with e | e
        · rw [e, hok.root] at h2; omega
        · exact e
      obtain ⟨o, e, _⟩ := hok.out _ hp h1
      rw [outs_snoc, e, Int.toNat_natCast]
    have hq : (q : Int) ≤ 32768 := by omega
    have hd1 : ¬ (rgAt D.rs r).deep < (q : Int) := hlt
    clear hlt hok hrv h c1 c3 c4 c5 c6
    generalize hdr : (rgAt D.rs r).deep = dr at *
    clear hdr
    go_enter Tryd.func57, Tryd.ntmps57
    go_wp2
    go_loop [1, 2] (fun a b => ∃ k : Nat, k ≤ q ∧ b = .int .i64 ((q - k : Nat) : Int) ∧ a = .int .i64 (outs D.rs k r : Int)) (fun _ b => (intOf b).toNat)
    case atStart => exact ⟨0, Nat.zero_le _, rfl, rfl⟩
    case round =>
      obtain ⟨k, hk, rfl, rfl⟩ := hrel
      obtain ⟨o1, _⟩ := HO.out k hk
      obtain ⟨_, d1, d2, d3, d4, d5, d6⟩ := HC.out _ o1
      by_cases hkq : k < q
      · have HN := Lib.hid (HOS.out k hkq)
        obtain ⟨t, ht⟩ : ∃ t : Nat, q - k = t + 1 := ⟨q - k - 1, by omega⟩
        rw [ht]
        have HTT : Hid (t = q - (k + 1)) := Lib.hid (by omega)
        have htb : t ≤ 32768 := by omega
        clear ht
        generalize rgAt D.rs (outs D.rs k r) = x at *
        generalize outs D.rs k r = y at *
        go_wp2
        go_round
        case rel => exact ⟨k + 1, by omega, by rw [← HTT.out], by rw [HN.out]⟩
        case measure => simp [intOf]
      · have hkq2 : k = q := by omega
        have HKQ := Lib.hid hkq2
        rw [show q - k = 0 by omega]
        have HTK : Hid (tempsO D.rs r (q : Int) = (rgAt D.rs (outs D.rs k r)).temps) := Lib.hid (by rw [HT.out, HKQ.out])
        clear hkq2
        generalize rgAt D.rs (outs D.rs k r) = x at *
        generalize outs D.rs k r = y at *
        go_wp2
        go_ret
        exact ⟨ret_int HTK.out.symm, rfl⟩
set_option maxRecDepth 100000 in
set_option maxHeartbeats 4000000 in
theorem effect_any (x : Ins) (w : World) (hx : x.Ok) : Calls Tryd.prog 46 #[x.val] w fun e w' => e = .returned (.tuple #[.int .i64 (takeO x), .int .i64 (putO x)]) ∧ Below w.heap.size w w' := by
  have ho := inO_ok hx
  have h30 := (show ∀ w, Calls Tryd.prog 14 #[.int .i64 x.op] w (fun e w' => e = .returned (.tuple #[.agg #[.string (ent x.op).nm, .int .i64 (ent x.op).has, .int .i64 (ent x.op).take, .int .i64 (ent x.op).put, .bool (ent x.op).ends], .bool true]) ∧ Below w.heap.size w w') from fun w => by
    have h := ops_any x.op w
    rw [ho] at h
    exact h)
  have HT : Hid (takeO x = if x.op = 16 ∨ x.op = 17 then x.b + 1 else if x.op = 25 then x.a else (ent x.op).take) := Lib.hid rfl
  have HP : Hid (putO x = if x.op = 16 ∨ x.op = 17 then 1 else if x.op = 25 then 1 else (ent x.op).put) := Lib.hid rfl
  have hb := hx.b
  generalize takeO x = tk at *
  generalize putO x = pt at *
  generalize ent x.op = en at *
  obtain ⟨nm, has, take, put, ends⟩ := en
  obtain ⟨op, a, b, c, z⟩ := x
  dsimp only at h30 HT HP hb
  simp only [Ins.val]
  have H30 := Lib.hid h30
  have z74 := zero50
  clear h30 ho hx
  have hc : op = 16 ∨ op = 17 ∨ op = 25 ∨ (op ≠ 16 ∧ op ≠ 17 ∧ op ≠ 25) := by omega
  rcases hc with rfl | rfl | rfl | ⟨h16, h17, h25⟩
  · have e1 : Hid (tk = b + 1 ∧ pt = 1) := Lib.hid ⟨by rw [HT.out]; rfl, by rw [HP.out]; rfl⟩
    clear HT HP
    go_enter Tryd.func46, Tryd.ntmps46
    go_wp2_with fail
    refine (H30.out _).mono ?_
    rintro e w1 ⟨rfl, hb1⟩
    have HX := Lib.hid ((Blk.new w 34 #[.int .i64 16, .int .i64 a, .int .i64 b, .int .i64 c, .int .i64 z]).below hb1 (by simp))
    have HB : Hid (Below w.heap.size w w1) := Lib.hid (((Below.refl _ _).alloc (Nat.le_refl _) _).trans (hb1.mono (by simp)))
    have hw := HX.out.lt
    have f0 : w1.cell? ⟨w.heap.size, 0, none⟩ = some (.int .i64 16) := HX.out.cell 0
    have f2 : w1.cell? ⟨w.heap.size, 2, none⟩ = some (.int .i64 b) := HX.out.cell 2
    clear hb1
    go_wp2
    go_ret2
    exact ⟨ret_2 e1.out.1.symm e1.out.2.symm, HB.out.alloc HB.out.size _⟩
  · have e1 : Hid (tk = b + 1 ∧ pt = 1) := Lib.hid ⟨by rw [HT.out]; rfl, by rw [HP.out]; rfl⟩
    clear HT HP
    go_enter Tryd.func46, Tryd.ntmps46
    go_wp2_with fail
    refine (H30.out _).mono ?_
    rintro e w1 ⟨rfl, hb1⟩
    have HX := Lib.hid ((Blk.new w 34 #[.int .i64 17, .int .i64 a, .int .i64 b, .int .i64 c, .int .i64 z]).below hb1 (by simp))
    have HB : Hid (Below w.heap.size w w1) := Lib.hid (((Below.refl _ _).alloc (Nat.le_refl _) _).trans (hb1.mono (by simp)))
    have hw := HX.out.lt
    have f0 : w1.cell? ⟨w.heap.size, 0, none⟩ = some (.int .i64 17) := HX.out.cell 0
    have f2 : w1.cell? ⟨w.heap.size, 2, none⟩ = some (.int .i64 b) := HX.out.cell 2
    clear hb1
    go_wp2
    go_ret2
    exact ⟨ret_2 e1.out.1.symm e1.out.2.symm, HB.out.alloc HB.out.size _⟩
  · have e1 : Hid (tk = a ∧ pt = 1) := Lib.hid ⟨by rw [HT.out]; rfl, by rw [HP.out]; rfl⟩
    clear HT HP
    go_enter Tryd.func46, Tryd.ntmps46
    go_wp2_with fail
    refine (H30.out _).mono ?_
    rintro e w1 ⟨rfl, hb1⟩
    have HX := Lib.hid ((Blk.new w 34 #[.int .i64 25, .int .i64 a, .int .i64 b, .int .i64 c, .int .i64 z]).below hb1 (by simp))
    have HB : Hid (Below w.heap.size w w1) := Lib.hid (((Below.refl _ _).alloc (Nat.le_refl _) _).trans (hb1.mono (by simp)))
    have hw := HX.out.lt
    have f0 : w1.cell? ⟨w.heap.size, 0, none⟩ = some (.int .i64 25) := HX.out.cell 0
    have f1 : w1.cell? ⟨w.heap.size, 1, none⟩ = some (.int .i64 a) := HX.out.cell 1
    clear hb1
    go_wp2
    go_ret2
    exact ⟨ret_2 e1.out.1.symm e1.out.2.symm, HB.out.alloc HB.out.size _⟩
  · have e1 : Hid (tk = take ∧ pt = put) := Lib.hid ⟨by rw [HT.out, if_neg (by omega), if_neg h25], by rw [HP.out, if_neg (by omega), if_neg h25]⟩
    clear HT HP
    go_enter Tryd.func46, Tryd.ntmps46
    go_wp2_with fail
    refine (H30.out _).mono ?_
    rintro e w1 ⟨rfl, hb1⟩
    have HX := Lib.hid ((Blk.new w 34 #[.int .i64 op, .int .i64 a, .int .i64 b, .int .i64 c, .int .i64 z]).below hb1 (by simp))
    have HB : Hid (Below w.heap.size w w1) := Lib.hid (((Below.refl _ _).alloc (Nat.le_refl _) _).trans (hb1.mono (by simp)))
    have hw := HX.out.lt
    have f0 : w1.cell? ⟨w.heap.size, 0, none⟩ = some (.int .i64 op) := HX.out.cell 0
    clear hb1
    go_wp2
    go_quiet (fail)
    go_wp2
    go_ret2
    exact ⟨ret_2 e1.out.1.symm e1.out.2.symm, below_drewN (HB.out.alloc HB.out.size _) _⟩
end Go.Proofs.YtaeegkljldngmaaDoor
