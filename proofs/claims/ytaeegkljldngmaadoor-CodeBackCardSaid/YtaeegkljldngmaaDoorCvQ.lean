/-
  The program's Verify f15, where the splitting's contract is known. No statement of the seat is proved here.
-/
import Derived.Test.YtaeegkljldngmaaDoorCvO
import Derived.Test.YtaeegkljldngmaaDoorCdK
namespace Go.Proofs.YtaeegkljldngmaaDoor
open Go.RowKit

/-- the splitting f36 does what it should with a shape and instructions -/
def SplitsOk (s : Shp) (l : List Ins) : Prop :=
  ∀ (base : Nat) (K : VK) (D : VD) (W : World), K.s = s → K.l = l → VM base K D W → base ≤ W.heap.size → KOk K → D.rs = [] → D.sv = [] → D.of = [] → D.body = [] →
    Calls Tryd.prog 29 #[.pointer (some ⟨K.g, 0, none⟩)] W (SplP base K D (splitF K.s K.l K.l.length 0 (sp0 K.s (pl K.l K.l.length))) W)
theorem splits_flat (s : Shp) {l : List Ins} (h : ∀ k, k < l.length → (insD l k).op ≠ 24) : SplitsOk s l := by
  intro base K D W hs hl hv hB ok h1 h2 h3 h4
  subst hs hl
  rcases Nat.eq_zero_or_pos K.l.length with h0 | h0
  · exact split_nil hv hB (List.eq_nil_of_length_eq_zero h0) h1 h2 h3 h4
  · exact split_flat hv hB ok h0 h h1 h2 h3 h4
/-- between Verify's three steps -/
def VStg (base : Nat) (K : VK) (dv : Value) (W0 : World) (j : Nat) (W : World) : Prop :=
  Below base W0 W ∧ if j = 0 then VM base K (VD0 dv K.l.length) W else
    ∃ (D : VD) (S : Sp), VM base K D W ∧ D.sp S ∧ D.dv = dv ∧ D.dp = List.replicate K.l.length (-1) ∧ D.fault = -1 ∧ splitF K.s K.l K.l.length 0 (sp0 K.s (pl K.l K.l.length)) = .ok S ∧
      (2 ≤ j → jumpsF K.l S.of K.l.length 0 = none) ∧ (3 ≤ j → ¬ K.l.length = 0 ∧ ¬ 0 ≤ endsF K.l S.rs (-1))
def StgP (base : Nat) (K : VK) (dv : Value) (W0 : World) (j : Nat) (e : Ending) (w' : World) : Prop :=
  ∃ a b : Int, e = .returned (.tuple #[.int .i64 a, .int .i64 b]) ∧ ((b ≠ 0 ∧ verL K.s K.l = (0, a, b) ∧ Below base W0 w') ∨ (b = 0 ∧ VStg base K dv W0 j w'))
theorem spStep_err {s : Shp} {l : List Ins} {i : Nat} {S : Sp} {x : Int × Int} (h : spStep s l i S = .error x) : x.2 ≠ 0 := by
  unfold spStep at h
  dsimp only at h
  split at h
  · split at h
    · split at h
      · injection h with h; subst h; exact (by decide : (52 : Int) ≠ 0)
      · cases h
    · cases h
  · injection h with h; subst h; exact (by decide : (51 : Int) ≠ 0)
theorem splitF_err {s : Shp} {l : List Ins} {x : Int × Int} : ∀ (f i : Nat) (S : Sp), splitF s l f i S = .error x → x.2 ≠ 0
  | 0, _, _, h => by unfold splitF at h; cases h
  | f + 1, i, S, h => by
    unfold splitF at h
    cases h1 : spStep s l i S with
    | ok S1 => rw [h1] at h; exact splitF_err f _ _ h
    | error e => rw [h1] at h; injection h with h; subst h; exact spStep_err h1
section
variable {base : Nat} {K : VK} {dv : Value} {W0 W : World}
theorem stg0 (h : VStg base K dv W0 0 W) (hB : base ≤ W0.heap.size) (ok : KOk K) (hsp : SplitsOk K.s K.l) : Calls Tryd.prog 29 #[.pointer (some ⟨K.g, 0, none⟩)] W (StgP base K dv W0 1) := by
  obtain ⟨ho, hv⟩ := h
  rw [if_pos rfl] at hv
  refine (hsp base K _ W rfl rfl hv (Nat.le_trans hB ho.size) ok rfl rfl rfl rfl).mono fun e w' hp => ?_
  obtain ⟨D, h1, h2, h3, h4, h5, h6⟩ := hp
  cases hx : splitF K.s K.l K.l.length 0 (sp0 K.s (pl K.l K.l.length)) with
  | error x =>
    rw [hx] at h6
    exact ⟨_, _, h6, .inl ⟨splitF_err _ _ _ hx, by unfold verL; rw [hx], ho.trans h2⟩⟩
  | ok S =>
    rw [hx] at h6
    refine ⟨_, _, h6.1, .inr ⟨rfl, ho.trans h2, ?_⟩⟩
    rw [if_neg (by decide)]
    exact ⟨D, S, h1, h6.2, h3, h4, h5, hx, fun h => absurd h (by decide), fun h => absurd h (by decide)⟩
theorem stg1 (h : VStg base K dv W0 1 W) (hB : base ≤ W0.heap.size) (ok : KOk K) : Calls Tryd.prog 30 #[.pointer (some ⟨K.g, 0, none⟩)] W (StgP base K dv W0 2) := by
  obtain ⟨ho, hv⟩ := h
  rw [if_neg (by decide)] at hv
  obtain ⟨D, S, h1, h2, h3, h4, h5, h6, _, _⟩ := hv
  have hof : D.of.length = K.l.length := by
    rw [h2.2.1]
    rcases Nat.eq_zero_or_pos K.l.length with h0 | h0
    · rw [h0] at h6 ⊢
      unfold splitF at h6
      injection h6 with h6
      subst h6
      rfl
    · exact (split_whole ok.ok h0 h6).1.ofl
  refine (jumps_any h1 (Nat.le_trans hB ho.size) ok hof).mono fun e w' hp => ?_
  obtain ⟨hp1, hp2⟩ := hp
  have hb := ho.trans (hp2.mono (Nat.le_trans hB ho.size))
  rw [h2.2.1] at hp1
  cases hx : jumpsF K.l S.of K.l.length 0 with
  | some i =>
    rw [hx] at hp1
    exact ⟨_, _, hp1, .inl ⟨by show (52 : Int) ≠ 0; decide, by unfold verL; rw [h6]; dsimp only; rw [hx]; rfl, hb⟩⟩
  | none =>
    rw [hx] at hp1
    refine ⟨_, _, hp1, .inr ⟨rfl, hb, ?_⟩⟩
    rw [if_neg (by decide)]
    exact ⟨D, S, h1.below hp2 (Nat.le_trans hB ho.size), h2, h3, h4, h5, h6, fun _ => hx, fun h => absurd h (by decide)⟩
theorem stg2 (h : VStg base K dv W0 2 W) (hB : base ≤ W0.heap.size) (ok : KOk K) : Calls Tryd.prog 31 #[.pointer (some ⟨K.g, 0, none⟩)] W (StgP base K dv W0 3) := by
  obtain ⟨ho, hv⟩ := h
  rw [if_neg (by decide)] at hv
  obtain ⟨D, S, h1, h2, h3, h4, h5, h6, h7, _⟩ := hv
  have hj := h7 (Nat.le_refl _)
  rcases Nat.eq_zero_or_pos K.l.length with h0 | h0
  · refine (ends_nil h1 (List.eq_nil_of_length_eq_zero h0)).mono fun e w' hp => ?_
    obtain ⟨hp1, rfl⟩ := hp
    exact ⟨_, _, hp1, .inl ⟨by decide, by unfold verL; rw [h6]; dsimp only; rw [hj]; dsimp only; rw [if_pos h0], ho⟩⟩
  · obtain ⟨hs, _⟩ := split_whole ok.ok h0 h6
    have hlen := ok.len
    refine (ends_any h1 (Nat.le_trans hB ho.size) ok (by rw [h2.1]; exact hs.stepsOk) (by rw [h2.1]; have := hs.cnt; omega) (by rw [h2.1]; intro x hx; have := hs.stl x hx; omega)).mono fun e w' hp => ?_
    obtain ⟨hp1, hp2⟩ := hp
    have hb := ho.trans (hp2.mono (Nat.le_trans hB ho.size))
    rw [h2.1] at hp1
    unfold resE at hp1
    rw [if_neg (by omega)] at hp1
    by_cases he : 0 ≤ endsF K.l S.rs (-1)
    · rw [if_pos he] at hp1
      exact ⟨_, _, hp1, .inl ⟨by show (54 : Int) ≠ 0; decide, by unfold verL; rw [h6]; dsimp only; rw [hj]; dsimp only; rw [if_neg (by omega), if_pos he], hb⟩⟩
    · rw [if_neg he] at hp1
      refine ⟨_, _, hp1, .inr ⟨rfl, hb, ?_⟩⟩
      rw [if_neg (by decide)]
      exact ⟨D, S, h1.below hp2 (Nat.le_trans hB ho.size), h2, h3, h4, h5, h6, fun _ => hj, fun _ => ⟨by omega, he⟩⟩
end
theorem ix88 (a b c : Value) (w : World) : (Instr.index 84 (.agg #[a, b, c]) (.int .i64 0)).run Tryd.prog w = .ok a w ∧ (Instr.index 84 (.agg #[a, b, c]) (.int .i64 1)).run Tryd.prog w = .ok b w ∧ (Instr.index 84 (.agg #[a, b, c]) (.int .i64 2)).run Tryd.prog w = .ok c w := ⟨by kernel_rfl, by kernel_rfl, by kernel_rfl⟩
/-- behind k instructions, while blocks are looked at -/
structure BSt (base : Nat) (K : VK) (S : Sp) (rb rc : Nat) (ms : List Int) (F : Int) (W0 : World) (k : Nat) (W : World) : Prop where
  ex : ∃ D : VD, VM base K D W ∧ D.rv = .slice (some ⟨rb, 0, none⟩) S.rs.length rc ∧ RsMs S.rs D.rs ms ∧ D.body = S.body ∧ blksF K.l S.body ms (K.l.length - k) k D.fault = F
  old : Below base W0 W
theorem bst_start {base : Nat} {K : VK} {S : Sp} {rb rc : Nat} {RR : List Int × Int} {W0 W : World} (h : WSt base K S rb rc RR W0 S.rs.length W) : BSt base K S rb rc RR.1 (blksF K.l S.body RR.1 K.l.length 0 RR.2) W0 0 W := by
  obtain ⟨⟨D, ms, hv, hrv, hml, hrs, hbd, _, _, hR⟩, ho⟩ := h
  rw [List.drop_eq_nil_of_le (Nat.le_refl _)] at hR
  unfold wksF at hR
  rw [List.append_nil] at hR
  subst hR
  exact ⟨⟨D, hv, hrv, hrs, hbd, rfl⟩, ho⟩
theorem bst_below {base : Nat} {K : VK} {S : Sp} {rb rc : Nat} {ms : List Int} {F : Int} {W0 W W' : World} {k : Nat} (h : BSt base K S rb rc ms F W0 k W) (hB : base ≤ W.heap.size) (hb : Below W.heap.size W W') : BSt base K S rb rc ms F W0 k W' := by
  obtain ⟨⟨D, hv, h1, h2, h3, h4⟩, ho⟩ := h
  exact ⟨⟨D, hv.below hb hB, h1, h2, h3, h4⟩, ho.trans (hb.mono hB)⟩
theorem blksF_step {l : List Ins} {body ms : List Int} {k : Nat} {f F : Int} (hk : k < l.length) (h : blksF l body ms (l.length - k) k f = F) :
    blksF l body ms (l.length - (k + 1)) (k + 1) (if (insD l k).op = 24 ∧ (insD l k).c < ms.getD (body.getD k 0).toNat 0 then lower f (pl l k) else f) = F := by
  obtain ⟨m, hm⟩ : ∃ m, l.length - k = m + 1 := ⟨l.length - k - 1, by omega⟩
  rw [hm] at h
  rw [show l.length - (k + 1) = m by omega]
  exact h
theorem bst_pass {base : Nat} {K : VK} {S : Sp} {rb rc : Nat} {ms : List Int} {F : Int} {W0 W : World} {k : Nat} (h : BSt base K S rb rc ms F W0 k W) (hk : k < K.l.length) (hn : ¬ ((insD K.l k).op = 24 ∧ (insD K.l k).c < ms.getD (S.body.getD k 0).toNat 0)) : BSt base K S rb rc ms F W0 (k + 1) W := by
  obtain ⟨⟨D, hv, h1, h2, h3, h4⟩, ho⟩ := h
  have := blksF_step hk h4
  rw [if_neg hn] at this
  exact ⟨⟨D, hv, h1, h2, h3, this⟩, ho⟩
theorem bst_blame {base : Nat} {K : VK} {S : Sp} {rb rc : Nat} {ms : List Int} {F : Int} {W0 W : World} {k : Nat} (h : BSt base K S rb rc ms F W0 k W) (hB : base ≤ W.heap.size) (ok : KOk K) (hk : k < K.l.length) (hn : (insD K.l k).op = 24 ∧ (insD K.l k).c < ms.getD (S.body.getD k 0).toNat 0) :
    Calls Tryd.prog 33 #[.pointer (some ⟨K.g, 0, none⟩), .int .i64 (k : Int)] W fun e w' => e = .returned (.tuple #[]) ∧ BSt base K S rb rc ms F W0 (k + 1) w' := by
  obtain ⟨⟨D, hv, h1, h2, h3, h4⟩, ho⟩ := h
  have := blksF_step hk h4
  rw [if_pos hn] at this
  refine (blame_any hv hB k hk ok.len).mono fun e w' hp => ⟨hp.1, ⟨_, hp.2.1, h1, h2, h3, this⟩, ho.trans (hv.oldI hp.2.2 hB)⟩
/-- what is read of a block -/
theorem bst_cells {base : Nat} {K : VK} {S : Sp} {rb rc : Nat} {ms : List Int} {F : Int} {W0 W : World} {k : Nat} (h : BSt base K S rb rc ms F W0 k W) (hs : SpW K S) (hk : k < K.l.length) (h24 : (insD K.l k).op = 24) :
    ∃ (b5 k5 q : Nat), W.cell? ⟨K.g, 8, none⟩ = some (.slice (some ⟨rb, 0, none⟩) S.rs.length rc) ∧ W.cell? ⟨K.g, 10, none⟩ = some (.slice (some ⟨b5, 0, none⟩) K.l.length k5) ∧ W.cell? ⟨b5, k, none⟩ = some (.int .i64 (q : Int)) ∧ q < S.rs.length ∧ W.cell? ⟨rb, q * 6 + 5, none⟩ = some (.int .i64 (ms.getD q 0)) ∧ S.body.getD k 0 = (q : Int) := by
  obtain ⟨⟨D, hv, h1, h2, h3, h4⟩, ho⟩ := h
  obtain ⟨q, q1, _, q2⟩ := hs.more.bd k hk h24
  have hbl := hs.ok.bol
  obtain ⟨b5, k5, hb1, _, _, _, _, _, hb2⟩ := own_at hv.bdy (i := k) (by rw [h3, hbl]; exact hk)
  rw [h3, hbl] at hb1
  obtain ⟨r8, _, _, _, _, _, r5⟩ := hv.rcell (rb := rb) (rc := rc) (by rw [h2.1]; exact h1) (show q < D.rs.length by rw [h2.1]; exact q2)
  refine ⟨b5, k5, q, by rw [← h1]; exact hv.blk.cell 8, by rw [← hb1]; exact hv.blk.cell 10, ?_, q2, ?_, q1⟩
  · have := (hb2 0 (by omega)).1
    simp only [Nat.mul_one, Nat.add_zero] at this
    rw [this, h3, List.getElem?_map, List.getElem?_eq_getElem (by omega)]
    rw [List.getD_eq_getElem?_getD, List.getElem?_eq_getElem (by omega)] at q1
    simp only [Option.getD_some] at q1
    rw [q1]
    rfl
  · rw [r5, h2.2 q q2]
theorem bst_fault {base : Nat} {K : VK} {S : Sp} {rb rc : Nat} {ms : List Int} {F : Int} {W0 W : World} (h : BSt base K S rb rc ms F W0 K.l.length W) : W.cell? ⟨K.g, 12, none⟩ = some (.int .i64 F) := by
  obtain ⟨⟨D, hv, h1, h2, h3, h4⟩, ho⟩ := h
  rw [Nat.sub_self] at h4
  unfold blksF at h4
  rw [← h4]
  exact hv.blk.cell 12
theorem bst_first {base : Nat} {K : VK} {S : Sp} {rb rc : Nat} {ms : List Int} {F : Int} {W0 W : World} {k : Nat} (h : BSt base K S rb rc ms F W0 k W) (hp : 0 < S.rs.length) : W.cell? ⟨K.g, 8, none⟩ = some (.slice (some ⟨rb, 0, none⟩) S.rs.length rc) ∧ W.cell? ⟨rb, 5, none⟩ = some (.int .i64 (ms.getD 0 0)) := by
  obtain ⟨⟨D, hv, h1, h2, h3, h4⟩, ho⟩ := h
  obtain ⟨r8, _, _, _, _, _, r5⟩ := hv.rcell (rb := rb) (rc := rc) (by rw [h2.1]; exact h1) (show 0 < D.rs.length by rw [h2.1]; exact hp)
  refine ⟨by rw [← h1]; exact hv.blk.cell 8, ?_⟩
  rw [h2.2 0 hp] at r5
  simpa using r5
/-- what Verify tells -/
def verB (s : Shp) (bs : List UInt8) : Int × Int × Int :=
  if shB s.args s.temps s.fields s.lits.length then
    if (decL bs).2.2.2 = 0 then verL s (decL bs).1 else (0, ((decL bs).2.2.1 : Int), (decL bs).2.2.2)
  else (0, 0, 1)
def VerP (R : Int × Int × Int) (w : World) (e : Ending) (w' : World) : Prop := e = .returned (.tuple #[.int .i64 R.1, .int .i64 R.2.1, .int .i64 R.2.2]) ∧ Below w.heap.size w w'
theorem whole_ps {bs : List UInt8} {k : Nat} {l : List Ins} {ps : List Nat} (h : Whole bs k l ps) : natZ ps = plsL l := by
  apply List.ext_getElem?
  intro i
  unfold natZ plsL
  rw [List.getElem?_map, List.getElem?_map]
  by_cases hi : i < l.length
  · rw [h.ps i hi, List.getElem?_range hi]; rfl
  · rw [List.getElem?_eq_none (by rw [h.len]; omega), List.getElem?_eq_none (by simp; omega)]
    rfl
theorem len_pl {l : List Ins} (hok : ∀ x ∈ l, x.Ok) : ∀ i, i ≤ l.length → i ≤ pl l i
  | 0, _ => Nat.zero_le _
  | i + 1, h => by
    have := len_pl hok i (by omega)
    have := pl_lt hok (i := i) (j := i + 1) (by omega) h
    omega
theorem whole_len {bs : List UInt8} {k : Nat} {l : List Ins} {ps : List Nat} (h : Whole bs k l ps) : l.length ≤ k := by
  have := len_pl h.ok l.length (Nat.le_refl _)
  rw [h.fin] at this
  exact this
theorem rep_len (k : Nat) : (List.replicate k (-1 : Int) ++ [-1]).length = k + 1 := by simp
theorem VM0.start {s : Shp} {l : List Ins} {A1 A2 LA : Option Addr} {c1 c2 lc : Nat} {w w3 : World} {B2 : Nat} (hB2 : w.heap.size ≤ B2) (hB : Below w.heap.size w w3) (hL : Reads w w.heap.size 1 LA s.lits.length (s.lits.map iv)) (ho : OwnIn w3 B2 (.slice A1 l.length c1) l) (hp : OwnZ w3 B2 (.slice A2 l.length c2) (plsL l)) :
    VM0 w.heap.size ⟨s, l, (mapPut (w3.alloc (.map #[] 0)) .i64 w3.heap.size [] (pl l l.length : Int) (.int .i64 (l.length : Int))).heap.size, w3.heap.size, LA, lc, .slice A1 l.length c1, .slice A2 l.length c2⟩ (.slice none 0 0) 0 w ((mapPut (w3.alloc (.map #[] 0)) .i64 w3.heap.size [] (pl l l.length : Int) (.int .i64 (l.length : Int))).alloc (.cells #[.int .i64 s.args, .int .i64 s.temps, .int .i64 s.fields, .slice LA s.lits.length lc, .slice A1 l.length c1, .slice A2 l.length c2, .int .i64 (pl l l.length : Int), .map (some w3.heap.size), .slice none 0 0, .slice none 0 0, .slice none 0 0, .slice none 0 0, .int .i64 (-1)] 82)) := by
  have hm := MapI.made w3 .i64
  have hmp := hm.put (pl l l.length : Int) (.int .i64 (l.length : Int))
  have far : ∀ k, k < w3.heap.size → (mapPut (w3.alloc (.map #[] 0)) .i64 w3.heap.size [] (pl l l.length : Int) (.int .i64 (l.length : Int))).heap[k]? = w3.heap[k]? := fun k hk => (hm.put_far _ _ (by omega)).trans (Below.heap_alloc _ _ _ hk)
  have hsz : w3.heap.size < (mapPut (w3.alloc (.map #[] 0)) .i64 w3.heap.size [] (pl l l.length : Int) (.int .i64 (l.length : Int))).heap.size := by rw [mapPut_size]; simp
  have hos : (mapPut (w3.alloc (.map #[] 0)) .i64 w3.heap.size [] (pl l l.length : Int) (.int .i64 (l.length : Int))).os = w3.os ∧ (mapPut (w3.alloc (.map #[] 0)) .i64 w3.heap.size [] (pl l l.length : Int) (.int .i64 (l.length : Int))).tape = w3.tape ∧ (mapPut (w3.alloc (.map #[] 0)) .i64 w3.heap.size [] (pl l l.length : Int) (.int .i64 (l.length : Int))).output = w3.output := ⟨rfl, rfl, rfl⟩
  generalize mapPut (w3.alloc (.map #[] 0)) .i64 w3.heap.size [] (pl l l.length : Int) (.int .i64 (l.length : Int)) = w4 at *
  have hb4 : Below w3.heap.size w3 w4 := ⟨hos.1, hos.2.1, hos.2.2, by omega, far⟩
  have hb5 : ∀ o, Below w3.heap.size w3 (w4.alloc o) := fun o => hb4.alloc (by omega) o
  have h35 := hB.size
  refine ⟨Blk.new w4 82 _, hL.keep fun p hp => (hB.trans ((hb5 _).mono (by omega))).cell hp, ?_, ?_, ?_, World.ownsRow_nil _ _ _ _, fun k _ hk => by simp [Value.ownBlock] at hk, hB.trans ((hb5 _).mono (by omega)), by show w.heap.size ≤ w4.heap.size; omega, by show w.heap.size ≤ w3.heap.size; omega⟩
  · exact own_base (own_same ho fun k hk => (hb5 _).block k (World.ownsRow.lt ho k hk).2) hB2
  · exact own_base (own_same hp fun k hk => (hb5 _).block k (World.ownsRow.lt hp k hk).2) hB2
  · exact hmp.keep (Below.heap_alloc _ _ _ hsz)
set_option maxRecDepth 100000 in
set_option maxHeartbeats 8000000 in
theorem verify_any (A : Option Addr) (n c : Nat) (bs : List UInt8) (s : Shp) (LA : Option Addr) (lc : Nat) (w : World) (hr : RdB w w.heap.size A n bs) (hl : Reads w w.heap.size 1 LA s.lits.length (s.lits.map iv)) (hsp : SplitsOk s (decL bs).1) :
    Calls Tryd.prog 13 #[.slice A n c, .agg #[.int .i64 s.args, .int .i64 s.temps, .int .i64 s.fields, .slice LA s.lits.length lc]] w (VerP (verB s bs) w) := by
  obtain ⟨R, hR⟩ : ∃ R, verB s bs = R := ⟨_, rfl⟩
  rw [hR]
  have HR := Lib.hid hR
  have HRD := Lib.hid hr
  have HL := Lib.hid hl
  have HSP := Lib.hid hsp
  have hln := hr.len1
  have HB1 : Hid (Below w.heap.size w (w.alloc (.cells #[.int .i64 s.args, .int .i64 s.temps, .int .i64 s.fields, .slice LA s.lits.length lc] 48))) := Lib.hid ((Below.refl _ _).alloc (Nat.le_refl _) _)
  have HX1 := Lib.hid (Blk.new w 48 #[.int .i64 s.args, .int .i64 s.temps, .int .i64 s.fields, .slice LA s.lits.length lc])
  have hmm := @run_makeMap Tryd.prog
  clear hR hr hl hsp
  go_enter Tryd.func13, Tryd.ntmps13
  go_upto_region 1 with fail
  generalize w.alloc (.cells #[.int .i64 s.args, .int .i64 s.temps, .int .i64 s.fields, .slice LA s.lits.length lc] 48) = w1 at *
  have k0 : w1.cell? ⟨w.heap.size, 0, none⟩ = some (.int .i64 s.args) := HX1.out.cell 0
  have k1 : w1.cell? ⟨w.heap.size, 1, none⟩ = some (.int .i64 s.temps) := HX1.out.cell 1
  have k2 : w1.cell? ⟨w.heap.size, 2, none⟩ = some (.int .i64 s.fields) := HX1.out.cell 2
  have k3 : w1.cell? ⟨w.heap.size, 3, none⟩ = some (.slice LA s.lits.length lc) := HX1.out.cell 3
  have H35 := Lib.hid (may_any s.args s.temps s.fields LA s.lits.length lc w1)
  cases hsh : shB s.args s.temps s.fields s.lits.length with
  | false =>
    have HF : Hid (R = (0, 0, 1)) := Lib.hid (by rw [← HR.out]; unfold verB; rw [hsh]; rfl)
    rw [hsh] at H35
    clear hsh
    go_wp2_with (go_at_call 28; refine H35.out.mono ?_; rintro e w2 ⟨rfl, hb2⟩; have HB2 := Lib.hid (HB1.out.trans (hb2.mono HB1.out.size)); clear hb2)
    go_ret3
    rw [HF.out]
    exact ⟨rfl, HB2.out⟩
  | true =>
    have HSH := Lib.hid hsh
    rw [hsh] at H35
    clear hsh
    go_upto_region 3 with (go_at_call 28; refine H35.out.mono ?_; rintro e w2 ⟨rfl, hb2⟩; have HB2 := Lib.hid (HB1.out.trans (hb2.mono HB1.out.size)); have HX2 := Lib.hid (HX1.out.below hb2 HX1.out.lt); clear hb2)
    clear k0 k1 k2 k3 H35 HX1 HB1
    have H24 := Lib.hid (Decode_any A n c bs w2 ((HRD.out.below HB2.out).more HB2.out.size))
    rcases decL_cases bs with ⟨_, hd⟩ | ⟨hbl, ⟨l, ps, hd, hwh⟩ | ⟨pb, hd, _⟩⟩
    · have HF : Hid (R = (0, 0, 2)) := Lib.hid (by rw [← HR.out]; unfold verB; rw [HSH.out, hd]; rfl)
      rw [hd] at H24
      clear hd HSP
      go_wp2_with (go_at_call 6; refine H24.out.mono ?_; rintro e w3 ⟨hb3, lv, pv, rfl, _, _⟩; have HB3 := Lib.hid (HB2.out.trans (hb3.mono HB2.out.size)); clear hb3)
      go_ret3
      rw [HF.out]
      exact ⟨rfl, HB3.out⟩
    rotate_left
    · have HF : Hid (R = (0, (pb : Int), 50)) := Lib.hid (by rw [← HR.out]; unfold verB; rw [HSH.out, hd]; rfl)
      rw [hd] at H24
      clear hd HSP
      go_wp2_with (go_at_call 6; refine H24.out.mono ?_; rintro e w3 ⟨hb3, lv, pv, rfl, _, _⟩; have HB3 := Lib.hid (HB2.out.trans (hb3.mono HB2.out.size)); clear hb3)
      go_ret3
      rw [HF.out]
      exact ⟨rfl, HB3.out⟩
    · have HF : Hid (R = verL s l) := Lib.hid (by rw [← HR.out]; unfold verB; rw [HSH.out, hd]; rfl)
      rw [hd] at H24 HSP
      have HW := Lib.hid hwh
      have hpsz := whole_ps hwh
      have hll := whole_len hwh
      obtain rfl : n = pl l l.length := by have := hwh.fin; omega
      clear hd hwh
      go_upto_region 4 with (go_at_call 6; refine H24.out.mono ?_; rintro e w3 ⟨hb3, lv, pv, rfl, ho3, hp3⟩; have HB3 := Lib.hid (HB2.out.trans (hb3.mono HB2.out.size)); have HX3 := Lib.hid (HX2.out.below hb3 HX2.out.lt); have HO3 := Lib.hid ho3; have HP3 := Lib.hid hp3; clear hb3 ho3 hp3)
      clear H24 HX2
      rw [hpsz] at HP3
      obtain ⟨A1, c1, rfl, _, _⟩ := own_form HO3.out
      obtain ⟨A2, c2, hpv, _, _⟩ := own_form HP3.out
      rw [show (plsL l).length = l.length by simp [plsL]] at hpv
      subst hpv
      have k0 : w3.cell? ⟨w.heap.size, 0, none⟩ = some (.int .i64 s.args) := HX3.out.cell 0
      have k1 : w3.cell? ⟨w.heap.size, 1, none⟩ = some (.int .i64 s.temps) := HX3.out.cell 1
      have k2 : w3.cell? ⟨w.heap.size, 2, none⟩ = some (.int .i64 s.fields) := HX3.out.cell 2
      have k3 : w3.cell? ⟨w.heap.size, 3, none⟩ = some (.slice LA s.lits.length lc) := HX3.out.cell 3
      have hup := run_updateI (P := Tryd.prog) Tryd.underlying79 Tryd.underlying3 (MapI.made w3 .i64) (pl l l.length : Int) (.int .i64 (l.length : Int)) rfl
      have HM0 := Lib.hid (VM0.start (s := s) (lc := lc) HB2.out.size HB3.out HL.out HO3.out HP3.out)
      go_upto_region 7 with fail
      generalize hw4 : mapPut (w3.alloc (.map #[] 0)) .i64 w3.heap.size [] (pl l l.length : Int) (.int .i64 (l.length : Int)) = w4 at *
      generalize hg : w4.heap.size = g at *
      generalize w3.heap.size = mb at *
      generalize w4.alloc (.cells #[.int .i64 s.args, .int .i64 s.temps, .int .i64 s.fields, .slice LA s.lits.length lc, .slice A1 l.length c1, .slice A2 l.length c2, .int .i64 (pl l l.length : Int), .map (some mb), .slice none 0 0, .slice none 0 0, .slice none 0 0, .slice none 0 0, .int .i64 (-1)] 82) = w5 at *
      clear hw4 hg k0 k1 k2 k3 HX3 HB3 HO3 HP3 hup hmm HB2 HRD
      obtain ⟨K, hK⟩ : ∃ K : VK, K = ⟨s, l, g, mb, LA, lc, .slice A1 l.length c1, .slice A2 l.length c2⟩ := ⟨_, rfl⟩
      rw [← hK] at HM0
      have HOK : Hid (KOk K) := Lib.hid (by rw [hK]; exact ⟨HW.out.ok, by show pl l l.length ≤ 32767; omega, by show l.length ≤ 32767; omega, HSH.out⟩)
      have hlv : K.lv = .slice A1 l.length c1 := by rw [hK]
      have hpv : K.pv = .slice A2 l.length c2 := by rw [hK]
      obtain rfl : s = K.s := by rw [hK]
      obtain rfl : l = K.l := by rw [hK]
      obtain rfl : g = K.g := by rw [hK]
      obtain rfl : mb = K.mb := by rw [hK]
      obtain rfl : LA = K.LA := by rw [hK]
      obtain rfl : lc = K.lc := by rw [hK]
      have HLV := Lib.hid hlv
      have HPV := Lib.hid hpv
      have hlen := HOK.out.len
      clear hK hlv hpv hpsz hll hln hbl HW
      go_wp2
      go_loopw [50] (fun i wr => ∃ (k : Nat) (dv : Value), k ≤ K.l.length ∧ i = .int .i64 k ∧ VM0 w.heap.size K dv k w wr) (fun i _ => K.l.length - (intOf i).toNat)
      case atStart => exact ⟨0, _, Nat.zero_le _, rfl, HM0.out⟩
      case round =>
        obtain ⟨k, dv, hk, rfl, hM⟩ := hrel
        have HM := Lib.hid hM
        clear HM0
        by_cases hlt : k < K.l.length
        · obtain ⟨A3, c3, hdv, _, _⟩ := own_form hM.dps
          rw [List.length_replicate] at hdv
          subst hdv
          obtain ⟨pb, pc, hp1, _, hpb, _, _, _, hp2⟩ := own_at hM.pls (i := k) (by simpa [plsL] using hlt)
          rw [HPV.out] at hp1
          obtain ⟨rfl, hzz, rfl⟩ : A2 = some ⟨pb, 0, none⟩ ∧ K.l.length = (plsL K.l).length ∧ c2 = pc := by injection hp1 with a b c; exact ⟨a, b, c⟩
          have p5 : wr.cell? ⟨pb, k, none⟩ = some (.int .i64 (pl K.l k : Int)) := by
            have := (hp2 0 (by omega)).1
            simp only [Nat.mul_one, Nat.add_zero] at this
            rw [this]
            simp [plsL, iv, List.getElem?_range hlt]
          have c7 : wr.cell? ⟨K.g, 7, none⟩ = some (.map (some K.mb)) := hM.blk.cell 7
          have hup := run_updateI (P := Tryd.prog) Tryd.underlying79 Tryd.underlying3 hM.mp (pl K.l k : Int) (.int .i64 (k : Int)) (at_new HOK.out.ok hlt)
          obtain ⟨q1, _, _, _, _, q6, q7⟩ := hM.put (z := (pl K.l k : Int)) (v := .int .i64 (k : Int))
          have HNX := Lib.hid fun W2 v2 => hM.next (W2 := W2) (v2 := v2) hM.old.size
          have Q6 := Lib.hid q6
          have hsz : w.heap.size ≤ (mapPut wr .i64 K.mb (atL K.l k) (pl K.l k : Int) (.int .i64 (k : Int))).heap.size := q7.size
          have c11 : (mapPut wr .i64 K.mb (atL K.l k) (pl K.l k : Int) (.int .i64 (k : Int))).cell? ⟨K.g, 11, none⟩ = some (.slice A3 k c3) := q1.cell 11
          have HAP : Hid (∀ w4 v4, OwnZ w4 w.heap.size v4 (List.replicate k (-1) ++ [-1]) → App ((mapPut wr .i64 K.mb (atL K.l k) (pl K.l k : Int) (.int .i64 (k : Int))).alloc (.cells #[.int .i64 (-1)] 3)) (.slice A3 k c3) w4 v4 → w4.cell? ⟨K.g, 11, none⟩ = some (.slice A3 k c3) ∧ w4.frozen? ⟨K.g, 11, none⟩ = false ∧ K.g < w4.heap.size) := Lib.hid fun w4 v4 _ ha => by
            have h1 := ha.blk (q1.alloc (.cells #[.int .i64 (-1)] 3)) (own_blk_ne (q6.alloc (.cells #[.int .i64 (-1)] 3)) (q1.alloc (.cells #[.int .i64 (-1)] 3)) (by decide))
            exact ⟨h1.cell 11, h1.frozen 11, h1.lt⟩
          have l1 : (0 : Int) ≤ (k : Int) := by omega
          have l2 : (k : Int) < (K.l.length : Int) := by omega
          clear hM hp1 hp2 q1 q6 q7 hzz
          go_upto_region 11 with fail
          clear p5 c7 hup hpb
          generalize mapPut wr .i64 K.mb (atL K.l k) (pl K.l k : Int) (.int .i64 (k : Int)) = w6 at *
          go_wp2_with (at_builtin; refine app_z rfl (.tmp 65) (.tmp 66) rfl w.heap.size _ (List.replicate k (-1)) rfl (Q6.out.alloc _) _ _ 1 1 [-1] rfl (Reads.builtN' _ 3 _ ([(-1 : Int)].map iv) 1 1 rfl rfl) (by simp; omega) (by simp; omega) ?_; intro v4 w4 ho4 ha4; obtain ⟨A4, c4, hv4, _, _⟩ := own_form ho4; rw [rep_len] at hv4; subst hv4; obtain ⟨d11, e11, f11⟩ := HAP.out _ _ ho4 ha4; have HM4 := Lib.hid (HNX.out _ _ ho4 ha4); clear ho4 ha4)
          go_roundw
          case rel => exact ⟨k + 1, _, by omega, by go_num, HM4.out⟩
          case measure => simp [intOf]; omega
        · obtain rfl : k = K.l.length := by omega
          have HV : Hid (VStg w.heap.size K dv w 0 wr) := Lib.hid ⟨hM.old, by rw [if_pos rfl]; exact hM.vm⟩
          clear hM HM hlt hk
          go_wp2
          go_loopw [78] (fun i wx => ∃ j : Nat, j ≤ 3 ∧ i = .int .i64 j ∧ VStg w.heap.size K dv w j wx) (fun i _ => 3 - (intOf i).toNat)
          case atStart => exact ⟨0, by omega, rfl, HV.out⟩
          case round =>
            obtain ⟨j, hj, rfl, hS⟩ := hrel
            have HS := Lib.hid hS
            clear hS HV
            have hj3 : j = 0 ∨ j = 1 ∨ j = 2 ∨ j = 3 := by omega
            clear hj
            rcases hj3 with rfl | rfl | rfl | rfl
            · have HC := Lib.hid (stg0 HS.out (Nat.le_refl _) HOK.out HSP.out)
              have i0 := fun w => (ix88 (.func (.func 29) #[.pointer (some ⟨K.g, 0, none⟩)] #[]) (.func (.func 30) #[.pointer (some ⟨K.g, 0, none⟩)] #[]) (.func (.func 31) #[.pointer (some ⟨K.g, 0, none⟩)] #[]) w).1
              simp only [show ((0 : Nat) : Int) = 0 from rfl]
              go_upto_region 17 with (go_at_call 29; refine HC.out.mono ?_; rintro e w6 ⟨a, b, rfl, hh⟩; have HH := Lib.hid hh; clear hh)
              clear i0 HC HS
              rcases HH.out with ⟨hb, hv, hw⟩ | ⟨rfl, hw⟩
              · have HW := Lib.hid hw
                have HVL := Lib.hid (HF.out.trans hv)
                have e1 : (b != 0) = true := by simpa using hb
                clear HH hb hv hw
                go_wp2
                go_ret3
                rw [HVL.out]
                exact ⟨rfl, HW.out⟩
              · have HW := Lib.hid hw
                clear HH hw
                go_wp2
                go_roundw
                case rel => exact ⟨1, by omega, rfl, HW.out⟩
                case measure => decide
            · have HC := Lib.hid (stg1 HS.out (Nat.le_refl _) HOK.out)
              have i0 := fun w => (ix88 (.func (.func 29) #[.pointer (some ⟨K.g, 0, none⟩)] #[]) (.func (.func 30) #[.pointer (some ⟨K.g, 0, none⟩)] #[]) (.func (.func 31) #[.pointer (some ⟨K.g, 0, none⟩)] #[]) w).2.1
              simp only [show ((1 : Nat) : Int) = 1 from rfl]
              go_upto_region 17 with (go_at_call 30; refine HC.out.mono ?_; rintro e w6 ⟨a, b, rfl, hh⟩; have HH := Lib.hid hh; clear hh)
              clear i0 HC HS
              rcases HH.out with ⟨hb, hv, hw⟩ | ⟨rfl, hw⟩
              · have HW := Lib.hid hw
                have HVL := Lib.hid (HF.out.trans hv)
                have e1 : (b != 0) = true := by simpa using hb
                clear HH hb hv hw
                go_wp2
                go_ret3
                rw [HVL.out]
                exact ⟨rfl, HW.out⟩
              · have HW := Lib.hid hw
                clear HH hw
                go_wp2
                go_roundw
                case rel => exact ⟨2, by omega, rfl, HW.out⟩
                case measure => decide
            · have HC := Lib.hid (stg2 HS.out (Nat.le_refl _) HOK.out)
              have i0 := fun w => (ix88 (.func (.func 29) #[.pointer (some ⟨K.g, 0, none⟩)] #[]) (.func (.func 30) #[.pointer (some ⟨K.g, 0, none⟩)] #[]) (.func (.func 31) #[.pointer (some ⟨K.g, 0, none⟩)] #[]) w).2.2
              simp only [show ((2 : Nat) : Int) = 2 from rfl]
              go_upto_region 17 with (go_at_call 31; refine HC.out.mono ?_; rintro e w6 ⟨a, b, rfl, hh⟩; have HH := Lib.hid hh; clear hh)
              clear i0 HC HS
              rcases HH.out with ⟨hb, hv, hw⟩ | ⟨rfl, hw⟩
              · have HW := Lib.hid hw
                have HVL := Lib.hid (HF.out.trans hv)
                have e1 : (b != 0) = true := by simpa using hb
                clear HH hb hv hw
                go_wp2
                go_ret3
                rw [HVL.out]
                exact ⟨rfl, HW.out⟩
              · have HW := Lib.hid hw
                clear HH hw
                go_wp2
                go_roundw
                case rel => exact ⟨3, by omega, rfl, HW.out⟩
                case measure => decide
            · simp only [show ((3 : Nat) : Int) = 3 from rfl]
              obtain ⟨ho, hv⟩ := HS.out
              rw [if_neg (by decide)] at hv
              obtain ⟨D, S, h1, h2, h3, h4, h5, h6, h7, h8⟩ := hv
              have hl0 : 0 < K.l.length := by have := (h8 (Nat.le_refl _)).1; omega
              have hsw := split_whole HOK.out.ok hl0 h6
              have HSW : Hid (SpW K S) := Lib.hid ⟨hsw.1, hsw.2, h7 (by decide), (h8 (Nat.le_refl _)).2, HOK.out⟩
              obtain ⟨rb, rc, hrv⟩ := h1.rform (by rw [h2.1]; exact hsw.1.rok.pos)
              rw [h2.1] at hrv
              obtain ⟨RR, hRR⟩ : ∃ RR, wksF K.l S.rs (List.replicate K.l.length (-1)) (-1) = RR := ⟨_, rfl⟩
              have HWS : Hid (WSt w.heap.size K S rb rc RR w 0 wr) := Lib.hid (by rw [← hRR]; exact wst_start h1 HSW.out h2 hrv h4 h5 ho)
              obtain ⟨F, hF⟩ : ∃ F, blksF K.l S.body RR.1 K.l.length 0 RR.2 = F := ⟨_, rfl⟩
              have HVL : Hid (R = if 0 ≤ F then (0, F, 53) else (RR.1.getD 0 0, 0, 0)) := Lib.hid (by
                rw [HF.out]
                unfold verL
                rw [h6]
                dsimp only
                rw [h7 (by decide)]
                dsimp only
                rw [if_neg (by omega), if_neg (h8 (Nat.le_refl _)).2, hRR, hF])
              have HFF := Lib.hid hF
              have c8 : wr.cell? ⟨K.g, 8, none⟩ = some (.slice (some ⟨rb, 0, none⟩) S.rs.length rc) := by rw [← hrv]; exact h1.blk.cell 8
              have hrl : S.rs.length ≤ 32768 := by have := hsw.1.cnt; omega
              have hrp : 0 < S.rs.length := hsw.1.rok.pos
              clear HS ho h1 h2 h3 h4 h5 h6 h7 h8 hsw hrv hRR hF HF
              go_wp2
              clear c8
              go_loopw [96] (fun i wx => ∃ q : Nat, q ≤ S.rs.length ∧ i = .int .i64 q ∧ WSt w.heap.size K S rb rc RR w q wx) (fun i _ => S.rs.length - (intOf i).toNat)
              case atStart => exact ⟨0, Nat.zero_le _, rfl, HWS.out⟩
              case round =>
                obtain ⟨q, hq, rfl, hW⟩ := hrel
                have HW := Lib.hid hW
                obtain ⟨D, ms, hv, hrv, _⟩ := hW.ex
                have c8 : wr.cell? ⟨K.g, 8, none⟩ = some (.slice (some ⟨rb, 0, none⟩) S.rs.length rc) := by rw [← hrv]; exact hv.blk.cell 8
                clear hW hv hrv HWS
                by_cases hlt : q < S.rs.length
                · have H39 := Lib.hid (wst_step HW.out HSW.out (Nat.le_refl _) hlt)
                  have l1 : (0 : Int) ≤ (q : Int) := by omega
                  have l2 : (q : Int) < (S.rs.length : Int) := by omega
                  go_wp2_with (go_at_call 32; refine H39.out.mono ?_; rintro e w6 ⟨rfl, hw6⟩; have HW6 := Lib.hid hw6; clear hw6)
                  go_roundw
                  case rel => exact ⟨q + 1, by omega, by go_num, HW6.out⟩
                  case measure => simp [intOf]; omega
                · obtain rfl : q = S.rs.length := by omega
                  have HBS := Lib.hid (bst_start HW.out)
                  rw [HFF.out] at HBS
                  have z43 := zero34
                  clear HW c8 hq hlt
                  go_wp2
                  go_loopw [110] (fun i wx => ∃ k : Nat, k ≤ K.l.length ∧ i = .int .i64 k ∧ BSt w.heap.size K S rb rc RR.1 F w k wx) (fun i _ => K.l.length - (intOf i).toNat)
                  case atStart => exact ⟨0, Nat.zero_le _, rfl, HBS.out⟩
                  case round =>
                    obtain ⟨k, hk, rfl, hb⟩ := hrel
                    have HB := Lib.hid hb
                    clear hb HBS
                    by_cases hlt : k < K.l.length
                    · obtain ⟨D, hv, _⟩ := HB.out.ex
                      obtain ⟨pb, pc, lb, lc, hp, hl⟩ := hv.forms hl0
                      obtain ⟨_, e0, e1, e2, e3, e4⟩ := hv.lcell hl hlt
                      have hlbw := (World.ownsRow.lt hv.ins lb (by rw [hl]; simp [Value.ownBlock])).2
                      rw [HLV.out] at hl
                      obtain ⟨rfl, hzz⟩ : A1 = some ⟨lb, 0, none⟩ ∧ c1 = lc := by injection hl with a b c; exact ⟨a, c⟩
                      have l1 : (0 : Int) ≤ (k : Int) := by omega
                      have l2 : (k : Int) < (K.l.length : Int) := by omega
                      have HB2 : Hid (BSt w.heap.size K S rb rc RR.1 F w k (wr.alloc (.cells #[.int .i64 (insD K.l k).op, .int .i64 (insD K.l k).a, .int .i64 (insD K.l k).b, .int .i64 (insD K.l k).c, .int .i64 (insD K.l k).z] 34))) := Lib.hid (bst_below HB.out HB.out.old.size ((Below.refl _ _).alloc (Nat.le_refl _) _))
                      have HX2 := Lib.hid (Blk.new wr 34 #[.int .i64 (insD K.l k).op, .int .i64 (insD K.l k).a, .int .i64 (insD K.l k).b, .int .i64 (insD K.l k).c, .int .i64 (insD K.l k).z])
                      clear hv hp hl hzz
                      go_upto_region 28 with fail
                      clear e0 e1 e2 e3 e4 hlbw HB
                      generalize wr.heap.size = bx at *
                      generalize wr.alloc (.cells #[.int .i64 (insD K.l k).op, .int .i64 (insD K.l k).a, .int .i64 (insD K.l k).b, .int .i64 (insD K.l k).c, .int .i64 (insD K.l k).z] 34) = w6 at *
                      have x0 : w6.cell? ⟨bx, 0, none⟩ = some (.int .i64 (insD K.l k).op) := HX2.out.cell 0
                      have x3 : w6.cell? ⟨bx, 3, none⟩ = some (.int .i64 (insD K.l k).c) := HX2.out.cell 3
                      have hbd : ∀ n, Below w6.heap.size w6 (w6.drewN n) := fun n => below_drewN (Below.refl _ _) n
                      have HBD := Lib.hid hbd
                      clear hbd
                      by_cases h24 : (insD K.l k).op = 24
                      · obtain ⟨b5, k5, q, y8, y10, y5, hq, yq, hbq⟩ := bst_cells HB2.out HSW.out hlt h24
                        have hn : (S.body.getD k 0).toNat = q := by rw [hbq]; simp
                        have HC := Lib.hid fun n (h : (insD K.l k).c < RR.1.getD q 0) => bst_blame (bst_below HB2.out HB2.out.old.size (HBD.out n)) HB2.out.old.size HOK.out hlt ⟨h24, by rw [hn]; exact h⟩
                        have HP := Lib.hid fun n (h : ¬ (insD K.l k).c < RR.1.getD q 0) => bst_pass (bst_below HB2.out HB2.out.old.size (HBD.out n)) hlt fun h' => h (by have := h'.2; rw [hn] at this; exact this)
                        have t1 : ((insD K.l k).op == 24) = true := by simp [h24]
                        have l3 : (q : Int) < (S.rs.length : Int) := by omega
                        have l4 : (0 : Int) ≤ (q : Int) := by omega
                        clear h24 hbq hn
                        generalize (insD K.l k).c = cc at *
                        generalize (insD K.l k).op = op at *
                        generalize RR.1.getD q 0 = mm at *
                        by_cases hcm : cc < mm
                        · have t2 : decide (cc < mm) = true := by simpa using hcm
                          have HC2 := Lib.hid fun n => HC.out n hcm
                          clear hcm HC HP
                          go_quiet (fail)
                          go_wp2_with (go_at_call 33; refine (HC2.out _).mono ?_; rintro e w7 ⟨rfl, h7⟩; have H7 := Lib.hid h7; clear h7)
                          go_roundw
                          case rel => exact ⟨k + 1, by omega, by go_num, H7.out⟩
                          case measure => simp [intOf]; omega
                        · have t2 : decide (cc < mm) = false := by simpa using hcm
                          have HP2 := Lib.hid fun n => HP.out n hcm
                          clear hcm HC HP
                          go_quiet (fail)
                          go_wp2
                          go_roundw
                          case rel => exact ⟨k + 1, by omega, by go_num, HP2.out _⟩
                          case measure => simp [intOf]; omega
                      · have t1 : ((insD K.l k).op == 24) = false := by simp [h24]
                        have HP := Lib.hid fun n => bst_pass (bst_below HB2.out HB2.out.old.size (HBD.out n)) hlt fun h => h24 h.1
                        clear h24
                        generalize (insD K.l k).op = op at *
                        go_quiet (fail)
                        go_wp2
                        go_roundw
                        case rel => exact ⟨k + 1, by omega, by go_num, HP.out _⟩
                        case measure => simp [intOf]; omega
                    · obtain rfl : k = K.l.length := by omega
                      have c12 := bst_fault HB.out
                      obtain ⟨c8, c5⟩ := bst_first HB.out hrp
                      have HO := Lib.hid HB.out.old
                      have l3 : (0 : Int) < (S.rs.length : Int) := by omega
                      clear HB
                      by_cases hf0 : 0 ≤ F
                      · have HV2 : Hid (R = (0, F, 53)) := Lib.hid (by rw [HVL.out, if_pos hf0])
                        go_wp2
                        go_quiet (fail)
                        go_wp2
                        go_ret3
                        rw [HV2.out]
                        exact ⟨rfl, below_drewN HO.out _⟩
                      · have HV2 : Hid (R = (RR.1.getD 0 0, 0, 0)) := Lib.hid (by rw [HVL.out, if_neg hf0])
                        go_wp2
                        go_ret3
                        rw [HV2.out]
                        exact ⟨rfl, HO.out⟩
end Go.Proofs.YtaeegkljldngmaaDoor
