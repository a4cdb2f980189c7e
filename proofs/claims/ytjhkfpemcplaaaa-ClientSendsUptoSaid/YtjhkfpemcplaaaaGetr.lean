/-
  Contract of the program's GetReply.
-/
import Derived.Test.YtjhkfpemcplaaaaGs
import Derived.Test.YtjhkfpemcplaaaaPutr
namespace Go.Proofs.Ytjhkfpemcplaaaa
open Go.RowKit

def repV (bs : List UInt8) : List (Nat × Int) × List UInt8 × Bool := valsD (byteV (cnt bs false).2.1) (cnt bs false).2.1.tail ((cnt bs false).2.2 || (cnt bs false).2.1.isEmpty)
def repT (bs : List UInt8) : List UInt8 × List UInt8 × Bool := txtP (repV bs).2.1 (repV bs).2.2
def repTD (bs : List UInt8) : List UInt8 × List UInt8 × Bool := txtD (repV bs).2.1 (repV bs).2.2
/-- what a Get of a reply ends with -/
def GetRPost (w : World) (good : Prop) (err : Int) (vs : List (Nat × Int)) (text : List UInt8) (yes no : Value) (e : Ending) (w' : World) : Prop :=
  Below w.heap.size w w' ∧ ((good ∧ ∃ A n c, e = .returned (.tuple #[.agg #[.int .i64 err, .slice A n c, .string ⟨text.toArray⟩], yes]) ∧ w'.ownsRow w.heap.size 68 2 (.slice A n c) n (vcells vs)) ∨
    (¬ good ∧ e = .returned (.tuple #[.agg #[.int .i64 0, .slice none 0 0, .string ByteArray.empty], no])))
theorem unzig_I64 {n : Nat} (h : n < 18446744073709551616) : I64 (unzig n) := by unfold unzig I64; split <;> omega
theorem cells_len {w : World} {base E n : Nat} {V : Value} {vs : List (Nat × Int)} (h : w.ownsRow base E 2 V n (vcells vs)) : vs.length = n := by
  have := h.1
  rw [vcells_len] at this
  omega

theorem Reads.ofBlk {w : World} {g size n : Nat} {t : TypeId} {cs : List Value} (h : Blk w g t cs.toArray) (hn : cs.length = n * size) : Reads w (g + 1) size (some ⟨g, 0, none⟩) n cs := by
  refine ⟨hn, fun _ => ⟨_, rfl, by simp, fun j u hu => ?_⟩⟩
  have e : (⟨g, 0, none⟩ : Addr).add j = ⟨g, j, none⟩ := by unfold Addr.add; split <;> simp_all
  rw [e, h.cell j]
  simpa using hu
theorem wpList_appE {P : Program} {w : World} {ops : Array Oper} {rest : List Oper} {o : Oper} {a : Act} {Q : Exit → Act → World → Prop} (hgd : o.guard = none) (s x : Operand) (t : TypeId)
    (ho : o.op = .call { callee := .builtin .append, args := #[s, x], argTypes := #[t, t] })
    (base : Nat) (e : TypeId) (z : Value) (size bytes : Nat) (hinfo : (P.info? e).map (fun i => (i.zero, i.size, i.bytes)) = some (some z, size, bytes)) (ht : P.underlying t = some (.slice e)) (hzs : z.cells.size = size) (hsz : 0 < size)
    (v : Value) (n : Nat) (xs : List Value) (hs : a.eval s = v) (hown : w.ownsRow base e size v n xs)
    (B : Nat) (A : Option Addr) (m c : Nat) (news : List Value) (hx : a.eval x = .slice A m c) (hr : Reads w B size A m news) (h1 : ∀ u ∈ news, u.oneCell' = true)
    (h63 : n + m ≤ maxLen) (hbytes : (n + m) * bytes ≤ 140737488355328) (hbase : base ≤ w.heap.size)
    (h : ∀ v' w', w'.ownsRow base e size v' (n + m) (xs ++ news) → w.grownBy w' v.ownBlock → wpList P ops Q rest (a.put o.dst v') w') : wpList P ops Q (o :: rest) a w := by
  obtain ⟨i, hi, hz, hs1, hby⟩ := info_parts hinfo
  exact wpList_append_any w hgd s x t ho base e i z size bytes ht hi hz hs1 hby hzs hsz v n xs hs hown B A m c news hx hr h1 h63 hbytes hbase fun v' w' h2 h3 _ => h v' w' h2 h3
theorem own_form {w : World} {base e size n : Nat} {V : Value} {xs : List Value} (h : w.ownsRow base e size V n xs) : ∃ A c, V = .slice A n c := by
  rcases h.2 with ⟨rfl, rfl⟩ | ⟨g, cap, cur, rfl, _⟩
  · exact ⟨_, _, rfl⟩
  · exact ⟨_, _, rfl⟩
theorem GS.setRes {w wr : World} {T U E S R G G0 n : Nat} {l : List UInt8} {b : Bool} {cs zs : Array Value} {V : Value} {xs : List Value} (h : GS w T U E S R G G0 l b cs zs V n xs wr) (hTU : T ≠ U) (hUE : U ≠ E) (i : Nat) (u : Value) :
    GS w T U E S R G G0 l b cs (zs.setIfInBounds i u) V n xs (wr.setCell ⟨G0, i, none⟩ u) := by
  obtain ⟨c0, hc0⟩ := h.part.blk
  have hg : wr.grownBy (wr.setCell ⟨G0, i, none⟩ u) (some G0) := only_setCell (p := ⟨G0, i, none⟩) (World.grownBy.refl wr _) (.inl rfl) u
  exact ⟨h.part.grown hg (fun k hk => by injection hk with hk; have := h.hG0; omega) (fun e => by injection e with e; exact Blk.ne_ h.res hc0 hTU.symm e), h.main.grown hg (fun e => by injection e with e; exact h.ne e.symm), h.res.set_ i u,
    h.own.kept hg (.inr (own_blk_ne h.own h.res hUE.symm)), h.below.grown hg h.below.size (fun k hk => by injection hk with hk; have := h.hG0; omega), h.hG, h.hG0, h.ne⟩
theorem valD_range (l : List UInt8) (b : Bool) : (valD l b).1.1 < 18446744073709551616 ∧ I64 (valD l b).1.2 := by
  unfold valD
  split
  · exact ⟨by simp, unzig_I64 (cnt_lt _ _)⟩
  · exact ⟨cnt_lt _ _, by simp [I64]⟩
theorem valsD_range (k : Nat) : ∀ (l : List UInt8) (b : Bool), ∀ v ∈ (valsD k l b).1, v.1 < 18446744073709551616 ∧ I64 v.2 := by
  induction k with
  | zero => intro l b v hv; simp [valsD] at hv
  | succ k ih =>
    intro l b v hv
    rw [valsD] at hv
    split at hv
    · simp at hv
    · rcases List.mem_cons.1 hv with rfl | hv
      · exact valD_range l b
      · exact ih _ _ v hv
def GLoop (w : World) (T : Nat) (err : Int) (N : Nat) (l0 : List UInt8) (b0 : Bool) (R G G0 j : Nat) (wr : World) : Prop :=
  ∃ (us : List (Nat × Int)) (l : List UInt8) (b : Bool) (V : Value), us.length = j ∧
    GS w T 53 68 2 R G G0 l b #[.int .i64 err, V, .string ⟨#[]⟩] #[.int .i64 0, .slice none 0 0, .string ⟨#[]⟩] V j (vcells us) wr ∧
    valsD N l0 b0 = (us ++ (valsD (N - j) l b).1, (valsD (N - j) l b).2)
theorem info68 : (Try.prog.info? 68).map (fun i => (i.zero, i.size, i.bytes)) = some (some (.agg #[.int .u64 0, .int .i64 0]), 2, 16) := by kernel_rfl
theorem vcells_one (us : List (Nat × Int)) (v : Nat × Int) : vcells us ++ [.int .u64 (v.1 : Int), .int .i64 v.2] = vcells (us ++ [v]) := by simp [vcells]
theorem GS.start {w : World} {T : Nat} {U : Nat} {n c : Nat} {A : Option Addr} {bs : List UInt8} (z : Array Value) (hr : RdB w w.heap.size A n bs) (hc : n ≤ c) (hm : n ≤ 9223372036854775807) :
    PartIs ((w.alloc (.cells z U)).alloc (.cells #[.slice A n c, .bool false] T)) T w.heap.size (w.heap.size + 1) bs false := by
  have hl := hr.len1
  subst hl
  exact ⟨by omega, hm, A, c, Blk.new' (w.alloc (.cells z U)) T _ _ (by simp), (hr.alloc (Nat.le_refl _) _).alloc (by simp) _, hc⟩

set_option maxRecDepth 20000 in
set_option maxHeartbeats 4000000 in
theorem getr_any (A : Option Addr) (n c : Nat) (bs : List UInt8) (w : World) (hr : RdB w w.heap.size A n bs) (hc : n ≤ c) (hm : n ≤ 9223372036854775807) :
    Calls Try.prog 92 #[.slice A n c] w (GetRPost w ((repT bs).2.2 = false ∧ (repT bs).2.1 = [] ∧ goodR (unzig (cnt bs false).1) (repV bs).1 (repT bs).1) (unzig (cnt bs false).1) (repV bs).1 (repT bs).1 (.int .i64 0) (.int .i64 173)) := by
  obtain ⟨good, HGOOD⟩ : ∃ good, Hid (((repT bs).2.2 = false ∧ (repT bs).2.1 = [] ∧ goodR (unzig (cnt bs false).1) (repV bs).1 (repT bs).1) = good) := ⟨_, rfl⟩
  rw [HGOOD.out]
  have HE : Hid (I64 (unzig (cnt bs false).1)) := Lib.hid (unzig_I64 (cnt_lt bs false))
  obtain ⟨err, HERR⟩ : ∃ e0, Hid (unzig (cnt bs false).1 = e0) := ⟨_, rfl⟩
  rw [HERR.out] at HE ⊢
  obtain ⟨vs, HVS⟩ : ∃ e0, Hid ((repV bs).1 = e0) := ⟨_, rfl⟩
  rw [HVS.out]
  obtain ⟨text, HTX⟩ : ∃ e0, Hid ((repT bs).1 = e0) := ⟨_, rfl⟩
  rw [HTX.out]
  have HP := Lib.hid (GS.start (T := 151) (U := 53) #[.int .i64 0, .slice none 0 0, .string ⟨#[]⟩] hr hc hm)
  clear hr hc hm
  go_enter Try.func92, Try.ntmps92
  go_wp2_with fail
  have HS1 := Lib.hid (sgn_any _ _ _ _ _ HP.out)
  refine HS1.out.mono ?_
  rintro e w1 ⟨he, hp1, hg1⟩
  rw [HERR.out] at he
  subst he
  have h0 : GS w 151 53 68 2 (w.heap.size + 1) w1.heap.size w.heap.size (cnt bs false).2.1 (cnt bs false).2.2 #[.int .i64 err, .slice none 0 0, .string ⟨#[]⟩] #[.int .i64 0, .slice none 0 0, .string ⟨#[]⟩] (.slice none 0 0) 0 (vcells []) (w1.alloc (.cells #[.int .i64 err, .slice none 0 0, .string ⟨#[]⟩] 53)) := by
    have hsz := hg1.size
    simp at hsz
    have hb1 : Below w.heap.size w w1 := (((Below.refl _ _).alloc (Nat.le_refl _) _).alloc (by simp) _).grown hg1 (by simp; omega) (fun k hk => by injection hk with hk; omega)
    refine ⟨hp1.grown (World.grownBy_alloc _ _ none) (fun k hk => by cases hk) (by simp), Blk.new _ _ _, ((Blk.new' w 53 w.heap.size _ rfl).alloc _).grown hg1 (by simp) |>.alloc _, World.ownsRow_nil _ _ _ _, hb1.alloc hb1.size _, hb1.size, Nat.le_refl _, by omega⟩
  clear hp1 hg1 HS1 HP
  go_upto_region 3 with fail
  generalize hW3 : (w1.alloc (.cells #[.int .i64 err, .slice none 0 0, .string ⟨#[]⟩] 53)) = W3 at h0 ⊢
  generalize w1.heap.size = G at h0 ⊢
  clear hW3 w1
  have HB := Lib.hid (byte_any _ _ _ _ _ h0.part)
  go_wp2_with fail
  refine HB.out.mono ?_
  rintro e w4 ⟨rfl, hp4, hg4⟩
  have h4 := h0.call (by decide) (by decide) hp4 hg4
  clear h0 hp4 hg4 HB
  have hx := byteV_lt (cnt bs false).2.1
  obtain ⟨nv, HNV⟩ : ∃ e0, Hid (byteV (cnt bs false).2.1 = e0) := ⟨_, rfl⟩
  rw [HNV.out] at hx ⊢
  obtain ⟨l0, HL0⟩ : ∃ e0, Hid ((cnt bs false).2.1.tail = e0) := ⟨_, rfl⟩
  obtain ⟨b0, HB0⟩ : ∃ e0, Hid (((cnt bs false).2.2 || (cnt bs false).2.1.isEmpty) = e0) := ⟨_, rfl⟩
  rw [HL0.out, HB0.out] at h4
  have HREP : Hid (repV bs = valsD nv l0 b0) := Lib.hid (by unfold repV; rw [HNV.out, HL0.out, HB0.out])
  clear HNV HL0 HB0
  generalize w.heap.size + 1 = R at h4 ⊢
  generalize w.heap.size = G0 at h4 ⊢
  go_wp2
  go_loopw [7, 8] (fun i _ wr => ∃ j : Nat, j ≤ nv ∧ i = .int .i64 j ∧ GLoop w 151 err nv l0 b0 R G G0 j wr) (fun i _ _ => nv - (intOf i).toNat)
  case atStart => exact ⟨0, Nat.zero_le _, rfl, [], l0, b0, _, rfl, h4, by simp⟩
  case round =>
    obtain ⟨j, hj, rfl, us, l, b, V, hus, h5, hrel⟩ := hrel
    clear h4
    have HREL := Lib.hid hrel
    have HUS := Lib.hid hus
    clear hrel hus
    have cb := h5.bad
    by_cases hlt : j < nv
    · have d : decide ((j : Int) < (nv : Int)) = true := by simp; omega
      cases b
      · have HB := Lib.hid (cnt_any _ _ _ _ _ h5.part)
        go_wp2_with fail
        refine HB.out.mono ?_
        rintro e w6 ⟨rfl, hp6, hg6⟩
        have h6 := h5.call (by decide) (by decide) hp6 hg6
        clear h5 hp6 hg6 HB cb
        have hbk := Blk.new w6 68 #[.int .u64 ((cnt l false).1 : Int), .int .i64 0]
        have h7 := h6.alloc (.cells #[.int .u64 ((cnt l false).1 : Int), .int .i64 0] 68)
        have k1 := h6.partLt
        have k2 := h6.main.lt
        have k3 := h6.res.lt
        have k4 := h6.ownLt
        have k5 := h6.below.size
        clear h6
        go_upto_region 8 with fail
        generalize w6.alloc (.cells #[.int .u64 ((cnt l false).1 : Int), .int .i64 0] 68) = W7 at hbk h7 ⊢
        generalize w6.heap.size = k at hbk k1 k2 k3 k4 k5 ⊢
        clear w6
        obtain ⟨⟨hv, l2, b2⟩, HCN⟩ : ∃ r, Hid (cnt l false = r) := ⟨_, rfl⟩
        rw [HCN.out] at hbk h7 ⊢
        dsimp only at hbk h7 ⊢
        have e0 := hbk.cell 0
        simp at e0
        have k6 : R ≠ k := by omega
        by_cases hv0 : hv = 0
        · have t0 : ((hv : Int) == 0) = true := by rw [beq_iff_eq]; omega
          have HS2 := Lib.hid (sgn_any _ _ _ _ _ h7.part)
          go_wp2_with fail
          refine HS2.out.mono ?_
          rintro e w8 ⟨rfl, hp8, hg8⟩
          have h8 := h7.call (by decide) (by decide) hp8 hg8
          have hbk8 := hbk.grown hg8 (by simpa using k6.symm)
          clear h7 hbk hp8 hg8 HS2 e0
          obtain ⟨⟨m2, l3, b3⟩, HCN2⟩ : ∃ r, Hid (cnt l2 b2 = r) := ⟨_, rfl⟩
          rw [HCN2.out] at h8 ⊢
          dsimp only at h8 ⊢
          have HVD : Hid (valD l false = ((hv, unzig m2), l3, b3)) := Lib.hid (by unfold valD; rw [HCN.out]; dsimp only; rw [if_pos hv0, HCN2.out, hv0])
          have kf := hbk8.frozen 1
          have kc := hbk8.cell 1
          simp at kc
          go_upto_region 10 with fail
          have h9 := h8.setFar k5 k6 (Nat.ne_of_lt k2) (Nat.ne_of_lt k3) k4 1 (.int .i64 (unzig m2))
          have hbk9 := hbk8.set_ 1 (.int .i64 (unzig m2))
          simp at hbk9
          generalize w8.setCell ⟨k, 1, none⟩ (.int .i64 (unzig m2)) = W9 at h9 hbk9 ⊢
          clear h8 hbk8 kf kc t0 hv0
          generalize unzig m2 = z at hbk9 HVD ⊢
          have e0 := hbk9.cell 0
          have e1 := hbk9.cell 1
          have g1 := h9.cell 1
          have gf := h9.main.frozen 1
          simp at e0 e1 g1
          have h10 := h9.alloc (.cells #[.int .u64 (hv : Int), .int .i64 z] 68)
          have hrd := Reads.ofBlk (size := 2) (n := 1) (cs := [.int .u64 (hv : Int), .int .i64 z]) (Blk.new W9 68 #[.int .u64 (hv : Int), .int .i64 z]) rfl
          have gf2 := h10.main.frozen 1
          go_wp2_with (at_builtin; refine wpList_appE rfl _ _ _ rfl w.heap.size 68 _ 2 16 info68 Try.underlying51 rfl (by decide) _ _ _ rfl h10.own _ _ _ _ _ rfl hrd (by simp [Value.oneCell']) (by simp only [maxLen]; omega) (by omega) h10.below.size ?_; intro V2 w11 hown11 happ11; obtain ⟨A2, c2, rfl⟩ := own_form hown11; have h11 := h10.app (by decide) (by decide) happ11 hown11; have gf3 := h11.main.frozen 1; have g3 := h11.cell 1; simp at g3)
          go_roundw
          case rel =>
            refine ⟨j + 1, by omega, by go_num, us ++ [(hv, z)], l3, b3, .slice A2 (j + 1) c2, by simp [HUS.out], ?_, ?_⟩
            · have h12 := h11.setMain (by decide) (by decide) 1 (.slice A2 (j + 1) c2)
              rw [vcells_one us (hv, z)] at h12
              simpa using h12
            · obtain ⟨f, hf⟩ : ∃ f, nv - j = f + 1 := ⟨nv - j - 1, by omega⟩
              rw [HREL.out, hf, show nv - (j + 1) = f from by omega, valsD, if_neg (by decide), HVD.out]
              simp
          case measure => simp [intOf]; omega

        · have t0 : ((hv : Int) == 0) = false := by rw [beq_eq_false_iff_ne]; omega
          have HVD : Hid (valD l false = ((hv, 0), l2, b2)) := Lib.hid (by unfold valD; rw [HCN.out]; dsimp only; rw [if_neg hv0])
          have h9 := h7
          have hbk9 := hbk
          clear h7 hbk hv0
          go_upto_region 10 with fail
          obtain ⟨l3, HL3⟩ : ∃ r, Hid (l2 = r) := ⟨_, rfl⟩
          obtain ⟨b3, HB3⟩ : ∃ r, Hid (b2 = r) := ⟨_, rfl⟩
          rw [HL3.out, HB3.out] at h9 HVD
          clear e0
          generalize W7 = W9 at h9 hbk9 ⊢
          have e0 := hbk9.cell 0
          have e1 := hbk9.cell 1
          have g1 := h9.cell 1
          have gf := h9.main.frozen 1
          simp at e0 e1 g1
          have h10 := h9.alloc (.cells #[.int .u64 (hv : Int), .int .i64 0] 68)
          have hrd := Reads.ofBlk (size := 2) (n := 1) (cs := [.int .u64 (hv : Int), .int .i64 0]) (Blk.new W9 68 #[.int .u64 (hv : Int), .int .i64 0]) rfl
          have gf2 := h10.main.frozen 1
          go_wp2_with (at_builtin; refine wpList_appE rfl _ _ _ rfl w.heap.size 68 _ 2 16 info68 Try.underlying51 rfl (by decide) _ _ _ rfl h10.own _ _ _ _ _ rfl hrd (by simp [Value.oneCell']) (by simp only [maxLen]; omega) (by omega) h10.below.size ?_; intro V2 w11 hown11 happ11; obtain ⟨A2, c2, rfl⟩ := own_form hown11; have h11 := h10.app (by decide) (by decide) happ11 hown11; have gf3 := h11.main.frozen 1; have g3 := h11.cell 1; simp at g3)
          go_roundw
          case rel =>
            refine ⟨j + 1, by omega, by go_num, us ++ [(hv, 0)], l3, b3, .slice A2 (j + 1) c2, by simp [HUS.out], ?_, ?_⟩
            · have h12 := h11.setMain (by decide) (by decide) 1 (.slice A2 (j + 1) c2)
              rw [vcells_one us (hv, 0)] at h12
              simpa using h12
            · obtain ⟨f, hf⟩ : ∃ f, nv - j = f + 1 := ⟨nv - j - 1, by omega⟩
              rw [HREL.out, hf, show nv - (j + 1) = f from by omega, valsD, if_neg (by decide), HVD.out]
              simp
          case measure => simp [intOf]; omega
      · have HV : Hid (valsD nv l0 b0 = (us, l, true)) := Lib.hid (by rw [HREL.out, valsD_bad]; simp)
        have hrange : ∀ v ∈ us, v.1 < 18446744073709551616 ∧ I64 v.2 := fun v hv => valsD_range nv l0 b0 v (by rw [HV.out]; exact hv)
        have HRG := Lib.hid hrange
        clear hrange
        go_wp2_with fail
        have HT := Lib.hid (txt_any _ _ _ _ _ h5.part)
        refine HT.out.mono ?_
        rintro e w6 ⟨rfl, hp6, hg6⟩
        have h6 := h5.call (by decide) (by decide) hp6 hg6
        obtain ⟨⟨tx, l6, b6⟩, HTT⟩ : ∃ r, Hid (txtP l true = r) := ⟨_, rfl⟩
        rw [HTT.out] at h6 ⊢
        try dsimp only at h6 ⊢
        have m2 := h6.cell 2
        have mf := h6.main.frozen 2
        simp at m2
        clear h5 hp6 hg6 HT cb
        have HF : Hid (vs = us ∧ text = tx ∧ (good = (b6 = false ∧ l6 = [] ∧ goodR err us tx))) := Lib.hid (by
          have e1 : repV bs = (us, l, true) := by rw [HREP.out, HV.out]
          have e2 : repT bs = (tx, l6, b6) := by unfold repT; rw [e1]; exact HTT.out
          refine ⟨by rw [← HVS.out, e1], by rw [← HTX.out, e2], by rw [← HGOOD.out, e1, e2, HERR.out]⟩)
        go_upto_region 12 with fail
        have h7 := h6.setMain (by decide) (by decide) 2 (.string ⟨tx.toArray⟩)
        simp at h7
        generalize w6.setCell ⟨G, 2, none⟩ (.string ⟨tx.toArray⟩) = w7 at h7 ⊢
        clear h6 m2 mf
        obtain ⟨A5, c5, rfl⟩ := own_form h7.own
        have q0 := h7.cell 0
        have q1 := h7.cell 1
        have q2 := h7.cell 2
        simp at q0 q1 q2
        have HPR := Lib.hid (putr_any err A5 j c5 us ⟨tx.toArray⟩ w7 HE.out (Reads.of_own h7.own) HRG.out)
        go_wp2_with fail
        refine HPR.out.mono ?_
        rintro e w8 ⟨hb8, hpost⟩
        have h8 := h7.later hb8
        clear h7 hb8 q0 q1 q2 HPR
        try dsimp only at hpost
        rcases hpost with ⟨hgood, v8, rfl, hown8⟩ | ⟨hbad, rfl⟩
        · have HGD := Lib.hid hgood
          obtain ⟨A8, c8, rfl, -⟩ := hown8.form
          clear hgood hown8
          have HD := Lib.hid (done_any _ _ _ _ _ h8.part)
          go_wp2_with fail
          refine HD.out.mono ?_
          rintro e w9 ⟨rfl, kk, rfl⟩
          have h9 := h8.drewN kk
          generalize w8.drewN kk = w9 at h9 ⊢
          clear HD h8
          have r0 := h9.res.cell 0
          have r1 := h9.res.cell 1
          have r2 := h9.res.cell 2
          have s0 := h9.res.frozen 0
          have s1 := h9.res.frozen 1
          have s2 := h9.res.frozen 2
          have q0 := h9.cell 0
          have q1 := h9.cell 1
          have q2 := h9.cell 2
          simp at q0 q1 q2 r0 r1 r2
          cases hz : (!b6 && l6.isEmpty)
          · have HZ : Hid (¬ good) := Lib.hid (by rw [HF.out.2.2]; rintro ⟨rfl, rfl, -⟩; simp at hz)
            clear hz
            have hF := ((h9.setRes (by decide) (by decide) 0 (.int .i64 0)).setRes (by decide) (by decide) 1 (.slice none 0 0)).setRes (by decide) (by decide) 2 (.string ⟨#[]⟩)
            have HFF := Lib.hid hF
            clear hF
            go_wp2
            have hF := HFF.out
            have t0 := hF.res.cell 0
            have t1 := hF.res.cell 1
            have t2 := hF.res.cell 2
            simp at t0 t1 t2
            refine bodyPost_ret (v := .tuple #[.agg #[.int .i64 0, .slice none 0 0, .string ByteArray.empty], .int .i64 173]) (by simp [results, Try.results92, go_sem, t0, t1, t2]; rfl) rfl ⟨hF.below, .inr ⟨HZ.out, rfl⟩⟩
          · have HZ : Hid good := Lib.hid (by rw [HF.out.2.2]; refine ⟨?_, ?_, by simpa using HGD.out⟩ <;> cases b6 <;> cases l6 <;> simp_all)
            clear hz
            have hF := ((h9.setRes (by decide) (by decide) 0 (.int .i64 err)).setRes (by decide) (by decide) 1 (.slice A5 j c5)).setRes (by decide) (by decide) 2 (.string ⟨tx.toArray⟩)
            have HFF := Lib.hid hF
            clear hF
            go_wp2
            have hF := HFF.out
            have t0 := hF.res.cell 0
            have t1 := hF.res.cell 1
            have t2 := hF.res.cell 2
            simp at t0 t1 t2
            refine bodyPost_ret (v := .tuple #[.agg #[.int .i64 err, .slice A5 j c5, .string ⟨tx.toArray⟩], .int .i64 0]) (by simp [results, Try.results92, go_sem, t0, t1, t2]) rfl ⟨hF.below, .inl ⟨HZ.out, A5, j, c5, by rw [HF.out.2.1], by rw [HF.out.1]; exact hF.own⟩⟩
        · have HZ : Hid (¬ good) := Lib.hid (by rw [HF.out.2.2]; rintro ⟨-, -, hg⟩; exact hbad (by simpa using hg))
          clear hbad
          have r0 := h8.res.cell 0
          have r1 := h8.res.cell 1
          have r2 := h8.res.cell 2
          have s0 := h8.res.frozen 0
          have s1 := h8.res.frozen 1
          have s2 := h8.res.frozen 2
          simp at r0 r1 r2
          have hF := ((h8.setRes (by decide) (by decide) 0 (.int .i64 0)).setRes (by decide) (by decide) 1 (.slice none 0 0)).setRes (by decide) (by decide) 2 (.string ⟨#[]⟩)
          have HFF := Lib.hid hF
          clear hF
          go_wp2
          have hF := HFF.out
          have t0 := hF.res.cell 0
          have t1 := hF.res.cell 1
          have t2 := hF.res.cell 2
          simp at t0 t1 t2
          refine bodyPost_ret (v := .tuple #[.agg #[.int .i64 0, .slice none 0 0, .string ByteArray.empty], .int .i64 173]) (by simp [results, Try.results92, go_sem, t0, t1, t2]; rfl) rfl ⟨hF.below, .inr ⟨HZ.out, rfl⟩⟩
    · have d : decide ((j : Int) < (nv : Int)) = false := by simp; omega
      have HV : Hid (valsD nv l0 b0 = (us, l, b)) := Lib.hid (by rw [HREL.out, show nv - j = 0 from by omega, valsD]; simp)
      have hrange : ∀ v ∈ us, v.1 < 18446744073709551616 ∧ I64 v.2 := fun v hv => valsD_range nv l0 b0 v (by rw [HV.out]; exact hv)
      have HRG := Lib.hid hrange
      clear hrange
      go_wp2_with fail
      have HT := Lib.hid (txt_any _ _ _ _ _ h5.part)
      refine HT.out.mono ?_
      rintro e w6 ⟨rfl, hp6, hg6⟩
      have h6 := h5.call (by decide) (by decide) hp6 hg6
      obtain ⟨⟨tx, l6, b6⟩, HTT⟩ : ∃ r, Hid (txtP l b = r) := ⟨_, rfl⟩
      rw [HTT.out] at h6 ⊢
      try dsimp only at h6 ⊢
      have m2 := h6.cell 2
      have mf := h6.main.frozen 2
      simp at m2
      clear h5 hp6 hg6 HT cb
      have HF : Hid (vs = us ∧ text = tx ∧ (good = (b6 = false ∧ l6 = [] ∧ goodR err us tx))) := Lib.hid (by
        have e1 : repV bs = (us, l, b) := by rw [HREP.out, HV.out]
        have e2 : repT bs = (tx, l6, b6) := by unfold repT; rw [e1]; exact HTT.out
        refine ⟨by rw [← HVS.out, e1], by rw [← HTX.out, e2], by rw [← HGOOD.out, e1, e2, HERR.out]⟩)
      go_upto_region 12 with fail
      have h7 := h6.setMain (by decide) (by decide) 2 (.string ⟨tx.toArray⟩)
      simp at h7
      generalize w6.setCell ⟨G, 2, none⟩ (.string ⟨tx.toArray⟩) = w7 at h7 ⊢
      clear h6 m2 mf
      obtain ⟨A5, c5, rfl⟩ := own_form h7.own
      have q0 := h7.cell 0
      have q1 := h7.cell 1
      have q2 := h7.cell 2
      simp at q0 q1 q2
      have HPR := Lib.hid (putr_any err A5 j c5 us ⟨tx.toArray⟩ w7 HE.out (Reads.of_own h7.own) HRG.out)
      go_wp2_with fail
      refine HPR.out.mono ?_
      rintro e w8 ⟨hb8, hpost⟩
      have h8 := h7.later hb8
      clear h7 hb8 q0 q1 q2 HPR
      try dsimp only at hpost
      rcases hpost with ⟨hgood, v8, rfl, hown8⟩ | ⟨hbad, rfl⟩
      · have HGD := Lib.hid hgood
        obtain ⟨A8, c8, rfl, -⟩ := hown8.form
        clear hgood hown8
        have HD := Lib.hid (done_any _ _ _ _ _ h8.part)
        go_wp2_with fail
        refine HD.out.mono ?_
        rintro e w9 ⟨rfl, kk, rfl⟩
        have h9 := h8.drewN kk
        generalize w8.drewN kk = w9 at h9 ⊢
        clear HD h8
        have r0 := h9.res.cell 0
        have r1 := h9.res.cell 1
        have r2 := h9.res.cell 2
        have s0 := h9.res.frozen 0
        have s1 := h9.res.frozen 1
        have s2 := h9.res.frozen 2
        have q0 := h9.cell 0
        have q1 := h9.cell 1
        have q2 := h9.cell 2
        simp at q0 q1 q2 r0 r1 r2
        cases hz : (!b6 && l6.isEmpty)
        · have HZ : Hid (¬ good) := Lib.hid (by rw [HF.out.2.2]; rintro ⟨rfl, rfl, -⟩; simp at hz)
          clear hz
          have hF := ((h9.setRes (by decide) (by decide) 0 (.int .i64 0)).setRes (by decide) (by decide) 1 (.slice none 0 0)).setRes (by decide) (by decide) 2 (.string ⟨#[]⟩)
          have HFF := Lib.hid hF
          clear hF
          go_wp2
          have hF := HFF.out
          have t0 := hF.res.cell 0
          have t1 := hF.res.cell 1
          have t2 := hF.res.cell 2
          simp at t0 t1 t2
          refine bodyPost_ret (v := .tuple #[.agg #[.int .i64 0, .slice none 0 0, .string ByteArray.empty], .int .i64 173]) (by simp [results, Try.results92, go_sem, t0, t1, t2]; rfl) rfl ⟨hF.below, .inr ⟨HZ.out, rfl⟩⟩
        · have HZ : Hid good := Lib.hid (by rw [HF.out.2.2]; refine ⟨?_, ?_, by simpa using HGD.out⟩ <;> cases b6 <;> cases l6 <;> simp_all)
          clear hz
          have hF := ((h9.setRes (by decide) (by decide) 0 (.int .i64 err)).setRes (by decide) (by decide) 1 (.slice A5 j c5)).setRes (by decide) (by decide) 2 (.string ⟨tx.toArray⟩)
          have HFF := Lib.hid hF
          clear hF
          go_wp2
          have hF := HFF.out
          have t0 := hF.res.cell 0
          have t1 := hF.res.cell 1
          have t2 := hF.res.cell 2
          simp at t0 t1 t2
          refine bodyPost_ret (v := .tuple #[.agg #[.int .i64 err, .slice A5 j c5, .string ⟨tx.toArray⟩], .int .i64 0]) (by simp [results, Try.results92, go_sem, t0, t1, t2]) rfl ⟨hF.below, .inl ⟨HZ.out, A5, j, c5, by rw [HF.out.2.1], by rw [HF.out.1]; exact hF.own⟩⟩
      · have HZ : Hid (¬ good) := Lib.hid (by rw [HF.out.2.2]; rintro ⟨-, -, hg⟩; exact hbad (by simpa using hg))
        clear hbad
        have r0 := h8.res.cell 0
        have r1 := h8.res.cell 1
        have r2 := h8.res.cell 2
        have s0 := h8.res.frozen 0
        have s1 := h8.res.frozen 1
        have s2 := h8.res.frozen 2
        simp at r0 r1 r2
        have hF := ((h8.setRes (by decide) (by decide) 0 (.int .i64 0)).setRes (by decide) (by decide) 1 (.slice none 0 0)).setRes (by decide) (by decide) 2 (.string ⟨#[]⟩)
        have HFF := Lib.hid hF
        clear hF
        go_wp2
        have hF := HFF.out
        have t0 := hF.res.cell 0
        have t1 := hF.res.cell 1
        have t2 := hF.res.cell 2
        simp at t0 t1 t2
        refine bodyPost_ret (v := .tuple #[.agg #[.int .i64 0, .slice none 0 0, .string ByteArray.empty], .int .i64 173]) (by simp [results, Try.results92, go_sem, t0, t1, t2]; rfl) rfl ⟨hF.below, .inr ⟨HZ.out, rfl⟩⟩
end Go.Proofs.Ytjhkfpemcplaaaa
