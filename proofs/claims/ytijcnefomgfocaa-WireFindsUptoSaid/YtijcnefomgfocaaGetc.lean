/-
  Contract of the program's GetCommand.
-/
import Derived.Test.YtijcnefomgfocaaGetr
import Derived.Test.YtijcnefomgfocaaPutc
namespace Go.Proofs.Ytijcnefomgfocaa
open Go.RowKit

/-- so many signed numbers -/
def intsD : Nat → List UInt8 → Bool → List Int × List UInt8 × Bool
  | 0, l, b => ([], l, b)
  | k + 1, l, b => if b = true then ([], l, b) else (unzig (cnt l b).1 :: (intsD k (cnt l b).2.1 (cnt l b).2.2).1, (intsD k (cnt l b).2.1 (cnt l b).2.2).2)
theorem intsD_bad (k : Nat) (l : List UInt8) : intsD k l true = ([], l, true) := by cases k <;> simp [intsD]
theorem intsD_len (k : Nat) : ∀ (l : List UInt8) (b : Bool), (intsD k l b).1.length ≤ k := by
  induction k with
  | zero => intro l b; simp [intsD]
  | succ k ih =>
    intro l b
    rw [intsD]
    split
    · simp
    · simpa using ih _ _
theorem intsD_range (k : Nat) : ∀ (l : List UInt8) (b : Bool), ∀ z ∈ (intsD k l b).1, I64 z := by
  induction k with
  | zero => intro l b v hv; simp [intsD] at hv
  | succ k ih =>
    intro l b v hv
    rw [intsD] at hv
    split at hv
    · simp at hv
    · rcases List.mem_cons.1 hv with rfl | hv
      · exact unzig_I64 (cnt_lt _ _)
      · exact ih _ _ v hv
/-- the parts of a command: handle, numbers, text -/
def cmdH (bs : List UInt8) : Nat × List UInt8 × Bool := cnt bs.tail bs.isEmpty
def cmdN (bs : List UInt8) : List Int × List UInt8 × Bool := intsD (byteV (cmdH bs).2.1) (cmdH bs).2.1.tail ((cmdH bs).2.2 || (cmdH bs).2.1.isEmpty)
def cmdT (bs : List UInt8) : List UInt8 × List UInt8 × Bool := txtP (cmdN bs).2.1 (cmdN bs).2.2
def cmdTD (bs : List UInt8) : List UInt8 × List UInt8 × Bool := txtD (cmdN bs).2.1 (cmdN bs).2.2
def GetCPost (w : World) (good : Prop) (kind : Int) (h : Nat) (ns : List Int) (text : List UInt8) (yes no : Value) (e : Ending) (w' : World) : Prop :=
  Below w.heap.size w w' ∧ ((good ∧ ∃ A n c, e = .returned (.tuple #[.agg #[.int .i64 kind, .int .u64 (h : Int), .slice A n c, .string ⟨text.toArray⟩], yes]) ∧ RdI w' w'.heap.size A n ns) ∨
    (¬ good ∧ e = .returned (.tuple #[.agg #[.int .i64 0, .int .u64 0, .slice none 0 0, .string ByteArray.empty], no])))
def CLoop (w : World) (T : Nat) (kind : Int) (h : Nat) (N : Nat) (l0 : List UInt8) (b0 : Bool) (R G G0 j : Nat) (wr : World) : Prop :=
  ∃ (us : List Int) (l : List UInt8) (b : Bool) (V : Value), us.length = j ∧
    GS w T 56 3 1 R G G0 l b #[.int .i64 kind, .int .u64 (h : Int), V, .string ⟨#[]⟩] #[.int .i64 0, .int .u64 0, .slice none 0 0, .string ⟨#[]⟩] V j (us.map (Value.int .i64)) wr ∧
    intsD N l0 b0 = (us ++ (intsD (N - j) l b).1, (intsD (N - j) l b).2)
theorem info3 : (Try.prog.info? 3).map (fun i => (i.zero, i.size, i.bytes)) = some (some (.int .i64 0), 1, 8) := by kernel_rfl
theorem step_appE {P : Program} {w : World} {ops : Array Oper} {o : Oper} {a : Act} {K : Act → World → Prop} {Q : Exit → Act → World → Prop} {E : Prop} (hgd : o.guard = none) (s x : Operand) (t : TypeId)
    (ho : o.op = .call { callee := .builtin .append, args := #[s, x], argTypes := #[t, t] })
    (base : Nat) (e : TypeId) (z : Value) (size bytes : Nat) (hinfo : (P.info? e).map (fun i => (i.zero, i.size, i.bytes)) = some (some z, size, bytes)) (ht : P.underlying t = some (.slice e)) (hzs : z.cells.size = size) (hsz : 0 < size)
    (v : Value) (n : Nat) (xs : List Value) (hs : a.eval s = v) (hown : w.ownsRow base e size v n xs)
    (B : Nat) (A : Option Addr) (m c : Nat) (news : List Value) (hx : a.eval x = .slice A m c) (hr : Reads w B size A m news) (h1 : ∀ u ∈ news, u.oneCell' = true)
    (h63 : n + m ≤ maxLen) (hbytes : (n + m) * bytes ≤ 140737488355328) (hbase : base ≤ w.heap.size)
    (h : ∀ v' w', w'.ownsRow base e size v' (n + m) (xs ++ news) → w.grownBy w' v.ownBlock → K (a.put o.dst v') w') :
    if Region.wanted o (yielded ops a.tmps) = true then Oper.wp P o a w K Q else E := by
  obtain ⟨i, hi, hz, hs1, hby⟩ := info_parts hinfo
  have hw : Region.wanted o (yielded ops a.tmps) = true := by simp [Region.wanted, hgd]
  rw [if_pos hw]
  exact wp_append_any w s x t ho base e i z size bytes ht hi hz hs1 hby hzs hsz v n xs hs hown B A m c news hx hr h1 h63 hbytes hbase fun v' w' h2 h3 _ => h v' w' h2 h3

set_option maxRecDepth 20000 in
set_option maxHeartbeats 4000000 in
theorem getc_any (A : Option Addr) (n c : Nat) (bs : List UInt8) (w : World) (hr : RdB w w.heap.size A n bs) (hc : n ≤ c) (hm : n ≤ 9223372036854775807) :
    Calls Try.prog 26 #[.slice A n c] w (GetCPost w ((cmdT bs).2.2 = false ∧ (cmdT bs).2.1 = [] ∧ goodC (byteV bs) (cmdH bs).1 (cmdN bs).1 (cmdT bs).1) (byteV bs) (cmdH bs).1 (cmdN bs).1 (cmdT bs).1 (.int .i64 0) (.int .i64 173)) := by
  obtain ⟨good, HGOOD⟩ : ∃ good, Hid (((cmdT bs).2.2 = false ∧ (cmdT bs).2.1 = [] ∧ goodC (byteV bs) (cmdH bs).1 (cmdN bs).1 (cmdT bs).1) = good) := ⟨_, rfl⟩
  rw [HGOOD.out]
  have HHL := Lib.hid (cnt_lt bs.tail bs.isEmpty)
  have hkd := byteV_lt bs
  obtain ⟨⟨hd, l1, b1⟩, HCH⟩ : ∃ r, Hid (cmdH bs = r) := ⟨_, rfl⟩
  have HHL2 : Hid (hd < 18446744073709551616) := Lib.hid (by have := HHL.out; unfold cmdH at HCH; rw [HCH.out] at this; exact this)
  rw [HCH.out]
  obtain ⟨kd, HKD⟩ : ∃ e0, Hid (byteV bs = e0) := ⟨_, rfl⟩
  rw [HKD.out] at hkd ⊢
  obtain ⟨ns, HNS⟩ : ∃ e0, Hid ((cmdN bs).1 = e0) := ⟨_, rfl⟩
  rw [HNS.out]
  obtain ⟨text, HTX⟩ : ∃ e0, Hid ((cmdT bs).1 = e0) := ⟨_, rfl⟩
  rw [HTX.out]
  have HP := Lib.hid (GS.start (T := 88) (U := 56) #[.int .i64 0, .int .u64 0, .slice none 0 0, .string ⟨#[]⟩] hr hc hm)
  clear hr hc hm HHL
  dsimp only
  go_enter Try.func26, Try.ntmps26
  go_wp2_with fail
  have HS1 := Lib.hid (byte_any _ _ _ _ _ HP.out)
  refine HS1.out.mono ?_
  rintro e w1 ⟨he, hp1, hg1⟩
  rw [HKD.out] at he
  subst he
  have HS2 := Lib.hid (cnt_any _ _ _ _ _ hp1)
  clear HS1 HP
  go_wp2_with fail
  refine HS2.out.mono ?_
  rintro e w2 ⟨he, hp2, hg2⟩
  have e1 : cnt bs.tail (false || bs.isEmpty) = (hd, l1, b1) := by rw [Bool.false_or]; exact HCH.out
  rw [e1] at he hp2
  subst he
  dsimp only at hp2 ⊢
  have h0 : GS w 88 56 3 1 (w.heap.size + 1) w2.heap.size w.heap.size l1 b1 #[.int .i64 kd, .int .u64 (hd : Int), .slice none 0 0, .string ⟨#[]⟩] #[.int .i64 0, .int .u64 0, .slice none 0 0, .string ⟨#[]⟩] (.slice none 0 0) 0 (([] : List Int).map (Value.int .i64)) (w2.alloc (.cells #[.int .i64 kd, .int .u64 (hd : Int), .slice none 0 0, .string ⟨#[]⟩] 56)) := by
    have hg3 := hg1.trans hg2
    have hsz := hg3.size
    simp at hsz
    have hb1 : Below w.heap.size w w2 := (((Below.refl _ _).alloc (Nat.le_refl _) _).alloc (by simp) _).grown hg3 (by simp; omega) (fun k hk => by injection hk with hk; omega)
    refine ⟨hp2.grown (World.grownBy_alloc _ _ none) (fun k hk => by cases hk) (by simp), Blk.new _ _ _, ((Blk.new' w 56 w.heap.size _ rfl).alloc _).grown hg3 (by simp) |>.alloc _, World.ownsRow_nil _ _ _ _, hb1.alloc hb1.size _, hb1.size, Nat.le_refl _, by omega⟩
  clear hp1 hg1 hp2 hg2 HS2 e1
  go_upto_region 3 with fail
  generalize hW3 : (w2.alloc (.cells #[.int .i64 kd, .int .u64 (hd : Int), .slice none 0 0, .string ⟨#[]⟩] 56)) = W3 at h0 ⊢
  generalize w2.heap.size = G at h0 ⊢
  clear hW3 w1 w2
  have HB := Lib.hid (byte_any _ _ _ _ _ h0.part)
  go_wp2_with fail
  refine HB.out.mono ?_
  rintro e w4 ⟨rfl, hp4, hg4⟩
  have h4 := h0.call (by decide) (by decide) hp4 hg4
  clear h0 hp4 hg4 HB
  have hx := byteV_lt l1
  obtain ⟨nv, HNV⟩ : ∃ e0, Hid (byteV l1 = e0) := ⟨_, rfl⟩
  rw [HNV.out] at hx ⊢
  obtain ⟨l0, HL0⟩ : ∃ e0, Hid (l1.tail = e0) := ⟨_, rfl⟩
  obtain ⟨b0, HB0⟩ : ∃ e0, Hid ((b1 || l1.isEmpty) = e0) := ⟨_, rfl⟩
  rw [HL0.out, HB0.out] at h4
  have HREP : Hid (cmdN bs = intsD nv l0 b0) := Lib.hid (by unfold cmdN; rw [HCH.out]; dsimp only; rw [HNV.out, HL0.out, HB0.out])
  clear HNV HL0 HB0
  generalize w.heap.size + 1 = R at h4 ⊢
  generalize w.heap.size = G0 at h4 ⊢
  go_wp2
  go_loopw [7] (fun i wr => ∃ j : Nat, j ≤ nv ∧ i = .int .i64 j ∧ CLoop w 88 kd hd nv l0 b0 R G G0 j wr) (fun i _ => nv - (intOf i).toNat)
  case atStart => exact ⟨0, Nat.zero_le _, rfl, [], l0, b0, _, rfl, h4, by simp⟩
  case round =>
    obtain ⟨j, hj, rfl, us, l, b, V, hus, h5, hrel⟩ := hrel
    clear h4
    have HREL := Lib.hid hrel
    have HUS := Lib.hid hus
    clear hrel hus
    have cb := h5.bad
    by_cases hlt : j < nv
    · have d : decide ((j : Int) < (nv : Int)) = true := by simp; omega
      cases b
      · obtain ⟨⟨m3, l3, b3⟩, HCN⟩ : ∃ r, Hid (cnt l false = r) := ⟨_, rfl⟩
        have HB := Lib.hid (sgn_any _ _ _ _ _ h5.drew.part)
        unfold SgnPost at HB
        rw [HCN.out] at HB
        dsimp only at HB
        have g0 := h5.cell 2
        have gf0 := h5.main.frozen 2
        simp at g0
        go_upto_region 7 with fail
        have hT : True := trivial
        refine wp_region_held_drew (S := fun _ => True) (by kernel_rfl) hT (fun hHeld => ?_)
        refine wpAnyH_take (i := 0) (v := ?_) (by simp only [List.getElem?_toArray, List.getElem?_cons_zero]; rfl) (by kernel_rfl) (by kernel_rfl) (by kernel_rfl) (by exact fun _ _ _ h => h) (Or.inl ⟨by rfl, ?_⟩) (by assumption) ?_
        rotate_left
        · intro w hSw; go_simp <;> with_reducible rfl
        try simp only [Act.put, List.setIfInBounds_toArray, List.set_cons_zero, List.set_cons_succ]
        refine wpAnyH_take (i := 2) (v := ?_) (by simp only [List.getElem?_toArray, List.getElem?_cons_succ, List.getElem?_cons_zero]; rfl) (by kernel_rfl) (by kernel_rfl) (by kernel_rfl) (by exact fun _ _ _ h => h) (Or.inl ⟨by rfl, ?_⟩) (by assumption) ?_
        rotate_left
        · intro w hSw; go_simp <;> with_reducible rfl
        try simp only [Act.put, List.setIfInBounds_toArray, List.set_cons_zero, List.set_cons_succ]
        refine wpAnyH_ready (rs := [1, 3]) (by kernel_rfl) (by simp) ?_
        refine AllReadyH.cons (by simp only [List.getElem?_toArray, List.getElem?_cons_succ, List.getElem?_cons_zero]; rfl) (fun K hK => ?_) (AllReadyH.cons (by simp only [List.getElem?_toArray, List.getElem?_cons_succ, List.getElem?_cons_zero]; rfl) (fun K hK => ?_) AllReadyH.nil)
        · go_simp
          refine hK.out _ _ trivial (fun hHeld => ?_)
          clear hK K
          try simp only [Act.put, List.setIfInBounds_toArray, List.set_cons_zero, List.set_cons_succ]
          refine wpAnyH_ready (rs := [3]) (by kernel_rfl) (by simp) ?_
          refine AllReadyH.cons (by simp only [List.getElem?_toArray, List.getElem?_cons_succ, List.getElem?_cons_zero]; rfl) (fun K hK => ?_) AllReadyH.nil
          go_simp
          refine HB.out.mono ?_
          rintro e w6 ⟨rfl, hp6, hg6⟩
          have h6 := h5.drew.call (by decide) (by decide) hp6 hg6
          have g1 := h6.cell 2
          have gf1 := h6.main.frozen 2
          simp at g1
          go_simp
          refine hK.out _ _ trivial (fun hHeld => ?_)
          clear hK K
          try simp only [Act.put, List.setIfInBounds_toArray, List.set_cons_zero, List.set_cons_succ]
          refine wpAnyH_ready (rs := [4]) (by kernel_rfl) (by simp) ?_
          refine AllReadyH.cons (by simp only [List.getElem?_toArray, List.getElem?_cons_succ, List.getElem?_cons_zero]; rfl) (fun K hK => ?_) AllReadyH.nil
          go_simp
          refine hK.out _ _ trivial (fun hHeld => ?_)
          clear hK K
          try simp only [Act.put, List.setIfInBounds_toArray, List.set_cons_zero, List.set_cons_succ]
          refine wpAnyH_ready (rs := [5]) (by kernel_rfl) (by simp) ?_
          refine AllReadyH.cons (by simp only [List.getElem?_toArray, List.getElem?_cons_succ, List.getElem?_cons_zero]; rfl) (fun K hK => ?_) AllReadyH.nil
          refine step_appE rfl (.tmp 35) (.tmp 38) 54 rfl w.heap.size 3 _ 1 8 info3 Try.underlying54 rfl (by decide) _ _ _ rfl (h6.alloc _).own _ _ _ _ [.int .i64 (unzig m3)] rfl (Reads.built w6 3 [.int .i64 (unzig m3)]) (by simp [Value.oneCell']) (by simp only [maxLen]; omega) (by omega) (h6.alloc _).below.size ?_
          intro V2 w11 hown11 happ11
          obtain ⟨A2, c2, rfl⟩ := own_form hown11
          have h11 := (h6.alloc _).app (by decide) (by decide) happ11 hown11
          have gf3 := h11.main.frozen 2
          have g3 := h11.cell 2
          simp at g3
          refine hK.out _ _ trivial (fun hHeld => ?_)
          clear hK K
          try simp only [Act.put, List.setIfInBounds_toArray, List.set_cons_zero, List.set_cons_succ]
          refine wpAnyH_take (i := 6) (v := ?_) (by simp only [List.getElem?_toArray, List.getElem?_cons_succ, List.getElem?_cons_zero]; rfl) (by kernel_rfl) (by kernel_rfl) (by kernel_rfl) (by exact fun _ _ _ h => h) (Or.inl ⟨by rfl, ?_⟩) (by assumption) ?_
          rotate_left
          · intro w hSw; go_simp <;> with_reducible rfl
          try simp only [Act.put, List.setIfInBounds_toArray, List.set_cons_zero, List.set_cons_succ]
          refine wpAnyH_ready (rs := [7]) (by kernel_rfl) (by simp) ?_
          refine AllReadyH.cons (by simp only [List.getElem?_toArray, List.getElem?_cons_succ, List.getElem?_cons_zero]; rfl) (fun K hK => ?_) AllReadyH.nil
          go_simp
          refine hK.out _ _ trivial (fun hHeld => ?_)
          clear hK K
          try simp only [Act.put, List.setIfInBounds_toArray, List.set_cons_zero, List.set_cons_succ]
          refine wpAnyH_done (by kernel_rfl) ?_ _
          go_wp2_with fail
          go_roundw
          case rel =>
            refine ⟨j + 1, by omega, by go_num, us ++ [unzig m3], l3, b3, .slice A2 (j + 1) c2, by simp [HUS.out], ?_, ?_⟩
            · have h12 := h11.setMain (by decide) (by decide) 2 (.slice A2 (j + 1) c2)
              simpa using h12
            · obtain ⟨f, hf⟩ : ∃ f, nv - j = f + 1 := ⟨nv - j - 1, by omega⟩
              rw [HREL.out, hf, show nv - (j + 1) = f from by omega, intsD, if_neg (by decide), HCN.out]
              simp
          case measure => simp [intOf]; omega

        · go_simp
          refine HB.out.mono ?_
          rintro e w6 ⟨rfl, hp6, hg6⟩
          have h6 := h5.drew.call (by decide) (by decide) hp6 hg6
          have g1 := h6.cell 2
          have gf1 := h6.main.frozen 2
          simp at g1
          go_simp
          refine hK.out _ _ trivial (fun hHeld => ?_)
          clear hK K
          try simp only [Act.put, List.setIfInBounds_toArray, List.set_cons_zero, List.set_cons_succ]
          refine wpAnyH_ready (rs := [1, 4]) (by kernel_rfl) (by simp) ?_
          refine AllReadyH.cons (by simp only [List.getElem?_toArray, List.getElem?_cons_succ, List.getElem?_cons_zero]; rfl) (fun K hK => ?_) (AllReadyH.cons (by simp only [List.getElem?_toArray, List.getElem?_cons_succ, List.getElem?_cons_zero]; rfl) (fun K hK => ?_) AllReadyH.nil)
          · go_simp
            refine hK.out _ _ trivial (fun hHeld => ?_)
            clear hK K
            try simp only [Act.put, List.setIfInBounds_toArray, List.set_cons_zero, List.set_cons_succ]
            refine wpAnyH_ready (rs := [4]) (by kernel_rfl) (by simp) ?_
            refine AllReadyH.cons (by simp only [List.getElem?_toArray, List.getElem?_cons_succ, List.getElem?_cons_zero]; rfl) (fun K hK => ?_) AllReadyH.nil
            go_simp
            refine hK.out _ _ trivial (fun hHeld => ?_)
            clear hK K
            try simp only [Act.put, List.setIfInBounds_toArray, List.set_cons_zero, List.set_cons_succ]
            refine wpAnyH_ready (rs := [5]) (by kernel_rfl) (by simp) ?_
            refine AllReadyH.cons (by simp only [List.getElem?_toArray, List.getElem?_cons_succ, List.getElem?_cons_zero]; rfl) (fun K hK => ?_) AllReadyH.nil
            refine step_appE rfl (.tmp 35) (.tmp 38) 54 rfl w.heap.size 3 _ 1 8 info3 Try.underlying54 rfl (by decide) _ _ _ rfl (h6.alloc _).own _ _ _ _ [.int .i64 (unzig m3)] rfl (Reads.built w6 3 [.int .i64 (unzig m3)]) (by simp [Value.oneCell']) (by simp only [maxLen]; omega) (by omega) (h6.alloc _).below.size ?_
            intro V2 w11 hown11 happ11
            obtain ⟨A2, c2, rfl⟩ := own_form hown11
            have h11 := (h6.alloc _).app (by decide) (by decide) happ11 hown11
            have gf3 := h11.main.frozen 2
            have g3 := h11.cell 2
            simp at g3
            refine hK.out _ _ trivial (fun hHeld => ?_)
            clear hK K
            try simp only [Act.put, List.setIfInBounds_toArray, List.set_cons_zero, List.set_cons_succ]
            refine wpAnyH_take (i := 6) (v := ?_) (by simp only [List.getElem?_toArray, List.getElem?_cons_succ, List.getElem?_cons_zero]; rfl) (by kernel_rfl) (by kernel_rfl) (by kernel_rfl) (by exact fun _ _ _ h => h) (Or.inl ⟨by rfl, ?_⟩) (by assumption) ?_
            rotate_left
            · intro w hSw; go_simp <;> with_reducible rfl
            try simp only [Act.put, List.setIfInBounds_toArray, List.set_cons_zero, List.set_cons_succ]
            refine wpAnyH_ready (rs := [7]) (by kernel_rfl) (by simp) ?_
            refine AllReadyH.cons (by simp only [List.getElem?_toArray, List.getElem?_cons_succ, List.getElem?_cons_zero]; rfl) (fun K hK => ?_) AllReadyH.nil
            go_simp
            refine hK.out _ _ trivial (fun hHeld => ?_)
            clear hK K
            try simp only [Act.put, List.setIfInBounds_toArray, List.set_cons_zero, List.set_cons_succ]
            refine wpAnyH_done (by kernel_rfl) ?_ _
            go_wp2_with fail
            go_roundw
            case rel =>
              refine ⟨j + 1, by omega, by go_num, us ++ [unzig m3], l3, b3, .slice A2 (j + 1) c2, by simp [HUS.out], ?_, ?_⟩
              · have h12 := h11.setMain (by decide) (by decide) 2 (.slice A2 (j + 1) c2)
                simpa using h12
              · obtain ⟨f, hf⟩ : ∃ f, nv - j = f + 1 := ⟨nv - j - 1, by omega⟩
                rw [HREL.out, hf, show nv - (j + 1) = f from by omega, intsD, if_neg (by decide), HCN.out]
                simp
            case measure => simp [intOf]; omega
          · go_simp
            refine hK.out _ _ trivial (fun hHeld => ?_)
            clear hK K
            try simp only [Act.put, List.setIfInBounds_toArray, List.set_cons_zero, List.set_cons_succ]
            have h6a := h6.alloc (.cells #[.int .i64 (unzig m3)] 3)
            have g2 := h6a.cell 2
            simp at g2
            refine wpAnyH_ready (rs := [1]) (by kernel_rfl) (by simp) ?_
            refine AllReadyH.cons (by simp only [List.getElem?_toArray, List.getElem?_cons_succ, List.getElem?_cons_zero]; rfl) (fun K hK => ?_) AllReadyH.nil
            go_simp
            refine hK.out _ _ trivial (fun hHeld => ?_)
            clear hK K
            try simp only [Act.put, List.setIfInBounds_toArray, List.set_cons_zero, List.set_cons_succ]
            refine wpAnyH_ready (rs := [5]) (by kernel_rfl) (by simp) ?_
            refine AllReadyH.cons (by simp only [List.getElem?_toArray, List.getElem?_cons_succ, List.getElem?_cons_zero]; rfl) (fun K hK => ?_) AllReadyH.nil
            refine step_appE rfl (.tmp 35) (.tmp 38) 54 rfl w.heap.size 3 _ 1 8 info3 Try.underlying54 rfl (by decide) _ _ _ rfl (h6.alloc _).own _ _ _ _ [.int .i64 (unzig m3)] rfl (Reads.built w6 3 [.int .i64 (unzig m3)]) (by simp [Value.oneCell']) (by simp only [maxLen]; omega) (by omega) (h6.alloc _).below.size ?_
            intro V2 w11 hown11 happ11
            obtain ⟨A2, c2, rfl⟩ := own_form hown11
            have h11 := (h6.alloc _).app (by decide) (by decide) happ11 hown11
            have gf3 := h11.main.frozen 2
            have g3 := h11.cell 2
            simp at g3
            refine hK.out _ _ trivial (fun hHeld => ?_)
            clear hK K
            try simp only [Act.put, List.setIfInBounds_toArray, List.set_cons_zero, List.set_cons_succ]
            refine wpAnyH_take (i := 6) (v := ?_) (by simp only [List.getElem?_toArray, List.getElem?_cons_succ, List.getElem?_cons_zero]; rfl) (by kernel_rfl) (by kernel_rfl) (by kernel_rfl) (by exact fun _ _ _ h => h) (Or.inl ⟨by rfl, ?_⟩) (by assumption) ?_
            rotate_left
            · intro w hSw; go_simp <;> with_reducible rfl
            try simp only [Act.put, List.setIfInBounds_toArray, List.set_cons_zero, List.set_cons_succ]
            refine wpAnyH_ready (rs := [7]) (by kernel_rfl) (by simp) ?_
            refine AllReadyH.cons (by simp only [List.getElem?_toArray, List.getElem?_cons_succ, List.getElem?_cons_zero]; rfl) (fun K hK => ?_) AllReadyH.nil
            go_simp
            refine hK.out _ _ trivial (fun hHeld => ?_)
            clear hK K
            try simp only [Act.put, List.setIfInBounds_toArray, List.set_cons_zero, List.set_cons_succ]
            refine wpAnyH_done (by kernel_rfl) ?_ _
            go_wp2_with fail
            go_roundw
            case rel =>
              refine ⟨j + 1, by omega, by go_num, us ++ [unzig m3], l3, b3, .slice A2 (j + 1) c2, by simp [HUS.out], ?_, ?_⟩
              · have h12 := h11.setMain (by decide) (by decide) 2 (.slice A2 (j + 1) c2)
                simpa using h12
              · obtain ⟨f, hf⟩ : ∃ f, nv - j = f + 1 := ⟨nv - j - 1, by omega⟩
                rw [HREL.out, hf, show nv - (j + 1) = f from by omega, intsD, if_neg (by decide), HCN.out]
                simp
            case measure => simp [intOf]; omega

      · have HV : Hid (intsD nv l0 b0 = (us, l, true)) := Lib.hid (by rw [HREL.out, intsD_bad]; simp)
        have hrange : ∀ v ∈ us, I64 v := fun v hv => intsD_range nv l0 b0 v (by rw [HV.out]; exact hv)
        have HRG := Lib.hid hrange
        clear hrange
        go_wp2_with fail
        have HT := Lib.hid (txt_any _ _ _ _ _ h5.part)
        refine HT.out.mono ?_
        rintro e w6 ⟨rfl, hp6, hg6⟩
        have h6 := h5.call (by decide) (by decide) hp6 hg6
        obtain ⟨⟨tx, l6, b6⟩, HTT⟩ : ∃ r, Hid (txtP l true = r) := ⟨_, rfl⟩
        rw [HTT.out] at h6 ⊢
        try dsimp only at h6 ⊢
        have m2 := h6.cell 3
        have mf := h6.main.frozen 3
        simp at m2
        clear h5 hp6 hg6 HT cb
        have HF : Hid (ns = us ∧ text = tx ∧ (good = (b6 = false ∧ l6 = [] ∧ goodC kd hd us tx))) := Lib.hid (by
          have e1 : cmdN bs = (us, l, true) := by rw [HREP.out, HV.out]
          have e2 : cmdT bs = (tx, l6, b6) := by unfold cmdT; rw [e1]; exact HTT.out
          refine ⟨by rw [← HNS.out, e1], by rw [← HTX.out, e2], by rw [← HGOOD.out, e1, e2, HKD.out, HCH.out]⟩)
        go_upto_region 9 with fail
        have h7 := h6.setMain (by decide) (by decide) 3 (.string ⟨tx.toArray⟩)
        simp at h7
        generalize w6.setCell ⟨G, 3, none⟩ (.string ⟨tx.toArray⟩) = w7 at h7 ⊢
        clear h6 m2 mf
        obtain ⟨A5, c5, rfl⟩ := own_form h7.own
        have q0 := h7.cell 0
        have q1 := h7.cell 1
        have q2 := h7.cell 2
        have q3 := h7.cell 3
        simp at q0 q1 q2 q3
        have HPR := Lib.hid (putc_any kd hd A5 j c5 us ⟨tx.toArray⟩ w7 HHL2.out (Reads.of_own h7.own) HRG.out)
        go_wp2_with fail
        refine HPR.out.mono ?_
        rintro e w8 ⟨hb8, hpost⟩
        have h8 := h7.later hb8
        clear h7 hb8 q0 q1 q2 q3 HPR
        try dsimp only at hpost
        rcases hpost with ⟨hgood, v8, rfl, hown8⟩ | ⟨hbad, rfl⟩
        · have HGD := Lib.hid hgood
          obtain ⟨A8, c8, rfl, -⟩ := hown8.form
          clear hgood hown8
          have HD := Lib.hid (done_any _ _ _ _ _ h8.part)
          go_wp2_with fail
          refine HD.out.mono ?_
          rintro e w9 ⟨rfl, kk, rfl⟩
          have h9 := h8.drewN kk
          generalize w8.drewN kk = w9 at h9 ⊢
          clear HD h8
          have r0 := h9.res.cell 0
          have r1 := h9.res.cell 1
          have r2 := h9.res.cell 2
          have r3 := h9.res.cell 3
          have s0 := h9.res.frozen 0
          have s1 := h9.res.frozen 1
          have s2 := h9.res.frozen 2
          have s3 := h9.res.frozen 3
          have q0 := h9.cell 0
          have q1 := h9.cell 1
          have q2 := h9.cell 2
          have q3 := h9.cell 3
          simp at q0 q1 q2 q3 r0 r1 r2 r3
          cases hz : (!b6 && l6.isEmpty)
          · have HZ : Hid (¬ good) := Lib.hid (by rw [HF.out.2.2]; rintro ⟨rfl, rfl, -⟩; simp at hz)
            clear hz
            have hF := (((h9.setRes (by decide) (by decide) 0 (.int .i64 0)).setRes (by decide) (by decide) 1 (.int .u64 0)).setRes (by decide) (by decide) 2 (.slice none 0 0)).setRes (by decide) (by decide) 3 (.string ⟨#[]⟩)
            have HFF := Lib.hid hF
            clear hF
            go_wp2
            have hF := HFF.out
            have t0 := hF.res.cell 0
            have t1 := hF.res.cell 1
            have t2 := hF.res.cell 2
            have t3 := hF.res.cell 3
            simp at t0 t1 t2 t3
            refine bodyPost_ret (v := .tuple #[.agg #[.int .i64 0, .int .u64 0, .slice none 0 0, .string ByteArray.empty], .int .i64 173]) (by simp [results, Try.results26, go_sem, t0, t1, t2, t3]; rfl) rfl ⟨hF.below, .inr ⟨HZ.out, rfl⟩⟩
          · have HZ : Hid good := Lib.hid (by rw [HF.out.2.2]; refine ⟨?_, ?_, by simpa using HGD.out⟩ <;> cases b6 <;> cases l6 <;> simp_all)
            clear hz
            have hF := (((h9.setRes (by decide) (by decide) 0 (.int .i64 (kd : Int))).setRes (by decide) (by decide) 1 (.int .u64 (hd : Int))).setRes (by decide) (by decide) 2 (.slice A5 j c5)).setRes (by decide) (by decide) 3 (.string ⟨tx.toArray⟩)
            have HFF := Lib.hid hF
            clear hF
            go_wp2
            have hF := HFF.out
            have t0 := hF.res.cell 0
            have t1 := hF.res.cell 1
            have t2 := hF.res.cell 2
            have t3 := hF.res.cell 3
            simp at t0 t1 t2 t3
            refine bodyPost_ret (v := .tuple #[.agg #[.int .i64 kd, .int .u64 hd, .slice A5 j c5, .string ⟨tx.toArray⟩], .int .i64 0]) (by simp [results, Try.results26, go_sem, t0, t1, t2, t3]) rfl ⟨hF.below, .inl ⟨HZ.out, A5, j, c5, by rw [HF.out.2.1], by rw [HF.out.1]; exact Reads.of_own hF.own⟩⟩
        · have HZ : Hid (¬ good) := Lib.hid (by rw [HF.out.2.2]; rintro ⟨-, -, hg⟩; exact hbad (by simpa using hg))
          clear hbad
          have r0 := h8.res.cell 0
          have r1 := h8.res.cell 1
          have r2 := h8.res.cell 2
          have r3 := h8.res.cell 3
          have s0 := h8.res.frozen 0
          have s1 := h8.res.frozen 1
          have s2 := h8.res.frozen 2
          have s3 := h8.res.frozen 3
          simp at r0 r1 r2 r3
          have hF := (((h8.setRes (by decide) (by decide) 0 (.int .i64 0)).setRes (by decide) (by decide) 1 (.int .u64 0)).setRes (by decide) (by decide) 2 (.slice none 0 0)).setRes (by decide) (by decide) 3 (.string ⟨#[]⟩)
          have HFF := Lib.hid hF
          clear hF
          go_wp2
          have hF := HFF.out
          have t0 := hF.res.cell 0
          have t1 := hF.res.cell 1
          have t2 := hF.res.cell 2
          have t3 := hF.res.cell 3
          simp at t0 t1 t2 t3
          refine bodyPost_ret (v := .tuple #[.agg #[.int .i64 0, .int .u64 0, .slice none 0 0, .string ByteArray.empty], .int .i64 173]) (by simp [results, Try.results26, go_sem, t0, t1, t2, t3]; rfl) rfl ⟨hF.below, .inr ⟨HZ.out, rfl⟩⟩
    · have d : decide ((j : Int) < (nv : Int)) = false := by simp; omega
      have HV : Hid (intsD nv l0 b0 = (us, l, b)) := Lib.hid (by rw [HREL.out, show nv - j = 0 from by omega, intsD]; simp)
      have hrange : ∀ v ∈ us, I64 v := fun v hv => intsD_range nv l0 b0 v (by rw [HV.out]; exact hv)
      have HRG := Lib.hid hrange
      clear hrange
      go_wp2_with fail
      have HT := Lib.hid (txt_any _ _ _ _ _ h5.part)
      refine HT.out.mono ?_
      rintro e w6 ⟨rfl, hp6, hg6⟩
      have h6 := h5.call (by decide) (by decide) hp6 hg6
      obtain ⟨⟨tx, l6, b6⟩, HTT⟩ : ∃ r, Hid (txtP l b = r) := ⟨_, rfl⟩
      rw [HTT.out] at h6 ⊢
      try dsimp only at h6 ⊢
      have m2 := h6.cell 3
      have mf := h6.main.frozen 3
      simp at m2
      clear h5 hp6 hg6 HT cb
      have HF : Hid (ns = us ∧ text = tx ∧ (good = (b6 = false ∧ l6 = [] ∧ goodC kd hd us tx))) := Lib.hid (by
        have e1 : cmdN bs = (us, l, b) := by rw [HREP.out, HV.out]
        have e2 : cmdT bs = (tx, l6, b6) := by unfold cmdT; rw [e1]; exact HTT.out
        refine ⟨by rw [← HNS.out, e1], by rw [← HTX.out, e2], by rw [← HGOOD.out, e1, e2, HKD.out, HCH.out]⟩)
      go_upto_region 9 with fail
      have h7 := h6.setMain (by decide) (by decide) 3 (.string ⟨tx.toArray⟩)
      simp at h7
      generalize w6.setCell ⟨G, 3, none⟩ (.string ⟨tx.toArray⟩) = w7 at h7 ⊢
      clear h6 m2 mf
      obtain ⟨A5, c5, rfl⟩ := own_form h7.own
      have q0 := h7.cell 0
      have q1 := h7.cell 1
      have q2 := h7.cell 2
      have q3 := h7.cell 3
      simp at q0 q1 q2 q3
      have HPR := Lib.hid (putc_any kd hd A5 j c5 us ⟨tx.toArray⟩ w7 HHL2.out (Reads.of_own h7.own) HRG.out)
      go_wp2_with fail
      refine HPR.out.mono ?_
      rintro e w8 ⟨hb8, hpost⟩
      have h8 := h7.later hb8
      clear h7 hb8 q0 q1 q2 q3 HPR
      try dsimp only at hpost
      rcases hpost with ⟨hgood, v8, rfl, hown8⟩ | ⟨hbad, rfl⟩
      · have HGD := Lib.hid hgood
        obtain ⟨A8, c8, rfl, -⟩ := hown8.form
        clear hgood hown8
        have HD := Lib.hid (done_any _ _ _ _ _ h8.part)
        go_wp2_with fail
        refine HD.out.mono ?_
        rintro e w9 ⟨rfl, kk, rfl⟩
        have h9 := h8.drewN kk
        generalize w8.drewN kk = w9 at h9 ⊢
        clear HD h8
        have r0 := h9.res.cell 0
        have r1 := h9.res.cell 1
        have r2 := h9.res.cell 2
        have r3 := h9.res.cell 3
        have s0 := h9.res.frozen 0
        have s1 := h9.res.frozen 1
        have s2 := h9.res.frozen 2
        have s3 := h9.res.frozen 3
        have q0 := h9.cell 0
        have q1 := h9.cell 1
        have q2 := h9.cell 2
        have q3 := h9.cell 3
        simp at q0 q1 q2 q3 r0 r1 r2 r3
        cases hz : (!b6 && l6.isEmpty)
        · have HZ : Hid (¬ good) := Lib.hid (by rw [HF.out.2.2]; rintro ⟨rfl, rfl, -⟩; simp at hz)
          clear hz
          have hF := (((h9.setRes (by decide) (by decide) 0 (.int .i64 0)).setRes (by decide) (by decide) 1 (.int .u64 0)).setRes (by decide) (by decide) 2 (.slice none 0 0)).setRes (by decide) (by decide) 3 (.string ⟨#[]⟩)
          have HFF := Lib.hid hF
          clear hF
          go_wp2
          have hF := HFF.out
          have t0 := hF.res.cell 0
          have t1 := hF.res.cell 1
          have t2 := hF.res.cell 2
          have t3 := hF.res.cell 3
          simp at t0 t1 t2 t3
          refine bodyPost_ret (v := .tuple #[.agg #[.int .i64 0, .int .u64 0, .slice none 0 0, .string ByteArray.empty], .int .i64 173]) (by simp [results, Try.results26, go_sem, t0, t1, t2, t3]; rfl) rfl ⟨hF.below, .inr ⟨HZ.out, rfl⟩⟩
        · have HZ : Hid good := Lib.hid (by rw [HF.out.2.2]; refine ⟨?_, ?_, by simpa using HGD.out⟩ <;> cases b6 <;> cases l6 <;> simp_all)
          clear hz
          have hF := (((h9.setRes (by decide) (by decide) 0 (.int .i64 (kd : Int))).setRes (by decide) (by decide) 1 (.int .u64 (hd : Int))).setRes (by decide) (by decide) 2 (.slice A5 j c5)).setRes (by decide) (by decide) 3 (.string ⟨tx.toArray⟩)
          have HFF := Lib.hid hF
          clear hF
          go_wp2
          have hF := HFF.out
          have t0 := hF.res.cell 0
          have t1 := hF.res.cell 1
          have t2 := hF.res.cell 2
          have t3 := hF.res.cell 3
          simp at t0 t1 t2 t3
          refine bodyPost_ret (v := .tuple #[.agg #[.int .i64 kd, .int .u64 hd, .slice A5 j c5, .string ⟨tx.toArray⟩], .int .i64 0]) (by simp [results, Try.results26, go_sem, t0, t1, t2, t3]) rfl ⟨hF.below, .inl ⟨HZ.out, A5, j, c5, by rw [HF.out.2.1], by rw [HF.out.1]; exact Reads.of_own hF.own⟩⟩
      · have HZ : Hid (¬ good) := Lib.hid (by rw [HF.out.2.2]; rintro ⟨-, -, hg⟩; exact hbad (by simpa using hg))
        clear hbad
        have r0 := h8.res.cell 0
        have r1 := h8.res.cell 1
        have r2 := h8.res.cell 2
        have r3 := h8.res.cell 3
        have s0 := h8.res.frozen 0
        have s1 := h8.res.frozen 1
        have s2 := h8.res.frozen 2
        have s3 := h8.res.frozen 3
        simp at r0 r1 r2 r3
        have hF := (((h8.setRes (by decide) (by decide) 0 (.int .i64 0)).setRes (by decide) (by decide) 1 (.int .u64 0)).setRes (by decide) (by decide) 2 (.slice none 0 0)).setRes (by decide) (by decide) 3 (.string ⟨#[]⟩)
        have HFF := Lib.hid hF
        clear hF
        go_wp2
        have hF := HFF.out
        have t0 := hF.res.cell 0
        have t1 := hF.res.cell 1
        have t2 := hF.res.cell 2
        have t3 := hF.res.cell 3
        simp at t0 t1 t2 t3
        refine bodyPost_ret (v := .tuple #[.agg #[.int .i64 0, .int .u64 0, .slice none 0 0, .string ByteArray.empty], .int .i64 173]) (by simp [results, Try.results26, go_sem, t0, t1, t2, t3]; rfl) rfl ⟨hF.below, .inr ⟨HZ.out, rfl⟩⟩
end Go.Proofs.Ytijcnefomgfocaa
