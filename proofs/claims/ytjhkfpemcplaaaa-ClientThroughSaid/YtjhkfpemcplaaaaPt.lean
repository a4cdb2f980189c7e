/-
  Merged: Putr, Sgn, Txt, Gs, Getr, Plain.
-/
import Derived.Test.YtjhkfpemcplaaaaPw
import Derived.Lib.AppendStr
namespace Go.Proofs.Ytjhkfpemcplaaaa
open Go.RowKit

theorem Kept.grw {w w1 w2 : World} {T g n : Nat} {cs : Array Value} {A : Option Addr} {bs xs : List UInt8} {v : Value} (h : Kept w T g cs A n bs w1) (ho : OwnB 5 w1 w.heap.size v xs) (hT : 5 ≠ T) (ha : w1.grownBy w2 v.ownBlock) : Kept w T g cs A n bs w2 := by
  obtain ⟨hb, hr, hbw⟩ := h
  have hlt := ho.lt
  exact ⟨hb.grown ha (fun e => own_blk_ne ho hb hT e.symm), hr.grown ha hbw.size (fun k hk => (hlt k hk).1), hbw.grown ha hbw.size (fun k hk => (hlt k hk).1)⟩
theorem Reads.of_blk {w : World} {g : Nat} {t : TypeId} {cs : List Value} (h : Blk w g t cs.toArray) : Reads w (g + 1) 1 (some ⟨g, 0, none⟩) cs.length cs := by
  refine ⟨by simp, fun _ => ⟨_, rfl, by simp, fun j u hu => ?_⟩⟩
  have e : (⟨g, 0, none⟩ : Addr).add j = ⟨g, j, none⟩ := by unfold Addr.add; split <;> simp_all
  rw [e, h.cell j]
  simpa using hu
def NilPost (w : World) (T g : Nat) (cs : Array Value) (W : World) (ys : List UInt8) (e : Ending) (w1 : World) : Prop := ∃ v, e = .returned v ∧ OwnB 5 w1 w.heap.size v ys ∧ Kept w T g cs none 0 [] w1 ∧ (∀ k t ds, Blk W k t ds → Blk w1 k t ds)
theorem counts_nil {w W : World} {T g : Nat} {cs : Array Value} (lb m c : Nat) (ns : List Nat) (h : Kept w T g cs none 0 [] W) (hT : 5 ≠ T)
    (hl : Blk W lb 22 (ns.map uv).toArray) (hm : m = ns.length) (hn : ∀ n ∈ ns, n < 18446744073709551616) (hns : ns.length ≤ 1000) :
    Calls Try.prog 73 #[.slice none 0 0, .slice (some ⟨lb, 0, none⟩) m c] W (NilPost w T g cs W (encs ns)) :=
  (counts_any w.heap.size (.slice none 0 0) [] lb m c ns W (OwnB.nil 5 W _) h.2.2.size hl hm hn hns (by simp)).mono fun _ _ ⟨v1, he, ho, ha⟩ => ⟨v1, he, ho, h.app (OwnB.nil 5 W w.heap.size) hT ha, fun _ _ _ hb => ha.blk hb (by simp [Value.ownBlock])⟩
def HoldPost (w : World) (T g : Nat) (cs : Array Value) (W : World) (ys : List UInt8) (e : Ending) (w1 : World) : Prop := ∃ v, e = .returned v ∧ OwnB 5 w1 w.heap.size v ys ∧ Kept w T g cs none 0 [] w1 ∧ (∀ k t ds, 5 ≠ t → Blk W k t ds → Blk w1 k t ds)
theorem counts_hold {w W : World} {T g : Nat} {cs : Array Value} (v : Value) (xs : List UInt8) (lb m c : Nat) (ns : List Nat) (h : Kept w T g cs none 0 [] W) (hT : 5 ≠ T) (hv : OwnB 5 W w.heap.size v xs)
    (hl : Blk W lb 22 (ns.map uv).toArray) (hm : m = ns.length) (hn : ∀ n ∈ ns, n < 18446744073709551616) (hns : ns.length ≤ 1000) (hsz : xs.length ≤ 1099511627776) :
    Calls Try.prog 73 #[v, .slice (some ⟨lb, 0, none⟩) m c] W (HoldPost w T g cs W (xs ++ encs ns)) :=
  (counts_any w.heap.size v xs lb m c ns W hv h.2.2.size hl hm hn hns hsz).mono fun _ _ ⟨v1, he, ho, ha⟩ => ⟨v1, he, ho, h.app hv hT ha, fun _ _ _ ht hb => ha.blk hb (own_blk_ne hv hb ht)⟩
/-- one count, the argument's block just built -/
theorem counts_one {w W : World} {T g : Nat} {cs : Array Value} (v : Value) (xs : List UInt8) (lb : Nat) (m : Nat) (h : Kept w T g cs none 0 [] W) (hT : 5 ≠ T) (hv : OwnB 5 W w.heap.size v xs) (hlb : W.heap.size = lb)
    (hm : m < 18446744073709551616) (hsz : xs.length ≤ 1099511627776) :
    Calls Try.prog 73 #[v, .slice (some ⟨lb, 0, none⟩) 1 1] (W.alloc (.cells #[.int .u64 (m : Int)] 22)) (HoldPost w T g cs W (xs ++ enc m)) :=
  (counts_hold v xs lb 1 1 [m] (h.alloc _) hT (hv.alloc _) (Blk.new' W 22 lb _ hlb) rfl (by simpa using hm) (by simp) hsz).mono fun _ _ ⟨v1, he, ho, hk, hh⟩ =>
    ⟨v1, he, by simpa [encs] using ho, hk, fun k t ds ht hb => hh k t ds ht (hb.alloc _)⟩
theorem step_app_str {P : Program} {w : World} {ops : Array Oper} {o : Oper} {a : Act} {K : Act → World → Prop} {Q : Exit → Act → World → Prop} {E : Prop} (hgd : o.guard = none) (s x : Operand) (t u : TypeId)
    (ho : o.op = .call { callee := .builtin .append, args := #[s, x], argTypes := #[t, u] })
    (base : Nat) (e : TypeId) (hinfo : (P.info? e).map (fun i => (i.zero, i.size, i.bytes)) = some (some (.int .u8 0), 1, 1)) (ht : P.underlying t = some (.slice e)) (hu : P.underlying u = some .string)
    (v : Value) (xs : List UInt8) (hs : a.eval s = v) (hown : OwnB e w base v xs)
    (str : ByteArray) (hx : a.eval x = .string str) (hb : xs.length + str.size ≤ 140737488355328) (hbase : base ≤ w.heap.size)
    (h : ∀ v' w', OwnB e w' base v' (xs ++ str.data.toList) → w.grownBy w' v.ownBlock → K (a.put o.dst v') w') :
    if Region.wanted o (yielded ops a.tmps) = true then Oper.wp P o a w K Q else E := by
  obtain ⟨i, hi, hz, hs1, hby⟩ := info_parts hinfo
  obtain ⟨v', w', hr, h2, h3, _⟩ := Lib.run_append_own_string (P := P) w base t u o.type e i ht hu hi hz hs1 hby v xs.length (xs.map bv) hown str (by simp only [maxLen]; omega) hb hbase
  have hw : Region.wanted o (yielded ops a.tmps) = true := by simp [Region.wanted, hgd]
  rw [if_pos hw]
  unfold Oper.wp execOp
  simp only [ho, resolve, invoke, builtin, Sem.run_bind, Sem.run_pure, Result.andThen_ok, List.map_toArray, List.map_cons, List.map_nil, hs, hx, hr]
  refine h v' w' ?_ h3
  show w'.ownsRow base e 1 v' (xs ++ str.data.toList).length ((xs ++ str.data.toList).map bv)
  rw [List.length_append, List.map_append, Array.length_toList]
  exact h2
/-- what a Put ends with -/
def PutPost (w : World) (good : Prop) (bytes : List UInt8) (e : Ending) (w' : World) : Prop :=
  Below w.heap.size w w' ∧ ((good ∧ ∃ v, e = .returned (.tuple #[v, .int .i64 0]) ∧ OwnB 5 w' w.heap.size v bytes) ∨ (¬ good ∧ e = .returned (.tuple #[.slice none 0 0, .int .i64 173])))
/-- values as cells -/
def vcells (vs : List (Nat × Int)) : List Value := vs.flatMap fun v => [.int .u64 (v.1 : Int), .int .i64 v.2]
theorem vcells_len (vs : List (Nat × Int)) : (vcells vs).length = vs.length * 2 := by
  induction vs with
  | nil => rfl
  | cons v l ih =>
    have e : vcells (v :: l) = .int .u64 (v.1 : Int) :: .int .i64 v.2 :: vcells l := rfl
    rw [e]
    simp only [List.length_cons, ih]
    omega
theorem vcells_at (vs : List (Nat × Int)) : ∀ (k : Nat) (v : Nat × Int), vs[k]? = some v → (vcells vs)[k * 2]? = some (.int .u64 (v.1 : Int)) ∧ (vcells vs)[k * 2 + 1]? = some (.int .i64 v.2) := by
  induction vs with
  | nil => intro k v h; simp at h
  | cons x l ih =>
    intro k v h
    have e : vcells (x :: l) = .int .u64 (x.1 : Int) :: .int .i64 x.2 :: vcells l := rfl
    rw [e]
    cases k with
    | zero => simp at h; subst h; exact ⟨rfl, rfl⟩
    | succ k =>
      have := ih k v (by simpa using h)
      rw [show (k + 1) * 2 = k * 2 + 2 from by omega]
      exact this
abbrev RdV (w : World) (B : Nat) (A : Option Addr) (n : Nat) (vs : List (Nat × Int)) : Prop := Reads w B 2 A n (vcells vs)
theorem RdV.len {w : World} {B n : Nat} {A : Option Addr} {vs : List (Nat × Int)} (h : RdV w B A n vs) : vs.length = n := by
  have := h.1
  rw [vcells_len] at this
  omega
theorem RdV.at2 {w : World} {B n k : Nat} {A : Option Addr} {vs : List (Nat × Int)} (h : RdV w B A n vs) (hk : k < n) :
    ∃ b off v, A = some ⟨b, off, none⟩ ∧ b < B ∧ vs[k]? = some v ∧ w.cell? ⟨b, off + k * 2, none⟩ = some (.int .u64 (v.1 : Int)) ∧ w.cell? ⟨b, off + k * 2 + 1, none⟩ = some (.int .i64 v.2) := by
  obtain ⟨⟨b, off, spot⟩, e, hb, hc⟩ := h.2 (by omega)
  have hl := h.len
  obtain ⟨v, hv⟩ : ∃ v, vs[k]? = some v := ⟨_, List.getElem?_eq_getElem (by omega)⟩
  obtain ⟨v0, hv0⟩ : ∃ v, vs[0]? = some v := ⟨_, List.getElem?_eq_getElem (by omega)⟩
  have h0 := hc 0 _ (vcells_at vs 0 v0 hv0).1
  have hspot : spot = none := by simpa [Addr.add] using World.cell?_spot h0
  subst hspot
  have ad : ∀ j, (⟨b, off, none⟩ : Addr).add j = ⟨b, off + j, none⟩ := fun j => by unfold Addr.add; split <;> simp_all
  have h1 := hc _ _ (vcells_at vs k v hv).1
  have h2 := hc _ _ (vcells_at vs k v hv).2
  rw [ad] at h1 h2
  exact ⟨b, off, v, e, hb, hv, h1, h2⟩

def valB (v : Nat × Int) : List UInt8 := enc v.1 ++ if v.1 = 0 then enc (zig v.2) else []
def okV (vs : List (Nat × Int)) : Prop := ∀ v ∈ vs, v.1 = 0 ∨ v.2 = 0
def replyB (err : Int) (vs : List (Nat × Int)) (text : List UInt8) : List UInt8 := (enc (zig err) ++ [UInt8.ofNat vs.length] ++ vs.flatMap valB) ++ enc text.length ++ text

theorem valB_le (v : Nat × Int) : (valB v).length ≤ 20 := by
  have h1 := enc_le v.1
  have h2 := enc_le (zig v.2)
  unfold valB
  split <;> simp <;> omega
theorem vals_le (vs : List (Nat × Int)) : (vs.flatMap valB).length ≤ 20 * vs.length := by
  induction vs with
  | nil => simp
  | cons v l ih =>
    have := valB_le v
    simp only [List.flatMap_cons, List.length_append, List.length_cons]
    omega
theorem vals_take (vs : List (Nat × Int)) (k : Nat) (v : Nat × Int) (h : vs[k]? = some v) : (vs.take (k + 1)).flatMap valB = (vs.take k).flatMap valB ++ valB v := by
  rw [List.take_add_one, h]
  simp
theorem okV_take {vs : List (Nat × Int)} {k : Nat} {v : Nat × Int} (h : vs[k]? = some v) (ho : okV (vs.take k)) (hv : v.1 = 0 ∨ v.2 = 0) : okV (vs.take (k + 1)) := by
  intro u hu
  rw [List.take_add_one, h] at hu
  simp at hu
  rcases hu with hu | rfl
  · exact ho u (by simpa using hu)
  · exact hv
/-- may the reply be -/
def goodR (err : Int) (vs : List (Nat × Int)) (text : List UInt8) : Prop := vs.length ≤ 32 ∧ text.length ≤ 512 ∧ okV vs ∧ (replyB err vs text).length ≤ 1024
/-- in range -/
abbrev I64 (n : Int) : Prop := -9223372036854775808 ≤ n ∧ n ≤ 9223372036854775807

set_option maxRecDepth 20000 in
set_option maxHeartbeats 2000000 in
theorem putr_long (err : Int) (A : Option Addr) (n c : Nat) (s : ByteArray) (w : World) (h : 32 < n ∨ 512 < s.size) :
    Calls Try.prog 96 #[.agg #[.int .i64 err, .slice A n c, .string s]] w fun e w' => e = .returned (.tuple #[.slice none 0 0, .int .i64 173]) ∧ ∃ o, w.alloc o = w' := by
  by_cases h1 : 32 < n
  · have d : decide ((32 : Int) < (n : Int)) = true := by simp; omega
    clear h
    go_enter Try.func96, Try.ntmps96
    go_wp2
    go_ret2
    exact ⟨rfl, _, rfl⟩
  · have d : decide ((32 : Int) < (n : Int)) = false := by simp; omega
    have d2 : decide ((512 : Int) < (s.size : Int)) = true := by simp; omega
    clear h
    go_enter Try.func96, Try.ntmps96
    go_wp2
    go_ret2
    exact ⟨rfl, _, rfl⟩

set_option maxRecDepth 20000 in
set_option maxHeartbeats 4000000 in
theorem putr_main (err : Int) (A : Option Addr) (n c : Nat) (vs : List (Nat × Int)) (s : ByteArray) (w : World) (he : I64 err) (hr : RdV w w.heap.size A n vs) (hn : n ≤ 32) (ht : s.size ≤ 512)
    (hu : ∀ v ∈ vs, v.1 < 18446744073709551616 ∧ I64 v.2) :
    Calls Try.prog 96 #[.agg #[.int .i64 err, .slice A n c, .string s]] w (PutPost w (goodR err vs s.data.toList) (replyB err vs s.data.toList)) := by
  obtain ⟨x, HX⟩ : ∃ x : UInt8, Hid (x = UInt8.ofNat n) := ⟨_, rfl⟩
  have hx8 : (n : Int) = (x.toNat : Int) := by rw [HX.out]; simp only [UInt8.toNat_ofNat']; omega
  have HXN := Lib.hid hx8
  clear hx8
  have hK : Kept w 53 w.heap.size #[.int .i64 err, .slice A n c, .string s] none 0 [] (w.alloc (.cells #[.int .i64 err, .slice A n c, .string s] 53)) :=
    ⟨Blk.new w _ _, Reads.none_, (Below.refl _ _).alloc (Nat.le_refl _) _⟩
  have d : decide ((32 : Int) < (n : Int)) = false := by simp; omega
  have d2 : decide ((512 : Int) < (s.size : Int)) = false := by simp; omega
  have HE := Lib.hid he
  have HU := Lib.hid hu
  clear he hu
  go_enter Try.func96, Try.ntmps96
  go_upto_region 3 with fail
  generalize (w.alloc (.cells #[.int .i64 err, .slice A n c, .string s] 53)) = W at hK ⊢
  have HS : Hid (∀ w' : World, Kept w 53 w.heap.size #[.int .i64 err, .slice A n c, .string s] none 0 [] w' → w'.cell? ⟨w.heap.size, 0, none⟩ = some (.int .i64 err) ∧ w'.cell? ⟨w.heap.size, 1, none⟩ = some (.slice A n c) ∧ w'.cell? ⟨w.heap.size, 2, none⟩ = some (.string s)) :=
    Lib.hid fun w' h => ⟨h.1.cell 0, h.1.cell 1, h.1.cell 2⟩
  have hS0 := HS.out W hK
  have hz : zig err < 18446744073709551616 := zig_lt HE.out
  have hzz : ∀ y ∈ [zig err], y < 18446744073709551616 := by simpa using hz
  have HC1 := Lib.hid (counts_nil W.heap.size 1 1 [zig err] ((hK.alloc (.cells #[.int .u64 (zig err : Nat)] 22)).drew) (by decide) ((Blk.new' W 22 _ #[.int .u64 (zig err : Nat)] rfl).drew) rfl hzz (by simp))
  have HC2 := Lib.hid (counts_nil W.heap.size 1 1 [zig err] (((hK.alloc (.cells #[.int .u64 (zig err : Nat)] 22)).alloc (.cells #[.int .u8 (x.toNat : Int)] 5)).drew) (by decide) (((Blk.new' W 22 _ #[.int .u64 (zig err : Nat)] rfl).alloc (.cells #[.int .u8 (x.toNat : Int)] 5)).drew) rfl hzz (by simp))
  have HC3 := Lib.hid (counts_nil (W.heap.size + 1) 1 1 [zig err] (((hK.alloc (.cells #[.int .u8 (x.toNat : Int)] 5)).alloc (.cells #[.int .u64 (zig err : Nat)] 22)).drew) (by decide) ((Blk.new' (W.alloc (.cells #[.int .u8 (x.toNat : Int)] 5)) 22 (W.heap.size + 1) #[.int .u64 (zig err : Nat)] (by simp)).drew) rfl hzz (by simp))
  have B2 := Lib.hid (Blk.new' (W.alloc (.cells #[.int .u64 (zig err : Nat)] 22)) 5 (W.heap.size + 1) #[.int .u8 (x.toNat : Int)] (by simp)).drew
  have B3 := Lib.hid ((Blk.new' W 5 _ #[.int .u8 (x.toNat : Int)] rfl).alloc (.cells #[.int .u64 (zig err : Nat)] 22)).drew
  have ele : (encs [zig err]).length ≤ 10 := encs_le [zig err]
  have ezz : Hid (encs [zig err] ++ [x] = enc (zig err) ++ [x]) := Lib.hid (by simp [encs])
  have hw8 : IntKind.u8.wrap (n : Int) = (x.toNat : Int) := by have := HXN.out; have := u8_lt x; rw [IntKind.wrap_u8]; omega
  clear hz hzz hK
  go_cut [4] (fun v wx => OwnB 5 wx w.heap.size v (enc (zig err) ++ [x]) ∧ Kept w 53 w.heap.size #[.int .i64 err, .slice A n c, .string s] none 0 [] wx)
  case first =>
    go_region_held3 (fun w' => w'.cell? ⟨w.heap.size, 0, none⟩ = some (.int .i64 err) ∧ w'.cell? ⟨w.heap.size, 1, none⟩ = some (.slice A n c) ∧ w'.cell? ⟨w.heap.size, 2, none⟩ = some (.string s))
      (first | go_keep | exact HS.out _ hk2 | exact HS.out _ hk1)
      (first | (refine step_app rfl (.tmp 21) (.tmp 26) 37 rfl w.heap.size 5 info5 Try.underlying37 _ (encs [zig err]) rfl (hown1.alloc _) _ _ _ _ [x] rfl (Reads.built w1 5 [bv x]) (by simp; omega) (by have := hk1.2.2.size; simp; omega) ?_; intro v2 w2 hown2 happ2; have hk2 := (hk1.alloc _).app (hown1.alloc _) (by decide) happ2) | (refine step_app rfl (.tmp 21) (.tmp 26) 37 rfl w.heap.size 5 info5 Try.underlying37 _ (encs [zig err]) rfl hown1 _ _ _ _ [x] rfl (Reads.of_blk (cs := [bv x]) (hold1 _ _ _ B2.out)) (by simp; omega) hk1.2.2.size ?_; intro v2 w2 hown2 happ2; have hk2 := hk1.app hown1 (by decide) happ2) | (refine step_app rfl (.tmp 21) (.tmp 26) 37 rfl w.heap.size 5 info5 Try.underlying37 _ (encs [zig err]) rfl hown1 _ _ _ _ [x] rfl (Reads.of_blk (cs := [bv x]) (hold1 _ _ _ B3.out)) (by simp; omega) hk1.2.2.size ?_; intro v2 w2 hown2 happ2; have hk2 := hk1.app hown1 (by decide) happ2) | (go_at_call 74; ((with_reducible refine (zig_any err _ HE.out).mono ?_); rintro e w1 ⟨rfl, rfl⟩)) | (go_at_call 73; ((with_reducible refine HC1.out.mono ?_); rintro e w1 ⟨v1, rfl, hown1, hk1, hold1⟩)) | (go_at_call 73; ((with_reducible refine HC2.out.mono ?_); rintro e w1 ⟨v1, rfl, hown1, hk1, hold1⟩)) | (go_at_call 73; ((with_reducible refine HC3.out.mono ?_); rintro e w1 ⟨v1, rfl, hown1, hk1, hold1⟩)))
    all_goals (go_wp2_with fail; go_meet; exact ⟨by rw [← ezz.out]; exact hown2, hk2⟩)
  case rest =>
    obtain ⟨hown, hk⟩ := hcut
    clear HC1 HC2 HC3 B2 B3 ele ezz hw8 hS0
    obtain ⟨s0, s1, s2⟩ := HS.out _ hk
    obtain ⟨pre, HPRE⟩ : ∃ pre : List UInt8, Hid (pre = enc (zig err) ++ [x]) := ⟨_, rfl⟩
    rw [← HPRE.out] at hown
    have hpl : pre.length ≤ 11 := by rw [HPRE.out]; have := enc_le (zig err); simp; omega
    go_wp2_with fail
    clear s0 s1 s2
    go_loopw [4, 6, 31] (fun u _ i wr => ∃ k : Nat, k ≤ n ∧ i = .int .i64 k ∧ OwnB 5 wr w.heap.size u (pre ++ (vs.take k).flatMap valB) ∧ Kept w 53 w.heap.size #[.int .i64 err, .slice A n c, .string s] none 0 [] wr ∧ Hid (okV (vs.take k))) (fun _ _ i _ => n - (intOf i).toNat)
    case atStart => exact ⟨0, Nat.zero_le _, rfl, by simpa using hown, hk, Lib.hid (by intro v hv; simp at hv)⟩
    case round =>
      obtain ⟨k, hkn, rfl, hown, hk, HOK⟩ := hrel
      by_cases hlt : k < n
      · obtain ⟨b, off, v, rfl, hb, hv, e1, e2⟩ := RdV.at2 (Reads.below hr hk.2.2) hlt
        have HV := Lib.hid hv
        obtain ⟨hv1, hv2⟩ := HU.out v (List.mem_of_getElem? hv)
        have HV1 := Lib.hid hv1
        have HV2 := Lib.hid hv2
        have hxl : (pre ++ (vs.take k).flatMap valB).length ≤ 1000 := by
          have := vals_le (vs.take k)
          have e := RdV.len hr
          rw [List.length_take] at this
          rw [List.length_append]
          omega
        have HXL := Lib.hid hxl
        have HTK := Lib.hid (vals_take vs k v hv)
        clear hv hv1 hv2 hxl
        go_upto_region 7 with fail
        have hbv := Blk.new wr 68 #[.int .u64 (v.1 : Int), .int .i64 v.2]
        have hk1 := hk.alloc (.cells #[.int .u64 (v.1 : Int), .int .i64 v.2] 68)
        have hown1 := hown.alloc (.cells #[.int .u64 (v.1 : Int), .int .i64 v.2] 68)
        have hvlt := hbv.lt
        generalize wr.alloc (.cells #[.int .u64 (v.1 : Int), .int .i64 v.2] 68) = W1 at hbv hk1 hown1 hvlt ⊢
        clear hk hown e1 e2
        have e1 := hbv.cell 0
        simp at e1
        go_wp2_with fail
        have HC := Lib.hid (counts_one _ _ W1.heap.size v.1 hk1 (by decide) hown1 rfl HV1.out (Nat.le_trans HXL.out (by omega)))
        refine HC.out.mono ?_
        rintro e w1 ⟨v1, rfl, hown2, hk2, hh⟩
        have hbv2 := hh _ _ _ (by decide) hbv
        clear HC hh hbv hk1 hown1 e1
        have e1 := hbv2.cell 0
        have e2 := hbv2.cell 1
        simp at e1 e2
        by_cases h0 : v.1 = 0
        · have t0 : ((v.1 : Int) == 0) = true := by rw [beq_iff_eq]; omega
          have HVB : Hid (valB v = enc v.1 ++ enc (zig v.2)) := Lib.hid (by unfold valB; rw [if_pos h0])
          have HOK2 : Hid (okV (vs.take (k + 1))) := Lib.hid (okV_take HV.out HOK.out (.inl h0))
          clear h0
          go_wp2_with (go_at_call 74; ((with_reducible refine (zig_any v.2 _ HV2.out).mono ?_); rintro e w2 ⟨rfl, rfl⟩))
          have HC := Lib.hid (counts_one _ _ w1.heap.size (zig v.2) hk2 (by decide) hown2 rfl (zig_lt HV2.out) (by have := HXL.out; have h3 := enc_le v.1; rw [List.length_append]; omega))
          refine HC.out.mono ?_
          rintro e w3 ⟨v3, rfl, hown3, hk3, hh⟩
          clear HC hh
          go_wp2_with fail
          go_roundw
          case rel => exact ⟨k + 1, by omega, by go_num, by rw [HTK.out, HVB.out]; simpa using hown3, hk3, HOK2⟩
          case measure => simp [intOf]; omega
        · have t0 : ((v.1 : Int) == 0) = false := by rw [beq_eq_false_iff_ne]; omega
          by_cases h2 : v.2 = 0
          · have t1 : (v.2 != 0) = false := by rw [bne_eq_false_iff_eq]; exact h2
            have HVB : Hid (valB v = enc v.1) := Lib.hid (by unfold valB; rw [if_neg h0]; simp)
            have HOK2 : Hid (okV (vs.take (k + 1))) := Lib.hid (okV_take HV.out HOK.out (.inr h2))
            clear h0 h2
            go_wp2_with fail
            go_roundw
            case rel => exact ⟨k + 1, by omega, by go_num, by rw [HTK.out, HVB.out]; simpa using hown2, hk2, HOK2⟩
            case measure => simp [intOf]; omega
          · have t1 : (v.2 != 0) = true := by rw [bne_iff_ne]; exact h2
            have hbad : ¬ okV vs := fun h => by
              rcases h v (List.mem_of_getElem? HV.out) with q | q
              · exact h0 q
              · exact h2 q
            have HB := Lib.hid hbad
            clear h0 h2 hbad
            have hbw := hk2.2.2
            go_wp2_with fail
            go_ret2
            exact ⟨hbw, .inr ⟨fun h => HB.out h.2.2.1, rfl⟩⟩
      · go_wp2_with fail
        obtain rfl : k = n := by omega
        have e0 := RdV.len hr
        have HVN : Hid (vs.take k = vs) := Lib.hid (List.take_of_length_le (by omega))
        have hOK := HOK.out
        rw [HVN.out] at hown hOK
        have HOK2 := Lib.hid hOK
        have hxl : (pre ++ vs.flatMap valB).length ≤ 1000 := by
          have := vals_le vs
          rw [List.length_append]
          omega
        have HXL := Lib.hid hxl
        have HLV := Lib.hid e0
        clear hOK hxl HOK e0
        generalize HBB : pre ++ vs.flatMap valB = bb at hown HXL
        have HBBH := Lib.hid HBB
        clear HBB
        have hS0 := HS.out _ hk
        have HCT := Lib.hid (counts_one (w := w) _ bb wr.heap.size s.size hk (by decide) hown rfl (by omega) (by have := HXL.out; omega))
        have hC2 : Calls Try.prog 73 #[u4, .slice (some ⟨wr.heap.size, 0, none⟩) 1 1] ((wr.alloc (.cells #[.int .u64 (s.size : Int)] 22)).drew) (HoldPost w 53 w.heap.size #[.int .i64 err, .slice A k c, .string s] wr (bb ++ enc s.size)) :=
          (counts_hold (w := w) _ bb wr.heap.size 1 1 [s.size] ((hk.alloc _).drew) (by decide) ((hown.alloc _).drew) ((Blk.new' wr 22 _ #[.int .u64 (s.size : Int)] rfl).drew) rfl (by simp; omega) (by simp) (by have := HXL.out; omega)).mono fun _ _ ⟨v1, he, ho, hk, hh⟩ =>
            ⟨v1, he, by simpa [encs] using ho, hk, fun _ _ _ ht hb => hh _ _ _ ht (hb.alloc _).drew⟩
        have HC2 := Lib.hid hC2
        clear hC2 HCT
        have hsw : IntKind.u64.wrap (s.size : Int) = (s.size : Int) := by rw [IntKind.wrap_u64]; omega
        go_cut [4] (fun v wx => OwnB 5 wx w.heap.size v (bb ++ enc s.size ++ s.data.toList) ∧ Kept w 53 w.heap.size #[.int .i64 err, .slice A k c, .string s] none 0 [] wx)
        case first =>
          go_region_held3 (fun w' => w'.cell? ⟨w.heap.size, 0, none⟩ = some (.int .i64 err) ∧ w'.cell? ⟨w.heap.size, 1, none⟩ = some (.slice A k c) ∧ w'.cell? ⟨w.heap.size, 2, none⟩ = some (.string s))
            (first | go_keep | exact HS.out _ hk2 | exact HS.out _ hk1)
            (first | (refine step_app_str rfl (.tmp 61) (.tmp 63) 37 9 rfl w.heap.size 5 info5 Try.underlying37 Try.underlying9 _ (bb ++ enc s.size) rfl hown1 s rfl (by have := HXL.out; have := enc_le s.size; simp; omega) hk1.2.2.size ?_; intro v2 w2 hown2 happ2; have hk2 := hk1.grw hown1 (by decide) happ2) | (go_at_call 73; ((with_reducible refine HC2.out.mono ?_); rintro e w1 ⟨v1, rfl, hown1, hk1, hh1⟩)))
          all_goals (go_wp2_with fail; go_meet; exact ⟨hown2, hk2⟩)
        case rest =>
          obtain ⟨hown, hk⟩ := hcut
          have hrb : bb ++ enc s.size ++ s.data.toList = replyB err vs s.data.toList := by
            rw [← HBBH.out, HPRE.out, HX.out, ← HLV.out]
            have : s.data.toList.length = s.size := by rw [Array.length_toList]; rfl
            simp [replyB, this]
          rw [hrb] at hown
          generalize hR : replyB err vs s.data.toList = R at hown
          have HR := Lib.hid hR
          have HTL : Hid (s.data.toList.length = s.size) := Lib.hid (by rw [Array.length_toList]; rfl)
          have hbw := hk.2.2
          obtain ⟨A4, c4, rfl, hc4⟩ := hown.form
          clear hR hrb hc4 HC2 hS0 hsw
          by_cases h1024 : R.length ≤ 1024
          · have d3 : decide ((1024 : Int) < (R.length : Int)) = false := by simp; omega
            have HG : Hid (goodR err vs s.data.toList) := Lib.hid ⟨by rw [HLV.out]; exact hn, by rw [HTL.out]; exact ht, HOK2.out, by rw [HR.out]; exact h1024⟩
            go_wp2_with fail
            go_ret2
            exact ⟨hbw, .inl ⟨HG.out, _, rfl, by rw [HR.out]; exact hown⟩⟩
          · have d3 : decide ((1024 : Int) < (R.length : Int)) = true := by simp; omega
            have HG : Hid (¬ goodR err vs s.data.toList) := Lib.hid fun h => by have := h.2.2.2; rw [HR.out] at this; omega
            go_wp2_with fail
            go_ret2
            exact ⟨hbw, .inr ⟨HG.out, rfl⟩⟩

/-- PutReply, whatever the reply -/
theorem putr_any (err : Int) (A : Option Addr) (n c : Nat) (vs : List (Nat × Int)) (s : ByteArray) (w : World) (he : I64 err) (hr : RdV w w.heap.size A n vs)
    (hu : ∀ v ∈ vs, v.1 < 18446744073709551616 ∧ I64 v.2) :
    Calls Try.prog 96 #[.agg #[.int .i64 err, .slice A n c, .string s]] w (PutPost w (goodR err vs s.data.toList) (replyB err vs s.data.toList)) := by
  have hl := RdV.len hr
  have htl : s.data.toList.length = s.size := by rw [Array.length_toList]; rfl
  by_cases h : 32 < n ∨ 512 < s.size
  · refine (putr_long err A n c s w h).mono ?_
    rintro e w1 ⟨rfl, o, rfl⟩
    refine ⟨(Below.refl _ _).alloc (Nat.le_refl _) _, .inr ⟨fun g => ?_, rfl⟩⟩
    have h1 := g.1
    have h2 := g.2.1
    omega
  · exact putr_main err A n c vs s w he hr (by omega) (by omega) hu
end Go.Proofs.Ytjhkfpemcplaaaa
namespace Go.Proofs.Ytjhkfpemcplaaaa
open Go.RowKit

/-- the number of a count -/
def unzig (n : Nat) : Int := if n % 2 = 0 then ((n / 2 : Nat) : Int) else -((n / 2 : Nat) : Int) - 1
def SgnPost (w : World) (T B g : Nat) (l : List UInt8) (b : Bool) (e : Ending) (w' : World) : Prop :=
  e = .returned (.int .i64 (unzig (cnt l b).1)) ∧ PartIs w' T B g (cnt l b).2.1 (cnt l b).2.2 ∧ w.grownBy w' (some g)
set_option maxRecDepth 20000 in
theorem sgn_any (B g : Nat) (l : List UInt8) (b : Bool) (w : World) (h : PartIs w 151 B g l b) : Calls Try.prog 94 #[.pointer (some ⟨g, 0, none⟩)] w (SgnPost w 151 B g l b) := by
  have HC := Lib.hid (cnt_any B g l b w h)
  have hlt := cnt_lt l b
  unfold CntPost at HC
  unfold SgnPost
  generalize cnt l b = r at HC hlt ⊢
  obtain ⟨m, l', b'⟩ := r
  dsimp only at HC hlt ⊢
  clear h
  by_cases h2 : m % 2 = 0
  · have d : (((m : Int) % 2) == 0) = true := by rw [beq_iff_eq]; omega
    have e1 : unzig m = (m : Int) / 2 := by unfold unzig; rw [if_pos h2]; omega
    rw [e1]
    clear h2 e1
    go_enter Try.func94, Try.ntmps94
    go_wp2_with fail
    refine HC.out.mono ?_
    rintro e w1 ⟨rfl, hp1, hg1⟩
    clear HC
    go_wp2
    go_ret
    exact ⟨ret_int (by simp), hp1, hg1⟩
  · have d : (((m : Int) % 2) == 0) = false := by rw [beq_eq_false_iff_ne]; omega
    have e1 : unzig m = -((m : Int) / 2) - 1 := by unfold unzig; rw [if_neg h2]; omega
    rw [e1]
    clear h2 e1
    go_enter Try.func94, Try.ntmps94
    go_wp2_with fail
    refine HC.out.mono ?_
    rintro e w1 ⟨rfl, hp1, hg1⟩
    clear HC
    go_wp2
    go_ret
    exact ⟨ret_int (by simp), hp1, hg1⟩
set_option maxRecDepth 20000 in
theorem rsgn_any (B g : Nat) (l : List UInt8) (b : Bool) (w : World) (h : PartIs w 110 B g l b) : Calls Try.prog 61 #[.pointer (some ⟨g, 0, none⟩)] w (SgnPost w 110 B g l b) := by
  have HC := Lib.hid (rcnt_any B g l b w h)
  have hlt := cnt_lt l b
  unfold CntPost at HC
  unfold SgnPost
  generalize cnt l b = r at HC hlt ⊢
  obtain ⟨m, l', b'⟩ := r
  dsimp only at HC hlt ⊢
  clear h
  by_cases h2 : m % 2 = 0
  · have d : (((m : Int) % 2) == 0) = true := by rw [beq_iff_eq]; omega
    have e1 : unzig m = (m : Int) / 2 := by unfold unzig; rw [if_pos h2]; omega
    rw [e1]
    clear h2 e1
    go_enter Try.func61, Try.ntmps61
    go_wp2_with fail
    refine HC.out.mono ?_
    rintro e w1 ⟨rfl, hp1, hg1⟩
    clear HC
    go_wp2
    go_ret
    exact ⟨ret_int (by simp), hp1, hg1⟩
  · have d : (((m : Int) % 2) == 0) = false := by rw [beq_eq_false_iff_ne]; omega
    have e1 : unzig m = -((m : Int) / 2) - 1 := by unfold unzig; rw [if_neg h2]; omega
    rw [e1]
    clear h2 e1
    go_enter Try.func61, Try.ntmps61
    go_wp2_with fail
    refine HC.out.mono ?_
    rintro e w1 ⟨rfl, hp1, hg1⟩
    clear HC
    go_wp2
    go_ret
    exact ⟨ret_int (by simp), hp1, hg1⟩
end Go.Proofs.Ytjhkfpemcplaaaa
namespace Go.Proofs.Ytjhkfpemcplaaaa
open Go.RowKit

/-- a text as the program reads it, what is left, whether something was bad -/
def txtP (l : List UInt8) (b : Bool) : List UInt8 × List UInt8 × Bool :=
  if 512 < (cnt l b).1 then ([], (cnt l b).2.1, true)
  else if (cnt l b).1 ≤ (cnt l b).2.1.length then ((cnt l b).2.1.take (cnt l b).1, (cnt l b).2.1.drop (cnt l b).1, (cnt l b).2.2)
  else ([], [], true)
/-- as the document does -/
def txtD (l : List UInt8) (b : Bool) : List UInt8 × List UInt8 × Bool :=
  if (cnt l b).2.2 = true ∨ 512 < (cnt l b).1 ∨ (cnt l b).2.1.length < (cnt l b).1 then ([], (cnt l b).2.1, true)
  else ((cnt l b).2.1.take (cnt l b).1, (cnt l b).2.1.drop (cnt l b).1, false)
def TxtPost (w : World) (T B g : Nat) (r : List UInt8 × List UInt8 × Bool) (e : Ending) (w' : World) : Prop :=
  e = .returned (.string ⟨r.1.toArray⟩) ∧ PartIs w' T B g r.2.1 r.2.2 ∧ w.grownBy w' (some g)

set_option maxRecDepth 20000 in
theorem txt_any (B g : Nat) (l : List UInt8) (b : Bool) (w : World) (h : PartIs w 151 B g l b) : Calls Try.prog 95 #[.pointer (some ⟨g, 0, none⟩)] w (TxtPost w 151 B g (txtP l b)) := by
  have HC := Lib.hid (cnt_any B g l b w h)
  have hlt := cnt_lt l b
  unfold CntPost at HC
  unfold TxtPost txtP
  generalize cnt l b = r at HC hlt ⊢
  obtain ⟨m, l', b'⟩ := r
  dsimp only at HC hlt ⊢
  clear h
  by_cases h5 : 512 < m
  · rw [if_pos h5]
    have d : decide ((512 : Int) < (m : Int)) = true := by simp; omega
    go_enter Try.func95, Try.ntmps95
    go_wp2_with fail
    refine HC.out.mono ?_
    rintro e w1 ⟨rfl, hp1, hg1⟩
    clear HC
    obtain ⟨c1, f1⟩ := hp1.cells
    have HP := Lib.hid (And.intro hp1.setBad (only_setCell (p := ⟨g, 1, none⟩) hg1 (.inl rfl) (.bool true)))
    clear hp1 hg1
    go_wp2
    go_ret
    exact ⟨rfl, HP.out⟩
  · rw [if_neg h5]
    have d : decide ((512 : Int) < (m : Int)) = false := by simp; omega
    by_cases hm : m ≤ l'.length
    · rw [if_pos hm]
      go_enter Try.func95, Try.ntmps95
      go_wp2_with fail
      refine HC.out.mono ?_
      rintro e w1 ⟨rfl, hp1, hg1⟩
      clear HC
      have hk := Lib.hid (take_ok B g m l' b' w1 hp1 hm)
      clear hp1
      go_wp2_with fail
      refine hk.out.mono ?_
      rintro e w2 ⟨A, c, rfl, -, hr, hp, hg⟩
      have HP := Lib.hid (And.intro hp (hg1.trans hg))
      have cv := run_string_of (P := Try.prog) (c := c) w2 37 9 5 hr Try.underlying37 Try.underlying5 Try.underlying9
      clear hp hk hg hg1 hr
      go_wp2
      go_ret
      exact ⟨rfl, HP.out⟩
    · rw [if_neg hm]
      go_enter Try.func95, Try.ntmps95
      go_wp2_with fail
      refine HC.out.mono ?_
      rintro e w1 ⟨rfl, hp1, hg1⟩
      clear HC
      have hk := Lib.hid (take_bad B g m l' b' w1 hp1 (by omega))
      clear hp1
      go_wp2_with fail
      refine hk.out.mono ?_
      rintro e w2 ⟨A, c, rfl, -, hr, hp, hg⟩
      have HP := Lib.hid (And.intro hp (hg1.trans hg))
      have cv := run_string_of (P := Try.prog) (c := c) w2 37 9 5 hr Try.underlying37 Try.underlying5 Try.underlying9
      clear hp hk hg hg1 hr
      go_wp2
      go_ret
      exact ⟨rfl, HP.out⟩

set_option maxRecDepth 20000 in
theorem done_any (B g : Nat) (l : List UInt8) (b : Bool) (w : World) (h : PartIs w 151 B g l b) : Calls Try.prog 97 #[.pointer (some ⟨g, 0, none⟩)] w fun e w' => e = .returned (.bool (!b && l.isEmpty)) ∧ ∃ k, w' = w.drewN k := by
  obtain ⟨h1, h2, A, c, hb, hr, hc⟩ := h
  have c0 := hb.cell 0
  have c1 := hb.cell 1
  simp at c0 c1
  cases b
  · have e : (!false && l.isEmpty) = decide ((l.length : Int) = 0) := by cases l <;> simp <;> omega
    rw [e]
    go_enter Try.func97, Try.ntmps97
    go_wp2
    go_ret
    exact ⟨ret_bool (by rw [Bool.eq_iff_iff]; simp), 0, rfl⟩
  · have e : (!true && l.isEmpty) = false := by simp
    rw [e]
    go_enter Try.func97, Try.ntmps97
    go_wp2
    go_ret
    exact ⟨rfl, 0, rfl⟩
theorem take_endT {T B g n c c' : Nat} {l : List UInt8} {b : Bool} {w : World} {A A' : Option Addr} (h1 : B ≤ g) (h2 : l.length ≤ 9223372036854775807) (hb : Blk w g T #[.slice A l.length c, .bool b])
    (hr : RdB w B A l.length l) (hc : l.length ≤ c) (hn : n ≤ l.length) (hA : A' = if c = n then A else A.map (·.add n)) (hc' : c' = c - n) :
    TakePost w T B g n (l.take n) (l.drop n) b (.returned (.slice A n c)) (w.setCell ⟨g, 0, none⟩ (.slice A' (l.length - n) c')) := by
  have hcut := Reads.cut hr hn hc
  have hcut' : RdB w B A' (l.drop n).length (l.drop n) := by
    rw [hA, List.length_drop]
    show Reads w B 1 _ _ ((l.drop n).map bv)
    rw [List.map_drop]
    simpa using hcut
  have hne : ∀ B', B' ≤ g → B' ≤ (⟨g, 0, none⟩ : Addr).block := fun _ h => h
  have htake : RdB w B A n (l.take n) := by
    refine ⟨by simp; omega, fun h0 => ?_⟩
    obtain ⟨ad, e, hbk, hcell⟩ := hr.2 (by omega)
    refine ⟨ad, e, hbk, fun j u hu => hcell j u ?_⟩
    rw [List.map_take, List.getElem?_take] at hu
    split at hu
    · exact hu
    · cases hu
  refine ⟨A, c, rfl, by simp; omega, htake.setCell (hne B h1) _, ⟨h1, by simp; omega, A', c', ?_, hcut'.setCell (hne B h1) _, by simp; omega⟩, only_setCell (p := ⟨g, 0, none⟩) (World.grownBy.refl w _) (.inl rfl) _⟩
  have h3 := hb.set_ 0 (.slice A' (l.length - n) c')
  rw [List.length_drop]
  simpa using h3

set_option maxRecDepth 20000 in
theorem rtxt_any (B g : Nat) (l : List UInt8) (b : Bool) (w : World) (h : PartIs w 110 B g l b) : Calls Try.prog 62 #[.pointer (some ⟨g, 0, none⟩)] w (TxtPost w 110 B g (txtD l b)) := by
  have HC := Lib.hid (rcnt_any B g l b w h)
  have hlt := cnt_lt l b
  unfold CntPost at HC
  unfold TxtPost txtD
  generalize cnt l b = r at HC hlt ⊢
  obtain ⟨m, l', b'⟩ := r
  dsimp only at HC hlt ⊢
  clear h
  by_cases h5 : b' = true ∨ 512 < m ∨ l'.length < m
  · rw [if_pos h5]
    go_enter Try.func62, Try.ntmps62
    go_wp2_with fail
    refine HC.out.mono ?_
    rintro e w1 ⟨rfl, hp1, hg1⟩
    clear HC
    obtain ⟨h1, h2, A, c, hb, hr, hc⟩ := id hp1
    have c0 := hb.cell 0
    have c1 := hb.cell 1
    have f1 := hb.frozen 1
    simp at c0 c1
    have HP := Lib.hid (And.intro hp1.setBad (only_setCell (p := ⟨g, 1, none⟩) hg1 (.inl rfl) (.bool true)))
    have hl : IntKind.u64.wrap (l'.length : Int) = (l'.length : Int) := by rw [IntKind.wrap_u64]; omega
    clear hp1 hg1 hb hr hc
    cases b'
    · by_cases h6 : 512 < m
      · have d : decide ((512 : Int) < (m : Int)) = true := by simp; omega
        clear h5
        go_wp2
        go_ret
        exact ⟨rfl, HP.out⟩
      · have h7 : l'.length < m := by rcases h5 with h5 | h5 | h5 <;> first | exact absurd h5 (by decide) | omega
        have d : decide ((512 : Int) < (m : Int)) = false := by simp; omega
        have d2 : decide ((l'.length : Int) < (m : Int)) = true := by simp; omega
        clear h5
        go_wp2
        go_ret
        exact ⟨rfl, HP.out⟩
    · clear h5
      go_wp2
      go_ret
      exact ⟨rfl, HP.out⟩
  · rw [if_neg h5]
    obtain ⟨e1, e2, e3⟩ : b' = false ∧ m ≤ 512 ∧ m ≤ l'.length := by
      refine ⟨by cases b' <;> simp_all, by omega, by omega⟩
    subst e1
    clear h5
    go_enter Try.func62, Try.ntmps62
    go_wp2_with fail
    refine HC.out.mono ?_
    rintro e w1 ⟨rfl, hp1, hg1⟩
    clear HC
    obtain ⟨h1, h2, A, c, hb, hr, hc⟩ := hp1
    have c0 := hb.cell 0
    have c1 := hb.cell 1
    have f0 := hb.frozen 0
    have f1 := hb.frozen 1
    simp at c0 c1
    have hl : IntKind.u64.wrap (l'.length : Int) = (l'.length : Int) := by rw [IntKind.wrap_u64]; omega
    have d : decide ((512 : Int) < (m : Int)) = false := by simp; omega
    have d2 : decide ((l'.length : Int) < (m : Int)) = false := by simp; omega
    have hrt : RdB w1 B A m (l'.take m) := by
      refine ⟨by simp; omega, fun h0 => ?_⟩
      obtain ⟨ad, e, hbk, hcell⟩ := hr.2 (by omega)
      refine ⟨ad, e, hbk, fun j u hu => hcell j u ?_⟩
      rw [List.map_take, List.getElem?_take] at hu
      split at hu
      · exact hu
      · cases hu
    have cv := run_string_of (P := Try.prog) (c := c) w1 37 9 5 hrt Try.underlying37 Try.underlying5 Try.underlying9
    have hk : Hid (∀ A' c', (A' = if c = m then A else A.map (·.add m)) → c' = c - m → TakePost w1 110 B g m (l'.take m) (l'.drop m) false (.returned (.slice A m c)) (w1.setCell ⟨g, 0, none⟩ (.slice A' (l'.length - m) c'))) :=
      Lib.hid fun _ _ e1 e2 => take_endT h1 h2 hb hr hc e3 e1 e2
    clear hrt hr hb
    by_cases hcm : c = m
    · subst hcm
      have h3 := Lib.hid (hk.out A 0 (by simp) (by simp))
      clear hk
      go_wp2
      go_ret
      obtain ⟨A2, c2, -, -, -, hp, hg⟩ := h3.out
      rw [show l'.length - c = 0 from by omega] at hp hg
      exact ⟨rfl, hp, hg1.trans hg⟩
    · have h3 := Lib.hid (hk.out (A.map (·.add m)) (c - m) (by rw [if_neg hcm]) rfl)
      clear hk
      go_wp2
      go_ret
      obtain ⟨A2, c2, -, -, -, hp, hg⟩ := h3.out
      exact ⟨rfl, hp, hg1.trans hg⟩
end Go.Proofs.Ytjhkfpemcplaaaa
namespace Go.Proofs.Ytjhkfpemcplaaaa
open Go.RowKit

/-- reader R (type T), the answer's block G and the result's block G0 (type U), a row of elements E of the call's own -/
structure GS (w : World) (T U E S R G G0 : Nat) (l : List UInt8) (b : Bool) (cs zs : Array Value) (V : Value) (n : Nat) (xs : List Value) (wr : World) : Prop where
  part : PartIs wr T w.heap.size R l b
  main : Blk wr G U cs
  res : Blk wr G0 U zs
  own : wr.ownsRow w.heap.size E S V n xs
  below : Below w.heap.size w wr
  hG : w.heap.size ≤ G
  hG0 : w.heap.size ≤ G0
  ne : G0 ≠ G

section
variable {w wr w' : World} {T U E S R G G0 n : Nat} {l : List UInt8} {b : Bool} {cs zs : Array Value} {V : Value} {xs : List Value}
theorem PartIs.blk {w : World} {T B g : Nat} {l : List UInt8} {b : Bool} (h : PartIs w T B g l b) : ∃ cs, Blk w g T cs := by
  obtain ⟨_, _, A, c, hb, _⟩ := h
  exact ⟨_, hb⟩
theorem GS.call (h : GS w T U E S R G G0 l b cs zs V n xs wr) (hTU : T ≠ U) (hTE : T ≠ E) {l' : List UInt8} {b' : Bool} (hp : PartIs w' T w.heap.size R l' b') (hg : wr.grownBy w' (some R)) :
    GS w T U E S R G G0 l' b' cs zs V n xs w' := by
  obtain ⟨c0, hc0⟩ := h.part.blk
  have hR := h.part.1
  refine ⟨hp, h.main.grown hg ?_, h.res.grown hg ?_, h.own.kept hg (.inr (own_blk_ne h.own hc0 hTE.symm)), h.below.grown hg h.below.size (fun k hk => by injection hk with hk; omega), h.hG, h.hG0, h.ne⟩
  · intro e; injection e with e; exact Blk.ne_ h.main hc0 hTU.symm e
  · intro e; injection e with e; exact Blk.ne_ h.res hc0 hTU.symm e
theorem GS.grown0 (h : GS w T U E S R G G0 l b cs zs V n xs wr) (hg : wr.grownBy w' none) : GS w T U E S R G G0 l b cs zs V n xs w' :=
  ⟨h.part.grown hg (fun k hk => by cases hk) (by simp), h.main.grown hg (by simp), h.res.grown hg (by simp), h.own.kept hg (by cases V.ownBlock <;> simp), h.below.grown hg h.below.size (fun k hk => by cases hk), h.hG, h.hG0, h.ne⟩
theorem GS.alloc (h : GS w T U E S R G G0 l b cs zs V n xs wr) (o : Obj) : GS w T U E S R G G0 l b cs zs V n xs (wr.alloc o) := h.grown0 (World.grownBy_alloc wr o none)
theorem GS.drew (h : GS w T U E S R G G0 l b cs zs V n xs wr) : GS w T U E S R G G0 l b cs zs V n xs wr.drew := h.grown0 (only_drew (World.grownBy.refl wr none))
theorem GS.drewN (h : GS w T U E S R G G0 l b cs zs V n xs wr) (k : Nat) : GS w T U E S R G G0 l b cs zs V n xs (wr.drewN k) := h.grown0 (only_drewN (World.grownBy.refl wr none) k)
theorem GS.later (h : GS w T U E S R G G0 l b cs zs V n xs wr) (hb : Below wr.heap.size wr w') : GS w T U E S R G G0 l b cs zs V n xs w' := h.grown0 (only_of_below hb none)
theorem GS.app (h : GS w T U E S R G G0 l b cs zs V n xs wr) (hTE : T ≠ E) (hUE : U ≠ E) {V' : Value} {n' : Nat} {xs' : List Value} (hg : wr.grownBy w' V.ownBlock) (ho : w'.ownsRow w.heap.size E S V' n' xs') :
    GS w T U E S R G G0 l b cs zs V' n' xs' w' := by
  obtain ⟨c0, hc0⟩ := h.part.blk
  have hlt := h.own.lt
  exact ⟨h.part.grown hg (fun k hk => (hlt k hk).1) (own_blk_ne h.own hc0 hTE.symm), h.main.grown hg (fun e => own_blk_ne h.own h.main hUE.symm e.symm), h.res.grown hg (fun e => own_blk_ne h.own h.res hUE.symm e.symm), ho,
    h.below.grown hg h.below.size (fun k hk => (hlt k hk).1), h.hG, h.hG0, h.ne⟩
theorem GS.setMain (h : GS w T U E S R G G0 l b cs zs V n xs wr) (hTU : T ≠ U) (hUE : U ≠ E) (i : Nat) (u : Value) : GS w T U E S R G G0 l b (cs.setIfInBounds i u) zs V n xs (wr.setCell ⟨G, i, none⟩ u) := by
  obtain ⟨c0, hc0⟩ := h.part.blk
  have hg : wr.grownBy (wr.setCell ⟨G, i, none⟩ u) (some G) := only_setCell (p := ⟨G, i, none⟩) (World.grownBy.refl wr _) (.inl rfl) u
  exact ⟨h.part.grown hg (fun k hk => by injection hk with hk; have := h.hG; omega) (fun e => by injection e with e; exact Blk.ne_ h.main hc0 hTU.symm e), h.main.set_ i u, h.res.grown hg (fun e => by injection e with e; exact h.ne e),
    h.own.kept hg (.inr (own_blk_ne h.own h.main hUE.symm)), h.below.grown hg h.below.size (fun k hk => by injection hk with hk; have := h.hG; omega), h.hG, h.hG0, h.ne⟩
/-- a store into a block that is none of these -/
theorem GS.setFar (h : GS w T U E S R G G0 l b cs zs V n xs wr) {k : Nat} (hk : w.heap.size ≤ k) (hR : R ≠ k) (hG : G ≠ k) (hG0 : G0 ≠ k) (hV : V.ownBlock ≠ some k) (i : Nat) (u : Value) : GS w T U E S R G G0 l b cs zs V n xs (wr.setCell ⟨k, i, none⟩ u) := by
  have hg : wr.grownBy (wr.setCell ⟨k, i, none⟩ u) (some k) := only_setCell (p := ⟨k, i, none⟩) (World.grownBy.refl wr _) (.inl rfl) u
  exact ⟨h.part.grown hg (fun j hj => by injection hj with hj; omega) (fun e => by injection e with e; exact hR e.symm), h.main.grown hg (fun e => by injection e with e; exact hG e), h.res.grown hg (fun e => by injection e with e; exact hG0 e),
    h.own.kept hg (.inr hV), h.below.grown hg h.below.size (fun j hj => by injection hj with hj; omega), h.hG, h.hG0, h.ne⟩
theorem GS.bad (h : GS w T U E S R G G0 l b cs zs V n xs wr) : wr.cell? ⟨R, 1, none⟩ = some (.bool b) := h.part.cells.1
theorem GS.cell (h : GS w T U E S R G G0 l b cs zs V n xs wr) (i : Nat) : wr.cell? ⟨G, i, none⟩ = cs[i]? := h.main.cell i
theorem GS.partLt (h : GS w T U E S R G G0 l b cs zs V n xs wr) : R < wr.heap.size := by obtain ⟨c0, hc0⟩ := h.part.blk; exact hc0.lt
theorem GS.ownLt (h : GS w T U E S R G G0 l b cs zs V n xs wr) : V.ownBlock ≠ some wr.heap.size := fun e => by have := (h.own.lt _ e).2; omega
end
/-- the lists: one value, so many values -/
def valD (l : List UInt8) (b : Bool) : (Nat × Int) × List UInt8 × Bool :=
  if (cnt l b).1 = 0 then ((0, unzig (cnt (cnt l b).2.1 (cnt l b).2.2).1), (cnt (cnt l b).2.1 (cnt l b).2.2).2) else (((cnt l b).1, 0), (cnt l b).2)
def valsD : Nat → List UInt8 → Bool → List (Nat × Int) × List UInt8 × Bool
  | 0, l, b => ([], l, b)
  | k + 1, l, b => if b = true then ([], l, b) else ((valD l b).1 :: (valsD k (valD l b).2.1 (valD l b).2.2).1, (valsD k (valD l b).2.1 (valD l b).2.2).2)
theorem valsD_bad (k : Nat) (l : List UInt8) : valsD k l true = ([], l, true) := by cases k <;> simp [valsD]
theorem valsD_len (k : Nat) : ∀ (l : List UInt8) (b : Bool), (valsD k l b).1.length ≤ k := by
  induction k with
  | zero => intro l b; simp [valsD]
  | succ k ih =>
    intro l b
    rw [valsD]
    split
    · simp
    · simpa using ih _ _
end Go.Proofs.Ytjhkfpemcplaaaa
namespace Go.Proofs.Ytjhkfpemcplaaaa
open Go.RowKit

def repV (bs : List UInt8) : List (Nat × Int) × List UInt8 × Bool := valsD (byteV (cnt bs false).2.1) (cnt bs false).2.1.tail ((cnt bs false).2.2 || (cnt bs false).2.1.isEmpty)
def repT (bs : List UInt8) : List UInt8 × List UInt8 × Bool := txtP (repV bs).2.1 (repV bs).2.2
def repTD (bs : List UInt8) : List UInt8 × List UInt8 × Bool := txtD (repV bs).2.1 (repV bs).2.2
/-- what a Get of a reply ends with -/
def GetRPost (w : World) (good : Prop) (err : Int) (vs : List (Nat × Int)) (text : List UInt8) (yes no : Value) (e : Ending) (w' : World) : Prop :=
  Below w.heap.size w w' ∧ ((good ∧ ∃ A n c, e = .returned (.tuple #[.agg #[.int .i64 err, .slice A n c, .string ⟨text.toArray⟩], yes]) ∧ w'.ownsRow w.heap.size 68 2 (.slice A n c) n (vcells vs)) ∨
    (¬ good ∧ e = .returned (.tuple #[.agg #[.int .i64 0, .slice none 0 0, .string ByteArray.empty], no])))
theorem unzig_I64 {n : Nat} (h : n < 18446744073709551616) : I64 (unzig n) := by unfold unzig I64; split <;> omega
theorem cells_len {w : World} {base E n : Nat} {V : Value} {vs : List (Nat × Int)} (h : w.ownsRow base E 2 V n (vcells vs)) : vs.length = n := by
  have := h.1
  rw [vcells_len] at this
  omega

theorem Reads.ofBlk {w : World} {g size n : Nat} {t : TypeId} {cs : List Value} (h : Blk w g t cs.toArray) (hn : cs.length = n * size) : Reads w (g + 1) size (some ⟨g, 0, none⟩) n cs := by
  refine ⟨hn, fun _ => ⟨_, rfl, by simp, fun j u hu => ?_⟩⟩
  have e : (⟨g, 0, none⟩ : Addr).add j = ⟨g, j, none⟩ := by unfold Addr.add; split <;> simp_all
  rw [e, h.cell j]
  simpa using hu
theorem wpList_appE {P : Program} {w : World} {ops : Array Oper} {rest : List Oper} {o : Oper} {a : Act} {Q : Exit → Act → World → Prop} (hgd : o.guard = none) (s x : Operand) (t : TypeId)
    (ho : o.op = .call { callee := .builtin .append, args := #[s, x], argTypes := #[t, t] })
    (base : Nat) (e : TypeId) (z : Value) (size bytes : Nat) (hinfo : (P.info? e).map (fun i => (i.zero, i.size, i.bytes)) = some (some z, size, bytes)) (ht : P.underlying t = some (.slice e)) (hzs : z.cells.size = size) (hsz : 0 < size)
    (v : Value) (n : Nat) (xs : List Value) (hs : a.eval s = v) (hown : w.ownsRow base e size v n xs)
    (B : Nat) (A : Option Addr) (m c : Nat) (news : List Value) (hx : a.eval x = .slice A m c) (hr : Reads w B size A m news) (h1 : ∀ u ∈ news, u.oneCell' = true)
    (h63 : n + m ≤ maxLen) (hbytes : (n + m) * bytes ≤ 140737488355328) (hbase : base ≤ w.heap.size)
    (h : ∀ v' w', w'.ownsRow base e size v' (n + m) (xs ++ news) → w.grownBy w' v.ownBlock → wpList P ops Q rest (a.put o.dst v') w') : wpList P ops Q (o :: rest) a w := by
  obtain ⟨i, hi, hz, hs1, hby⟩ := info_parts hinfo
  exact wpList_append_any w hgd s x t ho base e i z size bytes ht hi hz hs1 hby hzs hsz v n xs hs hown B A m c news hx hr h1 h63 hbytes hbase fun v' w' h2 h3 _ => h v' w' h2 h3
theorem own_form {w : World} {base e size n : Nat} {V : Value} {xs : List Value} (h : w.ownsRow base e size V n xs) : ∃ A c, V = .slice A n c := by
  rcases h.2 with ⟨rfl, rfl⟩ | ⟨g, cap, cur, rfl, _⟩
  · exact ⟨_, _, rfl⟩
  · exact ⟨_, _, rfl⟩
theorem GS.setRes {w wr : World} {T U E S R G G0 n : Nat} {l : List UInt8} {b : Bool} {cs zs : Array Value} {V : Value} {xs : List Value} (h : GS w T U E S R G G0 l b cs zs V n xs wr) (hTU : T ≠ U) (hUE : U ≠ E) (i : Nat) (u : Value) :
    GS w T U E S R G G0 l b cs (zs.setIfInBounds i u) V n xs (wr.setCell ⟨G0, i, none⟩ u) := by
  obtain ⟨c0, hc0⟩ := h.part.blk
  have hg : wr.grownBy (wr.setCell ⟨G0, i, none⟩ u) (some G0) := only_setCell (p := ⟨G0, i, none⟩) (World.grownBy.refl wr _) (.inl rfl) u
  exact ⟨h.part.grown hg (fun k hk => by injection hk with hk; have := h.hG0; omega) (fun e => by injection e with e; exact Blk.ne_ h.res hc0 hTU.symm e), h.main.grown hg (fun e => by injection e with e; exact h.ne e.symm), h.res.set_ i u,
    h.own.kept hg (.inr (own_blk_ne h.own h.res hUE.symm)), h.below.grown hg h.below.size (fun k hk => by injection hk with hk; have := h.hG0; omega), h.hG, h.hG0, h.ne⟩
theorem valD_range (l : List UInt8) (b : Bool) : (valD l b).1.1 < 18446744073709551616 ∧ I64 (valD l b).1.2 := by
  unfold valD
  split
  · exact ⟨by simp, unzig_I64 (cnt_lt _ _)⟩
  · exact ⟨cnt_lt _ _, by simp [I64]⟩
theorem valsD_range (k : Nat) : ∀ (l : List UInt8) (b : Bool), ∀ v ∈ (valsD k l b).1, v.1 < 18446744073709551616 ∧ I64 v.2 := by
  induction k with
  | zero => intro l b v hv; simp [valsD] at hv
  | succ k ih =>
    intro l b v hv
    rw [valsD] at hv
    split at hv
    · simp at hv
    · rcases List.mem_cons.1 hv with rfl | hv
      · exact valD_range l b
      · exact ih _ _ v hv
def GLoop (w : World) (T : Nat) (err : Int) (N : Nat) (l0 : List UInt8) (b0 : Bool) (R G G0 j : Nat) (wr : World) : Prop :=
  ∃ (us : List (Nat × Int)) (l : List UInt8) (b : Bool) (V : Value), us.length = j ∧
    GS w T 53 68 2 R G G0 l b #[.int .i64 err, V, .string ⟨#[]⟩] #[.int .i64 0, .slice none 0 0, .string ⟨#[]⟩] V j (vcells us) wr ∧
    valsD N l0 b0 = (us ++ (valsD (N - j) l b).1, (valsD (N - j) l b).2)
theorem info68 : (Try.prog.info? 68).map (fun i => (i.zero, i.size, i.bytes)) = some (some (.agg #[.int .u64 0, .int .i64 0]), 2, 16) := by kernel_rfl
theorem vcells_one (us : List (Nat × Int)) (v : Nat × Int) : vcells us ++ [.int .u64 (v.1 : Int), .int .i64 v.2] = vcells (us ++ [v]) := by simp [vcells]
theorem GS.start {w : World} {T : Nat} {U : Nat} {n c : Nat} {A : Option Addr} {bs : List UInt8} (z : Array Value) (hr : RdB w w.heap.size A n bs) (hc : n ≤ c) (hm : n ≤ 9223372036854775807) :
    PartIs ((w.alloc (.cells z U)).alloc (.cells #[.slice A n c, .bool false] T)) T w.heap.size (w.heap.size + 1) bs false := by
  have hl := hr.len1
  subst hl
  exact ⟨by omega, hm, A, c, Blk.new' (w.alloc (.cells z U)) T _ _ (by simp), (hr.alloc (Nat.le_refl _) _).alloc (by simp) _, hc⟩

set_option maxRecDepth 20000 in
set_option maxHeartbeats 4000000 in
theorem getr_any (A : Option Addr) (n c : Nat) (bs : List UInt8) (w : World) (hr : RdB w w.heap.size A n bs) (hc : n ≤ c) (hm : n ≤ 9223372036854775807) :
    Calls Try.prog 92 #[.slice A n c] w (GetRPost w ((repT bs).2.2 = false ∧ (repT bs).2.1 = [] ∧ goodR (unzig (cnt bs false).1) (repV bs).1 (repT bs).1) (unzig (cnt bs false).1) (repV bs).1 (repT bs).1 (.int .i64 0) (.int .i64 173)) := by
  obtain ⟨good, HGOOD⟩ : ∃ good, Hid (((repT bs).2.2 = false ∧ (repT bs).2.1 = [] ∧ goodR (unzig (cnt bs false).1) (repV bs).1 (repT bs).1) = good) := ⟨_, rfl⟩
  rw [HGOOD.out]
  have HE : Hid (I64 (unzig (cnt bs false).1)) := Lib.hid (unzig_I64 (cnt_lt bs false))
  obtain ⟨err, HERR⟩ : ∃ e0, Hid (unzig (cnt bs false).1 = e0) := ⟨_, rfl⟩
  rw [HERR.out] at HE ⊢
  obtain ⟨vs, HVS⟩ : ∃ e0, Hid ((repV bs).1 = e0) := ⟨_, rfl⟩
  rw [HVS.out]
  obtain ⟨text, HTX⟩ : ∃ e0, Hid ((repT bs).1 = e0) := ⟨_, rfl⟩
  rw [HTX.out]
  have HP := Lib.hid (GS.start (T := 151) (U := 53) #[.int .i64 0, .slice none 0 0, .string ⟨#[]⟩] hr hc hm)
  clear hr hc hm
  go_enter Try.func92, Try.ntmps92
  go_wp2_with fail
  have HS1 := Lib.hid (sgn_any _ _ _ _ _ HP.out)
  refine HS1.out.mono ?_
  rintro e w1 ⟨he, hp1, hg1⟩
  rw [HERR.out] at he
  subst he
  have h0 : GS w 151 53 68 2 (w.heap.size + 1) w1.heap.size w.heap.size (cnt bs false).2.1 (cnt bs false).2.2 #[.int .i64 err, .slice none 0 0, .string ⟨#[]⟩] #[.int .i64 0, .slice none 0 0, .string ⟨#[]⟩] (.slice none 0 0) 0 (vcells []) (w1.alloc (.cells #[.int .i64 err, .slice none 0 0, .string ⟨#[]⟩] 53)) := by
    have hsz := hg1.size
    simp at hsz
    have hb1 : Below w.heap.size w w1 := (((Below.refl _ _).alloc (Nat.le_refl _) _).alloc (by simp) _).grown hg1 (by simp; omega) (fun k hk => by injection hk with hk; omega)
    refine ⟨hp1.grown (World.grownBy_alloc _ _ none) (fun k hk => by cases hk) (by simp), Blk.new _ _ _, ((Blk.new' w 53 w.heap.size _ rfl).alloc _).grown hg1 (by simp) |>.alloc _, World.ownsRow_nil _ _ _ _, hb1.alloc hb1.size _, hb1.size, Nat.le_refl _, by omega⟩
  clear hp1 hg1 HS1 HP
  go_upto_region 3 with fail
  generalize hW3 : (w1.alloc (.cells #[.int .i64 err, .slice none 0 0, .string ⟨#[]⟩] 53)) = W3 at h0 ⊢
  generalize w1.heap.size = G at h0 ⊢
  clear hW3 w1
  have HB := Lib.hid (byte_any _ _ _ _ _ h0.part)
  go_wp2_with fail
  refine HB.out.mono ?_
  rintro e w4 ⟨rfl, hp4, hg4⟩
  have h4 := h0.call (by decide) (by decide) hp4 hg4
  clear h0 hp4 hg4 HB
  have hx := byteV_lt (cnt bs false).2.1
  obtain ⟨nv, HNV⟩ : ∃ e0, Hid (byteV (cnt bs false).2.1 = e0) := ⟨_, rfl⟩
  rw [HNV.out] at hx ⊢
  obtain ⟨l0, HL0⟩ : ∃ e0, Hid ((cnt bs false).2.1.tail = e0) := ⟨_, rfl⟩
  obtain ⟨b0, HB0⟩ : ∃ e0, Hid (((cnt bs false).2.2 || (cnt bs false).2.1.isEmpty) = e0) := ⟨_, rfl⟩
  rw [HL0.out, HB0.out] at h4
  have HREP : Hid (repV bs = valsD nv l0 b0) := Lib.hid (by unfold repV; rw [HNV.out, HL0.out, HB0.out])
  clear HNV HL0 HB0
  generalize w.heap.size + 1 = R at h4 ⊢
  generalize w.heap.size = G0 at h4 ⊢
  go_wp2
  go_loopw [7, 8] (fun i _ wr => ∃ j : Nat, j ≤ nv ∧ i = .int .i64 j ∧ GLoop w 151 err nv l0 b0 R G G0 j wr) (fun i _ _ => nv - (intOf i).toNat)
  case atStart => exact ⟨0, Nat.zero_le _, rfl, [], l0, b0, _, rfl, h4, by simp⟩
  case round =>
    obtain ⟨j, hj, rfl, us, l, b, V, hus, h5, hrel⟩ := hrel
    clear h4
    have HREL := Lib.hid hrel
    have HUS := Lib.hid hus
    clear hrel hus
    have cb := h5.bad
    by_cases hlt : j < nv
    · have d : decide ((j : Int) < (nv : Int)) = true := by simp; omega
      cases b
      · have HB := Lib.hid (cnt_any _ _ _ _ _ h5.part)
        go_wp2_with fail
        refine HB.out.mono ?_
        rintro e w6 ⟨rfl, hp6, hg6⟩
        have h6 := h5.call (by decide) (by decide) hp6 hg6
        clear h5 hp6 hg6 HB cb
        have hbk := Blk.new w6 68 #[.int .u64 ((cnt l false).1 : Int), .int .i64 0]
        have h7 := h6.alloc (.cells #[.int .u64 ((cnt l false).1 : Int), .int .i64 0] 68)
        have k1 := h6.partLt
        have k2 := h6.main.lt
        have k3 := h6.res.lt
        have k4 := h6.ownLt
        have k5 := h6.below.size
        clear h6
        go_upto_region 8 with fail
        generalize w6.alloc (.cells #[.int .u64 ((cnt l false).1 : Int), .int .i64 0] 68) = W7 at hbk h7 ⊢
        generalize w6.heap.size = k at hbk k1 k2 k3 k4 k5 ⊢
        clear w6
        obtain ⟨⟨hv, l2, b2⟩, HCN⟩ : ∃ r, Hid (cnt l false = r) := ⟨_, rfl⟩
        rw [HCN.out] at hbk h7 ⊢
        dsimp only at hbk h7 ⊢
        have e0 := hbk.cell 0
        simp at e0
        have k6 : R ≠ k := by omega
        by_cases hv0 : hv = 0
        · have t0 : ((hv : Int) == 0) = true := by rw [beq_iff_eq]; omega
          have HS2 := Lib.hid (sgn_any _ _ _ _ _ h7.part)
          go_wp2_with fail
          refine HS2.out.mono ?_
          rintro e w8 ⟨rfl, hp8, hg8⟩
          have h8 := h7.call (by decide) (by decide) hp8 hg8
          have hbk8 := hbk.grown hg8 (by simpa using k6.symm)
          clear h7 hbk hp8 hg8 HS2 e0
          obtain ⟨⟨m2, l3, b3⟩, HCN2⟩ : ∃ r, Hid (cnt l2 b2 = r) := ⟨_, rfl⟩
          rw [HCN2.out] at h8 ⊢
          dsimp only at h8 ⊢
          have HVD : Hid (valD l false = ((hv, unzig m2), l3, b3)) := Lib.hid (by unfold valD; rw [HCN.out]; dsimp only; rw [if_pos hv0, HCN2.out, hv0])
          have kf := hbk8.frozen 1
          have kc := hbk8.cell 1
          simp at kc
          go_upto_region 10 with fail
          have h9 := h8.setFar k5 k6 (Nat.ne_of_lt k2) (Nat.ne_of_lt k3) k4 1 (.int .i64 (unzig m2))
          have hbk9 := hbk8.set_ 1 (.int .i64 (unzig m2))
          simp at hbk9
          generalize w8.setCell ⟨k, 1, none⟩ (.int .i64 (unzig m2)) = W9 at h9 hbk9 ⊢
          clear h8 hbk8 kf kc t0 hv0
          generalize unzig m2 = z at hbk9 HVD ⊢
          have e0 := hbk9.cell 0
          have e1 := hbk9.cell 1
          have g1 := h9.cell 1
          have gf := h9.main.frozen 1
          simp at e0 e1 g1
          have h10 := h9.alloc (.cells #[.int .u64 (hv : Int), .int .i64 z] 68)
          have hrd := Reads.ofBlk (size := 2) (n := 1) (cs := [.int .u64 (hv : Int), .int .i64 z]) (Blk.new W9 68 #[.int .u64 (hv : Int), .int .i64 z]) rfl
          have gf2 := h10.main.frozen 1
          go_wp2_with (at_builtin; refine wpList_appE rfl _ _ _ rfl w.heap.size 68 _ 2 16 info68 Try.underlying51 rfl (by decide) _ _ _ rfl h10.own _ _ _ _ _ rfl hrd (by simp [Value.oneCell']) (by simp only [maxLen]; omega) (by omega) h10.below.size ?_; intro V2 w11 hown11 happ11; obtain ⟨A2, c2, rfl⟩ := own_form hown11; have h11 := h10.app (by decide) (by decide) happ11 hown11; have gf3 := h11.main.frozen 1; have g3 := h11.cell 1; simp at g3)
          go_roundw
          case rel =>
            refine ⟨j + 1, by omega, by go_num, us ++ [(hv, z)], l3, b3, .slice A2 (j + 1) c2, by simp [HUS.out], ?_, ?_⟩
            · have h12 := h11.setMain (by decide) (by decide) 1 (.slice A2 (j + 1) c2)
              rw [vcells_one us (hv, z)] at h12
              simpa using h12
            · obtain ⟨f, hf⟩ : ∃ f, nv - j = f + 1 := ⟨nv - j - 1, by omega⟩
              rw [HREL.out, hf, show nv - (j + 1) = f from by omega, valsD, if_neg (by decide), HVD.out]
              simp
          case measure => simp [intOf]; omega

        · have t0 : ((hv : Int) == 0) = false := by rw [beq_eq_false_iff_ne]; omega
          have HVD : Hid (valD l false = ((hv, 0), l2, b2)) := Lib.hid (by unfold valD; rw [HCN.out]; dsimp only; rw [if_neg hv0])
          have h9 := h7
          have hbk9 := hbk
          clear h7 hbk hv0
          go_upto_region 10 with fail
          obtain ⟨l3, HL3⟩ : ∃ r, Hid (l2 = r) := ⟨_, rfl⟩
          obtain ⟨b3, HB3⟩ : ∃ r, Hid (b2 = r) := ⟨_, rfl⟩
          rw [HL3.out, HB3.out] at h9 HVD
          clear e0
          generalize W7 = W9 at h9 hbk9 ⊢
          have e0 := hbk9.cell 0
          have e1 := hbk9.cell 1
          have g1 := h9.cell 1
          have gf := h9.main.frozen 1
          simp at e0 e1 g1
          have h10 := h9.alloc (.cells #[.int .u64 (hv : Int), .int .i64 0] 68)
          have hrd := Reads.ofBlk (size := 2) (n := 1) (cs := [.int .u64 (hv : Int), .int .i64 0]) (Blk.new W9 68 #[.int .u64 (hv : Int), .int .i64 0]) rfl
          have gf2 := h10.main.frozen 1
          go_wp2_with (at_builtin; refine wpList_appE rfl _ _ _ rfl w.heap.size 68 _ 2 16 info68 Try.underlying51 rfl (by decide) _ _ _ rfl h10.own _ _ _ _ _ rfl hrd (by simp [Value.oneCell']) (by simp only [maxLen]; omega) (by omega) h10.below.size ?_; intro V2 w11 hown11 happ11; obtain ⟨A2, c2, rfl⟩ := own_form hown11; have h11 := h10.app (by decide) (by decide) happ11 hown11; have gf3 := h11.main.frozen 1; have g3 := h11.cell 1; simp at g3)
          go_roundw
          case rel =>
            refine ⟨j + 1, by omega, by go_num, us ++ [(hv, 0)], l3, b3, .slice A2 (j + 1) c2, by simp [HUS.out], ?_, ?_⟩
            · have h12 := h11.setMain (by decide) (by decide) 1 (.slice A2 (j + 1) c2)
              rw [vcells_one us (hv, 0)] at h12
              simpa using h12
            · obtain ⟨f, hf⟩ : ∃ f, nv - j = f + 1 := ⟨nv - j - 1, by omega⟩
              rw [HREL.out, hf, show nv - (j + 1) = f from by omega, valsD, if_neg (by decide), HVD.out]
              simp
          case measure => simp [intOf]; omega
      · have HV : Hid (valsD nv l0 b0 = (us, l, true)) := Lib.hid (by rw [HREL.out, valsD_bad]; simp)
        have hrange : ∀ v ∈ us, v.1 < 18446744073709551616 ∧ I64 v.2 := fun v hv => valsD_range nv l0 b0 v (by rw [HV.out]; exact hv)
        have HRG := Lib.hid hrange
        clear hrange
        go_wp2_with fail
        have HT := Lib.hid (txt_any _ _ _ _ _ h5.part)
        refine HT.out.mono ?_
        rintro e w6 ⟨rfl, hp6, hg6⟩
        have h6 := h5.call (by decide) (by decide) hp6 hg6
        obtain ⟨⟨tx, l6, b6⟩, HTT⟩ : ∃ r, Hid (txtP l true = r) := ⟨_, rfl⟩
        rw [HTT.out] at h6 ⊢
        try dsimp only at h6 ⊢
        have m2 := h6.cell 2
        have mf := h6.main.frozen 2
        simp at m2
        clear h5 hp6 hg6 HT cb
        have HF : Hid (vs = us ∧ text = tx ∧ (good = (b6 = false ∧ l6 = [] ∧ goodR err us tx))) := Lib.hid (by
          have e1 : repV bs = (us, l, true) := by rw [HREP.out, HV.out]
          have e2 : repT bs = (tx, l6, b6) := by unfold repT; rw [e1]; exact HTT.out
          refine ⟨by rw [← HVS.out, e1], by rw [← HTX.out, e2], by rw [← HGOOD.out, e1, e2, HERR.out]⟩)
        go_upto_region 12 with fail
        have h7 := h6.setMain (by decide) (by decide) 2 (.string ⟨tx.toArray⟩)
        simp at h7
        generalize w6.setCell ⟨G, 2, none⟩ (.string ⟨tx.toArray⟩) = w7 at h7 ⊢
        clear h6 m2 mf
        obtain ⟨A5, c5, rfl⟩ := own_form h7.own
        have q0 := h7.cell 0
        have q1 := h7.cell 1
        have q2 := h7.cell 2
        simp at q0 q1 q2
        have HPR := Lib.hid (putr_any err A5 j c5 us ⟨tx.toArray⟩ w7 HE.out (Reads.of_own h7.own) HRG.out)
        go_wp2_with fail
        refine HPR.out.mono ?_
        rintro e w8 ⟨hb8, hpost⟩
        have h8 := h7.later hb8
        clear h7 hb8 q0 q1 q2 HPR
        try dsimp only at hpost
        rcases hpost with ⟨hgood, v8, rfl, hown8⟩ | ⟨hbad, rfl⟩
        · have HGD := Lib.hid hgood
          obtain ⟨A8, c8, rfl, -⟩ := hown8.form
          clear hgood hown8
          have HD := Lib.hid (done_any _ _ _ _ _ h8.part)
          go_wp2_with fail
          refine HD.out.mono ?_
          rintro e w9 ⟨rfl, kk, rfl⟩
          have h9 := h8.drewN kk
          generalize w8.drewN kk = w9 at h9 ⊢
          clear HD h8
          have r0 := h9.res.cell 0
          have r1 := h9.res.cell 1
          have r2 := h9.res.cell 2
          have s0 := h9.res.frozen 0
          have s1 := h9.res.frozen 1
          have s2 := h9.res.frozen 2
          have q0 := h9.cell 0
          have q1 := h9.cell 1
          have q2 := h9.cell 2
          simp at q0 q1 q2 r0 r1 r2
          cases hz : (!b6 && l6.isEmpty)
          · have HZ : Hid (¬ good) := Lib.hid (by rw [HF.out.2.2]; rintro ⟨rfl, rfl, -⟩; simp at hz)
            clear hz
            have hF := ((h9.setRes (by decide) (by decide) 0 (.int .i64 0)).setRes (by decide) (by decide) 1 (.slice none 0 0)).setRes (by decide) (by decide) 2 (.string ⟨#[]⟩)
            have HFF := Lib.hid hF
            clear hF
            go_wp2
            have hF := HFF.out
            have t0 := hF.res.cell 0
            have t1 := hF.res.cell 1
            have t2 := hF.res.cell 2
            simp at t0 t1 t2
            refine bodyPost_ret (v := .tuple #[.agg #[.int .i64 0, .slice none 0 0, .string ByteArray.empty], .int .i64 173]) (by simp [results, Try.results92, go_sem, t0, t1, t2]; rfl) rfl ⟨hF.below, .inr ⟨HZ.out, rfl⟩⟩
          · have HZ : Hid good := Lib.hid (by rw [HF.out.2.2]; refine ⟨?_, ?_, by simpa using HGD.out⟩ <;> cases b6 <;> cases l6 <;> simp_all)
            clear hz
            have hF := ((h9.setRes (by decide) (by decide) 0 (.int .i64 err)).setRes (by decide) (by decide) 1 (.slice A5 j c5)).setRes (by decide) (by decide) 2 (.string ⟨tx.toArray⟩)
            have HFF := Lib.hid hF
            clear hF
            go_wp2
            have hF := HFF.out
            have t0 := hF.res.cell 0
            have t1 := hF.res.cell 1
            have t2 := hF.res.cell 2
            simp at t0 t1 t2
            refine bodyPost_ret (v := .tuple #[.agg #[.int .i64 err, .slice A5 j c5, .string ⟨tx.toArray⟩], .int .i64 0]) (by simp [results, Try.results92, go_sem, t0, t1, t2]) rfl ⟨hF.below, .inl ⟨HZ.out, A5, j, c5, by rw [HF.out.2.1], by rw [HF.out.1]; exact hF.own⟩⟩
        · have HZ : Hid (¬ good) := Lib.hid (by rw [HF.out.2.2]; rintro ⟨-, -, hg⟩; exact hbad (by simpa using hg))
          clear hbad
          have r0 := h8.res.cell 0
          have r1 := h8.res.cell 1
          have r2 := h8.res.cell 2
          have s0 := h8.res.frozen 0
          have s1 := h8.res.frozen 1
          have s2 := h8.res.frozen 2
          simp at r0 r1 r2
          have hF := ((h8.setRes (by decide) (by decide) 0 (.int .i64 0)).setRes (by decide) (by decide) 1 (.slice none 0 0)).setRes (by decide) (by decide) 2 (.string ⟨#[]⟩)
          have HFF := Lib.hid hF
          clear hF
          go_wp2
          have hF := HFF.out
          have t0 := hF.res.cell 0
          have t1 := hF.res.cell 1
          have t2 := hF.res.cell 2
          simp at t0 t1 t2
          refine bodyPost_ret (v := .tuple #[.agg #[.int .i64 0, .slice none 0 0, .string ByteArray.empty], .int .i64 173]) (by simp [results, Try.results92, go_sem, t0, t1, t2]; rfl) rfl ⟨hF.below, .inr ⟨HZ.out, rfl⟩⟩
    · have d : decide ((j : Int) < (nv : Int)) = false := by simp; omega
      have HV : Hid (valsD nv l0 b0 = (us, l, b)) := Lib.hid (by rw [HREL.out, show nv - j = 0 from by omega, valsD]; simp)
      have hrange : ∀ v ∈ us, v.1 < 18446744073709551616 ∧ I64 v.2 := fun v hv => valsD_range nv l0 b0 v (by rw [HV.out]; exact hv)
      have HRG := Lib.hid hrange
      clear hrange
      go_wp2_with fail
      have HT := Lib.hid (txt_any _ _ _ _ _ h5.part)
      refine HT.out.mono ?_
      rintro e w6 ⟨rfl, hp6, hg6⟩
      have h6 := h5.call (by decide) (by decide) hp6 hg6
      obtain ⟨⟨tx, l6, b6⟩, HTT⟩ : ∃ r, Hid (txtP l b = r) := ⟨_, rfl⟩
      rw [HTT.out] at h6 ⊢
      try dsimp only at h6 ⊢
      have m2 := h6.cell 2
      have mf := h6.main.frozen 2
      simp at m2
      clear h5 hp6 hg6 HT cb
      have HF : Hid (vs = us ∧ text = tx ∧ (good = (b6 = false ∧ l6 = [] ∧ goodR err us tx))) := Lib.hid (by
        have e1 : repV bs = (us, l, b) := by rw [HREP.out, HV.out]
        have e2 : repT bs = (tx, l6, b6) := by unfold repT; rw [e1]; exact HTT.out
        refine ⟨by rw [← HVS.out, e1], by rw [← HTX.out, e2], by rw [← HGOOD.out, e1, e2, HERR.out]⟩)
      go_upto_region 12 with fail
      have h7 := h6.setMain (by decide) (by decide) 2 (.string ⟨tx.toArray⟩)
      simp at h7
      generalize w6.setCell ⟨G, 2, none⟩ (.string ⟨tx.toArray⟩) = w7 at h7 ⊢
      clear h6 m2 mf
      obtain ⟨A5, c5, rfl⟩ := own_form h7.own
      have q0 := h7.cell 0
      have q1 := h7.cell 1
      have q2 := h7.cell 2
      simp at q0 q1 q2
      have HPR := Lib.hid (putr_any err A5 j c5 us ⟨tx.toArray⟩ w7 HE.out (Reads.of_own h7.own) HRG.out)
      go_wp2_with fail
      refine HPR.out.mono ?_
      rintro e w8 ⟨hb8, hpost⟩
      have h8 := h7.later hb8
      clear h7 hb8 q0 q1 q2 HPR
      try dsimp only at hpost
      rcases hpost with ⟨hgood, v8, rfl, hown8⟩ | ⟨hbad, rfl⟩
      · have HGD := Lib.hid hgood
        obtain ⟨A8, c8, rfl, -⟩ := hown8.form
        clear hgood hown8
        have HD := Lib.hid (done_any _ _ _ _ _ h8.part)
        go_wp2_with fail
        refine HD.out.mono ?_
        rintro e w9 ⟨rfl, kk, rfl⟩
        have h9 := h8.drewN kk
        generalize w8.drewN kk = w9 at h9 ⊢
        clear HD h8
        have r0 := h9.res.cell 0
        have r1 := h9.res.cell 1
        have r2 := h9.res.cell 2
        have s0 := h9.res.frozen 0
        have s1 := h9.res.frozen 1
        have s2 := h9.res.frozen 2
        have q0 := h9.cell 0
        have q1 := h9.cell 1
        have q2 := h9.cell 2
        simp at q0 q1 q2 r0 r1 r2
        cases hz : (!b6 && l6.isEmpty)
        · have HZ : Hid (¬ good) := Lib.hid (by rw [HF.out.2.2]; rintro ⟨rfl, rfl, -⟩; simp at hz)
          clear hz
          have hF := ((h9.setRes (by decide) (by decide) 0 (.int .i64 0)).setRes (by decide) (by decide) 1 (.slice none 0 0)).setRes (by decide) (by decide) 2 (.string ⟨#[]⟩)
          have HFF := Lib.hid hF
          clear hF
          go_wp2
          have hF := HFF.out
          have t0 := hF.res.cell 0
          have t1 := hF.res.cell 1
          have t2 := hF.res.cell 2
          simp at t0 t1 t2
          refine bodyPost_ret (v := .tuple #[.agg #[.int .i64 0, .slice none 0 0, .string ByteArray.empty], .int .i64 173]) (by simp [results, Try.results92, go_sem, t0, t1, t2]; rfl) rfl ⟨hF.below, .inr ⟨HZ.out, rfl⟩⟩
        · have HZ : Hid good := Lib.hid (by rw [HF.out.2.2]; refine ⟨?_, ?_, by simpa using HGD.out⟩ <;> cases b6 <;> cases l6 <;> simp_all)
          clear hz
          have hF := ((h9.setRes (by decide) (by decide) 0 (.int .i64 err)).setRes (by decide) (by decide) 1 (.slice A5 j c5)).setRes (by decide) (by decide) 2 (.string ⟨tx.toArray⟩)
          have HFF := Lib.hid hF
          clear hF
          go_wp2
          have hF := HFF.out
          have t0 := hF.res.cell 0
          have t1 := hF.res.cell 1
          have t2 := hF.res.cell 2
          simp at t0 t1 t2
          refine bodyPost_ret (v := .tuple #[.agg #[.int .i64 err, .slice A5 j c5, .string ⟨tx.toArray⟩], .int .i64 0]) (by simp [results, Try.results92, go_sem, t0, t1, t2]) rfl ⟨hF.below, .inl ⟨HZ.out, A5, j, c5, by rw [HF.out.2.1], by rw [HF.out.1]; exact hF.own⟩⟩
      · have HZ : Hid (¬ good) := Lib.hid (by rw [HF.out.2.2]; rintro ⟨-, -, hg⟩; exact hbad (by simpa using hg))
        clear hbad
        have r0 := h8.res.cell 0
        have r1 := h8.res.cell 1
        have r2 := h8.res.cell 2
        have s0 := h8.res.frozen 0
        have s1 := h8.res.frozen 1
        have s2 := h8.res.frozen 2
        simp at r0 r1 r2
        have hF := ((h8.setRes (by decide) (by decide) 0 (.int .i64 0)).setRes (by decide) (by decide) 1 (.slice none 0 0)).setRes (by decide) (by decide) 2 (.string ⟨#[]⟩)
        have HFF := Lib.hid hF
        clear hF
        go_wp2
        have hF := HFF.out
        have t0 := hF.res.cell 0
        have t1 := hF.res.cell 1
        have t2 := hF.res.cell 2
        simp at t0 t1 t2
        refine bodyPost_ret (v := .tuple #[.agg #[.int .i64 0, .slice none 0 0, .string ByteArray.empty], .int .i64 173]) (by simp [results, Try.results92, go_sem, t0, t1, t2]; rfl) rfl ⟨hF.below, .inr ⟨HZ.out, rfl⟩⟩
end Go.Proofs.Ytjhkfpemcplaaaa
namespace Go.Proofs.Ytjhkfpemcplaaaa
open Go.RowKit

theorem u8_ofNat (x : UInt8) : UInt8.ofNat x.toNat = x := by simp
theorem byteV_cons {l : List UInt8} (h : l.isEmpty = false) : l = UInt8.ofNat (byteV l) :: l.tail := by
  cases l with
  | nil => simp at h
  | cons x l => simp [byteV]
theorem pow7_succ (i : Nat) : 2 ^ (7 * (i + 1)) = 128 * 2 ^ (7 * i) := by
  rw [show 7 * (i + 1) = 7 * i + 7 from by omega, Nat.pow_add]
  omega
/-- a count that was read is what its number is written as -/
theorem cntS_enc (f : Nat) : ∀ (i n : Nat) (l : List UInt8) (b : Bool) (m : Nat) (l1 : List UInt8), f + 1 + i = 10 → cntS (f + 1) i n l b = (m, l1, false) → b = false ∧ ∃ v, m = n + v * 2 ^ (7 * i) ∧ l = encF f v ++ l1 ∧ (0 < i → 0 < v) := by
  induction f with
  | zero =>
    intro i n l b m l1 hi h
    by_cases hb : ((b || l.isEmpty) || (i == 9 && decide (1 < byteV l)) || (decide (0 < i) && byteV l == 0)) = true
    · rw [cntS_bad hb] at h
      injection h with _ h
      injection h with _ h
      cases h
    · have hb' := eq_false_of_ne_true hb
      by_cases hx : byteV l < 128
      · rw [cntS_end hb' hx] at h
        injection h with h1 h
        injection h with h2 h
        simp only [Bool.or_eq_false_iff] at hb'
        obtain ⟨⟨⟨hb0, he⟩, h9⟩, h0⟩ := hb'
        refine ⟨hb0, byteV l, ?_, ?_, fun h3 => ?_⟩
        · rw [← h1, Nat.mod_eq_of_lt hx]
        · rw [← h2]; exact byteV_cons he
        · simp [h3] at h0; omega
      · rw [cntS_on hb' hx] at h
        rw [cntS] at h
        injection h with _ h
        injection h with _ h
        cases h
  | succ f ih =>
    intro i n l b m l1 hi h
    by_cases hb : ((b || l.isEmpty) || (i == 9 && decide (1 < byteV l)) || (decide (0 < i) && byteV l == 0)) = true
    · rw [cntS_bad hb] at h
      injection h with _ h
      injection h with _ h
      cases h
    · have hb' := eq_false_of_ne_true hb
      have hb2 := hb'
      simp only [Bool.or_eq_false_iff] at hb'
      obtain ⟨⟨⟨hb0, he⟩, h9⟩, h0⟩ := hb'
      by_cases hx : byteV l < 128
      · rw [cntS_end hb2 hx] at h
        injection h with h1 h
        injection h with h2 h
        refine ⟨hb0, byteV l, ?_, ?_, fun h3 => ?_⟩
        · rw [← h1, Nat.mod_eq_of_lt hx]
        · rw [← h2, encF_succ, if_pos hx]; exact byteV_cons he
        · simp [h3] at h0; omega
      · rw [cntS_on hb2 hx] at h
        obtain ⟨_, v, hm, hl, hv⟩ := ih (i + 1) _ l.tail false m l1 (by omega) h
        have hv := hv (by omega)
        have hx2 := byteV_lt l
        refine ⟨hb0, byteV l % 128 + 128 * v, ?_, ?_, fun _ => by omega⟩
        · rw [hm, pow7_succ, Nat.add_mul, Nat.add_assoc, Nat.mul_assoc 128 v, Nat.mul_left_comm 128 v, Nat.mul_left_comm v 128]
        · rw [encF_succ, if_neg (by omega)]
          have e1 : (byteV l % 128 + 128 * v) % 128 + 128 = byteV l := by omega
          have e2 : (byteV l % 128 + 128 * v) / 128 = v := by omega
          rw [e1, e2, List.cons_append, ← hl]
          exact byteV_cons he
theorem cnt_enc {l : List UInt8} {b : Bool} {m : Nat} {l1 : List UInt8} (h : cnt l b = (m, l1, false)) : b = false ∧ l = enc m ++ l1 := by
  obtain ⟨hb, v, hm, hl, _⟩ := cntS_enc 9 0 0 l b m l1 rfl h
  have : m = v := by simpa using hm
  subst this
  exact ⟨hb, hl⟩
theorem cnt_zero {l : List UInt8} {b : Bool} (h : (cnt l b).2.2 = true) : (cnt l b).1 = 0 := by
  have key : ∀ f i n l b, (cntS f i n l b).2.2 = true → (cntS f i n l b).1 = 0 := by
    intro f
    induction f with
    | zero => intro i n l b _; rfl
    | succ f ih =>
      intro i n l b h
      rw [cntS] at h ⊢
      split at h
      · rename_i hc; rw [if_pos hc]
      · rename_i hc
        rw [if_neg hc]
        split at h
        · cases h
        · rename_i hx; rw [if_neg hx]; exact ih _ _ _ _ h
  exact key _ _ _ _ _ h
theorem zig_unzig {m : Nat} : zig (unzig m) = m := by
  unfold zig unzig
  by_cases h : m % 2 = 0
  · rw [if_pos h, if_pos (by omega)]; omega
  · rw [if_neg h, if_neg (by omega)]; omega
/-- bad stays bad -/
theorem cnt_bad (l : List UInt8) : cnt l true = (0, l.tail, true) := cntS_bad (f := 9) (i := 0) (n := 0) (l := l) (b := true) rfl

theorem valD_enc {l : List UInt8} {b : Bool} {v : Nat × Int} {l1 : List UInt8} (h : valD l b = (v, l1, false)) : b = false ∧ l = valB v ++ l1 ∧ (v.1 = 0 ∨ v.2 = 0) := by
  unfold valD at h
  obtain ⟨⟨m, l2, b2⟩, hc⟩ : ∃ r, cnt l b = r := ⟨_, rfl⟩
  rw [hc] at h
  dsimp only at h
  by_cases h0 : m = 0
  · rw [if_pos h0] at h
    obtain ⟨⟨m2, l3, b3⟩, hc2⟩ : ∃ r, cnt l2 b2 = r := ⟨_, rfl⟩
    rw [hc2] at h
    dsimp only at h
    injection h with h1 h
    injection h with h2 h3
    subst h1 h2 h3 h0
    obtain ⟨rfl, e2⟩ := cnt_enc hc2
    obtain ⟨rfl, e1⟩ := cnt_enc hc
    refine ⟨rfl, ?_, .inl rfl⟩
    rw [e1, e2]
    simp [valB, zig_unzig]
  · rw [if_neg h0] at h
    injection h with h1 h
    injection h with h2 h3
    subst h1 h2 h3
    obtain ⟨rfl, e1⟩ := cnt_enc hc
    refine ⟨rfl, ?_, .inr rfl⟩
    rw [e1]
    simp [valB, h0]
theorem valsD_enc (k : Nat) : ∀ {l : List UInt8} {b : Bool} {vs : List (Nat × Int)} {l1 : List UInt8}, valsD k l b = (vs, l1, false) → b = false ∧ l = vs.flatMap valB ++ l1 ∧ okV vs ∧ vs.length = k := by
  induction k with
  | zero =>
    intro l b vs l1 h
    rw [valsD] at h
    injection h with h1 h
    injection h with h2 h3
    subst h1 h2 h3
    exact ⟨rfl, by simp, by intro v hv; simp at hv, rfl⟩
  | succ k ih =>
    intro l b vs l1 h
    cases b
    · rw [valsD, if_neg (by decide)] at h
      obtain ⟨⟨v, l2, b2⟩, hv⟩ : ∃ r, valD l false = r := ⟨_, rfl⟩
      rw [hv] at h
      dsimp only at h
      obtain ⟨⟨us, l3, b3⟩, hu⟩ : ∃ r, valsD k l2 b2 = r := ⟨_, rfl⟩
      rw [hu] at h
      dsimp only at h
      injection h with h1 h
      injection h with h2 h3
      subst h1 h2 h3
      obtain ⟨rfl, e2, hok, hlen⟩ := ih hu
      obtain ⟨_, e1, ho⟩ := valD_enc hv
      refine ⟨rfl, ?_, ?_, by simp [hlen]⟩
      · rw [e1, e2]; simp
      · intro w hw
        rcases List.mem_cons.1 hw with rfl | hw
        · exact ho
        · exact hok w hw
    · rw [valsD_bad] at h
      injection h with _ h
      injection h with _ h
      cases h
theorem txt_flag (l : List UInt8) (b : Bool) : (txtP l b).2.2 = (txtD l b).2.2 ∧ ((txtD l b).2.2 = false → txtP l b = txtD l b) := by
  unfold txtP txtD
  obtain ⟨⟨m, l2, b2⟩, hc⟩ : ∃ r, cnt l b = r := ⟨_, rfl⟩
  have hz : b2 = true → m = 0 := fun h => by have := cnt_zero (l := l) (b := b) (by rw [hc]; exact h); rw [hc] at this; exact this
  rw [hc]
  dsimp only
  cases b2
  · by_cases h1 : 512 < m
    · rw [if_pos h1, if_pos (.inr (.inl h1))]; exact ⟨rfl, fun h => by cases h⟩
    · rw [if_neg h1]
      by_cases h2 : m ≤ l2.length
      · rw [if_pos h2, if_neg (by rintro (h | h | h) <;> first | omega | cases h)]; simp
      · rw [if_neg h2, if_pos (by omega)]; simp
  · have := hz rfl
    subst this
    simp
theorem txtD_enc {l : List UInt8} {b : Bool} {t : List UInt8} {l1 : List UInt8} (h : txtD l b = (t, l1, false)) : b = false ∧ l = enc t.length ++ t ++ l1 ∧ t.length ≤ 512 := by
  unfold txtD at h
  obtain ⟨⟨m, l2, b2⟩, hc⟩ : ∃ r, cnt l b = r := ⟨_, rfl⟩
  rw [hc] at h
  dsimp only at h
  by_cases h0 : b2 = true ∨ 512 < m ∨ l2.length < m
  · rw [if_pos h0] at h
    injection h with _ h
    injection h with _ h
    cases h
  · rw [if_neg h0] at h
    injection h with h1 h
    injection h with h2 _
    have hb2 : b2 = false := by cases b2 <;> simp_all
    subst hb2
    obtain ⟨rfl, e⟩ := cnt_enc hc
    have hlen : t.length = m := by rw [← h1, List.length_take]; omega
    refine ⟨rfl, ?_, by omega⟩
    rw [e, hlen, ← h1, ← h2]
    simp
/-- a reply that was read is what it is written as -/
theorem rep_enc {bs : List UInt8} (hf : (repTD bs).2.2 = false) (hr : (repTD bs).2.1 = []) :
    bs = replyB (unzig (cnt bs false).1) (repV bs).1 (repTD bs).1 ∧ okV (repV bs).1 ∧ (repTD bs).1.length ≤ 512 := by
  obtain ⟨⟨m, l1, b1⟩, hc⟩ : ∃ r, cnt bs false = r := ⟨_, rfl⟩
  obtain ⟨⟨vs, l2, b2⟩, hv⟩ : ∃ r, repV bs = r := ⟨_, rfl⟩
  obtain ⟨⟨t, l3, b3⟩, ht⟩ : ∃ r, repTD bs = r := ⟨_, rfl⟩
  rw [ht] at hf hr
  dsimp only at hf hr
  subst hf hr
  have ht' := ht
  unfold repTD at ht
  rw [hv] at ht
  obtain ⟨rfl, e3, h512⟩ := txtD_enc ht
  have hv' := hv
  unfold repV at hv
  rw [hc] at hv
  dsimp only at hv
  obtain ⟨hb, e2, hok, hlen⟩ := valsD_enc _ hv
  simp only [Bool.or_eq_false_iff] at hb
  obtain ⟨rfl, hemp⟩ := hb
  obtain ⟨_, e1⟩ := cnt_enc hc
  rw [hc, hv', ht']
  refine ⟨?_, hok, h512⟩
  dsimp only
  unfold replyB
  rw [zig_unzig, hlen]
  dsimp only at e3
  rw [e3] at e2
  have e4 := byteV_cons hemp
  rw [e2] at e4
  rw [e1]
  generalize byteV l1 = q at e4 ⊢
  rw [e4]
  simp
/-- the program's rule and the document's are the same -/
theorem rep_good (bs : List UInt8) : ((repT bs).2.2 = false ∧ (repT bs).2.1 = [] ∧ goodR (unzig (cnt bs false).1) (repV bs).1 (repT bs).1) ↔ ((repTD bs).2.2 = false ∧ (repTD bs).2.1 = [] ∧ bs.length ≤ 1024 ∧ (repV bs).1.length ≤ 32) := by
  obtain ⟨h1, h2⟩ := txt_flag (repV bs).2.1 (repV bs).2.2
  constructor
  · rintro ⟨hf, hr, hg⟩
    have e : repT bs = repTD bs := h2 (h1.symm.trans hf)
    rw [e] at hf hr hg
    have hb := (rep_enc hf hr).1
    refine ⟨hf, hr, ?_, hg.1⟩
    have := hg.2.2.2
    rw [← hb] at this
    exact this
  · rintro ⟨hf, hr, hl, h32⟩
    have e : repT bs = repTD bs := h2 hf
    rw [e]
    obtain ⟨hb, hok, h512⟩ := rep_enc hf hr
    exact ⟨hf, hr, h32, h512, hok, by rw [← hb]; exact hl⟩
/-- both ends of a Put in one form -/
theorem PutPost.form {w w1 : World} {good : Prop} {bytes : List UInt8} {e : Ending} (h : PutPost w good bytes e w1) :
    ∃ A n c e6 b5, e = .returned (.tuple #[.slice A n c, .int .i64 e6]) ∧ RdB w1 w1.heap.size A n b5 ∧ Below w.heap.size w w1 ∧ Hid ((good ∧ e6 = 0 ∧ b5 = bytes) ∨ (¬ good ∧ e6 = 173 ∧ n = 0)) := by
  obtain ⟨hb, ⟨hg, v, rfl, ho⟩ | ⟨hg, rfl⟩⟩ := h
  · obtain ⟨A, c, rfl, -⟩ := OwnB.form ho
    exact ⟨A, _, c, 0, _, rfl, OwnB.reads ho rfl, hb, Lib.hid (.inl ⟨hg, rfl, rfl⟩)⟩
  · exact ⟨none, 0, 0, 173, [], rfl, Reads.none_, hb, Lib.hid (.inr ⟨hg, rfl, rfl⟩)⟩
end Go.Proofs.Ytjhkfpemcplaaaa
