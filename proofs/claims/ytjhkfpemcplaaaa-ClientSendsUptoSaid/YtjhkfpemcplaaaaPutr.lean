/-
  Contract of the program's PutReply.
-/
import Derived.Test.YtjhkfpemcplaaaaPack
import Derived.Lib.AppendStr
namespace Go.Proofs.Ytjhkfpemcplaaaa
open Go.RowKit

theorem Kept.grw {w w1 w2 : World} {T g n : Nat} {cs : Array Value} {A : Option Addr} {bs xs : List UInt8} {v : Value} (h : Kept w T g cs A n bs w1) (ho : OwnB 5 w1 w.heap.size v xs) (hT : 5 ≠ T) (ha : w1.grownBy w2 v.ownBlock) : Kept w T g cs A n bs w2 := by
  obtain ⟨hb, hr, hbw⟩ := h
  have hlt := ho.lt
  exact ⟨hb.grown ha (fun e => own_blk_ne ho hb hT e.symm), hr.grown ha hbw.size (fun k hk => (hlt k hk).1), hbw.grown ha hbw.size (fun k hk => (hlt k hk).1)⟩
theorem Reads.of_blk {w : World} {g : Nat} {t : TypeId} {cs : List Value} (h : Blk w g t cs.toArray) : Reads w (g + 1) 1 (some ⟨g, 0, none⟩) cs.length cs := by
  refine ⟨by simp, fun _ => ⟨_, rfl, by simp, fun j u hu => ?_⟩⟩
  have e : (⟨g, 0, none⟩ : Addr).add j = ⟨g, j, none⟩ := by unfold Addr.add; split <;> simp_all
  rw [e, h.cell j]
  simpa using hu
def NilPost (w : World) (T g : Nat) (cs : Array Value) (W : World) (ys : List UInt8) (e : Ending) (w1 : World) : Prop := ∃ v, e = .returned v ∧ OwnB 5 w1 w.heap.size v ys ∧ Kept w T g cs none 0 [] w1 ∧ (∀ k t ds, Blk W k t ds → Blk w1 k t ds)
theorem counts_nil {w W : World} {T g : Nat} {cs : Array Value} (lb m c : Nat) (ns : List Nat) (h : Kept w T g cs none 0 [] W) (hT : 5 ≠ T)
    (hl : Blk W lb 22 (ns.map uv).toArray) (hm : m = ns.length) (hn : ∀ n ∈ ns, n < 18446744073709551616) (hns : ns.length ≤ 1000) :
    Calls Try.prog 73 #[.slice none 0 0, .slice (some ⟨lb, 0, none⟩) m c] W (NilPost w T g cs W (encs ns)) :=
  (counts_any w.heap.size (.slice none 0 0) [] lb m c ns W (OwnB.nil 5 W _) h.2.2.size hl hm hn hns (by simp)).mono fun _ _ ⟨v1, he, ho, ha⟩ => ⟨v1, he, ho, h.app (OwnB.nil 5 W w.heap.size) hT ha, fun _ _ _ hb => ha.blk hb (by simp [Value.ownBlock])⟩
def HoldPost (w : World) (T g : Nat) (cs : Array Value) (W : World) (ys : List UInt8) (e : Ending) (w1 : World) : Prop := ∃ v, e = .returned v ∧ OwnB 5 w1 w.heap.size v ys ∧ Kept w T g cs none 0 [] w1 ∧ (∀ k t ds, 5 ≠ t → Blk W k t ds → Blk w1 k t ds)
theorem counts_hold {w W : World} {T g : Nat} {cs : Array Value} (v : Value) (xs : List UInt8) (lb m c : Nat) (ns : List Nat) (h : Kept w T g cs none 0 [] W) (hT : 5 ≠ T) (hv : OwnB 5 W w.heap.size v xs)
    (hl : Blk W lb 22 (ns.map uv).toArray) (hm : m = ns.length) (hn : ∀ n ∈ ns, n < 18446744073709551616) (hns : ns.length ≤ 1000) (hsz : xs.length ≤ 1099511627776) :
    Calls Try.prog 73 #[v, .slice (some ⟨lb, 0, none⟩) m c] W (HoldPost w T g cs W (xs ++ encs ns)) :=
  (counts_any w.heap.size v xs lb m c ns W hv h.2.2.size hl hm hn hns hsz).mono fun _ _ ⟨v1, he, ho, ha⟩ => ⟨v1, he, ho, h.app hv hT ha, fun _ _ _ ht hb => ha.blk hb (own_blk_ne hv hb ht)⟩
/-- one count, the argument's block just built -/
theorem counts_one {w W : World} {T g : Nat} {cs : Array Value} (v : Value) (xs : List UInt8) (lb : Nat) (m : Nat) (h : Kept w T g cs none 0 [] W) (hT : 5 ≠ T) (hv : OwnB 5 W w.heap.size v xs) (hlb : W.heap.size = lb)
    (hm : m < 18446744073709551616) (hsz : xs.length ≤ 1099511627776) :
    Calls Try.prog 73 #[v, .slice (some ⟨lb, 0, none⟩) 1 1] (W.alloc (.cells #[.int .u64 (m : Int)] 22)) (HoldPost w T g cs W (xs ++ enc m)) :=
  (counts_hold v xs lb 1 1 [m] (h.alloc _) hT (hv.alloc _) (Blk.new' W 22 lb _ hlb) rfl (by simpa using hm) (by simp) hsz).mono fun _ _ ⟨v1, he, ho, hk, hh⟩ =>
    ⟨v1, he, by simpa [encs] using ho, hk, fun k t ds ht hb => hh k t ds ht (hb.alloc _)⟩
theorem step_app_str {P : Program} {w : World} {ops : Array Oper} {o : Oper} {a : Act} {K : Act → World → Prop} {Q : Exit → Act → World → Prop} {E : Prop} (hgd : o.guard = none) (s x : Operand) (t u : TypeId)
    (ho : o.op = .call { callee := .builtin .append, args := #[s, x], argTypes := #[t, u] })
    (base : Nat) (e : TypeId) (hinfo : (P.info? e).map (fun i => (i.zero, i.size, i.bytes)) = some (some (.int .u8 0), 1, 1)) (ht : P.underlying t = some (.slice e)) (hu : P.underlying u = some .string)
    (v : Value) (xs : List UInt8) (hs : a.eval s = v) (hown : OwnB e w base v xs)
    (str : ByteArray) (hx : a.eval x = .string str) (hb : xs.length + str.size ≤ 140737488355328) (hbase : base ≤ w.heap.size)
    (h : ∀ v' w', OwnB e w' base v' (xs ++ str.data.toList) → w.grownBy w' v.ownBlock → K (a.put o.dst v') w') :
    if Region.wanted o (yielded ops a.tmps) = true then Oper.wp P o a w K Q else E := by
  obtain ⟨i, hi, hz, hs1, hby⟩ := info_parts hinfo
  obtain ⟨v', w', hr, h2, h3, _⟩ := Lib.run_append_own_string (P := P) w base t u o.type e i ht hu hi hz hs1 hby v xs.length (xs.map bv) hown str (by simp only [maxLen]; omega) hb hbase
  have hw : Region.wanted o (yielded ops a.tmps) = true := by simp [Region.wanted, hgd]
  rw [if_pos hw]
  unfold Oper.wp execOp
  simp only [ho, resolve, invoke, builtin, Sem.run_bind, Sem.run_pure, Result.andThen_ok, List.map_toArray, List.map_cons, List.map_nil, hs, hx, hr]
  refine h v' w' ?_ h3
  show w'.ownsRow base e 1 v' (xs ++ str.data.toList).length ((xs ++ str.data.toList).map bv)
  rw [List.length_append, List.map_append, Array.length_toList]
  exact h2
/-- what a Put ends with -/
def PutPost (w : World) (good : Prop) (bytes : List UInt8) (e : Ending) (w' : World) : Prop :=
  Below w.heap.size w w' ∧ ((good ∧ ∃ v, e = .returned (.tuple #[v, .int .i64 0]) ∧ OwnB 5 w' w.heap.size v bytes) ∨ (¬ good ∧ e = .returned (.tuple #[.slice none 0 0, .int .i64 173])))
/-- values as cells -/
def vcells (vs : List (Nat × Int)) : List Value := vs.flatMap fun v => [.int .u64 (v.1 : Int), .int .i64 v.2]
theorem vcells_len (vs : List (Nat × Int)) : (vcells vs).length = vs.length * 2 := by
  induction vs with
  | nil => rfl
  | cons v l ih =>
    have e : vcells (v :: l) = .int .u64 (v.1 : Int) :: .int .i64 v.2 :: vcells l := rfl
    rw [e]
    simp only [List.length_cons, ih]
    omega
theorem vcells_at (vs : List (Nat × Int)) : ∀ (k : Nat) (v : Nat × Int), vs[k]? = some v → (vcells vs)[k * 2]? = some (.int .u64 (v.1 : Int)) ∧ (vcells vs)[k * 2 + 1]? = some (.int .i64 v.2) := by
  induction vs with
  | nil => intro k v h; simp at h
  | cons x l ih =>
    intro k v h
    have e : vcells (x :: l) = .int .u64 (x.1 : Int) :: .int .i64 x.2 :: vcells l := rfl
    rw [e]
    cases k with
    | zero => simp at h; subst h; exact ⟨rfl, rfl⟩
    | succ k =>
      have := ih k v (by simpa using h)
      rw [show (k + 1) * 2 = k * 2 + 2 from by omega]
      exact this
abbrev RdV (w : World) (B : Nat) (A : Option Addr) (n : Nat) (vs : List (Nat × Int)) : Prop := Reads w B 2 A n (vcells vs)
theorem RdV.len {w : World} {B n : Nat} {A : Option Addr} {vs : List (Nat × Int)} (h : RdV w B A n vs) : vs.length = n := by
  have := h.1
  rw [vcells_len] at this
  omega
theorem RdV.at2 {w : World} {B n k : Nat} {A : Option Addr} {vs : List (Nat × Int)} (h : RdV w B A n vs) (hk : k < n) :
    ∃ b off v, A = some ⟨b, off, none⟩ ∧ b < B ∧ vs[k]? = some v ∧ w.cell? ⟨b, off + k * 2, none⟩ = some (.int .u64 (v.1 : Int)) ∧ w.cell? ⟨b, off + k * 2 + 1, none⟩ = some (.int .i64 v.2) := by
  obtain ⟨⟨b, off, spot⟩, e, hb, hc⟩ := h.2 (by omega)
  have hl := h.len
  obtain ⟨v, hv⟩ : ∃ v, vs[k]? = some v := ⟨_, List.getElem?_eq_getElem (by omega)⟩
  obtain ⟨v0, hv0⟩ : ∃ v, vs[0]? = some v := ⟨_, List.getElem?_eq_getElem (by omega)⟩
  have h0 := hc 0 _ (vcells_at vs 0 v0 hv0).1
  have hspot : spot = none := by simpa [Addr.add] using World.cell?_spot h0
  subst hspot
  have ad : ∀ j, (⟨b, off, none⟩ : Addr).add j = ⟨b, off + j, none⟩ := fun j => by unfold Addr.add; split <;> simp_all
  have h1 := hc _ _ (vcells_at vs k v hv).1
  have h2 := hc _ _ (vcells_at vs k v hv).2
  rw [ad] at h1 h2
  exact ⟨b, off, v, e, hb, hv, h1, h2⟩

def valB (v : Nat × Int) : List UInt8 := enc v.1 ++ if v.1 = 0 then enc (zig v.2) else []
def okV (vs : List (Nat × Int)) : Prop := ∀ v ∈ vs, v.1 = 0 ∨ v.2 = 0
def replyB (err : Int) (vs : List (Nat × Int)) (text : List UInt8) : List UInt8 := (enc (zig err) ++ [UInt8.ofNat vs.length] ++ vs.flatMap valB) ++ enc text.length ++ text

theorem valB_le (v : Nat × Int) : (valB v).length ≤ 20 := by
  have h1 := enc_le v.1
  have h2 := enc_le (zig v.2)
  unfold valB
  split <;> simp <;> omega
theorem vals_le (vs : List (Nat × Int)) : (vs.flatMap valB).length ≤ 20 * vs.length := by
  induction vs with
  | nil => simp
  | cons v l ih =>
    have := valB_le v
    simp only [List.flatMap_cons, List.length_append, List.length_cons]
    omega
theorem vals_take (vs : List (Nat × Int)) (k : Nat) (v : Nat × Int) (h : vs[k]? = some v) : (vs.take (k + 1)).flatMap valB = (vs.take k).flatMap valB ++ valB v := by
  rw [List.take_add_one, h]
  simp
theorem okV_take {vs : List (Nat × Int)} {k : Nat} {v : Nat × Int} (h : vs[k]? = some v) (ho : okV (vs.take k)) (hv : v.1 = 0 ∨ v.2 = 0) : okV (vs.take (k + 1)) := by
  intro u hu
  rw [List.take_add_one, h] at hu
  simp at hu
  rcases hu with hu | rfl
  · exact ho u (by simpa using hu)
  · exact hv
/-- may the reply be -/
def goodR (err : Int) (vs : List (Nat × Int)) (text : List UInt8) : Prop := vs.length ≤ 32 ∧ text.length ≤ 512 ∧ okV vs ∧ (replyB err vs text).length ≤ 1024
/-- in range -/
abbrev I64 (n : Int) : Prop := -9223372036854775808 ≤ n ∧ n ≤ 9223372036854775807

set_option maxRecDepth 20000 in
set_option maxHeartbeats 2000000 in
theorem putr_long (err : Int) (A : Option Addr) (n c : Nat) (s : ByteArray) (w : World) (h : 32 < n ∨ 512 < s.size) :
    Calls Try.prog 96 #[.agg #[.int .i64 err, .slice A n c, .string s]] w fun e w' => e = .returned (.tuple #[.slice none 0 0, .int .i64 173]) ∧ ∃ o, w.alloc o = w' := by
  by_cases h1 : 32 < n
  · have d : decide ((32 : Int) < (n : Int)) = true := by simp; omega
    clear h
    go_enter Try.func96, Try.ntmps96
    go_wp2
    go_ret2
    exact ⟨rfl, _, rfl⟩
  · have d : decide ((32 : Int) < (n : Int)) = false := by simp; omega
    have d2 : decide ((512 : Int) < (s.size : Int)) = true := by simp; omega
    clear h
    go_enter Try.func96, Try.ntmps96
    go_wp2
    go_ret2
    exact ⟨rfl, _, rfl⟩

set_option maxRecDepth 20000 in
set_option maxHeartbeats 4000000 in
theorem putr_main (err : Int) (A : Option Addr) (n c : Nat) (vs : List (Nat × Int)) (s : ByteArray) (w : World) (he : I64 err) (hr : RdV w w.heap.size A n vs) (hn : n ≤ 32) (ht : s.size ≤ 512)
    (hu : ∀ v ∈ vs, v.1 < 18446744073709551616 ∧ I64 v.2) :
    Calls Try.prog 96 #[.agg #[.int .i64 err, .slice A n c, .string s]] w (PutPost w (goodR err vs s.data.toList) (replyB err vs s.data.toList)) := by
  obtain ⟨x, HX⟩ : ∃ x : UInt8, Hid (x = UInt8.ofNat n) := ⟨_, rfl⟩
  have hx8 : (n : Int) = (x.toNat : Int) := by rw [HX.out]; simp only [UInt8.toNat_ofNat']; omega
  have HXN := Lib.hid hx8
  clear hx8
  have hK : Kept w 53 w.heap.size #[.int .i64 err, .slice A n c, .string s] none 0 [] (w.alloc (.cells #[.int .i64 err, .slice A n c, .string s] 53)) :=
    ⟨Blk.new w _ _, Reads.none_, (Below.refl _ _).alloc (Nat.le_refl _) _⟩
  have d : decide ((32 : Int) < (n : Int)) = false := by simp; omega
  have d2 : decide ((512 : Int) < (s.size : Int)) = false := by simp; omega
  have HE := Lib.hid he
  have HU := Lib.hid hu
  clear he hu
  go_enter Try.func96, Try.ntmps96
  go_upto_region 3 with fail
  generalize (w.alloc (.cells #[.int .i64 err, .slice A n c, .string s] 53)) = W at hK ⊢
  have HS : Hid (∀ w' : World, Kept w 53 w.heap.size #[.int .i64 err, .slice A n c, .string s] none 0 [] w' → w'.cell? ⟨w.heap.size, 0, none⟩ = some (.int .i64 err) ∧ w'.cell? ⟨w.heap.size, 1, none⟩ = some (.slice A n c) ∧ w'.cell? ⟨w.heap.size, 2, none⟩ = some (.string s)) :=
    Lib.hid fun w' h => ⟨h.1.cell 0, h.1.cell 1, h.1.cell 2⟩
  have hS0 := HS.out W hK
  have hz : zig err < 18446744073709551616 := zig_lt HE.out
  have hzz : ∀ y ∈ [zig err], y < 18446744073709551616 := by simpa using hz
  have HC1 := Lib.hid (counts_nil W.heap.size 1 1 [zig err] ((hK.alloc (.cells #[.int .u64 (zig err : Nat)] 22)).drew) (by decide) ((Blk.new' W 22 _ #[.int .u64 (zig err : Nat)] rfl).drew) rfl hzz (by simp))
  have HC2 := Lib.hid (counts_nil W.heap.size 1 1 [zig err] (((hK.alloc (.cells #[.int .u64 (zig err : Nat)] 22)).alloc (.cells #[.int .u8 (x.toNat : Int)] 5)).drew) (by decide) (((Blk.new' W 22 _ #[.int .u64 (zig err : Nat)] rfl).alloc (.cells #[.int .u8 (x.toNat : Int)] 5)).drew) rfl hzz (by simp))
  have HC3 := Lib.hid (counts_nil (W.heap.size + 1) 1 1 [zig err] (((hK.alloc (.cells #[.int .u8 (x.toNat : Int)] 5)).alloc (.cells #[.int .u64 (zig err : Nat)] 22)).drew) (by decide) ((Blk.new' (W.alloc (.cells #[.int .u8 (x.toNat : Int)] 5)) 22 (W.heap.size + 1) #[.int .u64 (zig err : Nat)] (by simp)).drew) rfl hzz (by simp))
  have B2 := Lib.hid (Blk.new' (W.alloc (.cells #[.int .u64 (zig err : Nat)] 22)) 5 (W.heap.size + 1) #[.int .u8 (x.toNat : Int)] (by simp)).drew
  have B3 := Lib.hid ((Blk.new' W 5 _ #[.int .u8 (x.toNat : Int)] rfl).alloc (.cells #[.int .u64 (zig err : Nat)] 22)).drew
  have ele : (encs [zig err]).length ≤ 10 := encs_le [zig err]
  have ezz : Hid (encs [zig err] ++ [x] = enc (zig err) ++ [x]) := Lib.hid (by simp [encs])
  have hw8 : IntKind.u8.wrap (n : Int) = (x.toNat : Int) := by have := HXN.out; have := u8_lt x; rw [IntKind.wrap_u8]; omega
  clear hz hzz hK
  go_cut [4] (fun v wx => OwnB 5 wx w.heap.size v (enc (zig err) ++ [x]) ∧ Kept w 53 w.heap.size #[.int .i64 err, .slice A n c, .string s] none 0 [] wx)
  case first =>
    go_region_held3 (fun w' => w'.cell? ⟨w.heap.size, 0, none⟩ = some (.int .i64 err) ∧ w'.cell? ⟨w.heap.size, 1, none⟩ = some (.slice A n c) ∧ w'.cell? ⟨w.heap.size, 2, none⟩ = some (.string s))
      (first | go_keep | exact HS.out _ hk2 | exact HS.out _ hk1)
      (first | (refine step_app rfl (.tmp 21) (.tmp 26) 37 rfl w.heap.size 5 info5 Try.underlying37 _ (encs [zig err]) rfl (hown1.alloc _) _ _ _ _ [x] rfl (Reads.built w1 5 [bv x]) (by simp; omega) (by have := hk1.2.2.size; simp; omega) ?_; intro v2 w2 hown2 happ2; have hk2 := (hk1.alloc _).app (hown1.alloc _) (by decide) happ2) | (refine step_app rfl (.tmp 21) (.tmp 26) 37 rfl w.heap.size 5 info5 Try.underlying37 _ (encs [zig err]) rfl hown1 _ _ _ _ [x] rfl (Reads.of_blk (cs := [bv x]) (hold1 _ _ _ B2.out)) (by simp; omega) hk1.2.2.size ?_; intro v2 w2 hown2 happ2; have hk2 := hk1.app hown1 (by decide) happ2) | (refine step_app rfl (.tmp 21) (.tmp 26) 37 rfl w.heap.size 5 info5 Try.underlying37 _ (encs [zig err]) rfl hown1 _ _ _ _ [x] rfl (Reads.of_blk (cs := [bv x]) (hold1 _ _ _ B3.out)) (by simp; omega) hk1.2.2.size ?_; intro v2 w2 hown2 happ2; have hk2 := hk1.app hown1 (by decide) happ2) | (go_at_call 74; ((with_reducible refine (zig_any err _ HE.out).mono ?_); rintro e w1 ⟨rfl, rfl⟩)) | (go_at_call 73; ((with_reducible refine HC1.out.mono ?_); rintro e w1 ⟨v1, rfl, hown1, hk1, hold1⟩)) | (go_at_call 73; ((with_reducible refine HC2.out.mono ?_); rintro e w1 ⟨v1, rfl, hown1, hk1, hold1⟩)) | (go_at_call 73; ((with_reducible refine HC3.out.mono ?_); rintro e w1 ⟨v1, rfl, hown1, hk1, hold1⟩)))
    all_goals (go_wp2_with fail; go_meet; exact ⟨by rw [← ezz.out]; exact hown2, hk2⟩)
  case rest =>
    obtain ⟨hown, hk⟩ := hcut
    clear HC1 HC2 HC3 B2 B3 ele ezz hw8 hS0
    obtain ⟨s0, s1, s2⟩ := HS.out _ hk
    obtain ⟨pre, HPRE⟩ : ∃ pre : List UInt8, Hid (pre = enc (zig err) ++ [x]) := ⟨_, rfl⟩
    rw [← HPRE.out] at hown
    have hpl : pre.length ≤ 11 := by rw [HPRE.out]; have := enc_le (zig err); simp; omega
    go_wp2_with fail
    clear s0 s1 s2
    go_loopw [4, 6, 31] (fun u _ i wr => ∃ k : Nat, k ≤ n ∧ i = .int .i64 k ∧ OwnB 5 wr w.heap.size u (pre ++ (vs.take k).flatMap valB) ∧ Kept w 53 w.heap.size #[.int .i64 err, .slice A n c, .string s] none 0 [] wr ∧ Hid (okV (vs.take k))) (fun _ _ i _ => n - (intOf i).toNat)
    case atStart => exact ⟨0, Nat.zero_le _, rfl, by simpa using hown, hk, Lib.hid (by intro v hv; simp at hv)⟩
    case round =>
      obtain ⟨k, hkn, rfl, hown, hk, HOK⟩ := hrel
      by_cases hlt : k < n
      · obtain ⟨b, off, v, rfl, hb, hv, e1, e2⟩ := RdV.at2 (Reads.below hr hk.2.2) hlt
        have HV := Lib.hid hv
        obtain ⟨hv1, hv2⟩ := HU.out v (List.mem_of_getElem? hv)
        have HV1 := Lib.hid hv1
        have HV2 := Lib.hid hv2
        have hxl : (pre ++ (vs.take k).flatMap valB).length ≤ 1000 := by
          have := vals_le (vs.take k)
          have e := RdV.len hr
          rw [List.length_take] at this
          rw [List.length_append]
          omega
        have HXL := Lib.hid hxl
        have HTK := Lib.hid (vals_take vs k v hv)
        clear hv hv1 hv2 hxl
        go_upto_region 7 with fail
        have hbv := Blk.new wr 68 #[.int .u64 (v.1 : Int), .int .i64 v.2]
        have hk1 := hk.alloc (.cells #[.int .u64 (v.1 : Int), .int .i64 v.2] 68)
        have hown1 := hown.alloc (.cells #[.int .u64 (v.1 : Int), .int .i64 v.2] 68)
        have hvlt := hbv.lt
        generalize wr.alloc (.cells #[.int .u64 (v.1 : Int), .int .i64 v.2] 68) = W1 at hbv hk1 hown1 hvlt ⊢
        clear hk hown e1 e2
        have e1 := hbv.cell 0
        simp at e1
        go_wp2_with fail
        have HC := Lib.hid (counts_one _ _ W1.heap.size v.1 hk1 (by decide) hown1 rfl HV1.out (Nat.le_trans HXL.out (by omega)))
        refine HC.out.mono ?_
        rintro e w1 ⟨v1, rfl, hown2, hk2, hh⟩
        have hbv2 := hh _ _ _ (by decide) hbv
        clear HC hh hbv hk1 hown1 e1
        have e1 := hbv2.cell 0
        have e2 := hbv2.cell 1
        simp at e1 e2
        by_cases h0 : v.1 = 0
        · have t0 : ((v.1 : Int) == 0) = true := by rw [beq_iff_eq]; omega
          have HVB : Hid (valB v = enc v.1 ++ enc (zig v.2)) := Lib.hid (by unfold valB; rw [if_pos h0])
          have HOK2 : Hid (okV (vs.take (k + 1))) := Lib.hid (okV_take HV.out HOK.out (.inl h0))
          clear h0
          go_wp2_with (go_at_call 74; ((with_reducible refine (zig_any v.2 _ HV2.out).mono ?_); rintro e w2 ⟨rfl, rfl⟩))
          have HC := Lib.hid (counts_one _ _ w1.heap.size (zig v.2) hk2 (by decide) hown2 rfl (zig_lt HV2.out) (by have := HXL.out; have h3 := enc_le v.1; rw [List.length_append]; omega))
          refine HC.out.mono ?_
          rintro e w3 ⟨v3, rfl, hown3, hk3, hh⟩
          clear HC hh
          go_wp2_with fail
          go_roundw
          case rel => exact ⟨k + 1, by omega, by go_num, by rw [HTK.out, HVB.out]; simpa using hown3, hk3, HOK2⟩
          case measure => simp [intOf]; omega
        · have t0 : ((v.1 : Int) == 0) = false := by rw [beq_eq_false_iff_ne]; omega
          by_cases h2 : v.2 = 0
          · have t1 : (v.2 != 0) = false := by rw [bne_eq_false_iff_eq]; exact h2
            have HVB : Hid (valB v = enc v.1) := Lib.hid (by unfold valB; rw [if_neg h0]; simp)
            have HOK2 : Hid (okV (vs.take (k + 1))) := Lib.hid (okV_take HV.out HOK.out (.inr h2))
            clear h0 h2
            go_wp2_with fail
            go_roundw
            case rel => exact ⟨k + 1, by omega, by go_num, by rw [HTK.out, HVB.out]; simpa using hown2, hk2, HOK2⟩
            case measure => simp [intOf]; omega
          · have t1 : (v.2 != 0) = true := by rw [bne_iff_ne]; exact h2
            have hbad : ¬ okV vs := fun h => by
              rcases h v (List.mem_of_getElem? HV.out) with q | q
              · exact h0 q
              · exact h2 q
            have HB := Lib.hid hbad
            clear h0 h2 hbad
            have hbw := hk2.2.2
            go_wp2_with fail
            go_ret2
            exact ⟨hbw, .inr ⟨fun h => HB.out h.2.2.1, rfl⟩⟩
      · go_wp2_with fail
        obtain rfl : k = n := by omega
        have e0 := RdV.len hr
        have HVN : Hid (vs.take k = vs) := Lib.hid (List.take_of_length_le (by omega))
        have hOK := HOK.out
        rw [HVN.out] at hown hOK
        have HOK2 := Lib.hid hOK
        have hxl : (pre ++ vs.flatMap valB).length ≤ 1000 := by
          have := vals_le vs
          rw [List.length_append]
          omega
        have HXL := Lib.hid hxl
        have HLV := Lib.hid e0
        clear hOK hxl HOK e0
        generalize HBB : pre ++ vs.flatMap valB = bb at hown HXL
        have HBBH := Lib.hid HBB
        clear HBB
        have hS0 := HS.out _ hk
        have HCT := Lib.hid (counts_one (w := w) _ bb wr.heap.size s.size hk (by decide) hown rfl (by omega) (by have := HXL.out; omega))
        have hC2 : Calls Try.prog 73 #[u4, .slice (some ⟨wr.heap.size, 0, none⟩) 1 1] ((wr.alloc (.cells #[.int .u64 (s.size : Int)] 22)).drew) (HoldPost w 53 w.heap.size #[.int .i64 err, .slice A k c, .string s] wr (bb ++ enc s.size)) :=
          (counts_hold (w := w) _ bb wr.heap.size 1 1 [s.size] ((hk.alloc _).drew) (by decide) ((hown.alloc _).drew) ((Blk.new' wr 22 _ #[.int .u64 (s.size : Int)] rfl).drew) rfl (by simp; omega) (by simp) (by have := HXL.out; omega)).mono fun _ _ ⟨v1, he, ho, hk, hh⟩ =>
            ⟨v1, he, by simpa [encs] using ho, hk, fun _ _ _ ht hb => hh _ _ _ ht (hb.alloc _).drew⟩
        have HC2 := Lib.hid hC2
        clear hC2 HCT
        have hsw : IntKind.u64.wrap (s.size : Int) = (s.size : Int) := by rw [IntKind.wrap_u64]; omega
        go_cut [4] (fun v wx => OwnB 5 wx w.heap.size v (bb ++ enc s.size ++ s.data.toList) ∧ Kept w 53 w.heap.size #[.int .i64 err, .slice A k c, .string s] none 0 [] wx)
        case first =>
          go_region_held3 (fun w' => w'.cell? ⟨w.heap.size, 0, none⟩ = some (.int .i64 err) ∧ w'.cell? ⟨w.heap.size, 1, none⟩ = some (.slice A k c) ∧ w'.cell? ⟨w.heap.size, 2, none⟩ = some (.string s))
            (first | go_keep | exact HS.out _ hk2 | exact HS.out _ hk1)
            (first | (refine step_app_str rfl (.tmp 61) (.tmp 63) 37 9 rfl w.heap.size 5 info5 Try.underlying37 Try.underlying9 _ (bb ++ enc s.size) rfl hown1 s rfl (by have := HXL.out; have := enc_le s.size; simp; omega) hk1.2.2.size ?_; intro v2 w2 hown2 happ2; have hk2 := hk1.grw hown1 (by decide) happ2) | (go_at_call 73; ((with_reducible refine HC2.out.mono ?_); rintro e w1 ⟨v1, rfl, hown1, hk1, hh1⟩)))
          all_goals (go_wp2_with fail; go_meet; exact ⟨hown2, hk2⟩)
        case rest =>
          obtain ⟨hown, hk⟩ := hcut
          have hrb : bb ++ enc s.size ++ s.data.toList = replyB err vs s.data.toList := by
            rw [← HBBH.out, HPRE.out, HX.out, ← HLV.out]
            have : s.data.toList.length = s.size := by rw [Array.length_toList]; rfl
            simp [replyB, this]
          rw [hrb] at hown
          generalize hR : replyB err vs s.data.toList = R at hown
          have HR := Lib.hid hR
          have HTL : Hid (s.data.toList.length = s.size) := Lib.hid (by rw [Array.length_toList]; rfl)
          have hbw := hk.2.2
          obtain ⟨A4, c4, rfl, hc4⟩ := hown.form
          clear hR hrb hc4 HC2 hS0 hsw
          by_cases h1024 : R.length ≤ 1024
          · have d3 : decide ((1024 : Int) < (R.length : Int)) = false := by simp; omega
            have HG : Hid (goodR err vs s.data.toList) := Lib.hid ⟨by rw [HLV.out]; exact hn, by rw [HTL.out]; exact ht, HOK2.out, by rw [HR.out]; exact h1024⟩
            go_wp2_with fail
            go_ret2
            exact ⟨hbw, .inl ⟨HG.out, _, rfl, by rw [HR.out]; exact hown⟩⟩
          · have d3 : decide ((1024 : Int) < (R.length : Int)) = true := by simp; omega
            have HG : Hid (¬ goodR err vs s.data.toList) := Lib.hid fun h => by have := h.2.2.2; rw [HR.out] at this; omega
            go_wp2_with fail
            go_ret2
            exact ⟨hbw, .inr ⟨HG.out, rfl⟩⟩

/-- PutReply, whatever the reply -/
theorem putr_any (err : Int) (A : Option Addr) (n c : Nat) (vs : List (Nat × Int)) (s : ByteArray) (w : World) (he : I64 err) (hr : RdV w w.heap.size A n vs)
    (hu : ∀ v ∈ vs, v.1 < 18446744073709551616 ∧ I64 v.2) :
    Calls Try.prog 96 #[.agg #[.int .i64 err, .slice A n c, .string s]] w (PutPost w (goodR err vs s.data.toList) (replyB err vs s.data.toList)) := by
  have hl := RdV.len hr
  have htl : s.data.toList.length = s.size := by rw [Array.length_toList]; rfl
  by_cases h : 32 < n ∨ 512 < s.size
  · refine (putr_long err A n c s w h).mono ?_
    rintro e w1 ⟨rfl, o, rfl⟩
    refine ⟨(Below.refl _ _).alloc (Nat.le_refl _) _, .inr ⟨fun g => ?_, rfl⟩⟩
    have h1 := g.1
    have h2 := g.2.1
    omega
  · exact putr_main err A n c vs s w he hr (by omega) (by omega) hu
end Go.Proofs.Ytjhkfpemcplaaaa
