/-
  Contract of the program's PutCommand.
-/
import Derived.Test.YtjhkfpemcplaaaaPutr
namespace Go.Proofs.Ytjhkfpemcplaaaa
open Go.RowKit

/-- numbers as cells -/
abbrev RdI (w : World) (B : Nat) (A : Option Addr) (n : Nat) (ns : List Int) : Prop := Reads w B 1 A n (ns.map (Value.int .i64))
theorem RdI.len {w : World} {B n : Nat} {A : Option Addr} {ns : List Int} (h : RdI w B A n ns) : ns.length = n := by
  have := h.1
  simpa using this
theorem RdI.at1 {w : World} {B n k : Nat} {A : Option Addr} {ns : List Int} (h : RdI w B A n ns) (hk : k < n) :
    ∃ ad z, A = some ad ∧ ad.block < B ∧ ns[k]? = some z ∧ w.cell? (ad.add k) = some (.int .i64 z) := by
  obtain ⟨ad, u, rfl, hb, hx, hc⟩ := Reads.at_ h hk
  rw [List.getElem?_map] at hx
  cases hy : ns[k]? with
  | none => rw [hy] at hx; cases hx
  | some x =>
    rw [hy] at hx
    injection hx with hx
    subst hx
    exact ⟨ad, x, rfl, hb, rfl, hc⟩
def numB (z : Int) : List UInt8 := enc (zig z)
def cmdB (kind : Int) (h : Nat) (ns : List Int) (text : List UInt8) : List UInt8 := ([UInt8.ofNat kind.toNat] ++ enc h ++ [UInt8.ofNat ns.length] ++ ns.flatMap numB) ++ enc text.length ++ text
theorem nums_le (ns : List Int) : (ns.flatMap numB).length ≤ 10 * ns.length := by
  induction ns with
  | nil => simp
  | cons v l ih =>
    have := enc_le (zig v)
    simp only [List.flatMap_cons, List.length_append, List.length_cons, numB] at ih ⊢
    omega
theorem nums_take (ns : List Int) (k : Nat) (z : Int) (h : ns[k]? = some z) : (ns.take (k + 1)).flatMap numB = (ns.take k).flatMap numB ++ numB z := by
  rw [List.take_add_one, h]
  simp
/-- may the command be -/
def goodC (kind : Int) (h : Nat) (ns : List Int) (text : List UInt8) : Prop := 1 ≤ kind ∧ kind ≤ 23 ∧ ns.length ≤ 32 ∧ text.length ≤ 512 ∧ (cmdB kind h ns text).length ≤ 1024

theorem encs_one (m : Nat) : encs [m] = enc m := by simp [encs]
def HoldPost2 (w : World) (T g : Nat) (cs : Array Value) (W : World) (v0 : Value) (ys : List UInt8) (e : Ending) (w1 : World) : Prop :=
  ∃ v, e = .returned v ∧ OwnB 5 w1 w.heap.size v ys ∧ Kept w T g cs none 0 [] w1 ∧ (∀ k t ds, v0.ownBlock ≠ some k → Blk W k t ds → Blk w1 k t ds)
theorem counts_hold2 {w W : World} {T g : Nat} {cs : Array Value} (v : Value) (xs : List UInt8) (lb m c : Nat) (ns : List Nat) (h : Kept w T g cs none 0 [] W) (hT : 5 ≠ T) (hv : OwnB 5 W w.heap.size v xs)
    (hl : Blk W lb 22 (ns.map uv).toArray) (hm : m = ns.length) (hn : ∀ n ∈ ns, n < 18446744073709551616) (hns : ns.length ≤ 1000) (hsz : xs.length ≤ 1099511627776) :
    Calls Try.prog 73 #[v, .slice (some ⟨lb, 0, none⟩) m c] W (HoldPost2 w T g cs W v (xs ++ encs ns)) :=
  (counts_any w.heap.size v xs lb m c ns W hv h.2.2.size hl hm hn hns hsz).mono fun _ _ ⟨v1, he, ho, ha⟩ => ⟨v1, he, ho, h.app hv hT ha, fun _ _ _ hne hb => ha.blk hb hne⟩

set_option maxRecDepth 20000 in
set_option maxHeartbeats 2000000 in
theorem putc_long (kind : Int) (hd : Nat) (A : Option Addr) (n c : Nat) (s : ByteArray) (w : World) (h : ¬ (1 ≤ kind ∧ kind ≤ 23 ∧ n ≤ 32 ∧ s.size ≤ 512)) :
    Calls Try.prog 50 #[.agg #[.int .i64 kind, .int .u64 hd, .slice A n c, .string s]] w fun e w' => e = .returned (.tuple #[.slice none 0 0, .int .i64 173]) ∧ ∃ o, w.alloc o = w' := by
  by_cases h1 : kind < 1
  · have d1 : decide (kind < 1) = true := by simp; omega
    clear h
    go_enter Try.func50, Try.ntmps50
    go_wp2
    go_ret2
    exact ⟨rfl, _, rfl⟩
  · have d1 : decide (kind < 1) = false := by simp; omega
    by_cases h2 : 23 < kind
    · have d2 : decide (23 < kind) = true := by simp; omega
      clear h
      go_enter Try.func50, Try.ntmps50
      go_wp2
      go_ret2
      exact ⟨rfl, _, rfl⟩
    · have d2 : decide (23 < kind) = false := by simp; omega
      by_cases h3 : 32 < n
      · have d : decide ((32 : Int) < (n : Int)) = true := by simp; omega
        clear h
        go_enter Try.func50, Try.ntmps50
        go_wp2
        go_ret2
        exact ⟨rfl, _, rfl⟩
      · have d : decide ((32 : Int) < (n : Int)) = false := by simp; omega
        have h4 : 512 < s.size := by omega
        have d3 : decide ((512 : Int) < (s.size : Int)) = true := by simp; omega
        clear h
        go_enter Try.func50, Try.ntmps50
        go_wp2
        go_ret2
        exact ⟨rfl, _, rfl⟩

set_option maxRecDepth 20000 in
set_option maxHeartbeats 4000000 in
theorem putc_main (kind : Int) (hd : Nat) (A : Option Addr) (n c : Nat) (ns : List Int) (s : ByteArray) (w : World) (hka : 1 ≤ kind) (hkb : kind ≤ 23) (hh : hd < 18446744073709551616) (hr : RdI w w.heap.size A n ns) (hn : n ≤ 32) (ht : s.size ≤ 512)
    (hu : ∀ z ∈ ns, I64 z) :
    Calls Try.prog 50 #[.agg #[.int .i64 kind, .int .u64 hd, .slice A n c, .string s]] w (PutPost w (goodC kind hd ns s.data.toList) (cmdB kind hd ns s.data.toList)) := by
  obtain ⟨x, HX⟩ : ∃ x : UInt8, Hid (x = UInt8.ofNat n) := ⟨_, rfl⟩
  have hx8 : (n : Int) = (x.toNat : Int) := by rw [HX.out]; simp only [UInt8.toNat_ofNat']; omega
  have HXN := Lib.hid hx8
  obtain ⟨y, HY⟩ : ∃ x : UInt8, Hid (x = UInt8.ofNat kind.toNat) := ⟨_, rfl⟩
  have hy8 : kind = (y.toNat : Int) := by rw [HY.out]; simp only [UInt8.toNat_ofNat']; omega
  have HYN := Lib.hid hy8
  clear hx8 hy8
  have hK : Kept w 35 w.heap.size #[.int .i64 kind, .int .u64 hd, .slice A n c, .string s] none 0 [] (w.alloc (.cells #[.int .i64 kind, .int .u64 hd, .slice A n c, .string s] 35)) :=
    ⟨Blk.new w _ _, Reads.none_, (Below.refl _ _).alloc (Nat.le_refl _) _⟩
  have d1 : decide (kind < 1) = false := by simp; omega
  have d2 : decide (23 < kind) = false := by simp; omega
  have d : decide ((32 : Int) < (n : Int)) = false := by simp; omega
  have d3 : decide ((512 : Int) < (s.size : Int)) = false := by simp; omega
  have HU := Lib.hid hu
  have HKR := Lib.hid (And.intro hka hkb)
  have HH := Lib.hid hh
  clear hu
  go_enter Try.func50, Try.ntmps50
  go_upto_region 3 with fail
  generalize (w.alloc (.cells #[.int .i64 kind, .int .u64 hd, .slice A n c, .string s] 35)) = W at hK ⊢
  have HS : Hid (∀ w' : World, Kept w 35 w.heap.size #[.int .i64 kind, .int .u64 hd, .slice A n c, .string s] none 0 [] w' → w'.cell? ⟨w.heap.size, 0, none⟩ = some (.int .i64 kind) ∧ w'.cell? ⟨w.heap.size, 1, none⟩ = some (.int .u64 hd) ∧ w'.cell? ⟨w.heap.size, 2, none⟩ = some (.slice A n c) ∧ w'.cell? ⟨w.heap.size, 3, none⟩ = some (.string s)) :=
    Lib.hid fun w' h => ⟨h.1.cell 0, h.1.cell 1, h.1.cell 2, h.1.cell 3⟩
  have hS0 := HS.out W hK
  have hw8 : IntKind.u8.wrap (n : Int) = (x.toNat : Int) := by have := HXN.out; have := u8_lt x; rw [IntKind.wrap_u8]; omega
  have hv8 : IntKind.u8.wrap kind = (y.toNat : Int) := by have := HYN.out; have := u8_lt y; rw [IntKind.wrap_u8]; omega
  have hsz : w.heap.size ≤ W.heap.size := hK.2.2.size
  have eh := enc_le hd
  have HK := Lib.hid hK
  have hh1 : ∀ z ∈ [hd], z < 18446744073709551616 := by simpa using hh
  have HC1 := Lib.hid (counts_hold2 (w := w) (.slice (some ⟨W.heap.size, 0, none⟩) 1 1) [y] (W.heap.size + 1) 1 1 [hd] ((hK.alloc (.cells #[.int .u8 (y.toNat : Int)] 5)).alloc (.cells #[.int .u64 (hd : Int)] 22)).drew (by decide) ((OwnB.built' 5 W w.heap.size W.heap.size #[.int .u8 (y.toNat : Int)] [y] (by first | exact hsz | (simp; omega)) rfl (by simp) rfl).alloc (.cells #[.int .u64 (hd : Int)] 22)).drew (Blk.new' (W.alloc (.cells #[.int .u8 (y.toNat : Int)] 5)) 22 (W.heap.size + 1) #[.int .u64 (hd : Int)] (by simp)).drew rfl hh1 (by simp) (by simp))
  have HC2 := Lib.hid (counts_hold2 (w := w) (.slice (some ⟨(W.heap.size + 1), 0, none⟩) 1 1) [y] W.heap.size 1 1 [hd] ((hK.alloc (.cells #[.int .u64 (hd : Int)] 22)).alloc (.cells #[.int .u8 (y.toNat : Int)] 5)).drew (by decide) (OwnB.built' 5 (W.alloc (.cells #[.int .u64 (hd : Int)] 22)) w.heap.size (W.heap.size + 1) #[.int .u8 (y.toNat : Int)] [y] (by first | exact hsz | (simp; omega)) (by simp) (by simp) rfl).drew ((Blk.new' W 22 W.heap.size #[.int .u64 (hd : Int)] rfl).alloc (.cells #[.int .u8 (y.toNat : Int)] 5)).drew rfl hh1 (by simp) (by simp))
  have HC3 := Lib.hid (counts_hold2 (w := w) (.slice (some ⟨W.heap.size, 0, none⟩) 1 1) [y] (W.heap.size + 1) 1 1 [hd] (((hK.alloc (.cells #[.int .u8 (y.toNat : Int)] 5)).alloc (.cells #[.int .u64 (hd : Int)] 22)).alloc (.cells #[.int .u8 (x.toNat : Int)] 5)).drew (by decide) (((OwnB.built' 5 W w.heap.size W.heap.size #[.int .u8 (y.toNat : Int)] [y] (by first | exact hsz | (simp; omega)) rfl (by simp) rfl).alloc (.cells #[.int .u64 (hd : Int)] 22)).alloc (.cells #[.int .u8 (x.toNat : Int)] 5)).drew ((Blk.new' (W.alloc (.cells #[.int .u8 (y.toNat : Int)] 5)) 22 (W.heap.size + 1) #[.int .u64 (hd : Int)] (by simp)).alloc (.cells #[.int .u8 (x.toNat : Int)] 5)).drew rfl hh1 (by simp) (by simp))
  have HB3 := Lib.hid (Blk.new' ((W.alloc (.cells #[.int .u8 (y.toNat : Int)] 5)).alloc (.cells #[.int .u64 (hd : Int)] 22)) 5 (W.heap.size + 1 + 1) #[.int .u8 (x.toNat : Int)] (by simp)).drew
  have HC4 := Lib.hid (counts_hold2 (w := w) (.slice (some ⟨W.heap.size, 0, none⟩) 1 1) [y] (W.heap.size + 1 + 1) 1 1 [hd] (((hK.alloc (.cells #[.int .u8 (y.toNat : Int)] 5)).alloc (.cells #[.int .u8 (x.toNat : Int)] 5)).alloc (.cells #[.int .u64 (hd : Int)] 22)).drew (by decide) (((OwnB.built' 5 W w.heap.size W.heap.size #[.int .u8 (y.toNat : Int)] [y] (by first | exact hsz | (simp; omega)) rfl (by simp) rfl).alloc (.cells #[.int .u8 (x.toNat : Int)] 5)).alloc (.cells #[.int .u64 (hd : Int)] 22)).drew (Blk.new' ((W.alloc (.cells #[.int .u8 (y.toNat : Int)] 5)).alloc (.cells #[.int .u8 (x.toNat : Int)] 5)) 22 (W.heap.size + 1 + 1) #[.int .u64 (hd : Int)] (by simp)).drew rfl hh1 (by simp) (by simp))
  have HB4 := Lib.hid ((Blk.new' (W.alloc (.cells #[.int .u8 (y.toNat : Int)] 5)) 5 (W.heap.size + 1) #[.int .u8 (x.toNat : Int)] (by simp)).alloc (.cells #[.int .u64 (hd : Int)] 22)).drew
  have HC5 := Lib.hid (counts_hold2 (w := w) (.slice (some ⟨(W.heap.size + 1), 0, none⟩) 1 1) [y] W.heap.size 1 1 [hd] (((hK.alloc (.cells #[.int .u64 (hd : Int)] 22)).alloc (.cells #[.int .u8 (y.toNat : Int)] 5)).alloc (.cells #[.int .u8 (x.toNat : Int)] 5)).drew (by decide) ((OwnB.built' 5 (W.alloc (.cells #[.int .u64 (hd : Int)] 22)) w.heap.size (W.heap.size + 1) #[.int .u8 (y.toNat : Int)] [y] (by first | exact hsz | (simp; omega)) (by simp) (by simp) rfl).alloc (.cells #[.int .u8 (x.toNat : Int)] 5)).drew (((Blk.new' W 22 W.heap.size #[.int .u64 (hd : Int)] rfl).alloc (.cells #[.int .u8 (y.toNat : Int)] 5)).alloc (.cells #[.int .u8 (x.toNat : Int)] 5)).drew rfl hh1 (by simp) (by simp))
  have HB5 := Lib.hid (Blk.new' ((W.alloc (.cells #[.int .u64 (hd : Int)] 22)).alloc (.cells #[.int .u8 (y.toNat : Int)] 5)) 5 (W.heap.size + 1 + 1) #[.int .u8 (x.toNat : Int)] (by simp)).drew
  have HC6 := Lib.hid (counts_hold2 (w := w) (.slice (some ⟨(W.heap.size + 1 + 1), 0, none⟩) 1 1) [y] W.heap.size 1 1 [hd] (((hK.alloc (.cells #[.int .u64 (hd : Int)] 22)).alloc (.cells #[.int .u8 (x.toNat : Int)] 5)).alloc (.cells #[.int .u8 (y.toNat : Int)] 5)).drew (by decide) (OwnB.built' 5 ((W.alloc (.cells #[.int .u64 (hd : Int)] 22)).alloc (.cells #[.int .u8 (x.toNat : Int)] 5)) w.heap.size (W.heap.size + 1 + 1) #[.int .u8 (y.toNat : Int)] [y] (by first | exact hsz | (simp; omega)) (by simp) (by simp) rfl).drew (((Blk.new' W 22 W.heap.size #[.int .u64 (hd : Int)] rfl).alloc (.cells #[.int .u8 (x.toNat : Int)] 5)).alloc (.cells #[.int .u8 (y.toNat : Int)] 5)).drew rfl hh1 (by simp) (by simp))
  have HB6 := Lib.hid ((Blk.new' (W.alloc (.cells #[.int .u64 (hd : Int)] 22)) 5 (W.heap.size + 1) #[.int .u8 (x.toNat : Int)] (by simp)).alloc (.cells #[.int .u8 (y.toNat : Int)] 5)).drew
  have HC7 := Lib.hid (counts_hold2 (w := w) (.slice (some ⟨(W.heap.size + 1), 0, none⟩) 1 1) [y] (W.heap.size + 1 + 1) 1 1 [hd] (((hK.alloc (.cells #[.int .u8 (x.toNat : Int)] 5)).alloc (.cells #[.int .u8 (y.toNat : Int)] 5)).alloc (.cells #[.int .u64 (hd : Int)] 22)).drew (by decide) ((OwnB.built' 5 (W.alloc (.cells #[.int .u8 (x.toNat : Int)] 5)) w.heap.size (W.heap.size + 1) #[.int .u8 (y.toNat : Int)] [y] (by first | exact hsz | (simp; omega)) (by simp) (by simp) rfl).alloc (.cells #[.int .u64 (hd : Int)] 22)).drew (Blk.new' ((W.alloc (.cells #[.int .u8 (x.toNat : Int)] 5)).alloc (.cells #[.int .u8 (y.toNat : Int)] 5)) 22 (W.heap.size + 1 + 1) #[.int .u64 (hd : Int)] (by simp)).drew rfl hh1 (by simp) (by simp))
  have HB7 := Lib.hid (((Blk.new' W 5 W.heap.size #[.int .u8 (x.toNat : Int)] rfl).alloc (.cells #[.int .u8 (y.toNat : Int)] 5)).alloc (.cells #[.int .u64 (hd : Int)] 22)).drew
  have HC8 := Lib.hid (counts_hold2 (w := w) (.slice (some ⟨(W.heap.size + 1 + 1), 0, none⟩) 1 1) [y] (W.heap.size + 1) 1 1 [hd] (((hK.alloc (.cells #[.int .u8 (x.toNat : Int)] 5)).alloc (.cells #[.int .u64 (hd : Int)] 22)).alloc (.cells #[.int .u8 (y.toNat : Int)] 5)).drew (by decide) (OwnB.built' 5 ((W.alloc (.cells #[.int .u8 (x.toNat : Int)] 5)).alloc (.cells #[.int .u64 (hd : Int)] 22)) w.heap.size (W.heap.size + 1 + 1) #[.int .u8 (y.toNat : Int)] [y] (by first | exact hsz | (simp; omega)) (by simp) (by simp) rfl).drew ((Blk.new' (W.alloc (.cells #[.int .u8 (x.toNat : Int)] 5)) 22 (W.heap.size + 1) #[.int .u64 (hd : Int)] (by simp)).alloc (.cells #[.int .u8 (y.toNat : Int)] 5)).drew rfl hh1 (by simp) (by simp))
  have HB8 := Lib.hid (((Blk.new' W 5 W.heap.size #[.int .u8 (x.toNat : Int)] rfl).alloc (.cells #[.int .u64 (hd : Int)] 22)).alloc (.cells #[.int .u8 (y.toNat : Int)] 5)).drew
  clear hK hh hh1
  go_cut [4] (fun v wx => OwnB 5 wx w.heap.size v ([y] ++ enc hd ++ [x]) ∧ Kept w 35 w.heap.size #[.int .i64 kind, .int .u64 hd, .slice A n c, .string s] none 0 [] wx)
  case first =>
    go_region_held3 (fun w' => w'.cell? ⟨w.heap.size, 0, none⟩ = some (.int .i64 kind) ∧ w'.cell? ⟨w.heap.size, 1, none⟩ = some (.int .u64 hd) ∧ w'.cell? ⟨w.heap.size, 2, none⟩ = some (.slice A n c) ∧ w'.cell? ⟨w.heap.size, 3, none⟩ = some (.string s))
      (first | exact HS.out _ hk2 | exact HS.out _ hk1 | exact HS.out _ (hk1.alloc _) | exact HS.out _ HK.out.drew | exact HS.out _ (Kept.alloc HK.out _).drew | exact HS.out _ (Kept.alloc (Kept.alloc HK.out _) _).drew | exact HS.out _ (Kept.alloc (Kept.alloc (Kept.alloc HK.out _) _) _).drew)
      (first | (refine step_app rfl (.tmp 34) (.tmp 39) 37 rfl w.heap.size 5 info5 Try.underlying37 _ ([y] ++ enc hd) rfl (hown1.alloc _) _ _ _ _ [x] rfl (Reads.built w1 5 [bv x]) (by simp; omega) (by have := hk1.2.2.size; simp; omega) ?_; intro v2 w2 hown2 happ2; have hk2 := (hk1.alloc _).app (hown1.alloc _) (by decide) happ2) | (refine step_app rfl (.tmp 34) (.tmp 39) 37 rfl w.heap.size 5 info5 Try.underlying37 _ ([y] ++ enc hd) rfl hown1 _ _ _ _ [x] rfl (Reads.of_blk (cs := [bv x]) (hold1 _ _ _ (by simp only [Value.ownBlock, ne_eq, Option.some.injEq]; omega) HB3.out)) (by simp; omega) hk1.2.2.size ?_; intro v2 w2 hown2 happ2; have hk2 := hk1.app hown1 (by decide) happ2) | (refine step_app rfl (.tmp 34) (.tmp 39) 37 rfl w.heap.size 5 info5 Try.underlying37 _ ([y] ++ enc hd) rfl hown1 _ _ _ _ [x] rfl (Reads.of_blk (cs := [bv x]) (hold1 _ _ _ (by simp only [Value.ownBlock, ne_eq, Option.some.injEq]; omega) HB4.out)) (by simp; omega) hk1.2.2.size ?_; intro v2 w2 hown2 happ2; have hk2 := hk1.app hown1 (by decide) happ2) | (refine step_app rfl (.tmp 34) (.tmp 39) 37 rfl w.heap.size 5 info5 Try.underlying37 _ ([y] ++ enc hd) rfl hown1 _ _ _ _ [x] rfl (Reads.of_blk (cs := [bv x]) (hold1 _ _ _ (by simp only [Value.ownBlock, ne_eq, Option.some.injEq]; omega) HB5.out)) (by simp; omega) hk1.2.2.size ?_; intro v2 w2 hown2 happ2; have hk2 := hk1.app hown1 (by decide) happ2) | (refine step_app rfl (.tmp 34) (.tmp 39) 37 rfl w.heap.size 5 info5 Try.underlying37 _ ([y] ++ enc hd) rfl hown1 _ _ _ _ [x] rfl (Reads.of_blk (cs := [bv x]) (hold1 _ _ _ (by simp only [Value.ownBlock, ne_eq, Option.some.injEq]; omega) HB6.out)) (by simp; omega) hk1.2.2.size ?_; intro v2 w2 hown2 happ2; have hk2 := hk1.app hown1 (by decide) happ2) | (refine step_app rfl (.tmp 34) (.tmp 39) 37 rfl w.heap.size 5 info5 Try.underlying37 _ ([y] ++ enc hd) rfl hown1 _ _ _ _ [x] rfl (Reads.of_blk (cs := [bv x]) (hold1 _ _ _ (by simp only [Value.ownBlock, ne_eq, Option.some.injEq]; omega) HB7.out)) (by simp; omega) hk1.2.2.size ?_; intro v2 w2 hown2 happ2; have hk2 := hk1.app hown1 (by decide) happ2) | (refine step_app rfl (.tmp 34) (.tmp 39) 37 rfl w.heap.size 5 info5 Try.underlying37 _ ([y] ++ enc hd) rfl hown1 _ _ _ _ [x] rfl (Reads.of_blk (cs := [bv x]) (hold1 _ _ _ (by simp only [Value.ownBlock, ne_eq, Option.some.injEq]; omega) HB8.out)) (by simp; omega) hk1.2.2.size ?_; intro v2 w2 hown2 happ2; have hk2 := hk1.app hown1 (by decide) happ2) | (go_at_call 73; ((with_reducible refine HC1.out.mono ?_); rintro e w1 ⟨v1, rfl, hown1, hk1, hold1⟩; rw [encs_one] at hown1)) | (go_at_call 73; ((with_reducible refine HC2.out.mono ?_); rintro e w1 ⟨v1, rfl, hown1, hk1, hold1⟩; rw [encs_one] at hown1)) | (go_at_call 73; ((with_reducible refine HC3.out.mono ?_); rintro e w1 ⟨v1, rfl, hown1, hk1, hold1⟩; rw [encs_one] at hown1)) | (go_at_call 73; ((with_reducible refine HC4.out.mono ?_); rintro e w1 ⟨v1, rfl, hown1, hk1, hold1⟩; rw [encs_one] at hown1)) | (go_at_call 73; ((with_reducible refine HC5.out.mono ?_); rintro e w1 ⟨v1, rfl, hown1, hk1, hold1⟩; rw [encs_one] at hown1)) | (go_at_call 73; ((with_reducible refine HC6.out.mono ?_); rintro e w1 ⟨v1, rfl, hown1, hk1, hold1⟩; rw [encs_one] at hown1)) | (go_at_call 73; ((with_reducible refine HC7.out.mono ?_); rintro e w1 ⟨v1, rfl, hown1, hk1, hold1⟩; rw [encs_one] at hown1)) | (go_at_call 73; ((with_reducible refine HC8.out.mono ?_); rintro e w1 ⟨v1, rfl, hown1, hk1, hold1⟩; rw [encs_one] at hown1)))
    all_goals (go_wp2_with fail; go_meet; exact ⟨hown2, hk2⟩)
  case rest =>
    obtain ⟨hown, hk⟩ := hcut
    clear HC1 HC2 HC3 HC4 HC5 HC6 HC7 HC8 HB3 HB4 HB5 HB6 HB7 HB8 eh hw8 hv8 hS0 HK hsz
    obtain ⟨s0, s1, s2, s3⟩ := HS.out _ hk
    obtain ⟨pre, HPRE⟩ : ∃ pre : List UInt8, Hid (pre = [y] ++ enc hd ++ [x]) := ⟨_, rfl⟩
    rw [← HPRE.out] at hown
    have hpl : pre.length ≤ 12 := by rw [HPRE.out]; have := enc_le hd; simp; omega
    go_wp2_with fail
    clear s0 s1 s2 s3
    go_loopw [4, 6, 44] (fun u _ i wr => ∃ k : Nat, k ≤ n ∧ i = .int .i64 k ∧ OwnB 5 wr w.heap.size u (pre ++ (ns.take k).flatMap numB) ∧ Kept w 35 w.heap.size #[.int .i64 kind, .int .u64 hd, .slice A n c, .string s] none 0 [] wr) (fun _ _ i _ => n - (intOf i).toNat)
    case atStart => exact ⟨0, Nat.zero_le _, rfl, by simpa using hown, hk⟩
    case round =>
      obtain ⟨k, hkn, rfl, hown, hk⟩ := hrel
      by_cases hlt : k < n
      · obtain ⟨ad, z, rfl, hb, hv, e1⟩ := RdI.at1 (Reads.below hr hk.2.2) hlt
        have HZ := Lib.hid (HU.out z (List.mem_of_getElem? hv))
        have hxl : (pre ++ (ns.take k).flatMap numB).length ≤ 1000 := by
          have := nums_le (ns.take k)
          have e := RdI.len hr
          rw [List.length_take] at this
          rw [List.length_append]
          omega
        have HXL := Lib.hid hxl
        have HTK := Lib.hid (nums_take ns k z hv)
        clear hv hxl
        have l1 : (0 : Int) ≤ (k : Int) := by omega
        have l2 : (k : Int) < (n : Int) := by omega
        go_wp2_with (go_at_call 74; ((with_reducible refine (zig_any z _ HZ.out).mono ?_); rintro e w2 ⟨rfl, rfl⟩))
        have HC := Lib.hid (counts_one _ _ wr.heap.size (zig z) hk (by decide) hown rfl (zig_lt HZ.out) (by have := HXL.out; omega))
        refine HC.out.mono ?_
        rintro e w3 ⟨v3, rfl, hown3, hk3, hh⟩
        clear HC hh
        go_wp2_with fail
        go_roundw
        case rel => exact ⟨k + 1, by omega, by go_num, by rw [HTK.out]; simpa [numB] using hown3, hk3⟩
        case measure => simp [intOf]; omega
      · go_wp2_with fail
        obtain rfl : k = n := by omega
        have e0 := RdI.len hr
        have HVN : Hid (ns.take k = ns) := Lib.hid (List.take_of_length_le (by omega))
        rw [HVN.out] at hown
        have hxl : (pre ++ ns.flatMap numB).length ≤ 1000 := by
          have := nums_le ns
          rw [List.length_append]
          omega
        have HXL := Lib.hid hxl
        have HLV := Lib.hid e0
        clear hxl e0
        generalize HBB : pre ++ ns.flatMap numB = bb at hown HXL
        have HBBH := Lib.hid HBB
        clear HBB
        have hS0 := HS.out _ hk
        have hC2 : Calls Try.prog 73 #[u4, .slice (some ⟨wr.heap.size, 0, none⟩) 1 1] ((wr.alloc (.cells #[.int .u64 (s.size : Int)] 22)).drew) (HoldPost w 35 w.heap.size #[.int .i64 kind, .int .u64 hd, .slice A k c, .string s] wr (bb ++ enc s.size)) :=
          (counts_hold (w := w) _ bb wr.heap.size 1 1 [s.size] ((hk.alloc _).drew) (by decide) ((hown.alloc _).drew) ((Blk.new' wr 22 _ #[.int .u64 (s.size : Int)] rfl).drew) rfl (by simp; omega) (by simp) (by have := HXL.out; omega)).mono fun _ _ ⟨v1, he, ho, hk, hh⟩ =>
            ⟨v1, he, by simpa [encs] using ho, hk, fun _ _ _ ht hb => hh _ _ _ ht (hb.alloc _).drew⟩
        have HC2 := Lib.hid hC2
        clear hC2
        have hsw : IntKind.u64.wrap (s.size : Int) = (s.size : Int) := by rw [IntKind.wrap_u64]; omega
        go_cut [4] (fun v wx => OwnB 5 wx w.heap.size v (bb ++ enc s.size ++ s.data.toList) ∧ Kept w 35 w.heap.size #[.int .i64 kind, .int .u64 hd, .slice A k c, .string s] none 0 [] wx)
        case first =>
          go_region_held3 (fun w' => w'.cell? ⟨w.heap.size, 0, none⟩ = some (.int .i64 kind) ∧ w'.cell? ⟨w.heap.size, 1, none⟩ = some (.int .u64 hd) ∧ w'.cell? ⟨w.heap.size, 2, none⟩ = some (.slice A k c) ∧ w'.cell? ⟨w.heap.size, 3, none⟩ = some (.string s))
            (first | go_keep | exact HS.out _ hk2 | exact HS.out _ hk1)
            (first | (refine step_app_str rfl (.tmp 60) (.tmp 62) 37 9 rfl w.heap.size 5 info5 Try.underlying37 Try.underlying9 _ (bb ++ enc s.size) rfl hown1 s rfl (by have := HXL.out; have := enc_le s.size; simp; omega) hk1.2.2.size ?_; intro v2 w2 hown2 happ2; have hk2 := hk1.grw hown1 (by decide) happ2) | (go_at_call 73; ((with_reducible refine HC2.out.mono ?_); rintro e w1 ⟨v1, rfl, hown1, hk1, hh1⟩)))
          all_goals (go_wp2_with fail; go_meet; exact ⟨hown2, hk2⟩)
        case rest =>
          obtain ⟨hown, hk⟩ := hcut
          have hrb : bb ++ enc s.size ++ s.data.toList = cmdB kind hd ns s.data.toList := by
            rw [← HBBH.out, HPRE.out, HX.out, HY.out, ← HLV.out]
            have : s.data.toList.length = s.size := by rw [Array.length_toList]; rfl
            simp [cmdB, this]
          rw [hrb] at hown
          generalize hR : cmdB kind hd ns s.data.toList = R at hown
          have HR := Lib.hid hR
          have HTL : Hid (s.data.toList.length = s.size) := Lib.hid (by rw [Array.length_toList]; rfl)
          have hbw := hk.2.2
          obtain ⟨A4, c4, rfl, hc4⟩ := hown.form
          clear hR hrb hc4 HC2 hS0 hsw
          by_cases h1024 : R.length ≤ 1024
          · have d5 : decide ((1024 : Int) < (R.length : Int)) = false := by simp; omega
            have HG : Hid (goodC kind hd ns s.data.toList) := Lib.hid ⟨HKR.out.1, HKR.out.2, by rw [HLV.out]; exact hn, by rw [HTL.out]; exact ht, by rw [HR.out]; exact h1024⟩
            go_wp2_with fail
            go_ret2
            exact ⟨hbw, .inl ⟨HG.out, _, rfl, by rw [HR.out]; exact hown⟩⟩
          · have d5 : decide ((1024 : Int) < (R.length : Int)) = true := by simp; omega
            have HG : Hid (¬ goodC kind hd ns s.data.toList) := Lib.hid fun h => by have := h.2.2.2.2; rw [HR.out] at this; omega
            go_wp2_with fail
            go_ret2
            exact ⟨hbw, .inr ⟨HG.out, rfl⟩⟩

/-- PutCommand, whatever the command -/
theorem putc_any (kind : Int) (hd : Nat) (A : Option Addr) (n c : Nat) (ns : List Int) (s : ByteArray) (w : World) (hh : hd < 18446744073709551616) (hr : RdI w w.heap.size A n ns) (hu : ∀ z ∈ ns, I64 z) :
    Calls Try.prog 50 #[.agg #[.int .i64 kind, .int .u64 hd, .slice A n c, .string s]] w (PutPost w (goodC kind hd ns s.data.toList) (cmdB kind hd ns s.data.toList)) := by
  have hl := RdI.len hr
  have htl : s.data.toList.length = s.size := by rw [Array.length_toList]; rfl
  by_cases h : 1 ≤ kind ∧ kind ≤ 23 ∧ n ≤ 32 ∧ s.size ≤ 512
  · exact putc_main kind hd A n c ns s w h.1 h.2.1 hh hr h.2.2.1 h.2.2.2 hu
  · refine (putc_long kind hd A n c s w h).mono ?_
    rintro e w1 ⟨rfl, o, rfl⟩
    refine ⟨(Below.refl _ _).alloc (Nat.le_refl _) _, .inr ⟨fun g => h ⟨g.1, g.2.1, ?_, ?_⟩, rfl⟩⟩
    · have := g.2.2.1; omega
    · have := g.2.2.2.1; omega
end Go.Proofs.Ytjhkfpemcplaaaa
