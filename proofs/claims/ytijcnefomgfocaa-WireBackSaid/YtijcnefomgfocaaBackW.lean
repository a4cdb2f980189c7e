/-
  The walk of WireBack: it returns true, and writes nothing that was there.
-/
import Derived.Test.YtijcnefomgfocaaCrcLaw
import Derived.Test.YtijcnefomgfocaaSamec
import Derived.Test.YtijcnefomgfocaaSamer
import Derived.Test.YtijcnefomgfocaaPutc
import Derived.Test.YtijcnefomgfocaaAwake
import Derived.Deep.DeepCutAuto
import Derived.Deep.CutBlock
import Derived.LoopTactic
import Derived.IntWalk
import Derived.StillTailTactics
namespace Go.Proofs.Ytijcnefomgfocaa
open Go.RowKit

/-- three boxes, and all that was there -/
def BK (w : World) (cp cc cr : Array Value) (W : World) : Prop := Blk W w.heap.size 26 cp ∧ Blk W (w.heap.size + 1) 56 cc ∧ Blk W (w.heap.size + 2) 43 cr ∧ Below w.heap.size w W
section
variable {w W W' : World} {cp cc cr : Array Value}
theorem BK.below (h : BK w cp cc cr W) (hb : Below W.heap.size W W') : BK w cp cc cr W' :=
  ⟨h.1.below hb h.1.lt, h.2.1.below hb h.2.1.lt, h.2.2.1.below hb h.2.2.1.lt, h.2.2.2.trans (hb.mono h.2.2.2.size)⟩
theorem BK.alloc (h : BK w cp cc cr W) (o : Obj) : BK w cp cc cr (W.alloc o) := h.below ((Below.refl _ _).alloc (Nat.le_refl _) o)
theorem BK.start (w : World) (cp cc cr : Array Value) : BK w cp cc cr (((w.alloc (.cells cp 26)).alloc (.cells cc 56)).alloc (.cells cr 43)) :=
  ⟨((Blk.new w 26 cp).alloc _).alloc _, (Blk.new' _ 56 (w.heap.size + 1) cc (by simp)).alloc _, Blk.new' _ 43 (w.heap.size + 2) cr (by simp), (((Below.refl _ _).alloc (Nat.le_refl _) _).alloc (by simp) _).alloc (by simp; omega) _⟩
theorem BK.rd (h : BK w cp cc cr W) {size n : Nat} {A : Option Addr} {xs : List Value} (hr : Reads w w.heap.size size A n xs) : Reads W W.heap.size size A n xs := (hr.below h.2.2.2).more h.2.2.2.size
end
theorem sameB_refl (k : Int) (t s a : Nat) (bs : List UInt8) : sameB k k t t s s a a bs bs = true := by simp [sameB]
theorem str_back (s : ByteArray) : (⟨s.data.toList.toArray⟩ : ByteArray) = s := by simp
theorem getc_back (kind : Int) (hd : Nat) (ns : List Int) (s : ByteArray) (hh : hd < 18446744073709551616) (hn : ∀ z ∈ ns, I64 z) (hg : goodC kind hd ns s.data.toList) (A : Option Addr) (n c : Nat) (w : World)
    (hr : RdB w w.heap.size A n (cmdB kind hd ns s.data.toList)) (hc : n ≤ c) (hm : n ≤ 9223372036854775807) :
    Calls Try.prog 26 #[.slice A n c] w fun e w' => Below w.heap.size w w' ∧ ∃ A n c, e = .returned (.tuple #[.agg #[.int .i64 kind, .int .u64 (hd : Int), .slice A n c, .string s], .int .i64 0]) ∧ RdI w' w'.heap.size A n ns := by
  obtain ⟨h1, h2, h3, h4⟩ := cmd_dec kind hd ns s.data.toList hh hn hg
  refine (getc_any A n c _ w hr hc hm).mono fun e w' ⟨hb, h⟩ => ⟨hb, ?_⟩
  rw [h1, h2, h3, h4] at h
  dsimp only at h
  rw [str_back] at h
  rcases h with ⟨_, h⟩ | ⟨h, _⟩
  · exact h
  · exact absurd ⟨rfl, rfl, hg⟩ h
theorem getr_back (err : Int) (vs : List (Nat × Int)) (s : ByteArray) (he : I64 err) (hv : ∀ v ∈ vs, v.1 < 18446744073709551616 ∧ I64 v.2) (hg : goodR err vs s.data.toList) (A : Option Addr) (n c : Nat) (w : World)
    (hr : RdB w w.heap.size A n (replyB err vs s.data.toList)) (hc : n ≤ c) (hm : n ≤ 9223372036854775807) :
    Calls Try.prog 21 #[.slice A n c] w fun e w' => Below w.heap.size w w' ∧ ∃ A n c, e = .returned (.tuple #[.agg #[.int .i64 err, .slice A n c, .string s], .int .i64 0]) ∧ RdV w' w'.heap.size A n vs := by
  obtain ⟨h1, h2, h3⟩ := rep_dec err vs s.data.toList he hv hg
  refine (getr_any A n c _ w hr hc hm).mono fun e w' ⟨hb, h⟩ => ⟨hb, ?_⟩
  rw [h1, h2, h3] at h
  dsimp only at h
  rw [str_back] at h
  rcases h with ⟨_, h⟩ | ⟨h, _⟩
  · exact h
  · exact absurd ⟨rfl, rfl, hg⟩ h

/-- the packet's body in the loop: bytes of the call's own -/
def QL (W : World) (B g m : Nat) (cs : Array Value) (A : Option Addr) (c : Nat) (wr : World) : Prop :=
  Below B W wr ∧ Blk wr g 26 cs ∧ ∃ zs : List Int, wr.ownsRow B 5 1 (.slice A m c) m (zs.map (Value.int .u8))
theorem QL.start {W w5 : World} {B g c : Nat} {cs : Array Value} {A : Option Addr} {bs : List UInt8} (hb : Below B W w5) (hd : Blk w5 g 26 cs) (ho : OwnB 5 w5 B (.slice A bs.length c) bs) : QL W B g bs.length cs A c w5 := by
  refine ⟨hb, hd, bs.map fun x => (x.toNat : Int), ?_⟩
  rw [List.map_map]
  exact ho
theorem QL.at_ {W wr : World} {B g m j c : Nat} {cs : Array Value} {A : Option Addr} (h : QL W B g m cs A c wr) (hj : j < m) :
    ∃ b z, A = some ⟨b, 0, none⟩ ∧ wr.cell? ⟨b, j, none⟩ = some (.int .u8 z) ∧ wr.frozen? ⟨b, j, none⟩ = false ∧ ∀ y : Int, QL W B g m cs A c (wr.setCell ⟨b, j, none⟩ (.int .u8 y)) := by
  obtain ⟨hb, hd, zs, ho⟩ := h
  obtain ⟨b, cap, hv, hB, hlt⟩ := ho.form (by omega)
  injection hv with hA _ _
  subst hA
  have hl : zs.length = m := by have := ho.1; simpa using this
  obtain ⟨z, hz⟩ : ∃ z, zs[j]? = some z := ⟨_, List.getElem?_eq_getElem (by omega)⟩
  have hc := ho.cells (g := b) rfl j (.int .u8 z) (by rw [List.getElem?_map, hz]; rfl)
  rw [show (⟨b, 0, none⟩ : Addr).add j = ⟨b, j, none⟩ from by simp [Addr.add]; omega] at hc
  refine ⟨b, z, rfl, hc, ho.frozenAt j, fun y => ⟨hb.setCell hB _, hd.far ?_ _, zs.set j y, ?_⟩⟩
  · intro e
    exact own_blk_ne ho hd (by decide) (by simp [Value.ownBlock, e])
  · rw [List.map_set]
    exact (ho.stored j _).1
/-- the frame's bytes in the loop that changes four of them -/
def CL (w : World) (B n : Nat) (A : Option Addr) (c : Nat) (F : List UInt8) (y x j : Nat) (wr : World) : Prop :=
  Below w.heap.size w wr ∧ wr.ownsRow B 5 1 (.slice A n c) n ((chg F y x j).map bv)
theorem CL.at_ {w wr : World} {B n y x j c : Nat} {A : Option Addr} {F : List UInt8} (h : CL w B n A c F y x j wr) (hB : w.heap.size ≤ B) (hF : F.length = n) (hj : y + j < n) :
    ∃ b, A = some ⟨b, 0, none⟩ ∧ wr.cell? ⟨b, y + j, none⟩ = some (.int .u8 (((chg F y x j).getD (y + j) 0).toNat : Int)) ∧ wr.frozen? ⟨b, y + j, none⟩ = false ∧
      ∀ z : Int, z = (((chg F y x j).getD (y + j) 0 ^^^ UInt8.ofNat (x / 2 ^ (8 * j))).toNat : Int) → CL w B n A c F y x (j + 1) (wr.setCell ⟨b, y + j, none⟩ (.int .u8 z)).drew := by
  obtain ⟨hb, ho⟩ := h
  obtain ⟨b, cap, hv, hB2, hlt⟩ := ho.form (by omega)
  injection hv with hA _ _
  subst hA
  have hl := chg_len F y x j
  have hz : (chg F y x j)[y + j]? = some ((chg F y x j).getD (y + j) 0) := by
    rw [List.getD, List.getElem?_eq_getElem (by omega)]
    rfl
  have hc := ho.cells (g := b) rfl (y + j) (.int .u8 (((chg F y x j).getD (y + j) 0).toNat : Int)) (by rw [List.getElem?_map, hz]; rfl)
  rw [show (⟨b, 0, none⟩ : Addr).add (y + j) = ⟨b, y + j, none⟩ from by simp [Addr.add]; omega] at hc
  refine ⟨b, rfl, hc, ho.frozenAt _, fun z hz => ⟨(hb.setCell (by show _ ≤ b; omega) _).drew, ?_⟩⟩
  have h2 := (ho.stored (y + j) (.int .u8 z)).1
  rw [hz] at h2
  show (wr.setCell ⟨b, y + j, none⟩ (.int .u8 z)).ownsRow B 5 1 _ n ((chg F y x (j + 1)).map bv)
  rw [chg, List.map_set, hz]
  exact h2
theorem xor_byte (u : UInt8) (x j : Nat) : bits .xor .u8 (u.toNat : Int) ((x : Int) / 2 ^ (8 * j) % 256) = ((u ^^^ UInt8.ofNat (x / 2 ^ (8 * j))).toNat : Int) := by
  have hu := u8_lt u
  have e : ((x : Int) / 2 ^ (8 * j) % 256) = ((x / 2 ^ (8 * j) % 256 : Nat) : Int) := by
    rw [Int.natCast_emod, Int.natCast_ediv, Int.natCast_pow]
    rfl
  have hb : x / 2 ^ (8 * j) % 256 < 256 := Nat.mod_lt _ (by omega)
  rw [e, UInt8.toNat_xor, ofNat_toNat]
  generalize x / 2 ^ (8 * j) % 256 = b at hb
  exact u8_xor_nat u.toNat b hu hb
theorem idx_facts (y j n : Nat) (h : y + j < n) (hj : j < 4) (hn : n ≤ 9223372036854775807) :
    IntKind.i64.wrap ((y : Int) + (j : Int)) = (y : Int) + (j : Int) ∧ (0 : Int) ≤ (y : Int) + (j : Int) ∧ ((y : Int) + (j : Int)).toNat = y + j ∧ (y : Int) + (j : Int) < (n : Int) ∧ IntKind.i64.wrap (8 * (j : Int)) = 8 * (j : Int) ∧ (0 : Int) ≤ 8 * (j : Int) :=
  ⟨IntWalk.i64_in _ (by omega), by omega, by omega, by omega, IntWalk.i64_in _ (by omega), by omega⟩
theorem PutPost.form2 {w w1 : World} {good : Prop} {bytes : List UInt8} {e : Ending} (h : PutPost w good bytes e w1) :
    ∃ A n c e6, e = .returned (.tuple #[.slice A n c, .int .i64 e6]) ∧ Below w.heap.size w w1 ∧ Hid ((good ∧ e6 = 0 ∧ RdB w1 w1.heap.size A n bytes ∧ n ≤ c ∧ n ≤ 9223372036854775807) ∨ (e6 = 173)) := by
  obtain ⟨hb, ⟨hg, v, rfl, ho⟩ | ⟨hg, rfl⟩⟩ := h
  · obtain ⟨A, c, rfl, h1, h2⟩ := OwnB.form ho
    unfold maxLen at h2
    exact ⟨A, _, c, 0, rfl, hb, Lib.hid (.inl ⟨hg, rfl, OwnB.reads ho rfl, h1, by omega⟩)⟩
  · exact ⟨none, 0, 0, 173, rfl, hb, Lib.hid (.inr rfl)⟩

set_option maxRecDepth 20000 in
set_option maxHeartbeats 4000000 in
theorem back_any (haw : ∀ w : World, Calls Try.prog 17 #[] w fun e w' => e = .returned (.bool true) ∧ Below w.heap.size w w')
    (pk : Int) (pt ps pa : Nat) (pA : Option Addr) (pn pc : Nat) (pbs : List UInt8) (hpt : pt < 18446744073709551616) (hps : ps < 18446744073709551616) (hpa : pa < 18446744073709551616)
    (kind : Int) (hd : Nat) (cA : Option Addr) (cn cc : Nat) (ns : List Int) (cs : ByteArray) (hhd : hd < 18446744073709551616) (hns : ∀ z ∈ ns, I64 z)
    (err : Int) (rA : Option Addr) (rn rc : Nat) (vs : List (Nat × Int)) (rs : ByteArray) (herr : I64 err) (hvs : ∀ v ∈ vs, v.1 < 18446744073709551616 ∧ I64 v.2)
    (at_ : Int) (hat : I64 at_) (ch : Nat) (hch : ch < 4294967296) (w : World)
    (hp : RdB w w.heap.size pA pn pbs) (hc : RdI w w.heap.size cA cn ns) (hr : RdV w w.heap.size rA rn vs) (hcm : cn ≤ 9223372036854775807) (hrm : rn ≤ 9223372036854775807) :
    Calls Try.prog 10 #[.agg #[.int .i64 pk, .int .u64 pt, .int .u64 ps, .int .u64 pa, .slice pA pn pc], .agg #[.int .i64 kind, .int .u64 hd, .slice cA cn cc, .string cs], .agg #[.int .i64 err, .slice rA rn rc, .string rs], .int .i64 at_, .int .u32 ch] w
      fun e w' => e = .returned (.bool true) ∧ Below w.heap.size w w' := by
  obtain rfl : pbs.length = pn := hp.len1
  have HAW := Lib.hid haw
  have HP := Lib.hid hp
  have HC := Lib.hid hc
  have HR := Lib.hid hr
  clear haw hp hc hr
  go_enter Try.func10, Try.ntmps10
  go_wp2_with fail
  have hk := BK.start w #[.int .i64 pk, .int .u64 pt, .int .u64 ps, .int .u64 pa, .slice pA pbs.length pc] #[.int .i64 kind, .int .u64 hd, .slice cA cn cc, .string cs] #[.int .i64 err, .slice rA rn rc, .string rs]
  generalize (((w.alloc (.cells #[.int .i64 pk, .int .u64 pt, .int .u64 ps, .int .u64 pa, .slice pA pbs.length pc] 26)).alloc (.cells #[.int .i64 kind, .int .u64 hd, .slice cA cn cc, .string cs] 56)).alloc (.cells #[.int .i64 err, .slice rA rn rc, .string rs] 43)) = W at hk ⊢
  refine (HAW.out _).mono ?_
  rintro e w1 ⟨rfl, hb1⟩
  have hk1 := hk.below hb1
  clear hb1 hk W HAW
  have c0 := hk1.2.1.cell 0
  have c1 := hk1.2.1.cell 1
  have c2 := hk1.2.1.cell 2
  have c3 := hk1.2.1.cell 3
  simp at c0 c1 c2 c3
  have H1 := Lib.hid (putc_any kind hd cA cn cc ns cs w1 hhd (hk1.rd HC.out) hns)
  go_wp2_with fail
  refine H1.out.mono ?_
  intro e w2 hpost
  obtain ⟨A5, n5, c5, e6, rfl, hb1, HCC⟩ := hpost.form2
  have hk2 := hk1.below hb1
  clear H1 hpost hb1 hk1 c0 c1 c2 c3 w1
  go_upto_if 33 with fail
  go_cut [] (fun wx => BK w #[.int .i64 pk, .int .u64 pt, .int .u64 ps, .int .u64 pa, .slice pA pbs.length pc] #[.int .i64 kind, .int .u64 hd, .slice cA cn cc, .string cs] #[.int .i64 err, .slice rA rn rc, .string rs] wx)
  case first =>
    rcases HCC.out with ⟨hg, rfl, hr5, hn5, hm5⟩ | rfl
    · have H2 := Lib.hid (getc_back kind hd ns cs hhd hns hg A5 n5 c5 w2 hr5 hn5 hm5)
      clear hg hr5 hn5 hm5 HCC
      go_wp2_with fail
      refine H2.out.mono ?_
      rintro e w3 ⟨hb3, Ad, nd, cd, rfl, hrd⟩
      have hk3 := hk2.below hb3
      clear hb3 hk2 H2 w2
      go_upto_region 6 with fail
      have hd4 := Blk.new w3 56 #[.int .i64 kind, .int .u64 hd, .slice Ad nd cd, .string cs]
      have hk4 := hk3.alloc (.cells #[.int .i64 kind, .int .u64 hd, .slice Ad nd cd, .string cs] 56)
      have hrd4 := (hrd.alloc (Nat.le_refl _) (.cells #[.int .i64 kind, .int .u64 hd, .slice Ad nd cd, .string cs] 56)).more (B' := (w3.alloc (.cells #[.int .i64 kind, .int .u64 hd, .slice Ad nd cd, .string cs] 56)).heap.size) (by simp)
      generalize (w3.alloc (.cells #[.int .i64 kind, .int .u64 hd, .slice Ad nd cd, .string cs] 56)) = W4 at hd4 hk4 hrd4 ⊢
      generalize w3.heap.size = gd at hd4 ⊢
      clear hk3 hrd w3
      have hrc4 := hk4.rd HC.out
      obtain rfl : nd = cn := by rw [← RdI.len hrd4, ← RdI.len hrc4]
      have c0 := hk4.2.1.cell 0
      have c1 := hk4.2.1.cell 1
      have c2 := hk4.2.1.cell 2
      have c3 := hk4.2.1.cell 3
      have d0 := hd4.cell 0
      have d1 := hd4.cell 1
      have d2 := hd4.cell 2
      have d3 := hd4.cell 3
      simp at c0 c1 c2 c3 d0 d1 d2 d3
      have H3 := Lib.hid (samec_any kind hd cA Ad nd cc cd cs ns W4 hrc4 hrd4 hcm)
      clear hrc4 hrd4
      go_wp2_with fail
      refine H3.out.mono ?_
      rintro e w5 ⟨rfl, hb5⟩
      have hk5 := hk4.below hb5
      clear H3 hk4 hd4 c0 c1 c2 c3 d0 d1 d2 d3
      go_wp2_with fail
      go_meet
      exact hk5
    · go_wp2_with fail
      go_meet
      exact hk2
  case rest =>
  have hk1 := hcut
  clear hcut HCC hk2
  rename_i wc
  go_upto_region 8 with fail
  have c0 := hk1.2.2.1.cell 0
  have c1 := hk1.2.2.1.cell 1
  have c2 := hk1.2.2.1.cell 2
  simp at c0 c1 c2
  have H1 := Lib.hid (putr_any err rA rn rc vs rs wc herr (hk1.rd HR.out) hvs)
  go_wp2_with fail
  refine H1.out.mono ?_
  intro e w2 hpost
  obtain ⟨A5, n5, c5, e6, rfl, hb1, HCC⟩ := hpost.form2
  have hk2 := hk1.below hb1
  clear H1 hpost hb1 hk1 c0 c1 c2 wc
  go_upto_if 53 with fail
  go_cut [] (fun wx => BK w #[.int .i64 pk, .int .u64 pt, .int .u64 ps, .int .u64 pa, .slice pA pbs.length pc] #[.int .i64 kind, .int .u64 hd, .slice cA cn cc, .string cs] #[.int .i64 err, .slice rA rn rc, .string rs] wx)
  case first =>
    rcases HCC.out with ⟨hg, rfl, hr5, hn5, hm5⟩ | rfl
    · have H2 := Lib.hid (getr_back err vs rs herr hvs hg A5 n5 c5 w2 hr5 hn5 hm5)
      clear hg hr5 hn5 hm5 HCC
      go_wp2_with fail
      refine H2.out.mono ?_
      rintro e w3 ⟨hb3, Ad, nd, cd, rfl, hrd⟩
      have hk3 := hk2.below hb3
      clear hb3 hk2 H2 w2
      go_upto_region 11 with fail
      have hd4 := Blk.new w3 43 #[.int .i64 err, .slice Ad nd cd, .string rs]
      have hk4 := hk3.alloc (.cells #[.int .i64 err, .slice Ad nd cd, .string rs] 43)
      have hrd4 := (hrd.alloc (Nat.le_refl _) (.cells #[.int .i64 err, .slice Ad nd cd, .string rs] 43)).more (B' := (w3.alloc (.cells #[.int .i64 err, .slice Ad nd cd, .string rs] 43)).heap.size) (by simp)
      generalize (w3.alloc (.cells #[.int .i64 err, .slice Ad nd cd, .string rs] 43)) = W4 at hd4 hk4 hrd4 ⊢
      generalize w3.heap.size = gd at hd4 ⊢
      clear hk3 hrd w3
      have hrc4 := hk4.rd HR.out
      obtain rfl : nd = rn := by rw [← RdV.len hrd4, ← RdV.len hrc4]
      have c0 := hk4.2.2.1.cell 0
      have c1 := hk4.2.2.1.cell 1
      have c2 := hk4.2.2.1.cell 2
      have d0 := hd4.cell 0
      have d1 := hd4.cell 1
      have d2 := hd4.cell 2
      simp at c0 c1 c2 d0 d1 d2
      have H3 := Lib.hid (samer_any err rA Ad nd rc cd rs vs W4 hrc4 hrd4 hrm)
      clear hrc4 hrd4
      go_wp2_with fail
      refine H3.out.mono ?_
      rintro e w5 ⟨rfl, hb5⟩
      have hk5 := hk4.below hb5
      clear H3 hk4 hd4 c0 c1 c2 d0 d1 d2
      go_wp2_with fail
      go_meet
      exact hk5
    · go_wp2_with fail
      go_meet
      exact hk2
  case rest =>
  have hk1 := hcut
  clear hcut HCC hk2 HC HR
  rename_i wc
  go_upto_region 13 with fail
  have c0 := hk1.1.cell 0
  have c1 := hk1.1.cell 1
  have c2 := hk1.1.cell 2
  have c3 := hk1.1.cell 3
  have c4 := hk1.1.cell 4
  simp at c0 c1 c2 c3 c4
  cases hm : mayB pk pbs.length
  · have H1 := Lib.hid (pack_bad pk pt ps pa pA pbs.length pc wc hm)
    clear hm
    go_wp2_with fail
    refine H1.out.mono ?_
    rintro e w2 ⟨rfl, o, o', rfl⟩
    have hb2 := ((hk1.alloc o).alloc o').2.2.2
    clear H1 hk1 c0 c1 c2 c3 c4
    go_wp2_with fail
    go_ret
    exact ⟨ret_bool (by simp), hb2⟩
  · have H1 := Lib.hid (pack_ok pk pt ps pa pA pbs.length pc pbs wc (hk1.rd HP.out) hm hpt hps hpa)
    go_wp2_with fail
    refine H1.out.mono ?_
    rintro e w2 ⟨v, rfl, hown, hb2⟩
    have hk2 := hk1.below hb2
    have HWC := Lib.hid hk1.2.2.2.size
    obtain ⟨k1, k7, hpn⟩ := mayB_no hm
    have hkk : ((pk.toNat : Nat) : Int) = pk := by omega
    have HU := Lib.hid (unp_dec pk pt ps pa pbs hpt hps hpa hm)
    have HSZ : Hid (∀ u : Unit, 12 ≤ (packB pk pt ps pa pbs).length) := Lib.hid fun _ => by
      have := (inner_len pk pt ps pa pbs (by omega)).1
      unfold packB
      rw [frame_len]
      omega
    have HCH : Hid (∀ a ch : Nat, a + 3 < (packB pk pt ps pa pbs).length → ch ≠ 0 → ch < 4294967296 → unp (chg (packB pk pt ps pa pbs) a ch 4) = (170, Pk.zero) ∨ unp (chg (packB pk pt ps pa pbs) a ch 4) = (171, Pk.zero)) :=
      Lib.hid fun a ch h1 h2 h3 => unp_changed _ a ch h1 h2 h3
    clear H1 hk1 hb2 k1 k7 hm hpt hps hpa c0 c1 c2 c3 c4
    generalize packB pk pt ps pa pbs = F at hown HU HSZ HCH
    obtain ⟨Af, cf, rfl, hfc, hfm⟩ := OwnB.form hown
    have hF := OwnB.reads hown rfl
    have HOWN := Lib.hid hown
    have H3 := Lib.hid (unp_any Af F.length cf F w2 hF hfc)
    rw [HU.out] at H3
    unfold UnpPost at H3
    dsimp only at H3
    rw [hkk] at H3
    have HKK := Lib.hid hkk
    clear hkk
    have HFC := Lib.hid hfc
    have HFM := Lib.hid hfm
    clear hown hfc hfm
    go_wp2_with fail
    refine H3.out.mono ?_
    rintro e w3 ⟨Aq, cq, rfl, hownq, hb3⟩
    go_upto_region 17 with fail
    have hd4 := Blk.new w3 26 #[.int .i64 pk, .int .u64 pt, .int .u64 ps, .int .u64 pa, .slice Aq pbs.length cq]
    have hb4 := hb3.alloc hb3.size (.cells #[.int .i64 pk, .int .u64 pt, .int .u64 ps, .int .u64 pa, .slice Aq pbs.length cq] 26)
    have ho4 := World.ownsRow.alloc hownq (.cells #[.int .i64 pk, .int .u64 pt, .int .u64 ps, .int .u64 pa, .slice Aq pbs.length cq] 26)
    generalize (w3.alloc (.cells #[.int .i64 pk, .int .u64 pt, .int .u64 ps, .int .u64 pa, .slice Aq pbs.length cq] 26)) = W4 at hd4 hb4 ho4 ⊢
    generalize w3.heap.size = gd at hd4 ⊢
    clear hb3 hownq H3 w3
    have hk4 := hk2.below hb4
    have c0 := hk4.1.cell 0
    have c1 := hk4.1.cell 1
    have c2 := hk4.1.cell 2
    have c3 := hk4.1.cell 3
    have c4 := hk4.1.cell 4
    have d0 := hd4.cell 0
    have d1 := hd4.cell 1
    have d2 := hd4.cell 2
    have d3 := hd4.cell 3
    have d4 := hd4.cell 4
    simp at c0 c1 c2 c3 c4 d0 d1 d2 d3 d4
    have H4 := Lib.hid (same_any pk pk pt pt ps ps pa pa pA Aq pbs.length pbs.length pc cq W4.heap.size W4.heap.size pbs pbs W4 (hk4.rd HP.out) (OwnB.reads ho4 rfl) (Nat.le_refl _) (Nat.le_refl _))
    rw [sameB_refl] at H4
    have hsz : decide ((F.length : Int) < 12) = false := by have := HSZ.out (); simp; omega
    go_wp2_with fail
    refine H4.out.mono ?_
    rintro e w5 ⟨rfl, hw5⟩
    have hb5 : Below W4.heap.size W4 w5 := by rw [← hw5]; exact ((Below.refl _ _).alloc (Nat.le_refl _) _).alloc (by simp) _
    have hd5 := hd4.below hb5 hd4.lt
    have ho5 := OwnB.below ho4 hb5
    have hb25 := hb4.trans (hb5.mono hb4.size)
    clear hw5 hb5 H4 hd4 ho4 hb4 hk4 c0 c1 c2 c3 c4 d0 d1 d2 d3 d4 W4
    go_wp2_with fail
    have h5 := QL.start hb25 hd5 ho5
    clear hb25 hd5 ho5
    go_loopw [22] (fun i wr => ∃ j : Nat, j ≤ pbs.length ∧ i = .int .i64 j ∧ QL w2 w2.heap.size gd pbs.length #[.int .i64 pk, .int .u64 pt, .int .u64 ps, .int .u64 pa, .slice Aq pbs.length cq] Aq cq wr) (fun i _ => pbs.length - (intOf i).toNat)
    case atStart => exact ⟨0, Nat.zero_le _, rfl, h5⟩
    case round =>
      obtain ⟨j, hj, rfl, h6⟩ := hrel
      clear h5
      have d4 := h6.2.1.cell 4
      simp at d4
      by_cases hlt : j < pbs.length
      · obtain ⟨b, z, rfl, hcell, hfz, hset⟩ := h6.at_ hlt
        have HSET := Lib.hid hset
        clear hset
        go_wp2_with fail
        go_roundw
        case rel => exact ⟨j + 1, by omega, by go_num, HSET.out _⟩
        case measure => simp [intOf]; omega
      · have h7 := h6.1
        clear h6
        go_upto_region 23 with fail
        have hk6 := hk2.below h7
        have hF6 := (hF.below h7).more h7.size
        have ho6 := OwnB.below HOWN.out h7
        clear h7 hk2 hF HOWN hlt hj d4
        have H3 := Lib.hid (unp_any Af F.length cf F wr hF6 HFC.out)
        rw [HU.out] at H3
        unfold UnpPost at H3
        dsimp only at H3
        rw [HKK.out] at H3
        clear hF6
        go_wp2_with fail
        refine H3.out.mono ?_
        rintro e w7 ⟨Ar, cr, rfl, hownq, hb7⟩
        go_upto_region 24 with fail
        have hd8 := Blk.new w7 26 #[.int .i64 pk, .int .u64 pt, .int .u64 ps, .int .u64 pa, .slice Ar pbs.length cr]
        have hb8 := hb7.alloc hb7.size (.cells #[.int .i64 pk, .int .u64 pt, .int .u64 ps, .int .u64 pa, .slice Ar pbs.length cr] 26)
        have hr8 := World.ownsRow.alloc hownq (.cells #[.int .i64 pk, .int .u64 pt, .int .u64 ps, .int .u64 pa, .slice Ar pbs.length cr] 26)
        generalize (w7.alloc (.cells #[.int .i64 pk, .int .u64 pt, .int .u64 ps, .int .u64 pa, .slice Ar pbs.length cr] 26)) = W8 at hd8 hb8 hr8 ⊢
        generalize w7.heap.size = gr at hd8 ⊢
        have hk8 := hk6.below hb8
        have ho8 := OwnB.below ho6 hb8
        clear hb7 hownq H3 hk6 hb8 ho6
        have c0 := hk8.1.cell 0
        have c1 := hk8.1.cell 1
        have c2 := hk8.1.cell 2
        have c3 := hk8.1.cell 3
        have c4 := hk8.1.cell 4
        have d0 := hd8.cell 0
        have d1 := hd8.cell 1
        have d2 := hd8.cell 2
        have d3 := hd8.cell 3
        have d4 := hd8.cell 4
        simp at c0 c1 c2 c3 c4 d0 d1 d2 d3 d4
        have H4 := Lib.hid (same_any pk pk pt pt ps ps pa pa pA Ar pbs.length pbs.length pc cr W8.heap.size W8.heap.size pbs pbs W8 (hk8.rd HP.out) (OwnB.reads hr8 rfl) (Nat.le_refl _) (Nat.le_refl _))
        rw [sameB_refl] at H4
        go_wp2_with fail
        refine H4.out.mono ?_
        rintro e w9 ⟨rfl, hw9⟩
        have hb9 : Below W8.heap.size W8 w9 := by rw [← hw9]; exact ((Below.refl _ _).alloc (Nat.le_refl _) _).alloc (by simp) _
        have hk9 := (hk8.below hb9).2.2.2
        have ho9 := OwnB.below ho8 hb9
        clear hw9 hb9 H4 hd8 hr8 hk8 ho8 c0 c1 c2 c3 c4 d0 d1 d2 d3 d4 HU HKK HP
        go_upto_if 123 with fail
        go_cut [4] (fun v wx => (∃ x : Nat, x ≠ 0 ∧ x < 4294967296 ∧ v = .int .u32 (x : Int)) ∧ w9 = wx)
        case first =>
          by_cases h0 : ch = 0
          · have d : ((ch : Int) == 0) = true := by simp; omega
            clear h0
            go_wp2_with fail
            go_meet
            exact ⟨⟨1, by decide, by decide, rfl⟩, rfl⟩
          · have d : ((ch : Int) == 0) = false := by simp; omega
            have H0 := Lib.hid h0
            clear h0
            go_wp2_with fail
            go_meet
            exact ⟨⟨ch, H0.out, hch, rfl⟩, rfl⟩
        case rest =>
        obtain ⟨⟨x, hx0, hx32, rfl⟩, rfl⟩ := hcut
        have HX0 := Lib.hid hx0
        clear hx0 hch
        go_upto_if 125 with fail
        go_cut [3] (fun v wx => (∃ a : Nat, a ≤ 9223372036854775807 ∧ v = .int .i64 (a : Int)) ∧ w9 = wx)
        case first =>
          obtain ⟨ha1, ha2⟩ := hat
          by_cases h0 : at_ < 0
          · have d : decide (at_ < 0) = true := by simp; omega
            have e1 : wrap64 (at_ + 1) = at_ + 1 := by unfold wrap64; omega
            have e2 : wrap64 (-(at_ + 1)) = -(at_ + 1) := by unfold wrap64; omega
            go_wp2_with fail
            go_meet
            exact ⟨⟨(-(at_ + 1)).toNat, by omega, by congr 1; omega⟩, rfl⟩
          · have d : decide (at_ < 0) = false := by simp; omega
            go_wp2_with fail
            go_meet
            exact ⟨⟨at_.toNat, by omega, by congr 1; omega⟩, rfl⟩
        case rest =>
        obtain ⟨⟨a, ha, rfl⟩, rfl⟩ := hcut
        have hsz := HSZ.out ()
        have hfm := HFM.out
        have hfc := HFC.out
        unfold maxLen at hfm
        go_upto_block 2 with fail
        obtain ⟨y, hy, hy3⟩ : ∃ y : Nat, ((a : Int) % ((F.length : Int) - 3)) = (y : Int) ∧ y + 3 < F.length := by
          have e : ((F.length : Int) - 3) = ((F.length - 3 : Nat) : Int) := by omega
          refine ⟨a % (F.length - 3), by rw [e]; exact (Int.natCast_emod a (F.length - 3)).symm, ?_⟩
          have := Nat.mod_lt a (y := F.length - 3) (by omega)
          omega
        rw [hy]
        clear hy
        have h0 : CL w wc.heap.size F.length Af cf F y x 0 w9 := ⟨hk9, ho9⟩
        clear hk9 ho9
        go_wp2_with fail
        go_loopw [24] (fun i wr => ∃ j : Nat, j ≤ 4 ∧ i = .int .i64 j ∧ CL w wc.heap.size F.length Af cf F y x j wr) (fun i _ => 4 - (intOf i).toNat)
        case atStart => exact ⟨0, by omega, rfl, h0⟩
        case round =>
          obtain ⟨j, hj, rfl, h1⟩ := hrel
          clear h0
          by_cases hlt : j < 4
          · have hyj : y + j < F.length := by omega
            have hfl : F.length ≤ 9223372036854775807 := by omega
            obtain ⟨b, rfl, hcell, hfz, hset⟩ := h1.at_ HWC.out rfl hyj
            have HSET := Lib.hid hset
            clear hset h1
            obtain ⟨l1, l2, l3, l4, l5, l6⟩ := idx_facts y j F.length hyj hlt hfl
            go_upto_region 34 with fail
            go_still_tail 13, (by kernel_rfl)
            change wpList _ _ _ _ _ wr.drew
            go_wp2_with fail
            go_roundw
            case rel => exact ⟨j + 1, by omega, by go_num, HSET.out _ (xor_byte _ x j)⟩
            case measure => simp [intOf]; omega
          · obtain rfl : j = 4 := by omega
            have hR : RdB wr wr.heap.size Af F.length (chg F y x 4) := Reads.of_own h1.2
            have H5 := Lib.hid (unp_any Af F.length cf (chg F y x 4) wr hR HFC.out)
            have hb1 := h1.1
            clear h1 hR
            go_wp2_with fail
            refine H5.out.mono ?_
            rintro e wz ⟨Az, cz, rfl, hoz, hbz⟩
            have hend := hb1.trans (hbz.mono hb1.size)
            rcases HCH.out y x hy3 HX0.out hx32 with hu | hu
            all_goals
              rw [hu]
              clear H5 hoz hbz hu hb1
              go_wp2_with fail
              go_ret
              exact ⟨rfl, hend⟩
end Go.Proofs.Ytijcnefomgfocaa
