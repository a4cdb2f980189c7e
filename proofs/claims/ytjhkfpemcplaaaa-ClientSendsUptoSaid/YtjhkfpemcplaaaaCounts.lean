/-
  Contracts: the program's counts and the document's Count write 'encs' behind the bytes that are there.
-/
import Derived.Test.YtjhkfpemcplaaaaEnc
import Derived.Test.YtjhkfpemcplaaaaChecked
import Derived.Outline
import Derived.WalkLawsBesides
import Derived.Deep.DeepMust
namespace Go.Proofs.Ytjhkfpemcplaaaa
open Go.RowKit

theorem info5 : (Try.prog.info? 5).map (fun i => (i.zero, i.size, i.bytes)) = some (some (.int .u8 0), 1, 1) := by kernel_rfl
def uv (n : Nat) : Value := .int .u64 (n : Int)
/-- a value that owns bs, made from v by appends alone -/
def AppPost (w : World) (base : Nat) (v : Value) (bs : List UInt8) (e : Ending) (w' : World) : Prop := ∃ v', e = .returned v' ∧ OwnB 5 w' base v' bs ∧ App w v w' v'

/-- the inner loop's relation: what is done, and what is to come -/
def InRel (base : Nat) (v0 : Value) (w0 : World) (all : List UInt8) (v n : Value) (wr : World) : Prop :=
  ∃ (q : Nat) (bs : List UInt8), n = .int .u64 q ∧ q < 18446744073709551616 ∧ OwnB 5 wr base v bs ∧ App w0 v0 wr v ∧ bs ++ enc q = all
theorem InRel.step {base : Nat} {v0 : Value} {w0 : World} {all : List UInt8} {v' : Value} {w' : World} {q : Nat} {bs : List UInt8}
    (hq : q < 18446744073709551616) (hg : ¬ q < 128) (h1 : OwnB 5 w' base v' (bs ++ [UInt8.ofNat (q % 128 + 128)])) (h2 : App w0 v0 w' v') (h3 : bs ++ enc q = all) :
    InRel base v0 w0 all v' (.int .u64 ((q / 128 : Nat) : Int)) w' :=
  ⟨q / 128, _, rfl, by omega, h1, h2, by rw [← h3, enc_big hg hq]; simp⟩

set_option maxHeartbeats 400000 in
theorem counts_any (base : Nat) (v : Value) (xs : List UInt8) (lb m c : Nat) (ns : List Nat) (w : World) (hv : OwnB 5 w base v xs) (hb : base ≤ w.heap.size)
    (hl : Blk w lb 22 (ns.map uv).toArray) (hm : m = ns.length) (hn : ∀ n ∈ ns, n < 18446744073709551616) (hns : ns.length ≤ 1000) (hsz : xs.length ≤ 1099511627776) :
    Calls Try.prog 73 #[v, .slice (some ⟨lb, 0, none⟩) m c] w (AppPost w base v (xs ++ encs ns)) := by
  subst hm
  have hle := encs_le ns
  have HN := Lib.hid hn
  clear hn
  have hne : v.ownBlock ≠ some lb := own_blk_ne hv hl (by decide)
  go_enter Try.func73, Try.ntmps73
  go_wp2
  go_loopw [0, 6, 9] (fun u _ i wr => ∃ k : Nat, k ≤ ns.length ∧ i = .int .i64 k ∧ OwnB 5 wr base u (xs ++ encs (ns.take k)) ∧ App w v wr u) (fun _ _ i _ => ns.length - (intOf i).toNat)
  case atStart => exact ⟨0, Nat.zero_le _, rfl, by simpa [encs] using hv, App.refl _ _⟩
  case round =>
    obtain ⟨k, hk, rfl, hown, happ⟩ := hrel
    by_cases hlt : k < ns.length
    · obtain ⟨n, hx⟩ : ∃ n, ns[k]? = some n := ⟨_, List.getElem?_eq_getElem hlt⟩
      have hn64 := HN.out n (List.mem_of_getElem? hx)
      have hcell : wr.cell? ⟨lb, k, none⟩ = some (.int .u64 (n : Int)) := by
        rw [(happ.blk hl hne).cell k]
        simp [uv, hx]
      have HT := Lib.hid (encs_take ns k n hx)
      have hle2 := encs_take_le ns k hk
      go_wp2
      go_loopw [0, 6] (fun u q wr => InRel base v w (xs ++ encs (ns.take (k + 1))) u q wr) (fun _ q _ => (intOf q).toNat)
      case atStart => exact ⟨n, _, rfl, hn64, hown, happ, by rw [HT.out, List.append_assoc]⟩
      case round =>
        obtain ⟨q, bs, rfl, hq, hown2, happ2, hall⟩ := hrel
        have hlen := congrArg List.length hall
        rw [HT.out] at hlen
        simp only [List.length_append] at hlen
        have hp := enc_pos q
        have hnl := enc_le n
        have hbl : bs.length + 1 ≤ 140737488355328 := by omega
        clear hlen
        have hba := Nat.le_trans hb happ2.size
        have HA := Lib.hid hall
        clear hall
        have HQ := Lib.hid hq
        have HB := Lib.hid hbl
        clear hq hbl hn64 hsz hle2 hle
        by_cases hg : q < 128
        · have hd : decide ((128 : Int) ≤ (q : Int)) = false := by simp; omega
          have HE := Lib.hid (enc_small hg)
          have hor := low8 q
          generalize UInt8.ofNat q = x at hor HE
          clear hg
          go_wp2_with (at_builtin; refine wpList_app rfl _ _ _ rfl base 5 info5 Try.underlying37 _ bs rfl (hown2.alloc _) _ _ _ _ [x] rfl (Reads.built _ _ [bv x]) (by simpa using HB.out) (by simp; omega) ?_; intro v1 w1 hown3 happ3)
          go_roundw
          case rel => exact ⟨k + 1, by omega, by go_num, by rw [← HA.out, HE.out]; exact hown3, happ2.trans happ3.from⟩
          case measure => simp [intOf]; omega
        · have hd : decide ((128 : Int) ≤ (q : Int)) = true := by simp; omega
          have hor := or128 q
          have HS := Lib.hid (fun v' w' => InRel.step (base := base) (v0 := v) (w0 := w) (v' := v') (w' := w') HQ.out hg (h3 := HA.out) (bs := bs))
          generalize UInt8.ofNat (q % 128 + 128) = x at hor HS
          have hm : q / 128 < q := by omega
          clear hg
          go_wp2_with (at_builtin; refine wpList_app rfl _ _ _ rfl base 5 info5 Try.underlying37 _ bs rfl (hown2.alloc _) _ _ _ _ [x] rfl (Reads.built _ _ [bv x]) (by simpa using HB.out) (by simp; omega) ?_; intro v1 w1 hown3 happ3)
          go_roundw
          case rel => exact HS.out v1 w1 hown3 (happ2.trans happ3.from)
          case measure => simp [intOf]; omega
    · have HE := Lib.hid (List.take_of_length_le (by omega) : ns.take k = ns)
      go_wp2
      go_ret
      exact ⟨_, rfl, by rw [HE.out] at hown; exact hown, happ⟩

set_option maxHeartbeats 400000 in
theorem rcount_any (base : Nat) (n : Nat) (w : World) (hb : base ≤ w.heap.size) (hn : n < 18446744073709551616) :
    Calls Try.prog 41 #[.int .u64 n] w (AppPost w base (.slice none 0 0) (enc n)) := by
  have HN := Lib.hid hn
  clear hn
  go_enter Try.func41, Try.ntmps41
  go_wp2
  go_loopw [0, 3] (fun q u wr => InRel base (.slice none 0 0) w (enc n) u q wr) (fun q _ _ => (intOf q).toNat)
  case atStart => exact ⟨n, [], rfl, HN.out, OwnB.nil 5 _ _, App.refl _ _, rfl⟩
  case round =>
    obtain ⟨q, bs, rfl, hq, hown2, happ2, hall⟩ := hrel
    have hlen := congrArg List.length hall
    simp only [List.length_append] at hlen
    have hp := enc_pos q
    have hnl := enc_le n
    have hbl : bs.length + 1 ≤ 140737488355328 := by omega
    clear hlen
    have hba := Nat.le_trans hb happ2.size
    have HA := Lib.hid hall
    clear hall
    have HQ := Lib.hid hq
    have HB := Lib.hid hbl
    clear hq hbl
    by_cases hg : q < 128
    · have hd : decide ((128 : Int) ≤ (q : Int)) = false := by simp; omega
      have HE := Lib.hid (enc_small hg)
      have hor := low8 q
      generalize UInt8.ofNat q = x at hor HE
      clear hg
      go_wp2_with (at_builtin; refine wpList_app rfl _ _ _ rfl base 5 info5 Try.underlying37 _ bs rfl (hown2.alloc _) _ _ _ _ [x] rfl (Reads.built _ _ [bv x]) (by simpa using HB.out) (by simp; omega) ?_; intro v1 w1 hown3 happ3)
      go_ret
      exact ⟨_, rfl, by rw [← HA.out, HE.out]; exact hown3, happ2.trans happ3.from⟩
    · have hd : decide ((128 : Int) ≤ (q : Int)) = true := by simp; omega
      have hor := add128 q
      have HS := Lib.hid (fun v' w' => InRel.step (base := base) (v0 := .slice none 0 0) (w0 := w) (v' := v') (w' := w') HQ.out hg (h3 := HA.out) (bs := bs))
      generalize UInt8.ofNat (q % 128 + 128) = x at hor HS
      have hm : q / 128 < q := by omega
      have hw : IntKind.u64.wrap ((q : Int) / 128) = (q : Int) / 128 := by
        have := HQ.out
        rw [IntKind.wrap_u64]
        omega
      clear hg
      go_wp2_with (at_builtin; refine wpList_app rfl _ _ _ rfl base 5 info5 Try.underlying37 _ bs rfl (hown2.alloc _) _ _ _ _ [x] rfl (Reads.built _ _ [bv x]) (by simpa using HB.out) (by simp; omega) ?_; intro v1 w1 hown3 happ3)
      go_roundw
      case rel => exact HS.out v1 w1 hown3 (happ2.trans happ3.from)
      case measure => simp [intOf]; omega
end Go.Proofs.Ytjhkfpemcplaaaa
