/-
  The walk of Lex.
-/
import Derived.Test.YtaigfelpecdajaaLexH
import Derived.Test.YtaigfelpecdajaaLxS
import Derived.Deep.LoopGhost
namespace Go.Proofs.Ytaigfelpecdajaa
open Go.RowKit

/-- what a lexer hands back: the tokens in a slice of the call's own, the place, the error -/
def LexP (r : List Lx.Tk × Nat × Nat) (w : World) (e : Ending) (w' : World) : Prop :=
  Below w.heap.size w w' ∧ ∃ v, e = .returned (.tuple #[v, .int .i64 (r.2.1 : Int), .int .i64 (r.2.2 : Int)]) ∧ OwnT w' w.heap.size v r.1
theorem LexP.bad_ {w w' : World} {p e : Nat} {r : List Lx.Tk × Nat × Nat} (hr : r = ([], p, e)) (hb : Below w.heap.size w w') : LexP r w (.returned (.tuple #[.slice none 0 0, .int .i64 (p : Int), .int .i64 (e : Int)])) w' := by
  subst hr
  exact ⟨hb, _, rfl, World.ownsRow_nil _ _ _ _⟩
set_option maxRecDepth 20000 in
set_option maxHeartbeats 4000000 in
theorem lex_any (s : ByteArray) (w : World) (hm : s.size ≤ 9223372036854775807) : Calls Try.prog 15 #[.string s] w (LexP (Lx.lexT s.data.toList) w) := by
  by_cases hs : 65536 < s.size
  · have HE := Lib.hid (LexP.bad_ (w := w) (w' := w) (show Lx.lexT s.data.toList = ([], 0, 2) by unfold Lx.lexT; rw [if_pos (by simpa using hs)]) (Below.refl _ _))
    go_enter Try.func15, Try.ntmps15
    go_wp2
    go_ret3
    exact HE.out
  · have hs' : s.size ≤ 65536 := by omega
    obtain ⟨R, hR⟩ : ∃ R, Lx.lexF s.data.toList s.size 0 [] = R := ⟨_, rfl⟩
    have HT : Hid (Lx.lexT s.data.toList = R) := Lib.hid (by unfold Lx.lexT; rw [if_neg (by simpa using hs)]; simpa using hR)
    have HR := Lib.hid hR
    clear hR hs
    go_enter Try.func15, Try.ntmps15
    go_wp2
    go_loopg [6] s.size (fun f s6 wr => ∃ (i : Nat) (acc : List Lx.Tk) (v : Value), s.size ≤ i + f ∧ i ≤ s.size ∧ acc.length ≤ i ∧ LxS wr w.heap.size w.heap.size s (i : Int) v acc ∧ Below w.heap.size w wr ∧ Lx.lexF s.data.toList f i acc = R)
    case atStart =>
      refine ⟨0, [], .slice none 0 0, by omega, Nat.zero_le _, Nat.le_refl _, ⟨Blk.new w 54 _, World.ownsRow_nil _ _ _ _, Nat.le_refl _⟩, (Below.refl _ _).alloc (Nat.le_refl _) _, HR.out⟩
    case round =>
      obtain ⟨i, acc, v, hif, his, hai, hS, hB, hlex⟩ := hrel
      have HS := Lib.hid hS
      have HB := Lib.hid hB
      have HL := Lib.hid hlex
      have hc1 : wr.cell? ⟨w.heap.size, 1, none⟩ = some (.int .i64 (i : Int)) := hS.1.cell 1
      have hc2 : wr.cell? ⟨w.heap.size, 2, none⟩ = some v := hS.1.cell 2
      have hg := hS.1.lt
      clear hS hB hlex
      by_cases hlt : i < s.size
      · obtain ⟨f, rfl⟩ : ∃ f, gk = f + 1 := ⟨gk - 1, by omega⟩
        have hil : i < s.data.toList.length := by simpa using hlt
        have HF := Lib.hid (Lx.stepF_fine hil)
        have HGOOD := Lib.hid fun (h : (Lx.stepF s.data.toList i).err = 0) => (Lx.lexF_good (f := f) (acc := acc) hil h).symm.trans HL.out
        have HBAD := Lib.hid fun (h : ¬ (Lx.stepF s.data.toList i).err = 0) => (Lx.lexF_bad (f := f) (acc := acc) hil h).symm.trans HL.out
        have HACC := Lib.hid fun (h : i < (Lx.stepF s.data.toList i).next) => Lx.acc_len hai h
        clear hil
        go_wp2_with fail
        refine (ltoken_any w.heap.size w.heap.size s i v acc _ HS.out HB.out.size (by omega) hs' hlt).mono ?_
        rintro e w1 ⟨hb1, hcase⟩
        have HB1 := Lib.hid (HB.out.trans hb1)
        clear hb1
        generalize Lx.stepF s.data.toList i = st at *
        rcases hcase with ⟨he, rfl, v', hS'⟩ | ⟨he, rfl⟩
        · have HS1 := Lib.hid hS'
          have HE := Lib.hid he
          have hnx := HF.out he
          have hac := HACC.out hnx.1
          have n1 := hnx.1
          have n2 := hnx.2
          have n3 : s.data.toList.length = s.size := by simp
          rw [n3] at n2
          have HG := Lib.hid (HGOOD.out he)
          clear he hS' hnx n3
          go_wp2
          go_roundg f
          case measure => omega
          case rel => exact ⟨st.next, _, v', by omega, n2, hac, HS1.out, HB1.out, HG.out⟩
        · have HE := Lib.hid (HBAD.out he)
          have d : (((st.err : Nat) : Int) != 0) = true := by rw [bne_iff_ne]; omega
          clear he
          go_wp2
          go_ret3
          exact LexP.bad_ (p := st.place) (e := st.err) (by rw [HT.out]; exact HE.out.symm) HB1.out
      · have HE := Lib.hid ((Lx.lexF_end (l := s.data.toList) (f := gk) (i := i) (acc := acc) (by simp; omega)).symm.trans HL.out)
        go_wp2
        go_ret3
        rw [HT.out]
        rw [← HE.out]
        exact ⟨HB.out, v, rfl, HS.out.2.1⟩
end Go.Proofs.Ytaigfelpecdajaa
