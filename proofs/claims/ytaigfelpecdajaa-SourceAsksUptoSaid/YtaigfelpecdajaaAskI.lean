/-
  The program's Free.
-/
import Derived.Test.YtaigfelpecdajaaAskH
namespace Go.Proofs.Ytaigfelpecdajaa
open Go.RowKit

set_option maxRecDepth 20000 in
set_option maxHeartbeats 1000000 in
theorem freeOut_any (f : Nat) (t : TrF f) (cs : List Value) (B : Nat) (w : World) (h : NodeAt f w B cs t) (hB : B ≤ w.heap.size) (hw : wtT f t ≤ 1048576) :
    Calls Try.prog 13 #[.agg cs.toArray] w (SelP w w.heap.size (.slice none 0 0) (freeT f [] [] t)) := by
  match f, t, h, hw with
  | f + 1, t, h, hw =>
    have H := Lib.hid h
    obtain ⟨A1, c1, A2, c2, A3, c3, css, rfl, p1, p2, p3, p4, p5⟩ := h
    clear p1 p2 p3 p4 p5
    have HS := Lib.hid fun (o : Obj) => free_any (f + 1) t _ B w.heap.size (.slice none 0 0) (.slice none 0 0) [] [] (w.alloc o) (H.out.below ((Below.refl _ _).alloc hB o)) (OwnS.nil _ _) (OwnS.nil _ _) (.inl rfl) hB (by simp) (by simpa using Nat.le_trans hw (by decide)) (by simpa using Nat.le_trans hw (by decide))
    generalize freeT (f + 1) [] [] t = R at *
    obtain ⟨kd, nm, ns, ts, xs, pr, pl⟩ := t
    dsimp only at *
    clear hw
    go_enter Try.func13, Try.ntmps13
    go_wp2_with fail
    refine (HS.out _).mono ?_
    rintro e w' ⟨v', rfl, ho, ha⟩
    go_wp2
    go_ret
    exact ⟨_, rfl, ho, ha.from⟩
end Go.Proofs.Ytaigfelpecdajaa
