/-
  A reader's plain laws for WireFinds: quiet bytes are dropped, a frame is told, bytes behind which a whole frame and enough bytes come tell one packet more.
-/
import Derived.Test.YtjhkfpemcplaaaaCuts
namespace Go.Proofs.Ytjhkfpemcplaaaa
open Go.RowKit

theorem feed_nil : feed [] = ([], [], 0) := rfl
theorem feed_quiet : ∀ (q : List UInt8), (∀ y ∈ q, y ≠ 239) → feed q = ([], [], q.length) := by
  intro q
  induction q with
  | nil => intro _; exact feed_done (stepB_nil rfl)
  | cons a q ih =>
    intro h
    have hs : stepB (a :: q) = .drop := stepB_head' (by simp) (.inl (h a (List.mem_cons_self ..)))
    rw [feed_drop hs, List.tail_cons, ih fun y hy => h y (List.mem_cons_of_mem _ hy)]
    rfl
/-- the frame of a packet that may be -/
def frm (p : Pk) : List UInt8 := packB p.kind p.tok p.seq p.ack p.body
theorem step_frame {p : Pk} (h : okPk p) : stepB (frm p) = .take p (frm p).length := by
  obtain ⟨hm, h1, h2, h3⟩ := h
  have hb := (mayB_no hm).2.2
  obtain ⟨i4, i1080⟩ := inner_len p.kind p.tok p.seq p.ack p.body hb
  obtain ⟨f0, f1, f2⟩ := frame_head (innerB p.kind p.tok p.seq p.ack p.body) (by omega)
  have hl := frame_len (innerB p.kind p.tok p.seq p.ack p.body)
  have hu := unp_dec p.kind p.tok p.seq p.ack p.body h1 h2 h3 hm
  have e : (frm p).take (lenOf (frm p) + 8) = frm p := by
    unfold frm packB
    rw [f2, ← hl]
    exact List.take_length
  have hlen : lenOf (frm p) + 8 = (frm p).length := by
    unfold frm packB
    rw [f2, hl]
  have hk : ((p.kind : Nat) : Int).toNat = p.kind := Int.toNat_natCast _
  unfold stepB
  rw [e, hlen]
  have hu' : unp (frm p) = (0, p) := by
    unfold frm
    rw [hu, hk]
  rw [hu', if_neg (by unfold frm packB; rw [hl]; omega), if_neg (by unfold frm packB; rw [f0, f1]; simp), if_neg (by unfold frm packB; rw [hl]; omega), if_neg (by unfold frm packB; rw [f2]; omega), if_neg (by omega), if_pos rfl]
theorem feed_frame {p : Pk} (h : okPk p) : feed (frm p) = ([p], [], 0) := by
  rw [feed_take (step_frame h), List.drop_length, feed_nil]
/-- quiet bytes and a frame behind what left nothing waiting -/
theorem feed_round {x q : List UInt8} {p : Pk} (hx : (feed x).2.1 = []) (hq : ∀ y ∈ q, y ≠ 239) (h : okPk p) : feed (x ++ q ++ frm p) = ((feed x).1 ++ [p], [], (feed x).2.2 + q.length) := by
  have h1 : feed (x ++ q) = ((feed x).1, [], (feed x).2.2 + q.length) := by
    rw [feed_cut x q, hx, List.nil_append, feed_quiet q hq]
    simp
  rw [feed_cut (x ++ q), h1]
  simp only [List.nil_append, feed_frame h]
  simp
theorem feed_some {p : Pk} (h : okPk p) {Z : List UInt8} (hZ : 1088 ≤ Z.length) : ∀ k : List UInt8, (feed (k ++ (frm p ++ Z))).1 ≠ [] := by
  intro k
  induction k with
  | nil =>
    rw [List.nil_append, feed_take (stepB_take_app Z (step_frame h))]
    simp
  | cons a k ih =>
    cases hs : stepB (a :: k ++ (frm p ++ Z)) with
    | done =>
      have := done_lt hs
      simp only [List.length_append, List.length_cons] at this
      omega
    | drop =>
      rw [feed_drop hs]
      exact ih
    | take p' n =>
      rw [feed_take hs]
      simp
theorem sum_pos {l : List Pk} (h : l ≠ []) : 0 < (l.map packLen).sum := by
  cases l with
  | nil => exact absurd rfl h
  | cons p l =>
    have : 1 ≤ packLen p := by unfold packLen packB; rw [frame_len]; omega
    simp only [List.map_cons, List.sum_cons]
    omega
theorem finds_more {p : Pk} (h : okPk p) {x Z : List UInt8} (hZ : 1088 ≤ Z.length) : ((feed x).1.map packLen).sum < ((feed (x ++ frm p ++ Z)).1.map packLen).sum := by
  rw [List.append_assoc, feed_cut x (frm p ++ Z)]
  have := sum_pos (feed_some h hZ (feed x).2.1)
  simp only [List.map_append, List.sum_append]
  omega
end Go.Proofs.Ytjhkfpemcplaaaa
