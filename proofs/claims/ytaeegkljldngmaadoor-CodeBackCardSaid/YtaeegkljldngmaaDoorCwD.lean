/-
  The law's instrs f13. No statement of the seat is proved here.
-/
import Derived.Test.YtaeegkljldngmaaDoorCvR
namespace Go.Proofs.YtaeegkljldngmaaDoor
open Go.RowKit

def insEq (x y : Ins) : Bool := x.op == y.op && (x.a == y.a && (x.b == y.b && (x.c == y.c && x.z == y.z)))
theorem insEq_iff (x y : Ins) : insEq x y = true ↔ x = y := by
  obtain ⟨a, b, c, d, e⟩ := x
  obtain ⟨a', b', c', d', e'⟩ := y
  simp [insEq]
theorem run_neq43 (w : World) (x y : Ins) : (binOp .neq 34 (.agg #[.int .i64 x.op, .int .i64 x.a, .int .i64 x.b, .int .i64 x.c, .int .i64 x.z]) (.agg #[.int .i64 y.op, .int .i64 y.a, .int .i64 y.b, .int .i64 y.c, .int .i64 y.z])).run Tryd.prog w = .ok (.bool (!insEq x y)) w := by
  rw [run_neq_struct, show (10000 : Nat) = 9999 + 1 from rfl, run_equalIn_agg w 9999 34 _ _ (by kernel_rfl) Tryd.stoodInHeld34]
  unfold insEq
  go_simp
  by_cases h1 : x.op = y.op <;> by_cases h2 : x.a = y.a <;> by_cases h3 : x.b = y.b <;> by_cases h4 : x.c = y.c <;> by_cases h5 : x.z = y.z <;> simp [h1, h2, h3, h4, h5]
def insL : List Ins → List Ins → Bool
  | [], [] => true
  | x :: r, y :: s => insEq x y && insL r s
  | _, _ => false
theorem insL_iff : ∀ (l m : List Ins), insL l m = true ↔ l = m
  | [], [] => by simp [insL]
  | [], _ :: _ => by simp [insL]
  | _ :: _, [] => by simp [insL]
  | x :: r, y :: s => by simp [insL, insEq_iff, insL_iff r s]
theorem insL_no {l m : List Ins} (h : l ≠ m) : false = insL l m := by
  cases hb : insL l m with
  | false => rfl
  | true => exact absurd ((insL_iff l m).1 hb) h
set_option maxRecDepth 20000 in
set_option maxHeartbeats 2000000 in
theorem instrs_any (A A' : Option Addr) (n n' c c' B B' : Nat) (l l' : List Ins) (w : World) (h : RdI w B A n l) (h' : RdI w B' A' n' l') (hn : n ≤ 9223372036854775807) :
    Calls Tryd.prog 7 #[.slice A n c, .slice A' n' c'] w (SameP (insL l l') w) := by
  have hl := h.1
  have hl' := h'.1
  have z43 := zero34
  by_cases hne : n = n'
  · subst hne
    have H := Lib.hid h
    have H' := Lib.hid h'
    have HL := Lib.hid hl
    have HL' := Lib.hid hl'
    clear hl hl' h h'
    go_enter Tryd.func7, Tryd.ntmps7
    go_wp2
    go_loopw [5] (fun i wr => ∃ k m : Nat, k ≤ n ∧ i = .int .i64 k ∧ wr = w.drewN m ∧ Hid (l.take k = l'.take k)) (fun i _ => n - (intOf i).toNat)
    case atStart => exact ⟨0, 0, Nat.zero_le _, rfl, rfl, Lib.hid rfl⟩
    case round =>
      obtain ⟨k, m, hk, rfl, rfl, HT⟩ := hrel
      by_cases hlt : k < n
      · obtain ⟨x, hx⟩ : ∃ x, l[k]? = some x := ⟨_, List.getElem?_eq_getElem (by have := HL.out; omega)⟩
        obtain ⟨y, hy⟩ : ∃ y, l'[k]? = some y := ⟨_, List.getElem?_eq_getElem (by have := HL'.out; omega)⟩
        obtain ⟨b1, o1, rfl, _, q1⟩ := H.out.2 k x hx
        obtain ⟨b2, o2, rfl, _, q2⟩ := H'.out.2 k y hy
        obtain ⟨e0, e1, e2, e3, e4⟩ := cs43 q1
        obtain ⟨d0, d1, d2, d3, d4⟩ := cs43 q2
        have l1 : (0 : Int) ≤ (k : Int) := by omega
        have l2 : (k : Int) < (n : Int) := by omega
        have hcmp := fun w => run_neq43 w x y
        have G1 := Lib.hid hx
        have G2 := Lib.hid hy
        clear q1 q2 hx hy
        have HI := Lib.hid (insEq_iff x y)
        cases hxy : insEq x y with
        | true =>
          have HT2 := Lib.hid (take_next HT.out G1.out (by rw [HI.out.1 hxy]; exact G2.out))
          rw [hxy] at hcmp
          clear hxy
          simp only [Bool.not_true] at hcmp
          obtain ⟨x0, x1, x2, x3, x4⟩ := x
          obtain ⟨y0, y1, y2, y3, y4⟩ := y
          dsimp only at e0 e1 e2 e3 e4 d0 d1 d2 d3 d4 hcmp
          go_wp2
          go_quiet (fail)
          go_wp2
          go_roundw
          case rel => exact ⟨k + 1, _, by omega, by go_num, by simp [World.drewN]; rfl, HT2⟩
          case measure => simp [intOf]; omega
        | false =>
          have HF : Hid (false = insL l l') := Lib.hid (insL_no fun e => by
            have := G1.out
            rw [e, G2.out] at this
            injection this with this
            rw [HI.out.2 this.symm] at hxy
            cases hxy)
          rw [hxy] at hcmp
          clear hxy
          simp only [Bool.not_false] at hcmp
          obtain ⟨x0, x1, x2, x3, x4⟩ := x
          obtain ⟨y0, y1, y2, y3, y4⟩ := y
          dsimp only at e0 e1 e2 e3 e4 d0 d1 d2 d3 d4 hcmp
          go_wp2
          go_quiet (fail)
          go_wp2
          go_ret
          rw [show (w.drewN m).drewN _ = w.drewN (m + _) from by simp [World.drewN, Nat.add_assoc]; rfl]
          exact SameP.mk' HF.out
      · have HF : Hid (true = insL l l') := Lib.hid (by
          symm
          rw [insL_iff]
          have := HT.out
          rw [List.take_of_length_le (by have := HL.out; omega), List.take_of_length_le (by have := HL'.out; omega)] at this
          exact this)
        go_wp2
        go_ret
        exact SameP.mk' HF.out
  · have HF : Hid (false = insL l l') := Lib.hid (insL_no fun e => by
      rw [e] at hl
      omega)
    have d : ((n : Int) != (n' : Int)) = true := by rw [bne_iff_ne]; omega
    clear h h' hl hl'
    go_enter Tryd.func7, Tryd.ntmps7
    go_wp2
    go_ret
    exact SameP.mk' (m := 0) HF.out
end Go.Proofs.YtaeegkljldngmaaDoor
