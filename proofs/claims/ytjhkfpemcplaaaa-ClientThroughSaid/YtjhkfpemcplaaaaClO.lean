/-
  The walks of the client's methods at a client that was not made. No statement of the seat is proved here.
-/
import Derived.Test.YtjhkfpemcplaaaaClE
namespace Go.Proofs.Ytjhkfpemcplaaaa
open Go.RowKit

/-- a client that was not made -/
def Dull (w : World) (v : Value) : Prop := ∀ w', Below w.heap.size w w' → Calls Try.prog 43 #[v] w' fun e w2 => e = .returned (.bool false) ∧ w' = w2
theorem dull_nil (w : World) : Dull w (.pointer none) := fun w' _ => made_nil w'
theorem dull_zero {w : World} {g : Nat} (h : w.cell? ⟨g, 0, none⟩ = some (.int .u64 0)) (hg : g < w.heap.size) : Dull w (.pointer (some ⟨g, 0, none⟩)) := fun w' hb => by
  have h1 : w'.cell? ⟨g, 0, none⟩ = some (.int .u64 ((0 : Nat) : Int)) := (hb.cell (p := ⟨g, 0, none⟩) hg).trans h
  exact made_at g 0 w' h1
theorem Dull.below {w w1 : World} {v : Value} (h : Dull w v) (hb : Below w.heap.size w w1) : Dull w1 v := fun w' hb2 => h w' (hb.trans (hb2.mono hb.size))
theorem Dull.here {w : World} {v : Value} (h : Dull w v) : Calls Try.prog 43 #[v] w fun e w2 => e = .returned (.bool false) ∧ w = w2 := h w (Below.refl _ _)
set_option maxRecDepth 20000 in
theorem connect_dull {w : World} {v : Value} (h : Dull w v) : Calls Try.prog 20 #[v] w fun e w' => e = .returned (.tuple #[.slice none 0 0, .int .i64 202]) ∧ w = w' := by
  have HM := Lib.hid h.here
  clear h
  go_enter Try.func20, Try.ntmps20
  go_wp2_with (go_at_call 43; refine HM.out.mono ?_; rintro e w2 ⟨rfl, rfl⟩)
  go_ret2
  exact ⟨rfl, rfl⟩
set_option maxRecDepth 20000 in
theorem bye_dull {w : World} {v : Value} (h : Dull w v) : Calls Try.prog 37 #[v] w fun e w' => e = .returned (.tuple #[.slice none 0 0, .int .i64 202]) ∧ w = w' := by
  have HM := Lib.hid h.here
  clear h
  go_enter Try.func37, Try.ntmps37
  go_wp2_with (go_at_call 43; refine HM.out.mono ?_; rintro e w2 ⟨rfl, rfl⟩)
  go_ret2
  exact ⟨rfl, rfl⟩
set_option maxRecDepth 20000 in
theorem cut_dull {w : World} {v : Value} (h : Dull w v) : Calls Try.prog 38 #[v] w fun e w' => e = .returned (.int .i64 203) ∧ w = w' := by
  have HM := Lib.hid h.here
  clear h
  go_enter Try.func38, Try.ntmps38
  go_wp2_with (go_at_call 43; refine HM.out.mono ?_; rintro e w2 ⟨rfl, rfl⟩)
  go_ret
  exact ⟨rfl, rfl⟩
set_option maxRecDepth 20000 in
theorem tick_dull {w : World} {v : Value} (n : Int) (h : Dull w v) : Calls Try.prog 24 #[v, .int .i64 n] w fun e w' => e = .returned (.slice none 0 0) ∧ w = w' := by
  have HM := Lib.hid h.here
  clear h
  go_enter Try.func24, Try.ntmps24
  go_wp2_with (go_at_call 43; refine HM.out.mono ?_; rintro e w2 ⟨rfl, rfl⟩)
  go_ret
  exact ⟨rfl, rfl⟩
set_option maxRecDepth 20000 in
theorem receive_dull {w : World} {v : Value} (A : Option Addr) (n c : Nat) (h : Dull w v) : Calls Try.prog 22 #[v, .slice A n c] w fun e w' => e = .returned (.slice none 0 0) ∧ w = w' := by
  have HM := Lib.hid h.here
  clear h
  go_enter Try.func22, Try.ntmps22
  go_wp2_with (go_at_call 43; refine HM.out.mono ?_; rintro e w2 ⟨rfl, rfl⟩)
  go_ret
  exact ⟨rfl, rfl⟩
set_option maxRecDepth 20000 in
theorem replies_dull {w : World} {v : Value} (h : Dull w v) : Calls Try.prog 25 #[v] w fun e w' => e = .returned (.slice none 0 0) ∧ w = w' := by
  have HM := Lib.hid h.here
  clear h
  go_enter Try.func25, Try.ntmps25
  go_wp2_with (go_at_call 43; refine HM.out.mono ?_; rintro e w2 ⟨rfl, rfl⟩)
  go_ret
  exact ⟨rfl, rfl⟩
set_option maxRecDepth 20000 in
theorem events_dull {w : World} {v : Value} (h : Dull w v) : Calls Try.prog 26 #[v] w fun e w' => e = .returned (.slice none 0 0) ∧ w = w' := by
  have HM := Lib.hid h.here
  clear h
  go_enter Try.func26, Try.ntmps26
  go_wp2_with (go_at_call 43; refine HM.out.mono ?_; rintro e w2 ⟨rfl, rfl⟩)
  go_ret
  exact ⟨rfl, rfl⟩
def zst : Value := .agg #[.int .u64 0, .bool false, .bool false, .int .u64 0, .int .u64 0, .int .u64 0, .int .i64 0, .bool false, .int .i64 0]
set_option maxRecDepth 20000 in
theorem state_dull {w : World} {v : Value} (h : Dull w v) : Calls Try.prog 15 #[v] w fun e w' => e = .returned zst ∧ Below w.heap.size w w' := by
  have HM := Lib.hid fun o => h (w.alloc o) ((Below.refl _ _).alloc (Nat.le_refl _) o)
  have z45 : ∀ w : World, (zeroValue 45).run Try.prog w = .ok (.agg #[.int .u64 0, .bool false, .bool false, .int .u64 0, .int .u64 0, .int .u64 0, .int .i64 0, .bool false, .int .i64 0]) w := fun w => by kernel_rfl
  clear h
  go_enter Try.func15, Try.ntmps15
  go_wp2_with (go_at_call 43; refine (HM.out _).mono ?_; rintro e w2 ⟨rfl, rfl⟩)
  exact bodyPost_ret (v := zst) (by simp [results, Try.results15, go_sem, zst]) rfl ⟨rfl, (Below.refl _ _).alloc (Nat.le_refl _) _⟩
set_option maxRecDepth 20000 in
set_option maxHeartbeats 2000000 in
theorem issue_dull {w : World} {v : Value} (kind : Int) (hd : Nat) (A : Option Addr) (n cc : Nat) (ns : List Int) (s : ByteArray) (good : Bool) (h : Dull w v) (hh : hd < 18446744073709551616) (hr : RdI w w.heap.size A n ns) (hu : ∀ z ∈ ns, I64 z) (hgd : good = true ↔ goodC kind hd ns s.data.toList) :
    Calls Try.prog 21 #[v, .agg #[.int .i64 kind, .int .u64 (hd : Int), .slice A n cc, .string s]] w fun e w' => e = .returned (.tuple #[.int .u64 0, .slice none 0 0, .int .i64 (if good then 202 else 173)]) ∧ Below w.heap.size w w' := by
  have hb1 : Below w.heap.size w (w.alloc (.cells #[.int .i64 kind, .int .u64 (hd : Int), .slice A n cc, .string s] 35)) := (Below.refl _ _).alloc (Nat.le_refl _) _
  have HB1 := Lib.hid hb1
  have HP := Lib.hid (putc_any kind hd A n cc ns s (w.alloc (.cells #[.int .i64 kind, .int .u64 (hd : Int), .slice A n cc, .string s] 35)) hh ((hr.below hb1).more hb1.size) hu)
  have HGD := Lib.hid hgd
  have HD := Lib.hid (h.below hb1)
  have HGE : Hid (w.heap.size ≤ (w.alloc (.cells #[.int .i64 kind, .int .u64 (hd : Int), .slice A n cc, .string s] 35)).heap.size) := Lib.hid hb1.size
  generalize cmdB kind hd ns s.data.toList = body at HP
  clear h hgd hb1 hr hu
  have hX := Blk.new w 35 #[.int .i64 kind, .int .u64 (hd : Int), .slice A n cc, .string s]
  generalize hw1 : w.alloc (.cells #[.int .i64 kind, .int .u64 (hd : Int), .slice A n cc, .string s] 35) = w1 at *
  have x0 : w1.cell? ⟨w.heap.size, 0, none⟩ = some (.int .i64 kind) := hX.cell 0
  have x1 : w1.cell? ⟨w.heap.size, 1, none⟩ = some (.int .u64 (hd : Int)) := hX.cell 1
  have x2 : w1.cell? ⟨w.heap.size, 2, none⟩ = some (.slice A n cc) := hX.cell 2
  have x3 : w1.cell? ⟨w.heap.size, 3, none⟩ = some (.string s) := hX.cell 3
  clear hX
  cases good with
  | false =>
    have HPF : Hid (Calls Try.prog 50 #[.agg #[.int .i64 kind, .int .u64 (hd : Int), .slice A n cc, .string s]] w1 fun e w' => e = .returned (.tuple #[.slice none 0 0, .int .i64 173]) ∧ Below w1.heap.size w1 w') := Lib.hid (HP.out.mono fun e w' ⟨hb, hp⟩ => by
      rcases hp with ⟨hg, _⟩ | ⟨_, he⟩
      · have := HGD.out.2 hg; cases this
      · exact ⟨he, hb⟩)
    clear HP
    go_enter Try.func21, Try.ntmps21
    go_wp2_with (go_at_call 50; refine HPF.out.mono ?_; rintro e w2 ⟨rfl, hb2⟩; have HB2 := Lib.hid hb2; clear hb2)
    exact bodyPost_ret (v := .tuple #[.int .u64 0, .slice none 0 0, .int .i64 173]) (by simp [results, Try.results21, go_sem]) rfl ⟨rfl, HB1.out.trans (HB2.out.mono HGE.out)⟩
  | true =>
    have HPT : Hid (Calls Try.prog 50 #[.agg #[.int .i64 kind, .int .u64 (hd : Int), .slice A n cc, .string s]] w1 fun e w' => ∃ A2 c2, e = .returned (.tuple #[.slice A2 body.length c2, .int .i64 0]) ∧ Below w1.heap.size w1 w') := Lib.hid (HP.out.mono fun e w' ⟨hb, hp⟩ => by
      rcases hp with ⟨hg, v, he, ho⟩ | ⟨hg, _⟩
      · obtain ⟨A2, c2, rfl, _, _⟩ := own_formL ho
        exact ⟨A2, c2, he, hb⟩
      · exact absurd (HGD.out.1 rfl) hg)
    clear HP
    go_enter Try.func21, Try.ntmps21
    go_wp2_with (first
      | (go_at_call 50; refine HPT.out.mono ?_; rintro e w2 ⟨A2, c2, rfl, hb2⟩; have HB2 := Lib.hid hb2; clear hb2)
      | (go_at_call 43; refine (HD.out.below HB2.out).here.mono ?_; rintro e w3 ⟨rfl, rfl⟩))
    exact bodyPost_ret (v := .tuple #[.int .u64 0, .slice none 0 0, .int .i64 202]) (by simp [results, Try.results21, go_sem]) rfl ⟨rfl, HB1.out.trans (HB2.out.mono HGE.out)⟩
end Go.Proofs.Ytjhkfpemcplaaaa
