/-
  The walks of New, Connect, Epoch, at.
-/
import Derived.Test.YtbkgphmocjjmmaaNtA
namespace Go.Proofs.Ytbkgphmocjjmmaa
open Go.RowKit

def Ns.new (limit : Int) : Ns := ⟨limit, false, 0, 0, fun _ => [], fun _ => Cn.zero⟩
theorem Ns.new_ok {limit : Int} (h1 : 1 ≤ limit) (h2 : limit ≤ 64) (K : Int) (hK : 0 ≤ K) : (Ns.new limit).ok K :=
  ⟨h1, h2, ⟨Int.le_refl _, hK⟩, ⟨Int.le_refl _, hK⟩, fun _ => by simp [Ns.new]; omega, fun _ => by simp [Ns.new, Cn.ok, Cn.zero, hK]⟩
theorem NetX.fresh {t : TypeId} {lay : Ns → (Bool → Value) → Array Value} {w : World} {limit : Int} {g : Nat} (hb : Blk w g t (lay (Ns.new limit) (fun _ => .slice none 0 0))) : NetX t lay w g (Ns.new limit) (fun _ => .slice none 0 0) (fun _ => []) :=
  ⟨hb, fun _ => World.ownsRow_nil _ _ _ _, fun _ p hp => (by cases hp), fun _ => rfl, .inl rfl, fun _ => List.Pairwise.nil, fun p hp => (by cases hp)⟩
def NewP (w : World) (limit : Int) (e : Ending) (w' : World) : Prop := e = .returned (.tuple #[.pointer (some ⟨w.heap.size, 0, none⟩), .int .i64 0]) ∧ NetA w' w.heap.size (Ns.new limit) (fun _ => .slice none 0 0) (fun _ => []) ∧ Below w.heap.size w w'
theorem new_ok (limit : Int) (w : World) (h1 : 1 ≤ limit) (h2 : limit ≤ 64) : Calls Try.prog 9 #[.int .i64 limit] w (NewP w limit) := by
  have t1 : ¬ limit < 1 := by omega
  have t2 : ¬ 64 < limit := by omega
  go_enter Try.func9, Try.ntmps9
  go_wp2
  go_ret2
  exact ⟨rfl, NetX.fresh (Blk.new w 68 _), (Below.refl _ _).alloc (Nat.le_refl _) _⟩
theorem new_bad (limit : Int) (w : World) (h : limit < 1 ∨ 64 < limit) : Calls Try.prog 9 #[.int .i64 limit] w fun e w' => e = .returned (.tuple #[.pointer none, .int .i64 1]) ∧ w = w' := by
  by_cases t1 : limit < 1
  · go_enter Try.func9, Try.ntmps9
    go_wp2
    go_ret2
    exact ⟨rfl, rfl⟩
  · have t2 : 64 < limit := by omega
    go_enter Try.func9, Try.ntmps9
    go_wp2
    go_ret2
    exact ⟨rfl, rfl⟩
def Ns.conn (S : Ns) : Ns := { S with up := true, epoch := S.epoch + 1 }
theorem Ns.conn_ok {S : Ns} {K : Int} (h : S.ok K) : S.conn.ok (K + 1) :=
  ⟨h.lo, h.hi, ⟨by have := h.ep; simp [Ns.conn]; omega, by have := h.ep; simp [Ns.conn]; omega⟩, ⟨h.nu.1, by have := h.nu; simp [Ns.conn]; omega⟩, h.len, fun s => by have := h.cn s; unfold Cn.ok at *; simp only [Ns.conn]; omega⟩
theorem Ns.ok_mono {S : Ns} {K K' : Int} (h : S.ok K) (hK : K ≤ K') : S.ok K' :=
  ⟨h.lo, h.hi, ⟨h.ep.1, by have := h.ep; omega⟩, ⟨h.nu.1, by have := h.nu; omega⟩, h.len, fun s => by have := h.cn s; unfold Cn.ok at *; omega⟩
theorem connect_up (g : Nat) (S : Ns) (v : Bool → Value) (l : Bool → List LP) (w : World) (h : NetA w g S v l) (hl : 1 ≤ S.limit) (hu : S.up = true) : Calls Try.prog 12 #[.pointer (some ⟨g, 0, none⟩)] w fun e w' => e = .returned (.int .i64 180) ∧ w = w' := by
  have c0 : w.cell? ⟨g, 0, none⟩ = some (.int .i64 S.limit) := h.blk.cell 0
  have c1 : w.cell? ⟨g, 1, none⟩ = some (.bool true) := by rw [← hu]; exact h.blk.cell 1
  have hd : decide (0 < S.limit) = true := by simp; omega
  have HM := Lib.hid (made_at g S.limit w c0)
  clear c0 h hu hl
  go_enter Try.func12, Try.ntmps12
  go_wp2_with (go_at_call 31; refine HM.out.mono ?_; rw [hd]; rintro e w' ⟨rfl, rfl⟩)
  go_ret
  exact ⟨rfl, rfl⟩
def ConnP (g : Nat) (S : Ns) (v : Bool → Value) (l : Bool → List LP) (w : World) (e : Ending) (w' : World) : Prop := e = .returned (.int .i64 0) ∧ NetA w' g S.conn v l ∧ Chg (· = g) w w' ∧ w'.heap.size = w.heap.size
theorem connect_down (g : Nat) (S : Ns) (v : Bool → Value) (l : Bool → List LP) (K : Int) (w : World) (h : NetA w g S v l) (hk : S.ok K) (hK : K ≤ 4611686018427387904) (hu : S.up = false) : Calls Try.prog 12 #[.pointer (some ⟨g, 0, none⟩)] w (ConnP g S v l w) := by
  have c0 : w.cell? ⟨g, 0, none⟩ = some (.int .i64 S.limit) := h.blk.cell 0
  have c1 : w.cell? ⟨g, 1, none⟩ = some (.bool false) := by rw [← hu]; exact h.blk.cell 1
  have c2 : w.cell? ⟨g, 2, none⟩ = some (.int .i64 S.epoch) := h.blk.cell 2
  have f1 := h.blk.frozen 1
  have f2 := h.blk.frozen 2
  have hd : decide (0 < S.limit) = true := by have := hk.lo; simp; omega
  have e0 : 0 ≤ S.epoch := hk.ep.1
  have e1 : S.epoch ≤ 4611686018427387904 := by have := hk.ep.2; omega
  have HM := Lib.hid (made_at g S.limit w c0)
  have HF : Hid (ConnP g S v l w (.returned (.int .i64 0)) ((w.setCell ⟨g, 1, none⟩ (.bool true)).setCell ⟨g, 2, none⟩ (.int .i64 (S.epoch + 1)))) := Lib.hid ⟨rfl, h.head ((h.blk.set_ 1 _).set_ 2 _) rfl (fun k hk hn => by rw [Below.heap_setCell _ _ _ _ hn, Below.heap_setCell _ _ _ _ hn]) (by decide) (by decide), ((Chg.refl (· = g) w).setCell (p := ⟨g, 1, none⟩) (fun _ => rfl) _).setCell (p := ⟨g, 2, none⟩) (fun _ => rfl) _, by simp [World.setCell]⟩
  clear c0 h hk
  go_enter Try.func12, Try.ntmps12
  go_wp2_with (go_at_call 31; refine HM.out.mono ?_; rw [hd]; rintro e w' ⟨rfl, rfl⟩)
  go_ret
  exact HF.out
theorem epoch_at (g : Nat) (lim ep : Int) (w : World) (h : w.cell? ⟨g, 0, none⟩ = some (.int .i64 lim)) (h1 : w.cell? ⟨g, 2, none⟩ = some (.int .i64 ep)) (hl : 0 < lim) :
    Calls Try.prog 26 #[.pointer (some ⟨g, 0, none⟩)] w fun e w' => e = .returned (.int .i64 ep) ∧ w = w' := by
  have hd : decide (0 < lim) = true := by simpa using hl
  go_enter Try.func26, Try.ntmps26
  go_wp2_with (go_at_call 31; refine (made_at g lim _ h).mono ?_; rw [hd]; rintro e w' ⟨rfl, rfl⟩)
  go_ret
  exact ⟨rfl, rfl⟩
theorem epoch_no (p : Option Addr) (w : World) (h : NoNet w p) : Calls Try.prog 26 #[.pointer p] w fun e w' => e = .returned (.int .i64 0) ∧ w = w' := by
  have H := Lib.hid (made_no p w h)
  clear h
  go_enter Try.func26, Try.ntmps26
  go_wp2_with (go_at_call 31; refine H.out.mono ?_; rintro e w' ⟨rfl, rfl⟩)
  go_ret
  exact ⟨rfl, rfl⟩
theorem connect_no (p : Option Addr) (w : World) (h : NoNet w p) : Calls Try.prog 12 #[.pointer p] w fun e w' => e = .returned (.int .i64 1) ∧ w = w' := by
  have H := Lib.hid (made_no p w h)
  clear h
  go_enter Try.func12, Try.ntmps12
  go_wp2_with (go_at_call 31; refine H.out.mono ?_; rintro e w' ⟨rfl, rfl⟩)
  go_ret
  exact ⟨rfl, rfl⟩
/-! ## at -/
def inB (n : Nat) (z : Int) : Bool := decide (0 ≤ z ∧ z < n)
def RdZ (w : World) (h : Nat) (zs : List Int) : Prop := ∀ k z, zs[k]? = some z → w.cell? ⟨h, k, none⟩ = some (.int .i64 z)
theorem at_err (p : Option Addr) (z : Int) (A : Option Addr) (n c : Nat) (er : Int) (w : World) (he : (er != 0) = true) (h : Calls Try.prog 33 #[.pointer p, .int .i64 z] w fun e w' => e = .returned (.tuple #[.pointer none, .int .i64 er]) ∧ w = w') :
    Calls Try.prog 37 #[.pointer p, .int .i64 z, .slice A n c] w fun e w' => e = .returned (.tuple #[.pointer none, .int .i64 er]) ∧ w = w' := by
  have H := Lib.hid h
  clear h
  go_enter Try.func37, Try.ntmps37
  go_wp2_with (go_at_call 33; refine H.out.mono ?_; rintro e w' ⟨rfl, rfl⟩)
  go_ret2
  exact ⟨rfl, rfl⟩
def AtP (g : Nat) (s : Bool) (b : Bool) (w : World) (e : Ending) (w' : World) : Prop := e = .returned (if b then .tuple #[.pointer (some ⟨g, wayO s, none⟩), .int .i64 0] else .tuple #[.pointer none, .int .i64 1]) ∧ w = w'
set_option maxRecDepth 20000 in
set_option maxHeartbeats 1000000 in
theorem at_up (g h c : Nat) (lim : Int) (s : Bool) (zs : List Int) (A : Option Addr) (n cc : Nat) (w : World) (h0 : w.cell? ⟨g, 0, none⟩ = some (.int .i64 lim)) (h1 : w.cell? ⟨g, 1, none⟩ = some (.bool true)) (hl : 0 < lim) (hu : w.cell? ⟨g, wayO s, none⟩ = some (.slice A n cc))
    (hz : RdZ w h zs) (hn : zs.length ≤ 1000) :
    Calls Try.prog 37 #[.pointer (some ⟨g, 0, none⟩), .int .i64 (sideN s), .slice (some ⟨h, 0, none⟩) zs.length c] w (AtP g s (zs.all (inB n)) w) := by
  have H := Lib.hid (way_up g lim s w h0 h1 hl)
  have HZ := Lib.hid hz
  clear hz h0 h1 hl
  go_enter Try.func37, Try.ntmps37
  go_wp2_with (go_at_call 33; refine H.out.mono ?_; rintro e w' ⟨rfl, rfl⟩)
  go_loop [23] (fun i => ∃ k : Nat, k ≤ zs.length ∧ i = .int .i64 k ∧ (zs.drop k).all (inB n) = zs.all (inB n)) (fun i => zs.length - (intOf i).toNat)
  case atStart => exact ⟨0, Nat.zero_le _, rfl, rfl⟩
  case round =>
    obtain ⟨k, hk, rfl, ha⟩ := hrel
    have HA := Lib.hid ha
    clear ha
    by_cases hkl : k < zs.length
    · have cz : w.cell? ⟨h, k, none⟩ = some (.int .i64 zs[k]) := HZ.out k _ (List.getElem?_eq_getElem hkl)
      have HD : Hid ((zs.drop k).all (inB n) = (inB n zs[k] && (zs.drop (k + 1)).all (inB n))) := Lib.hid (by rw [List.drop_eq_getElem_cons hkl]; rfl)
      have HI : Hid (inB n zs[k] = decide (0 ≤ zs[k] ∧ zs[k] < n)) := Lib.hid rfl
      generalize zs[k] = z at *
      by_cases z0 : z < 0
      · have HN : Hid (zs.all (inB n) = false) := Lib.hid (by rw [← HA.out, HD.out, HI.out, decide_eq_false (by omega)]; rfl)
        go_wp2
        go_ret2
        exact ⟨by rw [HN.out]; rfl, rfl⟩
      · by_cases z1 : (n : Int) ≤ z
        · have HN : Hid (zs.all (inB n) = false) := Lib.hid (by rw [← HA.out, HD.out, HI.out, decide_eq_false (by omega)]; rfl)
          go_wp2
          go_ret2
          exact ⟨by rw [HN.out]; rfl, rfl⟩
        · have HN : Hid ((zs.drop (k + 1)).all (inB n) = zs.all (inB n)) := Lib.hid (by rw [← HA.out, HD.out, HI.out, decide_eq_true (by omega)]; rfl)
          go_wp2
          go_round
          case rel => exact ⟨k + 1, hkl, by go_num, HN.out⟩
          case measure => simp [intOf]; omega
    · have HN : Hid (zs.all (inB n) = true) := Lib.hid (by rw [← HA.out, List.drop_eq_nil_of_le (by omega)]; rfl)
      go_wp2
      go_ret2
      exact ⟨by rw [HN.out]; rfl, rfl⟩
end Go.Proofs.Ytbkgphmocjjmmaa
