/-
  What the walk of the law NetConserves f8 leans on; its bad limits.
-/
import Derived.Test.YtbkgphmocjjmmaaNwC
import Derived.Test.YtbkgphmocjjmmaaNvB
import Derived.Deep.CutBlock
import Derived.Deep.LoopGhost
namespace Go.Proofs.Ytbkgphmocjjmmaa
open Go.RowKit

structure CsX (w0 : World) (g : Nat) (S : Ns) (v : Bool → Value) (l : Bool → List LP) (mb : Nat) (ms : List Wm) (W : World) : Prop where
  net : FrN w0 g S v l W
  bk : BookM w0 (NetF g v l) mb ms W
section
variable {w0 W W' : World} {g mb : Nat} {S S' : Ns} {v v' : Bool → Value} {l l' : Bool → List LP} {ms : List Wm}
theorem CsX.below (h : CsX w0 g S v l mb ms W) (hb : Below W.heap.size W W') : CsX w0 g S v l mb ms W' := ⟨h.net.below hb, h.bk.below hb⟩
theorem CsX.step (h : CsX w0 g S v l mb ms W) (hn : NetA W' g S' v' l') (hsub : ∀ k, NetF g v' l' k → NetF g v l k ∨ W.heap.size ≤ k) (hc : Chg (NetF g v l) W W') : CsX w0 g S' v' l' mb ms W' := ⟨h.net.step hn hsub hc, h.bk.step hc hsub⟩
end
/-- is the act one of a place, and is the place no less than nought? -/
def inK (a : Ac) : Bool := decide (4 ≤ a.k ∧ a.k ≤ 8 ∧ 0 ≤ a.i)
/-- the number of the packet that an act is about -/
def FromP (S : Ns) (a : Ac) (z : Int) : Prop := ∀ (s : Bool) (i : Nat) (q : Pk), 4 ≤ a.k → a.k ≤ 8 → a.z = sideN s → a.i = i → (S.u s)[i]? = some q → z = q.num
theorem ActC.same {S S' : Ns} {a : Ac} {num er : Int} {b : List UInt8} (h : ActC S a S' num b er) (he : er ≠ 0) : S' = S := by cases h <;> first | rfl | exact absurd rfl he
theorem FromP.off {S : Ns} {a : Ac} {z : Int} (h : inK a = false) : FromP S a z := fun s i q h1 h2 _ h4 _ => by
  simp only [inK, decide_eq_false_iff_not] at h
  exact absurd ⟨h1, h2, by omega⟩ h
def Ac.cs (a : Ac) (A : Option Addr) (n c : Nat) : Array Value := #[.int .i64 a.k, .int .i64 a.z, .int .i64 a.i, .int .i64 a.j, .int .u8 (a.m.toNat : Int), .slice A n c]
theorem one_act {w : World} {B : Nat} {a : Ac} {A : Option Addr} {c : Nat} (hr : RdB w B A a.b.length a.b) (hB : B ≤ w.heap.size) : ActsAt (w.alloc (.cells (a.cs A a.b.length c) 55)) (w.alloc (.cells (a.cs A a.b.length c) 55)).heap.size (some ⟨w.heap.size, 0, none⟩) 1 [a] := by
  refine ⟨rfl, fun i a' hi => ?_⟩
  match i with
  | 0 =>
    simp only [List.getElem?_cons_zero, Option.some.injEq] at hi
    subst hi
    refine ⟨w.heap.size, 0, A, c, rfl, by simp, fun j u hu => ?_, ((hr.alloc hB _).more (by simp; omega))⟩
    have := (Blk.new w 55 (a.cs A a.b.length c)).cell j
    rw [show 0 + (0 * 6 + j) = j by omega, this]
    rw [← hu]
    simp [Ac.cs, Ac.hd]
  | i + 1 => simp at hi
set_option maxRecDepth 100000 in
theorem cons_bad (limit : Int) (A : Option Addr) (n c : Nat) (w : World) (h : limit < 1 ∨ 64 < limit) : Calls Try.prog 8 #[.int .i64 limit, .slice A n c] w (AwP w) := by
  have HP := Lib.hid fun w => new_bad limit w h
  rcases h with h | h
  · clear HP
    have HP := Lib.hid fun w => new_bad limit w (.inl h)
    go_enter Try.func8, Try.ntmps8
    go_wp2_with fail
    refine (HP.out _).mono ?_
    rintro e w2 ⟨rfl, rfl⟩
    go_wp2_with fail
    refine (awake_any _).mono ?_
    rintro e w2 ⟨rfl, hb2⟩
    have HB2 := Lib.hid hb2
    clear hb2
    go_wp2
    go_ret
    exact ⟨rfl, HB2.out⟩
  · have h' : ¬ limit < 1 := by omega
    go_enter Try.func8, Try.ntmps8
    go_wp2_with fail
    refine (HP.out _).mono ?_
    rintro e w2 ⟨rfl, rfl⟩
    go_wp2_with fail
    refine (awake_any _).mono ?_
    rintro e w2 ⟨rfl, hb2⟩
    have HB2 := Lib.hid hb2
    clear hb2
    go_wp2
    go_ret
    exact ⟨rfl, HB2.out⟩
theorem cs_start {w w1 w2 : World} {limit : Int} {e : Ending} (h : NewP w limit e w1) (hb : Below w1.heap.size w1 w2) : CsX w w.heap.size (Ns.new limit) (fun _ => .slice none 0 0) (fun _ => []) w2.heap.size [] (w2.alloc (.map #[] 0)) := by
  have h1 := ((frn_first h).2.below hb)
  have h2 := h1.below (al1 w2 (.map #[] 0))
  exact ⟨h2, MapI.made w2 .i64, h1.old.size, fun y hy => (by cases hy), List.Pairwise.nil, fun y hy => (by cases hy), fun e => by have := h1.net.lt e; omega⟩
/-- what an act comes to that is done -/
inductive ActZ (S : Ns) (a : Ac) : Ns → Int → List UInt8 → Prop
  | conn : a.k = 1 → S.up = false → ActZ S a S.conn 0 []
  | cut : a.k = 2 → ActZ S a S.cut 0 []
  | send (s : Bool) : a.k = 3 → a.z = sideN s → S.up = true → ActZ S a ((S.add s 0 1).put s a.b) (S.number + 1) a.b
  | take (s : Bool) (i : Nat) (q : Pk) (c : Nat) : ((a.k = 4 ∧ c = 2) ∨ (a.k = 5 ∧ c = 3)) → a.z = sideN s → S.up = true → a.i = i → (S.u s)[i]? = some q → ActZ S a ((S.take s i).add s c 1) q.num q.bytes
  | double (s : Bool) (i : Nat) (q : Pk) : a.k = 6 → a.z = sideN s → S.up = true → a.i = i → (S.u s)[i]? = some q → ActZ S a ((S.add s 1 1).put s q.bytes) (S.number + 1) q.bytes
  | move (s : Bool) (i j : Nat) (q : Pk) : a.k = 7 → a.z = sideN s → S.up = true → a.i = i → (S.u s)[i]? = some q → ActZ S a ((S.move s i j q).add s 5 1) 0 []
  | flip (s : Bool) (i j : Nat) (q : Pk) (b : UInt8) : a.k = 8 → a.z = sideN s → S.up = true → a.i = i → (S.u s)[i]? = some q → a.j = j → q.bytes[j]? = some b → a.m ≠ 0 → ActZ S a ((S.flip s i (q.flip j (b ^^^ a.m))).add s 6 1) q.num (q.bytes.set j (b ^^^ a.m))
theorem ActC.zero {S S' : Ns} {a : Ac} {num er : Int} {b : List UInt8} (h : ActC S a S' num b er) (he : er = 0) : ActZ S a S' num b := by
  cases h with
  | conn h1 h2 => exact .conn h1 h2
  | cut h1 h2 => exact .cut h1
  | send s h1 h2 h3 h4 h5 => exact .send s h1 h2 h4
  | deliver s i q h1 h2 h3 h4 h5 => exact .take s i q 2 (.inl ⟨h1, rfl⟩) h2 h3 h4 h5
  | drop s i q h1 h2 h3 h4 h5 => exact .take s i q 3 (.inr ⟨h1, rfl⟩) h2 h3 h4 h5
  | double s i q h1 h2 h3 h4 h5 h6 => exact .double s i q h1 h2 h3 h4 h5
  | move s i j q h1 h2 h3 h4 h5 h6 h7 => exact .move s i j q h1 h2 h3 h4 h5
  | flip s i j q x h1 h2 h3 h4 h5 h6 h7 h8 => exact .flip s i j q x h1 h2 h3 h4 h5 h6 h7 h8
  | _ => omega
theorem zero76 (w : World) : (zeroValue 76).run Try.prog w = .ok (.pointer none) w := by kernel_rfl
theorem getI_book0 {l : List Wm} {i : Nat} {y : Wm} (h : l[i]? = some y) : getI (bookF l 0) ((i : Int) + 1) = some (.pointer (some ⟨y.g, 0, none⟩)) := by
  have := getI_book l 0 i y h
  rwa [show (((0 : Nat) : Int) + i + 1) = (i : Int) + 1 by omega] at this
theorem Book.way {S : Ns} {ms : List Wm} (hb : Book S (ms.map Wm.p)) {s : Bool} {i : Nat} {q : Pk} (hq : (S.u s)[i]? = some q) : ∃ (kk : Nat) (y : Wm), q.num = (kk : Int) + 1 ∧ ms[kk]? = some y ∧ y.p = ⟨q.bytes, sideN s, S.epoch, false⟩ := by
  obtain ⟨kk, e, hk⟩ := hb.at_ hq
  rw [List.getElem?_map] at hk
  cases hy : ms[kk]? with
  | none => rw [hy] at hk; cases hk
  | some y => rw [hy] at hk; exact ⟨kk, y, e, hy, by simpa using hk⟩
section
variable {w0 W W' : World} {g mb : Nat} {S : Ns} {v : Bool → Value} {l : Bool → List LP} {ms : List Wm}
theorem CsX.lookup (h : CsX w0 g S v l mb ms W) (z : Int) : ∃ wv, (Instr.lookup 75 (.map (some mb)) (.int .i64 z) false).run Try.prog W = .ok wv W ∧ ∀ (kk : Nat) (y : Wm), z = (kk : Int) + 1 → ms[kk]? = some y → wv = .pointer (some ⟨y.g, 0, none⟩) :=
  ⟨_, run_lookupI (z0 := .pointer none) Try.underlying75 Try.underlying3 zero76 h.bk.map z, fun kk y e hy => by rw [e, getI_book0 hy]; rfl⟩
theorem CsX.far {ms' : List Wm} {G : Nat → Prop} (h : CsX w0 g S v l mb ms W) (hb : BookM w0 (NetF g v l) mb ms' W') (hc : Chg G W W') (hG : ∀ k, G k → w0.heap.size ≤ k ∧ ¬ NetF g v l k) : CsX w0 g S v l mb ms' W' :=
  ⟨h.net.chg hc (fun k hk e => (hG k e).2 hk) (fun k _ e => (hG k e).1), hb⟩
theorem CsX.off (h : CsX w0 g S v l mb ms W) {i : Nat} {y : Wm} (hy : ms[i]? = some y) : CsX w0 g S v l mb (ms.set i y.off) (W.setCell ⟨y.g, 3, none⟩ (.bool true)) :=
  h.far (h.bk.off hy) (G := (· = y.g)) ((Chg.refl (· = y.g) W).setCell (p := ⟨y.g, 3, none⟩) (fun _ => rfl) _) fun k e => by
    subst e
    exact ⟨(h.bk.wy y (List.mem_of_getElem? hy)).ge, h.bk.free y (List.mem_of_getElem? hy) _ (.inl rfl)⟩
/-- behind a done act at a place: its way -/
structure PlcF (w0 : World) (g mb sb tb : Nat) (S S' : Ns) (v : Bool → Value) (l : Bool → List LP) (ms : List Wm) (a : Ac) (Ai : Option Addr) (ci : Nat) (num : Int) (bb : List UInt8) (At : Option Addr) (ct : Nat) (y : Wm) (qb : List UInt8) (W : World) : Prop where
  cs : CsX w0 g S' v l mb ms W
  ab : Blk W sb 55 (a.cs Ai a.b.length ci)
  tk : Blk W tb 57 #[.int .i64 0, .int .i64 num, .slice At bb.length ct]
  ow : RdB W W.heap.size At bb.length bb
  g0 : W.cell? ⟨y.g, 0, none⟩ = some (.slice y.A qb.length y.c)
  g1 : W.cell? ⟨y.g, 1, none⟩ = some (.int .i64 a.z)
  g2 : W.cell? ⟨y.g, 2, none⟩ = some (.int .i64 S.epoch)
  g3 : W.cell? ⟨y.g, 3, none⟩ = some (.bool false)
  ry : RdB W W.heap.size y.A qb.length qb
theorem PlcF.drewN {w0 : World} {g mb sb tb : Nat} {S S' : Ns} {v : Bool → Value} {l : Bool → List LP} {ms : List Wm} {a : Ac} {Ai : Option Addr} {ci : Nat} {num : Int} {bb : List UInt8} {At : Option Addr} {ct : Nat} {y : Wm} {qb : List UInt8} {W : World} (h : PlcF w0 g mb sb tb S S' v l ms a Ai ci num bb At ct y qb W) (n : Nat) : PlcF w0 g mb sb tb S S' v l ms a Ai ci num bb At ct y qb (W.drewN n) :=
  ⟨h.cs.below (below_drewN (Below.refl _ _) n), h.ab, h.tk, h.ow, h.g0, h.g1, h.g2, h.g3, h.ry⟩
theorem PlcF.mk' {w0 : World} {g mb sb tb : Nat} {S S' : Ns} {v : Bool → Value} {l : Bool → List LP} {ms : List Wm} {a : Ac} {Ai : Option Addr} {ci : Nat} {num : Int} {bb : List UInt8} {At : Option Addr} {ct : Nat} {y : Wm} {q : Pk} {kk : Nat} {s : Bool} {W : World} (h : CsX w0 g S' v l mb ms W) (hab : Blk W sb 55 (a.cs Ai a.b.length ci)) (htk : Blk W tb 57 #[.int .i64 0, .int .i64 num, .slice At bb.length ct]) (ho : OwnB 5 W 0 (.slice At bb.length ct) bb)
    (hy : ms[kk]? = some y) (hyp : y.p = ⟨q.bytes, sideN s, S.epoch, false⟩) (hs : a.z = sideN s) : PlcF w0 g mb sb tb S S' v l ms a Ai ci num bb At ct y q.bytes W := by
  have hok := h.bk.wy y (List.mem_of_getElem? hy)
  have hyb : y.p.b = q.bytes := by rw [hyp]
  refine ⟨h, hab, htk, OwnB.reads ho rfl, by rw [← hyb]; exact hok.blk.cell 0, (hok.blk.cell 1).trans (by simp [Wm.cs, hyp, hs]), (hok.blk.cell 2).trans (by simp [Wm.cs, hyp]), (hok.blk.cell 3).trans (by simp [Wm.cs, hyp]), ?_⟩
  have := OwnB.reads (A := y.A) (c := y.c) hok.own rfl
  rw [hyb] at this
  exact this
theorem map_off {ms : List Wm} {kk : Nat} {y : Wm} : (ms.set kk y.off).map Wm.p = (ms.map Wm.p).set kk y.p.off := by rw [List.map_set]; rfl
end
end Go.Proofs.Ytbkgphmocjjmmaa
