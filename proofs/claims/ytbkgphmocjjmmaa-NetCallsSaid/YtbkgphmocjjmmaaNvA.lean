/-
  The walks of the law's same f40 and like f23 at equal nets.
-/
import Derived.Test.YtbkgphmocjjmmaaNuD
namespace Go.Proofs.Ytbkgphmocjjmmaa
open Go.RowKit

/-- two rows of packets that read alike, at one place -/
structure SmT (wc : World) (g1 g2 i : Nat) (num : Int) (b : List UInt8) (A1 : Option Addr) (c1 : Nat) (A2 : Option Addr) (c2 : Nat) (W : World) : Prop where
  k0 : W.cell? ⟨g1, i * 2, none⟩ = some (.int .i64 num)
  k1 : W.cell? ⟨g1, i * 2 + 1, none⟩ = some (.slice A1 b.length c1)
  b0 : W.cell? ⟨g2, i * 2, none⟩ = some (.int .i64 num)
  b1 : W.cell? ⟨g2, i * 2 + 1, none⟩ = some (.slice A2 b.length c2)
  r1 : RdB W wc.heap.size A1 b.length b
  r2 : RdB W wc.heap.size A2 b.length b
  lt : g1 < wc.heap.size ∧ g2 < wc.heap.size
  old : Below wc.heap.size wc W
section
variable {wc W W' : World} {g1 g2 i : Nat} {num : Int} {b : List UInt8} {A1 A2 : Option Addr} {c1 c2 : Nat}
theorem SmT.next (h : SmT wc g1 g2 i num b A1 c1 A2 c2 W) (hb : Below W.heap.size W W') : SmT wc g1 g2 i num b A1 c1 A2 c2 W' := by
  have hbc : Below wc.heap.size W W' := hb.mono h.old.size
  exact ⟨(hbc.cell (p := ⟨g1, _, none⟩) h.lt.1).trans h.k0, (hbc.cell (p := ⟨g1, _, none⟩) h.lt.1).trans h.k1, (hbc.cell (p := ⟨g2, _, none⟩) h.lt.2).trans h.b0, (hbc.cell (p := ⟨g2, _, none⟩) h.lt.2).trans h.b1, h.r1.below hbc, h.r2.below hbc, h.lt, h.old.trans hbc⟩
theorem SmT.drew (h : SmT wc g1 g2 i num b A1 c1 A2 c2 W) : SmT wc g1 g2 i num b A1 c1 A2 c2 W.drew := h.next (Below.refl _ _).drew
end
/-- a slice that reads as packets -/
def PksX (w : World) (v : Value) (us : List Pk) : Prop := ∃ l, RowP w v l ∧ (∀ p ∈ l, p.own w) ∧ l.map LP.pk = us
theorem PksX.below {w w' : World} {v : Value} {us : List Pk} (h : PksX w v us) (hb : Below w.heap.size w w') : PksX w' v us := by
  obtain ⟨l, h1, h2, h3⟩ := h
  exact ⟨l, own_same h1 fun k e => hb.block k (World.ownsRow.lt h1 k e).2, fun p hp => own_same (h2 p hp) fun k e => hb.block k (World.ownsRow.lt (h2 p hp) k e).2, h3⟩
theorem PksX.nil (w : World) : PksX w (.slice none 0 0) [] := ⟨[], World.ownsRow_nil w 0 36 2, fun p h => (by cases h), rfl⟩
theorem UnX.toP {w W : World} {v : Value} {l : List LP} (h : UnX w W v l) : PksX W v (l.map LP.pk) := ⟨l, h.row, h.pks, rfl⟩
theorem PksX.form {w : World} {v : Value} {us : List Pk} (h : PksX w v us) : ∃ A c, v = .slice A us.length c := by
  obtain ⟨l, h1, _, rfl⟩ := h
  obtain ⟨A, c, e, _⟩ := own_form h1
  exact ⟨A, c, by rw [List.length_map]; exact e⟩
theorem PksX.at_ {w : World} {A : Option Addr} {n c : Nat} {us : List Pk} (h : PksX w (.slice A n c) us) {i : Nat} {q : Pk} (hq : us[i]? = some q) : ∃ gb Ai ci, A = some ⟨gb, 0, none⟩ ∧ gb < w.heap.size ∧ w.cell? ⟨gb, i * 2, none⟩ = some (.int .i64 q.num) ∧ w.cell? ⟨gb, i * 2 + 1, none⟩ = some (.slice Ai q.bytes.length ci) ∧ RdB w w.heap.size Ai q.bytes.length q.bytes := by
  obtain ⟨l, h1, h2, rfl⟩ := h
  rw [List.getElem?_map] at hq
  cases hp : l[i]? with
  | none => rw [hp] at hq; cases hq
  | some p =>
    rw [hp] at hq
    simp only [Option.map_some, Option.some.injEq] at hq
    subst hq
    obtain ⟨gb, cb, hv, hg, q0, q1⟩ := h1.at_ hp
    injection hv with hv _ _
    exact ⟨gb, p.A, p.c, hv, hg, q0, q1, OwnB.reads (h2 p (List.mem_of_getElem? hp)) rfl⟩
theorem SmT.start {w W : World} {A1 A2 : Option Addr} {n1 n2 c1 c2 : Nat} {us : List Pk} {i : Nat} {q : Pk} (h1 : PksX w (.slice A1 n1 c1) us) (h2 : PksX w (.slice A2 n2 c2) us) (hb : Below w.heap.size w W) (hq : us[i]? = some q) :
    ∃ g1 g2 B1 d1 B2 d2, A1 = some ⟨g1, 0, none⟩ ∧ A2 = some ⟨g2, 0, none⟩ ∧ SmT w g1 g2 i q.num q.bytes B1 d1 B2 d2 W := by
  obtain ⟨g1, B1, d1, e1, l1, x0, x1, r1⟩ := h1.at_ hq
  obtain ⟨g2, B2, d2, e2, l2, y0, y1, r2⟩ := h2.at_ hq
  exact ⟨g1, g2, B1, d1, B2, d2, e1, e2, SmT.next ⟨x0, x1, y0, y1, r1, r2, ⟨l1, l2⟩, Below.refl _ _⟩ hb⟩
set_option maxRecDepth 20000 in
set_option maxHeartbeats 4000000 in
theorem same_any (A1 A2 : Option Addr) (c1 c2 : Nat) (us : List Pk) (w : World) (h1 : PksX w (.slice A1 us.length c1) us) (h2 : PksX w (.slice A2 us.length c2) us) (hn : us.length ≤ 64) (hb : ∀ p ∈ us, p.bytes.length ≤ 140737488355328) :
    Calls Try.prog 40 #[.slice A1 us.length c1, .slice A2 us.length c2] w (AwP w) := by
  have HS := Lib.hid fun W i q (hb : Below w.heap.size w W) (hq : us[i]? = some q) => SmT.start h1 h2 hb hq
  have HB := Lib.hid hb
  clear h1 h2 hb
  go_enter Try.func40, Try.ntmps40
  go_wp2_with fail
  go_loopw [5] (fun i wr => ∃ k : Nat, k ≤ us.length ∧ i = .int .i64 k ∧ Below w.heap.size w wr) (fun i _ => us.length - (intOf i).toNat)
  case atStart => exact ⟨0, Nat.zero_le _, rfl, Below.refl _ _⟩
  case round =>
    obtain ⟨k, hk, rfl, hbw⟩ := hrel
    have HBW := Lib.hid hbw
    clear hbw
    by_cases hkn : k < us.length
    · obtain ⟨q, hq⟩ : ∃ q, us[k]? = some q := ⟨_, List.getElem?_eq_getElem hkn⟩
      obtain ⟨g1, g2, B1, d1, B2, d2, e1, e2, hs⟩ := HS.out wr k q HBW.out hq
      have HQ := Lib.hid (HB.out q (List.mem_of_getElem? hq))
      have HT := Lib.hid hs
      have HKN := Lib.hid hkn
      have l1 : (0 : Int) ≤ (k : Int) := by omega
      have l2 : (k : Int) < (us.length : Int) := by omega
      clear hs hq hk HS HB
      subst e1 e2
      go_upto_region 6 with fail
      have sa0 := HT.out.drew
      have HSP := Lib.hid fun W (h : SmT w g1 g2 k q.num q.bytes B1 d1 B2 d2 W) => samep_same q.num B1 B2 d1 d2 w.heap.size w.heap.size q.bytes W h.r1 h.r2 h.old.size h.old.size HQ.out
      have HSA := Lib.hid fun W (h : SmT w g1 g2 k q.num q.bytes B1 d1 B2 d2 W) => (show W.cell? ⟨g1, k * 2, none⟩ = some (.int .i64 q.num) ∧ W.cell? ⟨g1, k * 2 + 1, none⟩ = some (.slice B1 q.bytes.length d1) ∧ W.cell? ⟨g2, k * 2, none⟩ = some (.int .i64 q.num) ∧ W.cell? ⟨g2, k * 2 + 1, none⟩ = some (.slice B2 q.bytes.length d2) from ⟨h.k0, h.k1, h.b0, h.b1⟩)
      have ca0 := HSA.out _ HT.out
      go_region_held3 (fun W => W.cell? ⟨g1, k * 2, none⟩ = some (.int .i64 q.num) ∧ W.cell? ⟨g1, k * 2 + 1, none⟩ = some (.slice B1 q.bytes.length d1) ∧ W.cell? ⟨g2, k * 2, none⟩ = some (.int .i64 q.num) ∧ W.cell? ⟨g2, k * 2 + 1, none⟩ = some (.slice B2 q.bytes.length d2))
        (first | go_keep | exact HSA.out _ sa1)
        ((go_at_call 22; ((with_reducible refine (HSP.out _ sa0).mono ?_); rintro e w6 ⟨rfl, hb6⟩; have sa1 := sa0.next hb6; have HB6 := Lib.hid (bt (HBW.out.trans (Below.refl _ _).drew) hb6))))
      all_goals
        go_wp2_with fail
        go_roundw
        case rel => exact ⟨k + 1, HKN.out, by go_num, HB6.out⟩
        case measure => simp [intOf]; omega
    · have hkn' : ¬ (k : Int) < (us.length : Int) := by omega
      go_wp2
      go_ret
      exact ⟨rfl, HBW.out⟩
end Go.Proofs.Ytbkgphmocjjmmaa
