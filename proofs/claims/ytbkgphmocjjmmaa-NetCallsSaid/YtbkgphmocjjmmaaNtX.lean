/-
  What every act comes to. No program in sight.
-/
import Derived.Test.YtbkgphmocjjmmaaNtU
import Derived.Test.YtbkgphmocjjmmaaNtR
namespace Go.Proofs.Ytbkgphmocjjmmaa
open Go.RowKit

/-- an act: kind, side, places, bits, bytes -/
structure Ac where
  k : Int
  z : Int
  i : Int
  j : Int
  m : UInt8
  b : List UInt8
/-- the net behind an act, the packet's number and bytes, the error's number -/
inductive ActC (S : Ns) (a : Ac) : Ns → Int → List UInt8 → Int → Prop
  | conn0 : a.k = 1 → S.up = true → ActC S a S 0 [] 180
  | conn : a.k = 1 → S.up = false → ActC S a S.conn 0 [] 0
  | bad : (a.k < 1 ∨ 8 < a.k) → ActC S a S 0 [] 184
  | side : 2 < a.k → a.k ≤ 8 → sideB a.z = false → ActC S a S 0 [] 182
  | long (s : Bool) : a.k = 3 → a.z = sideN s → 8192 < a.b.length → ActC S a S 0 [] 2
  | down2 : a.k = 2 → S.up = false → ActC S a S 0 [] 181
  | down3 (s : Bool) : a.k = 3 → a.z = sideN s → a.b.length ≤ 8192 → S.up = false → ActC S a S 0 [] 181
  | down4 (s : Bool) : 3 < a.k → a.k ≤ 8 → a.z = sideN s → S.up = false → ActC S a S 0 [] 181
  | cut : a.k = 2 → S.up = true → ActC S a S.cut 0 [] 0
  | full (s : Bool) : a.k = 3 → a.z = sideN s → a.b.length ≤ 8192 → S.up = true → ((S.u s).length : Int) = S.limit → ActC S a S 0 [] 183
  | send (s : Bool) : a.k = 3 → a.z = sideN s → a.b.length ≤ 8192 → S.up = true → ((S.u s).length : Int) < S.limit → ActC S a ((S.add s 0 1).put s a.b) (S.number + 1) a.b 0
  | range (s : Bool) : 3 < a.k → a.k ≤ 8 → a.z = sideN s → S.up = true → (a.i < 0 ∨ ((S.u s).length : Int) ≤ a.i) → ActC S a S 0 [] 1
  | deliver (s : Bool) (i : Nat) (q : Pk) : a.k = 4 → a.z = sideN s → S.up = true → a.i = i → (S.u s)[i]? = some q → ActC S a ((S.take s i).add s 2 1) q.num q.bytes 0
  | drop (s : Bool) (i : Nat) (q : Pk) : a.k = 5 → a.z = sideN s → S.up = true → a.i = i → (S.u s)[i]? = some q → ActC S a ((S.take s i).add s 3 1) q.num q.bytes 0
  | dfull (s : Bool) (i : Nat) (q : Pk) : a.k = 6 → a.z = sideN s → S.up = true → a.i = i → (S.u s)[i]? = some q → ((S.u s).length : Int) = S.limit → ActC S a S 0 [] 183
  | double (s : Bool) (i : Nat) (q : Pk) : a.k = 6 → a.z = sideN s → S.up = true → a.i = i → (S.u s)[i]? = some q → ((S.u s).length : Int) < S.limit → ActC S a ((S.add s 1 1).put s q.bytes) (S.number + 1) q.bytes 0
  | mrange (s : Bool) (i : Nat) (q : Pk) : a.k = 7 → a.z = sideN s → S.up = true → a.i = i → (S.u s)[i]? = some q → (a.j < 0 ∨ ((S.u s).length : Int) ≤ a.j) → ActC S a S 0 [] 1
  | move (s : Bool) (i j : Nat) (q : Pk) : a.k = 7 → a.z = sideN s → S.up = true → a.i = i → (S.u s)[i]? = some q → a.j = j → j < (S.u s).length → ActC S a ((S.move s i j q).add s 5 1) 0 [] 0
  | frange (s : Bool) (i : Nat) (q : Pk) : a.k = 8 → a.z = sideN s → S.up = true → a.i = i → (S.u s)[i]? = some q → (a.j < 0 ∨ (q.bytes.length : Int) ≤ a.j ∨ a.m = 0) → ActC S a S 0 [] 1
  | flip (s : Bool) (i j : Nat) (q : Pk) (b : UInt8) : a.k = 8 → a.z = sideN s → S.up = true → a.i = i → (S.u s)[i]? = some q → a.j = j → q.bytes[j]? = some b → a.m ≠ 0 → ActC S a ((S.flip s i (q.flip j (b ^^^ a.m))).add s 6 1) q.num (q.bytes.set j (b ^^^ a.m)) 0
theorem sideB_of (z : Int) (h : sideB z = true) : ∃ s, z = sideN s := by
  simp only [sideB, decide_eq_true_eq] at h
  rcases h with h | h
  · exact ⟨false, h⟩
  · exact ⟨true, h⟩
theorem nat_at {i : Int} {n : Nat} (h : ¬ (i < 0 ∨ (n : Int) ≤ i)) : ∃ k : Nat, i = k ∧ k < n := ⟨i.toNat, by omega, by omega⟩
/-- each act comes to something -/
theorem ActC.any {S : Ns} {K : Int} (hk : S.ok K) (a : Ac) : ∃ S' num b er, ActC S a S' num b er := by
  by_cases k0 : a.k < 1 ∨ 8 < a.k
  · exact ⟨_, _, _, _, .bad k0⟩
  by_cases k1 : a.k = 1
  · cases hu : S.up with
    | true => exact ⟨_, _, _, _, .conn0 k1 hu⟩
    | false => exact ⟨_, _, _, _, .conn k1 hu⟩
  by_cases k2 : a.k = 2
  · cases hu : S.up with
    | true => exact ⟨_, _, _, _, .cut k2 hu⟩
    | false => exact ⟨_, _, _, _, .down2 k2 hu⟩
  cases hz : sideB a.z with
  | false => exact ⟨_, _, _, _, .side (by omega) (by omega) hz⟩
  | true =>
    obtain ⟨s, hs⟩ := sideB_of _ hz
    have hlen := hk.len s
    by_cases k3 : a.k = 3
    · by_cases hl : 8192 < a.b.length
      · exact ⟨_, _, _, _, .long s k3 hs hl⟩
      cases hu : S.up with
      | false => exact ⟨_, _, _, _, .down3 s k3 hs (by omega) hu⟩
      | true =>
        by_cases hf : ((S.u s).length : Int) = S.limit
        · exact ⟨_, _, _, _, .full s k3 hs (by omega) hu hf⟩
        · exact ⟨_, _, _, _, .send s k3 hs (by omega) hu (by omega)⟩
    cases hu : S.up with
    | false => exact ⟨_, _, _, _, .down4 s (by omega) (by omega) hs hu⟩
    | true =>
      by_cases hi : a.i < 0 ∨ ((S.u s).length : Int) ≤ a.i
      · exact ⟨_, _, _, _, .range s (by omega) (by omega) hs hu hi⟩
      obtain ⟨i, ei, li⟩ := nat_at hi
      have hq : (S.u s)[i]? = some (S.u s)[i] := List.getElem?_eq_getElem li
      generalize (S.u s)[i] = q at hq
      by_cases k4 : a.k = 4
      · exact ⟨_, _, _, _, .deliver s i q k4 hs hu ei hq⟩
      by_cases k5 : a.k = 5
      · exact ⟨_, _, _, _, .drop s i q k5 hs hu ei hq⟩
      by_cases k6 : a.k = 6
      · by_cases hf : ((S.u s).length : Int) = S.limit
        · exact ⟨_, _, _, _, .dfull s i q k6 hs hu ei hq hf⟩
        · exact ⟨_, _, _, _, .double s i q k6 hs hu ei hq (by omega)⟩
      by_cases k7 : a.k = 7
      · by_cases hj : a.j < 0 ∨ ((S.u s).length : Int) ≤ a.j
        · exact ⟨_, _, _, _, .mrange s i q k7 hs hu ei hq hj⟩
        · obtain ⟨j, ej, lj⟩ := nat_at hj
          exact ⟨_, _, _, _, .move s i j q k7 hs hu ei hq ej lj⟩
      · have k8 : a.k = 8 := by omega
        by_cases hj : a.j < 0 ∨ (q.bytes.length : Int) ≤ a.j ∨ a.m = 0
        · exact ⟨_, _, _, _, .frange s i q k8 hs hu ei hq hj⟩
        · obtain ⟨j, ej, lj⟩ := nat_at (i := a.j) (n := q.bytes.length) (by omega)
          exact ⟨_, _, _, _, .flip s i j q _ k8 hs hu ei hq ej (List.getElem?_eq_getElem lj) (fun e => hj (.inr (.inr e)))⟩
/-- the packets under way are small -/
def Ns.sm (S : Ns) : Prop := ∀ s, ∀ q ∈ S.u s, q.bytes.length ≤ 8192
theorem Ns.new_sm (limit : Int) : (Ns.new limit).sm := fun s q hq => by cases hq
theorem sm_upd {S : Ns} (h : S.sm) (s : Bool) {us : List Pk} (hu : ∀ q ∈ us, q.bytes.length ≤ 8192) : ∀ t, ∀ q ∈ upd S.u s us t, q.bytes.length ≤ 8192 := fun t q hq => by
  by_cases ht : t = s
  · subst ht; rw [upd_at] at hq; exact hu q hq
  · simp only [upd, if_neg ht] at hq; exact h t q hq
theorem Ns.move_ok {K : Int} {S : Ns} (h : S.ok K) (s : Bool) {i j : Nat} {q : Pk} (hq : (S.u s)[i]? = some q) : (S.move s i j q).ok K := by
  refine ⟨h.lo, h.hi, h.ep, h.nu, fun t => ?_, h.cn⟩
  by_cases ht : t = s
  · subst ht
    simp only [Ns.move, Ns.setU, upd_at]
    rw [(moved_perm hq j).length_eq]
    exact h.len t
  · have := h.len t
    simpa [Ns.move, Ns.setU, upd, ht] using this
theorem ActC.ok {S S' : Ns} {K num er : Int} {a : Ac} {b : List UInt8} (h : ActC S a S' num b er) (hk : S.ok K) (hs : S.sm) : S'.ok (K + 128) ∧ S'.sm ∧ b.length ≤ 8192 := by
  have same : S.ok (K + 128) := Ns.ok_mono hk (by omega)
  have at_ : ∀ {s : Bool} {i : Nat} {q : Pk}, (S.u s)[i]? = some q → q.bytes.length ≤ 8192 := fun {s i q} hq => hs s q (List.mem_of_getElem? hq)
  cases h with
  | conn0 | bad | side | long | down2 | down3 | down4 | full | range | dfull | mrange | frange => exact ⟨same, hs, by simp⟩
  | conn h1 h2 => exact ⟨Ns.ok_mono (Ns.conn_ok hk) (by omega), hs, by simp⟩
  | cut h1 h2 =>
    refine ⟨Ns.ok_mono (Ns.cut_ok hk) (by omega), fun s q hq => ?_, by simp⟩
    have : S.cut.u s = [] := by cases s <;> rfl
    rw [this] at hq; cases hq
  | send s h1 h2 h3 h4 h5 =>
    refine ⟨Ns.ok_mono (Ns.put_ok (Ns.add_ok hk s 0 (by omega) 1 (by omega)) s a.b h5) (by omega), sm_upd hs s (fun q hq => ?_), h3⟩
    rcases List.mem_append.1 hq with h | h
    · exact hs s q h
    · simp only [List.mem_singleton] at h; subst h; exact h3
  | deliver s i q h1 h2 h3 h4 h5 => exact ⟨Ns.ok_mono (Ns.add_ok (Ns.take_ok hk s i) s 2 (by omega) 1 (by omega)) (by omega), sm_upd hs s (fun q hq => hs s q (List.mem_of_mem_eraseIdx hq)), at_ h5⟩
  | drop s i q h1 h2 h3 h4 h5 => exact ⟨Ns.ok_mono (Ns.add_ok (Ns.take_ok hk s i) s 3 (by omega) 1 (by omega)) (by omega), sm_upd hs s (fun q hq => hs s q (List.mem_of_mem_eraseIdx hq)), at_ h5⟩
  | double s i q h1 h2 h3 h4 h5 h6 =>
    refine ⟨Ns.ok_mono (Ns.put_ok (Ns.add_ok hk s 1 (by omega) 1 (by omega)) s q.bytes h6) (by omega), sm_upd hs s (fun r hr => ?_), at_ h5⟩
    rcases List.mem_append.1 hr with h | h
    · exact hs s r h
    · simp only [List.mem_singleton] at h; subst h; show q.bytes.length ≤ 8192; exact at_ h5
  | move s i j q h1 h2 h3 h4 h5 h6 h7 => exact ⟨Ns.ok_mono (Ns.add_ok (Ns.move_ok hk s h5) s 5 (by omega) 1 (by omega)) (by omega), sm_upd hs s (fun r hr => hs s r ((moved_perm h5 j).mem_iff.1 hr)), by simp⟩
  | flip s i j q x h1 h2 h3 h4 h5 h6 h7 h8 =>
    refine ⟨Ns.ok_mono (Ns.add_ok (Ns.flip_ok hk s i _) s 6 (by omega) 1 (by omega)) (by omega), sm_upd hs s (fun r hr => ?_), by rw [List.length_set]; exact at_ h5⟩
    rcases List.mem_or_eq_of_mem_set hr with h | h
    · exact hs s r h
    · subst h; show (q.bytes.set j _).length ≤ 8192; rw [List.length_set]; exact at_ h5
theorem ActC.er {S S' : Ns} {num er : Int} {a : Ac} {b : List UInt8} (h : ActC S a S' num b er) : 0 ≤ er ∧ er ≤ 184 := by cases h <;> omega
end Go.Proofs.Ytbkgphmocjjmmaa
