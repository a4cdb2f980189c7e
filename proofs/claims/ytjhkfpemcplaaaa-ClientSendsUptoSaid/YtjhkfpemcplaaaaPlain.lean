/-
  What is read is what was written, plain mathematics on lists: counts, values, texts; and what is written is read back.
-/
import Derived.Test.YtjhkfpemcplaaaaPutr
import Derived.Test.YtjhkfpemcplaaaaGetr
namespace Go.Proofs.Ytjhkfpemcplaaaa
open Go.RowKit

theorem u8_ofNat (x : UInt8) : UInt8.ofNat x.toNat = x := by simp
theorem byteV_cons {l : List UInt8} (h : l.isEmpty = false) : l = UInt8.ofNat (byteV l) :: l.tail := by
  cases l with
  | nil => simp at h
  | cons x l => simp [byteV]
theorem pow7_succ (i : Nat) : 2 ^ (7 * (i + 1)) = 128 * 2 ^ (7 * i) := by
  rw [show 7 * (i + 1) = 7 * i + 7 from by omega, Nat.pow_add]
  omega
/-- a count that was read is what its number is written as -/
theorem cntS_enc (f : Nat) : ∀ (i n : Nat) (l : List UInt8) (b : Bool) (m : Nat) (l1 : List UInt8), f + 1 + i = 10 → cntS (f + 1) i n l b = (m, l1, false) → b = false ∧ ∃ v, m = n + v * 2 ^ (7 * i) ∧ l = encF f v ++ l1 ∧ (0 < i → 0 < v) := by
  induction f with
  | zero =>
    intro i n l b m l1 hi h
    by_cases hb : ((b || l.isEmpty) || (i == 9 && decide (1 < byteV l)) || (decide (0 < i) && byteV l == 0)) = true
    · rw [cntS_bad hb] at h
      injection h with _ h
      injection h with _ h
      cases h
    · have hb' := eq_false_of_ne_true hb
      by_cases hx : byteV l < 128
      · rw [cntS_end hb' hx] at h
        injection h with h1 h
        injection h with h2 h
        simp only [Bool.or_eq_false_iff] at hb'
        obtain ⟨⟨⟨hb0, he⟩, h9⟩, h0⟩ := hb'
        refine ⟨hb0, byteV l, ?_, ?_, fun h3 => ?_⟩
        · rw [← h1, Nat.mod_eq_of_lt hx]
        · rw [← h2]; exact byteV_cons he
        · simp [h3] at h0; omega
      · rw [cntS_on hb' hx] at h
        rw [cntS] at h
        injection h with _ h
        injection h with _ h
        cases h
  | succ f ih =>
    intro i n l b m l1 hi h
    by_cases hb : ((b || l.isEmpty) || (i == 9 && decide (1 < byteV l)) || (decide (0 < i) && byteV l == 0)) = true
    · rw [cntS_bad hb] at h
      injection h with _ h
      injection h with _ h
      cases h
    · have hb' := eq_false_of_ne_true hb
      have hb2 := hb'
      simp only [Bool.or_eq_false_iff] at hb'
      obtain ⟨⟨⟨hb0, he⟩, h9⟩, h0⟩ := hb'
      by_cases hx : byteV l < 128
      · rw [cntS_end hb2 hx] at h
        injection h with h1 h
        injection h with h2 h
        refine ⟨hb0, byteV l, ?_, ?_, fun h3 => ?_⟩
        · rw [← h1, Nat.mod_eq_of_lt hx]
        · rw [← h2, encF_succ, if_pos hx]; exact byteV_cons he
        · simp [h3] at h0; omega
      · rw [cntS_on hb2 hx] at h
        obtain ⟨_, v, hm, hl, hv⟩ := ih (i + 1) _ l.tail false m l1 (by omega) h
        have hv := hv (by omega)
        have hx2 := byteV_lt l
        refine ⟨hb0, byteV l % 128 + 128 * v, ?_, ?_, fun _ => by omega⟩
        · rw [hm, pow7_succ, Nat.add_mul, Nat.add_assoc, Nat.mul_assoc 128 v, Nat.mul_left_comm 128 v, Nat.mul_left_comm v 128]
        · rw [encF_succ, if_neg (by omega)]
          have e1 : (byteV l % 128 + 128 * v) % 128 + 128 = byteV l := by omega
          have e2 : (byteV l % 128 + 128 * v) / 128 = v := by omega
          rw [e1, e2, List.cons_append, ← hl]
          exact byteV_cons he
theorem cnt_enc {l : List UInt8} {b : Bool} {m : Nat} {l1 : List UInt8} (h : cnt l b = (m, l1, false)) : b = false ∧ l = enc m ++ l1 := by
  obtain ⟨hb, v, hm, hl, _⟩ := cntS_enc 9 0 0 l b m l1 rfl h
  have : m = v := by simpa using hm
  subst this
  exact ⟨hb, hl⟩
theorem cnt_zero {l : List UInt8} {b : Bool} (h : (cnt l b).2.2 = true) : (cnt l b).1 = 0 := by
  have key : ∀ f i n l b, (cntS f i n l b).2.2 = true → (cntS f i n l b).1 = 0 := by
    intro f
    induction f with
    | zero => intro i n l b _; rfl
    | succ f ih =>
      intro i n l b h
      rw [cntS] at h ⊢
      split at h
      · rename_i hc; rw [if_pos hc]
      · rename_i hc
        rw [if_neg hc]
        split at h
        · cases h
        · rename_i hx; rw [if_neg hx]; exact ih _ _ _ _ h
  exact key _ _ _ _ _ h
theorem zig_unzig {m : Nat} : zig (unzig m) = m := by
  unfold zig unzig
  by_cases h : m % 2 = 0
  · rw [if_pos h, if_pos (by omega)]; omega
  · rw [if_neg h, if_neg (by omega)]; omega
/-- bad stays bad -/
theorem cnt_bad (l : List UInt8) : cnt l true = (0, l.tail, true) := cntS_bad (f := 9) (i := 0) (n := 0) (l := l) (b := true) rfl

theorem valD_enc {l : List UInt8} {b : Bool} {v : Nat × Int} {l1 : List UInt8} (h : valD l b = (v, l1, false)) : b = false ∧ l = valB v ++ l1 ∧ (v.1 = 0 ∨ v.2 = 0) := by
  unfold valD at h
  obtain ⟨⟨m, l2, b2⟩, hc⟩ : ∃ r, cnt l b = r := ⟨_, rfl⟩
  rw [hc] at h
  dsimp only at h
  by_cases h0 : m = 0
  · rw [if_pos h0] at h
    obtain ⟨⟨m2, l3, b3⟩, hc2⟩ : ∃ r, cnt l2 b2 = r := ⟨_, rfl⟩
    rw [hc2] at h
    dsimp only at h
    injection h with h1 h
    injection h with h2 h3
    subst h1 h2 h3 h0
    obtain ⟨rfl, e2⟩ := cnt_enc hc2
    obtain ⟨rfl, e1⟩ := cnt_enc hc
    refine ⟨rfl, ?_, .inl rfl⟩
    rw [e1, e2]
    simp [valB, zig_unzig]
  · rw [if_neg h0] at h
    injection h with h1 h
    injection h with h2 h3
    subst h1 h2 h3
    obtain ⟨rfl, e1⟩ := cnt_enc hc
    refine ⟨rfl, ?_, .inr rfl⟩
    rw [e1]
    simp [valB, h0]
theorem valsD_enc (k : Nat) : ∀ {l : List UInt8} {b : Bool} {vs : List (Nat × Int)} {l1 : List UInt8}, valsD k l b = (vs, l1, false) → b = false ∧ l = vs.flatMap valB ++ l1 ∧ okV vs ∧ vs.length = k := by
  induction k with
  | zero =>
    intro l b vs l1 h
    rw [valsD] at h
    injection h with h1 h
    injection h with h2 h3
    subst h1 h2 h3
    exact ⟨rfl, by simp, by intro v hv; simp at hv, rfl⟩
  | succ k ih =>
    intro l b vs l1 h
    cases b
    · rw [valsD, if_neg (by decide)] at h
      obtain ⟨⟨v, l2, b2⟩, hv⟩ : ∃ r, valD l false = r := ⟨_, rfl⟩
      rw [hv] at h
      dsimp only at h
      obtain ⟨⟨us, l3, b3⟩, hu⟩ : ∃ r, valsD k l2 b2 = r := ⟨_, rfl⟩
      rw [hu] at h
      dsimp only at h
      injection h with h1 h
      injection h with h2 h3
      subst h1 h2 h3
      obtain ⟨rfl, e2, hok, hlen⟩ := ih hu
      obtain ⟨_, e1, ho⟩ := valD_enc hv
      refine ⟨rfl, ?_, ?_, by simp [hlen]⟩
      · rw [e1, e2]; simp
      · intro w hw
        rcases List.mem_cons.1 hw with rfl | hw
        · exact ho
        · exact hok w hw
    · rw [valsD_bad] at h
      injection h with _ h
      injection h with _ h
      cases h
theorem txt_flag (l : List UInt8) (b : Bool) : (txtP l b).2.2 = (txtD l b).2.2 ∧ ((txtD l b).2.2 = false → txtP l b = txtD l b) := by
  unfold txtP txtD
  obtain ⟨⟨m, l2, b2⟩, hc⟩ : ∃ r, cnt l b = r := ⟨_, rfl⟩
  have hz : b2 = true → m = 0 := fun h => by have := cnt_zero (l := l) (b := b) (by rw [hc]; exact h); rw [hc] at this; exact this
  rw [hc]
  dsimp only
  cases b2
  · by_cases h1 : 512 < m
    · rw [if_pos h1, if_pos (.inr (.inl h1))]; exact ⟨rfl, fun h => by cases h⟩
    · rw [if_neg h1]
      by_cases h2 : m ≤ l2.length
      · rw [if_pos h2, if_neg (by rintro (h | h | h) <;> first | omega | cases h)]; simp
      · rw [if_neg h2, if_pos (by omega)]; simp
  · have := hz rfl
    subst this
    simp
theorem txtD_enc {l : List UInt8} {b : Bool} {t : List UInt8} {l1 : List UInt8} (h : txtD l b = (t, l1, false)) : b = false ∧ l = enc t.length ++ t ++ l1 ∧ t.length ≤ 512 := by
  unfold txtD at h
  obtain ⟨⟨m, l2, b2⟩, hc⟩ : ∃ r, cnt l b = r := ⟨_, rfl⟩
  rw [hc] at h
  dsimp only at h
  by_cases h0 : b2 = true ∨ 512 < m ∨ l2.length < m
  · rw [if_pos h0] at h
    injection h with _ h
    injection h with _ h
    cases h
  · rw [if_neg h0] at h
    injection h with h1 h
    injection h with h2 _
    have hb2 : b2 = false := by cases b2 <;> simp_all
    subst hb2
    obtain ⟨rfl, e⟩ := cnt_enc hc
    have hlen : t.length = m := by rw [← h1, List.length_take]; omega
    refine ⟨rfl, ?_, by omega⟩
    rw [e, hlen, ← h1, ← h2]
    simp
/-- a reply that was read is what it is written as -/
theorem rep_enc {bs : List UInt8} (hf : (repTD bs).2.2 = false) (hr : (repTD bs).2.1 = []) :
    bs = replyB (unzig (cnt bs false).1) (repV bs).1 (repTD bs).1 ∧ okV (repV bs).1 ∧ (repTD bs).1.length ≤ 512 := by
  obtain ⟨⟨m, l1, b1⟩, hc⟩ : ∃ r, cnt bs false = r := ⟨_, rfl⟩
  obtain ⟨⟨vs, l2, b2⟩, hv⟩ : ∃ r, repV bs = r := ⟨_, rfl⟩
  obtain ⟨⟨t, l3, b3⟩, ht⟩ : ∃ r, repTD bs = r := ⟨_, rfl⟩
  rw [ht] at hf hr
  dsimp only at hf hr
  subst hf hr
  have ht' := ht
  unfold repTD at ht
  rw [hv] at ht
  obtain ⟨rfl, e3, h512⟩ := txtD_enc ht
  have hv' := hv
  unfold repV at hv
  rw [hc] at hv
  dsimp only at hv
  obtain ⟨hb, e2, hok, hlen⟩ := valsD_enc _ hv
  simp only [Bool.or_eq_false_iff] at hb
  obtain ⟨rfl, hemp⟩ := hb
  obtain ⟨_, e1⟩ := cnt_enc hc
  rw [hc, hv', ht']
  refine ⟨?_, hok, h512⟩
  dsimp only
  unfold replyB
  rw [zig_unzig, hlen]
  dsimp only at e3
  rw [e3] at e2
  have e4 := byteV_cons hemp
  rw [e2] at e4
  rw [e1]
  generalize byteV l1 = q at e4 ⊢
  rw [e4]
  simp
/-- the program's rule and the document's are the same -/
theorem rep_good (bs : List UInt8) : ((repT bs).2.2 = false ∧ (repT bs).2.1 = [] ∧ goodR (unzig (cnt bs false).1) (repV bs).1 (repT bs).1) ↔ ((repTD bs).2.2 = false ∧ (repTD bs).2.1 = [] ∧ bs.length ≤ 1024 ∧ (repV bs).1.length ≤ 32) := by
  obtain ⟨h1, h2⟩ := txt_flag (repV bs).2.1 (repV bs).2.2
  constructor
  · rintro ⟨hf, hr, hg⟩
    have e : repT bs = repTD bs := h2 (h1.symm.trans hf)
    rw [e] at hf hr hg
    have hb := (rep_enc hf hr).1
    refine ⟨hf, hr, ?_, hg.1⟩
    have := hg.2.2.2
    rw [← hb] at this
    exact this
  · rintro ⟨hf, hr, hl, h32⟩
    have e : repT bs = repTD bs := h2 hf
    rw [e]
    obtain ⟨hb, hok, h512⟩ := rep_enc hf hr
    exact ⟨hf, hr, h32, h512, hok, by rw [← hb]; exact hl⟩
/-- both ends of a Put in one form -/
theorem PutPost.form {w w1 : World} {good : Prop} {bytes : List UInt8} {e : Ending} (h : PutPost w good bytes e w1) :
    ∃ A n c e6 b5, e = .returned (.tuple #[.slice A n c, .int .i64 e6]) ∧ RdB w1 w1.heap.size A n b5 ∧ Below w.heap.size w w1 ∧ Hid ((good ∧ e6 = 0 ∧ b5 = bytes) ∨ (¬ good ∧ e6 = 173 ∧ n = 0)) := by
  obtain ⟨hb, ⟨hg, v, rfl, ho⟩ | ⟨hg, rfl⟩⟩ := h
  · obtain ⟨A, c, rfl, -⟩ := OwnB.form ho
    exact ⟨A, _, c, 0, _, rfl, OwnB.reads ho rfl, hb, Lib.hid (.inl ⟨hg, rfl, rfl⟩)⟩
  · exact ⟨none, 0, 0, 173, [], rfl, Reads.none_, hb, Lib.hid (.inr ⟨hg, rfl, rfl⟩)⟩
end Go.Proofs.Ytjhkfpemcplaaaa
