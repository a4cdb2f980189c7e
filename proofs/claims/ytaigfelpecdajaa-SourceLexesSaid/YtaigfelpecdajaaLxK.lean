/-
  The plain law of plain numbers: without an r the digits stand as they are, but for zeros ahead. No program is in sight.
-/
import Derived.Test.YtaigfelpecdajaaLxS
namespace Go.Proofs.Ytaigfelpecdajaa
namespace Lx

def stripT : Txt → Txt
  | [] => []
  | [x] => [x]
  | x :: y :: t => if x = 48 then stripT (y :: t) else x :: y :: t
theorem dig_val {x : UInt8} (h : digB x = true) : valF x = x.toNat - 48 ∧ valF x < 10 ∧ 48 ≤ x.toNat := by
  have hr := digB_range h
  have hc : capB x = false := by unfold capB; simp; omega
  rw [valF_dig hc]
  omega
theorem co_small {d : Nat} (h0 : ¬ d = 0) (h : d < 10) : co d = [d] := by
  unfold co; rw [if_neg h0, if_pos h]
theorem grow10 : ∀ (n : List Nat) (d : Nat), Dg n → d < 10 → (h : n ≠ []) → n.getLast h ≠ 0 → growF 10 n d = d :: n
  | [x], d, hn, hd, _, hl => by
    have hx := hn x (by simp)
    have hx0 : ¬ x = 0 := by simpa using hl
    have e1 : (x * 10 + d) % 10 = d := by omega
    have e2 : (x * 10 + d) / 10 = x := by omega
    simp only [growF, e1, e2, co_small hx0 hx]
  | x :: y :: t, d, hn, hd, _, hl => by
    have hx := hn x (by simp)
    have e1 : (x * 10 + d) % 10 = d := by omega
    have e2 : (x * 10 + d) / 10 = x := by omega
    have ih := grow10 (y :: t) x (fun z hz => hn z (List.mem_cons_of_mem _ hz)) hx (by simp) (by simpa using hl)
    have e3 : growF 10 (x :: y :: t) d = (x * 10 + d) % 10 :: growF 10 (y :: t) ((x * 10 + d) / 10) := rfl
    rw [e3, e1, e2, ih]
theorem decN10_on : ∀ (ds : Txt) (n : List Nat), (∀ x ∈ ds, digB x = true) → Dg n → (h : n ≠ []) → n.getLast h ≠ 0 → decN 10 n ds = some ((ds.map valF).reverse ++ n)
  | [], n, _, _, _, _ => by simp [decN]
  | x :: t, n, hds, hn, h, hl => by
    obtain ⟨_, hv, _⟩ := dig_val (hds x (by simp))
    have hg := grow10 n (valF x) hn hv h hl
    have e : decN 10 n (x :: t) = decN 10 (growF 10 n (valF x)) t := by simp only [decN, if_pos hv]
    rw [e, hg, decN10_on t (valF x :: n) (fun z hz => hds z (List.mem_cons_of_mem _ hz)) (fun z hz => by
      rcases List.mem_cons.1 hz with rfl | hz
      · exact hv
      · exact hn z hz) (by simp) (by rw [List.getLast_cons h]; exact hl)]
    simp
theorem decN10 : ∀ (ds : Txt), (∀ x ∈ ds, digB x = true) → ds ≠ [] → ∃ n, decN 10 [] ds = some n ∧ txtN (fixN n) = stripT ds ∧ n.length ≤ ds.length
  | [x], hds, _ => by
    obtain ⟨h1, hv, h48⟩ := dig_val (hds x (by simp))
    by_cases h0 : valF x = 0
    · refine ⟨[], ?_, ?_, by simp⟩
      · have e : decN 10 [] [x] = decN 10 (growF 10 [] (valF x)) [] := by simp only [decN, if_pos hv]
        rw [e, h0]; rfl
      · have : x = 48 := by rw [← UInt8.toNat_inj]; show _ = 48; omega
        rw [this]; rfl
    · refine ⟨[valF x], ?_, ?_, by simp⟩
      · have e : decN 10 [] [x] = decN 10 (growF 10 [] (valF x)) [] := by simp only [decN, if_pos hv]
        have e2 : growF 10 [] (valF x) = co (valF x) := rfl
        rw [e, e2, co_small h0 hv]; rfl
      · have e : (UInt8.ofNat (48 + valF x)) = x := by rw [← UInt8.toNat_inj, UInt8.toNat_ofNat']; omega
        show [UInt8.ofNat (48 + valF x)] = [x]
        rw [e]
  | x :: y :: t, hds, _ => by
    obtain ⟨h1, hv, h48⟩ := dig_val (hds x (by simp))
    have e : decN 10 [] (x :: y :: t) = decN 10 (growF 10 [] (valF x)) (y :: t) := by simp only [decN, if_pos hv]
    by_cases h0 : valF x = 0
    · have hx : x = 48 := by rw [← UInt8.toNat_inj]; show _ = 48; omega
      obtain ⟨n, a, b, c⟩ := decN10 (y :: t) (fun z hz => hds z (List.mem_cons_of_mem _ hz)) (by simp)
      refine ⟨n, ?_, ?_, ?_⟩
      · rw [e, h0]; exact a
      · rw [b, hx]; simp [stripT]
      · simp at c ⊢; omega
    · have hx : ¬ x = 48 := fun h => h0 (by rw [h1, h]; rfl)
      have e2 : growF 10 [] (valF x) = co (valF x) := rfl
      have e3 := decN10_on (y :: t) [valF x] (fun z hz => hds z (List.mem_cons_of_mem _ hz)) (fun z hz => by simp at hz; omega) (by simp) (by simpa using h0)
      refine ⟨_, by rw [e, e2, co_small h0 hv, e3], ?_, by simp⟩
      have hne : ((y :: t).map valF).reverse ++ [valF x] ≠ [] := by simp
      have key : ∀ z, digB z = true → UInt8.ofNat (48 + valF z) = z := fun z hz => by
        obtain ⟨a, b, c⟩ := dig_val hz
        rw [← UInt8.toNat_inj, UInt8.toNat_ofNat']; omega
      unfold fixN
      rw [if_neg hne]
      unfold txtN stripT
      rw [if_neg hx, List.reverse_append, List.reverse_reverse]
      have hmap : ((y :: t).map valF).map (fun d => UInt8.ofNat (48 + d)) = y :: t := by
        rw [List.map_map]
        exact (List.map_congr_left (fun z hz => key z (hds z (List.mem_cons_of_mem _ hz)))).trans (List.map_id _)
      rw [List.map_append, hmap]
      show UInt8.ofNat (48 + valF x) :: (y :: t) = x :: y :: t
      rw [key x (hds x (by simp))]
theorem decF10 {ds : Txt} (h : ∀ x ∈ ds, digB x = true) (hne : ds ≠ []) (hl : ds.length ≤ 1000) : decF 10 ds = some (stripT ds) := by
  obtain ⟨n, a, b, c⟩ := decN10 ds h hne
  have hf : ¬ 1000 < (fixN n).length := by rw [fixN_len]; omega
  rw [decF_some (by omega) a hf, b]
theorem strip_step {l : Txt} {i j : Nat} (h : i + 1 < j) (hj : j ≤ l.length) (h0 : l[i]? = some 48) : stripT (cut l (i + 1) j) = stripT (cut l i j) := by
  have e : cut l i j = 48 :: cut l (i + 1) j := by
    unfold cut
    exact drop_at (by rw [List.getElem?_take_of_lt (by omega)]; exact h0)
  have hlen := cut_len l (i + 1) j hj
  match hc : cut l (i + 1) j with
  | [] => rw [hc] at hlen; simp at hlen; omega
  | y :: t => rw [e, hc]; simp [stripT]
theorem strip_stop {l : Txt} {i j : Nat} (hij : i < j) (hj : j ≤ l.length) {x : UInt8} (hx : l[i]? = some x) (h : ¬ (i + 1 < j ∧ x = 48)) : stripT (cut l i j) = cut l i j := by
  have e : cut l i j = x :: cut l (i + 1) j := by
    unfold cut
    exact drop_at (by rw [List.getElem?_take_of_lt (by omega)]; exact hx)
  have hlen := cut_len l (i + 1) j hj
  rw [e]
  match hc : cut l (i + 1) j with
  | [] => rfl
  | y :: t =>
    rw [hc] at hlen
    simp at hlen
    have : ¬ x = 48 := fun hx => h ⟨by omega, hx⟩
    simp [stripT, this]
end Lx
end Go.Proofs.Ytaigfelpecdajaa
