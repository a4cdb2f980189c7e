/-
  The law ClientDoes. No statement of the seat is proved here.
-/
import Derived.Test.YtjhkfpemcplaaaaDlT
import Derived.Test.YtjhkfpemcplaaaaClZ
import Derived.Laws.StructEq
namespace Go.Proofs.Ytjhkfpemcplaaaa
open Go.RowKit

theorem CD.base {b b' : Nat} {w : World} {p : Pa} {c : Cl} (h : CD b w p c) (hb : b' ≤ b) : CD b' w p c := by
  obtain ⟨A, k, N, hkv, hx, hN, hbN, ha⟩ := h.rd
  exact ⟨h.blk, ⟨A, k, N, hkv, hx, hN, Nat.le_trans hb hbN, ha⟩, ⟨h.rows.b.rebase hb, h.rows.r.rebase hb, h.rows.e.rebase hb, h.rows.bi, h.rows.ri, h.rows.ei, h.rows.ap⟩, ⟨Nat.le_trans hb h.ge.1, Nat.le_trans hb h.ge.2⟩, h.dr⟩
set_option maxRecDepth 20000 in
theorem cst_neq (c : Cl) (w : World) : (binOp .neq 45 (cstV c) (cstV c)).run Try.prog w = .ok (.bool false) w := by
  unfold cstV
  go_simp
def DoTrueP (w : World) (e : Ending) (w' : World) : Prop := e = .returned (.bool true) ∧ Below w.heap.size w w'
set_option maxRecDepth 20000 in
set_option maxHeartbeats 4000000 in
theorem does_no (nonce : Nat) (win pat : Int) (A : Option Addr) (n c : Nat) (w : World) (h : ¬ (1 ≤ nonce ∧ 1 ≤ win ∧ win ≤ 16 ∧ 1 ≤ pat ∧ pat ≤ 1000)) :
    Calls Try.prog 8 #[.int .u64 (nonce : Int), .int .i64 win, .int .i64 pat, .slice A n c] w (DoTrueP w) := by
  have HB := Lib.hid (new_bad nonce win pat w h)
  have HR := Lib.hid (rnew_bad nonce win pat w h)
  clear h
  go_enter Try.func8, Try.ntmps8
  go_wp2_with (first
    | (go_at_call 10; refine HB.out.mono ?_; rintro e w1 ⟨rfl, rfl⟩)
    | (go_at_call 34; refine HR.out.mono ?_; rintro e w1 ⟨rfl, rfl⟩)
    | (go_at_call 13; refine (num_any _ _).mono ?_; rintro e w1 ⟨rfl, rfl⟩)
    | (go_at_call 12; refine (awake_any _).mono ?_; rintro e w3 ⟨rfl, hb⟩; have HW := Lib.hid hb; clear hb))
  go_ret
  exact ⟨rfl, HW.out⟩
theorem does_ok {nonce win pat : Nat} (h1 : 1 ≤ nonce) (hn : nonce < 18446744073709551616) (h2 : 1 ≤ win) (h3 : win ≤ 16) (h4 : 1 ≤ pat) (h5 : pat ≤ 1000) : (Cl.new nonce win pat).Ok 0 := by
  constructor <;> simp [Cl.new, h1, hn, h2, h3, h4, h5]
theorem twx_start {w w1 w2 : World} {p q : Pa} {c : Cl} (ha : CA w.heap.size w1 p c) (hd : p.d = 0) (hb : Below w.heap.size w w1) (hc : CD w1.heap.size w2 q c) (hdq : q.d = 0) (hb2 : Below w1.heap.size w1 w2) : TwX w p.g q.g c c 0 0 p q w2 :=
  ⟨ha.below hb2, hc.base hb.size, rfl, rfl, fun k hk he => by have := (ha.lt hk).2; have := (hc.cfe he).1; omega, hb.trans (hb2.mono hb.size), by omega, by omega⟩
set_option maxRecDepth 20000 in
set_option maxHeartbeats 8000000 in
theorem does_yes (nonce win pat : Nat) (A : Option Addr) (n cc : Nat) (ds : List Dd) (w : World) (h1 : 1 ≤ nonce) (hno : nonce < 18446744073709551616) (h2 : 1 ≤ win) (h3 : win ≤ 16) (h4 : 1 ≤ pat) (h5 : pat ≤ 1000) (hd : DsIn w A ds) (hn : ds.length = n) (hn9 : n ≤ 1048576) (hck : ckD ds ≤ 8589934592) :
    Calls Try.prog 8 #[.int .u64 (nonce : Int), .int .i64 (win : Int), .int .i64 (pat : Int), .slice A n cc] w (DoTrueP w) := by
  have HST := Lib.hid (new_ok nonce win pat w h1 h2 h3 h4 h5)
  have HRN := Lib.hid fun w => rnew_ok nonce win pat w h1 h2 h3 h4 h5
  have HO0 := Lib.hid (does_ok h1 hno h2 h3 h4 h5)
  have HSH0 := Lib.hid (short_new nonce win pat)
  have HD := Lib.hid hd
  have HN := Lib.hid hn
  have HCK := Lib.hid hck
  generalize Cl.new nonce win pat = cn at *
  clear h1 hno h2 h3 h4 h5 hd hck hn
  go_enter Try.func8, Try.ntmps8
  go_upto_block 0 with (first
    | (go_at_call 10; refine HST.out.mono ?_; rintro e w1 ⟨p, rfl, hca, hpd, hb⟩; have H1 := Lib.hid (And.intro hca (And.intro hpd hb)); clear hca hpd hb)
    | (go_at_call 34; refine (HRN.out _).mono ?_; rintro e w2 ⟨q, rfl, hcd, hqd, hb2⟩; have HT := Lib.hid (twx_start H1.out.1 H1.out.2.1 H1.out.2.2 hcd hqd hb2); clear hcd hqd hb2)
    | (go_at_call 13; refine (num_any _ _).mono ?_; rintro e w3 ⟨rfl, rfl⟩))
  clear H1 HST HRN
  generalize p.g = gp at *
  generalize q.g = gq at *
  go_wp2_with fail
  go_loopw [12] (fun v wr => ∃ (i : Nat) (c : Cl) (p q : Pa), i ≤ n ∧ v = .int .i64 (i : Int) ∧ TwX w gp gq c c (ckD (ds.take i)) (ckD (ds.take i)) p q wr ∧ c.Ok (ckD (ds.take i)) ∧ c.Short) (fun v _ => n - (intOf v).toNat)
  case atStart => exact ⟨0, _, p, q, Nat.zero_le _, rfl, HT.out, HO0.out, HSH0.out⟩
  case round =>
    obtain ⟨i, c, p, q, hi, rfl, hos, hok, hsh⟩ := hrel
    by_cases hlt : i < n
    · have hdw := HD.out.below hos.old
      obtain ⟨b, off, d, rfl, hdi, hd1, hd2, hd3, hcell⟩ := hdw.at_ (by rw [HN.out]; exact hlt)
      have l1 : (0 : Int) ≤ (i : Int) := by omega
      have l2 : (i : Int) < (n : Int) := by omega
      have HDI := Lib.hid hdi
      have HD0 := Lib.hid ((HD.out.el d (List.mem_of_getElem? hdi)).1)
      have hm9 : ckD (ds.take i) ≤ 8589934592 := Nat.le_trans (ckD_le ds i) HCK.out
      have HM9 := Lib.hid hm9
      have HDO := Lib.hid (do_any d (hos.below (w' := wr.drew) ⟨rfl, rfl, rfl, Nat.le_refl _, fun _ _ => rfl⟩) hok (by omega) HD0.out hd2 hd3 (by omega))
      have HOK := Lib.hid (doF_ok hok d)
      have HSH := Lib.hid (doF_short hsh d)
      have HNX := Lib.hid (ckD_next hdi)
      generalize doF c d = c2 at *
      have y0 := hcell 0 _ rfl
      have y1 := hcell 1 _ rfl
      have y2 := hcell 2 _ rfl
      have y3 := hcell 3 _ rfl
      have y4 := hcell 4 _ rfl
      have y5 := hcell 5 _ rfl
      have y6 := hcell 6 _ rfl
      have y7 := hcell 7 _ rfl
      have y8 := hcell 8 _ rfl
      have y9 := hcell 9 _ rfl
      have y10 := hcell 10 _ rfl
      have y11 := hcell 11 _ rfl
      simp only [Nat.add_zero] at y0
      have HNE := Lib.hid fun W => cst_neq c2 W
      unfold cstV at HNE
      unfold Dd.v ddV at HDO
      clear hos hok hsh hdi hd1 hd2 hd3 hcell hdw HT HO0 HSH0 hm9
      go_upto_region 10 with fail
      refine wp_region_held_drew (S := fun _ => True) (by kernel_rfl) trivial (fun hHeld => ?_)
      refine wpAnyH_take (i := 0) (v := ?_) (by simp only [List.getElem?_toArray, List.getElem?_cons_zero]; rfl) (by kernel_rfl) (by kernel_rfl) (by kernel_rfl) (by exact fun _ _ _ h => h) (Or.inl ⟨by rfl, ?_⟩) (by exact trivial) ?_
      rotate_left
      · intro w hSw; (try dsimp only at hSw); go_split_ands; go_simp <;> with_reducible rfl
      try simp only [Act.put, List.setIfInBounds_toArray, List.set_cons_zero, List.set_cons_succ]
      refine wpAnyH_take (i := 1) (v := ?_) (by simp only [List.getElem?_toArray, List.getElem?_cons_succ, List.getElem?_cons_zero]; rfl) (by kernel_rfl) (by kernel_rfl) (by kernel_rfl) (by exact fun _ _ _ h => h) (Or.inl ⟨by rfl, ?_⟩) (by exact trivial) ?_
      rotate_left
      · intro w hSw; (try dsimp only at hSw); go_split_ands; go_simp <;> with_reducible rfl
      try simp only [Act.put, List.setIfInBounds_toArray, List.set_cons_zero, List.set_cons_succ]
      refine wpAnyH_take (i := 2) (v := ?_) (by simp only [List.getElem?_toArray, List.getElem?_cons_succ, List.getElem?_cons_zero]; rfl) (by kernel_rfl) (by kernel_rfl) (by kernel_rfl) (by exact fun _ _ _ h => h) (Or.inl ⟨by rfl, ?_⟩) (by exact trivial) ?_
      rotate_left
      · intro w hSw; (try dsimp only at hSw); go_split_ands; go_simp <;> with_reducible rfl
      try simp only [Act.put, List.setIfInBounds_toArray, List.set_cons_zero, List.set_cons_succ]
      refine wpAnyH_take (i := 3) (v := ?_) (by simp only [List.getElem?_toArray, List.getElem?_cons_succ, List.getElem?_cons_zero]; rfl) (by kernel_rfl) (by kernel_rfl) (by kernel_rfl) (by exact fun _ _ _ h => h) (Or.inl ⟨by rfl, ?_⟩) (by exact trivial) ?_
      rotate_left
      · intro w hSw; (try dsimp only at hSw); go_split_ands; go_simp <;> with_reducible rfl
      try simp only [Act.put, List.setIfInBounds_toArray, List.set_cons_zero, List.set_cons_succ]
      refine wpAnyH_take (i := 4) (v := ?_) (by simp only [List.getElem?_toArray, List.getElem?_cons_succ, List.getElem?_cons_zero]; rfl) (by kernel_rfl) (by kernel_rfl) (by kernel_rfl) (by exact fun _ _ _ h => h) (Or.inl ⟨by rfl, ?_⟩) (by exact trivial) ?_
      rotate_left
      · intro w hSw; (try dsimp only at hSw); go_split_ands; go_simp <;> with_reducible rfl
      try simp only [Act.put, List.setIfInBounds_toArray, List.set_cons_zero, List.set_cons_succ]
      refine wpAnyH_ready (rs := [5]) (by kernel_rfl) (by simp) ?_
      refine AllReadyH.cons (by simp only [List.getElem?_toArray, List.getElem?_cons_succ, List.getElem?_cons_zero]; rfl) (fun K hK => ?_) AllReadyH.nil
      go_simp
      refine hK.out _ _ trivial (fun hHeld => ?_)
      clear hK K
      try simp only [Act.put, List.setIfInBounds_toArray, List.set_cons_zero, List.set_cons_succ]
      refine wpAnyH_ready (rs := [6]) (by kernel_rfl) (by simp) ?_
      refine AllReadyH.cons (by simp only [List.getElem?_toArray, List.getElem?_cons_succ, List.getElem?_cons_zero]; rfl) (fun K hK => ?_) AllReadyH.nil
      go_simp
      go_at_call 35
      refine HDO.out.mono ?_
      rintro e w4 ⟨p4, q4, rfl, ht⟩
      have HT4 := Lib.hid ht
      have hx4 : Blk w4 gq 94 (layD c2 q4) := ht.gq ▸ ht.cd.blk
      have HX4 := Lib.hid hx4
      have k3 : w4.cell? ⟨gq, 3, none⟩ = some (.int .u64 (c2.tok : Int)) := hx4.cell 3
      have k4 : w4.cell? ⟨gq, 4, none⟩ = some (.bool c2.conn) := hx4.cell 4
      have k5 : w4.cell? ⟨gq, 5, none⟩ = some (.bool c2.greet) := hx4.cell 5
      have k6 : w4.cell? ⟨gq, 6, none⟩ = some (.int .u64 (c2.iss : Int)) := hx4.cell 6
      have k7 : w4.cell? ⟨gq, 7, none⟩ = some (.int .u64 (c2.rep : Int)) := hx4.cell 7
      have k8 : w4.cell? ⟨gq, 8, none⟩ = some (.int .u64 (c2.ev : Int)) := hx4.cell 8
      have k9 : w4.cell? ⟨gq, 9, none⟩ = some (.int .i64 (c2.wait : Int)) := hx4.cell 9
      have k10 : w4.cell? ⟨gq, 10, none⟩ = some (.bool c2.over) := hx4.cell 10
      have k11 : w4.cell? ⟨gq, 11, none⟩ = some (.int .i64 c2.reason) := hx4.cell 11
      clear ht hx4
      try go_simp
      refine hK.out _ _ trivial (fun hHeld => ?_)
      clear hK K
      try simp only [Act.put, List.setIfInBounds_toArray, List.set_cons_zero, List.set_cons_succ]
      refine wpAnyH_take (i := 7) (v := ?_) (by simp only [List.getElem?_toArray, List.getElem?_cons_succ, List.getElem?_cons_zero]; rfl) (by kernel_rfl) (by kernel_rfl) (by kernel_rfl) (by exact fun _ _ _ h => h) (Or.inl ⟨by rfl, ?_⟩) (by exact trivial) ?_
      rotate_left
      · intro w hSw; (try dsimp only at hSw); go_split_ands; go_simp <;> with_reducible rfl
      try simp only [Act.put, List.setIfInBounds_toArray, List.set_cons_zero, List.set_cons_succ]
      refine wpAnyH_take (i := 8) (v := ?_) (by simp only [List.getElem?_toArray, List.getElem?_cons_succ, List.getElem?_cons_zero]; rfl) (by kernel_rfl) (by kernel_rfl) (by kernel_rfl) (by exact fun _ _ _ h => h) (Or.inl ⟨by rfl, ?_⟩) (by exact trivial) ?_
      rotate_left
      · intro w hSw; (try dsimp only at hSw); go_split_ands; go_simp <;> with_reducible rfl
      try simp only [Act.put, List.setIfInBounds_toArray, List.set_cons_zero, List.set_cons_succ]
      refine wpAnyH_take (i := 9) (v := ?_) (by simp only [List.getElem?_toArray, List.getElem?_cons_succ, List.getElem?_cons_zero]; rfl) (by kernel_rfl) (by kernel_rfl) (by kernel_rfl) (by exact fun _ _ _ h => h) (Or.inl ⟨by rfl, ?_⟩) (by exact trivial) ?_
      rotate_left
      · intro w hSw; (try dsimp only at hSw); go_split_ands; go_simp <;> with_reducible rfl
      try simp only [Act.put, List.setIfInBounds_toArray, List.set_cons_zero, List.set_cons_succ]
      refine wpAnyH_take (i := 11) (v := ?_) (by simp only [List.getElem?_toArray, List.getElem?_cons_succ, List.getElem?_cons_zero]; rfl) (by kernel_rfl) (by kernel_rfl) (by kernel_rfl) (by exact fun _ _ _ h => h) (Or.inl ⟨by rfl, ?_⟩) (by exact trivial) ?_
      rotate_left
      · intro w hSw; (try dsimp only at hSw); go_split_ands; go_simp <;> with_reducible rfl
      try simp only [Act.put, List.setIfInBounds_toArray, List.set_cons_zero, List.set_cons_succ]
      refine wpAnyH_take (i := 12) (v := ?_) (by simp only [List.getElem?_toArray, List.getElem?_cons_succ, List.getElem?_cons_zero]; rfl) (by kernel_rfl) (by kernel_rfl) (by kernel_rfl) (by exact fun _ _ _ h => h) (Or.inl ⟨by rfl, ?_⟩) (by exact trivial) ?_
      rotate_left
      · intro w hSw; (try dsimp only at hSw); go_split_ands; go_simp <;> with_reducible rfl
      try simp only [Act.put, List.setIfInBounds_toArray, List.set_cons_zero, List.set_cons_succ]
      refine wpAnyH_take (i := 13) (v := ?_) (by simp only [List.getElem?_toArray, List.getElem?_cons_succ, List.getElem?_cons_zero]; rfl) (by kernel_rfl) (by kernel_rfl) (by kernel_rfl) (by exact fun _ _ _ h => h) (Or.inl ⟨by rfl, ?_⟩) (by exact trivial) ?_
      rotate_left
      · intro w hSw; (try dsimp only at hSw); go_split_ands; go_simp <;> with_reducible rfl
      try simp only [Act.put, List.setIfInBounds_toArray, List.set_cons_zero, List.set_cons_succ]
      refine wpAnyH_ready (rs := [10, 14]) (by kernel_rfl) (by simp) ?_
      refine AllReadyH.cons (by simp only [List.getElem?_toArray, List.getElem?_cons_succ, List.getElem?_cons_zero]; rfl) (fun K hK => ?_) (AllReadyH.cons (by simp only [List.getElem?_toArray, List.getElem?_cons_succ, List.getElem?_cons_zero]; rfl) (fun K hK => ?_) AllReadyH.nil)
      · go_simp
        go_at_call 15
        refine (HT4.out.gp ▸ state_any HT4.out.ca HOK.out : Calls _ 15 #[.pointer (some ⟨gp, 0, none⟩)] _ _).mono ?_
        unfold cstV
        rintro e w5 ⟨rfl, hb5⟩
        have HB5 := Lib.hid hb5
        have hx5 : Blk w5 gq 94 (layD c2 q4) := (hb5.block _ HX4.out.lt).trans HX4.out
        have j3 : w5.cell? ⟨gq, 3, none⟩ = some (.int .u64 (c2.tok : Int)) := hx5.cell 3
        have j4 : w5.cell? ⟨gq, 4, none⟩ = some (.bool c2.conn) := hx5.cell 4
        have j5 : w5.cell? ⟨gq, 5, none⟩ = some (.bool c2.greet) := hx5.cell 5
        have j6 : w5.cell? ⟨gq, 6, none⟩ = some (.int .u64 (c2.iss : Int)) := hx5.cell 6
        have j7 : w5.cell? ⟨gq, 7, none⟩ = some (.int .u64 (c2.rep : Int)) := hx5.cell 7
        have j8 : w5.cell? ⟨gq, 8, none⟩ = some (.int .u64 (c2.ev : Int)) := hx5.cell 8
        have j9 : w5.cell? ⟨gq, 9, none⟩ = some (.int .i64 (c2.wait : Int)) := hx5.cell 9
        have j10 : w5.cell? ⟨gq, 10, none⟩ = some (.bool c2.over) := hx5.cell 10
        have j11 : w5.cell? ⟨gq, 11, none⟩ = some (.int .i64 c2.reason) := hx5.cell 11
        clear hb5 hx5
        try go_simp
        refine hK.out _ _ trivial (fun hHeld => ?_)
        clear hK K
        try simp only [Act.put, List.setIfInBounds_toArray, List.set_cons_zero, List.set_cons_succ]
        refine wpAnyH_ready (rs := [14]) (by kernel_rfl) (by simp) ?_
        refine AllReadyH.cons (by simp only [List.getElem?_toArray, List.getElem?_cons_succ, List.getElem?_cons_zero]; rfl) (fun K hK => ?_) AllReadyH.nil
        go_simp
        refine hK.out _ _ trivial (fun hHeld => ?_)
        clear hK K
        try simp only [Act.put, List.setIfInBounds_toArray, List.set_cons_zero, List.set_cons_succ]
        refine wpAnyH_take (i := 15) (v := ?_) (by simp only [List.getElem?_toArray, List.getElem?_cons_succ, List.getElem?_cons_zero]; rfl) (by kernel_rfl) (by kernel_rfl) (by kernel_rfl) (by exact fun _ _ _ h => h) (Or.inl ⟨by rfl, ?_⟩) (by exact trivial) ?_
        rotate_left
        · intro w hSw; (try dsimp only at hSw); go_split_ands; go_simp <;> with_reducible rfl
        try simp only [Act.put, List.setIfInBounds_toArray, List.set_cons_zero, List.set_cons_succ]
        refine wpAnyH_take (i := 16) (v := ?_) (by simp only [List.getElem?_toArray, List.getElem?_cons_succ, List.getElem?_cons_zero]; rfl) (by kernel_rfl) (by kernel_rfl) (by kernel_rfl) (by exact fun _ _ _ h => h) (Or.inl ⟨by rfl, ?_⟩) (by exact trivial) ?_
        rotate_left
        · intro w hSw; (try dsimp only at hSw); go_split_ands; go_simp <;> with_reducible rfl
        try simp only [Act.put, List.setIfInBounds_toArray, List.set_cons_zero, List.set_cons_succ]
        refine wpAnyH_done (by kernel_rfl) ?_ _
        have HR5 : Hid (TwX w gp gq c2 c2 (ckD (ds.take (i + 1))) (ckD (ds.take (i + 1))) p4 q4 w5 ∧ c2.Ok (ckD (ds.take (i + 1))) ∧ c2.Short) := Lib.hid ⟨(HT4.out.below HB5.out).more (by rw [HNX.out]; omega) (by rw [HNX.out]; omega), HOK.out.mono (by rw [HNX.out]; omega), HSH.out⟩
        clear HT4 HB5 HX4 HDO k3 k4 k5 k6 k7 k8 k9 k10 k11 j3 j4 j5 j6 j7 j8 j9 j10 j11 y0 y1 y2 y3 y4 y5 y6 y7 y8 y9 y10 y11
        go_wp2
        go_roundw
        case rel => exact ⟨i + 1, c2, p4, q4, hlt, by go_num, HR5.out.1, HR5.out.2.1, HR5.out.2.2⟩
        case measure => simp [intOf]; omega
      · go_simp
        refine hK.out _ _ trivial (fun hHeld => ?_)
        clear hK K
        try simp only [Act.put, List.setIfInBounds_toArray, List.set_cons_zero, List.set_cons_succ]
        refine wpAnyH_ready (rs := [10]) (by kernel_rfl) (by simp) ?_
        refine AllReadyH.cons (by simp only [List.getElem?_toArray, List.getElem?_cons_succ, List.getElem?_cons_zero]; rfl) (fun K hK => ?_) AllReadyH.nil
        go_simp
        go_at_call 15
        refine (HT4.out.gp ▸ state_any HT4.out.ca HOK.out : Calls _ 15 #[.pointer (some ⟨gp, 0, none⟩)] _ _).mono ?_
        unfold cstV
        rintro e w5 ⟨rfl, hb5⟩
        have HB5 := Lib.hid hb5
        have hx5 : Blk w5 gq 94 (layD c2 q4) := (hb5.block _ HX4.out.lt).trans HX4.out
        have j3 : w5.cell? ⟨gq, 3, none⟩ = some (.int .u64 (c2.tok : Int)) := hx5.cell 3
        have j4 : w5.cell? ⟨gq, 4, none⟩ = some (.bool c2.conn) := hx5.cell 4
        have j5 : w5.cell? ⟨gq, 5, none⟩ = some (.bool c2.greet) := hx5.cell 5
        have j6 : w5.cell? ⟨gq, 6, none⟩ = some (.int .u64 (c2.iss : Int)) := hx5.cell 6
        have j7 : w5.cell? ⟨gq, 7, none⟩ = some (.int .u64 (c2.rep : Int)) := hx5.cell 7
        have j8 : w5.cell? ⟨gq, 8, none⟩ = some (.int .u64 (c2.ev : Int)) := hx5.cell 8
        have j9 : w5.cell? ⟨gq, 9, none⟩ = some (.int .i64 (c2.wait : Int)) := hx5.cell 9
        have j10 : w5.cell? ⟨gq, 10, none⟩ = some (.bool c2.over) := hx5.cell 10
        have j11 : w5.cell? ⟨gq, 11, none⟩ = some (.int .i64 c2.reason) := hx5.cell 11
        clear hb5 hx5
        try go_simp
        refine hK.out _ _ trivial (fun hHeld => ?_)
        clear hK K
        try simp only [Act.put, List.setIfInBounds_toArray, List.set_cons_zero, List.set_cons_succ]
        refine wpAnyH_take (i := 15) (v := ?_) (by simp only [List.getElem?_toArray, List.getElem?_cons_succ, List.getElem?_cons_zero]; rfl) (by kernel_rfl) (by kernel_rfl) (by kernel_rfl) (by exact fun _ _ _ h => h) (Or.inl ⟨by rfl, ?_⟩) (by exact trivial) ?_
        rotate_left
        · intro w hSw; (try dsimp only at hSw); go_split_ands; go_simp <;> with_reducible rfl
        try simp only [Act.put, List.setIfInBounds_toArray, List.set_cons_zero, List.set_cons_succ]
        refine wpAnyH_take (i := 16) (v := ?_) (by simp only [List.getElem?_toArray, List.getElem?_cons_succ, List.getElem?_cons_zero]; rfl) (by kernel_rfl) (by kernel_rfl) (by kernel_rfl) (by exact fun _ _ _ h => h) (Or.inl ⟨by rfl, ?_⟩) (by exact trivial) ?_
        rotate_left
        · intro w hSw; (try dsimp only at hSw); go_split_ands; go_simp <;> with_reducible rfl
        try simp only [Act.put, List.setIfInBounds_toArray, List.set_cons_zero, List.set_cons_succ]
        refine wpAnyH_done (by kernel_rfl) ?_ _
        have HR5 : Hid (TwX w gp gq c2 c2 (ckD (ds.take (i + 1))) (ckD (ds.take (i + 1))) p4 q4 w5 ∧ c2.Ok (ckD (ds.take (i + 1))) ∧ c2.Short) := Lib.hid ⟨(HT4.out.below HB5.out).more (by rw [HNX.out]; omega) (by rw [HNX.out]; omega), HOK.out.mono (by rw [HNX.out]; omega), HSH.out⟩
        clear HT4 HB5 HX4 HDO k3 k4 k5 k6 k7 k8 k9 k10 k11 j3 j4 j5 j6 j7 j8 j9 j10 j11 y0 y1 y2 y3 y4 y5 y6 y7 y8 y9 y10 y11
        go_wp2
        go_roundw
        case rel => exact ⟨i + 1, c2, p4, q4, hlt, by go_num, HR5.out.1, HR5.out.2.1, HR5.out.2.2⟩
        case measure => simp [intOf]; omega
    · have l2 : ¬ (i : Int) < (n : Int) := by omega
      obtain ⟨RA, rc, hre, _, _⟩ := hos.cd.rows.r.form
      obtain ⟨EA, ec, hee, _, _⟩ := hos.cd.rows.e.form
      have HRR := Lib.hid hos.cd.rows.r
      have HRE := Lib.hid hos.cd.rows.e
      have HRI := Lib.hid hos.cd.rows.ri
      have HEI := Lib.hid hos.cd.rows.ei
      rw [hre] at HRR
      rw [hee] at HRE
      have hx : Blk wr gq 94 (layD c q) := hos.gq ▸ hos.cd.blk
      have x13 : wr.cell? ⟨gq, 13, none⟩ = some (.slice RA q.rl.length rc) := by rw [← hre]; exact hx.cell 13
      have x14 : wr.cell? ⟨gq, 14, none⟩ = some (.slice EA q.el.length ec) := by rw [← hee]; exact hx.cell 14
      have HX := Lib.hid hx
      have HOS := Lib.hid hos
      have HOK := Lib.hid hok
      have HSH := Lib.hid hsh
      have hm9 : ckD (ds.take i) ≤ 8589934592 := Nat.le_trans (ckD_le ds i) HCK.out
      have HM9 := Lib.hid hm9
      have HWD : Hid (Below wr.heap.size wr wr.drew) := Lib.hid ⟨rfl, rfl, rfl, Nat.le_refl _, fun _ _ => rfl⟩
      have HKC : Hid (∀ w' : World, Below wr.heap.size wr w' → w'.cell? ⟨gq, 13, none⟩ = some (.slice RA q.rl.length rc) ∧ w'.cell? ⟨gq, 14, none⟩ = some (.slice EA q.el.length ec)) := Lib.hid fun w' hb => ⟨(hb.cell (p := ⟨gq, 13, none⟩) HX.out.lt).trans x13, (hb.cell (p := ⟨gq, 14, none⟩) HX.out.lt).trans x14⟩
      clear hos hok hsh hx hre hee hm9 HT HO0 HSH0
      go_upto_region 12 with fail
      go_region_held3 (fun W => W.cell? ⟨gq, 13, none⟩ = some (.slice RA q.rl.length rc) ∧ W.cell? ⟨gq, 14, none⟩ = some (.slice EA q.el.length ec))
        (first | go_keep | exact HKC.out _ HW1.out | exact HKC.out _ HW2.out | exact HKC.out _ HW3.out | exact HKC.out _ HW4.out)
        (first
        | (go_at_call 25; refine (HOS.out.gp ▸ replies_any (HOS.out.ca.below HWD.out) HOK.out (by have := HM9.out; omega) HSH.out.1 : Calls _ 25 #[.pointer (some ⟨gp, 0, none⟩)] _ _).mono ?_; rintro e w1 ⟨v1, m1, rfl, hr1, hl1, hb1⟩; obtain ⟨A1, c1, rfl, _, _⟩ := hr1.form; have HR1 := Lib.hid hr1; have HL1 := Lib.hid hl1; have HW1 := Lib.hid (HWD.out.trans hb1); clear hr1 hl1 hb1)
        | (go_at_call 30; refine (sameR_any HR1.out (HRR.out.below HW1.out) (HL1.out.trans HRI.out.symm)).mono ?_; rintro e w2 ⟨rfl, hb2⟩; have HW2 := Lib.hid (HW1.out.trans (hb2.mono HW1.out.size)); clear hb2)
        | (go_at_call 26; refine (HOS.out.gp ▸ events_any (HOS.out.ca.below HW2.out) HOK.out (by have := HM9.out; omega) HSH.out.2 : Calls _ 26 #[.pointer (some ⟨gp, 0, none⟩)] _ _).mono ?_; rintro e w3 ⟨v3, m3, rfl, hr3, hl3, hb3⟩; obtain ⟨A3, c3, rfl, _, _⟩ := hr3.form; have HR3 := Lib.hid hr3; have HL3 := Lib.hid hl3; have HW3 := Lib.hid (HW2.out.trans (hb3.mono HW2.out.size)); clear hr3 hl3 hb3)
        | (go_at_call 36; refine (sameE_any HR3.out (HRE.out.below HW3.out) (HL3.out.trans HEI.out.symm)).mono ?_; rintro e w4 ⟨rfl, hb4⟩; have HW4 := Lib.hid (HW3.out.trans (hb4.mono HW3.out.size)); clear hb4))
      all_goals
        go_wp2
        go_ret
        exact ⟨rfl, HOS.out.old.trans (HW4.out.mono HOS.out.old.size)⟩
end Go.Proofs.Ytjhkfpemcplaaaa
