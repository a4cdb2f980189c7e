/-
  The walk of SourceAsks.
-/
import Derived.Test.YtaigfelpecdajaaAryC
import Derived.Test.YtaigfelpecdajaaAskJ
import Derived.Deep.RegionHeld3
namespace Go.Proofs.Ytaigfelpecdajaa
open Go.RowKit

/-- the world of the law's walk: the two trees' boxes and what they read as -/
structure SA (f : Nat) (w : World) (g B : Nat) (csA csB : List Value) (a b : TrF f) (W : World) : Prop where
  A : Blk W g 26 csA.toArray
  B' : Blk W (g + 1) 26 csB.toArray
  na : NodeAt f W B csA a
  nb : NodeAt f W B csB b
  below : Below w.heap.size w W
  le : B ≤ W.heap.size
theorem SA.next {f : Nat} {w : World} {g B : Nat} {csA csB : List Value} {a b : TrF f} {W W' : World} (h : SA f w g B csA csB a b W) (hb : Below W.heap.size W W') : SA f w g B csA csB a b W' :=
  ⟨h.A.below hb h.A.lt, h.B'.below hb h.B'.lt, h.na.below (hb.mono h.le), h.nb.below (hb.mono h.le), h.below.trans (hb.mono h.below.size), Nat.le_trans h.le hb.size⟩
theorem SA.drew {f : Nat} {w : World} {g B : Nat} {csA csB : List Value} {a b : TrF f} {W : World} (h : SA f w g B csA csB a b W) : SA f w g B csA csB a b W.drew := h.next (Below.refl _ _).drew
theorem SA.drewN {f : Nat} {w : World} {g B : Nat} {csA csB : List Value} {a b : TrF f} {W : World} (h : SA f w g B csA csB a b W) (n : Nat) : SA f w g B csA csB a b (W.drewN n) := h.next (below_drewN (Below.refl _ _) n)
theorem SA.cells {f : Nat} {w : World} {g B : Nat} {a b : TrF f} {W : World} {x0 x1 x2 x3 x4 x5 x6 y0 y1 y2 y3 y4 y5 y6 : Value} (h : SA f w g B [x0, x1, x2, x3, x4, x5, x6] [y0, y1, y2, y3, y4, y5, y6] a b W) :
    W.cell? ⟨g, 0, none⟩ = some x0 ∧ W.cell? ⟨g, 1, none⟩ = some x1 ∧ W.cell? ⟨g, 2, none⟩ = some x2 ∧ W.cell? ⟨g, 3, none⟩ = some x3 ∧ W.cell? ⟨g, 4, none⟩ = some x4 ∧ W.cell? ⟨g, 5, none⟩ = some x5 ∧ W.cell? ⟨g, 6, none⟩ = some x6 ∧
    W.cell? ⟨g + 1, 0, none⟩ = some y0 ∧ W.cell? ⟨g + 1, 1, none⟩ = some y1 ∧ W.cell? ⟨g + 1, 2, none⟩ = some y2 ∧ W.cell? ⟨g + 1, 3, none⟩ = some y3 ∧ W.cell? ⟨g + 1, 4, none⟩ = some y4 ∧ W.cell? ⟨g + 1, 5, none⟩ = some y5 ∧ W.cell? ⟨g + 1, 6, none⟩ = some y6 :=
  ⟨h.A.cell 0, h.A.cell 1, h.A.cell 2, h.A.cell 3, h.A.cell 4, h.A.cell 5, h.A.cell 6, h.B'.cell 0, h.B'.cell 1, h.B'.cell 2, h.B'.cell 3, h.B'.cell 4, h.B'.cell 5, h.B'.cell 6⟩
/-- a list of texts comes back -/
def OutP (l : List ByteArray) (W : World) (e : Ending) (w' : World) : Prop := ∃ A c, e = .returned (.slice A l.length c) ∧ RdS w' w'.heap.size A l.length l ∧ Below W.heap.size W w'
theorem OutP.of_sel {l : List ByteArray} {W w' : World} {base : Nat} {e : Ending} (h : SelP W base (.slice none 0 0) l e w') : OutP l W e w' := by
  obtain ⟨v', rfl, ho, ha⟩ := h
  obtain ⟨A, c, rfl, _, _⟩ := OwnS.form ho
  exact ⟨A, c, rfl, OwnS.reads ho, ha.below (Nat.le_refl _) (fun k hk => by cases hk)⟩
theorem OutP.of_free {l K : List ByteArray} {W w' : World} {base : Nat} {e : Ending} (h : FreeRP W base (.slice none 0 0) (.slice none 0 0) l K e w') : OutP l W e w' := by
  obtain ⟨v', rfl, ho, _, ha⟩ := h
  obtain ⟨A, c, rfl, _, _⟩ := OwnS.form ho
  exact ⟨A, c, rfl, OwnS.reads ho, ha.below (Nat.le_refl _) (fun k hk => by cases hk) (fun k hk => by cases hk)⟩
set_option maxRecDepth 20000 in
set_option maxHeartbeats 4000000 in
theorem asks_any (f : Nat) (a b : TrF f) (csA csB : List Value) (B : Nat) (s : ByteArray) (w : World) (ha : NodeAt f w B csA a) (hb : NodeAt f w B csB b) (hB : B ≤ w.heap.size) (hwa : wtT f a ≤ 1048576) (hwb : wtT f b ≤ 1048576) (hs : s.size ≤ 1048576) :
    Calls Try.prog 3 #[.agg csA.toArray, .agg csB.toArray, .string s] w fun e w' => e = .returned (.bool true) ∧ Below w.heap.size w w' := by
  have h7 := ha.len
  have h7b := hb.len
  match csA, h7, csB, h7b, ha, hb with
  | [x0, x1, x2, x3, x4, x5, x6], _, [y0, y1, y2, y3, y4, y5, y6], _, ha, hb =>
  obtain ⟨ka, na, Aa1, na1, ca1, Aa2, na2, ca2, Aa3, na3, ca3, pa, pla, rfl, rfl, rfl, rfl, rfl, rfl, rfl⟩ := ha.forms
  obtain ⟨kb, nb, Ab1, nb1, cb1, Ab2, nb2, cb2, Ab3, nb3, cb3, pb, plb, rfl, rfl, rfl, rfl, rfl, rfl, rfl⟩ := hb.forms
  have H5 := Lib.hid fun (W : World) (h : SA f w w.heap.size B [.int .i64 ka, .string na, .slice Aa1 na1 ca1, .slice Aa2 na2 ca2, .slice Aa3 na3 ca3, .int .i64 pa, .int .i64 pla] [.int .i64 kb, .string nb, .slice Ab1 nb1 cb1, .slice Ab2 nb2 cb2, .slice Ab3 nb3 cb3, .int .i64 pb, .int .i64 plb] a b W) => same_any f a b _ _ B W h.na h.nb h.le hwa hwb
  have H6 := Lib.hid fun (W : World) (h : SA f w w.heap.size B [.int .i64 ka, .string na, .slice Aa1 na1 ca1, .slice Aa2 na2 ca2, .slice Aa3 na3 ca3, .int .i64 pa, .int .i64 pla] [.int .i64 kb, .string nb, .slice Ab1 nb1 cb1, .slice Ab2 nb2 cb2, .slice Ab3 nb3 cb3, .int .i64 pb, .int .i64 plb] a b W) => sameR_any f a b _ _ B W h.na h.nb h.le hwa hwb
  have H7 := Lib.hid fun (W : World) (h : SA f w w.heap.size B [.int .i64 ka, .string na, .slice Aa1 na1 ca1, .slice Aa2 na2 ca2, .slice Aa3 na3 ca3, .int .i64 pa, .int .i64 pla] [.int .i64 kb, .string nb, .slice Ab1 nb1 cb1, .slice Ab2 nb2 cb2, .slice Ab3 nb3 cb3, .int .i64 pb, .int .i64 plb] a b W) => twin_any f a _ B W h.na h.le hwa
  have H5t := Lib.hid fun (W : World) (cs : List Value) (h : SA f w w.heap.size B [.int .i64 ka, .string na, .slice Aa1 na1 ca1, .slice Aa2 na2 ca2, .slice Aa3 na3 ca3, .int .i64 pa, .int .i64 pla] [.int .i64 kb, .string nb, .slice Ab1 nb1 cb1, .slice Ab2 nb2 cb2, .slice Ab3 nb3 cb3, .int .i64 pb, .int .i64 plb] a b W) (ht : NodeAt f W W.heap.size cs a) => same_any f a a _ cs W.heap.size W (h.na.more h.le) ht (Nat.le_refl _) hwa hwa
  have H8 := Lib.hid fun (W : World) => arity_any s W hs
  have H9 := Lib.hid fun (W : World) => rarity_any s W hs
  have H11 := Lib.hid fun (W : World) (h : SA f w w.heap.size B [.int .i64 ka, .string na, .slice Aa1 na1 ca1, .slice Aa2 na2 ca2, .slice Aa3 na3 ca3, .int .i64 pa, .int .i64 pla] [.int .i64 kb, .string nb, .slice Ab1 nb1 cb1, .slice Ab2 nb2 cb2, .slice Ab3 nb3 cb3, .int .i64 pb, .int .i64 plb] a b W) => (selectors_any f a _ B W h.na h.le hwa).mono fun _ _ h => OutP.of_sel h
  have H12 := Lib.hid fun (W : World) (h : SA f w w.heap.size B [.int .i64 ka, .string na, .slice Aa1 na1 ca1, .slice Aa2 na2 ca2, .slice Aa3 na3 ca3, .int .i64 pa, .int .i64 pla] [.int .i64 kb, .string nb, .slice Ab1 nb1 cb1, .slice Ab2 nb2 cb2, .slice Ab3 nb3 cb3, .int .i64 pb, .int .i64 plb] a b W) => (selR_any f a _ B W.heap.size (.slice none 0 0) [] W h.na (OwnS.nil _ _) h.le (Nat.le_refl _) (by simp; omega)).mono fun _ _ h => OutP.of_sel h
  have H13 := Lib.hid fun (W : World) (h : SA f w w.heap.size B [.int .i64 ka, .string na, .slice Aa1 na1 ca1, .slice Aa2 na2 ca2, .slice Aa3 na3 ca3, .int .i64 pa, .int .i64 pla] [.int .i64 kb, .string nb, .slice Ab1 nb1 cb1, .slice Ab2 nb2 cb2, .slice Ab3 nb3 cb3, .int .i64 pb, .int .i64 plb] a b W) => (freeOut_any f a _ B W h.na h.le hwa).mono fun _ _ h => OutP.of_sel h
  have H14 := Lib.hid fun (W : World) (h : SA f w w.heap.size B [.int .i64 ka, .string na, .slice Aa1 na1 ca1, .slice Aa2 na2 ca2, .slice Aa3 na3 ca3, .int .i64 pa, .int .i64 pla] [.int .i64 kb, .string nb, .slice Ab1 nb1 cb1, .slice Ab2 nb2 cb2, .slice Ab3 nb3 cb3, .int .i64 pb, .int .i64 plb] a b W) => (freeR_any f a _ B W.heap.size (.slice none 0 0) (.slice none 0 0) [] [] W h.na (OwnS.nil _ _) (OwnS.nil _ _) (.inl rfl) h.le (Nat.le_refl _) (by simp; omega) (by simp; omega)).mono fun _ _ h => OutP.of_free h
  have hl1 : (selT f [] a).length ≤ 1048576 := by have := selT_len f [] a; simp at this; omega
  have hl2 : (freeT f [] [] a).length ≤ 1048576 := by have := freeT_len f [] [] a; simp at this; omega
  have hz : Hid (sameS (selT f [] a) (selT f [] a) = true) := Lib.hid (sameS_refl _)
  have hz2 : Hid (sameS (freeT f [] [] a) (freeT f [] [] a) = true) := Lib.hid (sameS_refl _)
  have HTT := Lib.hid (sameT_refl f a)
  have HAB : Hid ((sameT f a b != sameT f a b) = false) := Lib.hid (by simp)
  generalize selT f [] a = L1 at *
  generalize freeT f [] [] a = L2 at *
  generalize Lx.arityF s.data.toList = R at *
  generalize sameT f a b = D at *
  have SA0 := Lib.hid (SA.mk (f := f) (w := w) (g := w.heap.size) (B := B) (csA := [.int .i64 ka, .string na, .slice Aa1 na1 ca1, .slice Aa2 na2 ca2, .slice Aa3 na3 ca3, .int .i64 pa, .int .i64 pla]) (csB := [.int .i64 kb, .string nb, .slice Ab1 nb1 cb1, .slice Ab2 nb2 cb2, .slice Ab3 nb3 cb3, .int .i64 pb, .int .i64 plb]) (a := a) (b := b) (W := (w.alloc (.cells #[.int .i64 ka, .string na, .slice Aa1 na1 ca1, .slice Aa2 na2 ca2, .slice Aa3 na3 ca3, .int .i64 pa, .int .i64 pla] 26)).alloc (.cells #[.int .i64 kb, .string nb, .slice Ab1 nb1 cb1, .slice Ab2 nb2 cb2, .slice Ab3 nb3 cb3, .int .i64 pb, .int .i64 plb] 26))
    ((Blk.new w 26 _).alloc _) (Blk.new' _ 26 _ _ (by simp)) (ha.below (((Below.refl _ _).alloc hB _).alloc (by simp; omega) _)) (hb.below (((Below.refl _ _).alloc hB _).alloc (by simp; omega) _)) (((Below.refl _ _).alloc (Nat.le_refl _) _).alloc (by simp) _) (by simp; omega))
  have HSA := Lib.hid fun (W : World) (h : SA f w w.heap.size B [.int .i64 ka, .string na, .slice Aa1 na1 ca1, .slice Aa2 na2 ca2, .slice Aa3 na3 ca3, .int .i64 pa, .int .i64 pla] [.int .i64 kb, .string nb, .slice Ab1 nb1 cb1, .slice Ab2 nb2 cb2, .slice Ab3 nb3 cb3, .int .i64 pb, .int .i64 plb] a b W) => h.cells
  have HS1 := Lib.hid fun (W : World) (h : SA f w w.heap.size B [.int .i64 ka, .string na, .slice Aa1 na1 ca1, .slice Aa2 na2 ca2, .slice Aa3 na3 ca3, .int .i64 pa, .int .i64 pla] [.int .i64 kb, .string nb, .slice Ab1 nb1 cb1, .slice Ab2 nb2 cb2, .slice Ab3 nb3 cb3, .int .i64 pb, .int .i64 plb] a b W) => (show W.cell? ⟨w.heap.size, 0, none⟩ = some (.int .i64 ka) ∧ W.cell? ⟨w.heap.size, 1, none⟩ = some (.string na) ∧ W.cell? ⟨w.heap.size, 2, none⟩ = some (.slice Aa1 na1 ca1) ∧ W.cell? ⟨w.heap.size, 3, none⟩ = some (.slice Aa2 na2 ca2) ∧ W.cell? ⟨w.heap.size, 4, none⟩ = some (.slice Aa3 na3 ca3) ∧ W.cell? ⟨w.heap.size, 5, none⟩ = some (.int .i64 pa) ∧ W.cell? ⟨w.heap.size, 6, none⟩ = some (.int .i64 pla) from ⟨h.A.cell 0, h.A.cell 1, h.A.cell 2, h.A.cell 3, h.A.cell 4, h.A.cell 5, h.A.cell 6⟩)
  clear ha hb hwa hwb hs
  go_enter Try.func3, Try.ntmps3
  go_upto_region 1 with fail
  generalize (w.alloc (.cells #[.int .i64 ka, .string na, .slice Aa1 na1 ca1, .slice Aa2 na2 ca2, .slice Aa3 na3 ca3, .int .i64 pa, .int .i64 pla] 26)).alloc (.cells #[.int .i64 kb, .string nb, .slice Ab1 nb1 cb1, .slice Ab2 nb2 cb2, .slice Ab3 nb3 cb3, .int .i64 pb, .int .i64 plb] 26) = w0 at SA0 ⊢
  have sa0 := SA0.out.drew
  have c0 := HSA.out _ SA0.out
  go_cut [27] (fun v wx => v = .bool false ∧ SA f w w.heap.size B [.int .i64 ka, .string na, .slice Aa1 na1 ca1, .slice Aa2 na2 ca2, .slice Aa3 na3 ca3, .int .i64 pa, .int .i64 pla] [.int .i64 kb, .string nb, .slice Ab1 nb1 cb1, .slice Ab2 nb2 cb2, .slice Ab3 nb3 cb3, .int .i64 pb, .int .i64 plb] a b wx)
  case first =>
    go_region_held3 (fun W => W.cell? ⟨w.heap.size, 0, none⟩ = some (.int .i64 ka) ∧ W.cell? ⟨w.heap.size, 1, none⟩ = some (.string na) ∧ W.cell? ⟨w.heap.size, 2, none⟩ = some (.slice Aa1 na1 ca1) ∧ W.cell? ⟨w.heap.size, 3, none⟩ = some (.slice Aa2 na2 ca2) ∧ W.cell? ⟨w.heap.size, 4, none⟩ = some (.slice Aa3 na3 ca3) ∧ W.cell? ⟨w.heap.size, 5, none⟩ = some (.int .i64 pa) ∧ W.cell? ⟨w.heap.size, 6, none⟩ = some (.int .i64 pla) ∧ W.cell? ⟨w.heap.size + 1, 0, none⟩ = some (.int .i64 kb) ∧ W.cell? ⟨w.heap.size + 1, 1, none⟩ = some (.string nb) ∧ W.cell? ⟨w.heap.size + 1, 2, none⟩ = some (.slice Ab1 nb1 cb1) ∧ W.cell? ⟨w.heap.size + 1, 3, none⟩ = some (.slice Ab2 nb2 cb2) ∧ W.cell? ⟨w.heap.size + 1, 4, none⟩ = some (.slice Ab3 nb3 cb3) ∧ W.cell? ⟨w.heap.size + 1, 5, none⟩ = some (.int .i64 pb) ∧ W.cell? ⟨w.heap.size + 1, 6, none⟩ = some (.int .i64 plb))
      (first | go_keep | exact HSA.out _ sa6 | exact HSA.out _ sa5 | exact HSA.out _ sa4 | exact HSA.out _ sa3 | exact HSA.out _ sa2 | exact HSA.out _ sa1)
      (first
        | (go_at_call 5; ((with_reducible refine (H5.out _ sa0).mono ?_); rintro e w1 ⟨rfl, hb1⟩; have sa1 := sa0.next hb1))
        | (go_at_call 6; ((with_reducible refine (H6.out _ sa1).mono ?_); rintro e w2 ⟨rfl, hb2⟩; have sa2 := sa1.next hb2))
        | (go_at_call 7; ((with_reducible refine (H7.out _ sa2).mono ?_); rintro e w3 ⟨cs5, rfl, hn5, hb3⟩; obtain ⟨kb', nb', Ab1', nb1', cb1', Ab2', nb2', cb2', Ab3', nb3', cb3', pb', plb', rfl⟩ := hn5.seven; have sa3 := sa2.next hb3; have HT3 := Lib.hid (hn5.toAt (B := w3.heap.size) (fun k hk => hk.2))))
        | (go_at_call 5; ((with_reducible refine (H5t.out _ _ sa3 HT3.out).mono ?_); rw [HTT.out]; rintro e w4 ⟨rfl, hb4⟩; have sa4 := sa3.next hb4))
        | (go_at_call 8; ((with_reducible refine (H8.out _).mono ?_); rintro e w5 ⟨rfl, hb5⟩; have sa5 := sa4.next hb5))
        | (go_at_call 9; ((with_reducible refine (H9.out _).mono ?_); rintro e w6 ⟨rfl, hb6⟩; have sa6 := sa5.next hb6)))
    all_goals (go_wp2_with fail; go_meet; exact ⟨rfl, sa6⟩)
  case rest =>
    obtain ⟨rfl, hsa⟩ := hcut
    have sb0 := hsa.drew
    have c1 := HSA.out _ hsa
    clear sa0 c0 SA0 H5 H6 H7 H5t H8 H9
    go_upto_region 3 with fail
    go_region_held3 (fun W => W.cell? ⟨w.heap.size, 0, none⟩ = some (.int .i64 ka) ∧ W.cell? ⟨w.heap.size, 1, none⟩ = some (.string na) ∧ W.cell? ⟨w.heap.size, 2, none⟩ = some (.slice Aa1 na1 ca1) ∧ W.cell? ⟨w.heap.size, 3, none⟩ = some (.slice Aa2 na2 ca2) ∧ W.cell? ⟨w.heap.size, 4, none⟩ = some (.slice Aa3 na3 ca3) ∧ W.cell? ⟨w.heap.size, 5, none⟩ = some (.int .i64 pa) ∧ W.cell? ⟨w.heap.size, 6, none⟩ = some (.int .i64 pla))
      (first | go_keep | exact HS1.out _ sb6 | exact HS1.out _ sb5 | exact HS1.out _ sb4 | exact HS1.out _ sb3 | exact HS1.out _ sb2 | exact HS1.out _ sb1)
      (first
        | (go_at_call 11; ((with_reducible refine (H11.out _ sb0).mono ?_); rintro e w1 ⟨A1, c1, rfl, r1, hb1⟩; have sb1 := sb0.next hb1))
        | (go_at_call 12; ((with_reducible refine (H12.out _ sb1).mono ?_); rintro e w2 ⟨A2, c2, rfl, r2, hb2⟩; have sb2 := sb1.next hb2; have HN1 := Lib.hid (lNames_any A1 A2 c1 c2 w2.heap.size L1 L1 w2 ((Reads.below r1 hb2).more hb2.size) r2 (by omega))))
        | (go_at_call 10; ((with_reducible refine HN1.out.mono ?_); rw [hz.out]; rintro e w3 ⟨rfl, n3, rfl⟩; have sb3 := sb2.drewN n3))
        | (go_at_call 13; ((with_reducible refine (H13.out _ sb3).mono ?_); rintro e w4 ⟨A4, c4, rfl, r4, hb4⟩; have sb4 := sb3.next hb4))
        | (go_at_call 14; ((with_reducible refine (H14.out _ sb4).mono ?_); rintro e w5 ⟨A5, c5, rfl, r5, hb5⟩; have sb5 := sb4.next hb5; have HN2 := Lib.hid (lNames_any A4 A5 c4 c5 w5.heap.size L2 L2 w5 ((Reads.below r4 hb5).more hb5.size) r5 (by omega))))
        | (go_at_call 10; ((with_reducible refine HN2.out.mono ?_); rw [hz2.out]; rintro e w6 ⟨rfl, n6, rfl⟩; have sb6 := sb5.drewN n6)))
    all_goals (go_wp2; go_ret; exact ⟨rfl, sb6.below⟩)
end Go.Proofs.Ytaigfelpecdajaa
