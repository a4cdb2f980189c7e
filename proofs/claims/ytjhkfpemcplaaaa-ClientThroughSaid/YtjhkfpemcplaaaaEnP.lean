/-
  The law ClientEnds. No statement of the seat is proved here.
-/
import Derived.Test.YtjhkfpemcplaaaaEnO
import Derived.Test.YtjhkfpemcplaaaaEnM
import Derived.Test.YtjhkfpemcplaaaaClP
namespace Go.Proofs.Ytjhkfpemcplaaaa
open Go.RowKit

def rCells (ds : List Rd) : List Value := ds.flatMap fun d => d.v.toList
theorem rv_len (d : Rd) : d.v.toList.length = 7 := rfl
theorem rCells_len (ds : List Rd) : (rCells ds).length = ds.length * 7 := by
  unfold rCells
  induction ds with
  | nil => rfl
  | cons x r ih => rw [List.flatMap_cons, List.length_append, ih, rv_len, List.length_cons]; omega
theorem r_at (ds : List Rd) : ∀ (i : Nat) (d : Rd) (j : Nat), j < 7 → ds[i]? = some d → (rCells ds)[i * 7 + j]? = d.v.toList[j]? := by
  induction ds with
  | nil => intro i d j _ h; simp at h
  | cons x r ih =>
    intro i d j hj h
    unfold rCells at *
    rw [List.flatMap_cons]
    cases i with
    | zero =>
      simp only [List.getElem?_cons_zero, Option.some.injEq] at h
      subst h
      rw [Nat.zero_mul, Nat.zero_add, List.getElem?_append_left (by rw [rv_len]; exact hj)]
    | succ i =>
      rw [List.getElem?_cons_succ] at h
      rw [List.getElem?_append_right (by rw [rv_len, Nat.add_mul]; omega), rv_len]
      have : (i + 1) * 7 + j - 7 = i * 7 + j := by rw [Nat.add_mul]; omega
      rw [this]
      exact ih i d j hj h
/-- a slice of roads that came in -/
structure RsIn (w : World) (A : Option Addr) (ds : List Rd) : Prop where
  rd : Reads w w.heap.size 7 A ds.length (rCells ds)
  el : ∀ d ∈ ds, d.In w
theorem Rd.In.below {w w' : World} {d : Rd} (h : d.In w) (hb : Below w.heap.size w w') : d.In w' := ⟨(h.rx.below hb).more hb.size, h.u, h.xh, h.xn⟩
theorem RsIn.below {w w' : World} {A : Option Addr} {ds : List Rd} (h : RsIn w A ds) (hb : Below w.heap.size w w') : RsIn w' A ds := ⟨(h.rd.below hb).more hb.size, fun d hd => (h.el d hd).below hb⟩
theorem RsIn.at_ {w : World} {A : Option Addr} {ds : List Rd} {i : Nat} (h : RsIn w A ds) (hi : i < ds.length) :
    ∃ b off d, A = some ⟨b, off, none⟩ ∧ ds[i]? = some d ∧ d.In w ∧ ∀ j u, d.v.toList[j]? = some u → w.cell? ⟨b, off + i * 7 + j, none⟩ = some u := by
  obtain ⟨⟨b, off, spot⟩, e, _, hc⟩ := h.rd.2 (by omega)
  obtain ⟨d, hd⟩ : ∃ d, ds[i]? = some d := ⟨_, List.getElem?_eq_getElem hi⟩
  obtain ⟨d0, hd0⟩ : ∃ d, ds[0]? = some d := ⟨_, List.getElem?_eq_getElem (by omega)⟩
  have h0 := hc 0 _ ((r_at ds 0 d0 0 (by omega) hd0).trans rfl)
  have hspot : spot = none := by simpa [Addr.add] using World.cell?_spot h0
  subst hspot
  refine ⟨b, off, d, e, hd, h.el d (List.mem_of_getElem? hd), fun j u hu => ?_⟩
  have hj : j < 7 := by have := (List.getElem?_eq_some_iff.1 hu).1; rw [rv_len] at this; exact this
  have := hc (i * 7 + j) u ((r_at ds i d j hj hd).trans hu)
  rw [← this]
  congr 1
  unfold Addr.add
  split <;> simp <;> omega
def EndTrueP (w : World) (e : Ending) (w' : World) : Prop := e = .returned (.bool true) ∧ Below w.heap.size w w'
open Classical in
/-- the link is made -/
theorem link_start {w w1 w2 : World} {p : Pa} {c : Cl} {win : Nat} (ha : CA w.heap.size w1 p c) (hd : p.d = 0) (hb : Below w.heap.size w w1) (hb2 : Below w1.heap.size w1 w2) :
    LkX w (w2.heap.size + 1) p.g w2.heap.size ⟨c, ⟨win, false, 0, [], 0⟩, [], [], []⟩ 0 ((w2.alloc (.cells #[.int .i64 (win : Int), .bool false, .int .u64 0, .slice none 0 0, .int .u64 0, .slice none 0 0, .int .i64 0] 79)).alloc (.cells #[.pointer (some ⟨p.g, 0, none⟩), .pointer (some ⟨w2.heap.size, 0, none⟩), .slice none 0 0, .slice none 0 0, .slice none 0 0] 81)) := by
  have hb3 : Below w2.heap.size w2 ((w2.alloc (.cells #[.int .i64 (win : Int), .bool false, .int .u64 0, .slice none 0 0, .int .u64 0, .slice none 0 0, .int .i64 0] 79)).alloc (.cells #[.pointer (some ⟨p.g, 0, none⟩), .pointer (some ⟨w2.heap.size, 0, none⟩), .slice none 0 0, .slice none 0 0, .slice none 0 0] 81)) := ((Below.refl _ _).alloc (Nat.le_refl _) _).alloc (by simp) _
  have hca := (ha.below hb2).below hb3
  have hcl : ∀ i, CF p i → i < w2.heap.size := fun i hi => ((ha.below hb2).lt hi).2
  have hs2 : w.heap.size ≤ w2.heap.size := Nat.le_trans hb.size hb2.size
  have hno : ∀ i, ((Value.slice none 0 0).ownBlock = some i ∨ kB.inB [] i) → False := fun i hi => by
    rcases hi with e | ⟨x, hx, _⟩
    · simp [Value.ownBlock] at e
    · cases hx
  refine ⟨⟨w2.heap.size + 1, p, ⟨w2.heap.size, .slice none 0 0, [], none, 0⟩, .slice none 0 0, [], .slice none 0 0, [], .slice none 0 0, []⟩, fun i => if CF p i then 1 else if i = w2.heap.size then 2 else 6, rfl, rfl, rfl, ⟨hca, ⟨?_, RowK.nil _ _ _, rfl, hs2⟩, Blk.new' _ 81 _ _ (by simp), RowO.nil _ _ _, RowO.nil _ _ _, RowK.nil _ _ _, fun i hi => if_pos hi, fun i hi => ?_, fun i hi => (hno i hi).elim, fun i hi => (hno i hi).elim, fun i hi => (hno i hi).elim, ?_, by dsimp only; omega, (hb.trans (hb2.mono hb.size)).trans (hb3.mono hs2), by dsimp only; omega⟩, rfl, rfl, rfl⟩
  · exact (Blk.new w2 79 _).alloc _
  · rcases hi with e | e
    · dsimp only at e ⊢
      subst e
      rw [if_neg (fun e => by have := hcl _ e; omega), if_pos rfl]
    · exact (hno i e).elim
  · dsimp only
    rw [if_neg (fun e => by have := hcl _ e; omega), if_neg (by omega)]
set_option maxRecDepth 20000 in
set_option maxHeartbeats 4000000 in
theorem ends_no (nonce : Nat) (win pat kp : Int) (A : Option Addr) (n c : Nat) (w : World) (h : ¬ (1 ≤ nonce ∧ 1 ≤ win ∧ win ≤ 16 ∧ 1 ≤ pat ∧ pat ≤ 1000)) :
    Calls Try.prog 5 #[.int .u64 (nonce : Int), .int .i64 win, .int .i64 pat, .int .i64 kp, .slice A n c] w (EndTrueP w) := by
  have HB := Lib.hid (new_bad nonce win pat w h)
  have hm : mayCl nonce win pat = false := by
    cases e : mayCl nonce win pat with
    | false => rfl
    | true => simp [mayCl] at e; exact absurd (by omega) h
  have HM := Lib.hid fun w => mayc_any nonce win pat w
  rw [hm] at HM
  clear h hm
  go_enter Try.func5, Try.ntmps5
  go_wp2_with (first
    | (go_at_call 10; refine HB.out.mono ?_; rintro e w1 ⟨rfl, rfl⟩)
    | (go_at_call 11; refine (HM.out _).mono ?_; rintro e w1 ⟨rfl, rfl⟩)
    | (go_at_call 12; refine (awake_any _).mono ?_; rintro e w3 ⟨rfl, hb⟩; have HW := Lib.hid hb; clear hb))
  go_ret
  exact ⟨rfl, HW.out⟩
set_option maxRecDepth 20000 in
set_option maxHeartbeats 4000000 in
theorem ends_yes (nonce win pat : Nat) (kp : Int) (A : Option Addr) (n cc : Nat) (ds : List Rd) (w : World) (h1 : 1 ≤ nonce) (hno : nonce < 18446744073709551616) (h2 : 1 ≤ win) (h3 : win ≤ 16) (h4 : 1 ≤ pat) (h5 : pat ≤ 1000) (hd : RsIn w A ds) (hn : ds.length = n) (hn9 : n ≤ 1760000000000) :
    Calls Try.prog 5 #[.int .u64 (nonce : Int), .int .i64 (win : Int), .int .i64 (pat : Int), .int .i64 kp, .slice A n cc] w (EndTrueP w) := by
  have HST := Lib.hid (new_ok nonce win pat w h1 h2 h3 h4 h5)
  have hm : mayCl nonce win pat = true := by simp [mayCl, h1]; omega
  have HM := Lib.hid fun w => mayc_any nonce win pat w
  rw [hm] at HM
  have HD := Lib.hid hd
  have HN := Lib.hid hn
  obtain ⟨kw, hkw⟩ : ∃ kw : Nat, (kw : Int) = min (max kp 1) 16 := ⟨(min (max kp 1) 16).toNat, by omega⟩
  have HLA := Lib.hid (LAll.start h1 hno h2 h3 h4 h5 (w := kw) (by omega) (by omega))
  have HKW := Lib.hid hkw
  generalize Cl.new nonce win pat = cn at *
  clear h1 hno h2 h3 h4 h5 hm hd hn hkw
  go_enter Try.func5, Try.ntmps5
  go_upto_region 6 with (first
    | (go_at_call 10; refine HST.out.mono ?_; rintro e w1 ⟨p, rfl, hca, hpd, hb⟩; have H1 := Lib.hid (And.intro hca (And.intro hpd hb)); clear hca hpd hb)
    | (go_at_call 11; refine (HM.out _).mono ?_; rintro e w2 ⟨rfl, rfl⟩)
    | (go_at_call 13; refine (num_any _ _).mono ?_; rintro e w3 ⟨rfl, rfl⟩)
    | (go_at_call 12; refine (awake_any _).mono ?_; rintro e w3 ⟨rfl, hb⟩; have HB3 := Lib.hid hb; clear hb))
  go_upto_region 7 with fail
  have e1 : (if 16 < (if kp < 1 then 1 else kp) then 16 else (if kp < 1 then 1 else kp)) = (kw : Int) := by
    have := HKW.out
    split <;> split <;> omega
  rw [e1]
  generalize (if kp < 1 then (1 : Int) else kp) = kz at e1 ⊢
  have hL := link_start (win := kw) H1.out.1 H1.out.2.1 H1.out.2.2 HB3.out
  generalize (w3.alloc (.cells #[.int .i64 (kw : Int), .bool false, .int .u64 0, .slice none 0 0, .int .u64 0, .slice none 0 0, .int .i64 0] 79)).alloc (.cells #[.pointer (some ⟨p.g, 0, none⟩), .pointer (some ⟨w3.heap.size, 0, none⟩), .slice none 0 0, .slice none 0 0, .slice none 0 0] 81) = w4 at hL ⊢
  have HL := Lib.hid hL
  generalize w3.heap.size + 1 = gl at *
  generalize w3.heap.size = gt at *
  generalize p.g = gc at *
  clear e1 hL H1 HB3 HST HM
  go_wp2_with fail
  go_loopw [14] (fun v wr => ∃ (i : Nat) (s : Pl), i ≤ n ∧ v = .int .i64 (i : Int) ∧ LkX w gl gc gt s (2176 * i) wr ∧ LAll i s ∧ s.h.length ≤ 60 ∧ s.r.length ≤ 60) (fun v _ => n - (intOf v).toNat)
  case atStart => exact ⟨0, _, Nat.zero_le _, rfl, HL.out, HLA.out, Nat.zero_le _, Nat.zero_le _⟩
  case round =>
    obtain ⟨i, s, hi, rfl, hx, ha, hh, hr⟩ := hrel
    have hold : Below w.heap.size w wr := by obtain ⟨k, f, _, _, _, h4, _⟩ := hx; exact h4.old
    by_cases hlt : i < n
    · obtain ⟨b, off, d, rfl, hdi, hd1, hcell⟩ := (HD.out.below hold).at_ (by rw [HN.out]; exact hlt)
      have l1 : (0 : Int) ≤ (i : Int) := by omega
      have l2 : (i : Int) < (n : Int) := by omega
      have HDO := Lib.hid (ldo_any d hx (ha.doOk (2176 * i) hh hr) (by omega) (by omega) (HD.out.el d (List.mem_of_getElem? hdi)))
      have HA1 := Lib.hid (ha.road (by omega) d)
      have y0 := hcell 0 _ rfl
      have y1 := hcell 1 _ rfl
      have y2 := hcell 2 _ rfl
      have y3 := hcell 3 _ rfl
      have y4 := hcell 4 _ rfl
      have y5 := hcell 5 _ rfl
      have y6 := hcell 6 _ rfl
      simp only [Nat.add_zero] at y0
      unfold Rd.v at HDO
      have HH1 : Hid ((roadPl s d).h.length ≤ 60 ∧ (roadPl s d).r.length ≤ 60) := Lib.hid ⟨cap_len _, cap_len _⟩
      generalize roadPl s d = s' at *
      have HLT := Lib.hid hlt
      clear hx ha hh hr hdi hd1 hcell hold HL HLA
      go_upto_region 11 with (go_at_call 28; refine HDO.out.mono ?_; rintro e w5 ⟨rfl, hx5⟩; have HX5 := Lib.hid hx5; clear hx5)
      clear y0 y1 y2 y3 y4 y5 y6
      go_wp2_with (go_at_call 29; refine (lright_any HX5.out HA1.out.c (by omega) HA1.out.sh HA1.out.prl HA1.out.pre HA1.out.rep HA1.out.reps (by have := HA1.out.yok.le; omega)).mono ?_; rintro e w6 ⟨rfl, hb6⟩; have HX6 := Lib.hid (HX5.out.below hb6); clear hb6)
      go_roundw
      case rel => exact ⟨i + 1, s', HLT.out, by go_num, by rw [show 2176 * (i + 1) = 2176 * i + 2176 from by omega]; exact HX6.out, HA1.out, HH1.out.1, HH1.out.2⟩
      case measure => have := HLT.out; simp [intOf]; omega
    · have l2 : ¬ (i : Int) < (n : Int) := by omega
      have HO := Lib.hid hold
      clear hx ha hh hr hold HL HLA
      go_wp2
      go_ret
      exact ⟨rfl, HO.out⟩
end Go.Proofs.Ytjhkfpemcplaaaa
