/-
  Parts PwC, AryP, Pp, Wm, Wn of the proof. No statement of the seat is proved here.
-/
import Derived.Test.YtjhonaglmgmpiaaGreatDoorP08
import Derived.Test.YtjhonaglmgmpiaaGreatDoorP01
import Derived.Test.YtjhonaglmgmpiaaGreatDoorP02
import Derived.Lib.AppendStr
set_option maxHeartbeats 4000000
namespace Go.Proofs.YtjhonaglmgmpiaaGreatDoor
open Go.RowKit
theorem SsN.at_ {w : World} {base n c : Nat} {A : Option Addr} {l : List Lx.Txt} (h : SsN w base (.slice A n c) l) (hn : n = l.length) {k : Nat} {x : Lx.Txt} (hx : l[k]? = some x) : ∃ b, A = some ⟨b, 0, none⟩ ∧ b < w.heap.size ∧ w.cell? ⟨b, k, none⟩ = some (.string ⟨x.toArray⟩) := by
 subst hn
 have hk := (List.getElem?_eq_some_iff.1 hx).1
 obtain ⟨g, cap, hv, _, hlt⟩ := World.ownsRow.form h (by omega)
 have hA : A = some ⟨g, 0, none⟩ := by injection hv
 subst hA
 refine ⟨g, rfl, hlt, ?_⟩
 have := World.ownsRow.cells h (g := g) rfl k (sv x) (by rw [List.getElem?_map, hx]; rfl)
 have e : (⟨g, 0, none⟩ : Addr).add k = ⟨g, k, none⟩ := by unfold Addr.add; split <;> simp_all
 rw [e] at this
 exact this
def hasT (l : List Lx.Txt) (x : Lx.Txt) : Bool := l.contains x
def IdxT (l : List Lx.Txt) (x : Lx.Txt) (w : World) (e : Ending) (w' : World) : Prop := ∃ r : Int, e = .returned (.int .i64 r) ∧ decide (0 ≤ r) = hasT l x ∧ w = w'
theorem has_step {l : List Lx.Txt} {k : Nat} {y : Lx.Txt} (h : l[k]? = some y) (x : Lx.Txt) : hasT (l.drop k) x = (x == y || hasT (l.drop (k + 1)) x) := by
 obtain ⟨hk, rfl⟩ := List.getElem?_eq_some_iff.1 h
 unfold hasT
 rw [List.drop_eq_getElem_cons hk, List.contains_cons]
set_option maxRecDepth 20000 in
theorem pindex_any {w : World} {base c : Nat} {A : Option Addr} {l : List Lx.Txt} (x : Lx.Txt) (h : SsN w base (.slice A l.length c) l) (hl : l.length ≤ 1000000000) :
  Calls Tryz.prog 121 #[.slice A l.length c, .string ⟨x.toArray⟩] w (IdxT l x w) := by
 have H := Hd h
 clear h
 obtain ⟨n, hn⟩ : ∃ n, n = l.length := ⟨_, rfl⟩
 have HN := Hd hn
 rw [← hn] at hl ⊢
 rw [← hn] at H
 clear hn
 go_enter Tryz.func121, Tryz.ntmps121
 go_wp2
 go_loopw [8] (fun i wr => ∃ k : Nat, k ≤ n ∧ i = .int .i64 k ∧ hasT (l.drop k) x = hasT l x ∧ w = wr) (fun i _ => n - (intOf i).toNat)
 case atStart => exact ⟨0, Nat.zero_le _, rfl, rfl, rfl⟩
 case round =>
  obtain ⟨k, hk, rfl, hall, rfl⟩ := hrel
  have HALL := Hd hall
  clear hall
  by_cases hlt : k < n
  ·have hy := List.getElem?_eq_getElem (l := l) (i := k) (by rw [← HN.out]; exact hlt)
   generalize l[k]'_ = y at hy
   obtain ⟨b, rfl, hb, hc⟩ := SsN.at_ H.out HN.out hy
   have HD := Hd (has_step hy x)
   have l1 : (0 : Int) ≤ (k : Int) := by omega
   have l2 : (k : Int) < (n : Int) := by omega
   clear hy
   cases he : (x == y) with
   | true =>
    have d := (str_eqb x y).trans he
    have HE : Hid (hasT l x = true) := Hd (by rw [← HALL.out, HD.out, he]; rfl)
    go_wp2
    go_ret
    exact ⟨_, rfl, by rw [HE.out]; simp, rfl⟩
   | false =>
    have d := (str_eqb x y).trans he
    have HE : Hid (hasT (l.drop (k + 1)) x = hasT l x) := Hd (by rw [← HALL.out, HD.out, he]; rfl)
    go_wp2
    go_roundw
    case rel => exact ⟨k + 1, by omega, by go_num, HE.out, by first | rfl | trivial⟩
    case measure => simp [intOf]; omega
  ·have HE : Hid (hasT l x = false) := Hd (by rw [← HALL.out, List.drop_eq_nil_of_le (by rw [← HN.out]; omega)]; rfl)
   go_wp2
   go_ret
   exact ⟨_, rfl, by rw [HE.out]; rfl, rfl⟩
set_option maxRecDepth 20000 in
theorem phas_any {w : World} {base c : Nat} {A : Option Addr} {l : List Lx.Txt} (x : Lx.Txt) (h : SsN w base (.slice A l.length c) l) (hl : l.length ≤ 1000000000) :
  Calls Tryz.prog 73 #[.slice A l.length c, .string ⟨x.toArray⟩] w fun e w' => e = .returned (.bool (hasT l x)) ∧ w' = w := by
 have HI := Hd (pindex_any x h hl)
 clear h hl
 go_enter Tryz.func73, Tryz.ntmps73
 go_wp2_with (go_at_call 121; refine HI.out.mono ?_; rintro e w1 ⟨r, rfl, hr, rfl⟩; have HR := Hd hr; clear hr)
 go_ret
 exact ⟨ret_bool (by rw [← HR.out]), rfl⟩
set_option maxRecDepth 20000 in
theorem preserved_any (x : Lx.Txt) (w : World) : Calls Tryz.prog 72 #[.string ⟨x.toArray⟩] w fun e w' => e = .returned (.bool (Ps.resv x)) ∧ Below w.heap.size w w' := by
 have HS : Hid (SsN (w.alloc (.cells #[.string ⟨#[115, 101, 108, 102]⟩, .string ⟨#[115, 117, 112, 101, 114]⟩, .string ⟨#[110, 105, 108]⟩, .string ⟨#[116, 114, 117, 101]⟩, .string ⟨#[102, 97, 108, 115, 101]⟩, .string ⟨#[116, 104, 105, 115, 67, 111, 110, 116, 101, 120, 116]⟩] 9)) w.heap.size (.slice (some ⟨w.heap.size, 0, none⟩) 6 6) [[115, 101, 108, 102], [115, 117, 112, 101, 114], [110, 105, 108], [116, 114, 117, 101], [102, 97, 108, 115, 101], [116, 104, 105, 115, 67, 111, 110, 116, 101, 120, 116]]) :=
  Hd (World.ownsRow_lit (base := w.heap.size) (e := 9) (size := 1) w _ 6 (Nat.le_refl _) (by decide) (by simp))
 have HE : Hid (Ps.resv x = hasT [[115, 101, 108, 102], [115, 117, 112, 101, 114], [110, 105, 108], [116, 114, 117, 101], [102, 97, 108, 115, 101], [116, 104, 105, 115, 67, 111, 110, 116, 101, 120, 116]] x) := Hd rfl
 go_enter Tryz.func72, Tryz.ntmps72
 go_wp2_with (go_at_call 73; refine (phas_any x HS.out (by simp)).mono ?_; rintro e w1 ⟨rfl, rfl⟩)
 go_ret
 exact ⟨ret_bool (by rw [HE.out]), (Below.refl _ _).alloc (Nat.le_refl _) _⟩
def DclP (w : World) (g : Nat) (A : Option Addr) (c : Nat) (T : List Lx.Tk) (fin base : Nat) (v : Value) (r : List Lx.Txt × Ps.PS) (e : Ending) (w' : World) : Prop :=
 ∃ v', e = .returned v' ∧ Chg (fun k => k = g ∨ v.ownBlock = some k) w w' ∧ PA w' g A c T fin r.2 ∧ SsN w' base v' r.1 ∧ (v'.ownBlock = v.ownBlock ∨ ∃ k, v'.ownBlock = some k ∧ w.heap.size ≤ k)
theorem info9 : (Tryz.prog.info? 9).map (fun i => (i.zero, i.size, i.bytes)) = some (some (.string ⟨#[]⟩), 1, 16) := by kernel_rfl
theorem sv_one (l : List Lx.Txt) : ∀ u ∈ l.map sv, u.oneCell' = true := by
 intro u hu
 obtain ⟨x, _, rfl⟩ := List.mem_map.1 hu
 rfl
theorem wpList_snocT {P : Program} {w : World} {ops : Array Oper} {rest : List Oper} {o : Oper} {a : Act} {Q : Exit → Act → World → Prop} (hgd : o.guard = none) (s x : Operand) (t : TypeId)
  (ho : o.op = .call { callee := .builtin .append, args := #[s, x], argTypes := #[t, t] })
  (hinfo : (P.info? 9).map (fun i => (i.zero, i.size, i.bytes)) = some (some (.string ⟨#[]⟩), 1, 16)) (ht : P.underlying t = some (.slice 9))
  (base : Nat) (v : Value) (l : List Lx.Txt) (str : Lx.Txt) (g c : Nat) (hs : a.eval s = v) (hx : a.eval x = .slice (some ⟨g, 0, none⟩) 1 c) (hown : SsN w base v l) (hg : g < w.heap.size)
  (hcell : w.cell? ⟨g, 0, none⟩ = some (.string ⟨str.toArray⟩)) (hb : l.length ≤ 1000000000) (hbase : base ≤ w.heap.size)
  (h : ∀ v' w', SsN w' base v' (l ++ [str]) → App w v w' v' → wpList P ops Q rest (a.put o.dst v') w') : wpList P ops Q (o :: rest) a w := by
 obtain ⟨i, hi, hz, hsz, hby⟩ := info_parts hinfo
 refine wpList_append_any w hgd s x t ho base 9 i _ 1 16 ht hi hz hsz hby rfl (by omega) v l.length (l.map sv) hs hown w.heap.size (some ⟨g, 0, none⟩) 1 c [sv str] hx ⟨rfl, fun _ => ⟨_, rfl, hg, fun j u hu => ?_⟩⟩ (sv_one [str]) (by simp only [maxLen]; omega) (by omega) hbase fun v' w' h1 h2 h3 => h v' w' ?_ ⟨h2, ?_⟩
 ·cases j with
  | zero => simp only [List.getElem?_cons_zero, Option.some.injEq] at hu; subst hu; exact hcell
  | succ j => simp at hu
 ·show w'.ownsRow base 9 1 v' (l ++ [str]).length ((l ++ [str]).map sv)
  rw [List.length_append, List.map_append]
  exact h1
 ·rcases h3 with h3 | h3
  ·exact .inl h3
  ·exact .inr ⟨_, h3, Nat.le_refl _⟩
theorem SsN.form {w : World} {base : Nat} {v : Value} {l : List Lx.Txt} (h : SsN w base v l) : ∃ A c, v = .slice A l.length c ∧ l.length ≤ c ∧ c ≤ maxLen := own_form h
theorem SsN.below {w w' : World} {base : Nat} {v : Value} {l : List Lx.Txt} (h : SsN w base v l) (hb : Below w.heap.size w w') : SsN w' base v l := own_same h fun k hk => hb.block k (World.ownsRow.lt h k hk).2
theorem SsN.call {w w' : World} {base g : Nat} {v : Value} {l : List Lx.Txt} (h : SsN w base v l) (hc : Chg (· = g) w w') (hg : g < base) : SsN w' base v l := own_chg h hc fun k hk e => by have := (World.ownsRow.lt h k hk).1; omega
theorem SsN.put {w : World} {base k : Nat} {t : TypeId} {cs : Array Value} {v : Value} {l : List Lx.Txt} (h : SsN w base v l) (hb : Blk w k t cs) (ht : t ≠ 9) {w' : World} (hc : Chg (· = k) w w') : SsN w' base v l := own_chg h hc fun q hq e => by subst e; exact own_blk_ne h hb (Ne.symm ht) hq
theorem DclP.end_ {w w3 w' : World} {g c fin base : Nat} {A : Option Addr} {T : List Lx.Tk} {s3 : Ps.PS} {L : List Lc} {v v' : Value} {l l' : List Lx.Txt} {o : Obj} (h : Env w g A c T fin s3 L w3) (hgb : g < base) (h3 : SsN w3 base v l') (ho : SsN w' base v' l) (ha : App (w3.alloc o) v w' v') : DclP w g A c T fin base v (l, s3) (.returned v') w' := by
 have ha := ha.from
 refine ⟨v', rfl, (h.chg.mono (G := fun k => k = g ∨ v.ownBlock = some k) fun i _ e => .inl e).trans (Chg.of_grown ha.1 (F := fun k => v.ownBlock = some k) fun k e => e) (fun i _ e => .inr e), h.pa.grown h3 (by decide) hgb ha.1, ho, ?_⟩
 rcases ha.2 with e | ⟨k, e, hk⟩
 ·exact .inl e
 ·exact .inr ⟨k, e, Nat.le_trans h.size hk⟩
set_option maxRecDepth 20000 in
theorem pdecl_any {w : World} {g c fin : Nat} {A : Option Addr} {T : List Lx.Tk} {s : Ps.PS} {base : Nat} {v : Value} {l : List Lx.Txt} (h : PA w g A c T fin s) (hs : s.at_ ≤ 100000) (ho : SsN w base v l) (hgb : g < base) (hbw : base ≤ w.heap.size) (hl : l.length ≤ 1000000) :
  Calls Tryz.prog 31 #[.pointer (some ⟨g, 0, none⟩), v] w (DclP w g A c T fin base v (Ps.decl T fin l s)) := by
 have E0 := Env.start h
 have HN := Hd (pwant_any E0.pa hs 1 [])
 have HO := Hd ho
 obtain ⟨r, hr⟩ : ∃ r, Ps.want T fin 1 [] s = r := ⟨_, rfl⟩
 have HW : Hid (Ps.decl T fin l s = (l ++ [r.1.2.1], if Ps.ok r.2 && (Ps.resv r.1.2.1 || hasT l r.1.2.1) then Ps.rf r.2 r.1.2.2 126 else r.2)) := Hd (by unfold Ps.decl; rw [hr]; rfl)
 rw [hr] at HN
 clear h ho hr
 obtain ⟨Av, cv, rfl, -, -⟩ := SsN.form HO.out
 obtain ⟨n, hn⟩ : ∃ n, n = l.length := ⟨_, rfl⟩
 obtain ⟨t, s1⟩ := r
 dsimp only at HN HW
 go_enter Tryz.func31, Tryz.ntmps31
 go_upto_region 2 with (go_at_call 33; refine HN.out.mono ?_; rintro e w1 ⟨rfl, hp⟩; have E1 := E0.call hp; clear hp)
 have HO1 := Hd (HO.out.call E1.chg hgb)
 refine wp_env2 (E1.box 37 [_, _, _] (by decide)) (fun W => SsN W base (.slice Av l.length cv) l) (HO1.out.below (new_below _ _)) fun w2 E2 ho2 => ?_
 have HO2 := Hd ho2
 clear E0 E1 HO HO1 ho2 HN
 obtain ⟨a, a0, a1, a2⟩ := E2.c3 0 rfl
 have hg := E2.pa.lt
 cases hk : Ps.ok s1 with
 | false =>
  have HE : Hid (Ps.decl T fin l s = (l ++ [t.2.1], s1)) := Hd (by rw [HW.out, hk]; rfl)
  obtain ⟨kq, k4⟩ := E2.pa.noc hk
  have E3 := E2
  have HO3 := HO2
  clear hk HW E2 HO2
  go_upto_region 4 with fail
  go_wp2_with (at_builtin; refine wpList_snocT rfl (.tmp 28) (.tmp 31) 24 rfl info9 Tryz.underlying24 base (.slice Av l.length cv) l t.2.1 _ _ rfl rfl (World.ownsRow.alloc HO3.out _) (by simp) ((Blk.new _ _ _).cell 0) (by omega) (by have := E3.size; simp; omega) ?_; intro v' w' hown happ; have HO5 := Hd hown; have HA5 := Hd happ; clear hown happ)
  go_ret
  rw [HE.out]
  exact DclP.end_ E3 hgb HO3.out HO5.out HA5.out
 | true =>
  have k4 := E2.pa.okc hk
  have HRV := Hd fun w => preserved_any t.2.1 w
  have HHS := Hd fun w ho => phas_any (w := w) (base := base) (c := cv) (A := Av) (l := l) t.2.1 ho (by omega)
  cases hv : Ps.resv t.2.1 with
  | true =>
   have HE : Hid (Ps.decl T fin l s = (l ++ [t.2.1], Ps.rf s1 t.2.2 126)) := Hd (by rw [HW.out, hk, hv]; rfl)
   rw [hv] at HRV
   clear hk hv HW
   go_upto_region 4 with (first
    | (go_at_call 72; refine (HRV.out _).mono ?_; rintro e w3 ⟨rfl, hb⟩; have E3 := E2.below hb; have HO3 := Hd (HO2.out.below hb); obtain ⟨a, a0, a1, a2⟩ := E3.c3 0 rfl; clear hb)
    | (go_at_call 74; refine (prefuse_any E3.pa t.2.2 126).mono ?_; rintro e w4 ⟨rfl, hp⟩; have E4 := E3.call hp; have HO4 := Hd (HO3.out.call hp.1 hgb); clear hp))
   clear E3 HO3 a a0 a1 a2
   have E3 := E4
   have HO3 := HO4
   obtain ⟨a, a0, a1, a2⟩ := E3.c3 0 rfl
   go_wp2_with (at_builtin; refine wpList_snocT rfl (.tmp 28) (.tmp 31) 24 rfl info9 Tryz.underlying24 base (.slice Av l.length cv) l t.2.1 _ _ rfl rfl (World.ownsRow.alloc HO3.out _) (by simp) ((Blk.new _ _ _).cell 0) (by omega) (by have := E3.size; simp; omega) ?_; intro v' w' hown happ; have HO5 := Hd hown; have HA5 := Hd happ; clear hown happ)
   go_ret
   rw [HE.out]
   exact DclP.end_ E3 hgb HO3.out HO5.out HA5.out
  | false =>
   rw [hv] at HRV
   cases hh : hasT l t.2.1 with
   | true =>
    have HE : Hid (Ps.decl T fin l s = (l ++ [t.2.1], Ps.rf s1 t.2.2 126)) := Hd (by rw [HW.out, hk, hv, hh]; rfl)
    rw [hh] at HHS
    clear hk hv hh HW
    go_upto_region 4 with (first
     | (go_at_call 72; refine (HRV.out _).mono ?_; rintro e w3 ⟨rfl, hb⟩; have E3 := E2.below hb; have HO3 := Hd (HO2.out.below hb); obtain ⟨a, a0, a1, a2⟩ := E3.c3 0 rfl; clear hb)
     | (go_at_call 73; refine (HHS.out _ HO3.out).mono ?_; rintro e w3b ⟨rfl, rfl⟩)
     | (go_at_call 74; refine (prefuse_any E3.pa t.2.2 126).mono ?_; rintro e w4 ⟨rfl, hp⟩; have E4 := E3.call hp; have HO4 := Hd (HO3.out.call hp.1 hgb); clear hp))
    clear E3 HO3 a a0 a1 a2
    have E3 := E4
    have HO3 := HO4
    obtain ⟨a, a0, a1, a2⟩ := E3.c3 0 rfl
    go_wp2_with (at_builtin; refine wpList_snocT rfl (.tmp 28) (.tmp 31) 24 rfl info9 Tryz.underlying24 base (.slice Av l.length cv) l t.2.1 _ _ rfl rfl (World.ownsRow.alloc HO3.out _) (by simp) ((Blk.new _ _ _).cell 0) (by omega) (by have := E3.size; simp; omega) ?_; intro v' w' hown happ; have HO5 := Hd hown; have HA5 := Hd happ; clear hown happ)
    go_ret
    rw [HE.out]
    exact DclP.end_ E3 hgb HO3.out HO5.out HA5.out
   | false =>
    have HE : Hid (Ps.decl T fin l s = (l ++ [t.2.1], s1)) := Hd (by rw [HW.out, hk, hv, hh]; rfl)
    rw [hh] at HHS
    clear hk hv hh HW
    go_upto_region 4 with (first
     | (go_at_call 72; refine (HRV.out _).mono ?_; rintro e w3 ⟨rfl, hb⟩; have E3 := E2.below hb; have HO3 := Hd (HO2.out.below hb); obtain ⟨a, a0, a1, a2⟩ := E3.c3 0 rfl; clear hb)
     | (go_at_call 73; refine (HHS.out _ HO3.out).mono ?_; rintro e w3b ⟨rfl, rfl⟩))
    go_wp2_with (at_builtin; refine wpList_snocT rfl (.tmp 28) (.tmp 31) 24 rfl info9 Tryz.underlying24 base (.slice Av l.length cv) l t.2.1 _ _ rfl rfl (World.ownsRow.alloc HO3.out _) (by simp) ((Blk.new _ _ _).cell 0) (by omega) (by have := E3.size; simp; omega) ?_; intro v' w' hown happ; have HO5 := Hd hown; have HA5 := Hd happ; clear hown happ)
    go_ret
    rw [HE.out]
    exact DclP.end_ E3 hgb HO3.out HO5.out HA5.out
theorem decl_at' {T : List Lx.Tk} {fin : Nat} {l : List Lx.Txt} {s : Ps.PS} (h : s.at_ ≤ T.length) : (Ps.decl T fin l s).2.at_ ≤ T.length ∧ s.at_ ≤ (Ps.decl T fin l s).2.at_ ∧ (Ps.ok (Ps.decl T fin l s).2 = true → (Ps.decl T fin l s).2.at_ = s.at_ + 1) := by
 have key : ∀ r : Lx.Tk × Ps.PS, r = Ps.want T fin 1 [] s → r.2.at_ ≤ T.length ∧ s.at_ ≤ r.2.at_ ∧ (Ps.ok r.2 = true → r.2.at_ = s.at_ + 1) := by
  rintro r rfl
  unfold Ps.want
  split
  ·refine ⟨h, Nat.le_refl _, fun hk => ?_⟩
   have : Ps.ok (Ps.odd T fin s) = false := Ps.rf_no _ _ _
   rw [this] at hk
   cases hk
  ·rename_i hc
   have : (Ps.nx T fin s).1 = 1 := by
    by_cases h1 : (Ps.nx T fin s).1 = 1
    ·exact h1
    ·exact absurd (by simp [h1]) hc
   have hlt : s.at_ < T.length := Ps.nx_lt (fin := fin) (by rw [this]; decide)
   exact ⟨hlt, Nat.le_succ _, fun _ => rfl⟩
 unfold Ps.decl
 have := key _ rfl
 generalize Ps.want T fin 1 [] s = r at this
 dsimp only
 split
 ·refine ⟨this.1, this.2.1, fun hk => ?_⟩
  rw [Ps.rf_no] at hk
  cases hk
 ·exact this
theorem tmpL_stop {T : List Lx.Tk} {fin f : Nat} {l : List Lx.Txt} {s : Ps.PS} (h : (Ps.ok s && !Ps.is_ T fin s [124]) = false) : Ps.tmpL T fin f l s = (l, s) := by
 cases f with
 | zero => rfl
 | succ f => unfold Ps.tmpL; rw [if_neg (by rw [h]; decide)]
def NmsP (w : World) (g : Nat) (A : Option Addr) (c : Nat) (T : List Lx.Tk) (fin : Nat) (r : List Lx.Txt × Ps.PS) (e : Ending) (w' : World) : Prop := ∃ v, e = .returned v ∧ PP w g A c T fin r.2 w' ∧ SsN w' w.heap.size v r.1
set_option maxRecDepth 20000 in
theorem ptemps_any {w : World} {g c fin : Nat} {A : Option Addr} {T : List Lx.Tk} {s : Ps.PS} (h : PA w g A c T fin s) (hT : T.length ≤ 65536) :
  Calls Tryz.prog 35 #[.pointer (some ⟨g, 0, none⟩)] w (NmsP w g A c T fin (Ps.temps T fin s)) := by
 have E0 := Env.start h
 have HI := Hd (pis_any h [124])
 clear h
 cases hi : Ps.is_ T fin s [124] with
 | false =>
  have HE : Hid (Ps.temps T fin s = ([], s)) := Hd (by unfold Ps.temps; rw [hi]; rfl)
  rw [hi] at HI
  clear hi
  go_enter Tryz.func35, Tryz.ntmps35
  go_wp2_with (go_at_call 75; refine HI.out.mono ?_; rintro e w1 ⟨rfl, hb⟩; have E1 := E0.below hb)
  go_ret
  exact ⟨_, rfl, by rw [HE.out]; exact E1.pp, by rw [HE.out]; exact SsN.nil _ _⟩
 | true =>
  obtain ⟨R, hR⟩ : ∃ R, Ps.tmpL T fin (T.length + 2) [] (Ps.adv s) = R := ⟨_, rfl⟩
  have HE : Hid (Ps.temps T fin s = (R.1, Ps.adv R.2)) := Hd (by unfold Ps.temps; rw [hi, hR]; rfl)
  have hlt : s.at_ < T.length := Ps.mark_lt (fin := fin) hi
  have HR := Hd hR
  rw [hi] at HI
  clear hi hR
  go_enter Tryz.func35, Tryz.ntmps35
  go_upto_block 0 with (first
   | (go_at_call 75; refine HI.out.mono ?_; rintro e w1 ⟨rfl, hb⟩; have E1 := E0.below hb; clear hb)
   | (go_at_call 29; refine (ptake_any E1.pa (by omega)).mono ?_; rintro e w2 ⟨rfl, hp⟩; have E2 := E1.call hp; clear hp))
  clear E0 E1 HI
  go_wp2
  go_loopg [3] (T.length + 2) (fun f v wr => ∃ (l : List Lx.Txt) (s' : Ps.PS), Env w g A c T fin s' [] wr ∧ SsN wr w.heap.size v l ∧ (Ps.ok s' = true → T.length < s'.at_ + f) ∧ s'.at_ ≤ T.length ∧ l.length + f ≤ T.length + 2 ∧ Ps.tmpL T fin f l s' = R)
  case atStart => exact ⟨[], Ps.adv s, E2, SsN.nil _ _, fun _ => by show T.length < s.at_ + 1 + _; omega, hlt, by simp, HR.out⟩
  case round =>
   obtain ⟨l, s', E1, hO, hok, hat, hlen, hR⟩ := hrel
   have HO1 := Hd hO
   have HOK := Hd hok
   have HR := Hd hR
   have HIS := Hd (pis_any E1.pa [124])
   have hg := E1.pa.lt
   clear hO hok hR E2
   cases hk : Ps.ok s' with
   | false =>
    obtain ⟨kq, k4⟩ := E1.pa.noc hk
    have HE2 : Hid (R = (l, s')) := Hd (by rw [← HR.out]; exact tmpL_stop (by rw [hk]; rfl))
    have HKT := Hd (ptake_any E1.pa (by omega))
    clear hk
    go_wp2_with (go_at_call 29; refine HKT.out.mono ?_; rintro e w5 ⟨rfl, hp⟩; have E5 := E1.call hp; have HO5 := Hd (HO1.out.call hp.1 E1.gl); clear hp)
    go_ret
    exact ⟨_, rfl, by rw [HE.out, HE2.out]; exact E5.pp, by rw [HE.out, HE2.out]; exact HO5.out⟩
   | true =>
    have k4 := E1.pa.okc hk
    have hf := HOK.out hk
    cases hi : Ps.is_ T fin s' [124] with
    | true =>
     have HE2 : Hid (R = (l, s')) := Hd (by rw [← HR.out]; exact tmpL_stop (by rw [hk, hi]; rfl))
     rw [hi] at HIS
     clear hk hi hf
     go_wp2_with (first
      | (go_at_call 75; refine HIS.out.mono ?_; rintro e w4 ⟨rfl, hb⟩; have E4 := E1.below hb; have HO4 := Hd (HO1.out.below hb); clear hb)
      | (go_at_call 29; refine (ptake_any E4.pa (by omega)).mono ?_; rintro e w5 ⟨rfl, hp⟩; have E5 := E4.call hp; have HO5 := Hd (HO4.out.call hp.1 E1.gl); clear hp))
     go_ret
     exact ⟨_, rfl, by rw [HE.out, HE2.out]; exact E5.pp, by rw [HE.out, HE2.out]; exact HO5.out⟩
    | false =>
     obtain ⟨f, rfl⟩ : ∃ f, gk = f + 1 := ⟨gk - 1, by omega⟩
     have HD := decl_at' (fin := fin) (l := l) hat
     have HR2 : Hid (Ps.tmpL T fin f (Ps.decl T fin l s').1 (Ps.decl T fin l s').2 = R) := Hd (by rw [← HR.out]; show _ = Ps.tmpL T fin (f + 1) l s'; rw [Ps.tmpL, if_pos (by rw [hk, hi]; rfl)])
     have HL : Hid ((Ps.decl T fin l s').1.length = l.length + 1) := Hd (by simp [Ps.decl])
     rw [hi] at HIS
     have HDH := Hd HD
     clear hk hi HD
     go_wp2_with (first
      | (go_at_call 75; refine HIS.out.mono ?_; rintro e w4 ⟨rfl, hb⟩; have E4 := E1.below hb; have HO4 := Hd (HO1.out.below hb); clear hb)
      | (go_at_call 31; refine (pdecl_any E4.pa (by omega) HO4.out E1.gl E4.size (by omega)).mono ?_; rintro e w5 ⟨v5, rfl, hc5, hp5, ho5, hv5⟩; have E5 := E4.row hc5 hp5 (fun k hk => ⟨(World.ownsRow.lt HO4.out k hk).1, fun i x hx => by simp at hx⟩); have HO5 := Hd ho5; clear hc5 hp5 ho5 hv5))
     go_roundg f
     case measure => omega
     case rel => exact ⟨_, _, E5, HO5.out, fun hk => by have := HDH.out.2.2 hk; omega, HDH.out.1, by rw [HL.out]; omega, HR2.out⟩
end Go.Proofs.YtjhonaglmgmpiaaGreatDoor
namespace Go.Proofs.YtjhonaglmgmpiaaGreatDoor
namespace Lx
def wordB : Txt → Bool
  | [] => false
  | c :: t => letB c && t.all ldB
def binsB (l : Txt) : Bool := if l.all binB then !l.isEmpty else l == [124]
def parL : Txt → Txt → Nat → Option Nat
  | [], cur, n => if cur = [] then some n else none
  | c :: t, cur, n => if c = 58 then (if wordB cur then parL t [] (n + 1) else none) else parL t (cur ++ [c]) n
def parV : Option Nat → Int
  | some (n + 1) => (n : Int) + 1
  | _ => -1
def parN (l : Txt) : Int := parV (parL l [] 0)
def arityF (l : Txt) : Int := if wordB l then 0 else if binsB l then 1 else parN l
theorem parL_drop {l : Txt} {i : Nat} {x : UInt8} (h : l[i]? = some x) (cur : Txt) (n : Nat) :
    parL (l.drop i) cur n = if x = 58 then (if wordB cur then parL (l.drop (i + 1)) [] (n + 1) else none) else parL (l.drop (i + 1)) (cur ++ [x]) n := by
  have hi : i < l.length := by
    rcases Nat.lt_or_ge i l.length with h1 | h1
    · exact h1
    · rw [List.getElem?_eq_none h1] at h; cases h
  have hx : l[i] = x := by rw [List.getElem?_eq_getElem hi] at h; exact Option.some.inj h
  rw [List.drop_eq_getElem_cons hi, hx]
  rfl
theorem cut_self (l : Txt) (a : Nat) : cut l a a = [] := by
  unfold cut
  exact List.drop_eq_nil_of_le (List.length_take_le _ _)
theorem cut_snoc {l : Txt} {a i : Nat} {x : UInt8} (h : l[i]? = some x) (ha : a ≤ i) : cut l a i ++ [x] = cut l a (i + 1) := by
  have hi : i < l.length := by
    rcases Nat.lt_or_ge i l.length with h1 | h1
    · exact h1
    · rw [List.getElem?_eq_none h1] at h; cases h
  have hx : l[i] = x := by rw [List.getElem?_eq_getElem hi] at h; exact Option.some.inj h
  unfold cut
  rw [List.take_succ_eq_append_getElem hi, hx, List.drop_append, show a - (l.take i).length = 0 from by rw [List.length_take]; omega, List.drop_zero]
theorem parL_end {l : Txt} {a : Nat} (ha : a ≤ l.length) (n : Nat) : parL (l.drop l.length) (cut l a l.length) n = if a = l.length then some n else none := by
  rw [List.drop_length]
  unfold parL
  by_cases h : a = l.length
  · rw [if_pos h, if_pos (by rw [h]; exact cut_self _ _)]
  · rw [if_neg h, if_neg]
    intro h2
    have h3 : (cut l a l.length).length = l.length - a := by unfold cut; rw [List.take_length, List.length_drop]
    rw [h2] at h3
    simp at h3
    omega
end Lx
namespace Ps
open Lx Go.RowKit
structure Wr where
 b : Txt
 deep : Int
 most : Int
 gone : Bool
def put (s : Txt) (w : Wr) : Wr := if w.gone || decide (65536 < w.b.length + s.length) then { w with gone := true } else { w with b := w.b ++ s }
inductive Ev where
 | t (s : Txt)
 | o (s : Txt)
 | c (s : Txt)
def ev : Ev → Wr → Wr
 | .t s, w => put s w
 | .o s, w => put s { w with deep := wrap64 (w.deep + 1), most := max w.most (wrap64 (w.deep + 1)) }
 | .c s, w => put s { w with deep := wrap64 (w.deep - 1) }
def evs : List Ev → Wr → Wr
 | [], w => w
 | e :: l, w => evs l (ev e w)
theorem evs_append : ∀ (a b : List Ev) (w : Wr), evs (a ++ b) w = evs b (evs a w)
 | [], _, _ => rfl
 | e :: a, b, w => evs_append a b (ev e w)
def rankS (n : Txt) : Nat := if wordB n then 0 else if binsB n then 1 else 2
def kwsF : Txt → Txt → List Txt
 | _, [] => []
 | cur, c :: t => if c = 58 then (cur ++ [58]) :: kwsF [] t else kwsF (cur ++ [c]) t
def kws (n : Txt) : List Txt := kwsF [] n
structure Kid where
 kind : Nat
 name : Txt
 rank : Nat
 ex : List Ev
 msg : List Ev
def Kid.no : Kid := ⟨0, [], 0, [], []⟩
def wi (most : Nat) (k : Kid) : List Ev := if k.rank ≤ most then k.ex else .o [40] :: (k.ex ++ [.c [41]])
def kwE : Bool → List Txt → List Kid → List Ev
 | _, [], _ => []
 | first, k :: r, ks => (if first then [] else [.t [32]]) ++ (.t k :: .t [32] :: (wi 2 (ks.headD Kid.no) ++ kwE false r ks.tail))
def msE (n : Txt) (ks : List Kid) : List Ev := if rankS n = 0 then [.t n] else if rankS n = 1 then .t n :: .t [32] :: wi 1 (ks.headD Kid.no) else kwE true (kws n) ks
def rcE (n : Txt) (k : Kid) : List Ev := wi (min (rankS n + 1) 2) k ++ [.t [32]]
def caE : Bool → List Kid → List Ev
 | _, [] => []
 | first, k :: r => (if first then [] else [.t [59, 32]]) ++ (k.msg ++ caE false r)
def liE (between : Txt) : Bool → List Kid → List Ev
 | _, [] => []
 | first, k :: r => (if first then [] else [.t between]) ++ (k.ex ++ liE between false r)
def dbl : Txt → Txt
 | [] => []
 | c :: t => if c = 39 then 39 :: 39 :: dbl t else c :: dbl t
def quoteF (s : Txt) : Txt := 39 :: (dbl s ++ [39])
def symP (s : Txt) : Bool := (match s with | [] => false | c :: _ => letB c) && s.all symB
def symT (s : Txt) : Txt := if symP s || binsB s then s else quoteF s
def joinF : List Txt → Txt
 | [] => []
 | [a] => a
 | a :: b :: r => a ++ 32 :: joinF (b :: r)
def bsE : Bool → Txt → List Kid → List (List Ev) → List Ev
 | _, _, [], _ => []
 | _, _, _, [] => []
 | first, gap, _ :: r, s :: ss => .t (if first then gap else [46, 32]) :: (s ++ bsE false gap r ss)
def anE : Bool → List Txt → List Ev
 | _, [] => []
 | first, a :: r => (if first then [] else [.t [32]]) ++ (.t [58] :: .t a :: anE false r)
def rankT (k : Nat) (n : Txt) : Nat := if k = 4 ∨ k = 6 then 4 else if k = 5 then 1 + rankS n else 0
def exE (k : Nat) (n : Txt) (ks : List Kid) : List Ev :=
 if k = 4 then .t n :: .t [32, 58, 61, 32] :: (ks.headD Kid.no).ex
 else if k = 5 then rcE n (ks.headD Kid.no) ++ msE n ks.tail
 else if k = 6 then rcE (ks.tail.headD Kid.no).name (ks.headD Kid.no) ++ caE true ks.tail
 else if k = 8 ∨ k = 9 then [.t n]
 else if k = 10 then [.t (quoteF n)]
 else if k = 11 then [.t [35], .t (symT n)]
 else if k = 12 then .o [35, 40] :: (liE [32] true ks ++ [.c [41]])
 else if k = 13 then .o [35, 91] :: (liE [32] true ks ++ [.c [93]])
 else if k = 14 then .o [123] :: (liE [46, 32] true ks ++ [.c [125]])
 else []
def stmE (k : Nat) (ex : List Ev) (ks : List Kid) : List Ev := if k = 3 then .t [94, 32] :: (ks.headD Kid.no).ex else ex
def blE (a b : List Txt) (sts : List (List Ev)) (ks : List Kid) : List Ev :=
 .o [91] :: ((if a.isEmpty then [] else anE true a ++ [.t [32, 124]]) ++ ((if b.isEmpty then [] else [.t (if a.isEmpty then [] else [32]), .t [124, 32], .t (joinF b), .t [32, 124]]) ++ (bsE true (if a.isEmpty && b.isEmpty then [] else [32]) ks sts ++ [.c [93]])))
mutual
def kid : Tr → Kid × List Ev
 | .mk k n a b l _ _ =>
  let ks := kids l
  let ex := if k = 2 then blE a b (ks.map Prod.snd) (ks.map Prod.fst) else exE k n (ks.map Prod.fst)
  (⟨k, n, rankT k n, ex, msE n (ks.map Prod.fst)⟩, stmE k ex (ks.map Prod.fst))
def kids : List Tr → List (Kid × List Ev)
 | [] => []
 | t :: r => kid t :: kids r
end
def kpE : Bool → List Txt → List Txt → List Ev
 | _, [], _ => []
 | first, k :: r, a => (if first then [] else [.t [32]]) ++ (.t k :: .t [32] :: .t (a.headD []) :: kpE false r a.tail)
def patE (n : Txt) (a : List Txt) : List Ev := (if wordB n then [.t n] else if binsB n then [.t n, .t [32], .t (a.headD [])] else kpE true (kws n) a) ++ [.t [10]]
def itoaF (n : Nat) : Txt := (Nat.toDigits 10 n).map fun c => UInt8.ofNat c.toNat
def prmE (p : Nat) : List Ev := if p = 0 then [] else [.t [9, 60, 112, 114, 105, 109, 105, 116, 105, 118, 101, 58, 32], .t (itoaF p), .t [62, 10]]
def tmpE (b : List Txt) : List Ev := if b.isEmpty then [] else [.t [9, 124, 32], .t (joinF b), .t [32, 124, 10]]
def mstE : List (List Ev) → List Ev
 | [] => []
 | [s] => .t [9] :: (s ++ [.t [10]])
 | s :: r => .t [9] :: (s ++ (.t [46] :: .t [10] :: mstE r))
def metE : Tr → List Ev
 | .mk _ n a b l p _ => patE n a ++ (prmE p ++ (tmpE b ++ mstE ((kids l).map Prod.snd)))
def printF (t : Tr) : Txt × Nat :=
 let w := evs (metE t) ⟨[], 0, 0, false⟩
 if 100 < w.most then ([], 125) else if w.gone then ([], 2) else (w.b, 0)
def declF : List Txt → List Txt → Bool
 | _, [] => true
 | seen, a :: r => wordB a && !resv a && !seen.contains a && declF (seen ++ [a]) r
def intF : Txt → Bool
 | [] => false
 | c :: t => if c = 45 && !t.isEmpty then t != [48] && intF t && t.head? != some 45 else decide ((c :: t).length ≤ 1000) && !(!t.isEmpty && c == 48) && (c :: t).all digB
structure Vk where
 kind : Nat
 name : Txt
 ex : Bool
 msg : Bool
 ret : Bool
def litV (v : Vk) : Bool := v.ex && (v.kind == 9 || v.kind == 10 || v.kind == 11 || v.kind == 12 || v.kind == 13 || (v.kind == 8 && (v.name == [116, 114, 117, 101] || v.name == [102, 97, 108, 115, 101] || v.name == [110, 105, 108])))
def bytV (v : Vk) : Bool := v.kind == 9 && v.ex && decide (v.name.length ≤ 3) && v.name.head? != some 45 && decide (small v.name 255 ≤ 255)
def stsV : List Vk → Bool
 | [] => true
 | [v] => v.ex || v.ret
 | v :: r => v.ex && stsV r
def exV (k : Nat) (n : Txt) (ks : List Vk) : Bool :=
 if k = 4 then wordB n && !resv n && ks.length == 1 && ks.all Vk.ex
 else if k = 5 then decide (0 ≤ arityF n) && decide ((ks.length : Int) = arityF n + 1) && ks.all Vk.ex
 else if k = 6 then n.isEmpty && decide (3 ≤ ks.length) && (ks.take 1).all Vk.ex && ks.tail.all Vk.msg
 else if k = 8 then wordB n && ks.isEmpty
 else if k = 9 then intF n && ks.isEmpty
 else if k = 10 ∨ k = 11 then ks.isEmpty
 else if k = 12 then n.isEmpty && ks.all litV
 else if k = 13 then n.isEmpty && ks.all bytV
 else if k = 14 then n.isEmpty && ks.all Vk.ex
 else false
mutual
def vkid : Tr → Vk
 | .mk k n a b l p _ =>
  let ks := vkids l
  let bare := a.isEmpty && b.isEmpty && p == 0
  ⟨k, n, if k = 2 then n.isEmpty && p == 0 && declF [] a && declF [] b && stsV ks else bare && exV k n ks,
   k == 7 && bare && decide (0 ≤ arityF n) && decide ((ks.length : Int) = arityF n) && ks.all Vk.ex,
   k == 3 && bare && n.isEmpty && ks.length == 1 && ks.all Vk.ex⟩
def vkids : List Tr → List Vk
 | [] => []
 | t :: r => vkid t :: vkids r
end
def methV : Tr → Bool
 | .mk k n a b l p _ => k == 1 && decide (arityF n = (a.length : Int)) && decide (p ≤ 255) && declF [] a && declF [] b && stsV (vkids l)
theorem kids_map : ∀ l : List Tr, kids l = l.map kid
 | [] => by rw [kids]; rfl
 | t :: r => by rw [kids, kids_map r]; rfl
theorem vkids_map : ∀ l : List Tr, vkids l = l.map vkid
 | [] => by rw [vkids]; rfl
 | t :: r => by rw [vkids, vkids_map r]; rfl
end Ps
end Go.Proofs.YtjhonaglmgmpiaaGreatDoor
namespace Go.Proofs.YtjhonaglmgmpiaaGreatDoor
open Go.RowKit
inductive TpIn (w : World) (S : Nat → Prop) : List Value → Ps.Tr → Prop
 | mk (kind : Nat) (name : Lx.Txt) (names temps : List Lx.Txt) (nodes : List Ps.Tr) (prim place : Nat) (z : Int) (A1 : Option Addr) (c1 : Nat) (A2 : Option Addr) (c2 : Nat) (A3 : Option Addr) (c3 : Nat) (css : List (List Value)) :
   ReadsI w S 1 A1 names.length (names.map sv) → ReadsI w S 1 A2 temps.length (temps.map sv) → css.length = nodes.length → ReadsI w S 7 A3 nodes.length css.flatten → (nodes.length ≤ c3 ∧ nodes.length ≤ maxLen ∧ names.length ≤ maxLen ∧ temps.length ≤ maxLen ∧ names.length ≤ c1 ∧ temps.length ≤ c2) →
   (∀ (i : Nat) (cs' : List Value) (t' : Ps.Tr), css[i]? = some cs' → nodes[i]? = some t' → TpIn w S cs' t') →
   TpIn w S [.int .i64 (kind : Int), .string ⟨name.toArray⟩, .slice A1 names.length c1, .slice A2 temps.length c2, .slice A3 nodes.length c3, .int .i64 (prim : Int), .int .i64 z] (.mk kind name names temps nodes prim place)
section
variable {w w' : World} {S S' : Nat → Prop} {cs : List Value} {t : Ps.Tr}
theorem TrIn.tp (h : TrIn w S cs t) : TpIn w S cs t := by
 induction h with
 | mk kind name names temps nodes prim place A1 c1 A2 c2 A3 c3 css h1 h2 hl h3 hc _ ih => exact .mk _ _ _ _ _ _ _ _ _ _ _ _ _ _ css h1 h2 hl h3 hc ih
theorem TpIn.len (h : TpIn w S cs t) : cs.length = 7 := by cases h; rfl
theorem TpIn.keep (h : TpIn w S cs t) (hs : w.heap.size ≤ w'.heap.size) (hk : ∀ k, S k → k < w.heap.size → w'.heap[k]? = w.heap[k]?) : TpIn w' S cs t := by
 induction h with
 | mk kind name names temps nodes prim place z A1 c1 A2 c2 A3 c3 css h1 h2 hl h3 hc _ ih => exact .mk _ _ _ _ _ _ _ _ _ _ _ _ _ _ css (h1.keep hs hk) (h2.keep hs hk) hl (h3.keep hs hk) hc ih
theorem TpIn.more (h : TpIn w S cs t) (hS : ∀ k, S k → k < w.heap.size → S' k) : TpIn w S' cs t := by
 induction h with
 | mk kind name names temps nodes prim place z A1 c1 A2 c2 A3 c3 css h1 h2 hl h3 hc _ ih => exact .mk _ _ _ _ _ _ _ _ _ _ _ _ _ _ css (h1.more hS) (h2.more hS) hl (h3.more hS) hc ih
end
structure WA (w : World) (g base : Nat) (v : Value) (s : Ps.Wr) : Prop where
 blk : Blk w g 114 #[v, .int .i64 s.deep, .int .i64 s.most, .bool s.gone]
 row : OwnB 5 w base v s.b
 lt : g < base
 le : base ≤ w.heap.size
 sz : s.b.length ≤ 65536
def WP (g base : Nat) (v : Value) (s' : Ps.Wr) (w w' : World) : Prop :=
 Chg (fun k => k = g ∨ v.ownBlock = some k) w w' ∧ ∃ v', WA w' g base v' s' ∧ ∀ k, v'.ownBlock = some k → k < w.heap.size → v.ownBlock = some k
section
variable {w w1 w2 w' : World} {g base : Nat} {v : Value} {s s1 s' : Ps.Wr}
theorem WP.refl (h : WA w g base v s) : WP g base v s w w := ⟨Chg.refl _ _, v, h, fun _ e _ => e⟩
theorem WA.below (h : WA w g base v s) (hb : Below w.heap.size w w') : WA w' g base v s := by
 refine ⟨(hb.block g h.blk.lt).trans h.blk, own_same h.row fun k hk => hb.block k (World.ownsRow.lt h.row k hk).2, h.lt, Nat.le_trans h.le hb.size, h.sz⟩
theorem WP.next {v1 : Value} (hc : Chg (fun k => k = g ∨ v.ownBlock = some k) w w1) (hq : ∀ k, v1.ownBlock = some k → k < w.heap.size → v.ownBlock = some k) (k : WP g base v1 s' w1 w2) : WP g base v s' w w2 := by
 obtain ⟨k1, v', k2, k3⟩ := k
 refine ⟨hc.trans k1 fun i hi e => ?_, v', k2, fun q e hq' => hq q (k3 q e (Nat.lt_of_lt_of_le hq' hc.size)) hq'⟩
 rcases e with e | e
 ·exact .inl e
 ·exact .inr (hq i e hi)
theorem WP.below (h : WP g base v s1 w w1) (hb : Below w1.heap.size w1 w2) : WP g base v s1 w w2 := by
 obtain ⟨h1, v1, h2, h3⟩ := h
 exact ⟨h1.trans (Chg.of_below hb (fun _ => False)) (fun _ _ e => e.elim), v1, h2.below hb, h3⟩
theorem WP.from (hb : Below w.heap.size w w1) (h : WP g base v s1 w1 w2) : WP g base v s1 w w2 := by
 obtain ⟨h1, v1, h2, h3⟩ := h
 exact ⟨(Chg.of_below hb (fun k => k = g ∨ v.ownBlock = some k)).trans h1 (fun _ _ e => e), v1, h2, fun k e hk => h3 k e (Nat.lt_of_lt_of_le hk hb.size)⟩
theorem WP.blk (h : WP g base v s1 w w1) (hw : WA w g base v s) {k : Nat} {t : TypeId} {cs : Array Value} (hb : Blk w k t cs) (ht : t ≠ 114) (h5 : t ≠ 5) : Blk w1 k t cs :=
 h.1.blk hb fun e => by
  rcases e with rfl | e
  ·exact Blk.ne_ hb hw.blk ht rfl
  ·exact own_blk_ne hw.row hb (Ne.symm h5) e
theorem WP.low (h : WP g base v s1 w w1) (hw : WA w g base v s) : Below g w w1 :=
 h.1.below (Nat.le_of_lt hw.blk.lt) fun k hk e => by
  rcases e with rfl | e
  ·omega
  ·have := (World.ownsRow.lt hw.row k e).1
   have := hw.lt
   omega
end
structure WPx (g base : Nat) (v v1 : Value) (s1 : Ps.Wr) (w w1 : World) : Prop where
 chg : Chg (fun k => k = g ∨ v.ownBlock = some k) w w1
 wa : WA w1 g base v1 s1
 row : ∀ k, v1.ownBlock = some k → k < w.heap.size → v.ownBlock = some k
section
variable {w w1 w2 : World} {g base : Nat} {v v1 : Value} {s s1 s2 : Ps.Wr}
theorem WPx.start (h : WA w g base v s) : WPx g base v v s w w := ⟨Chg.refl _ _, h, fun _ e _ => e⟩
theorem WPx.wp (h : WPx g base v v1 s1 w w1) : WP g base v s1 w w1 := ⟨h.chg, v1, h.wa, h.row⟩
theorem WP.x (h : WP g base v s1 w w1) : ∃ v1, WPx g base v v1 s1 w w1 := by
 obtain ⟨h1, v1, h2, h3⟩ := h
 exact ⟨v1, h1, h2, h3⟩
theorem WPx.step (h : WPx g base v v1 s1 w w1) (k : WP g base v1 s2 w1 w2) : ∃ v2, WPx g base v v2 s2 w w2 := WP.x (WP.next h.chg h.row k)
theorem WPx.below (h : WPx g base v v1 s1 w w1) (hb : Below w1.heap.size w1 w2) : WPx g base v v1 s1 w w2 :=
 ⟨h.chg.trans (Chg.of_below hb (fun _ => False)) (fun _ _ e => e.elim), h.wa.below hb, h.row⟩
theorem WPx.low (h : WPx g base v v1 s1 w w1) (hw : WA w g base v s) : Below g w w1 := h.wp.low hw
end
theorem info5w : (Tryz.prog.info? 5).map (fun i => (i.zero, i.size, i.bytes)) = some (some (.int .u8 0), 1, 1) := by kernel_rfl
theorem app_str_blk {P : Program} {w w' : World} (base : Nat) (t u ty e : TypeId) (i : TypeInfo) (ht : P.underlying t = some (.slice e)) (hu : P.underlying u = some .string) (hi : P.info? e = some i) (hz : i.zero = some (.int .u8 0)) (hs1 : i.size = 1) (hby : i.bytes = 1)
  (v v' : Value) (n : Nat) (xs : List Value) (hown : w.ownsRow base e 1 v n xs) (s : ByteArray) (h63 : n + s.size ≤ maxLen) (hbytes : n + s.size ≤ 140737488355328)
  (hr : (Builtin.append_ #[t, u] ty #[v, .string s]).run P w = .ok v' w') : v'.ownBlock = v.ownBlock ∨ v'.ownBlock = some w.heap.size := by
 have hxl : xs.length = n := by simpa using hown.1
 have hsmall : n + s.size ≤ 9223372036854775807 := by simp only [maxLen] at h63; omega
 rcases hown.2 with ⟨rfl, rfl⟩ | ⟨g, cap, cur, rfl, hbg, hg, hnc, hcm, hcs, htake⟩
 ·by_cases hm : s.size = 0
  ·have hf := Lib.run_firstCells_string (P := P) w 1 s
   rw [hm] at hf
   have e1 : (Builtin.append_ #[t, u] ty #[.slice none 0 0, .string s]).run P w = .ok (.slice none 0 0) w := by simp [Builtin.append_, run_underlying ht, run_underlying hu, sizeOf, typeInfo, hi, hs1, Builtin.lenOf, hm, hf]
   rw [e1] at hr
   injection hr with h1 _
   exact .inl (by rw [← h1])
  ·have e1 := run_append_nil_string (P := P) w t u ty e i (.int .u8 0) ht hu hi hz s (by omega) (by omega) (by rw [hby]; omega)
   rw [e1] at hr
   injection hr with h1 _
   exact .inr (by rw [← h1]; rfl)
 ·by_cases hroom : n + s.size ≤ cap
  ·have hcs' : cur.size = cap := by simpa using hcs
   have e1 := Lib.run_append_room_string (P := P) w t u ty e i ht hu hi hs1 g n cap cur hg s hroom (by omega)
   rw [e1] at hr
   injection hr with h1 _
   exact .inl (by rw [← h1]; rfl)
  ·have holds : ∀ j u, xs[j]? = some u → w.cell? ((⟨g, 0, none⟩ : Addr).add j) = some u := World.ownsRow.cells hown (g := g) rfl
   have e1 := Lib.run_append_grow_string (P := P) w t u ty e i (.int .u8 0) ht hu hi hz ⟨g, 0, none⟩ n cap xs (by rw [hs1]; simpa using hxl) holds s (by omega) (by omega) (by rw [hby]; exact growslice_fits (by omega) (by omega))
   rw [e1] at hr
   injection hr with h1 _
   exact .inr (by rw [← h1]; rfl)
theorem wpList_app_str {P : Program} {w : World} {ops : Array Oper} {rest : List Oper} {o : Oper} {a : Act} {Q : Exit → Act → World → Prop} (hgd : o.guard = none) (s x : Operand) (t u : TypeId)
  (ho : o.op = .call { callee := .builtin .append, args := #[s, x], argTypes := #[t, u] })
  (base : Nat) (e : TypeId) (hinfo : (P.info? e).map (fun i => (i.zero, i.size, i.bytes)) = some (some (.int .u8 0), 1, 1)) (ht : P.underlying t = some (.slice e)) (hu : P.underlying u = some .string)
  (v : Value) (xs : List UInt8) (hs : a.eval s = v) (hown : OwnB e w base v xs)
  (str : Lx.Txt) (hx : a.eval x = .string ⟨str.toArray⟩) (hb : xs.length + str.length ≤ 140737488355328) (hbase : base ≤ w.heap.size)
  (h : ∀ v' w', OwnB e w' base v' (xs ++ str) → w.grownBy w' v.ownBlock → (v'.ownBlock = v.ownBlock ∨ v'.ownBlock = some w.heap.size) → wpList P ops Q rest (a.put o.dst v') w') : wpList P ops Q (o :: rest) a w := by
 obtain ⟨i, hi, hz, hs1, hby⟩ := info_parts hinfo
 have e1 : (⟨str.toArray⟩ : ByteArray).size = str.length := by show str.toArray.size = _; simp
 obtain ⟨v', w', hr, h2, h3, _⟩ := Lib.run_append_own_string (P := P) w base t u o.type e i ht hu hi hz hs1 hby v xs.length (xs.map bv) hown ⟨str.toArray⟩ (by rw [e1]; simp only [maxLen]; omega) (by rw [e1]; exact hb) hbase
 refine wpList_plain hgd fun K hK => ?_
 unfold Oper.wp execOp
 simp only [ho, resolve, invoke, builtin, Sem.run_bind, Sem.run_pure, Result.andThen_ok, List.map_toArray, List.map_cons, List.map_nil, hs, hx, hr]
 refine hK _ _ (h v' w' ?_ h3 (app_str_blk base t u o.type e i ht hu hi hz hs1 hby v v' xs.length (xs.map bv) hown ⟨str.toArray⟩ (by rw [e1]; simp only [maxLen]; omega) (by rw [e1]; exact hb) hr))
 show w'.ownsRow base e 1 v' (xs ++ str).length ((xs ++ str).map bv)
 rw [List.length_append, List.map_append]
 rw [e1] at h2
 exact h2
def puts : List Lx.Txt → Ps.Wr → Ps.Wr
 | [], s => s
 | t :: l, s => puts l (Ps.put t s)
theorem puts_snoc (t : Lx.Txt) : ∀ (l : List Lx.Txt) (s : Ps.Wr), puts (l ++ [t]) s = Ps.put t (puts l s)
 | [], _ => rfl
 | a :: l, s => puts_snoc t l (Ps.put a s)
theorem puts_evs : ∀ (l : List Lx.Txt) (s : Ps.Wr), puts l s = Ps.evs (l.map Ps.Ev.t) s
 | [], _ => rfl
 | a :: l, s => puts_evs l (Ps.put a s)
theorem ReadsI.str {w : World} {S : Nat → Prop} {A : Option Addr} {l : List Lx.Txt} {k : Nat} {x : Lx.Txt} (h : ReadsI w S 1 A l.length (l.map sv)) (hx : l[k]? = some x) : ∃ b off, A = some ⟨b, off, none⟩ ∧ S b ∧ b < w.heap.size ∧ w.cell? ⟨b, off + k, none⟩ = some (.string ⟨x.toArray⟩) := by
 have hk := (List.getElem?_eq_some_iff.1 hx).1
 obtain ⟨b, off, e, hb, hl, hc⟩ := h.2 (by omega)
 exact ⟨b, off, e, hb, hl, hc k _ (by rw [List.getElem?_map, hx]; rfl)⟩
theorem txt_size (x : Lx.Txt) : (⟨x.toArray⟩ : ByteArray).size = x.length := by show x.toArray.size = _; simp
theorem WA.gone {w : World} {g base : Nat} {v : Value} {s : Ps.Wr} (h : WA w g base v s) (b : Bool) : WA (w.setCell ⟨g, 3, none⟩ (.bool b)) g base v { s with gone := b } :=
 ⟨h.blk.set_ 3 _, h.row.far h.blk (by decide) 3 _, h.lt, by have := h.le; simpa [World.setCell] using this, h.sz⟩
theorem WA.app {w w1 : World} {g base : Nat} {v v1 : Value} {s : Ps.Wr} {x : Lx.Txt} (h : WA w g base v s) (ho : OwnB 5 w1 base v1 (s.b ++ x)) (hg : w.grownBy w1 v.ownBlock) (hs : s.b.length + x.length ≤ 65536) : WA (w1.setCell ⟨g, 0, none⟩ v1) g base v1 { s with b := s.b ++ x } := by
 have hb : Blk w1 g 114 #[v, .int .i64 s.deep, .int .i64 s.most, .bool s.gone] := h.blk.grown hg (fun e => own_blk_ne h.row h.blk (by decide) e.symm)
 exact ⟨hb.set_ 0 _, ho.far hb (by decide) 0 _, h.lt, by have := h.le; have := hg.size; simp [World.setCell]; omega, by simp only [List.length_append]; exact hs⟩
theorem WP.gone {w w1 : World} {g base : Nat} {v v1 : Value} {s s1 : Ps.Wr} (hc : Chg (fun k => k = g ∨ v.ownBlock = some k) w w1) (hw : WA w1 g base v1 s) (hq : ∀ k, v1.ownBlock = some k → k < w.heap.size → v.ownBlock = some k) (b : Bool) (e : { s with gone := b } = s1) : WP g base v s1 w (w1.setCell ⟨g, 3, none⟩ (.bool b)) := by
 subst e
 exact ⟨hc.setCell (p := ⟨g, 3, none⟩) (fun _ => .inl rfl) _, v1, hw.gone b, hq⟩
theorem WP.app {w w1 w2 : World} {g base : Nat} {v v1 v2 : Value} {s : Ps.Wr} {x : Lx.Txt} (hc : Chg (fun k => k = g ∨ v.ownBlock = some k) w w1) (hw : WA w1 g base v1 s) (hq : ∀ k, v1.ownBlock = some k → k < w.heap.size → v.ownBlock = some k)
  (ho : OwnB 5 w2 base v2 (s.b ++ x)) (hg : w1.grownBy w2 v1.ownBlock) (h4 : v2.ownBlock = v1.ownBlock ∨ v2.ownBlock = some w1.heap.size) (hs : s.b.length + x.length ≤ 65536) : WP g base v { s with b := s.b ++ x } w (w2.setCell ⟨g, 0, none⟩ v2) := by
 refine ⟨(hc.trans (Chg.of_grown hg (F := fun k => v1.ownBlock = some k) fun k e => e) fun i hi e => .inr (hq i e hi)).setCell (p := ⟨g, 0, none⟩) (fun _ => .inl rfl) _, v2, hw.app ho hg hs, fun k e hk => ?_⟩
 rcases h4 with h4 | h4
 ·exact hq k (h4 ▸ e) hk
 ·have h5 := hc.size
  rw [h4] at e
  have := Option.some.inj e
  omega
def PutL (w : World) (g base : Nat) (v : Value) (s : Ps.Wr) (ts : List Lx.Txt) (i : Value) (wr : World) : Prop := ∃ k : Nat, k ≤ ts.length ∧ i = .int .i64 k ∧ WP g base v (puts (ts.take k) s) w wr
set_option maxRecDepth 20000 in
theorem wput_any {w : World} {g base n c : Nat} {v : Value} {s : Ps.Wr} {S : Nat → Prop} {A : Option Addr} {ts : List Lx.Txt} (hw : WA w g base v s) (hr : ReadsI w S 1 A ts.length (ts.map sv)) (hS : ∀ k, S k → k ≠ g ∧ v.ownBlock ≠ some k) (hsz : ∀ t ∈ ts, t.length ≤ 140737488355328) (hn : ts.length = n) (hl : n ≤ 1000000000) :
  Calls Tryz.prog 66 #[.pointer (some ⟨g, 0, none⟩), .slice A n c] w fun e w' => e = .returned (.tuple #[]) ∧ WP g base v (puts ts s) w w' := by
 have HR := Hd hr
 have HW := Hd hw
 have HS := Hd hS
 have HN := Hd hn
 clear hr hn hS
 go_enter Tryz.func66, Tryz.ntmps66
 go_wp2
 go_loopw [8] (fun i wr => PutL w g base v s ts i wr) (fun i _ => n - (intOf i).toNat)
 case atStart => exact ⟨0, Nat.zero_le _, rfl, WP.refl hw⟩
 case round =>
  obtain ⟨k, hk, rfl, hp⟩ := hrel
  have HP := Hd hp
  obtain ⟨hc, v1, hw1, hq⟩ := hp
  have HC := Hd hc
  have HW1 := Hd hw1
  have HQ := Hd hq
  rw [HN.out] at hk
  by_cases hlt : k < n
  ·have hx := List.getElem?_eq_getElem (l := ts) (i := k) (by rw [HN.out]; exact hlt)
   have hxm : ts[k]'(by rw [HN.out]; exact hlt) ∈ ts := List.getElem_mem _
   generalize ts[k]'(by rw [HN.out]; exact hlt) = x at hx hxm
   have hxl := hsz x hxm
   have hr2 : ReadsI wr S 1 A ts.length (ts.map sv) := HR.out.keep hc.size fun q hq2 hl2 => hc.block q hl2 fun e => by
    rcases e with e | e
    ·exact (HS.out q hq2).1 e
    ·exact (HS.out q hq2).2 e
   obtain ⟨b, off, rfl, hSb, hb, hcell⟩ := hr2.str hx
   have HST : Hid (puts (ts.take (k + 1)) s = Ps.put x (puts (ts.take k) s)) := Hd (by rw [List.take_succ_eq_append_getElem (by rw [HN.out]; exact hlt), ← puts_snoc]; congr 2; rw [List.getElem?_eq_getElem (by rw [HN.out]; exact hlt)] at hx; exact congrArg (· :: []) (Option.some.inj hx))
   clear hx hxm hr2 hc hw1 hq
   generalize puts (ts.take k) s = st at *
   obtain ⟨bb, dp, mo, go⟩ := st
   have c0 := HW1.out.blk.cell 0
   have c3 := HW1.out.blk.cell 3
   have f0 := HW1.out.blk.frozen 0
   have f3 := HW1.out.blk.frozen 3
   obtain ⟨VA, vc, hv1, hvl, _⟩ := HW1.out.row.form
   have hbl : bb.length ≤ 65536 := HW1.out.sz
   have l1 : (0 : Int) ≤ (k : Int) := by omega
   have l2 : (k : Int) < (n : Int) := by omega
   have hxs : (⟨x.toArray⟩ : ByteArray).size = x.length := txt_size x
   by_cases h1 : 65536 < bb.length + x.length
   ·have d1 : (65536 : Int) < (bb.length : Int) + (x.length : Int) := by omega
    have HE : Hid (Ps.put x ⟨bb, dp, mo, go⟩ = ⟨bb, dp, mo, true⟩) := Hd (by unfold Ps.put; simp [h1])
    go_wp2
    exact ⟨⟨k + 1, by rw [HN.out]; omega, rfl, WP.gone HC.out HW1.out HQ.out true (by rw [HST.out, HE.out])⟩, by simp [intOf]; omega⟩
   ·have d1 : ¬ (65536 : Int) < (bb.length : Int) + (x.length : Int) := by omega
    cases go with
    | true =>
     have HE : Hid (Ps.put x ⟨bb, dp, mo, true⟩ = ⟨bb, dp, mo, true⟩) := Hd (by unfold Ps.put; simp)
     go_wp2
     exact ⟨⟨k + 1, by rw [HN.out]; omega, rfl, by rw [HST.out, HE.out]; exact HP.out⟩, by simp [intOf]; omega⟩
    | false =>
     have HE : Hid (Ps.put x ⟨bb, dp, mo, false⟩ = ⟨bb ++ x, dp, mo, false⟩) := Hd (by unfold Ps.put; simp [h1])
     subst hv1
     go_wp2_with (at_builtin; refine wpList_app_str rfl (.tmp 33) (.tmp 34) 47 9 rfl base 5 info5w Tryz.underlying47 Tryz.underlying9 (.slice VA bb.length vc) bb rfl HW1.out.row x rfl (by omega) HW1.out.le ?_; intro v2 w2 hown hgr h4; obtain ⟨A2, cc2, rfl, _, _⟩ := OwnB.form hown; have HO := Hd hown; have HG := Hd hgr; have H4 := Hd h4; have f0 := (HW1.out.blk.grown hgr (fun e => own_blk_ne HW1.out.row HW1.out.blk (by decide) e.symm)).frozen 0; have c0 := (HW1.out.blk.grown hgr (fun e => own_blk_ne HW1.out.row HW1.out.blk (by decide) e.symm)).cell 0; clear hown hgr h4)
     exact ⟨⟨k + 1, by rw [HN.out]; omega, rfl, by rw [HST.out, HE.out]; exact WP.app HC.out HW1.out HQ.out (by have h := HO.out; simpa only [List.length_append] using h) HG.out (by have h := H4.out; simpa only [List.length_append] using h) (by show bb.length + x.length ≤ 65536; omega)⟩, by simp [intOf]; omega⟩
  ·have hkn : k = n := by omega
   have HE : Hid (ts.take k = ts) := Hd (by rw [List.take_of_length_le (by rw [HN.out]; omega)])
   go_wp2
   go_end0
   exact ⟨rfl, by have := HP.out; rw [HE.out] at this; exact this⟩
theorem built_reads {w : World} (t : TypeId) (ts : List Lx.Txt) : ReadsI (w.alloc (.cells (ts.map sv).toArray t)) (fun k => k = w.heap.size) 1 (some ⟨w.heap.size, 0, none⟩) ts.length (ts.map sv) := by
 refine ⟨by simp, fun _ => ⟨w.heap.size, 0, rfl, rfl, by simp, fun j u hu => ?_⟩⟩
 have h := (Blk.new w t (ts.map sv).toArray).cell j
 rw [Nat.zero_add, h]
 simpa using hu
theorem wput_new {w : World} {g base : Nat} {v : Value} {s : Ps.Wr} (ts : List Lx.Txt) (hw : WA w g base v s) (hsz : ∀ t ∈ ts, t.length ≤ 140737488355328) (hl : ts.length ≤ 1000) :
  Calls Tryz.prog 66 #[.pointer (some ⟨g, 0, none⟩), .slice (some ⟨w.heap.size, 0, none⟩) ts.length ts.length] (w.alloc (.cells (ts.map sv).toArray 9)) fun e w' => e = .returned (.tuple #[]) ∧ WP g base v (Ps.evs (ts.map Ps.Ev.t) s) w w' := by
 have hb := (Below.refl w.heap.size w).alloc (Nat.le_refl _) (.cells (ts.map sv).toArray 9)
 refine (wput_any (hw.below hb) (built_reads 9 ts) (fun k e => ⟨fun e2 => ?_, fun e2 => ?_⟩) hsz rfl (by omega)).mono fun e w' h => ⟨h.1, ?_⟩
 ·have := hw.blk.lt; omega
 ·have := (World.ownsRow.lt hw.row k e2).2; omega
 ·rw [← puts_evs]
  exact WP.from hb h.2
theorem WA.deep {w : World} {g base : Nat} {v : Value} {s : Ps.Wr} (h : WA w g base v s) (d : Int) : WA (w.setCell ⟨g, 1, none⟩ (.int .i64 d)) g base v { s with deep := d } :=
 ⟨h.blk.set_ 1 _, h.row.far h.blk (by decide) 1 _, h.lt, by have := h.le; simpa [World.setCell] using this, h.sz⟩
theorem WA.most {w : World} {g base : Nat} {v : Value} {s : Ps.Wr} (h : WA w g base v s) (d : Int) : WA (w.setCell ⟨g, 2, none⟩ (.int .i64 d)) g base v { s with most := d } :=
 ⟨h.blk.set_ 2 _, h.row.far h.blk (by decide) 2 _, h.lt, by have := h.le; simpa [World.setCell] using this, h.sz⟩
theorem WP.set {w w1 w2 : World} {g base : Nat} {v : Value} {s' : Ps.Wr} (hc : Chg (· = g) w w1) (h : WP g base v s' w1 w2) : WP g base v s' w w2 := by
 obtain ⟨h1, v1, h2, h3⟩ := h
 exact ⟨(hc.mono (G := fun k => k = g ∨ v.ownBlock = some k) fun _ _ e => .inl e).trans h1 (fun _ _ e => e), v1, h2, fun k e hk => h3 k e (Nat.lt_of_lt_of_le hk hc.size)⟩
set_option maxRecDepth 20000 in
theorem wclose_any {w : World} {g base : Nat} {v : Value} {s : Ps.Wr} (x : Lx.Txt) (hw : WA w g base v s) (hx : x.length ≤ 140737488355328) :
  Calls Tryz.prog 200 #[.pointer (some ⟨g, 0, none⟩), .string ⟨x.toArray⟩] w fun e w' => e = .returned (.tuple #[]) ∧ WP g base v (Ps.ev (.c x) s) w w' := by
 have c1 := hw.blk.cell 1
 have f1 := hw.blk.frozen 1
 have hg := hw.blk.lt
 have HW2 := Hd (hw.deep (wrap64 (s.deep - 1)))
 have HC := Hd (chg_set w g 1 (.int .i64 (wrap64 (s.deep - 1))))
 have HK := Hd (wput_new [x] HW2.out (by simpa using hx) (by simp))
 generalize hw2 : w.setCell ⟨g, 1, none⟩ (.int .i64 (wrap64 (s.deep - 1))) = w2 at *
 go_enter Tryz.func200, Tryz.ntmps200
 go_upto_region 1 with fail
 clear hw2 c1 f1 hg hw
 go_wp2_with (go_at_call 66; refine HK.out.mono ?_; rintro e w5 ⟨rfl, hp⟩; have HP := Hd hp; clear hp)
 go_end0
 exact ⟨rfl, WP.set HC.out HP.out⟩
set_option maxRecDepth 20000 in
theorem wopen_any {w : World} {g base : Nat} {v : Value} {s : Ps.Wr} (x : Lx.Txt) (hw : WA w g base v s) (hx : x.length ≤ 140737488355328) :
  Calls Tryz.prog 199 #[.pointer (some ⟨g, 0, none⟩), .string ⟨x.toArray⟩] w fun e w' => e = .returned (.tuple #[]) ∧ WP g base v (Ps.ev (.o x) s) w w' := by
 have c1 := hw.blk.cell 1
 have f1 := hw.blk.frozen 1
 have hg := hw.blk.lt
 have HW1 := Hd (hw.deep (wrap64 (s.deep + 1)))
 have HC1 := Hd (chg_set w g 1 (.int .i64 (wrap64 (s.deep + 1))))
 generalize hw1 : w.setCell ⟨g, 1, none⟩ (.int .i64 (wrap64 (s.deep + 1))) = w1 at *
 go_enter Tryz.func199, Tryz.ntmps199
 go_upto_region 1 with fail
 clear hw1 c1 f1 hg hw
 have c1 := HW1.out.blk.cell 1
 have c2 := HW1.out.blk.cell 2
 have f2 := HW1.out.blk.frozen 2
 have hg := HW1.out.blk.lt
 have HW2 := Hd (HW1.out.most (max s.most (wrap64 (s.deep + 1))))
 have HC2 := Hd (chg_set w1 g 2 (.int .i64 (max s.most (wrap64 (s.deep + 1)))))
 refine wp_region_x (s := 12) (S := fun W => W.cell? ⟨g, 1, none⟩ = some (.int .i64 (wrap64 (s.deep + 1))) ∧ W.cell? ⟨g, 2, none⟩ = some (.int .i64 s.most) ∧ g < W.heap.size ∧ W.frozen? ⟨g, 2, none⟩ = false) (by kernel_rfl) ⟨c1, c2, hg, f2⟩ (fun hHeld => ?_)
 refine xt (i := 0) ?_
 refine xt (i := 1) ?_
 refine xt (i := 2) ?_
 refine xt (i := 3) ?_
 refine xt (i := 4) ?_
 refine xt (i := 5) ?_
 refine xt (i := 6) ?_
 refine xt (i := 7) ?_
 refine xt (i := 8) ?_
 refine x1 (i := 9) (fun K2 hK2 => ?_)
 go_simp
 try rw [show (if s.most < wrap64 (s.deep + 1) then wrap64 (s.deep + 1) else s.most) = max s.most (wrap64 (s.deep + 1)) by simp only [Int.max_def]; split <;> split <;> omega]
 generalize hmx : max s.most (wrap64 (s.deep + 1)) = m at *
 refine hK2.out _ _ (by assumption) (fun hHeld => ?_)
 clear hK2 K2
 refine x1 (i := 10) (fun K2 hK2 => ?_)
 go_simp
 refine hK2.out _ _ (by assumption) (fun hHeld => ?_)
 clear hK2 K2
 refine x1 (i := 11) (fun K2 hK2 => ?_)
 go_simp
 refine hK2.out _ _ (by assumption) (fun hHeld => ?_)
 clear hK2 K2
 try simp only [Act.put, List.setIfInBounds_toArray, List.set_cons_zero, List.set_cons_succ]
 refine xl (fun K2 hK2 => ?_)
 go_simp
 refine hK2.out _ _ ?_
 clear hK2 K2
 try simp only [Act.put, List.setIfInBounds_toArray, List.set_cons_zero, List.set_cons_succ]
 refine wpAnyX_done (by kernel_rfl) ?_ _
 have HW3 := Hd (HW2.out.below (Below.refl _ _).drew)
 have HE : Hid (Ps.ev (.o x) s = Ps.put x ⟨s.b, wrap64 (s.deep + 1), m, s.gone⟩) := Hd (by rw [← hmx]; rfl)
 have HCC := Hd ((HC1.out.trans HC2.out (fun _ _ e => e)).drew)
 clear c1 c2 f2 hg HW1 HW2 HC2 HC1 hmx
 generalize (w1.setCell ⟨g, 2, none⟩ (.int .i64 m)).drew = w3 at *
 have HK := Hd (wput_new [x] HW3.out (by simpa using hx) (by simp))
 go_wp2_with (go_at_call 66; refine HK.out.mono ?_; rintro e w5 ⟨rfl, hp⟩; have HP := Hd hp; clear hp)
 go_end0
 exact ⟨rfl, by rw [HE.out]; exact WP.set HCC.out HP.out⟩
end Go.Proofs.YtjhonaglmgmpiaaGreatDoor
