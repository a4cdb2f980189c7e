/-
  Parts PxN, PsU, PxP of the proof. No statement of the seat is proved here.
-/
import Derived.Test.YtjhonaglmgmpiaaGreatDoorP18
import Derived.Test.YtjhonaglmgmpiaaGreatDoorP04
import Derived.Test.YtjhonaglmgmpiaaGreatDoorP17
set_option maxHeartbeats 4000000
namespace Go.Proofs.YtjhonaglmgmpiaaGreatDoor
open Go.RowKit
def Exit.jumps (J : Nat → Act → World → Prop) (Q : Exit → Act → World → Prop) : Exit → Act → World → Prop
 | .goto l, a, w => J l a w
 | e, a, w => Q e a w
section
variable {P : Program} {a : Act} {w : World} {Q : Exit → Act → World → Prop}
theorem wp_scope_lg {c : Code} (J : Nat → Nat → Act → World → Prop)
  (pass : ∀ l n a w, J l n a w → ∃ rest, findLabel c l = some (Code.skip.seq rest) ∧ rest.wp P (Exit.jumps (fun l' a' w' => ∃ m, m < n ∧ J l' m a' w') Q) a w)
  (first : (∀ l n a w rest, J l n a w → findLabel c l = some (Code.skip.seq rest) → rest.wp P (Exit.jumps (fun l' a' w' => ∃ m, J l' m a' w') Q) a w) → c.wp P (Exit.jumps (fun l a w => ∃ n, J l n a w) Q) a w) : (Code.scope c).wp P Q a w := by
 have hfirst := first fun l n a w rest h hf => by
  obtain ⟨rest', hf', hp⟩ := pass l n a w h
  rw [hf] at hf'
  injection hf' with hf'
  injection hf' with _ hf'
  subst hf'
  refine Code.wp_mono (fun e a w he => ?_) hp
  cases e with
  | goto l' => obtain ⟨m, _, hJ⟩ := he; exact ⟨m, hJ⟩
  | normal => exact he
  | exit id => exact he
  | ret => exact he
  | panic ch => exact he
  | outgrown => exact he
 intro b k cs
 have key : ∀ n l a w rest, findLabel c l = some (Code.skip.seq rest) → J l n a w → ∃ e a' w', Q e a' w' ∧ Arrives P (lone (b.at a (.code (Code.skip.seq rest) :: .inScope c :: k)) cs w) b k cs e a' w' := by
  intro n
  induction n using Nat.strongRecOn with
  | _ n ih =>
   intro l a w rest hf hJ
   obtain ⟨rest', hf', hp0⟩ := pass l n a w hJ
   rw [hf] at hf'
   injection hf' with hf'
   injection hf' with _ hf'
   subst hf'
   have hp := wp_seq (wp_skip hp0)
   obtain ⟨e, a₁, w₁, hq, harr⟩ := hp b (.inScope c :: k) cs
   cases e with
   | normal => exact ⟨.normal, a₁, w₁, hq, Steps.trans harr (.one step_inScope)⟩
   | exit id => exact ⟨.exit id, a₁, w₁, hq, fun k' hk => harr k' (by simp [exitTo, hk])⟩
   | goto l' =>
    obtain ⟨m, hlt, hJ'⟩ := hq
    obtain ⟨rest2, hf2, _⟩ := pass l' m a₁ w₁ hJ'
    have hg : gotoIn l' (.inScope c :: k) = some (.code (Code.skip.seq rest2) :: .inScope c :: k) := by simp [gotoIn, hf2]
    obtain ⟨e₂, a₂, w₂, hq₂, harr₂⟩ := ih m hlt l' a₁ w₁ rest2 hf2 hJ'
    exact ⟨e₂, a₂, w₂, hq₂, .of_steps (harr _ hg) harr₂⟩
   | ret => exact ⟨_, a₁, w₁, hq, harr⟩
   | panic ch => exact ⟨_, a₁, w₁, hq, harr⟩
   | outgrown => exact ⟨_, a₁, w₁, hq, harr⟩
 obtain ⟨e, a₁, w₁, hq, harr⟩ := hfirst b (.inScope c :: k) cs
 cases e with
 | normal => exact ⟨.normal, a₁, w₁, hq, .head step_scope (Steps.trans harr (.one step_inScope))⟩
 | exit id => exact ⟨.exit id, a₁, w₁, hq, fun k' hk => .head step_scope (harr k' (by simp [exitTo, hk]))⟩
 | goto l' =>
  obtain ⟨n, hJ⟩ := hq
  obtain ⟨rest2, hf2, _⟩ := pass l' n a₁ w₁ hJ
  have hg : gotoIn l' (.inScope c :: k) = some (.code (Code.skip.seq rest2) :: .inScope c :: k) := by simp [gotoIn, hf2]
  obtain ⟨e₂, a₂, w₂, hq₂, harr₂⟩ := key n l' a₁ w₁ rest2 hf2 hJ
  exact ⟨e₂, a₂, w₂, hq₂, .of_steps (.head step_scope (harr _ hg)) harr₂⟩
 | ret => exact ⟨_, a₁, w₁, hq, .of_steps (.one step_scope) harr⟩
 | panic ch => exact ⟨_, a₁, w₁, hq, .of_steps (.one step_scope) harr⟩
 | outgrown => exact ⟨_, a₁, w₁, hq, .of_steps (.one step_scope) harr⟩
end
structure StS (w : World) (g : Nat) (A : Option Addr) (c : Nat) (T : List Lx.Tk) (fin : Nat) (s' : Ps.PS) (l : List Ps.Tr) (v : Value) (wr : World) : Prop where
 env : Env w g A c T fin s' [] wr
 row : TsM wr w.heap.size (fun _ => False) v l
 bd : Bd T s'
section
variable {w wr w1 : World} {g c fin : Nat} {A : Option Addr} {T : List Lx.Tk} {s' s1 : Ps.PS} {l : List Ps.Tr} {v : Value}
theorem StS.below (h : StS w g A c T fin s' l v wr) (hb : Below wr.heap.size wr w1) : StS w g A c T fin s' l v w1 := ⟨h.env.below hb, h.row.below hb, h.bd⟩
theorem StS.call (h : StS w g A c T fin s' l v wr) (hp : PP wr g A c T fin s1 w1) (hb : Bd T s1) : StS w g A c T fin s1 l v w1 := ⟨h.env.call hp, h.row.call hp.1 h.env.gl, hb⟩
theorem StS.rows (h : StS w g A c T fin s' l v wr) : ∀ k, v.ownBlock = some k → k < wr.heap.size := by
 obtain ⟨css, _, h2, _⟩ := h.row
 exact fun k hk => (h2.lt k hk).2
theorem StS.push {lo : Nat} {cs : List Value} {t : Ps.Tr} (h : StS w g A c T fin s' l v wr) (ht : TrM wr lo (fun _ => False) cs t) (hbl : w.heap.size ≤ lo) (hlo : ∀ k, v.ownBlock = some k → k < lo) :
  ∃ css : List (List Value), css.length = l.length ∧ wr.ownsRow w.heap.size 27 7 v l.length css.flatten ∧ ∀ (o : Obj) (v' : Value) (w6 : World), w6.ownsRow w.heap.size 27 7 v' (l.length + 1) (css.flatten ++ cs) → (wr.alloc o).grownBy w6 v.ownBlock → (v'.ownBlock = v.ownBlock ∨ v'.ownBlock = some (wr.heap.size + 1)) →
   StS w g A c T fin s' (l ++ [t]) v' w6 := by
 obtain ⟨css, k1, k2, k4, k3⟩ := h.row
 refine ⟨css, k1, k2, fun o v' w6 ho hg hv => ?_⟩
 have hgr : wr.grownBy w6 v.ownBlock := by
  have a : wr.grownBy (wr.alloc o) v.ownBlock := only_alloc (World.grownBy.refl wr _) o
  exact ⟨hg.os.trans a.os, hg.tape.trans a.tape, hg.output.trans a.output, Nat.le_trans a.size hg.size, fun i hi hn => (hg.block i (Nat.lt_of_lt_of_le hi a.size) hn).trans (a.block i hi hn)⟩
 refine ⟨h.env.row (v := v) (Chg.of_grown hgr (F := fun k => k = g ∨ v.ownBlock = some k) fun k e => .inr e) (h.env.pa.grown k2 (by decide) h.env.gl hgr) fun k hk => ⟨(k2.lt k hk).1, fun i x hx => by simp at hx⟩, ?_, h.bd⟩
 exact TsM.snoc (X := fun _ => False) k1 k4 k3 (fun e => e) (TrIn.more ht fun k hk _ => ⟨Nat.le_trans hbl hk.1, hk.2.1, fun e => e, fun e => by have := hlo k e.symm; have := hk.1; omega⟩) ho hg hv
end
def frameS (g : Nat) (m : Lx.Txt) (v : Value) (us : Nat → Value) : Act := ⟨#[.pointer (some ⟨g, 0, none⟩), .string ⟨m.toArray⟩, us 2, us 3, .slice none 0 0, v, us 6, us 7, us 8, us 9, us 10, us 11, us 12, us 13, us 14, us 15, us 16, us 17, us 18, us 19, us 20, us 21, us 22, us 23, us 24, us 25, us 26, us 27, us 28, us 29, us 30, us 31, us 32, us 33, us 34, us 35, us 36, us 37, us 38, us 39, us 40, us 41, us 42, us 43, us 44, us 45, us 46, us 47, us 48, us 49, us 50, us 51, us 52, us 53, us 54, us 55, us 56, us 57, us 58, us 59, us 60, us 61, us 62, us 63, us 64, us 65, us 66], []⟩
theorem frameS_ex {g : Nat} {m : Lx.Txt} {v : Value} {a : Act} (h : a = frameS g m v fun i => a.tmps.getD i undef) : ∃ us, a = frameS g m v us := ⟨_, h⟩
def StJ (w : World) (g : Nat) (A : Option Addr) (c : Nat) (T : List Lx.Tk) (fin F : Nat) (m : Lx.Txt) (R : List Ps.Tr × Ps.PS) (lb n : Nat) (a : Act) (wr : World) : Prop :=
 ∃ (s' : Ps.PS) (l : List Ps.Tr) (v : Value), (∃ us, a = frameS g m v us) ∧ StS w g A c T fin s' l v wr ∧
  ((lb = 0 ∧ n ≤ F ∧ Ps.rem T s' + 9 ≤ n ∧ l.length ≤ s'.at_ ∧ Ps.stL T fin n m l s' = R) ∨ (lb = 1 ∧ n = 0 ∧ R = (l, if Ps.ok s' && !Ps.closed T fin m s' then Ps.odd T fin s' else s')))
set_option maxRecDepth 100000 in
set_option maxHeartbeats 8000000 in
theorem pstat_any {g c fin F : Nat} {A : Option Addr} {T : List Lx.Tk} (hT : Ps.Fits 65536 T) (ih : ∀ f, f < F → WAll g A c T fin f) (m : Lx.Txt) (s : Ps.PS) (w : World) (h : PA w g A c T fin s) (hb : Bd T s) (hf : Ps.rem T s + 9 ≤ F) :
  Calls Tryz.prog 36 #[.pointer (some ⟨g, 0, none⟩), .string ⟨m.toArray⟩] w (TsP w g A c T fin (Ps.stL T fin F m [] s)) := by
 have hTl := hT.len
 have HS0 : Hid (StS w g A c T fin s [] (.slice none 0 0) w) := Hd ⟨Env.start h, TsM.nil _ _ _, hb⟩
 obtain ⟨R, hR⟩ : ∃ R, Ps.stL T fin F m [] s = R := ⟨_, rfl⟩
 rw [hR]
 have HR := Hd hR
 have IH := Hd ih
 clear h hb ih hR
 go_enter Tryz.func36, Tryz.ntmps36
 go_wp2_with fail
 refine wp_scope_lg (StJ w g A c T fin F m R) ?pass ?first
 case first =>
  intro hrest
  have HRS := Hd hrest
  clear hrest
  go_wp2_with fail
  go_step3
  dsimp only [Exit.then]
  rename_i K2 hK2
  refine hK2 _ _ ?_
  exact HRS.out 0 F _ _ _ ⟨s, [], _, frameS_ex rfl, HS0.out, .inl ⟨rfl, Nat.le_refl _, hf, by simp, HR.out⟩⟩ rfl
 case pass =>
  rintro lb n a wr ⟨s', l, v, ⟨us, rfl⟩, hS, hlb⟩
  have HS := Hd hS
  have hg := hS.env.pa.lt
  clear HS0 hS
  rcases hlb with ⟨rfl, hn, hrm, hll, hR⟩ | ⟨rfl, rfl, hR⟩
  ·refine ⟨_, rfl, ?_⟩
   unfold frameS
   obtain ⟨f, rfl⟩ : ∃ f, n = f + 1 := ⟨n - 1, by omega⟩
   have HR2 := Hd hR
   obtain ⟨i0, hi, hz0, hz1, hz2⟩ := info_parts info26
   have hat := HS.out.bd.at_
   have hzw := HS.out.env.size
   obtain ⟨Av, cv, rfl, -, -⟩ := HS.out.row.form
   clear hR HR
   cases hk : Ps.ok s' with
   | false =>
    have HRE : Hid (R = (l, s')) := Hd (by rw [← HR2.out, Ps.stL, if_pos (by rw [hk]; rfl)])
    obtain ⟨kq, k4⟩ := HS.out.env.pa.noc hk
    clear hk
    go_wp2
    (try simp only [Exit.jumps]); go_ret
    rw [HRE.out]
    exact ⟨_, rfl, HS.out.env.pp, HS.out.bd, HS.out.row⟩
   | true =>
   have k4 := HS.out.env.pa.okc hk
   have HC := Hd (pclosed_any HS.out.env.pa m)
   cases hc : Ps.closed T fin m s' with
   | true =>
    have HRE : Hid (R = (l, s')) := Hd (by rw [← HR2.out, Ps.stL, if_pos (by rw [hk, hc]; rfl)])
    rw [hc] at HC
    clear hk hc
    go_wp2_with (go_at_call 76; refine HC.out.mono ?_; rintro e w1 ⟨rfl, hb⟩; have HS1 := Hd (HS.out.below hb); clear hb)
    (try simp only [Exit.jumps]); go_ret
    rw [HRE.out]
    exact ⟨_, rfl, HS1.out.env.pp, HS1.out.bd, HS1.out.row⟩
   | false =>
   rw [hc] at HC
   have HI94 := Hd fun (W : World) (h : PA W g A c T fin s') => pis_any h [94]
   cases hi94 : Ps.is_ T fin s' [94] with
   | true =>
    rw [hi94] at HI94
    have hlt := Ps.mark_lt (fin := fin) hi94
    obtain ⟨t, ht⟩ : ∃ t, Ps.nx T fin s' = t := ⟨_, rfl⟩
    obtain ⟨pe, hpe⟩ : ∃ x, Ps.expr T fin f (Ps.adv s') = x := ⟨_, rfl⟩
    have hra := Ps.rem_adv (T := T) (s := s') (s' := Ps.adv s') (Nat.lt_succ_self _) hlt
    obtain ⟨s2, hs2⟩ : ∃ x, (if Ps.is_ T fin pe.2 [46] then Ps.adv pe.2 else pe.2) = x := ⟨_, rfl⟩
    have HRE : Hid (R = (l ++ [Ps.nd 3 [] [pe.1] t.2.2], if Ps.ok s2 && !Ps.closed T fin m s2 then Ps.odd T fin s2 else s2)) := Hd (by rw [← HR2.out, Ps.stL, if_neg (by rw [hk, hc]; decide), if_pos hi94, hpe, ht]; dsimp only; rw [hs2])
    have HTK := Hd fun (W : World) (h : PA W g A c T fin s') => ptake_any h (by omega)
    rw [ht] at HTK
    have HBA := Hd (HS.out.bd.adv hlt)
    have HEX := Hd fun (W : World) (h : PA W g A c T fin (Ps.adv s')) => (IH.out f (by omega)).expr (Ps.adv s') W h HBA.out (by omega)
    rw [hpe] at HEX
    have HS2E := Hd hs2
    have hf2 := fld2 (.int .i64 (t.1 : Int)) (.string ⟨t.2.1.toArray⟩) (.int .i64 (t.2.2 : Int))
    have hple : s'.at_ ≤ pe.2.at_ := by rw [← hpe]; exact Nat.le_trans (Nat.le_succ _) ((Ps.leAll T fin f).expr (Ps.adv s')).at_
    clear hk hc hi94 ht hpe hs2
    go_upto_region 7 with (first
     | (go_at_call 76; refine HC.out.mono ?_; rintro e w1 ⟨rfl, hb⟩; have HS1 := Hd (HS.out.below hb); clear hb)
     | (go_at_call 75; refine (HI94.out _ HS1.out.env.pa).mono ?_; rintro e w2 ⟨rfl, hb⟩; have HS2 := Hd (HS1.out.below hb); clear hb)
     | (go_at_call 29; refine (HTK.out _ HS2.out.env.pa).mono ?_; rintro e w3 ⟨rfl, hp⟩; have HS3 := Hd (HS2.out.call hp HBA.out); have hr3 := HS3.out.rows; have hz3 := HS3.out.env.size; clear hp)
     | (go_at_call 77; refine (HEX.out _ HS3.out.env.pa).mono ?_; rintro e w5 ⟨cs5, rfl, hp5, hb5, ht5⟩; have hz5 := hp5.1.size; have HS5 := Hd (HS3.out.call hp5 hb5); have HT5 := Hd ht5; obtain ⟨p0, p1, C1, o1, e1, C2, o2, e2, C3, o3, e3, p5, p6, rfl⟩ := ht5.form; clear hp5 hb5 ht5))
    refine wp_world (fun W => StS w g A c T fin pe.2 l _ W ∧ Blk W w5.heap.size 27 _ ∧ TrM W w3.heap.size (fun _ => False) _ pe.1) ⟨HS5.out.below (new_below _ _), Blk.new _ _ _, HT5.out.below (new_below _ _)⟩ fun w6 h6 => ?_
    have HS6 := Hd h6.1
    have HK6 := Hd h6.2.1
    have HT6 := Hd h6.2.2
    clear h6 HS5 HT5 HS3 HS2 HS1 HS HC HI94 HTK HEX k4
    have y := HK6.out.lt
    have y0 := HK6.out.cell 0
    have y1 := HK6.out.cell 1
    have y2 := HK6.out.cell 2
    have y3 := HK6.out.cell 3
    have y4 := HK6.out.cell 4
    have y5 := HK6.out.cell 5
    have y6 := HK6.out.cell 6
    have hx6 : w3.heap.size ≤ w6.heap.size := by omega
    have h1 := TsM.one HT6.out hx6 (fun e => e)
    have h2 := TrM.nd (l := [pe.1]) 3 [] t.2.2 h1
    obtain ⟨css, hcl, hown, hpush⟩ := (HS6.out.below (new_below w6 (.cells #[.int .i64 (p0 : Int), .string ⟨p1.toArray⟩, .slice C1 o1 e1, .slice C2 o2 e2, .slice C3 o3 e3, .int .i64 (p5 : Int), .int .i64 (p6 : Int)] 27))).push h2 hz3 hr3
    have HOWN := Hd hown
    have HPUSH := Hd hpush
    have hsz : (w6.alloc (.cells #[.int .i64 (p0 : Int), .string ⟨p1.toArray⟩, .slice C1 o1 e1, .slice C2 o2 e2, .slice C3 o3 e3, .int .i64 (p5 : Int), .int .i64 (p6 : Int)] 27)).heap.size = w6.heap.size + 1 := by simp
    have hrd := Reads.builtN (w6.alloc (.cells #[.int .i64 (p0 : Int), .string ⟨p1.toArray⟩, .slice C1 o1 e1, .slice C2 o2 e2, .slice C3 o3 e3, .int .i64 (p5 : Int), .int .i64 (p6 : Int)] 27)) 27 [.int .i64 3, .string ⟨#[]⟩, .slice none 0 0, .slice none 0 0, .slice (some ⟨w6.heap.size, 0, none⟩) 1 1, .int .i64 0, .int .i64 (t.2.2 : Int)] 1 7 rfl
    rw [hsz] at hrd
    have HRD := Hd hrd
    clear hown hpush hcl h1 h2 hrd hsz
    go_upto_region 8 with (at_builtin; refine wpList_append_any _ rfl (.tmp 26) (.tmp 31) 25 rfl w.heap.size 27 i0 _ 7 112 Tryz.underlying25 hi hz0 hz1 hz2 rfl (by decide) (.slice Av l.length cv) l.length css.flatten (by rfl) (World.ownsRow.alloc HOWN.out _) ((w6.heap.size + 1) + 1) (some ⟨(w6.heap.size + 1), 0, none⟩) 1 1 _ (by rfl) (HRD.out) (by intro u hu; simp only [List.mem_cons, List.not_mem_nil, or_false] at hu; rcases hu with rfl | rfl | rfl | rfl | rfl | rfl | rfl <;> rfl) (by simp only [maxLen]; omega) (by omega) (by simp; omega) ?_; intro v6 wb hown6 hgrow6 hv6; have HST := Hd (HPUSH.out _ _ _ hown6 hgrow6 (by simpa using hv6)); obtain ⟨A6, c6, rfl, _, _⟩ := own_form hown6; clear hown6 hgrow6 hv6)
    clear y y0 y1 y2 y3 y4 y5 y6 HOWN HPUSH HRD HK6 HT6 HS6
    have HI46 := Hd (pis_any HST.out.env.pa [46])
    cases hi46 : Ps.is_ T fin pe.2 [46] with
    | true =>
     rw [hi46] at HI46
     have hlt2 := Ps.mark_lt (fin := fin) hi46
     have HS2F : Hid (Ps.adv pe.2 = s2) := Hd (by rw [← HS2E.out, hi46]; rfl)
     clear hi46
     go_wp2_with (first
      | (go_at_call 75; refine HI46.out.mono ?_; rintro e w9 ⟨rfl, hb⟩; have HS9 := Hd (HST.out.below hb); clear hb)
      | (go_at_call 29; refine (ptake_any HS9.out.env.pa (by omega)).mono ?_; rintro e w10 ⟨rfl, hp⟩; have HS10 := Hd (HS9.out.call hp (HS9.out.bd.adv hlt2)); clear hp))
     go_step3
     exact ⟨0, by omega, s2, _, _, frameS_ex rfl, by have := HS10.out; rwa [HS2F.out] at this, .inr ⟨rfl, rfl, HRE.out⟩⟩
    | false =>
     rw [hi46] at HI46
     have HS2F : Hid (pe.2 = s2) := Hd (by rw [← HS2E.out, hi46]; rfl)
     clear hi46
     go_wp2_with (go_at_call 75; refine HI46.out.mono ?_; rintro e w9 ⟨rfl, hb⟩; have HS9 := Hd (HST.out.below hb); clear hb)
     go_step3
     exact ⟨0, by omega, s2, _, _, frameS_ex rfl, by have := HS9.out; rwa [HS2F.out] at this, .inr ⟨rfl, rfl, HRE.out⟩⟩
   | false =>
    rw [hi94] at HI94
    obtain ⟨pe, hpe⟩ : ∃ x, Ps.expr T fin f s' = x := ⟨_, rfl⟩
    have HRE : Hid (R = if Ps.ok pe.2 && Ps.is_ T fin pe.2 [46] then Ps.stL T fin f m (l ++ [pe.1]) (Ps.adv pe.2) else (l ++ [pe.1], if Ps.ok pe.2 && !Ps.closed T fin m pe.2 then Ps.odd T fin pe.2 else pe.2)) := Hd (by rw [← HR2.out, Ps.stL, if_neg (by rw [hk, hc]; decide), if_neg (by rw [hi94]; decide), hpe])
    have HEX := Hd fun (W : World) (h : PA W g A c T fin s') => (IH.out f (by omega)).expr s' W h HS.out.bd (by omega)
    rw [hpe] at HEX
    have hple : s'.at_ ≤ pe.2.at_ := by rw [← hpe]; exact ((Ps.leAll T fin f).expr s').at_
    clear hk hc hi94 hpe
    go_upto_region 11 with (first
     | (go_at_call 76; refine HC.out.mono ?_; rintro e w1 ⟨rfl, hb⟩; have HS1 := Hd (HS.out.below hb); clear hb)
     | (go_at_call 75; refine (HI94.out _ HS1.out.env.pa).mono ?_; rintro e w2 ⟨rfl, hb⟩; have HS2 := Hd (HS1.out.below hb); have hr3 := HS2.out.rows; have hz3 := HS2.out.env.size; clear hb)
     | (go_at_call 77; refine (HEX.out _ HS2.out.env.pa).mono ?_; rintro e w5 ⟨cs5, rfl, hp5, hb5, ht5⟩; have hz5 := hp5.1.size; have HS5 := Hd (HS2.out.call hp5 hb5); obtain ⟨p0, p1, C1, o1, e1, C2, o2, e2, C3, o3, e3, p5, p6, rfl⟩ := ht5.form; obtain ⟨css, hcl, hown, hpush⟩ := HS5.out.push ht5 hz3 hr3; have HOWN := Hd hown; have HPUSH := Hd hpush; clear hp5 hb5 ht5 hown hpush hcl)
     | (at_builtin; refine wpList_append_any _ rfl (.tmp 37) (.tmp 40) 25 rfl w.heap.size 27 i0 _ 7 112 Tryz.underlying25 hi hz0 hz1 hz2 rfl (by decide) (.slice Av l.length cv) l.length css.flatten (by rfl) (World.ownsRow.alloc HOWN.out _) (w5.heap.size + 1) (some ⟨w5.heap.size, 0, none⟩) 1 1 _ (by rfl) (Reads.builtN w5 27 [_, _, _, _, _, _, _] 1 7 rfl) (by intro u hu; simp only [List.mem_cons, List.not_mem_nil, or_false] at hu; rcases hu with rfl | rfl | rfl | rfl | rfl | rfl | rfl <;> rfl) (by simp only [maxLen]; omega) (by omega) (by simp; omega) ?_; intro v6 wb hown6 hgrow6 hv6; have HST := Hd (HPUSH.out _ _ _ hown6 hgrow6 (by simpa using hv6)); obtain ⟨A6, c6, rfl, _, _⟩ := own_form hown6; clear hown6 hgrow6 hv6))
    clear HS5 HS2 HS1 HS HC HI94 HEX k4 HOWN HPUSH
    have hg6 := HST.out.env.pa.lt
    have HI46 := Hd (pis_any HST.out.env.pa [46])
    cases hk2 : Ps.ok pe.2 with
    | false =>
     have HRE0 : Hid (R = (l ++ [pe.1], if Ps.ok pe.2 && !Ps.closed T fin m pe.2 then Ps.odd T fin pe.2 else pe.2)) := Hd (by rw [HRE.out, if_neg (by rw [hk2]; simp)])
     obtain ⟨kq, k4⟩ := HST.out.env.pa.noc hk2
     clear hk2
     go_upto_region 13 with fail
     clear k4
     go_step3
     dsimp only [Exit.then]
     rename_i K2 hK2
     refine hK2 _ _ ?_
     cases hke : Ps.ok pe.2 with
     | false =>
      have HRE : Hid (R = (l ++ [pe.1], pe.2)) := Hd (by rw [HRE0.out, hke]; rfl)
      obtain ⟨kqe, ke4⟩ := HST.out.env.pa.noc hke
      clear hke
      go_wp2
      (try simp only [Exit.jumps]); go_ret
      rw [HRE.out]
      exact ⟨_, rfl, HST.out.env.pp, HST.out.bd, HST.out.row⟩
     | true =>
      have ke4 := HST.out.env.pa.okc hke
      have HCE := Hd (pclosed_any HST.out.env.pa m)
      cases hce : Ps.closed T fin m pe.2 with
      | true =>
       rw [hce] at HCE
       have HRE : Hid (R = (l ++ [pe.1], pe.2)) := Hd (by rw [HRE0.out, hke, hce]; rfl)
       clear hke hce
       go_wp2_with (go_at_call 76; refine HCE.out.mono ?_; rintro e we ⟨rfl, hb⟩; have HSE := Hd (HST.out.below hb); clear hb)
       (try simp only [Exit.jumps]); go_ret
       rw [HRE.out]
       exact ⟨_, rfl, HSE.out.env.pp, HSE.out.bd, HSE.out.row⟩
      | false =>
       rw [hce] at HCE
       have HRE : Hid (R = (l ++ [pe.1], Ps.odd T fin pe.2)) := Hd (by rw [HRE0.out, hke, hce]; rfl)
       clear hke hce
       go_wp2_with (first
        | (go_at_call 76; refine HCE.out.mono ?_; rintro e we ⟨rfl, hb⟩; have HSE := Hd (HST.out.below hb); clear hb)
        | (go_at_call 32; refine (podd_any HSE.out.env.pa).mono ?_; rintro e wf ⟨rfl, hp⟩; have HSF := Hd (HSE.out.call hp (HSE.out.bd.rf _ _)); clear hp))
       (try simp only [Exit.jumps]); go_ret
       rw [HRE.out]
       exact ⟨_, rfl, HSF.out.env.pp, HSF.out.bd, HSF.out.row⟩
    | true =>
     have k4 := HST.out.env.pa.okc hk2
     cases hi46 : Ps.is_ T fin pe.2 [46] with
     | true =>
      rw [hi46] at HI46
      have hlt2 := Ps.mark_lt (fin := fin) hi46
      have HRG : Hid (Ps.stL T fin f m (l ++ [pe.1]) (Ps.adv pe.2) = R) := Hd (by rw [HRE.out, if_pos (by rw [hk2, hi46]; rfl)])
      have hrb := Ps.rem_adv (T := T) (s := pe.2) (s' := Ps.adv pe.2) (Nat.lt_succ_self _) hlt2
      have hrc := Ps.rem_le (T := T) hple
      clear hi46 hk2
      go_wp2_with (first
       | (go_at_call 75; refine HI46.out.mono ?_; rintro e w9 ⟨rfl, hb⟩; have HS9 := Hd (HST.out.below hb); clear hb)
       | (go_at_call 29; refine (ptake_any HS9.out.env.pa (by omega)).mono ?_; rintro e w10 ⟨rfl, hp⟩; have HS10 := Hd (HS9.out.call hp (HS9.out.bd.adv hlt2)); clear hp))
      go_step3
      exact ⟨f, by omega, Ps.adv pe.2, _, _, frameS_ex rfl, HS10.out, .inl ⟨rfl, by omega, by omega, by show _ ≤ pe.2.at_ + 1; simp only [List.length_append, List.length_singleton]; omega, HRG.out⟩⟩
     | false =>
      have HRE0 : Hid (R = (l ++ [pe.1], if Ps.ok pe.2 && !Ps.closed T fin m pe.2 then Ps.odd T fin pe.2 else pe.2)) := Hd (by rw [HRE.out, if_neg (by rw [hk2, hi46]; decide)])
      rw [hi46] at HI46
      clear hi46 hk2
      go_upto_region 13 with (go_at_call 75; refine HI46.out.mono ?_; rintro e w9 ⟨rfl, hb⟩; have HS9 := Hd (HST.out.below hb); clear hb)
      have hg9 := HS9.out.env.pa.lt
      clear k4
      go_step3
      dsimp only [Exit.then]
      rename_i K2 hK2
      refine hK2 _ _ ?_
      cases hke : Ps.ok pe.2 with
      | false =>
       have HRE : Hid (R = (l ++ [pe.1], pe.2)) := Hd (by rw [HRE0.out, hke]; rfl)
       obtain ⟨kqe, ke4⟩ := HS9.out.env.pa.noc hke
       clear hke
       go_wp2
       (try simp only [Exit.jumps]); go_ret
       rw [HRE.out]
       exact ⟨_, rfl, HS9.out.env.pp, HS9.out.bd, HS9.out.row⟩
      | true =>
       have ke4 := HS9.out.env.pa.okc hke
       have HCE := Hd (pclosed_any HS9.out.env.pa m)
       cases hce : Ps.closed T fin m pe.2 with
       | true =>
        rw [hce] at HCE
        have HRE : Hid (R = (l ++ [pe.1], pe.2)) := Hd (by rw [HRE0.out, hke, hce]; rfl)
        clear hke hce
        go_wp2_with (go_at_call 76; refine HCE.out.mono ?_; rintro e we ⟨rfl, hb⟩; have HSE := Hd (HS9.out.below hb); clear hb)
        (try simp only [Exit.jumps]); go_ret
        rw [HRE.out]
        exact ⟨_, rfl, HSE.out.env.pp, HSE.out.bd, HSE.out.row⟩
       | false =>
        rw [hce] at HCE
        have HRE : Hid (R = (l ++ [pe.1], Ps.odd T fin pe.2)) := Hd (by rw [HRE0.out, hke, hce]; rfl)
        clear hke hce
        go_wp2_with (first
         | (go_at_call 76; refine HCE.out.mono ?_; rintro e we ⟨rfl, hb⟩; have HSE := Hd (HS9.out.below hb); clear hb)
         | (go_at_call 32; refine (podd_any HSE.out.env.pa).mono ?_; rintro e wf ⟨rfl, hp⟩; have HSF := Hd (HSE.out.call hp (HSE.out.bd.rf _ _)); clear hp))
        (try simp only [Exit.jumps]); go_ret
        rw [HRE.out]
        exact ⟨_, rfl, HSF.out.env.pp, HSF.out.bd, HSF.out.row⟩
  ·refine ⟨_, rfl, ?_⟩
   unfold frameS
   have HRE0 := Hd hR
   clear hR HR
   cases hke : Ps.ok s' with
   | false =>
    have HRE : Hid (R = (l, s')) := Hd (by rw [HRE0.out, hke]; rfl)
    obtain ⟨kqe, ke4⟩ := HS.out.env.pa.noc hke
    clear hke
    go_wp2
    (try simp only [Exit.jumps]); go_ret
    rw [HRE.out]
    exact ⟨_, rfl, HS.out.env.pp, HS.out.bd, HS.out.row⟩
   | true =>
    have ke4 := HS.out.env.pa.okc hke
    have HCE := Hd (pclosed_any HS.out.env.pa m)
    cases hce : Ps.closed T fin m s' with
    | true =>
     rw [hce] at HCE
     have HRE : Hid (R = (l, s')) := Hd (by rw [HRE0.out, hke, hce]; rfl)
     clear hke hce
     go_wp2_with (go_at_call 76; refine HCE.out.mono ?_; rintro e we ⟨rfl, hb⟩; have HSE := Hd (HS.out.below hb); clear hb)
     (try simp only [Exit.jumps]); go_ret
     rw [HRE.out]
     exact ⟨_, rfl, HSE.out.env.pp, HSE.out.bd, HSE.out.row⟩
    | false =>
     rw [hce] at HCE
     have HRE : Hid (R = (l, Ps.odd T fin s')) := Hd (by rw [HRE0.out, hke, hce]; rfl)
     clear hke hce
     go_wp2_with (first
      | (go_at_call 76; refine HCE.out.mono ?_; rintro e we ⟨rfl, hb⟩; have HSE := Hd (HS.out.below hb); clear hb)
      | (go_at_call 32; refine (podd_any HSE.out.env.pa).mono ?_; rintro e wf ⟨rfl, hp⟩; have HSF := Hd (HSE.out.call hp (HSE.out.bd.rf _ _)); clear hp))
     (try simp only [Exit.jumps]); go_ret
     rw [HRE.out]
     exact ⟨_, rfl, HSF.out.env.pp, HSF.out.bd, HSF.out.row⟩
end Go.Proofs.YtjhonaglmgmpiaaGreatDoor
namespace Go.Proofs.YtjhonaglmgmpiaaGreatDoor
namespace Ps
variable {T : List Lx.Tk} {fin : Nat}
def K5 (t : Tr) : Prop := t.kind = 5 → t.nodes ≠ []
theorem k5_nd {k : Nat} {nm : Lx.Txt} {l : List Tr} {p : Nat} (h : k ≠ 5 ∨ l ≠ []) : K5 (nd k nm l p) := fun e => h.elim (fun h => absurd e h) id
theorem k5_zero : K5 Tr.zero := fun e => by cases e
theorem k5_unaL : ∀ (f : Nat) (n : Tr) (s : PS), K5 n → K5 (unaL T fin f n s).1
 | 0, _, _, h => h
 | f + 1, n, s, h => by
  rw [unaL]
  split
  ·exact k5_unaL f _ _ (k5_nd (.inr (by simp)))
  ·exact h
theorem k5_binL : ∀ (f : Nat) (n : Tr) (s : PS), K5 n → K5 (binL_ T fin f n s).1
 | 0, _, _, h => by rw [binL_]; exact h
 | f + 1, n, s, h => by
  rw [binL_]
  split
  ·exact k5_binL f _ _ (k5_nd (.inr (by simp)))
  ·exact h
theorem keyL_ne : ∀ (f : Nat) (m : Lx.Txt) (l : List Tr) (s : PS), l ≠ [] → (keyL T fin f m l s).2.1 ≠ []
 | 0, _, _, _, h => by rw [keyL]; exact h
 | f + 1, m, l, s, h => by
  rw [keyL]
  split
  ·exact keyL_ne f _ _ _ (by simp)
  ·exact h
theorem k5_keyw (f : Nat) (n : Tr) (s : PS) (h : K5 n) : K5 (keyw T fin f n s).1 := by
 cases f with
 | zero => rw [keyw]; exact h
 | succ f =>
  rw [keyw]
  split
  ·exact h
  ·exact k5_nd (.inr (keyL_ne f [] [n] s (by simp)))
theorem k5_k (f : Nat) (s : PS) (h : K5 (prim T fin f s).1) : K5 (keyw T fin f (binL_ T fin f (unaL T fin (T.length + 2) (prim T fin f s).1 (prim T fin f s).2).1 (unaL T fin (T.length + 2) (prim T fin f s).1 (prim T fin f s).2).2).1 (binL_ T fin f (unaL T fin (T.length + 2) (prim T fin f s).1 (prim T fin f s).2).1 (unaL T fin (T.length + 2) (prim T fin f s).1 (prim T fin f s).2).2).2).1 :=
 k5_keyw (T := T) (fin := fin) f _ _ (k5_binL (T := T) (fin := fin) f _ _ (k5_unaL (T := T) (fin := fin) (T.length + 2) _ _ h))
theorem k5_simple {s : PS} {n : Tr} (h : (simple T fin s).1 = some n) : K5 n := by
 unfold simple at h
 dsimp only at h
 repeat' (split at h)
 all_goals first
  | (injection h with h; subst h; exact k5_nd (.inl (by decide)))
  | cases h
theorem k5_arr (f : Nat) (s : PS) : K5 (arr T fin f s).1 := by
 cases f with
 | zero => rw [arr]; exact k5_zero
 | succ f => rw [arr]; exact k5_nd (.inl (by decide))
theorem k5_blk (f : Nat) (s : PS) : K5 (blk T fin f s).1 := by
 cases f with
 | zero => rw [blk]; exact k5_zero
 | succ f => rw [blk]; exact fun e => by cases e
theorem k5_all : ∀ f, (∀ s, K5 (expr T fin f s).1) ∧ (∀ s, K5 (prim T fin f s).1)
 | 0 => ⟨fun s => by rw [expr]; exact k5_zero, fun s => by rw [prim]; exact k5_zero⟩
 | f + 1 => by
  obtain ⟨he, hp⟩ := k5_all f
  refine ⟨fun s => ?_, fun s => ?_⟩
  ·rw [expr]
   dsimp only
   have hk := k5_k f s (hp s)
   split
   ·split
    ·exact k5_zero
    ·exact k5_nd (.inl (by decide))
   ·split
    ·exact hk
    ·split
     ·exact k5_zero
     ·exact k5_nd (.inl (by decide))
  ·rw [prim]
   dsimp only
   split
   ·exact k5_zero
   ·split
    ·rename_i n hn
     exact k5_simple hn
    ·split
     ·exact k5_nd (.inl (by decide))
     ·split
      ·exact k5_arr f s
      ·split
       ·exact k5_nd (.inl (by decide))
       ·split
        ·exact he _
        ·split
         ·exact k5_nd (.inl (by decide))
         ·split
          ·exact k5_blk f s
          ·exact k5_zero
theorem sent_ne {f : Nat} {s : PS} {a : Tr} {k : Tr × PS} (hk : keyw T fin f (binL_ T fin f (unaL T fin (T.length + 2) (prim T fin f s).1 (prim T fin f s).2).1 (unaL T fin (T.length + 2) (prim T fin f s).1 (prim T fin f s).2).2).1 (binL_ T fin f (unaL T fin (T.length + 2) (prim T fin f s).1 (prim T fin f s).2).1 (unaL T fin (T.length + 2) (prim T fin f s).1 (prim T fin f s).2).2).2 = k) (h : sent a k.1 = true) : k.1.nodes ≠ [] := by
 have h5 : k.1.kind = 5 := by
  unfold sent at h
  simp only [Bool.and_eq_true, beq_iff_eq] at h
  exact h.1
 have := k5_k f s ((k5_all (T := T) (fin := fin) f).2 s)
 rw [hk] at this
 exact this h5
end Ps
end Go.Proofs.YtjhonaglmgmpiaaGreatDoor
namespace Go.Proofs.YtjhonaglmgmpiaaGreatDoor
open Go.RowKit
theorem TrIn.parts {w : World} {S : Nat → Prop} {k p pl : Nat} {nm : Lx.Txt} {A1 A2 A3 : Option Addr} {n1 c1 n2 c2 n3 c3 : Nat} {t : Ps.Tr} (h : TrIn w S [.int .i64 (k : Int), .string ⟨nm.toArray⟩, .slice A1 n1 c1, .slice A2 n2 c2, .slice A3 n3 c3, .int .i64 (p : Int), .int .i64 (pl : Int)] t) (hne : t.nodes ≠ []) :
  0 < n3 ∧ n3 ≤ c3 ∧ ∃ (b off : Nat) (x0 x1 x2 x3 x4 x5 x6 : Value), A3 = some ⟨b, off, none⟩ ∧ S b ∧ b < w.heap.size ∧
   w.cell? ⟨b, off, none⟩ = some x0 ∧ w.cell? ⟨b, off + 1, none⟩ = some x1 ∧ w.cell? ⟨b, off + 2, none⟩ = some x2 ∧ w.cell? ⟨b, off + 3, none⟩ = some x3 ∧ w.cell? ⟨b, off + 4, none⟩ = some x4 ∧ w.cell? ⟨b, off + 5, none⟩ = some x5 ∧ w.cell? ⟨b, off + 6, none⟩ = some x6 ∧
   TrIn w S [x0, x1, x2, x3, x4, x5, x6] (t.nodes.headD Ps.Tr.zero) ∧
   ∀ (A' : Option Addr) (c' : Nat), (1 < n3 → A' = some ⟨b, off + 7, none⟩) → n3 - 1 ≤ c' → TrIn w S [.int .i64 7, .string ⟨t.name.toArray⟩, .slice none 0 0, .slice none 0 0, .slice A' (n3 - 1) c', .int .i64 0, .int .i64 (t.place : Int)] (Ps.nd 7 t.name t.nodes.tail t.place) := by
 cases h with
 | mk kind name names temps nodes prim place _ _ _ _ _ _ css h1 h2 hl h3 hc ih =>
  cases nodes with
  | nil => exact absurd rfl hne
  | cons y l =>
   cases css with
   | nil => simp at hl
   | cons cs css =>
    have hy := ih 0 cs y rfl rfl
    have h7 := hy.len
    obtain ⟨hlen, hcell⟩ := h3
    obtain ⟨b, off, e, hS, hb, hcl⟩ := hcell (by simp)
    have hcs : ∀ j u, cs[j]? = some u → w.cell? ⟨b, off + j, none⟩ = some u := fun j u hu => hcl j u (by rw [List.flatten_cons, List.getElem?_append_left (List.getElem?_eq_some_iff.1 hu).1]; exact hu)
    have hlc : css.length = l.length := by simpa using hl
    match cs, h7 with
    | [x0, x1, x2, x3, x4, x5, x6], _ =>
     refine ⟨by simp, hc.1, b, off, x0, x1, x2, x3, x4, x5, x6, e, hS, hb, hcs 0 x0 rfl, hcs 1 x1 rfl, hcs 2 x2 rfl, hcs 3 x3 rfl, hcs 4 x4 rfl, hcs 5 x5 rfl, hcs 6 x6 rfl, hy, fun A' c' hA hc' => ?_⟩
     have e1 : (y :: l).length - 1 = l.length := by simp
     rw [e1] at hc' ⊢
     refine TrIn.mk 7 _ [] [] l 0 _ none 0 none 0 A' c' css .none_ .none_ hlc ⟨?_, fun hn => ?_⟩ ⟨hc', by have := hc.2.1; simp only [List.length_cons] at this; omega, Nat.zero_le _, Nat.zero_le _, Nat.zero_le _, Nat.zero_le _⟩ fun i cs' t' hi ht => ih (i + 1) cs' t' (by simpa using hi) (by simpa using ht)
     ·rw [List.flatten_cons, List.length_append, List.length_cons] at hlen
      simp only [List.length_cons, List.length_nil] at hlen
      omega
     ·refine ⟨b, off + 7, hA (by simp; omega), hS, hb, fun j u hu => ?_⟩
      rw [Nat.add_assoc]
      exact hcl (7 + j) u (by rw [List.flatten_cons, List.getElem?_append_right (by simp)]; simpa using hu)
end Go.Proofs.YtjhonaglmgmpiaaGreatDoor
