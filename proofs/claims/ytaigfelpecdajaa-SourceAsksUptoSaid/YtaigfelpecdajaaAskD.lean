/-
  Lists of strings that a call builds: is a text there, put it behind once. The program's and the document's once.
-/
import Derived.Test.YtaigfelpecdajaaAskC
import Derived.Maps.AppendAt
namespace Go.Proofs.Ytaigfelpecdajaa
open Go.RowKit

section
variable {P : Program} (w : World)
/-- append onto an own row: the old value reads on as it did -/
theorem run_append_keep (base : Nat) (t ty e : TypeId) (i : TypeInfo) (z : Value) (size bytes : Nat) (ht : P.underlying t = some (.slice e)) (hi : P.info? e = some i) (hz : i.zero = some z)
    (hsize : i.size = size) (hby : i.bytes = bytes) (hzs : z.cells.size = size) (hsz : 0 < size)
    (v : Value) (n : Nat) (xs : List Value) (hown : w.ownsRow base e size v n xs)
    (ad : Addr) (m c : Nat) (news : List Value) (hl : news.length = m * size) (hnews : ∀ j u, news[j]? = some u → w.cell? (ad.add j) = some u) (h1 : ∀ u ∈ news, u.oneCell' = true)
    (h63 : n + m ≤ maxLen) (hbytes : (n + m) * bytes ≤ 140737488355328) (hbase : base ≤ w.heap.size) :
    ∃ v' w', (Builtin.append_ #[t, t] ty #[v, .slice (some ad) m c]).run P w = .ok v' w' ∧ w'.ownsRow base e size v' (n + m) (xs ++ news) ∧ w.grownBy w' v.ownBlock ∧
      (v'.ownBlock = v.ownBlock ∨ v'.ownBlock = some w.heap.size) ∧ w'.ownsRow base e size v n xs := by
  obtain ⟨v', w', hrun, h2, h3, _, h5⟩ := run_append_own_at (P := P) w base t ty e i z size bytes ht hi hz hsize hby hzs hsz v n xs hown ad m c news hl hnews h1 h63 hbytes hbase
  refine ⟨v', w', hrun, h2, h3, h5, ?_⟩
  rcases hown.2 with ⟨rfl, rfl⟩ | ⟨g, cap, cur, rfl, hbg, hg, hnc, hcm, hcs, htake⟩
  · exact ⟨hown.1, .inl ⟨rfl, rfl⟩⟩
  · subst hsize hby
    by_cases hroom : n + m ≤ cap
    · have hfit : n * i.size + news.length ≤ cur.size := by rw [hl, hcs, ← Nat.add_mul]; exact Nat.mul_le_mul_right _ hroom
      have hr := run_append_room (P := P) w t ty e i ht hi g n cap cur hg ad m c news hl hnews h1 hroom hfit
      rw [hr] at hrun
      injection hrun with e1 e2
      subst e2
      refine ⟨hown.1, .inr ⟨g, cap, _, rfl, hbg, setRow_heap w g cur _ e _ hg, hnc, hcm, ?_, ?_⟩⟩
      · simp only [List.size_toArray, List.length_append, List.length_take, List.length_drop, Array.length_toList]
        omega
      · rw [htake, List.append_assoc, ← hown.1]
        exact List.take_left
    · have holds : ∀ j u, xs[j]? = some u → w.cell? ((⟨g, 0, none⟩ : Addr).add j) = some u := hown.cells (g := g) rfl
      have hr := run_append_grow (P := P) w t ty e i z ht hi hz ⟨g, 0, none⟩ n cap xs hown.1 holds ad m c news hl hnews (by omega) (by simp only [maxLen] at h63; omega) (growslice_fits (by omega) hbytes)
      rw [hr] at hrun
      injection hrun with e1 e2
      subst e2
      have hgl : g < w.heap.size := by
        rcases Nat.lt_or_ge g w.heap.size with h | h
        · exact h
        · rw [Array.getElem?_eq_none h] at hg; cases hg
      exact ⟨hown.1, .inr ⟨g, cap, cur, rfl, hbg, (Below.heap_alloc w.drew _ g hgl).trans hg, hnc, hcm, hcs, htake⟩⟩
end
/-- a list of strings in a row of the call's own -/
abbrev OwnS (w : World) (base : Nat) (v : Value) (l : List ByteArray) : Prop := w.ownsRow base 9 1 v l.length (l.map Value.string)
theorem info9 : (Try.prog.info? 9).map (fun i => (i.zero, i.size, i.bytes)) = some (some (.string ⟨#[]⟩), 1, 16) := by kernel_rfl
theorem OwnS.nil (w : World) (base : Nat) : OwnS w base (.slice none 0 0) [] := World.ownsRow_nil w base 9 1
theorem OwnS.form {w : World} {base : Nat} {v : Value} {l : List ByteArray} (h : OwnS w base v l) : ∃ A c, v = .slice A l.length c ∧ l.length ≤ c ∧ c ≤ maxLen := by
  rcases h.2 with ⟨rfl, h0⟩ | ⟨g, cap, cur, rfl, _, _, hn, hm, _⟩
  · exact ⟨none, 0, by rw [h0], by omega, by simp⟩
  · exact ⟨_, cap, rfl, hn, hm⟩
theorem OwnS.base {w : World} {base k : Nat} {v : Value} {l : List ByteArray} (h : OwnS w base v l) (hk : v.ownBlock = some k) : base ≤ k := (h.lt k hk).1
theorem OwnS.reads {w : World} {base c : Nat} {A : Option Addr} {l : List ByteArray} (h : OwnS w base (.slice A l.length c) l) : RdS w w.heap.size A l.length l := Reads.of_own h
theorem strs_one (l : List ByteArray) : ∀ u ∈ l.map Value.string, u.oneCell' = true := by
  intro u hu
  obtain ⟨x, _, rfl⟩ := List.mem_map.1 hu
  rfl
/-- a text behind a list in an own row -/
def Snoc (w : World) (base : Nat) (v : Value) (l : List ByteArray) (s : ByteArray) (w' : World) (v' : Value) : Prop :=
  OwnS w' base v' (l ++ [s]) ∧ App w v w' v' ∧ OwnS w' base v l
theorem wpList_snoc {P : Program} {w : World} {ops : Array Oper} {rest : List Oper} {o : Oper} {a : Act} {Q : Exit → Act → World → Prop} (hgd : o.guard = none) (s x : Operand) (t : TypeId)
    (ho : o.op = .call { callee := .builtin .append, args := #[s, x], argTypes := #[t, t] })
    (hinfo : (P.info? 9).map (fun i => (i.zero, i.size, i.bytes)) = some (some (.string ⟨#[]⟩), 1, 16)) (ht : P.underlying t = some (.slice 9))
    (base : Nat) (v : Value) (l : List ByteArray) (str : ByteArray) (g c : Nat) (hs : a.eval s = v) (hx : a.eval x = .slice (some ⟨g, 0, none⟩) 1 c) (hown : OwnS w base v l)
    (hcell : w.cell? ⟨g, 0, none⟩ = some (.string str)) (hb : l.length ≤ 1000000000) (hbase : base ≤ w.heap.size)
    (h : ∀ v' w', Snoc w base v l str w' v' → wpList P ops Q rest (a.put o.dst v') w') : wpList P ops Q (o :: rest) a w := by
  obtain ⟨i, hi, hz, hsz, hby⟩ := info_parts hinfo
  obtain ⟨v', w', h1, h2, h3, h4, h5⟩ := run_append_keep (P := P) w base t o.type 9 i _ 1 16 ht hi hz hsz hby rfl (by omega) v l.length (l.map Value.string) hown ⟨g, 0, none⟩ 1 c [.string str] rfl
    (fun j u hu => by
      cases j with
      | zero => simp only [List.getElem?_cons_zero, Option.some.injEq] at hu; subst hu; exact hcell
      | succ j => simp at hu) (by intro u hu; simp at hu; subst hu; rfl) (by simp only [maxLen]; omega) (by omega) hbase
  refine wpList_plain hgd fun K hK => ?_
  unfold Oper.wp execOp
  simp only [ho, resolve, invoke, builtin, Sem.run_bind, Sem.run_pure, Result.andThen_ok, List.map_toArray, List.map_cons, List.map_nil, hs, hx, h1]
  refine hK _ _ (h v' w' ⟨?_, ⟨h3, ?_⟩, h5⟩)
  · show w'.ownsRow base 9 1 v' (l ++ [str]).length ((l ++ [str]).map Value.string)
    rw [List.length_append, List.map_append]
    exact h2
  · rcases h4 with h4 | h4
    · exact .inl h4
    · exact .inr ⟨_, h4, Nat.le_refl _⟩
/-- is a text among others -/
def hasS (l : List ByteArray) (s : ByteArray) : Bool := l.any fun x => eqS s x
theorem hasS_drop {l : List ByteArray} {k : Nat} {x s : ByteArray} (h : l[k]? = some x) : hasS (l.drop k) s = (eqS s x || hasS (l.drop (k + 1)) s) := by
  have h1 : k < l.length := by
    rcases Nat.lt_or_ge k l.length with h' | h'
    · exact h'
    · rw [List.getElem?_eq_none h'] at h; cases h
  rw [List.drop_eq_getElem_cons h1]
  rw [List.getElem?_eq_getElem h1] at h
  rw [Option.some.inj h]
  rfl
theorem hasS_end {l : List ByteArray} {k : Nat} {s : ByteArray} (h : l.length ≤ k) : hasS (l.drop k) s = false := by rw [List.drop_eq_nil_of_le h]; rfl
theorem onceS_eq (l : List ByteArray) (s : ByteArray) : onceS l s = if hasS l s then l else l ++ [s] := rfl
theorem eqS_comm (a b : ByteArray) : eqS a b = eqS b a := by
  unfold eqS
  rw [Bool.eq_iff_iff]
  simp only [decide_eq_true_eq]
  exact eq_comm
def IdxS (l : List ByteArray) (s : ByteArray) (w : World) (e : Ending) (w' : World) : Prop := ∃ r : Int, e = .returned (.int .i64 r) ∧ (decide (0 ≤ r)) = hasS l s ∧ w = w'
set_option maxRecDepth 20000 in
set_option maxHeartbeats 1000000 in
theorem sIdx_any (A : Option Addr) (c B : Nat) (l : List ByteArray) (s : ByteArray) (w : World) (h : RdS w B A l.length l) (hl : l.length ≤ 1000000000) :
    Calls Try.prog 58 #[.slice A l.length c, .string s] w (IdxS l s w) := by
  have H := Lib.hid h
  clear h
  go_enter Try.func58, Try.ntmps58
  go_wp2
  go_loopw [8] (fun i wr => ∃ k : Nat, k ≤ l.length ∧ i = .int .i64 k ∧ hasS (l.drop k) s = hasS l s ∧ w = wr) (fun i _ => l.length - (intOf i).toNat)
  case atStart => exact ⟨0, Nat.zero_le _, rfl, rfl, rfl⟩
  case round =>
    obtain ⟨k, hk, rfl, hall, rfl⟩ := hrel
    have HALL := Lib.hid hall
    clear hall
    by_cases hlt : k < l.length
    · obtain ⟨ad, x, rfl, _, hx, hc⟩ := RdS.at_ H.out hlt
      have HD := Lib.hid (hasS_drop (s := s) hx)
      have l1 : (0 : Int) ≤ (k : Int) := by omega
      have l2 : (k : Int) < (l.length : Int) := by omega
      clear hx
      cases he : eqS s x with
      | true =>
        have d : (s.toList == x.toList) = true := by rw [toList_eq, he]
        have HE : Hid (IdxS l s w (.returned (.int .i64 (k : Int))) w) := Lib.hid ⟨k, rfl, by rw [← HALL.out, HD.out, he]; simp, rfl⟩
        clear he
        go_wp2
        go_ret
        exact HE.out
      | false =>
        have d : (s.toList == x.toList) = false := by rw [toList_eq, he]
        have HE : Hid (hasS (l.drop (k + 1)) s = hasS l s) := Lib.hid (by rw [← HALL.out, HD.out, he]; rfl)
        clear he
        go_wp2
        go_roundw
        case rel => exact ⟨k + 1, by omega, by go_num, HE.out, by first | rfl | trivial⟩
        case measure => simp [intOf]; omega
    · have HE : Hid (IdxS l s w (.returned (.int .i64 (-1))) w) := Lib.hid ⟨-1, rfl, by rw [← HALL.out, hasS_end (by omega)]; rfl, rfl⟩
      go_wp2
      go_ret
      exact HE.out
set_option maxRecDepth 20000 in
theorem sHas_any (A : Option Addr) (c B : Nat) (l : List ByteArray) (s : ByteArray) (w : World) (h : RdS w B A l.length l) (hl : l.length ≤ 1000000000) :
    Calls Try.prog 45 #[.slice A l.length c, .string s] w fun e w' => e = .returned (.bool (hasS l s)) ∧ w = w' := by
  have H := Lib.hid h
  clear h
  go_enter Try.func45, Try.ntmps45
  go_wp2_with fail
  refine (sIdx_any A c B l s w H.out hl).mono ?_
  rintro e w' ⟨r, rfl, hr, rfl⟩
  have HR := Lib.hid hr
  clear hr
  go_wp2
  go_ret
  exact ⟨ret_bool (by rw [← HR.out]), rfl⟩
/-- what once leaves -/
def OnceP (w : World) (base : Nat) (v : Value) (l : List ByteArray) (s : ByteArray) (e : Ending) (w' : World) : Prop :=
  ∃ v', e = .returned v' ∧ OwnS w' base v' (onceS l s) ∧ App w v w' v' ∧ OwnS w' base v l
set_option maxRecDepth 20000 in
set_option maxHeartbeats 1000000 in
theorem sOnce_any (base : Nat) (v : Value) (l : List ByteArray) (s : ByteArray) (w : World) (h : OwnS w base v l) (hl : l.length ≤ 100000000) (hb : base ≤ w.heap.size) :
    Calls Try.prog 42 #[v, .string s] w (OnceP w base v l s) := by
  have H := Lib.hid h
  obtain ⟨A, c, rfl, -, -⟩ := OwnS.form h
  clear h
  go_enter Try.func42, Try.ntmps42
  go_wp2_with fail
  refine (sHas_any A c _ l s w (OwnS.reads H.out) (by omega)).mono ?_
  rintro e w' ⟨rfl, rfl⟩
  cases hs : hasS l s with
  | true =>
    have HE : Hid (onceS l s = l) := Lib.hid (by rw [onceS_eq, hs]; rfl)
    clear hs
    go_wp2
    go_ret
    exact ⟨_, rfl, by rw [HE.out]; exact H.out, App.refl _ _, H.out⟩
  | false =>
    have HE : Hid (onceS l s = l ++ [s]) := Lib.hid (by rw [onceS_eq, hs]; rfl)
    clear hs
    go_wp2_with (at_builtin; refine wpList_snoc rfl (.tmp 9) (.tmp 11) 23 rfl info9 Try.underlying23 base _ l s _ _ rfl rfl (World.ownsRow.alloc H.out _) ((Blk.new _ _ _).cell 0) (by omega) (by simp; omega) ?_; intro v1 w1 hsn; have HS := Lib.hid hsn; clear hsn)
    go_ret
    exact ⟨_, rfl, by rw [HE.out]; exact HS.out.1, HS.out.2.1.from, HS.out.2.2⟩
end Go.Proofs.Ytaigfelpecdajaa
