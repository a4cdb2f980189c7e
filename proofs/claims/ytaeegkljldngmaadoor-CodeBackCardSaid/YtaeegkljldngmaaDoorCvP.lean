/-
  The verifier, plain: regions, jumps, ends, depths. No statement of the seat is proved here.
-/
import Derived.Test.YtaeegkljldngmaaDoorWd
namespace Go.Proofs.YtaeegkljldngmaaDoor

def Ins.size (x : Ins) : Nat := (szO x.op).toNat
/-- the place of the i-th instruction -/
def pl (l : List Ins) (i : Nat) : Nat := ((l.take i).map Ins.size).sum
/-- the number of the instruction at a place; the length at the end -/
def ix (l : List Ins) (z : Int) : Option Nat := (List.range (l.length + 1)).find? fun i => decide ((pl l i : Int) = z)
structure Rg where
  outer : Int
  deep : Int
  temps : Int
  fin : Int
  steps : List Nat
  most : Int
def Rg.zero : Rg := ⟨-1, 0, 0, 0, [], 0⟩
structure Shp where
  args : Int
  temps : Int
  fields : Int
  lits : List Int
def rgAt (rs : List Rg) (r : Nat) : Rg := rs.getD r Rg.zero
def insD (l : List Ins) (i : Nat) : Ins := l.getD i ⟨0, 0, 0, 0, 0⟩
/-- out of the regions that end at a place -/
def climb (rs : List Rg) (p : Int) : Nat → Nat → Nat
  | 0, r => r
  | f + 1, r => if p = (rgAt rs r).fin then climb rs p f (rgAt rs r).outer.toNat else r
def outs (rs : List Rg) : Nat → Nat → Nat
  | 0, r => r
  | k + 1, r => outs rs k (rgAt rs r).outer.toNat
def tempsO (rs : List Rg) (r : Nat) (out : Int) : Int := if (rgAt rs r).deep < out then -1 else (rgAt rs (outs rs out.toNat r)).temps
def litO (s : Shp) (n kind : Int) : Bool := if (s.lits.length : Int) ≤ n then false else kind == 0 || s.lits.getD n.toNat 0 == kind
/-- do an instruction's operands name what there is? -/
def opdO (s : Shp) (rs : List Rg) (x : Ins) (r : Nat) : Bool :=
  if x.op = 6 then litO s x.a 0
  else if x.op = 16 ∨ x.op = 17 then litO s x.a 1 && decide (x.b ≤ 15)
  else if x.op = 10 ∨ x.op = 13 then litO s x.a 2
  else if x.op = 8 ∨ x.op = 11 then decide (x.a < s.fields)
  else if x.op = 9 ∨ x.op = 12 then decide (x.b < tempsO rs r x.a)
  else if x.op = 24 then decide (x.a ≤ 15) && decide (x.a ≤ x.b) && decide (x.b ≤ 63) && decide (x.c ≤ 127) && decide ((rgAt rs r).deep < 15)
  else if x.op = 23 then decide (0 < (rgAt rs r).deep)
  else true
structure Sp where
  rs : List Rg
  of : List Nat
  body : List Int
  r : Nat
def addStep (rs : List Rg) (r i : Nat) : List Rg := rs.set r { rgAt rs r with steps := (rgAt rs r).steps ++ [i] }
def beh (l : List Ins) (i : Nat) : Int := (pl l i : Int) + szO (insD l i).op
/-- one instruction taken into its region -/
def spStep (s : Shp) (l : List Ins) (i : Nat) (S : Sp) : Except (Int × Int) Sp :=
  let x := insD l i
  let r := climb S.rs (pl l i) S.r S.r
  let rs := addStep S.rs r i
  if opdO s rs x r then
    if x.op = 24 then
      if x.z < 1 ∨ (rgAt rs r).fin < beh l i + x.z ∨ (ix l (beh l i + x.z)).isNone then .error ((pl l i : Int), 52)
      else .ok ⟨rs ++ [⟨r, (rgAt rs r).deep + 1, x.b, beh l i + x.z, [], 0⟩], S.of ++ [r], S.body ++ [(rs.length : Int)], rs.length⟩
    else .ok ⟨rs, S.of ++ [r], S.body ++ [-1], r⟩
  else .error ((pl l i : Int), 51)
def splitF (s : Shp) (l : List Ins) : Nat → Nat → Sp → Except (Int × Int) Sp
  | 0, _, S => .ok S
  | f + 1, i, S => match spStep s l i S with
    | .ok S' => splitF s l f (i + 1) S'
    | .error e => .error e
def sp0 (s : Shp) (n : Nat) : Sp := ⟨[⟨-1, 0, s.temps, n, [], 0⟩], [], [], 0⟩
def isJ (op : Int) : Bool := op == 18 || op == 19 || op == 20
/-- does the i-th instruction jump to where it may not? -/
def jBad (l : List Ins) (of : List Nat) (i : Nat) : Bool :=
  isJ (insD l i).op && (match ix l (beh l i + (insD l i).z) with
    | none => true
    | some k => k == l.length || of.getD k 0 != of.getD i 0)
def jumpsF (l : List Ins) (of : List Nat) : Nat → Nat → Option Nat
  | 0, _ => none
  | f + 1, i => if jBad l of i then some i else jumpsF l of f (i + 1)
def lower (f p : Int) : Int := if f < 0 ∨ p < f then p else f
def endsF (l : List Ins) : List Rg → Int → Int
  | [], f => f
  | g :: r, f => endsF l r (if (ent (insD l (g.steps.getLastD 0)).op).ends then f else lower f (pl l (g.steps.getLastD 0)))

/-! ## The depths of a region -/
structure Wk where
  dp : List Int
  wt : List Bool
  most : Int
  fault : Int
def blameW (l : List Ins) (i : Nat) (W : Wk) : Wk := { W with fault := lower W.fault (pl l i) }
/-- a depth is handed on to the i-th instruction, the k-th of the region's -/
def putW (l : List Ins) (i k : Nat) (d : Int) (W : Wk) : Wk :=
  let W1 : Wk := { W with most := max W.most d }
  if W.dp.getD i 0 < 0 then { W1 with dp := W.dp.set i d, wt := W.wt.set k true }
  else if W.dp.getD i 0 = d then W1 else blameW l i W1
def takeO (x : Ins) : Int := if x.op = 16 ∨ x.op = 17 then x.b + 1 else if x.op = 25 then x.a else (ent x.op).take
def putO (x : Ins) : Int := if x.op = 16 ∨ x.op = 17 then 1 else if x.op = 25 then 1 else (ent x.op).put
def goalO (l : List Ins) (i : Nat) : Nat := (ix l (beh l i + (insD l i).z)).getD 0
/-- the k-th instruction of the region is gone through -/
def wkStep (l : List Ins) (st : List Nat) (k : Nat) (W : Wk) : Wk :=
  let i := st.getD k 0
  let x := insD l i
  let W0 : Wk := { W with wt := W.wt.set k false }
  let d := W.dp.getD i 0 - takeO x + putO x
  if W.dp.getD i 0 < takeO x ∨ 127 < d then blameW l i W0
  else
    let W1 : Wk := { W0 with most := max W0.most d }
    let W2 := if (ent x.op).ends then W1 else putW l (st.getD (k + 1) 0) (k + 1) d W1
    if isJ x.op then putW l (goalO l i) (st.idxOf (goalO l i)) d W2 else W2
def wkF (l : List Ins) (st : List Nat) : Nat → Wk → Wk
  | 0, W => W
  | f + 1, W => match W.wt.idxOf? true with
    | none => W
    | some k => wkF l st f (wkStep l st k W)
/-- how many rounds may be to come -/
def wkM (W : Wk) : Nat := 2 * (W.dp.filter fun d => decide (d < 0)).length + (W.wt.filter fun b => b).length
def wk0 (l : List Ins) (st : List Nat) (dp : List Int) (fault : Int) : Wk := putW l (st.getD 0 0) 0 0 ⟨dp, List.replicate st.length false, 0, fault⟩
def wkAll (l : List Ins) (st : List Nat) (dp : List Int) (fault : Int) : Wk := wkF l st (wkM (wk0 l st dp fault)) (wk0 l st dp fault)
/-- all regions, one behind the other: the greatest depths, what is left -/
def wksF (l : List Ins) : List Rg → List Int → Int → List Int × Int
  | [], _, f => ([], f)
  | g :: r, dp, f =>
    let W := wkAll l g.steps dp f
    let R := wksF l r W.dp W.fault
    (W.most :: R.1, R.2)
/-- the blocks that are deeper than they say -/
def blksF (l : List Ins) (body : List Int) (ms : List Int) : Nat → Nat → Int → Int
  | 0, _, f => f
  | n + 1, i, f => blksF l body ms n (i + 1) (if (insD l i).op = 24 ∧ (insD l i).c < ms.getD (body.getD i 0).toNat 0 then lower f (pl l i) else f)
def verL (s : Shp) (l : List Ins) : Int × Int × Int :=
  match splitF s l l.length 0 (sp0 s (pl l l.length)) with
  | .error e => (0, e.1, e.2)
  | .ok S =>
    match jumpsF l S.of l.length 0 with
    | some i => (0, pl l i, 52)
    | none =>
      if l.length = 0 then (0, 0, 54)
      else if 0 ≤ endsF l S.rs (-1) then (0, endsF l S.rs (-1), 54)
      else
        let R := wksF l S.rs (List.replicate l.length (-1)) (-1)
        let f := blksF l S.body R.1 l.length 0 R.2
        if 0 ≤ f then (0, f, 53) else (R.1.getD 0 0, 0, 0)
end Go.Proofs.YtaeegkljldngmaaDoor
