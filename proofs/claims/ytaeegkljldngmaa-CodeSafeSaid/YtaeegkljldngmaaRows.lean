/-
  No cell of these rows narrows 'for every input' (looked for: loops, veiled, ifaces, maps, wideKeys, modest, calm, conditions, laid).
  DERIVED. THE GIVEN ROWS OF THIS SEAT. 7 by the template 'for every input the law returns true; each argument reads behind the call as it read before'; 0 by the template 'total and deterministic' (their statements: YtaeegkljldngmaaTotals.lean).
  GIVEN WITH THE SEED: the statements are not yours to turn. If you find one false, say at which input.
  Laid BY PROGRAM, IN A SANDBOX (cutbox-rows.mjs): the forced cells as the released guide's own fill.sh prints them over the translation 1e864e6ad33dc824… (all of the seat's roots in one cut). By AI agents, Wed Nov 11 2026. No macro, syntax, notation, axiom, sorry.
-/
import Derived.Test.YtaeegkljldngmaaChecked
import GoSem.Claim
import GoSem.ClaimJoined
import GoSem.ClaimMapViews
import Derived.JoinedTies
import Derived.KernelRfl
namespace Go.Proofs.Ytaeegkljldngmaa
/- THE CELL 'sum', in the pinned program and in every row, IS THE sha256 OF THE DUMP (.gsa) THAT YtaeegkljldngmaaProg.lean LOADS. Nothing in Lean hashes anything: it is a label: what it is worth is what the hold of that sum in a sandbox is worth. -/
noncomputable def Try.pinned : Pinned := { name := "ytaeegkljldngmaa", sum := "1e864e6ad33dc82482c46e8c74216a167d972c1484e8e3e4b22f631b181dc986", checked := Try.checked }
namespace Rows
def none {H : Type} : Left H := { results := [], args := [] }

/-- 'effigylaw05.CodeEncodes': WHATEVER THE INPUT: true; the input reads as it did. -/
def codeEncodesSpec : ChangeSpec := { name := "codeEncodes", fn := fun _ => fun
  | [d] => { results := [.lit (.bool true)], args := [d] }
  | _ => none }
def codeEncodesRow : OpenClaim := { program := "ytaeegkljldngmaa", sum := "1e864e6ad33dc82482c46e8c74216a167d972c1484e8e3e4b22f631b181dc986", func := "effigy/effigylaw05.CodeEncodes", spec := "codeEncodes", unfollowed := true, recurses := true, apart := false }
def CodeEncodesSaid : Prop := codeEncodesRow.holds Try.pinned (OpenSpec.ofChange codeEncodesSpec)

/-- ITS FALSE NEIGHBOUR: 'it returns false'. Refute it at one input. -/
def codeEncodesWrong : ChangeSpec := { name := "codeEncodes", fn := fun _ => fun
  | [d] => { results := [.lit (.bool false)], args := [d] }
  | _ => none }
def CodeEncodesWrongFalsely : Prop := codeEncodesRow.holds Try.pinned (OpenSpec.ofChange codeEncodesWrong)

/-- 'effigylaw05.CodeLess': WHATEVER THE INPUT: true; the input reads as it did. -/
def codeLessSpec : ChangeSpec := { name := "codeLess", fn := fun _ => fun
  | [d1, d2, d3] => { results := [.lit (.bool true)], args := [d1, d2, d3] }
  | _ => none }
def codeLessRow : OpenClaim := { program := "ytaeegkljldngmaa", sum := "1e864e6ad33dc82482c46e8c74216a167d972c1484e8e3e4b22f631b181dc986", func := "effigy/effigylaw05.CodeLess", spec := "codeLess", unfollowed := true, recurses := true, apart := false }
def CodeLessSaid : Prop := codeLessRow.holds Try.pinned (OpenSpec.ofChange codeLessSpec)

/-- ITS FALSE NEIGHBOUR: 'it returns false'. Refute it at one input. -/
def codeLessWrong : ChangeSpec := { name := "codeLess", fn := fun _ => fun
  | [d1, d2, d3] => { results := [.lit (.bool false)], args := [d1, d2, d3] }
  | _ => none }
def CodeLessWrongFalsely : Prop := codeLessRow.holds Try.pinned (OpenSpec.ofChange codeLessWrong)

/-- 'effigylaw05.CodeStraight': WHATEVER THE INPUT: true; the input reads as it did. -/
def codeStraightSpec : ChangeSpec := { name := "codeStraight", fn := fun _ => fun
  | [d] => { results := [.lit (.bool true)], args := [d] }
  | _ => none }
def codeStraightRow : OpenClaim := { program := "ytaeegkljldngmaa", sum := "1e864e6ad33dc82482c46e8c74216a167d972c1484e8e3e4b22f631b181dc986", func := "effigy/effigylaw05.CodeStraight", spec := "codeStraight", unfollowed := true, recurses := true, apart := false }
def CodeStraightSaid : Prop := codeStraightRow.holds Try.pinned (OpenSpec.ofChange codeStraightSpec)

/-- ITS FALSE NEIGHBOUR: 'it returns false'. Refute it at one input. -/
def codeStraightWrong : ChangeSpec := { name := "codeStraight", fn := fun _ => fun
  | [d] => { results := [.lit (.bool false)], args := [d] }
  | _ => none }
def CodeStraightWrongFalsely : Prop := codeStraightRow.holds Try.pinned (OpenSpec.ofChange codeStraightWrong)

/-- 'effigylaw05.CodeNames': WHATEVER THE INPUT: true; the input reads as it did. -/
def codeNamesSpec : ChangeSpec := { name := "codeNames", fn := fun _ => fun
  | [d] => { results := [.lit (.bool true)], args := [d] }
  | _ => none }
def codeNamesRow : OpenClaim := { program := "ytaeegkljldngmaa", sum := "1e864e6ad33dc82482c46e8c74216a167d972c1484e8e3e4b22f631b181dc986", func := "effigy/effigylaw05.CodeNames", spec := "codeNames", unfollowed := true, recurses := true, apart := false }
def CodeNamesSaid : Prop := codeNamesRow.holds Try.pinned (OpenSpec.ofChange codeNamesSpec)

/-- ITS FALSE NEIGHBOUR: 'it returns false'. Refute it at one input. -/
def codeNamesWrong : ChangeSpec := { name := "codeNames", fn := fun _ => fun
  | [d] => { results := [.lit (.bool false)], args := [d] }
  | _ => none }
def CodeNamesWrongFalsely : Prop := codeNamesRow.holds Try.pinned (OpenSpec.ofChange codeNamesWrong)

/-- 'effigylaw05.CodeHeaders': WHATEVER THE INPUT: true; the input reads as it did. -/
def codeHeadersSpec : ChangeSpec := { name := "codeHeaders", fn := fun _ => fun
  | [d1, d2, d3, d4] => { results := [.lit (.bool true)], args := [d1, d2, d3, d4] }
  | _ => none }
def codeHeadersRow : OpenClaim := { program := "ytaeegkljldngmaa", sum := "1e864e6ad33dc82482c46e8c74216a167d972c1484e8e3e4b22f631b181dc986", func := "effigy/effigylaw05.CodeHeaders", spec := "codeHeaders", unfollowed := true, recurses := true, apart := false }
def CodeHeadersSaid : Prop := codeHeadersRow.holds Try.pinned (OpenSpec.ofChange codeHeadersSpec)

/-- ITS FALSE NEIGHBOUR: 'it returns false'. Refute it at one input. -/
def codeHeadersWrong : ChangeSpec := { name := "codeHeaders", fn := fun _ => fun
  | [d1, d2, d3, d4] => { results := [.lit (.bool false)], args := [d1, d2, d3, d4] }
  | _ => none }
def CodeHeadersWrongFalsely : Prop := codeHeadersRow.holds Try.pinned (OpenSpec.ofChange codeHeadersWrong)

/-- 'effigylaw05.CodeDecodes': WHATEVER THE INPUT: true; the input reads as it did. -/
def codeDecodesSpec : ChangeSpec := { name := "codeDecodes", fn := fun _ => fun
  | [d] => { results := [.lit (.bool true)], args := [d] }
  | _ => none }
def codeDecodesRow : OpenClaim := { program := "ytaeegkljldngmaa", sum := "1e864e6ad33dc82482c46e8c74216a167d972c1484e8e3e4b22f631b181dc986", func := "effigy/effigylaw05.CodeDecodes", spec := "codeDecodes", unfollowed := true, recurses := true, apart := false }
def CodeDecodesSaid : Prop := codeDecodesRow.holds Try.pinned (OpenSpec.ofChange codeDecodesSpec)

/-- ITS FALSE NEIGHBOUR: 'it returns false'. Refute it at one input. -/
def codeDecodesWrong : ChangeSpec := { name := "codeDecodes", fn := fun _ => fun
  | [d] => { results := [.lit (.bool false)], args := [d] }
  | _ => none }
def CodeDecodesWrongFalsely : Prop := codeDecodesRow.holds Try.pinned (OpenSpec.ofChange codeDecodesWrong)

/-- 'effigylaw05.CodeSafe': WHATEVER THE INPUT: true; the input reads as it did. -/
def codeSafeSpec : ChangeSpec := { name := "codeSafe", fn := fun _ => fun
  | [d1, d2, d3] => { results := [.lit (.bool true)], args := [d1, d2, d3] }
  | _ => none }
def codeSafeRow : OpenClaim := { program := "ytaeegkljldngmaa", sum := "1e864e6ad33dc82482c46e8c74216a167d972c1484e8e3e4b22f631b181dc986", func := "effigy/effigylaw05.CodeSafe", spec := "codeSafe", unfollowed := true, recurses := true, apart := false }
def CodeSafeSaid : Prop := codeSafeRow.holds Try.pinned (OpenSpec.ofChange codeSafeSpec)

/-- ITS FALSE NEIGHBOUR: 'it returns false'. Refute it at one input. -/
def codeSafeWrong : ChangeSpec := { name := "codeSafe", fn := fun _ => fun
  | [d1, d2, d3] => { results := [.lit (.bool false)], args := [d1, d2, d3] }
  | _ => none }
def CodeSafeWrongFalsely : Prop := codeSafeRow.holds Try.pinned (OpenSpec.ofChange codeSafeWrong)

/- THE SECOND FORM. 'bulk': how many values and letters a reading holds, each counted each time it is reached (what is shared counts as often as it is met; a slice's spare places count too). A statement '..UptoSaid' is the law's where the arguments, and the package variables that the reading takes, are together of bulk at most 1048576: NARROWER than '..Said'. Prove '..Said' where nothing that the law and all that it calls make is longer than what came in: it says more and counts as full. Else prove '..UptoSaid'. A law counts once. -/
mutual
def uptoBulk {H : Type} : DataW H → Nat
  | .lit (.string bytes) => bytes.length + 1
  | .lit _ => 1
  | .nil => 1
  | .ptr d => uptoBulk d + 1
  | .slice elems spare => uptoBulkAll elems + uptoBulkAll spare + 1
  | .agg parts => uptoBulkAll parts + 1
  | .iface _ d => uptoBulk d + 1
  | .map entries => uptoBulkEntries entries + 1
  | .held _ => 1
def uptoBulkAll {H : Type} : List (DataW H) → Nat
  | [] => 0
  | d :: r => uptoBulk d + uptoBulkAll r
def uptoBulkEntries {H : Type} : List (Lit × DataW H) → Nat
  | [] => 0
  | x :: r => uptoBulkEntry x + uptoBulkEntries r
def uptoBulkEntry {H : Type} : Lit × DataW H → Nat
  | (.string bytes, d) => bytes.length + uptoBulk d + 1
  | (_, d) => uptoBulk d + 1
 end
def uptoSmall : (H : Type) → List (DataW H) → Bool := fun _ ds => decide (uptoBulkAll ds ≤ 1048576)
def OpenSpec.upto (s : _root_.Go.ChangeSpec) : _root_.Go.OpenSpec := { _root_.Go.OpenSpec.ofChange s with cond := some uptoSmall }

/-- 'effigylaw05.CodeEncodes', WHERE WHAT IT READS IS OF BULK AT MOST 1048576: true; the input reads as it did. -/
def codeEncodesUptoRow : OpenClaim := { program := "ytaeegkljldngmaa", sum := "1e864e6ad33dc82482c46e8c74216a167d972c1484e8e3e4b22f631b181dc986", func := "effigy/effigylaw05.CodeEncodes", spec := "codeEncodes", unfollowed := true, recurses := true, apart := false, narrowed := true }
def CodeEncodesUptoSaid : Prop := codeEncodesUptoRow.holds Try.pinned (OpenSpec.upto codeEncodesSpec)

/-- 'effigylaw05.CodeLess', WHERE WHAT IT READS IS OF BULK AT MOST 1048576: true; the input reads as it did. -/
def codeLessUptoRow : OpenClaim := { program := "ytaeegkljldngmaa", sum := "1e864e6ad33dc82482c46e8c74216a167d972c1484e8e3e4b22f631b181dc986", func := "effigy/effigylaw05.CodeLess", spec := "codeLess", unfollowed := true, recurses := true, apart := false, narrowed := true }
def CodeLessUptoSaid : Prop := codeLessUptoRow.holds Try.pinned (OpenSpec.upto codeLessSpec)

/-- 'effigylaw05.CodeStraight', WHERE WHAT IT READS IS OF BULK AT MOST 1048576: true; the input reads as it did. -/
def codeStraightUptoRow : OpenClaim := { program := "ytaeegkljldngmaa", sum := "1e864e6ad33dc82482c46e8c74216a167d972c1484e8e3e4b22f631b181dc986", func := "effigy/effigylaw05.CodeStraight", spec := "codeStraight", unfollowed := true, recurses := true, apart := false, narrowed := true }
def CodeStraightUptoSaid : Prop := codeStraightUptoRow.holds Try.pinned (OpenSpec.upto codeStraightSpec)

/-- 'effigylaw05.CodeNames', WHERE WHAT IT READS IS OF BULK AT MOST 1048576: true; the input reads as it did. -/
def codeNamesUptoRow : OpenClaim := { program := "ytaeegkljldngmaa", sum := "1e864e6ad33dc82482c46e8c74216a167d972c1484e8e3e4b22f631b181dc986", func := "effigy/effigylaw05.CodeNames", spec := "codeNames", unfollowed := true, recurses := true, apart := false, narrowed := true }
def CodeNamesUptoSaid : Prop := codeNamesUptoRow.holds Try.pinned (OpenSpec.upto codeNamesSpec)

/-- 'effigylaw05.CodeHeaders', WHERE WHAT IT READS IS OF BULK AT MOST 1048576: true; the input reads as it did. -/
def codeHeadersUptoRow : OpenClaim := { program := "ytaeegkljldngmaa", sum := "1e864e6ad33dc82482c46e8c74216a167d972c1484e8e3e4b22f631b181dc986", func := "effigy/effigylaw05.CodeHeaders", spec := "codeHeaders", unfollowed := true, recurses := true, apart := false, narrowed := true }
def CodeHeadersUptoSaid : Prop := codeHeadersUptoRow.holds Try.pinned (OpenSpec.upto codeHeadersSpec)

/-- 'effigylaw05.CodeDecodes', WHERE WHAT IT READS IS OF BULK AT MOST 1048576: true; the input reads as it did. -/
def codeDecodesUptoRow : OpenClaim := { program := "ytaeegkljldngmaa", sum := "1e864e6ad33dc82482c46e8c74216a167d972c1484e8e3e4b22f631b181dc986", func := "effigy/effigylaw05.CodeDecodes", spec := "codeDecodes", unfollowed := true, recurses := true, apart := false, narrowed := true }
def CodeDecodesUptoSaid : Prop := codeDecodesUptoRow.holds Try.pinned (OpenSpec.upto codeDecodesSpec)

/-- 'effigylaw05.CodeSafe', WHERE WHAT IT READS IS OF BULK AT MOST 1048576: true; the input reads as it did. -/
def codeSafeUptoRow : OpenClaim := { program := "ytaeegkljldngmaa", sum := "1e864e6ad33dc82482c46e8c74216a167d972c1484e8e3e4b22f631b181dc986", func := "effigy/effigylaw05.CodeSafe", spec := "codeSafe", unfollowed := true, recurses := true, apart := false, narrowed := true }
def CodeSafeUptoSaid : Prop := codeSafeUptoRow.holds Try.pinned (OpenSpec.upto codeSafeSpec)

end Rows
end Go.Proofs.Ytaeegkljldngmaa
