/-
  NARROWER THAN 'FOR EVERY INPUT', by the rows' own cells (each row's printed sentence says how): SourceAsks: loops.
  DERIVED. THE GIVEN ROWS OF THIS SEAT. 2 by the template 'for every input the law returns true; each argument reads behind the call as it read before'; 0 by the template 'total and deterministic' (their statements: YtaigfelpecdajaaTotals.lean).
  GIVEN WITH THE SEED: the statements are not yours to turn. If you find one false, say at which input.
  Laid BY PROGRAM, IN A SANDBOX (cutbox-rows.mjs): the forced cells as the released guide's own fill.sh prints them over the translation 72c9aca9911bba98… (all of the seat's roots in one cut). By AI agents, Wed Nov 11 2026. No macro, syntax, notation, axiom, sorry.
-/
import Derived.Test.YtaigfelpecdajaaChecked
import GoSem.Claim
import GoSem.ClaimJoined
import GoSem.ClaimMapViews
import Derived.JoinedTies
import Derived.KernelRfl
namespace Go.Proofs.Ytaigfelpecdajaa
/- THE CELL 'sum', in the pinned program and in every row, IS THE sha256 OF THE DUMP (.gsa) THAT YtaigfelpecdajaaProg.lean LOADS. Nothing in Lean hashes anything: it is a label: what it is worth is what the hold of that sum in a sandbox is worth. -/
noncomputable def Try.pinned : Pinned := { name := "ytaigfelpecdajaa", sum := "72c9aca9911bba98873e45a5e721ca85b95f0f9d37ec3abf5b34caa11004ab4d", checked := Try.checked }
namespace Rows
def none {H : Type} : Left H := { results := [], args := [] }

/-- 'effigylaw12.SourceAsks': WHATEVER THE INPUT: true; the input reads as it did. -/
def sourceAsksSpec : ChangeSpec := { name := "sourceAsks", fn := fun _ => fun
  | [d1, d2, d3] => { results := [.lit (.bool true)], args := [d1, d2, d3] }
  | _ => none }
def sourceAsksRow : OpenClaim := { program := "ytaigfelpecdajaa", sum := "72c9aca9911bba98873e45a5e721ca85b95f0f9d37ec3abf5b34caa11004ab4d", func := "effigy/effigylaw12.SourceAsks", spec := "sourceAsks", unfollowed := true, recurses := true, loops := true, apart := false }
def SourceAsksSaid : Prop := sourceAsksRow.holds Try.pinned (OpenSpec.ofChange sourceAsksSpec)

/-- ITS FALSE NEIGHBOUR: 'it returns false'. Refute it at one input. -/
def sourceAsksWrong : ChangeSpec := { name := "sourceAsks", fn := fun _ => fun
  | [d1, d2, d3] => { results := [.lit (.bool false)], args := [d1, d2, d3] }
  | _ => none }
def SourceAsksWrongFalsely : Prop := sourceAsksRow.holds Try.pinned (OpenSpec.ofChange sourceAsksWrong)

/-- 'effigylaw12.SourceLexes': WHATEVER THE INPUT: true; the input reads as it did. -/
def sourceLexesSpec : ChangeSpec := { name := "sourceLexes", fn := fun _ => fun
  | [d] => { results := [.lit (.bool true)], args := [d] }
  | _ => none }
def sourceLexesRow : OpenClaim := { program := "ytaigfelpecdajaa", sum := "72c9aca9911bba98873e45a5e721ca85b95f0f9d37ec3abf5b34caa11004ab4d", func := "effigy/effigylaw12.SourceLexes", spec := "sourceLexes", apart := false }
def SourceLexesSaid : Prop := sourceLexesRow.holds Try.pinned (OpenSpec.ofChange sourceLexesSpec)

/-- ITS FALSE NEIGHBOUR: 'it returns false'. Refute it at one input. -/
def sourceLexesWrong : ChangeSpec := { name := "sourceLexes", fn := fun _ => fun
  | [d] => { results := [.lit (.bool false)], args := [d] }
  | _ => none }
def SourceLexesWrongFalsely : Prop := sourceLexesRow.holds Try.pinned (OpenSpec.ofChange sourceLexesWrong)

/- THE SECOND FORM. 'bulk': how many values and letters a reading holds, each counted each time it is reached (what is shared counts as often as it is met; a slice's spare places count too). A statement '..UptoSaid' is the law's where the arguments, and the package variables that the reading takes, are together of bulk at most 1048576: NARROWER than '..Said'. Prove '..Said' where nothing that the law and all that it calls make is longer than what came in: it says more and counts as full. Else prove '..UptoSaid'. A law counts once. -/
mutual
def uptoBulk {H : Type} : DataW H → Nat
  | .lit (.string bytes) => bytes.length + 1
  | .lit _ => 1
  | .nil => 1
  | .ptr d => uptoBulk d + 1
  | .slice elems spare => uptoBulkAll elems + uptoBulkAll spare + 1
  | .agg parts => uptoBulkAll parts + 1
  | .iface _ d => uptoBulk d + 1
  | .map entries => uptoBulkEntries entries + 1
  | .held _ => 1
def uptoBulkAll {H : Type} : List (DataW H) → Nat
  | [] => 0
  | d :: r => uptoBulk d + uptoBulkAll r
def uptoBulkEntries {H : Type} : List (Lit × DataW H) → Nat
  | [] => 0
  | x :: r => uptoBulkEntry x + uptoBulkEntries r
def uptoBulkEntry {H : Type} : Lit × DataW H → Nat
  | (.string bytes, d) => bytes.length + uptoBulk d + 1
  | (_, d) => uptoBulk d + 1
 end
def uptoSmall : (H : Type) → List (DataW H) → Bool := fun _ ds => decide (uptoBulkAll ds ≤ 1048576)
def OpenSpec.upto (s : _root_.Go.ChangeSpec) : _root_.Go.OpenSpec := { _root_.Go.OpenSpec.ofChange s with cond := some uptoSmall }

/-- 'effigylaw12.SourceAsks', WHERE WHAT IT READS IS OF BULK AT MOST 1048576: true; the input reads as it did. -/
def sourceAsksUptoRow : OpenClaim := { program := "ytaigfelpecdajaa", sum := "72c9aca9911bba98873e45a5e721ca85b95f0f9d37ec3abf5b34caa11004ab4d", func := "effigy/effigylaw12.SourceAsks", spec := "sourceAsks", unfollowed := true, recurses := true, loops := true, apart := false, narrowed := true }
def SourceAsksUptoSaid : Prop := sourceAsksUptoRow.holds Try.pinned (OpenSpec.upto sourceAsksSpec)

/-- 'effigylaw12.SourceLexes', WHERE WHAT IT READS IS OF BULK AT MOST 1048576: true; the input reads as it did. -/
def sourceLexesUptoRow : OpenClaim := { program := "ytaigfelpecdajaa", sum := "72c9aca9911bba98873e45a5e721ca85b95f0f9d37ec3abf5b34caa11004ab4d", func := "effigy/effigylaw12.SourceLexes", spec := "sourceLexes", apart := false, narrowed := true }
def SourceLexesUptoSaid : Prop := sourceLexesUptoRow.holds Try.pinned (OpenSpec.upto sourceLexesSpec)

end Rows
end Go.Proofs.Ytaigfelpecdajaa
