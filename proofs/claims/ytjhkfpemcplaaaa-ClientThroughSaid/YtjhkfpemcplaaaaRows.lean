/-
  No cell of these rows narrows 'for every input' (looked for: loops, veiled, ifaces, maps, wideKeys, modest, calm, conditions, laid).
  DERIVED. THE GIVEN ROWS OF THIS SEAT. 7 by the template 'for every input the law returns true; each argument reads behind the call as it read before'; 0 by the template 'total and deterministic' (their statements: YtjhkfpemcplaaaaTotals.lean).
  GIVEN WITH THE SEED: the statements are not yours to turn. If you find one false, say at which input.
  Laid BY PROGRAM, IN A SANDBOX (cutbox-rows.mjs): the forced cells as the released guide's own fill.sh prints them over the translation d2bb43fb0bddf59d… (all of the seat's roots in one cut). By AI agents, Wed Nov 11 2026. No macro, syntax, notation, axiom, sorry.
-/
import Derived.Test.YtjhkfpemcplaaaaChecked
import GoSem.Claim
import GoSem.ClaimJoined
import GoSem.ClaimMapViews
import Derived.JoinedTies
import Derived.KernelRfl
namespace Go.Proofs.Ytjhkfpemcplaaaa
/- THE CELL 'sum', in the pinned program and in every row, IS THE sha256 OF THE DUMP (.gsa) THAT YtjhkfpemcplaaaaProg.lean LOADS. Nothing in Lean hashes anything: it is a label: what it is worth is what the hold of that sum in a sandbox is worth. -/
noncomputable def Try.pinned : Pinned := { name := "ytjhkfpemcplaaaa", sum := "d2bb43fb0bddf59d7832865822c9f131be3f2cef463f3626424c581144edd986", checked := Try.checked }
namespace Rows
def none {H : Type} : Left H := { results := [], args := [] }

/-- 'effigylaw20.ClientSends': WHATEVER THE INPUT: true; the input reads as it did. -/
def clientSendsSpec : ChangeSpec := { name := "clientSends", fn := fun _ => fun
  | [d1, d2, d3, d4] => { results := [.lit (.bool true)], args := [d1, d2, d3, d4] }
  | _ => none }
def clientSendsRow : OpenClaim := { program := "ytjhkfpemcplaaaa", sum := "d2bb43fb0bddf59d7832865822c9f131be3f2cef463f3626424c581144edd986", func := "effigy/effigylaw20.ClientSends", spec := "clientSends", unfollowed := true, recurses := true, apart := false }
def ClientSendsSaid : Prop := clientSendsRow.holds Try.pinned (OpenSpec.ofChange clientSendsSpec)

/-- ITS FALSE NEIGHBOUR: 'it returns false'. Refute it at one input. -/
def clientSendsWrong : ChangeSpec := { name := "clientSends", fn := fun _ => fun
  | [d1, d2, d3, d4] => { results := [.lit (.bool false)], args := [d1, d2, d3, d4] }
  | _ => none }
def ClientSendsWrongFalsely : Prop := clientSendsRow.holds Try.pinned (OpenSpec.ofChange clientSendsWrong)

/-- 'effigylaw20.ClientFresh': WHATEVER THE INPUT: true; the input reads as it did. -/
def clientFreshSpec : ChangeSpec := { name := "clientFresh", fn := fun _ => fun
  | [d1, d2] => { results := [.lit (.bool true)], args := [d1, d2] }
  | _ => none }
def clientFreshRow : OpenClaim := { program := "ytjhkfpemcplaaaa", sum := "d2bb43fb0bddf59d7832865822c9f131be3f2cef463f3626424c581144edd986", func := "effigy/effigylaw20.ClientFresh", spec := "clientFresh", unfollowed := true, recurses := true, apart := false }
def ClientFreshSaid : Prop := clientFreshRow.holds Try.pinned (OpenSpec.ofChange clientFreshSpec)

/-- ITS FALSE NEIGHBOUR: 'it returns false'. Refute it at one input. -/
def clientFreshWrong : ChangeSpec := { name := "clientFresh", fn := fun _ => fun
  | [d1, d2] => { results := [.lit (.bool false)], args := [d1, d2] }
  | _ => none }
def ClientFreshWrongFalsely : Prop := clientFreshRow.holds Try.pinned (OpenSpec.ofChange clientFreshWrong)

/-- 'effigylaw20.ClientEnds': WHATEVER THE INPUT: true; the input reads as it did. -/
def clientEndsSpec : ChangeSpec := { name := "clientEnds", fn := fun _ => fun
  | [d1, d2, d3, d4, d5] => { results := [.lit (.bool true)], args := [d1, d2, d3, d4, d5] }
  | _ => none }
def clientEndsRow : OpenClaim := { program := "ytjhkfpemcplaaaa", sum := "d2bb43fb0bddf59d7832865822c9f131be3f2cef463f3626424c581144edd986", func := "effigy/effigylaw20.ClientEnds", spec := "clientEnds", unfollowed := true, recurses := true, apart := false }
def ClientEndsSaid : Prop := clientEndsRow.holds Try.pinned (OpenSpec.ofChange clientEndsSpec)

/-- ITS FALSE NEIGHBOUR: 'it returns false'. Refute it at one input. -/
def clientEndsWrong : ChangeSpec := { name := "clientEnds", fn := fun _ => fun
  | [d1, d2, d3, d4, d5] => { results := [.lit (.bool false)], args := [d1, d2, d3, d4, d5] }
  | _ => none }
def ClientEndsWrongFalsely : Prop := clientEndsRow.holds Try.pinned (OpenSpec.ofChange clientEndsWrong)

/-- 'effigylaw20.ClientOnce': WHATEVER THE INPUT: true; the input reads as it did. -/
def clientOnceSpec : ChangeSpec := { name := "clientOnce", fn := fun _ => fun
  | [d1, d2, d3, d4] => { results := [.lit (.bool true)], args := [d1, d2, d3, d4] }
  | _ => none }
def clientOnceRow : OpenClaim := { program := "ytjhkfpemcplaaaa", sum := "d2bb43fb0bddf59d7832865822c9f131be3f2cef463f3626424c581144edd986", func := "effigy/effigylaw20.ClientOnce", spec := "clientOnce", unfollowed := true, recurses := true, apart := false }
def ClientOnceSaid : Prop := clientOnceRow.holds Try.pinned (OpenSpec.ofChange clientOnceSpec)

/-- ITS FALSE NEIGHBOUR: 'it returns false'. Refute it at one input. -/
def clientOnceWrong : ChangeSpec := { name := "clientOnce", fn := fun _ => fun
  | [d1, d2, d3, d4] => { results := [.lit (.bool false)], args := [d1, d2, d3, d4] }
  | _ => none }
def ClientOnceWrongFalsely : Prop := clientOnceRow.holds Try.pinned (OpenSpec.ofChange clientOnceWrong)

/-- 'effigylaw20.ClientThrough': WHATEVER THE INPUT: true; the input reads as it did. -/
def clientThroughSpec : ChangeSpec := { name := "clientThrough", fn := fun _ => fun
  | [d1, d2, d3, d4, d5] => { results := [.lit (.bool true)], args := [d1, d2, d3, d4, d5] }
  | _ => none }
def clientThroughRow : OpenClaim := { program := "ytjhkfpemcplaaaa", sum := "d2bb43fb0bddf59d7832865822c9f131be3f2cef463f3626424c581144edd986", func := "effigy/effigylaw20.ClientThrough", spec := "clientThrough", unfollowed := true, recurses := true, apart := false }
def ClientThroughSaid : Prop := clientThroughRow.holds Try.pinned (OpenSpec.ofChange clientThroughSpec)

/-- ITS FALSE NEIGHBOUR: 'it returns false'. Refute it at one input. -/
def clientThroughWrong : ChangeSpec := { name := "clientThrough", fn := fun _ => fun
  | [d1, d2, d3, d4, d5] => { results := [.lit (.bool false)], args := [d1, d2, d3, d4, d5] }
  | _ => none }
def ClientThroughWrongFalsely : Prop := clientThroughRow.holds Try.pinned (OpenSpec.ofChange clientThroughWrong)

/-- 'effigylaw20.ClientDoes': WHATEVER THE INPUT: true; the input reads as it did. -/
def clientDoesSpec : ChangeSpec := { name := "clientDoes", fn := fun _ => fun
  | [d1, d2, d3, d4] => { results := [.lit (.bool true)], args := [d1, d2, d3, d4] }
  | _ => none }
def clientDoesRow : OpenClaim := { program := "ytjhkfpemcplaaaa", sum := "d2bb43fb0bddf59d7832865822c9f131be3f2cef463f3626424c581144edd986", func := "effigy/effigylaw20.ClientDoes", spec := "clientDoes", unfollowed := true, recurses := true, apart := false }
def ClientDoesSaid : Prop := clientDoesRow.holds Try.pinned (OpenSpec.ofChange clientDoesSpec)

/-- ITS FALSE NEIGHBOUR: 'it returns false'. Refute it at one input. -/
def clientDoesWrong : ChangeSpec := { name := "clientDoes", fn := fun _ => fun
  | [d1, d2, d3, d4] => { results := [.lit (.bool false)], args := [d1, d2, d3, d4] }
  | _ => none }
def ClientDoesWrongFalsely : Prop := clientDoesRow.holds Try.pinned (OpenSpec.ofChange clientDoesWrong)

/-- 'effigylaw20.ClientNil': WHATEVER THE INPUT: true; the input reads as it did. -/
def clientNilSpec : ChangeSpec := { name := "clientNil", fn := fun _ => fun
  | [d] => { results := [.lit (.bool true)], args := [d] }
  | _ => none }
def clientNilRow : OpenClaim := { program := "ytjhkfpemcplaaaa", sum := "d2bb43fb0bddf59d7832865822c9f131be3f2cef463f3626424c581144edd986", func := "effigy/effigylaw20.ClientNil", spec := "clientNil", unfollowed := true, recurses := true, apart := false }
def ClientNilSaid : Prop := clientNilRow.holds Try.pinned (OpenSpec.ofChange clientNilSpec)

/-- ITS FALSE NEIGHBOUR: 'it returns false'. Refute it at one input. -/
def clientNilWrong : ChangeSpec := { name := "clientNil", fn := fun _ => fun
  | [d] => { results := [.lit (.bool false)], args := [d] }
  | _ => none }
def ClientNilWrongFalsely : Prop := clientNilRow.holds Try.pinned (OpenSpec.ofChange clientNilWrong)

/- THE SECOND FORM. 'bulk': how many values and letters a reading holds, each counted each time it is reached (what is shared counts as often as it is met; a slice's spare places count too). A statement '..UptoSaid' is the law's where the arguments, and the package variables that the reading takes, are together of bulk at most 1048576: NARROWER than '..Said'. Prove '..Said' where nothing that the law and all that it calls make is longer than what came in: it says more and counts as full. Else prove '..UptoSaid'. A law counts once. -/
mutual
def uptoBulk {H : Type} : DataW H → Nat
  | .lit (.string bytes) => bytes.length + 1
  | .lit _ => 1
  | .nil => 1
  | .ptr d => uptoBulk d + 1
  | .slice elems spare => uptoBulkAll elems + uptoBulkAll spare + 1
  | .agg parts => uptoBulkAll parts + 1
  | .iface _ d => uptoBulk d + 1
  | .map entries => uptoBulkEntries entries + 1
  | .held _ => 1
def uptoBulkAll {H : Type} : List (DataW H) → Nat
  | [] => 0
  | d :: r => uptoBulk d + uptoBulkAll r
def uptoBulkEntries {H : Type} : List (Lit × DataW H) → Nat
  | [] => 0
  | x :: r => uptoBulkEntry x + uptoBulkEntries r
def uptoBulkEntry {H : Type} : Lit × DataW H → Nat
  | (.string bytes, d) => bytes.length + uptoBulk d + 1
  | (_, d) => uptoBulk d + 1
 end
def uptoSmall : (H : Type) → List (DataW H) → Bool := fun _ ds => decide (uptoBulkAll ds ≤ 1048576)
def OpenSpec.upto (s : _root_.Go.ChangeSpec) : _root_.Go.OpenSpec := { _root_.Go.OpenSpec.ofChange s with cond := some uptoSmall }

/-- 'effigylaw20.ClientSends', WHERE WHAT IT READS IS OF BULK AT MOST 1048576: true; the input reads as it did. -/
def clientSendsUptoRow : OpenClaim := { program := "ytjhkfpemcplaaaa", sum := "d2bb43fb0bddf59d7832865822c9f131be3f2cef463f3626424c581144edd986", func := "effigy/effigylaw20.ClientSends", spec := "clientSends", unfollowed := true, recurses := true, apart := false, narrowed := true }
def ClientSendsUptoSaid : Prop := clientSendsUptoRow.holds Try.pinned (OpenSpec.upto clientSendsSpec)

/-- 'effigylaw20.ClientFresh', WHERE WHAT IT READS IS OF BULK AT MOST 1048576: true; the input reads as it did. -/
def clientFreshUptoRow : OpenClaim := { program := "ytjhkfpemcplaaaa", sum := "d2bb43fb0bddf59d7832865822c9f131be3f2cef463f3626424c581144edd986", func := "effigy/effigylaw20.ClientFresh", spec := "clientFresh", unfollowed := true, recurses := true, apart := false, narrowed := true }
def ClientFreshUptoSaid : Prop := clientFreshUptoRow.holds Try.pinned (OpenSpec.upto clientFreshSpec)

/-- 'effigylaw20.ClientEnds', WHERE WHAT IT READS IS OF BULK AT MOST 1048576: true; the input reads as it did. -/
def clientEndsUptoRow : OpenClaim := { program := "ytjhkfpemcplaaaa", sum := "d2bb43fb0bddf59d7832865822c9f131be3f2cef463f3626424c581144edd986", func := "effigy/effigylaw20.ClientEnds", spec := "clientEnds", unfollowed := true, recurses := true, apart := false, narrowed := true }
def ClientEndsUptoSaid : Prop := clientEndsUptoRow.holds Try.pinned (OpenSpec.upto clientEndsSpec)

/-- 'effigylaw20.ClientOnce', WHERE WHAT IT READS IS OF BULK AT MOST 1048576: true; the input reads as it did. -/
def clientOnceUptoRow : OpenClaim := { program := "ytjhkfpemcplaaaa", sum := "d2bb43fb0bddf59d7832865822c9f131be3f2cef463f3626424c581144edd986", func := "effigy/effigylaw20.ClientOnce", spec := "clientOnce", unfollowed := true, recurses := true, apart := false, narrowed := true }
def ClientOnceUptoSaid : Prop := clientOnceUptoRow.holds Try.pinned (OpenSpec.upto clientOnceSpec)

/-- 'effigylaw20.ClientThrough', WHERE WHAT IT READS IS OF BULK AT MOST 1048576: true; the input reads as it did. -/
def clientThroughUptoRow : OpenClaim := { program := "ytjhkfpemcplaaaa", sum := "d2bb43fb0bddf59d7832865822c9f131be3f2cef463f3626424c581144edd986", func := "effigy/effigylaw20.ClientThrough", spec := "clientThrough", unfollowed := true, recurses := true, apart := false, narrowed := true }
def ClientThroughUptoSaid : Prop := clientThroughUptoRow.holds Try.pinned (OpenSpec.upto clientThroughSpec)

/-- 'effigylaw20.ClientDoes', WHERE WHAT IT READS IS OF BULK AT MOST 1048576: true; the input reads as it did. -/
def clientDoesUptoRow : OpenClaim := { program := "ytjhkfpemcplaaaa", sum := "d2bb43fb0bddf59d7832865822c9f131be3f2cef463f3626424c581144edd986", func := "effigy/effigylaw20.ClientDoes", spec := "clientDoes", unfollowed := true, recurses := true, apart := false, narrowed := true }
def ClientDoesUptoSaid : Prop := clientDoesUptoRow.holds Try.pinned (OpenSpec.upto clientDoesSpec)

/-- 'effigylaw20.ClientNil', WHERE WHAT IT READS IS OF BULK AT MOST 1048576: true; the input reads as it did. -/
def clientNilUptoRow : OpenClaim := { program := "ytjhkfpemcplaaaa", sum := "d2bb43fb0bddf59d7832865822c9f131be3f2cef463f3626424c581144edd986", func := "effigy/effigylaw20.ClientNil", spec := "clientNil", unfollowed := true, recurses := true, apart := false, narrowed := true }
def ClientNilUptoSaid : Prop := clientNilUptoRow.holds Try.pinned (OpenSpec.upto clientNilSpec)

end Rows
end Go.Proofs.Ytjhkfpemcplaaaa
