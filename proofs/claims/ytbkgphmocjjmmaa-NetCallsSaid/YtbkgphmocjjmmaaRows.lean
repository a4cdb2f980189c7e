/-
  No cell of these rows narrows 'for every input' (looked for: loops, veiled, ifaces, maps, wideKeys, modest, calm, conditions, laid).
  DERIVED. THE GIVEN ROWS OF THIS SEAT. 6 by the template 'for every input the law returns true; each argument reads behind the call as it read before'; 0 by the template 'total and deterministic' (their statements: YtbkgphmocjjmmaaTotals.lean).
  GIVEN WITH THE SEED: the statements are not yours to turn. If you find one false, say at which input.
  Laid BY PROGRAM, IN A SANDBOX (cutbox-rows.mjs): the forced cells as the released guide's own fill.sh prints them over the translation c64db9b32cb7edaa… (all of the seat's roots in one cut). By AI agents, Wed Nov 11 2026. No macro, syntax, notation, axiom, sorry.
-/
import Derived.Test.YtbkgphmocjjmmaaChecked
import GoSem.Claim
import GoSem.ClaimJoined
import GoSem.ClaimMapViews
import Derived.JoinedTies
import Derived.KernelRfl
namespace Go.Proofs.Ytbkgphmocjjmmaa
/- THE CELL 'sum', in the pinned program and in every row, IS THE sha256 OF THE DUMP (.gsa) THAT YtbkgphmocjjmmaaProg.lean LOADS. Nothing in Lean hashes anything: it is a label: what it is worth is what the hold of that sum in a sandbox is worth. -/
noncomputable def Try.pinned : Pinned := { name := "ytbkgphmocjjmmaa", sum := "c64db9b32cb7edaaff03994f89ec664dca72fbe093cde226e9661118a32e6a04", checked := Try.checked }
namespace Rows
def none {H : Type} : Left H := { results := [], args := [] }

/-- 'effigylaw18.NetOrder': WHATEVER THE INPUT: true; the input reads as it did. -/
def netOrderSpec : ChangeSpec := { name := "netOrder", fn := fun _ => fun
  | [d1, d2, d3] => { results := [.lit (.bool true)], args := [d1, d2, d3] }
  | _ => none }
def netOrderRow : OpenClaim := { program := "ytbkgphmocjjmmaa", sum := "c64db9b32cb7edaaff03994f89ec664dca72fbe093cde226e9661118a32e6a04", func := "effigy/effigylaw18.NetOrder", spec := "netOrder", inPlace := ["slices.overlaps[effigy/api.NetPacket]"], apart := false }
def NetOrderSaid : Prop := netOrderRow.holds Try.pinned (OpenSpec.ofChange netOrderSpec)

/-- ITS FALSE NEIGHBOUR: 'it returns false'. Refute it at one input. -/
def netOrderWrong : ChangeSpec := { name := "netOrder", fn := fun _ => fun
  | [d1, d2, d3] => { results := [.lit (.bool false)], args := [d1, d2, d3] }
  | _ => none }
def NetOrderWrongFalsely : Prop := netOrderRow.holds Try.pinned (OpenSpec.ofChange netOrderWrong)

/-- 'effigylaw18.NetFresh': WHATEVER THE INPUT: true; the input reads as it did. -/
def netFreshSpec : ChangeSpec := { name := "netFresh", fn := fun _ => fun
  | [d1, d2] => { results := [.lit (.bool true)], args := [d1, d2] }
  | _ => none }
def netFreshRow : OpenClaim := { program := "ytbkgphmocjjmmaa", sum := "c64db9b32cb7edaaff03994f89ec664dca72fbe093cde226e9661118a32e6a04", func := "effigy/effigylaw18.NetFresh", spec := "netFresh", inPlace := ["slices.overlaps[effigy/api.NetPacket]"], apart := false }
def NetFreshSaid : Prop := netFreshRow.holds Try.pinned (OpenSpec.ofChange netFreshSpec)

/-- ITS FALSE NEIGHBOUR: 'it returns false'. Refute it at one input. -/
def netFreshWrong : ChangeSpec := { name := "netFresh", fn := fun _ => fun
  | [d1, d2] => { results := [.lit (.bool false)], args := [d1, d2] }
  | _ => none }
def NetFreshWrongFalsely : Prop := netFreshRow.holds Try.pinned (OpenSpec.ofChange netFreshWrong)

/-- 'effigylaw18.NetPlays': WHATEVER THE INPUT: true; the input reads as it did. -/
def netPlaysSpec : ChangeSpec := { name := "netPlays", fn := fun _ => fun
  | [d1, d2] => { results := [.lit (.bool true)], args := [d1, d2] }
  | _ => none }
def netPlaysRow : OpenClaim := { program := "ytbkgphmocjjmmaa", sum := "c64db9b32cb7edaaff03994f89ec664dca72fbe093cde226e9661118a32e6a04", func := "effigy/effigylaw18.NetPlays", spec := "netPlays", inPlace := ["slices.overlaps[effigy/api.NetPacket]"], apart := false }
def NetPlaysSaid : Prop := netPlaysRow.holds Try.pinned (OpenSpec.ofChange netPlaysSpec)

/-- ITS FALSE NEIGHBOUR: 'it returns false'. Refute it at one input. -/
def netPlaysWrong : ChangeSpec := { name := "netPlays", fn := fun _ => fun
  | [d1, d2] => { results := [.lit (.bool false)], args := [d1, d2] }
  | _ => none }
def NetPlaysWrongFalsely : Prop := netPlaysRow.holds Try.pinned (OpenSpec.ofChange netPlaysWrong)

/-- 'effigylaw18.NetCalls': WHATEVER THE INPUT: true; the input reads as it did. -/
def netCallsSpec : ChangeSpec := { name := "netCalls", fn := fun _ => fun
  | [d1, d2] => { results := [.lit (.bool true)], args := [d1, d2] }
  | _ => none }
def netCallsRow : OpenClaim := { program := "ytbkgphmocjjmmaa", sum := "c64db9b32cb7edaaff03994f89ec664dca72fbe093cde226e9661118a32e6a04", func := "effigy/effigylaw18.NetCalls", spec := "netCalls", inPlace := ["slices.overlaps[effigy/api.NetPacket]"], apart := false }
def NetCallsSaid : Prop := netCallsRow.holds Try.pinned (OpenSpec.ofChange netCallsSpec)

/-- ITS FALSE NEIGHBOUR: 'it returns false'. Refute it at one input. -/
def netCallsWrong : ChangeSpec := { name := "netCalls", fn := fun _ => fun
  | [d1, d2] => { results := [.lit (.bool false)], args := [d1, d2] }
  | _ => none }
def NetCallsWrongFalsely : Prop := netCallsRow.holds Try.pinned (OpenSpec.ofChange netCallsWrong)

/-- 'effigylaw18.NetNil': WHATEVER THE INPUT: true; the input reads as it did. -/
def netNilSpec : ChangeSpec := { name := "netNil", fn := fun _ => fun
  | [d] => { results := [.lit (.bool true)], args := [d] }
  | _ => none }
def netNilRow : OpenClaim := { program := "ytbkgphmocjjmmaa", sum := "c64db9b32cb7edaaff03994f89ec664dca72fbe093cde226e9661118a32e6a04", func := "effigy/effigylaw18.NetNil", spec := "netNil", inPlace := ["slices.overlaps[effigy/api.NetPacket]"], apart := false }
def NetNilSaid : Prop := netNilRow.holds Try.pinned (OpenSpec.ofChange netNilSpec)

/-- ITS FALSE NEIGHBOUR: 'it returns false'. Refute it at one input. -/
def netNilWrong : ChangeSpec := { name := "netNil", fn := fun _ => fun
  | [d] => { results := [.lit (.bool false)], args := [d] }
  | _ => none }
def NetNilWrongFalsely : Prop := netNilRow.holds Try.pinned (OpenSpec.ofChange netNilWrong)

/-- 'effigylaw18.NetConserves': WHATEVER THE INPUT: true; the input reads as it did. -/
def netConservesSpec : ChangeSpec := { name := "netConserves", fn := fun _ => fun
  | [d1, d2] => { results := [.lit (.bool true)], args := [d1, d2] }
  | _ => none }
def netConservesRow : OpenClaim := { program := "ytbkgphmocjjmmaa", sum := "c64db9b32cb7edaaff03994f89ec664dca72fbe093cde226e9661118a32e6a04", func := "effigy/effigylaw18.NetConserves", spec := "netConserves", inPlace := ["slices.overlaps[effigy/api.NetPacket]"], apart := false }
def NetConservesSaid : Prop := netConservesRow.holds Try.pinned (OpenSpec.ofChange netConservesSpec)

/-- ITS FALSE NEIGHBOUR: 'it returns false'. Refute it at one input. -/
def netConservesWrong : ChangeSpec := { name := "netConserves", fn := fun _ => fun
  | [d1, d2] => { results := [.lit (.bool false)], args := [d1, d2] }
  | _ => none }
def NetConservesWrongFalsely : Prop := netConservesRow.holds Try.pinned (OpenSpec.ofChange netConservesWrong)

/- THE SECOND FORM. 'bulk': how many values and letters a reading holds, each counted each time it is reached (what is shared counts as often as it is met; a slice's spare places count too). A statement '..UptoSaid' is the law's where the arguments, and the package variables that the reading takes, are together of bulk at most 1048576: NARROWER than '..Said'. Prove '..Said' where nothing that the law and all that it calls make is longer than what came in: it says more and counts as full. Else prove '..UptoSaid'. A law counts once. -/
mutual
def uptoBulk {H : Type} : DataW H → Nat
  | .lit (.string bytes) => bytes.length + 1
  | .lit _ => 1
  | .nil => 1
  | .ptr d => uptoBulk d + 1
  | .slice elems spare => uptoBulkAll elems + uptoBulkAll spare + 1
  | .agg parts => uptoBulkAll parts + 1
  | .iface _ d => uptoBulk d + 1
  | .map entries => uptoBulkEntries entries + 1
  | .held _ => 1
def uptoBulkAll {H : Type} : List (DataW H) → Nat
  | [] => 0
  | d :: r => uptoBulk d + uptoBulkAll r
def uptoBulkEntries {H : Type} : List (Lit × DataW H) → Nat
  | [] => 0
  | x :: r => uptoBulkEntry x + uptoBulkEntries r
def uptoBulkEntry {H : Type} : Lit × DataW H → Nat
  | (.string bytes, d) => bytes.length + uptoBulk d + 1
  | (_, d) => uptoBulk d + 1
 end
def uptoSmall : (H : Type) → List (DataW H) → Bool := fun _ ds => decide (uptoBulkAll ds ≤ 1048576)
def OpenSpec.upto (s : _root_.Go.ChangeSpec) : _root_.Go.OpenSpec := { _root_.Go.OpenSpec.ofChange s with cond := some uptoSmall }

/-- 'effigylaw18.NetOrder', WHERE WHAT IT READS IS OF BULK AT MOST 1048576: true; the input reads as it did. -/
def netOrderUptoRow : OpenClaim := { program := "ytbkgphmocjjmmaa", sum := "c64db9b32cb7edaaff03994f89ec664dca72fbe093cde226e9661118a32e6a04", func := "effigy/effigylaw18.NetOrder", spec := "netOrder", inPlace := ["slices.overlaps[effigy/api.NetPacket]"], apart := false, narrowed := true }
def NetOrderUptoSaid : Prop := netOrderUptoRow.holds Try.pinned (OpenSpec.upto netOrderSpec)

/-- 'effigylaw18.NetFresh', WHERE WHAT IT READS IS OF BULK AT MOST 1048576: true; the input reads as it did. -/
def netFreshUptoRow : OpenClaim := { program := "ytbkgphmocjjmmaa", sum := "c64db9b32cb7edaaff03994f89ec664dca72fbe093cde226e9661118a32e6a04", func := "effigy/effigylaw18.NetFresh", spec := "netFresh", inPlace := ["slices.overlaps[effigy/api.NetPacket]"], apart := false, narrowed := true }
def NetFreshUptoSaid : Prop := netFreshUptoRow.holds Try.pinned (OpenSpec.upto netFreshSpec)

/-- 'effigylaw18.NetPlays', WHERE WHAT IT READS IS OF BULK AT MOST 1048576: true; the input reads as it did. -/
def netPlaysUptoRow : OpenClaim := { program := "ytbkgphmocjjmmaa", sum := "c64db9b32cb7edaaff03994f89ec664dca72fbe093cde226e9661118a32e6a04", func := "effigy/effigylaw18.NetPlays", spec := "netPlays", inPlace := ["slices.overlaps[effigy/api.NetPacket]"], apart := false, narrowed := true }
def NetPlaysUptoSaid : Prop := netPlaysUptoRow.holds Try.pinned (OpenSpec.upto netPlaysSpec)

/-- 'effigylaw18.NetCalls', WHERE WHAT IT READS IS OF BULK AT MOST 1048576: true; the input reads as it did. -/
def netCallsUptoRow : OpenClaim := { program := "ytbkgphmocjjmmaa", sum := "c64db9b32cb7edaaff03994f89ec664dca72fbe093cde226e9661118a32e6a04", func := "effigy/effigylaw18.NetCalls", spec := "netCalls", inPlace := ["slices.overlaps[effigy/api.NetPacket]"], apart := false, narrowed := true }
def NetCallsUptoSaid : Prop := netCallsUptoRow.holds Try.pinned (OpenSpec.upto netCallsSpec)

/-- 'effigylaw18.NetNil', WHERE WHAT IT READS IS OF BULK AT MOST 1048576: true; the input reads as it did. -/
def netNilUptoRow : OpenClaim := { program := "ytbkgphmocjjmmaa", sum := "c64db9b32cb7edaaff03994f89ec664dca72fbe093cde226e9661118a32e6a04", func := "effigy/effigylaw18.NetNil", spec := "netNil", inPlace := ["slices.overlaps[effigy/api.NetPacket]"], apart := false, narrowed := true }
def NetNilUptoSaid : Prop := netNilUptoRow.holds Try.pinned (OpenSpec.upto netNilSpec)

/-- 'effigylaw18.NetConserves', WHERE WHAT IT READS IS OF BULK AT MOST 1048576: true; the input reads as it did. -/
def netConservesUptoRow : OpenClaim := { program := "ytbkgphmocjjmmaa", sum := "c64db9b32cb7edaaff03994f89ec664dca72fbe093cde226e9661118a32e6a04", func := "effigy/effigylaw18.NetConserves", spec := "netConserves", inPlace := ["slices.overlaps[effigy/api.NetPacket]"], apart := false, narrowed := true }
def NetConservesUptoSaid : Prop := netConservesUptoRow.holds Try.pinned (OpenSpec.upto netConservesSpec)

end Rows
end Go.Proofs.Ytbkgphmocjjmmaa
