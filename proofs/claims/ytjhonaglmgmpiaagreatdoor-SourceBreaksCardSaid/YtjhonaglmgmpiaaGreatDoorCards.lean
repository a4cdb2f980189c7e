/-
  DERIVED. GIVEN WITH THE SEED: THE CARDS: each row of YtjhonaglmgmpiaaGreatDoorRows.lean that lists a variable, with what it lists TIED to the program's text (the seventh form; the later family's looks); each row that meets fmt, with fmt's text TOLD by the authors' own Lean function (tested against real Go, not proved from fmt's source: count such statements apart). THE CARD IS WHAT COUNTS. Prove the row's statement (the work); the ties are given (YtjhonaglmgmpiaaGreatDoorTie.lean); close each card by the builder's one call (the guide's Derived/Test/ToyasCard.lean, 'card_holds'). Laid BY PROGRAM, IN A SANDBOX (cutbox-door.mjs). By AI agents, Wed Nov 11 2026. No macro, syntax, notation, axiom, sorry.
-/
import Derived.Test.YtjhonaglmgmpiaaGreatDoorRows
import GoSem.ClaimSeven
namespace Go.Proofs.YtjhonaglmgmpiaaGreatDoor
namespace Rows

/-- THE TIED CARD OF 'effigylaw12.SourceBreaks'. -/
def sourceBreaksCard : Claim7 := { stood := { row := sourceBreaksRow, standIns := [], harness := (true, "0d29754c2944c796ba24fc618f9675f7ac575aebf3c9e684c21be6bd2d013685"), looks := true }, kinds := [], alts := [], laidByText := true, laidKinds := [.data, .data, .data, .data, .sentinel, .sentinel, .pinned], laidTests := true, laidLooks := .later }
def SourceBreaksCardSaid : Prop := Claim7.holds Tryz.pinned (.plain (OpenSpec.ofChange sourceBreaksSpec)) sourceBreaksCard

/-- THE TIED CARD OF 'effigylaw12.SourceFresh'. -/
def sourceFreshCard : Claim7 := { stood := { row := sourceFreshRow, standIns := [], harness := (true, "0d29754c2944c796ba24fc618f9675f7ac575aebf3c9e684c21be6bd2d013685"), looks := true }, kinds := [], alts := [], laidByText := true, laidKinds := [.data, .data, .data, .data, .sentinel, .sentinel, .pinned], laidTests := true, laidLooks := .later }
def SourceFreshCardSaid : Prop := Claim7.holds Tryz.pinned (.plain (OpenSpec.ofChange sourceFreshSpec)) sourceFreshCard

/-- THE TIED CARD OF 'effigylaw12.SourceBlanks'. -/
def sourceBlanksCard : Claim7 := { stood := { row := sourceBlanksRow, standIns := [], harness := (true, "0d29754c2944c796ba24fc618f9675f7ac575aebf3c9e684c21be6bd2d013685"), looks := true }, kinds := [], alts := [], laidByText := true, laidKinds := [.data, .data, .data, .data, .sentinel, .sentinel, .pinned], laidTests := true, laidLooks := .later }
def SourceBlanksCardSaid : Prop := Claim7.holds Tryz.pinned (.plain (OpenSpec.ofChange sourceBlanksSpec)) sourceBlanksCard

/-- THE TIED CARD OF 'effigylaw12.SourceParens'. -/
def sourceParensCard : Claim7 := { stood := { row := sourceParensRow, standIns := [], harness := (true, "0d29754c2944c796ba24fc618f9675f7ac575aebf3c9e684c21be6bd2d013685"), looks := true }, kinds := [], alts := [], laidByText := true, laidKinds := [.data, .data, .data, .data, .sentinel, .sentinel, .pinned], laidTests := true, laidLooks := .later }
def SourceParensCardSaid : Prop := Claim7.holds Tryz.pinned (.plain (OpenSpec.ofChange sourceParensSpec)) sourceParensCard

/-- THE TIED CARD OF 'effigylaw12.SourceBack'. -/
def sourceBackCard : Claim7 := { stood := { row := sourceBackRow, standIns := [], harness := (true, "0d29754c2944c796ba24fc618f9675f7ac575aebf3c9e684c21be6bd2d013685"), looks := true }, kinds := [], alts := [], laidByText := true, laidKinds := [.data, .data, .data, .data, .sentinel, .sentinel, .pinned], laidTests := true, laidLooks := .later }
def SourceBackCardSaid : Prop := Claim7.holds Tryz.pinned (.plain (OpenSpec.ofChange sourceBackSpec)) sourceBackCard

/-- THE SECOND FORM's CARD OF 'effigylaw12.SourceBreaks'. -/
def sourceBreaksUptoCard : Claim7 := { stood := { row := sourceBreaksUptoRow, standIns := [], harness := (true, "0d29754c2944c796ba24fc618f9675f7ac575aebf3c9e684c21be6bd2d013685"), looks := true }, kinds := [], alts := [], laidByText := true, laidKinds := [.data, .data, .data, .data, .sentinel, .sentinel, .pinned], laidTests := true, laidLooks := .later }
def SourceBreaksUptoCardSaid : Prop := Claim7.holds Tryz.pinned (.plain (OpenSpec.upto sourceBreaksSpec)) sourceBreaksUptoCard

/-- THE SECOND FORM's CARD OF 'effigylaw12.SourceFresh'. -/
def sourceFreshUptoCard : Claim7 := { stood := { row := sourceFreshUptoRow, standIns := [], harness := (true, "0d29754c2944c796ba24fc618f9675f7ac575aebf3c9e684c21be6bd2d013685"), looks := true }, kinds := [], alts := [], laidByText := true, laidKinds := [.data, .data, .data, .data, .sentinel, .sentinel, .pinned], laidTests := true, laidLooks := .later }
def SourceFreshUptoCardSaid : Prop := Claim7.holds Tryz.pinned (.plain (OpenSpec.upto sourceFreshSpec)) sourceFreshUptoCard

/-- THE SECOND FORM's CARD OF 'effigylaw12.SourceBlanks'. -/
def sourceBlanksUptoCard : Claim7 := { stood := { row := sourceBlanksUptoRow, standIns := [], harness := (true, "0d29754c2944c796ba24fc618f9675f7ac575aebf3c9e684c21be6bd2d013685"), looks := true }, kinds := [], alts := [], laidByText := true, laidKinds := [.data, .data, .data, .data, .sentinel, .sentinel, .pinned], laidTests := true, laidLooks := .later }
def SourceBlanksUptoCardSaid : Prop := Claim7.holds Tryz.pinned (.plain (OpenSpec.upto sourceBlanksSpec)) sourceBlanksUptoCard

/-- THE SECOND FORM's CARD OF 'effigylaw12.SourceParens'. -/
def sourceParensUptoCard : Claim7 := { stood := { row := sourceParensUptoRow, standIns := [], harness := (true, "0d29754c2944c796ba24fc618f9675f7ac575aebf3c9e684c21be6bd2d013685"), looks := true }, kinds := [], alts := [], laidByText := true, laidKinds := [.data, .data, .data, .data, .sentinel, .sentinel, .pinned], laidTests := true, laidLooks := .later }
def SourceParensUptoCardSaid : Prop := Claim7.holds Tryz.pinned (.plain (OpenSpec.upto sourceParensSpec)) sourceParensUptoCard

/-- THE SECOND FORM's CARD OF 'effigylaw12.SourceBack'. -/
def sourceBackUptoCard : Claim7 := { stood := { row := sourceBackUptoRow, standIns := [], harness := (true, "0d29754c2944c796ba24fc618f9675f7ac575aebf3c9e684c21be6bd2d013685"), looks := true }, kinds := [], alts := [], laidByText := true, laidKinds := [.data, .data, .data, .data, .sentinel, .sentinel, .pinned], laidTests := true, laidLooks := .later }
def SourceBackUptoCardSaid : Prop := Claim7.holds Tryz.pinned (.plain (OpenSpec.upto sourceBackSpec)) sourceBackUptoCard
end Rows
end Go.Proofs.YtjhonaglmgmpiaaGreatDoor
