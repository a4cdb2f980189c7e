/-
  DERIVED. GIVEN WITH THE SEED: THE CARDS: each row of YtlopmhnakehnaaaDoorRows.lean that lists a variable, with what it lists TIED to the program's text (the seventh form; the later family's looks); each row that meets fmt, with fmt's text TOLD by the authors' own Lean function (tested against real Go, not proved from fmt's source: count such statements apart). THE CARD IS WHAT COUNTS. Prove the row's statement (the work); the ties are given (YtlopmhnakehnaaaDoorTie.lean); close each card by the builder's one call (the guide's Derived/Test/ToyasCard.lean, 'card_holds'). Laid BY PROGRAM, IN A SANDBOX (cutbox-door.mjs). By AI agents, Wed Nov 11 2026. No macro, syntax, notation, axiom, sorry.
-/
import Derived.Test.YtlopmhnakehnaaaDoorRows
import GoSem.ClaimSeven
namespace Go.Proofs.YtlopmhnakehnaaaDoor
namespace Rows

/-- THE TIED CARD OF 'effigylaw01.OopSmalls'. -/
def oopSmallsCard : Claim7 := { stood := { row := oopSmallsRow, standIns := [], harness := (true, "42ec64b8dafd8a7d959391dabf49a189e39ef08ad80a9959c292d81a1cbf95b9"), looks := true }, kinds := [], alts := [], laidByText := true, laidKinds := [.data, .data, .data, .data], laidTests := true, laidLooks := .later }
def OopSmallsCardSaid : Prop := Claim7.holds Tryd.pinned (.plain (OpenSpec.ofChange oopSmallsSpec)) oopSmallsCard

/-- THE TIED CARD OF 'effigylaw01.OopLengths'. -/
def oopLengthsCard : Claim7 := { stood := { row := oopLengthsRow, standIns := [], harness := (true, "42ec64b8dafd8a7d959391dabf49a189e39ef08ad80a9959c292d81a1cbf95b9"), looks := true }, kinds := [], alts := [], laidByText := true, laidKinds := [.data, .data, .data, .data], laidTests := true, laidLooks := .later }
def OopLengthsCardSaid : Prop := Claim7.holds Tryd.pinned (.plain (OpenSpec.ofChange oopLengthsSpec)) oopLengthsCard

/-- THE TIED CARD OF 'effigylaw01.OopObjects'. -/
def oopObjectsCard : Claim7 := { stood := { row := oopObjectsRow, standIns := [], harness := (true, "42ec64b8dafd8a7d959391dabf49a189e39ef08ad80a9959c292d81a1cbf95b9"), looks := true }, kinds := [], alts := [], laidByText := true, laidKinds := [.data, .data, .data, .data], laidTests := true, laidLooks := .later }
def OopObjectsCardSaid : Prop := Claim7.holds Tryd.pinned (.plain (OpenSpec.ofChange oopObjectsSpec)) oopObjectsCard

/-- THE TIED CARD OF 'effigylaw01.OopHeaders'. -/
def oopHeadersCard : Claim7 := { stood := { row := oopHeadersRow, standIns := [], harness := (true, "42ec64b8dafd8a7d959391dabf49a189e39ef08ad80a9959c292d81a1cbf95b9"), looks := true }, kinds := [], alts := [], laidByText := true, laidKinds := [.data, .data, .data, .data], laidTests := true, laidLooks := .later }
def OopHeadersCardSaid : Prop := Claim7.holds Tryd.pinned (.plain (OpenSpec.ofChange oopHeadersSpec)) oopHeadersCard

/-- THE TIED CARD OF 'effigylaw01.OopBytes'. -/
def oopBytesCard : Claim7 := { stood := { row := oopBytesRow, standIns := [], harness := (true, "42ec64b8dafd8a7d959391dabf49a189e39ef08ad80a9959c292d81a1cbf95b9"), looks := true }, kinds := [], alts := [], laidByText := true, laidKinds := [.data, .data, .data, .data], laidTests := true, laidLooks := .later }
def OopBytesCardSaid : Prop := Claim7.holds Tryd.pinned (.plain (OpenSpec.ofChange oopBytesSpec)) oopBytesCard

/-- THE TIED CARD OF 'effigylaw01.OopBack'. -/
def oopBackCard : Claim7 := { stood := { row := oopBackRow, standIns := [], harness := (true, "42ec64b8dafd8a7d959391dabf49a189e39ef08ad80a9959c292d81a1cbf95b9"), looks := true }, kinds := [], alts := [], laidByText := true, laidKinds := [.data, .data, .data, .sentinel, .sentinel, .data], laidTests := true, laidLooks := .later }
def OopBackCardSaid : Prop := Claim7.holds Tryd.pinned (.plain (OpenSpec.ofChange oopBackSpec)) oopBackCard

/-- THE SECOND FORM's CARD OF 'effigylaw01.OopSmalls'. -/
def oopSmallsUptoCard : Claim7 := { stood := { row := oopSmallsUptoRow, standIns := [], harness := (true, "42ec64b8dafd8a7d959391dabf49a189e39ef08ad80a9959c292d81a1cbf95b9"), looks := true }, kinds := [], alts := [], laidByText := true, laidKinds := [.data, .data, .data, .data], laidTests := true, laidLooks := .later }
def OopSmallsUptoCardSaid : Prop := Claim7.holds Tryd.pinned (.plain (OpenSpec.upto oopSmallsSpec)) oopSmallsUptoCard

/-- THE SECOND FORM's CARD OF 'effigylaw01.OopLengths'. -/
def oopLengthsUptoCard : Claim7 := { stood := { row := oopLengthsUptoRow, standIns := [], harness := (true, "42ec64b8dafd8a7d959391dabf49a189e39ef08ad80a9959c292d81a1cbf95b9"), looks := true }, kinds := [], alts := [], laidByText := true, laidKinds := [.data, .data, .data, .data], laidTests := true, laidLooks := .later }
def OopLengthsUptoCardSaid : Prop := Claim7.holds Tryd.pinned (.plain (OpenSpec.upto oopLengthsSpec)) oopLengthsUptoCard

/-- THE SECOND FORM's CARD OF 'effigylaw01.OopObjects'. -/
def oopObjectsUptoCard : Claim7 := { stood := { row := oopObjectsUptoRow, standIns := [], harness := (true, "42ec64b8dafd8a7d959391dabf49a189e39ef08ad80a9959c292d81a1cbf95b9"), looks := true }, kinds := [], alts := [], laidByText := true, laidKinds := [.data, .data, .data, .data], laidTests := true, laidLooks := .later }
def OopObjectsUptoCardSaid : Prop := Claim7.holds Tryd.pinned (.plain (OpenSpec.upto oopObjectsSpec)) oopObjectsUptoCard

/-- THE SECOND FORM's CARD OF 'effigylaw01.OopHeaders'. -/
def oopHeadersUptoCard : Claim7 := { stood := { row := oopHeadersUptoRow, standIns := [], harness := (true, "42ec64b8dafd8a7d959391dabf49a189e39ef08ad80a9959c292d81a1cbf95b9"), looks := true }, kinds := [], alts := [], laidByText := true, laidKinds := [.data, .data, .data, .data], laidTests := true, laidLooks := .later }
def OopHeadersUptoCardSaid : Prop := Claim7.holds Tryd.pinned (.plain (OpenSpec.upto oopHeadersSpec)) oopHeadersUptoCard

/-- THE SECOND FORM's CARD OF 'effigylaw01.OopBytes'. -/
def oopBytesUptoCard : Claim7 := { stood := { row := oopBytesUptoRow, standIns := [], harness := (true, "42ec64b8dafd8a7d959391dabf49a189e39ef08ad80a9959c292d81a1cbf95b9"), looks := true }, kinds := [], alts := [], laidByText := true, laidKinds := [.data, .data, .data, .data], laidTests := true, laidLooks := .later }
def OopBytesUptoCardSaid : Prop := Claim7.holds Tryd.pinned (.plain (OpenSpec.upto oopBytesSpec)) oopBytesUptoCard

/-- THE SECOND FORM's CARD OF 'effigylaw01.OopBack'. -/
def oopBackUptoCard : Claim7 := { stood := { row := oopBackUptoRow, standIns := [], harness := (true, "42ec64b8dafd8a7d959391dabf49a189e39ef08ad80a9959c292d81a1cbf95b9"), looks := true }, kinds := [], alts := [], laidByText := true, laidKinds := [.data, .data, .data, .sentinel, .sentinel, .data], laidTests := true, laidLooks := .later }
def OopBackUptoCardSaid : Prop := Claim7.holds Tryd.pinned (.plain (OpenSpec.upto oopBackSpec)) oopBackUptoCard
end Rows
end Go.Proofs.YtlopmhnakehnaaaDoor
