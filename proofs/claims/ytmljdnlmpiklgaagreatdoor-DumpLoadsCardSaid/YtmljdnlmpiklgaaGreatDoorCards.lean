/-
  DERIVED. GIVEN WITH THE SEED: THE CARDS: each row of YtmljdnlmpiklgaaGreatDoorRows.lean that lists a variable, with what it lists TIED to the program's text (the seventh form; the later family's looks); each row that meets fmt, with fmt's text TOLD by the authors' own Lean function (tested against real Go, not proved from fmt's source: count such statements apart). THE CARD IS WHAT COUNTS. Prove the row's statement (the work); the ties are given (YtmljdnlmpiklgaaGreatDoorTie.lean); close each card by the builder's one call (the guide's Derived/Test/ToyasCard.lean, 'card_holds'). Laid BY PROGRAM, IN A SANDBOX (cutbox-door.mjs). By AI agents, Wed Nov 11 2026. No macro, syntax, notation, axiom, sorry.
-/
import Derived.Test.YtmljdnlmpiklgaaGreatDoorRows
import GoSem.ClaimSeven
namespace Go.Proofs.YtmljdnlmpiklgaaGreatDoor
namespace Rows

/-- THE TIED CARD OF 'cutwaterlaw31.DumpLoads'. -/
def dumpLoadsCard : Claim7 := { stood := { row := dumpLoadsRow, standIns := [], harness := (true, "459cb47dc6965223c5a366e424bda81b84fd7f4415c853c21799c984912fcd53"), looks := true }, kinds := [], alts := [], laidByText := true, laidKinds := [.data, .data, .data, .data, .sentinel, .sentinel, .pinned], laidTests := true, laidLooks := .later }
def DumpLoadsCardSaid : Prop := Claim7.holds Tryz.pinned (.plain (OpenSpec.ofChange dumpLoadsSpec)) dumpLoadsCard

/-- THE TIED CARD OF 'cutwaterlaw31.DumpBack'. -/
def dumpBackCard : Claim7 := { stood := { row := dumpBackRow, standIns := [], harness := (true, "459cb47dc6965223c5a366e424bda81b84fd7f4415c853c21799c984912fcd53"), looks := true }, kinds := [], alts := [], laidByText := true, laidKinds := [.data, .data, .data, .data, .sentinel, .sentinel, .pinned], laidTests := true, laidLooks := .later }
def DumpBackCardSaid : Prop := Claim7.holds Tryz.pinned (.plain (OpenSpec.ofChange dumpBackSpec)) dumpBackCard

/-- THE TIED CARD OF 'cutwaterlaw31.DumpOne'. -/
def dumpOneCard : Claim7 := { stood := { row := dumpOneRow, standIns := [], harness := (true, "459cb47dc6965223c5a366e424bda81b84fd7f4415c853c21799c984912fcd53"), looks := true }, kinds := [], alts := [], laidByText := true, laidKinds := [.data, .data, .data, .data, .sentinel, .sentinel, .pinned], laidTests := true, laidLooks := .later }
def DumpOneCardSaid : Prop := Claim7.holds Tryz.pinned (.plain (OpenSpec.ofChange dumpOneSpec)) dumpOneCard

/-- THE SECOND FORM's CARD OF 'cutwaterlaw31.DumpLoads'. -/
def dumpLoadsUptoCard : Claim7 := { stood := { row := dumpLoadsUptoRow, standIns := [], harness := (true, "459cb47dc6965223c5a366e424bda81b84fd7f4415c853c21799c984912fcd53"), looks := true }, kinds := [], alts := [], laidByText := true, laidKinds := [.data, .data, .data, .data, .sentinel, .sentinel, .pinned], laidTests := true, laidLooks := .later }
def DumpLoadsUptoCardSaid : Prop := Claim7.holds Tryz.pinned (.plain (OpenSpec.upto dumpLoadsSpec)) dumpLoadsUptoCard

/-- THE SECOND FORM's CARD OF 'cutwaterlaw31.DumpBack'. -/
def dumpBackUptoCard : Claim7 := { stood := { row := dumpBackUptoRow, standIns := [], harness := (true, "459cb47dc6965223c5a366e424bda81b84fd7f4415c853c21799c984912fcd53"), looks := true }, kinds := [], alts := [], laidByText := true, laidKinds := [.data, .data, .data, .data, .sentinel, .sentinel, .pinned], laidTests := true, laidLooks := .later }
def DumpBackUptoCardSaid : Prop := Claim7.holds Tryz.pinned (.plain (OpenSpec.upto dumpBackSpec)) dumpBackUptoCard

/-- THE SECOND FORM's CARD OF 'cutwaterlaw31.DumpOne'. -/
def dumpOneUptoCard : Claim7 := { stood := { row := dumpOneUptoRow, standIns := [], harness := (true, "459cb47dc6965223c5a366e424bda81b84fd7f4415c853c21799c984912fcd53"), looks := true }, kinds := [], alts := [], laidByText := true, laidKinds := [.data, .data, .data, .data, .sentinel, .sentinel, .pinned], laidTests := true, laidLooks := .later }
def DumpOneUptoCardSaid : Prop := Claim7.holds Tryz.pinned (.plain (OpenSpec.upto dumpOneSpec)) dumpOneUptoCard
end Rows
end Go.Proofs.YtmljdnlmpiklgaaGreatDoor
