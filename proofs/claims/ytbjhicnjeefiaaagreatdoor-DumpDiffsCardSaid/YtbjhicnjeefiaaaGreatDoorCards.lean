/-
  DERIVED. GIVEN WITH THE SEED: THE CARDS: each row of YtbjhicnjeefiaaaGreatDoorRows.lean that lists a variable, with what it lists TIED to the program's text (the seventh form; the later family's looks); each row that meets fmt, with fmt's text TOLD by the authors' own Lean function (tested against real Go, not proved from fmt's source: count such statements apart). THE CARD IS WHAT COUNTS. Prove the row's statement (the work); the ties are given (YtbjhicnjeefiaaaGreatDoorTie.lean); close each card by the builder's one call (the guide's Derived/Test/ToyasCard.lean, 'card_holds'). Laid BY PROGRAM, IN A SANDBOX (cutbox-door.mjs). By AI agents, Wed Nov 11 2026. No macro, syntax, notation, axiom, sorry.
-/
import Derived.Test.YtbjhicnjeefiaaaGreatDoorRows
import GoSem.ClaimSeven
namespace Go.Proofs.YtbjhicnjeefiaaaGreatDoor
namespace Rows

/-- THE TIED CARD OF 'cutwaterlaw31.DumpTexts'. -/
def dumpTextsCard : Claim7 := { stood := { row := dumpTextsRow, standIns := [], harness := (true, "4789d0ec9db753030fc3dfb0090f41c635f8639550d2dce3e5889445a7b2108d"), looks := false }, kinds := [], alts := [], laidByText := true, laidKinds := [.data, .data, .data, .data, .pinned], laidTests := true, laidLooks := .later }
def DumpTextsCardSaid : Prop := Claim7.holds Tryz.pinned (.plain (OpenSpec.ofChange dumpTextsSpec)) dumpTextsCard

/-- THE TIED CARD OF 'cutwaterlaw31.DumpDiffs'. -/
def dumpDiffsCard : Claim7 := { stood := { row := dumpDiffsRow, standIns := [], harness := (true, "4789d0ec9db753030fc3dfb0090f41c635f8639550d2dce3e5889445a7b2108d"), looks := false }, kinds := [], alts := [], laidByText := true, laidKinds := [.data, .data, .data, .data, .pinned], laidTests := true, laidLooks := .later }
def DumpDiffsCardSaid : Prop := Claim7.holds Tryz.pinned (.plain (OpenSpec.ofChange dumpDiffsSpec)) dumpDiffsCard

/-- THE SECOND FORM's CARD OF 'cutwaterlaw31.DumpTexts'. -/
def dumpTextsUptoCard : Claim7 := { stood := { row := dumpTextsUptoRow, standIns := [], harness := (true, "4789d0ec9db753030fc3dfb0090f41c635f8639550d2dce3e5889445a7b2108d"), looks := false }, kinds := [], alts := [], laidByText := true, laidKinds := [.data, .data, .data, .data, .pinned], laidTests := true, laidLooks := .later }
def DumpTextsUptoCardSaid : Prop := Claim7.holds Tryz.pinned (.plain (OpenSpec.upto dumpTextsSpec)) dumpTextsUptoCard

/-- THE SECOND FORM's CARD OF 'cutwaterlaw31.DumpDiffs'. -/
def dumpDiffsUptoCard : Claim7 := { stood := { row := dumpDiffsUptoRow, standIns := [], harness := (true, "4789d0ec9db753030fc3dfb0090f41c635f8639550d2dce3e5889445a7b2108d"), looks := false }, kinds := [], alts := [], laidByText := true, laidKinds := [.data, .data, .data, .data, .pinned], laidTests := true, laidLooks := .later }
def DumpDiffsUptoCardSaid : Prop := Claim7.holds Tryz.pinned (.plain (OpenSpec.upto dumpDiffsSpec)) dumpDiffsUptoCard
end Rows
end Go.Proofs.YtbjhicnjeefiaaaGreatDoor
