/-
  DERIVED. GIVEN WITH THE SEED: THE CARDS: each row of YtgofmnhfajmbfaaGreatDoorRows.lean that lists a variable, with what it lists TIED to the program's text (the seventh form; the later family's looks); each row that meets fmt, with fmt's text TOLD by the authors' own Lean function (tested against real Go, not proved from fmt's source: count such statements apart). THE CARD IS WHAT COUNTS. Prove the row's statement (the work); the ties are given (YtgofmnhfajmbfaaGreatDoorTie.lean); close each card by the builder's one call (the guide's Derived/Test/ToyasCard.lean, 'card_holds'). Laid BY PROGRAM, IN A SANDBOX (cutbox-door.mjs). By AI agents, Wed Nov 11 2026. No macro, syntax, notation, axiom, sorry.
-/
import Derived.Test.YtgofmnhfajmbfaaGreatDoorRows
import GoSem.ClaimSeven
namespace Go.Proofs.YtgofmnhfajmbfaaGreatDoor
namespace Rows

/-- THE TIED CARD OF 'cutwaterlaw15.AllocLays'. -/
def allocLaysCard : Claim7 := { stood := { row := allocLaysRow, standIns := [], harness := (true, "2071cb0f5b8f1ebc16c6757cb699a24fb6062c29c02d3b399e306aa598f51a12"), looks := true }, kinds := [], alts := [], laidByText := true, laidKinds := [.data, .pinned], laidTests := true, laidLooks := .later }
def AllocLaysCardSaid : Prop := Claim7.holds Tryz.pinned (.plain (OpenSpec.ofChange allocLaysSpec)) allocLaysCard

/-- THE TIED CARD OF 'cutwaterlaw31.DumpTurned'. -/
def dumpTurnedCard : Claim7 := { stood := { row := dumpTurnedRow, standIns := [], harness := (true, "2071cb0f5b8f1ebc16c6757cb699a24fb6062c29c02d3b399e306aa598f51a12"), looks := true }, kinds := [], alts := [], laidByText := true, laidKinds := [.data, .data, .data, .data, .pinned], laidTests := true, laidLooks := .later }
def DumpTurnedCardSaid : Prop := Claim7.holds Tryz.pinned (.plain (OpenSpec.ofChange dumpTurnedSpec)) dumpTurnedCard

/-- THE TIED CARD OF 'cutwaterlaw16.BmapSound'. -/
def bmapSoundCard : Claim7 := { stood := { row := bmapSoundRow, standIns := [], harness := (true, "2071cb0f5b8f1ebc16c6757cb699a24fb6062c29c02d3b399e306aa598f51a12"), looks := true }, kinds := [], alts := [], laidByText := true, laidKinds := [.data, .pinned], laidTests := true, laidLooks := .later }
def BmapSoundCardSaid : Prop := Claim7.holds Tryz.pinned (.plain (OpenSpec.ofChange bmapSoundSpec)) bmapSoundCard

/-- THE TIED CARD OF 'cutwaterlaw16.BmapFrees'. -/
def bmapFreesCard : Claim7 := { stood := { row := bmapFreesRow, standIns := [], harness := (true, "2071cb0f5b8f1ebc16c6757cb699a24fb6062c29c02d3b399e306aa598f51a12"), looks := true }, kinds := [], alts := [], laidByText := true, laidKinds := [.data, .pinned], laidTests := true, laidLooks := .later }
def BmapFreesCardSaid : Prop := Claim7.holds Tryz.pinned (.plain (OpenSpec.ofChange bmapFreesSpec)) bmapFreesCard

/-- THE SECOND FORM's CARD OF 'cutwaterlaw15.AllocLays'. -/
def allocLaysUptoCard : Claim7 := { stood := { row := allocLaysUptoRow, standIns := [], harness := (true, "2071cb0f5b8f1ebc16c6757cb699a24fb6062c29c02d3b399e306aa598f51a12"), looks := true }, kinds := [], alts := [], laidByText := true, laidKinds := [.data, .pinned], laidTests := true, laidLooks := .later }
def AllocLaysUptoCardSaid : Prop := Claim7.holds Tryz.pinned (.plain (OpenSpec.upto allocLaysSpec)) allocLaysUptoCard

/-- THE SECOND FORM's CARD OF 'cutwaterlaw31.DumpTurned'. -/
def dumpTurnedUptoCard : Claim7 := { stood := { row := dumpTurnedUptoRow, standIns := [], harness := (true, "2071cb0f5b8f1ebc16c6757cb699a24fb6062c29c02d3b399e306aa598f51a12"), looks := true }, kinds := [], alts := [], laidByText := true, laidKinds := [.data, .data, .data, .data, .pinned], laidTests := true, laidLooks := .later }
def DumpTurnedUptoCardSaid : Prop := Claim7.holds Tryz.pinned (.plain (OpenSpec.upto dumpTurnedSpec)) dumpTurnedUptoCard

/-- THE SECOND FORM's CARD OF 'cutwaterlaw16.BmapSound'. -/
def bmapSoundUptoCard : Claim7 := { stood := { row := bmapSoundUptoRow, standIns := [], harness := (true, "2071cb0f5b8f1ebc16c6757cb699a24fb6062c29c02d3b399e306aa598f51a12"), looks := true }, kinds := [], alts := [], laidByText := true, laidKinds := [.data, .pinned], laidTests := true, laidLooks := .later }
def BmapSoundUptoCardSaid : Prop := Claim7.holds Tryz.pinned (.plain (OpenSpec.upto bmapSoundSpec)) bmapSoundUptoCard

/-- THE SECOND FORM's CARD OF 'cutwaterlaw16.BmapFrees'. -/
def bmapFreesUptoCard : Claim7 := { stood := { row := bmapFreesUptoRow, standIns := [], harness := (true, "2071cb0f5b8f1ebc16c6757cb699a24fb6062c29c02d3b399e306aa598f51a12"), looks := true }, kinds := [], alts := [], laidByText := true, laidKinds := [.data, .pinned], laidTests := true, laidLooks := .later }
def BmapFreesUptoCardSaid : Prop := Claim7.holds Tryz.pinned (.plain (OpenSpec.upto bmapFreesSpec)) bmapFreesUptoCard
end Rows
end Go.Proofs.YtgofmnhfajmbfaaGreatDoor
