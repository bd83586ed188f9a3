/-
  DERIVED. GIVEN WITH THE SEED: THE CARDS: each row of YtghafpdmcbockaaGreatDoorRows.lean that lists a variable, with what it lists TIED to the program's text (the seventh form; the later family's looks); each row that meets fmt, with fmt's text TOLD by the authors' own Lean function (tested against real Go, not proved from fmt's source: count such statements apart). THE CARD IS WHAT COUNTS. Prove the row's statement (the work); the ties are given (YtghafpdmcbockaaGreatDoorTie.lean); close each card by the builder's one call (the guide's Derived/Test/ToyasCard.lean, 'card_holds'). Laid BY PROGRAM, IN A SANDBOX (cutbox-door.mjs). By AI agents, Wed Nov 11 2026. No macro, syntax, notation, axiom, sorry.
-/
import Derived.Test.YtghafpdmcbockaaGreatDoorRows
import GoSem.ClaimSeven
namespace Go.Proofs.YtghafpdmcbockaaGreatDoor
namespace Rows

/-- THE TIED CARD OF 'cutwaterlaw15.AllocFills'. -/
def allocFillsCard : Claim7 := { stood := { row := allocFillsRow, standIns := [], harness := (true, "23ea17adf8c66077cd09bf6b5a246e41594936ab2dee6b612072f3ac963d1903"), looks := false }, kinds := [], alts := [], laidByText := true, laidKinds := [.data, .pinned], laidTests := true, laidLooks := .later }
def AllocFillsCardSaid : Prop := Claim7.holds Tryz.pinned (.plain (OpenSpec.ofChange allocFillsSpec)) allocFillsCard

/-- THE TIED CARD OF 'cutwaterlaw15.AllocOnce'. -/
def allocOnceCard : Claim7 := { stood := { row := allocOnceRow, standIns := [], harness := (true, "23ea17adf8c66077cd09bf6b5a246e41594936ab2dee6b612072f3ac963d1903"), looks := false }, kinds := [], alts := [], laidByText := true, laidKinds := [.data, .pinned], laidTests := true, laidLooks := .later }
def AllocOnceCardSaid : Prop := Claim7.holds Tryz.pinned (.plain (OpenSpec.ofChange allocOnceSpec)) allocOnceCard

/-- THE TIED CARD OF 'cutwaterlaw19.CheckSounds'. -/
def checkSoundsCard : Claim7 := { stood := { row := checkSoundsRow, standIns := [], harness := (true, "23ea17adf8c66077cd09bf6b5a246e41594936ab2dee6b612072f3ac963d1903"), looks := false }, kinds := [], alts := [], laidByText := true, laidKinds := [.data, .pinned], laidTests := true, laidLooks := .later }
def CheckSoundsCardSaid : Prop := Claim7.holds Tryz.pinned (.plain (OpenSpec.ofChange checkSoundsSpec)) checkSoundsCard

/-- THE TIED CARD OF 'cutwaterlaw15.AllocLays'. -/
def allocLaysCard : Claim7 := { stood := { row := allocLaysRow, standIns := [], harness := (true, "23ea17adf8c66077cd09bf6b5a246e41594936ab2dee6b612072f3ac963d1903"), looks := false }, kinds := [], alts := [], laidByText := true, laidKinds := [.data, .pinned], laidTests := true, laidLooks := .later }
def AllocLaysCardSaid : Prop := Claim7.holds Tryz.pinned (.plain (OpenSpec.ofChange allocLaysSpec)) allocLaysCard

/-- THE TIED CARD OF 'cutwaterlaw15.AllocPlays'. -/
def allocPlaysCard : Claim7 := { stood := { row := allocPlaysRow, standIns := [], harness := (true, "23ea17adf8c66077cd09bf6b5a246e41594936ab2dee6b612072f3ac963d1903"), looks := false }, kinds := [], alts := [], laidByText := true, laidKinds := [.data, .pinned], laidTests := true, laidLooks := .later }
def AllocPlaysCardSaid : Prop := Claim7.holds Tryz.pinned (.plain (OpenSpec.ofChange allocPlaysSpec)) allocPlaysCard

/-- THE SECOND FORM's CARD OF 'cutwaterlaw15.AllocFills'. -/
def allocFillsUptoCard : Claim7 := { stood := { row := allocFillsUptoRow, standIns := [], harness := (true, "23ea17adf8c66077cd09bf6b5a246e41594936ab2dee6b612072f3ac963d1903"), looks := false }, kinds := [], alts := [], laidByText := true, laidKinds := [.data, .pinned], laidTests := true, laidLooks := .later }
def AllocFillsUptoCardSaid : Prop := Claim7.holds Tryz.pinned (.plain (OpenSpec.upto allocFillsSpec)) allocFillsUptoCard

/-- THE SECOND FORM's CARD OF 'cutwaterlaw15.AllocOnce'. -/
def allocOnceUptoCard : Claim7 := { stood := { row := allocOnceUptoRow, standIns := [], harness := (true, "23ea17adf8c66077cd09bf6b5a246e41594936ab2dee6b612072f3ac963d1903"), looks := false }, kinds := [], alts := [], laidByText := true, laidKinds := [.data, .pinned], laidTests := true, laidLooks := .later }
def AllocOnceUptoCardSaid : Prop := Claim7.holds Tryz.pinned (.plain (OpenSpec.upto allocOnceSpec)) allocOnceUptoCard

/-- THE SECOND FORM's CARD OF 'cutwaterlaw19.CheckSounds'. -/
def checkSoundsUptoCard : Claim7 := { stood := { row := checkSoundsUptoRow, standIns := [], harness := (true, "23ea17adf8c66077cd09bf6b5a246e41594936ab2dee6b612072f3ac963d1903"), looks := false }, kinds := [], alts := [], laidByText := true, laidKinds := [.data, .pinned], laidTests := true, laidLooks := .later }
def CheckSoundsUptoCardSaid : Prop := Claim7.holds Tryz.pinned (.plain (OpenSpec.upto checkSoundsSpec)) checkSoundsUptoCard

/-- THE SECOND FORM's CARD OF 'cutwaterlaw15.AllocLays'. -/
def allocLaysUptoCard : Claim7 := { stood := { row := allocLaysUptoRow, standIns := [], harness := (true, "23ea17adf8c66077cd09bf6b5a246e41594936ab2dee6b612072f3ac963d1903"), looks := false }, kinds := [], alts := [], laidByText := true, laidKinds := [.data, .pinned], laidTests := true, laidLooks := .later }
def AllocLaysUptoCardSaid : Prop := Claim7.holds Tryz.pinned (.plain (OpenSpec.upto allocLaysSpec)) allocLaysUptoCard

/-- THE SECOND FORM's CARD OF 'cutwaterlaw15.AllocPlays'. -/
def allocPlaysUptoCard : Claim7 := { stood := { row := allocPlaysUptoRow, standIns := [], harness := (true, "23ea17adf8c66077cd09bf6b5a246e41594936ab2dee6b612072f3ac963d1903"), looks := false }, kinds := [], alts := [], laidByText := true, laidKinds := [.data, .pinned], laidTests := true, laidLooks := .later }
def AllocPlaysUptoCardSaid : Prop := Claim7.holds Tryz.pinned (.plain (OpenSpec.upto allocPlaysSpec)) allocPlaysUptoCard
end Rows
end Go.Proofs.YtghafpdmcbockaaGreatDoor
