/-
  DERIVED. GIVEN WITH THE SEED: THE CARDS: each row of YtaphcmcimoloiaaGreatDoorRows.lean that lists a variable, with what it lists TIED to the program's text (the seventh form; the later family's looks); each row that meets fmt, with fmt's text TOLD by the authors' own Lean function (tested against real Go, not proved from fmt's source: count such statements apart). THE CARD IS WHAT COUNTS. Prove the row's statement (the work); the ties are given (YtaphcmcimoloiaaGreatDoorTie.lean); close each card by the builder's one call (the guide's Derived/Test/ToyasCard.lean, 'card_holds'). Laid BY PROGRAM, IN A SANDBOX (cutbox-door.mjs). By AI agents, Wed Nov 11 2026. No macro, syntax, notation, axiom, sorry.
-/
import Derived.Test.YtaphcmcimoloiaaGreatDoorRows
import GoSem.ClaimSeven
namespace Go.Proofs.YtaphcmcimoloiaaGreatDoor
namespace Rows

/-- THE TIED CARD OF 'cutwaterlaw19.CheckSounds'. -/
def checkSoundsCard : Claim7 := { stood := { row := checkSoundsRow, standIns := [], harness := (true, "dc035f1aa9e13aca1f54e9ecc4d4283f321a7103f7c8a1b01a7a33d0d15aa03a"), looks := true }, kinds := [], alts := [], laidByText := true, laidKinds := [.data, .pinned], laidTests := true, laidLooks := .later }
def CheckSoundsCardSaid : Prop := Claim7.holds Tryz.pinned (.plain (OpenSpec.ofChange checkSoundsSpec)) checkSoundsCard

/-- THE TIED CARD OF 'cutwaterlaw15.AllocLays'. -/
def allocLaysCard : Claim7 := { stood := { row := allocLaysRow, standIns := [], harness := (true, "dc035f1aa9e13aca1f54e9ecc4d4283f321a7103f7c8a1b01a7a33d0d15aa03a"), looks := true }, kinds := [], alts := [], laidByText := true, laidKinds := [.data, .pinned], laidTests := true, laidLooks := .later }
def AllocLaysCardSaid : Prop := Claim7.holds Tryz.pinned (.plain (OpenSpec.ofChange allocLaysSpec)) allocLaysCard

/-- THE TIED CARD OF 'cutwaterlaw16.BmapHoles'. -/
def bmapHolesCard : Claim7 := { stood := { row := bmapHolesRow, standIns := [], harness := (true, "dc035f1aa9e13aca1f54e9ecc4d4283f321a7103f7c8a1b01a7a33d0d15aa03a"), looks := true }, kinds := [], alts := [], laidByText := true, laidKinds := [.data, .pinned], laidTests := true, laidLooks := .later }
def BmapHolesCardSaid : Prop := Claim7.holds Tryz.pinned (.plain (OpenSpec.ofChange bmapHolesSpec)) bmapHolesCard

/-- THE TIED CARD OF 'cutwaterlaw17.DirsAsk'. -/
def dirsAskCard : Claim7 := { stood := { row := dirsAskRow, standIns := [], harness := (true, "dc035f1aa9e13aca1f54e9ecc4d4283f321a7103f7c8a1b01a7a33d0d15aa03a"), looks := true }, kinds := [], alts := [], laidByText := true, laidKinds := [.data, .pinned], laidTests := true, laidLooks := .later }
def DirsAskCardSaid : Prop := Claim7.holds Tryz.pinned (.plain (OpenSpec.ofChange dirsAskSpec)) dirsAskCard

/-- THE TIED CARD OF 'cutwaterlaw17.DirsFull'. -/
def dirsFullCard : Claim7 := { stood := { row := dirsFullRow, standIns := [], harness := (true, "dc035f1aa9e13aca1f54e9ecc4d4283f321a7103f7c8a1b01a7a33d0d15aa03a"), looks := true }, kinds := [], alts := [], laidByText := true, laidKinds := [.data, .pinned], laidTests := true, laidLooks := .later }
def DirsFullCardSaid : Prop := Claim7.holds Tryz.pinned (.plain (OpenSpec.ofChange dirsFullSpec)) dirsFullCard

/-- THE TIED CARD OF 'cutwaterlaw16.BmapReads'. -/
def bmapReadsCard : Claim7 := { stood := { row := bmapReadsRow, standIns := [], harness := (true, "dc035f1aa9e13aca1f54e9ecc4d4283f321a7103f7c8a1b01a7a33d0d15aa03a"), looks := true }, kinds := [], alts := [], laidByText := true, laidKinds := [.data, .pinned], laidTests := true, laidLooks := .later }
def BmapReadsCardSaid : Prop := Claim7.holds Tryz.pinned (.plain (OpenSpec.ofChange bmapReadsSpec)) bmapReadsCard

/-- THE TIED CARD OF 'cutwaterlaw16.BmapSound'. -/
def bmapSoundCard : Claim7 := { stood := { row := bmapSoundRow, standIns := [], harness := (true, "dc035f1aa9e13aca1f54e9ecc4d4283f321a7103f7c8a1b01a7a33d0d15aa03a"), looks := true }, kinds := [], alts := [], laidByText := true, laidKinds := [.data, .pinned], laidTests := true, laidLooks := .later }
def BmapSoundCardSaid : Prop := Claim7.holds Tryz.pinned (.plain (OpenSpec.ofChange bmapSoundSpec)) bmapSoundCard

/-- THE TIED CARD OF 'cutwaterlaw16.BmapFrees'. -/
def bmapFreesCard : Claim7 := { stood := { row := bmapFreesRow, standIns := [], harness := (true, "dc035f1aa9e13aca1f54e9ecc4d4283f321a7103f7c8a1b01a7a33d0d15aa03a"), looks := true }, kinds := [], alts := [], laidByText := true, laidKinds := [.data, .pinned], laidTests := true, laidLooks := .later }
def BmapFreesCardSaid : Prop := Claim7.holds Tryz.pinned (.plain (OpenSpec.ofChange bmapFreesSpec)) bmapFreesCard

/-- THE TIED CARD OF 'cutwaterlaw17.DirsKeep'. -/
def dirsKeepCard : Claim7 := { stood := { row := dirsKeepRow, standIns := [], harness := (true, "dc035f1aa9e13aca1f54e9ecc4d4283f321a7103f7c8a1b01a7a33d0d15aa03a"), looks := true }, kinds := [], alts := [], laidByText := true, laidKinds := [.data, .pinned], laidTests := true, laidLooks := .later }
def DirsKeepCardSaid : Prop := Claim7.holds Tryz.pinned (.plain (OpenSpec.ofChange dirsKeepSpec)) dirsKeepCard

/-- THE SECOND FORM's CARD OF 'cutwaterlaw19.CheckSounds'. -/
def checkSoundsUptoCard : Claim7 := { stood := { row := checkSoundsUptoRow, standIns := [], harness := (true, "dc035f1aa9e13aca1f54e9ecc4d4283f321a7103f7c8a1b01a7a33d0d15aa03a"), looks := true }, kinds := [], alts := [], laidByText := true, laidKinds := [.data, .pinned], laidTests := true, laidLooks := .later }
def CheckSoundsUptoCardSaid : Prop := Claim7.holds Tryz.pinned (.plain (OpenSpec.upto checkSoundsSpec)) checkSoundsUptoCard

/-- THE SECOND FORM's CARD OF 'cutwaterlaw15.AllocLays'. -/
def allocLaysUptoCard : Claim7 := { stood := { row := allocLaysUptoRow, standIns := [], harness := (true, "dc035f1aa9e13aca1f54e9ecc4d4283f321a7103f7c8a1b01a7a33d0d15aa03a"), looks := true }, kinds := [], alts := [], laidByText := true, laidKinds := [.data, .pinned], laidTests := true, laidLooks := .later }
def AllocLaysUptoCardSaid : Prop := Claim7.holds Tryz.pinned (.plain (OpenSpec.upto allocLaysSpec)) allocLaysUptoCard

/-- THE SECOND FORM's CARD OF 'cutwaterlaw16.BmapHoles'. -/
def bmapHolesUptoCard : Claim7 := { stood := { row := bmapHolesUptoRow, standIns := [], harness := (true, "dc035f1aa9e13aca1f54e9ecc4d4283f321a7103f7c8a1b01a7a33d0d15aa03a"), looks := true }, kinds := [], alts := [], laidByText := true, laidKinds := [.data, .pinned], laidTests := true, laidLooks := .later }
def BmapHolesUptoCardSaid : Prop := Claim7.holds Tryz.pinned (.plain (OpenSpec.upto bmapHolesSpec)) bmapHolesUptoCard

/-- THE SECOND FORM's CARD OF 'cutwaterlaw17.DirsAsk'. -/
def dirsAskUptoCard : Claim7 := { stood := { row := dirsAskUptoRow, standIns := [], harness := (true, "dc035f1aa9e13aca1f54e9ecc4d4283f321a7103f7c8a1b01a7a33d0d15aa03a"), looks := true }, kinds := [], alts := [], laidByText := true, laidKinds := [.data, .pinned], laidTests := true, laidLooks := .later }
def DirsAskUptoCardSaid : Prop := Claim7.holds Tryz.pinned (.plain (OpenSpec.upto dirsAskSpec)) dirsAskUptoCard

/-- THE SECOND FORM's CARD OF 'cutwaterlaw17.DirsFull'. -/
def dirsFullUptoCard : Claim7 := { stood := { row := dirsFullUptoRow, standIns := [], harness := (true, "dc035f1aa9e13aca1f54e9ecc4d4283f321a7103f7c8a1b01a7a33d0d15aa03a"), looks := true }, kinds := [], alts := [], laidByText := true, laidKinds := [.data, .pinned], laidTests := true, laidLooks := .later }
def DirsFullUptoCardSaid : Prop := Claim7.holds Tryz.pinned (.plain (OpenSpec.upto dirsFullSpec)) dirsFullUptoCard

/-- THE SECOND FORM's CARD OF 'cutwaterlaw16.BmapReads'. -/
def bmapReadsUptoCard : Claim7 := { stood := { row := bmapReadsUptoRow, standIns := [], harness := (true, "dc035f1aa9e13aca1f54e9ecc4d4283f321a7103f7c8a1b01a7a33d0d15aa03a"), looks := true }, kinds := [], alts := [], laidByText := true, laidKinds := [.data, .pinned], laidTests := true, laidLooks := .later }
def BmapReadsUptoCardSaid : Prop := Claim7.holds Tryz.pinned (.plain (OpenSpec.upto bmapReadsSpec)) bmapReadsUptoCard

/-- THE SECOND FORM's CARD OF 'cutwaterlaw16.BmapSound'. -/
def bmapSoundUptoCard : Claim7 := { stood := { row := bmapSoundUptoRow, standIns := [], harness := (true, "dc035f1aa9e13aca1f54e9ecc4d4283f321a7103f7c8a1b01a7a33d0d15aa03a"), looks := true }, kinds := [], alts := [], laidByText := true, laidKinds := [.data, .pinned], laidTests := true, laidLooks := .later }
def BmapSoundUptoCardSaid : Prop := Claim7.holds Tryz.pinned (.plain (OpenSpec.upto bmapSoundSpec)) bmapSoundUptoCard

/-- THE SECOND FORM's CARD OF 'cutwaterlaw16.BmapFrees'. -/
def bmapFreesUptoCard : Claim7 := { stood := { row := bmapFreesUptoRow, standIns := [], harness := (true, "dc035f1aa9e13aca1f54e9ecc4d4283f321a7103f7c8a1b01a7a33d0d15aa03a"), looks := true }, kinds := [], alts := [], laidByText := true, laidKinds := [.data, .pinned], laidTests := true, laidLooks := .later }
def BmapFreesUptoCardSaid : Prop := Claim7.holds Tryz.pinned (.plain (OpenSpec.upto bmapFreesSpec)) bmapFreesUptoCard

/-- THE SECOND FORM's CARD OF 'cutwaterlaw17.DirsKeep'. -/
def dirsKeepUptoCard : Claim7 := { stood := { row := dirsKeepUptoRow, standIns := [], harness := (true, "dc035f1aa9e13aca1f54e9ecc4d4283f321a7103f7c8a1b01a7a33d0d15aa03a"), looks := true }, kinds := [], alts := [], laidByText := true, laidKinds := [.data, .pinned], laidTests := true, laidLooks := .later }
def DirsKeepUptoCardSaid : Prop := Claim7.holds Tryz.pinned (.plain (OpenSpec.upto dirsKeepSpec)) dirsKeepUptoCard
end Rows
end Go.Proofs.YtaphcmcimoloiaaGreatDoor
