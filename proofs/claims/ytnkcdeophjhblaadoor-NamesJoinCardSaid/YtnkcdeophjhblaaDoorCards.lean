/-
  DERIVED. GIVEN WITH THE SEED: THE CARDS: each row of YtnkcdeophjhblaaDoorRows.lean that lists a variable, with what it lists TIED to the program's text (the seventh form; the later family's looks); each row that meets fmt, with fmt's text TOLD by the authors' own Lean function (tested against real Go, not proved from fmt's source: count such statements apart). THE CARD IS WHAT COUNTS. Prove the row's statement (the work); the ties are given (YtnkcdeophjhblaaDoorTie.lean); close each card by the builder's one call (the guide's Derived/Test/ToyasCard.lean, 'card_holds'). Laid BY PROGRAM, IN A SANDBOX (cutbox-door.mjs). By AI agents, Wed Nov 11 2026. No macro, syntax, notation, axiom, sorry.
-/
import Derived.Test.YtnkcdeophjhblaaDoorRows
import GoSem.ClaimSeven
namespace Go.Proofs.YtnkcdeophjhblaaDoor
namespace Rows

/-- THE TIED CARD OF 'cutwaterlaw09.NamesSplit'. -/
def namesSplitCard : Claim7 := { stood := { row := namesSplitRow, standIns := [], harness := (true, "20179a8dc5d3373c1383fab53815e230cd0b844b76af7e5c934ebeb7cd5b41b3"), looks := false }, kinds := [], alts := [], laidByText := true, laidKinds := [.data, .pinned], laidTests := true, laidLooks := .later }
def NamesSplitCardSaid : Prop := Claim7.holds Tryd.pinned (.plain (OpenSpec.ofChange namesSplitSpec)) namesSplitCard

/-- THE TIED CARD OF 'cutwaterlaw09.NamesCommon'. -/
def namesCommonCard : Claim7 := { stood := { row := namesCommonRow, standIns := [], harness := (true, "20179a8dc5d3373c1383fab53815e230cd0b844b76af7e5c934ebeb7cd5b41b3"), looks := false }, kinds := [], alts := [], laidByText := true, laidKinds := [.data, .pinned], laidTests := true, laidLooks := .later }
def NamesCommonCardSaid : Prop := Claim7.holds Tryd.pinned (.plain (OpenSpec.ofChange namesCommonSpec)) namesCommonCard

/-- THE TIED CARD OF 'cutwaterlaw09.NamesTwo'. -/
def namesTwoCard : Claim7 := { stood := { row := namesTwoRow, standIns := [], harness := (true, "20179a8dc5d3373c1383fab53815e230cd0b844b76af7e5c934ebeb7cd5b41b3"), looks := false }, kinds := [], alts := [], laidByText := true, laidKinds := [.data, .pinned], laidTests := true, laidLooks := .later }
def NamesTwoCardSaid : Prop := Claim7.holds Tryd.pinned (.plain (OpenSpec.ofChange namesTwoSpec)) namesTwoCard

/-- THE TIED CARD OF 'cutwaterlaw09.NamesUnder'. -/
def namesUnderCard : Claim7 := { stood := { row := namesUnderRow, standIns := [], harness := (true, "20179a8dc5d3373c1383fab53815e230cd0b844b76af7e5c934ebeb7cd5b41b3"), looks := false }, kinds := [], alts := [], laidByText := true, laidKinds := [.data, .pinned], laidTests := true, laidLooks := .later }
def NamesUnderCardSaid : Prop := Claim7.holds Tryd.pinned (.plain (OpenSpec.ofChange namesUnderSpec)) namesUnderCard

/-- THE TIED CARD OF 'cutwaterlaw09.NamesJoin'. -/
def namesJoinCard : Claim7 := { stood := { row := namesJoinRow, standIns := [], harness := (true, "20179a8dc5d3373c1383fab53815e230cd0b844b76af7e5c934ebeb7cd5b41b3"), looks := false }, kinds := [], alts := [], laidByText := true, laidKinds := [.data, .pinned], laidTests := true, laidLooks := .later }
def NamesJoinCardSaid : Prop := Claim7.holds Tryd.pinned (.plain (OpenSpec.ofChange namesJoinSpec)) namesJoinCard

/-- THE TIED CARD OF 'cutwaterlaw09.NamesBack'. -/
def namesBackCard : Claim7 := { stood := { row := namesBackRow, standIns := [], harness := (true, "20179a8dc5d3373c1383fab53815e230cd0b844b76af7e5c934ebeb7cd5b41b3"), looks := false }, kinds := [], alts := [], laidByText := true, laidKinds := [.data, .pinned], laidTests := true, laidLooks := .later }
def NamesBackCardSaid : Prop := Claim7.holds Tryd.pinned (.plain (OpenSpec.ofChange namesBackSpec)) namesBackCard

/-- THE SECOND FORM's CARD OF 'cutwaterlaw09.NamesSplit'. -/
def namesSplitUptoCard : Claim7 := { stood := { row := namesSplitUptoRow, standIns := [], harness := (true, "20179a8dc5d3373c1383fab53815e230cd0b844b76af7e5c934ebeb7cd5b41b3"), looks := false }, kinds := [], alts := [], laidByText := true, laidKinds := [.data, .pinned], laidTests := true, laidLooks := .later }
def NamesSplitUptoCardSaid : Prop := Claim7.holds Tryd.pinned (.plain (OpenSpec.upto namesSplitSpec)) namesSplitUptoCard

/-- THE SECOND FORM's CARD OF 'cutwaterlaw09.NamesCommon'. -/
def namesCommonUptoCard : Claim7 := { stood := { row := namesCommonUptoRow, standIns := [], harness := (true, "20179a8dc5d3373c1383fab53815e230cd0b844b76af7e5c934ebeb7cd5b41b3"), looks := false }, kinds := [], alts := [], laidByText := true, laidKinds := [.data, .pinned], laidTests := true, laidLooks := .later }
def NamesCommonUptoCardSaid : Prop := Claim7.holds Tryd.pinned (.plain (OpenSpec.upto namesCommonSpec)) namesCommonUptoCard

/-- THE SECOND FORM's CARD OF 'cutwaterlaw09.NamesTwo'. -/
def namesTwoUptoCard : Claim7 := { stood := { row := namesTwoUptoRow, standIns := [], harness := (true, "20179a8dc5d3373c1383fab53815e230cd0b844b76af7e5c934ebeb7cd5b41b3"), looks := false }, kinds := [], alts := [], laidByText := true, laidKinds := [.data, .pinned], laidTests := true, laidLooks := .later }
def NamesTwoUptoCardSaid : Prop := Claim7.holds Tryd.pinned (.plain (OpenSpec.upto namesTwoSpec)) namesTwoUptoCard

/-- THE SECOND FORM's CARD OF 'cutwaterlaw09.NamesUnder'. -/
def namesUnderUptoCard : Claim7 := { stood := { row := namesUnderUptoRow, standIns := [], harness := (true, "20179a8dc5d3373c1383fab53815e230cd0b844b76af7e5c934ebeb7cd5b41b3"), looks := false }, kinds := [], alts := [], laidByText := true, laidKinds := [.data, .pinned], laidTests := true, laidLooks := .later }
def NamesUnderUptoCardSaid : Prop := Claim7.holds Tryd.pinned (.plain (OpenSpec.upto namesUnderSpec)) namesUnderUptoCard

/-- THE SECOND FORM's CARD OF 'cutwaterlaw09.NamesJoin'. -/
def namesJoinUptoCard : Claim7 := { stood := { row := namesJoinUptoRow, standIns := [], harness := (true, "20179a8dc5d3373c1383fab53815e230cd0b844b76af7e5c934ebeb7cd5b41b3"), looks := false }, kinds := [], alts := [], laidByText := true, laidKinds := [.data, .pinned], laidTests := true, laidLooks := .later }
def NamesJoinUptoCardSaid : Prop := Claim7.holds Tryd.pinned (.plain (OpenSpec.upto namesJoinSpec)) namesJoinUptoCard

/-- THE SECOND FORM's CARD OF 'cutwaterlaw09.NamesBack'. -/
def namesBackUptoCard : Claim7 := { stood := { row := namesBackUptoRow, standIns := [], harness := (true, "20179a8dc5d3373c1383fab53815e230cd0b844b76af7e5c934ebeb7cd5b41b3"), looks := false }, kinds := [], alts := [], laidByText := true, laidKinds := [.data, .pinned], laidTests := true, laidLooks := .later }
def NamesBackUptoCardSaid : Prop := Claim7.holds Tryd.pinned (.plain (OpenSpec.upto namesBackSpec)) namesBackUptoCard
end Rows
end Go.Proofs.YtnkcdeophjhblaaDoor
