/-
  DERIVED. GIVEN WITH THE SEED: THE CARDS: each row of YtcgpmnlondnbhaaDoorRows.lean that lists a variable, with what it lists TIED to the program's text (the seventh form; the later family's looks); each row that meets fmt, with fmt's text TOLD by the authors' own Lean function (tested against real Go, not proved from fmt's source: count such statements apart). THE CARD IS WHAT COUNTS. Prove the row's statement (the work); the ties are given (YtcgpmnlondnbhaaDoorTie.lean); close each card by the builder's one call (the guide's Derived/Test/ToyasCard.lean, 'card_holds'). Laid BY PROGRAM, IN A SANDBOX (cutbox-door.mjs). By AI agents, Wed Nov 11 2026. No macro, syntax, notation, axiom, sorry.
-/
import Derived.Test.YtcgpmnlondnbhaaDoorRows
import GoSem.ClaimSeven
namespace Go.Proofs.YtcgpmnlondnbhaaDoor
namespace Rows

/-- THE TIED CARD OF 'cutwaterlaw10.TreeReads'. -/
def treeReadsCard : Claim7 := { stood := { row := treeReadsRow, standIns := [], harness := (true, "dc7e1cb09a129f33bbaafc8976b5491f473e691c659780c02eb59fe88b3768a7"), looks := false }, kinds := [], alts := [], laidByText := true, laidKinds := [.data, .pinned], laidTests := true, laidLooks := .later }
def TreeReadsCardSaid : Prop := Claim7.holds Tryd.pinned (.plain (OpenSpec.ofChange treeReadsSpec)) treeReadsCard

/-- THE TIED CARD OF 'cutwaterlaw10.TreeLinks'. -/
def treeLinksCard : Claim7 := { stood := { row := treeLinksRow, standIns := [], harness := (true, "dc7e1cb09a129f33bbaafc8976b5491f473e691c659780c02eb59fe88b3768a7"), looks := false }, kinds := [], alts := [], laidByText := true, laidKinds := [.data, .pinned], laidTests := true, laidLooks := .later }
def TreeLinksCardSaid : Prop := Claim7.holds Tryd.pinned (.plain (OpenSpec.ofChange treeLinksSpec)) treeLinksCard

/-- THE TIED CARD OF 'cutwaterlaw10.TreeRenames'. -/
def treeRenamesCard : Claim7 := { stood := { row := treeRenamesRow, standIns := [], harness := (true, "dc7e1cb09a129f33bbaafc8976b5491f473e691c659780c02eb59fe88b3768a7"), looks := false }, kinds := [], alts := [], laidByText := true, laidKinds := [.data, .pinned], laidTests := true, laidLooks := .later }
def TreeRenamesCardSaid : Prop := Claim7.holds Tryd.pinned (.plain (OpenSpec.ofChange treeRenamesSpec)) treeRenamesCard

/-- THE TIED CARD OF 'cutwaterlaw10.TreeCounts'. -/
def treeCountsCard : Claim7 := { stood := { row := treeCountsRow, standIns := [], harness := (true, "dc7e1cb09a129f33bbaafc8976b5491f473e691c659780c02eb59fe88b3768a7"), looks := false }, kinds := [], alts := [], laidByText := true, laidKinds := [.data, .pinned], laidTests := true, laidLooks := .later }
def TreeCountsCardSaid : Prop := Claim7.holds Tryd.pinned (.plain (OpenSpec.ofChange treeCountsSpec)) treeCountsCard

/-- THE TIED CARD OF 'cutwaterlaw10.TreeEmpty'. -/
def treeEmptyCard : Claim7 := { stood := { row := treeEmptyRow, standIns := [], harness := (true, "dc7e1cb09a129f33bbaafc8976b5491f473e691c659780c02eb59fe88b3768a7"), looks := false }, kinds := [], alts := [], laidByText := true, laidKinds := [.data, .pinned], laidTests := true, laidLooks := .later }
def TreeEmptyCardSaid : Prop := Claim7.holds Tryd.pinned (.plain (OpenSpec.ofChange treeEmptySpec)) treeEmptyCard

/-- THE TIED CARD OF 'cutwaterlaw27.JudgeBegins'. -/
def judgeBeginsCard : Claim7 := { stood := { row := judgeBeginsRow, standIns := [], harness := (true, "dc7e1cb09a129f33bbaafc8976b5491f473e691c659780c02eb59fe88b3768a7"), looks := false }, kinds := [], alts := [], laidByText := true, laidKinds := [.data, .pinned], laidTests := true, laidLooks := .later }
def JudgeBeginsCardSaid : Prop := Claim7.holds Tryd.pinned (.plain (OpenSpec.ofChange judgeBeginsSpec)) judgeBeginsCard

/-- THE TIED CARD OF 'cutwaterlaw27.JudgeFine'. -/
def judgeFineCard : Claim7 := { stood := { row := judgeFineRow, standIns := [], harness := (true, "dc7e1cb09a129f33bbaafc8976b5491f473e691c659780c02eb59fe88b3768a7"), looks := false }, kinds := [], alts := [], laidByText := true, laidKinds := [.data, .pinned], laidTests := true, laidLooks := .later }
def JudgeFineCardSaid : Prop := Claim7.holds Tryd.pinned (.plain (OpenSpec.ofChange judgeFineSpec)) judgeFineCard

/-- THE TIED CARD OF 'cutwaterlaw27.JudgeFull'. -/
def judgeFullCard : Claim7 := { stood := { row := judgeFullRow, standIns := [], harness := (true, "dc7e1cb09a129f33bbaafc8976b5491f473e691c659780c02eb59fe88b3768a7"), looks := false }, kinds := [], alts := [], laidByText := true, laidKinds := [.data, .pinned], laidTests := true, laidLooks := .later }
def JudgeFullCardSaid : Prop := Claim7.holds Tryd.pinned (.plain (OpenSpec.ofChange judgeFullSpec)) judgeFullCard

/-- THE SECOND FORM's CARD OF 'cutwaterlaw10.TreeReads'. -/
def treeReadsUptoCard : Claim7 := { stood := { row := treeReadsUptoRow, standIns := [], harness := (true, "dc7e1cb09a129f33bbaafc8976b5491f473e691c659780c02eb59fe88b3768a7"), looks := false }, kinds := [], alts := [], laidByText := true, laidKinds := [.data, .pinned], laidTests := true, laidLooks := .later }
def TreeReadsUptoCardSaid : Prop := Claim7.holds Tryd.pinned (.plain (OpenSpec.upto treeReadsSpec)) treeReadsUptoCard

/-- THE SECOND FORM's CARD OF 'cutwaterlaw10.TreeLinks'. -/
def treeLinksUptoCard : Claim7 := { stood := { row := treeLinksUptoRow, standIns := [], harness := (true, "dc7e1cb09a129f33bbaafc8976b5491f473e691c659780c02eb59fe88b3768a7"), looks := false }, kinds := [], alts := [], laidByText := true, laidKinds := [.data, .pinned], laidTests := true, laidLooks := .later }
def TreeLinksUptoCardSaid : Prop := Claim7.holds Tryd.pinned (.plain (OpenSpec.upto treeLinksSpec)) treeLinksUptoCard

/-- THE SECOND FORM's CARD OF 'cutwaterlaw10.TreeRenames'. -/
def treeRenamesUptoCard : Claim7 := { stood := { row := treeRenamesUptoRow, standIns := [], harness := (true, "dc7e1cb09a129f33bbaafc8976b5491f473e691c659780c02eb59fe88b3768a7"), looks := false }, kinds := [], alts := [], laidByText := true, laidKinds := [.data, .pinned], laidTests := true, laidLooks := .later }
def TreeRenamesUptoCardSaid : Prop := Claim7.holds Tryd.pinned (.plain (OpenSpec.upto treeRenamesSpec)) treeRenamesUptoCard

/-- THE SECOND FORM's CARD OF 'cutwaterlaw10.TreeCounts'. -/
def treeCountsUptoCard : Claim7 := { stood := { row := treeCountsUptoRow, standIns := [], harness := (true, "dc7e1cb09a129f33bbaafc8976b5491f473e691c659780c02eb59fe88b3768a7"), looks := false }, kinds := [], alts := [], laidByText := true, laidKinds := [.data, .pinned], laidTests := true, laidLooks := .later }
def TreeCountsUptoCardSaid : Prop := Claim7.holds Tryd.pinned (.plain (OpenSpec.upto treeCountsSpec)) treeCountsUptoCard

/-- THE SECOND FORM's CARD OF 'cutwaterlaw10.TreeEmpty'. -/
def treeEmptyUptoCard : Claim7 := { stood := { row := treeEmptyUptoRow, standIns := [], harness := (true, "dc7e1cb09a129f33bbaafc8976b5491f473e691c659780c02eb59fe88b3768a7"), looks := false }, kinds := [], alts := [], laidByText := true, laidKinds := [.data, .pinned], laidTests := true, laidLooks := .later }
def TreeEmptyUptoCardSaid : Prop := Claim7.holds Tryd.pinned (.plain (OpenSpec.upto treeEmptySpec)) treeEmptyUptoCard

/-- THE SECOND FORM's CARD OF 'cutwaterlaw27.JudgeBegins'. -/
def judgeBeginsUptoCard : Claim7 := { stood := { row := judgeBeginsUptoRow, standIns := [], harness := (true, "dc7e1cb09a129f33bbaafc8976b5491f473e691c659780c02eb59fe88b3768a7"), looks := false }, kinds := [], alts := [], laidByText := true, laidKinds := [.data, .pinned], laidTests := true, laidLooks := .later }
def JudgeBeginsUptoCardSaid : Prop := Claim7.holds Tryd.pinned (.plain (OpenSpec.upto judgeBeginsSpec)) judgeBeginsUptoCard

/-- THE SECOND FORM's CARD OF 'cutwaterlaw27.JudgeFine'. -/
def judgeFineUptoCard : Claim7 := { stood := { row := judgeFineUptoRow, standIns := [], harness := (true, "dc7e1cb09a129f33bbaafc8976b5491f473e691c659780c02eb59fe88b3768a7"), looks := false }, kinds := [], alts := [], laidByText := true, laidKinds := [.data, .pinned], laidTests := true, laidLooks := .later }
def JudgeFineUptoCardSaid : Prop := Claim7.holds Tryd.pinned (.plain (OpenSpec.upto judgeFineSpec)) judgeFineUptoCard

/-- THE SECOND FORM's CARD OF 'cutwaterlaw27.JudgeFull'. -/
def judgeFullUptoCard : Claim7 := { stood := { row := judgeFullUptoRow, standIns := [], harness := (true, "dc7e1cb09a129f33bbaafc8976b5491f473e691c659780c02eb59fe88b3768a7"), looks := false }, kinds := [], alts := [], laidByText := true, laidKinds := [.data, .pinned], laidTests := true, laidLooks := .later }
def JudgeFullUptoCardSaid : Prop := Claim7.holds Tryd.pinned (.plain (OpenSpec.upto judgeFullSpec)) judgeFullUptoCard
end Rows
end Go.Proofs.YtcgpmnlondnbhaaDoor
