/-
  DERIVED. GIVEN WITH THE SEED: THE CARDS: each row of YtcgpmnlondnbhaaGreatDoorRows.lean that lists a variable, with what it lists TIED to the program's text (the seventh form; the later family's looks); each row that meets fmt, with fmt's text TOLD by the authors' own Lean function (tested against real Go, not proved from fmt's source: count such statements apart). THE CARD IS WHAT COUNTS. Prove the row's statement (the work); the ties are given (YtcgpmnlondnbhaaGreatDoorTie.lean); close each card by the builder's one call (the guide's Derived/Test/ToyasCard.lean, 'card_holds'). Laid BY PROGRAM, IN A SANDBOX (cutbox-door.mjs). By AI agents, Wed Nov 11 2026. No macro, syntax, notation, axiom, sorry.
-/
import Derived.Test.YtcgpmnlondnbhaaGreatDoorRows
import GoSem.ClaimSeven
namespace Go.Proofs.YtcgpmnlondnbhaaGreatDoor
namespace Rows

/-- THE TIED CARD OF 'cutwaterlaw10.TreePlays'. -/
def treePlaysCard : Claim7 := { stood := { row := treePlaysRow, standIns := [], harness := (true, "76cbc82303c1bcca894db4bf99e75f64c13a572d72d075587b28b23ef4d30903"), looks := false }, kinds := [], alts := [], laidByText := true, laidKinds := [.data, .pinned], laidTests := true, laidLooks := .later }
def TreePlaysCardSaid : Prop := Claim7.holds Tryz.pinned (.plain (OpenSpec.ofChange treePlaysSpec)) treePlaysCard

/-- THE TIED CARD OF 'cutwaterlaw10.TreeAsks'. -/
def treeAsksCard : Claim7 := { stood := { row := treeAsksRow, standIns := [], harness := (true, "76cbc82303c1bcca894db4bf99e75f64c13a572d72d075587b28b23ef4d30903"), looks := false }, kinds := [], alts := [], laidByText := true, laidKinds := [.data, .pinned], laidTests := true, laidLooks := .later }
def TreeAsksCardSaid : Prop := Claim7.holds Tryz.pinned (.plain (OpenSpec.ofChange treeAsksSpec)) treeAsksCard

/-- THE TIED CARD OF 'cutwaterlaw27.JudgeJudges'. -/
def judgeJudgesCard : Claim7 := { stood := { row := judgeJudgesRow, standIns := [], harness := (true, "76cbc82303c1bcca894db4bf99e75f64c13a572d72d075587b28b23ef4d30903"), looks := false }, kinds := [], alts := [], laidByText := true, laidKinds := [.data, .pinned], laidTests := true, laidLooks := .later }
def JudgeJudgesCardSaid : Prop := Claim7.holds Tryz.pinned (.plain (OpenSpec.ofChange judgeJudgesSpec)) judgeJudgesCard

/-- THE SECOND FORM's CARD OF 'cutwaterlaw10.TreePlays'. -/
def treePlaysUptoCard : Claim7 := { stood := { row := treePlaysUptoRow, standIns := [], harness := (true, "76cbc82303c1bcca894db4bf99e75f64c13a572d72d075587b28b23ef4d30903"), looks := false }, kinds := [], alts := [], laidByText := true, laidKinds := [.data, .pinned], laidTests := true, laidLooks := .later }
def TreePlaysUptoCardSaid : Prop := Claim7.holds Tryz.pinned (.plain (OpenSpec.upto treePlaysSpec)) treePlaysUptoCard

/-- THE SECOND FORM's CARD OF 'cutwaterlaw10.TreeAsks'. -/
def treeAsksUptoCard : Claim7 := { stood := { row := treeAsksUptoRow, standIns := [], harness := (true, "76cbc82303c1bcca894db4bf99e75f64c13a572d72d075587b28b23ef4d30903"), looks := false }, kinds := [], alts := [], laidByText := true, laidKinds := [.data, .pinned], laidTests := true, laidLooks := .later }
def TreeAsksUptoCardSaid : Prop := Claim7.holds Tryz.pinned (.plain (OpenSpec.upto treeAsksSpec)) treeAsksUptoCard

/-- THE SECOND FORM's CARD OF 'cutwaterlaw27.JudgeJudges'. -/
def judgeJudgesUptoCard : Claim7 := { stood := { row := judgeJudgesUptoRow, standIns := [], harness := (true, "76cbc82303c1bcca894db4bf99e75f64c13a572d72d075587b28b23ef4d30903"), looks := false }, kinds := [], alts := [], laidByText := true, laidKinds := [.data, .pinned], laidTests := true, laidLooks := .later }
def JudgeJudgesUptoCardSaid : Prop := Claim7.holds Tryz.pinned (.plain (OpenSpec.upto judgeJudgesSpec)) judgeJudgesUptoCard
end Rows
end Go.Proofs.YtcgpmnlondnbhaaGreatDoor
