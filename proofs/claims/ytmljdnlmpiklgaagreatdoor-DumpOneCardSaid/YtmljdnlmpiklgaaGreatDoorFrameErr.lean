/-
  A world for a witness: flat tables, and errors that errors.New made.
-/
import Derived.Test.YtmljdnlmpiklgaaGreatDoorFrame
namespace Go.Proofs.YtmljdnlmpiklgaaGreatDoor.frame
open Go Go.RowKit

noncomputable def lowBlock : Nat := (World.holding Tryz.prog default ⟨#[], #[], []⟩).heap.size
def layError (h : Array Obj) (x : Nat × Nat) : Array Obj :=
  h.modify x.1 fun
    | .cells _ t frozen => .cells #[.iface 215 (.pointer (some ⟨x.2, 0, none⟩))] t frozen
    | o => o
/-- A world for the witness: tables, and two errors, each a pointer to a block of its own behind the settled world's. -/
noncomputable def laidWorldE (tabs : List (Nat × DataW Unit)) (g0 g1 : Nat) (s0 s1 : List UInt8) (os : Os) : World :=
  { World.holding Tryz.prog os ⟨#[.cells #[.string ⟨s0.toArray⟩] 217, .cells #[.string ⟨s1.toArray⟩] 217], #[], []⟩ with
    heap := layError (layError (tabs.foldl layTable (World.holding Tryz.prog os ⟨#[.cells #[.string ⟨s0.toArray⟩] 217, .cells #[.string ⟨s1.toArray⟩] 217], #[], []⟩).heap) (g0, lowBlock)) (g1, lowBlock + 1) }
end Go.Proofs.YtmljdnlmpiklgaaGreatDoor.frame
