/-
  AllA: AllocLook, AllocTake.
-/
import Derived.Test.YtaphcmcimoloiaaGreatDoorSofA
namespace Go.Proofs.YtaphcmcimoloiaaGreatDoor
open Go Go.RowKit Txt Sp

section
set_option maxHeartbeats 4000000
theorem mapAt_in {g : Sp.Geom} (hg : g.ok) {k : Int} (hk : 0 ≤ k ∧ k < g.groups) (b : Bool) : mapAt g k b = (mapAtG g k b, 0) := by
  have hw : g.within k g.groups = 0 := by unfold Geom.within; rw [if_pos hg, if_neg (by omega)]
  unfold mapAt
  rw [if_pos hw]
  rfl
end
end Go.Proofs.YtaphcmcimoloiaaGreatDoor

namespace Go.Proofs.YtaphcmcimoloiaaGreatDoor
open Go Go.RowKit Txt Sp

section
set_option maxHeartbeats 4000000
end
end Go.Proofs.YtaphcmcimoloiaaGreatDoor
