/-
  A pair of texts among the arguments.
-/
import Derived.Test.YtcgpmnlondnbhaaGreatDoorOpens
import Derived.OpenShut
namespace Go.Proofs.YtcgpmnlondnbhaaGreatDoor
open Go Go.ChangeShapes Go.WideShapes Go.RowKit

end Go.Proofs.YtcgpmnlondnbhaaGreatDoor
