/-
  SpI: SpNode, SpLaid16.
-/
import Derived.Test.YtaphcmcimoloiaaGreatDoorSpF
namespace Go.Proofs.YtaphcmcimoloiaaGreatDoor.Sp
open Go Txt

end Go.Proofs.YtaphcmcimoloiaaGreatDoor.Sp

namespace Go.Proofs.YtaphcmcimoloiaaGreatDoor.Sp
open Go Txt

section
variable {g : Geom} {node epoch : Int}
end
end Go.Proofs.YtaphcmcimoloiaaGreatDoor.Sp
