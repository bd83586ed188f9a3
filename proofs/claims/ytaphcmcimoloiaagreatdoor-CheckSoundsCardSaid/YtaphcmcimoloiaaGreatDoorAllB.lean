/-
  AllB: AllocCalls, AllocFree, AllocCount, AllocLay.
-/
import Derived.Test.YtaphcmcimoloiaaGreatDoorAllA
import Derived.Test.YtaphcmcimoloiaaGreatDoorAllocA
namespace Go.Proofs.YtaphcmcimoloiaaGreatDoor
open Go Go.RowKit Txt Sp

section
set_option maxHeartbeats 4000000
end
end Go.Proofs.YtaphcmcimoloiaaGreatDoor

namespace Go.Proofs.YtaphcmcimoloiaaGreatDoor
open Go Go.RowKit Txt Sp

section
set_option maxHeartbeats 4000000
end
end Go.Proofs.YtaphcmcimoloiaaGreatDoor

namespace Go.Proofs.YtaphcmcimoloiaaGreatDoor
open Go Go.RowKit Txt Sp

section
set_option maxHeartbeats 8000000
end
end Go.Proofs.YtaphcmcimoloiaaGreatDoor

namespace Go.Proofs.YtaphcmcimoloiaaGreatDoor
open Go Go.RowKit Txt Sp

section
set_option maxHeartbeats 4000000
end
end Go.Proofs.YtaphcmcimoloiaaGreatDoor
