import Derived.Test.YtmljdnlmpiklgaaGreatDoorSpLoadS
import Derived.Test.YtmljdnlmpiklgaaGreatDoorDumpD
import Derived.Test.YtmljdnlmpiklgaaGreatDoorRefA
namespace Go.Proofs.YtmljdnlmpiklgaaGreatDoor
open Go Go.RowKit Txt Sp
/-! ### numbers -/
/-! ### words -/
/-! ### what is read of a sector's line -/
section
set_option maxHeartbeats 4000000
end
