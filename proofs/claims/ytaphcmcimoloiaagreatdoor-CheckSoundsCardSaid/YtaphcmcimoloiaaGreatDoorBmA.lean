/-
  BmA: BmStop, BmDoor, BmMem, InodePatch, BmNote, BmChange, BmFresh.
-/
import Derived.Test.YtaphcmcimoloiaaGreatDoorProg
import Derived.Outline
import Derived.WalkKit
import Derived.WalkLawsBesides
import Derived.Lib.Hide
import Derived.Defers
import Derived.Recover
import Derived.Test.YtaphcmcimoloiaaGreatDoorAllB
import Derived.Test.YtaphcmcimoloiaaGreatDoorSpH
import Derived.Test.YtaphcmcimoloiaaGreatDoorTableA
namespace Go.Proofs.YtaphcmcimoloiaaGreatDoor
open Go Go.RowKit

end Go.Proofs.YtaphcmcimoloiaaGreatDoor

namespace Go.Proofs.YtaphcmcimoloiaaGreatDoor
open Go Go.RowKit

end Go.Proofs.YtaphcmcimoloiaaGreatDoor

namespace Go.Proofs.YtaphcmcimoloiaaGreatDoor
open Go Go.RowKit Txt Sp

section
variable {w0 wr wr' : World} {base B Bd Bf : Nat} {D0 D K : Nat → Prop} {g : Sp.Geom} {i at_ : Int} {n : Sp.Inode} {t t' : BSt} {vb vm : Value} {S S' : Sp.Side} {F F' : File}
end
end Go.Proofs.YtaphcmcimoloiaaGreatDoor

namespace Go.Proofs.YtaphcmcimoloiaaGreatDoor
open Go Go.RowKit Txt Sp

section
set_option maxHeartbeats 2000000
end
end Go.Proofs.YtaphcmcimoloiaaGreatDoor

namespace Go.Proofs.YtaphcmcimoloiaaGreatDoor
open Go Go.RowKit Txt Sp

section
variable {w0 w : World} {base B Bd Bf : Nat} {D0 D : Nat → Prop} {g : Sp.Geom} {i at_ : Int} {n : Sp.Inode} {t : BSt} {vb vm : Value}
set_option maxHeartbeats 2000000
end
end Go.Proofs.YtaphcmcimoloiaaGreatDoor

namespace Go.Proofs.YtaphcmcimoloiaaGreatDoor
open Go Go.RowKit Txt Sp

section
variable {w0 w w1 : World} {base B Bd Bf : Nat} {D0 D K K1 : Nat → Prop} {g : Sp.Geom} {i at_ : Int} {n : Sp.Inode} {t t' : BSt} {vb vm : Value}
set_option maxHeartbeats 2000000
end
end Go.Proofs.YtaphcmcimoloiaaGreatDoor

namespace Go.Proofs.YtaphcmcimoloiaaGreatDoor
open Go Go.RowKit Txt Sp

section
variable {w0 w w1 : World} {base B Bd Bf : Nat} {D0 D K K1 : Nat → Prop} {g : Sp.Geom} {i at_ : Int} {n : Sp.Inode} {t t' : BSt} {vb vm : Value}
set_option maxHeartbeats 2000000
end
end Go.Proofs.YtaphcmcimoloiaaGreatDoor
