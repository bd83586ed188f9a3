/-
  SpG: SpBmDo, SpBmWrite, SpBmCut, SpBmFile.
-/
import Derived.Test.YtaphcmcimoloiaaGreatDoorSpF
namespace Go.Proofs.YtaphcmcimoloiaaGreatDoor.Sp
open Go Txt

/-- A file that is open: its side, what it is, the changes that were made. -/
structure BSt where
  S : Side
  F : File
  made : List Int
section
variable {g : Geom} {i : Int} {X Y : List Int} {r : Nat} {t : BSt}
end
end Go.Proofs.YtaphcmcimoloiaaGreatDoor.Sp

namespace Go.Proofs.YtaphcmcimoloiaaGreatDoor.Sp
open Go Txt

section
variable {g : Geom} {i : Int} {X Y : List Int} {r : Nat} {t : BSt}
end
end Go.Proofs.YtaphcmcimoloiaaGreatDoor.Sp

namespace Go.Proofs.YtaphcmcimoloiaaGreatDoor.Sp
open Go Txt

section
variable {V : Int → ByteArray} {j : Int} {F : File}
end
section
variable {g : Geom} {i : Int} {X Y : List Int} {r : Nat} {t : BSt} {first : Int}
end
end Go.Proofs.YtaphcmcimoloiaaGreatDoor.Sp

namespace Go.Proofs.YtaphcmcimoloiaaGreatDoor.Sp
open Go Txt

section
variable {g : Geom} {i : Int} {X Y : List Int} {r : Nat} {t : BSt} {first : Int}
end
end Go.Proofs.YtaphcmcimoloiaaGreatDoor.Sp
