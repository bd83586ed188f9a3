/-
  SpH: SpBmCode, SpBmRun, SpBmWipe, SpBmSame.
-/
import Derived.Test.YtaphcmcimoloiaaGreatDoorSpG
namespace Go.Proofs.YtaphcmcimoloiaaGreatDoor.Sp
open Go Txt

section
variable (t : BSt) (g : Geom) (i : Int) (ks : List Int)
end
section
variable (t : BSt) (g : Geom) (i first : Int)
end
section
variable {g : Geom} {i : Int} {X Y : List Int} {r : Nat} {t : BSt}
variable {first : Int}
end

end Go.Proofs.YtaphcmcimoloiaaGreatDoor.Sp

namespace Go.Proofs.YtaphcmcimoloiaaGreatDoor.Sp
open Go Txt

section
variable {g : Geom} {i : Int} {ks : List Int} {f0 f : Nat} {t0 t : BSt} {off a : Nat} {d0 d : List UInt8}
end
end Go.Proofs.YtaphcmcimoloiaaGreatDoor.Sp

namespace Go.Proofs.YtaphcmcimoloiaaGreatDoor.Sp
open Go Txt

section
variable {g : Geom} {i first : Int} {u q : Nat} {t0 t : BSt}
end
end Go.Proofs.YtaphcmcimoloiaaGreatDoor.Sp

namespace Go.Proofs.YtaphcmcimoloiaaGreatDoor.Sp
open Go Txt

end Go.Proofs.YtaphcmcimoloiaaGreatDoor.Sp
