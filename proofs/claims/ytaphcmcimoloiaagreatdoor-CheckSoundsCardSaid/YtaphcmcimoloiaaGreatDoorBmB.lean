/-
  BmB: BmName, BmPut, BmPutNew.
-/
import Derived.Test.YtaphcmcimoloiaaGreatDoorBmA
namespace Go.Proofs.YtaphcmcimoloiaaGreatDoor
open Go Go.RowKit Txt Sp

section
variable {w0 w w1 wr : World} {base B Bd Bf : Nat} {D0 D K K1 : Nat → Prop} {g : Sp.Geom} {i at_ : Int} {n : Sp.Inode} {t t' : BSt} {vb vm : Value}
set_option maxHeartbeats 2000000
end
end Go.Proofs.YtaphcmcimoloiaaGreatDoor

namespace Go.Proofs.YtaphcmcimoloiaaGreatDoor
open Go Go.RowKit Txt Sp

section
variable {w0 w w1 wr : World} {base B Bd Bf : Nat} {D0 D K K1 : Nat → Prop} {g : Sp.Geom} {i at_ : Int} {n : Sp.Inode} {t t' : BSt} {vb vm : Value}
set_option maxHeartbeats 2000000
end
end Go.Proofs.YtaphcmcimoloiaaGreatDoor

namespace Go.Proofs.YtaphcmcimoloiaaGreatDoor
open Go Go.RowKit Txt Sp

section
variable {w0 w w1 wr : World} {base B Bd Bf : Nat} {D0 D K K1 : Nat → Prop} {g : Sp.Geom} {i at_ : Int} {n : Sp.Inode} {t t' : BSt} {vb vm : Value}
/-- What stands for all of a put: from a world w1 on. -/
structure PutK (w0 : World) (base B Bd Bf : Nat) (D0 : Nat → Prop) (g : Sp.Geom) (i at_ : Int) (n : Sp.Inode) (vb : Value) (K : Nat → Prop) (w1 : World) (vk : Value) (ks : List Int) : Prop where
  ok : g.ok
  at_ : at_ = inodeSec g i
  groups : ∀ k ∈ ks, 0 ≤ k ∧ k < g.groups
  ints : ∀ W, Turn D0 w0 W → Ints W vk ks
variable {vk : Value} {ks : List Int}
set_option maxHeartbeats 4000000
end
end Go.Proofs.YtaphcmcimoloiaaGreatDoor
