/-
  SpF: SpSect, SpFile, SpFileS, SpBm, SpBmOps, SpBmPut.
-/
import Derived.Test.YtaphcmcimoloiaaGreatDoorSpC
import Derived.Test.YtaphcmcimoloiaaGreatDoorSpA
namespace Go.Proofs.YtaphcmcimoloiaaGreatDoor.Sp
open Go Txt

section
variable {n : Inode} (h : n.direct.length = 8)
include h
end
end Go.Proofs.YtaphcmcimoloiaaGreatDoor.Sp

namespace Go.Proofs.YtaphcmcimoloiaaGreatDoor.Sp
open Go Txt

structure File where
  kind : Int
  links : Int
  size : Int
  parent : Int
  gen : Int
  blocks : List Int
  more : Int
section
variable {V : Int → ByteArray} {j : Int} {F : File}
end
end Go.Proofs.YtaphcmcimoloiaaGreatDoor.Sp

namespace Go.Proofs.YtaphcmcimoloiaaGreatDoor.Sp
open Go Txt

section
variable {V : Int → ByteArray} {j : Int} {F : File}
end
end Go.Proofs.YtaphcmcimoloiaaGreatDoor.Sp

namespace Go.Proofs.YtaphcmcimoloiaaGreatDoor.Sp
open Go Txt

def inodeSec (g : Geom) (i : Int) : Int := g.first ((i - 1) / g.inodes) + 2 + (i - 1) % g.inodes
section
variable {g : Geom} (hg : g.ok)
include hg
theorem inodeSec_in {i : Int} (h1 : 1 ≤ i) (h2 : i ≤ g.groups * g.inodes) : 0 ≤ inodeSec g i ∧ inodeSec g i < g.size := by
  have hl : g.long = 2 + g.inodes + g.blocks := rfl
  have hlp := Geom.long_bd hg
  have hb := hg.2.2.2.2.1
  obtain ⟨_, ⟨k0, k1⟩, ⟨p0, p1⟩, _⟩ := inodeC_no hg h1 h2
  have h0 := Geom.first_bd hg (k := 0) (by omega) (by omega)
  have hkl : 0 ≤ (i - 1) / g.inodes * g.long := Int.mul_nonneg k0 (by omega)
  have hs : ((i - 1) / g.inodes + 1) * g.long ≤ g.groups * g.long := Int.mul_le_mul_of_nonneg_right (by omega) (by omega)
  rw [Int.add_mul] at hs
  have hf : g.first ((i - 1) / g.inodes) = g.first 0 + (i - 1) / g.inodes * g.long := by unfold Geom.first; omega
  have hz : g.size = g.first 0 + g.groups * g.long := by rw [Geom.size_ok hg]; unfold Geom.first; omega
  unfold inodeSec
  omega
end
section
variable {g : Geom} {i : Int} {S : Side} {F : File} {X Y : List Int} {r : Nat}
end
end Go.Proofs.YtaphcmcimoloiaaGreatDoor.Sp

namespace Go.Proofs.YtaphcmcimoloiaaGreatDoor.Sp
open Go Txt

section
variable {g : Geom} {i : Int} {S : Side} {F : File} {X Y : List Int} {r : Nat}
theorem whole {l x : List UInt8} (h : l.length = 64) (hx : x.length = 64) : patchL l 0 x = x := by
  unfold patchL
  rw [List.take_zero, List.nil_append, Nat.zero_add, List.drop_of_length_le (by omega), List.append_nil]
end
end Go.Proofs.YtaphcmcimoloiaaGreatDoor.Sp

namespace Go.Proofs.YtaphcmcimoloiaaGreatDoor.Sp
open Go Txt

section
variable {V : Int → ByteArray} {j : Int} {F : File}
end
section
variable {g : Geom} {i : Int} {S : Side} {F : File} {X Y : List Int} {r : Nat}
end
end Go.Proofs.YtaphcmcimoloiaaGreatDoor.Sp
