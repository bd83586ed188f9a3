/-
  Layer 15 as plain data: inodes and blocks are taken and freed. No program in this text.
-/
import Derived.Test.YtghafpdmcbockaaGreatDoorSpSoft
namespace Go.Proofs.YtghafpdmcbockaaGreatDoor.Sp
open Go Txt

def wrongC (g : Geom) (ks : List Int) : Int := if g.ok then (if ∃ n ∈ ks, n < 0 ∨ g.groups ≤ n then 1 else 0) else 4
/-- The sector of a group's map. -/
def mapAtG (g : Geom) (k : Int) (b : Bool) : Int := g.first k + (if b then 1 else 0)
def manyG (g : Geom) (b : Bool) : Int := if b then g.blocks else g.inodes
/-- A group's map as a side sees it; or none. -/
def Side.look (S : Side) (g : Geom) (k : Int) (b : Bool) : Option ByteArray :=
  if S.disk.has (mapAtG g k b) ∧ mapC (S.read (mapAtG g k b)) (manyG g b) = 0 then some (S.read (mapAtG g k b)) else none
/-- The first free place of a map. -/
def freeP (s : ByteArray) (n : Nat) : Option Nat := (List.range n).find? (fun i => s.data.toList.getD i 0 == 0)
def oneB : ByteArray := ⟨#[1]⟩
def zeroB : ByteArray := ⟨#[0]⟩
/-- What a taking answers: its group, its place, its change, a code. -/
structure Took where
  group : Int
  place : Int
  change : Int
  code : Int
def Side.takeL (S : Side) (g : Geom) (b : Bool) : List Int → Side × Took
  | [] => (S, ⟨0, 0, 0, 109⟩)
  | k :: r => match S.look g k b with
    | none => (S, ⟨0, 0, 0, 180⟩)
    | some s => match freeP s (manyG g b).toNat with
      | none => S.takeL g b r
      | some p => (S.change (mapAtG g k b) p oneB [], ⟨k, p, S.changeN (mapAtG g k b) p oneB [], S.changeC (mapAtG g k b) p oneB []⟩)
def Side.take (S : Side) (g : Geom) (b : Bool) (ks : List Int) : Side × Took := if wrongC g ks = 0 then S.takeL g b ks else (S, ⟨0, 0, 0, wrongC g ks⟩)
def inodeNo (g : Geom) (k p : Int) : Int := k * g.inodes + p + 1
def blockNo (g : Geom) (k p : Int) : Int := g.first k + 2 + g.inodes + p
/-- A place is freed: its change, a code. -/
def Side.give (S : Side) (g : Geom) (b : Bool) (k p : Int) (ahead : List Int) : Side × Int × Int :=
  match S.look g k b with
  | none => (S, 0, 180)
  | some s => if 0 ≤ p ∧ p < manyG g b ∧ s.data.toList.getD p.toNat 0 = 1 then (S.change (mapAtG g k b) p zeroB ahead, S.changeN (mapAtG g k b) p zeroB ahead, S.changeC (mapAtG g k b) p zeroB ahead) else (S, 0, 120)
def inodeC (g : Geom) (n : Int) : Int := if g.ok then (if n < 1 ∨ g.groups * g.inodes < n then 1 else 0) else 4
def Side.freeInode (S : Side) (g : Geom) (n : Int) (ahead : List Int) : Side × Int × Int :=
  if inodeC g n = 0 then S.give g false ((n - 1) / g.inodes) ((n - 1) % g.inodes) ahead else (S, 0, inodeC g n)
def blockC (g : Geom) (s : Int) : Int := if g.ok then (if s < 0 ∨ g.size ≤ s then 1 else if (g.kind s).1 = 6 then 0 else 1) else 4
def Side.freeBlock (S : Side) (g : Geom) (s : Int) (ahead : List Int) : Side × Int × Int :=
  if blockC g s = 0 then S.give g true ((g.kind s).2 / g.blocks) ((g.kind s).2 % g.blocks) ahead else (S, 0, blockC g s)
def onesN (s : ByteArray) : Nat := s.data.toList.count 1
/-- How many inodes and blocks of groups are free. -/
def Side.freeL (S : Side) (g : Geom) : List Int → Option (Int × Int)
  | [] => some (0, 0)
  | k :: r => match S.look g k false, S.look g k true, S.freeL g r with
    | some s, some t, some (x, y) => some (g.inodes - onesN s + x, g.blocks - onesN t + y)
    | _, _, _ => none
def Side.free (S : Side) (g : Geom) (ks : List Int) : Int × Int × Int :=
  if wrongC g ks = 0 then match S.freeL g ks with
    | some (x, y) => (x, y, 0)
    | none => (0, 0, 180)
  else (0, 0, wrongC g ks)
end Go.Proofs.YtghafpdmcbockaaGreatDoor.Sp
