/-
  Layer 19 as plain data: what the program notes as it goes through a disk, step by step. No program in this text.
-/
import Derived.Test.YtaphcmcimoloiaaGreatDoorInodeDec
import Derived.Test.YtaphcmcimoloiaaGreatDoorInodeList
import Derived.Test.YtaphcmcimoloiaaGreatDoorSuperA
import Derived.Test.YtaphcmcimoloiaaGreatDoorSpA
import Derived.Test.YtaphcmcimoloiaaGreatDoorSofA
import Derived.Test.YtaphcmcimoloiaaGreatDoorSidA
namespace Go.Proofs.YtaphcmcimoloiaaGreatDoor.Sp
open Go Txt

/-- What has been noted: the inodes whose sectors are, those that are reached, of each the directories of its names, how often blocks are named, the defects. -/
structure Look where
  nodes : List (Int × Inode)
  inn : List (Int × Bool)
  names : List (Int × List Int)
  named : List (Int × Int)
  found : List (Int × Int)
def Look.has (t : Look) (i : Int) : Bool := (IM.getM t.inn i).getD false
def Look.cnt (t : Look) (b : Int) : Int := (IM.getM t.named b).getD 0
def Look.node (t : Look) (i : Int) : Inode := (IM.getM t.nodes i).getD zeroN
def Look.namesOf (t : Look) (i : Int) : List Int := (IM.getM t.names i).getD []
def Look.tell (t : Look) (k a : Int) : Look := { t with found := if (k, a) ∈ t.found then t.found else t.found ++ [(k, a)] }
def Look.count (t : Look) (b : Int) : Look := { t with named := IM.setM t.named b (IntKind.i64.wrap (t.cnt b + 1)) }
def Look.name (t : Look) (x i : Int) : Look := { t with names := IM.setM t.names x (t.namesOf x ++ [i]) }
def Look.enter (t : Look) (i : Int) : Look := { t with inn := IM.setM t.inn i true }
def Look.blocks (g : Geom) (S : Int → ByteArray) (t : Look) (n : Inode) : Look × List Int :=
  if n.more = 0 then (t, n.direct) else
    (if listC g (S n.more) = 0 then t.count n.more else (t.count n.more).tell 1 n.more, n.direct ++ (if listC g (S n.more) = 0 then listOf (S n.more) else []))
def Look.slot (g : Geom) (i at_ x : Int) (p : Look × List Int) : Look × List Int :=
  if x = 0 then p
  else if g.many < x ∨ ((IM.getM p.1.nodes x).isSome = true ∧ (p.1.node x).kind = 0) then (p.1.tell 2 at_, p.2)
  else (p.1.name x i, if (IM.getM p.1.nodes x).isSome then p.2 ++ [x] else p.2)
def Look.slots (g : Geom) (s : ByteArray) (i at_ : Int) : Nat → Look × List Int → Look × List Int
  | 0, p => p
  | k + 1, p => Look.slot g i at_ (slotOf s k).inode (Look.slots g s i at_ k p)
def Look.dir (g : Geom) (S : Int → ByteArray) (t : Look) (i at_ : Int) : Look × List Int :=
  if isDirS (S at_) then Look.slots g (S at_) i at_ 4 (t, []) else (t.tell 1 at_, [])
def Look.block (g : Geom) (S : Int → ByteArray) (i : Int) (n : Inode) (k : Nat) (b : Int) (p : Look × List Int) : Look × List Int :=
  if b = 0 then p
  else if n.kind = 2 ∧ (k : Int) * 64 < n.size then (((p.1.count b).dir g S i b).1, p.2 ++ ((p.1.count b).dir g S i b).2)
  else (p.1.count b, p.2)
def Look.scan (g : Geom) (S : Int → ByteArray) (i : Int) (n : Inode) : Nat → List Int → Look × List Int → Look × List Int
  | _, [], p => p
  | k, b :: r, p => Look.scan g S i n (k + 1) r (Look.block g S i n k b p)
def Look.open_ (g : Geom) (S : Int → ByteArray) (t : Look) (i : Int) : Look × List Int :=
  Look.scan g S i (t.node i) 0 ((t.enter i).blocks g S (t.node i)).2 (((t.enter i).blocks g S (t.node i)).1, [])
def Look.visit (g : Geom) (S : Int → ByteArray) : Nat → Look → Int → Look
  | 0, t, _ => t
  | f + 1, t, i => if t.has i then t else (t.open_ g S i).2.foldl (Look.visit g S f) (t.open_ g S i).1
def Look.read (g : Geom) (S : Int → ByteArray) (t : Look) (i : Int) : Look :=
  if isInode g (S (inodeAt g i).1) then { t with nodes := IM.setM t.nodes i (inodeOf (S (inodeAt g i).1)) } else t.tell 1 (inodeAt g i).1
def Look.reads (g : Geom) (S : Int → ByteArray) : Nat → Look → Look
  | 0, t => t
  | k + 1, t => Look.read g S (Look.reads g S k t) ((k : Int) + 1)
def Look.start (g : Geom) (S : Int → ByteArray) : Look :=
  if superC (S 0) = 0 ∧ (superG (S 0)).groups = g.groups ∧ (superG (S 0)).inodes = g.inodes ∧ (superG (S 0)).blocks = g.blocks then ⟨[], [], [], [], []⟩ else ⟨[], [], [], [], [(1, 0)]⟩
def Look.rooted (t : Look) : Look := { t with names := IM.setM t.names 1 [1] }
def Look.through (g : Geom) (S : Int → ByteArray) : Look :=
  if ((Look.reads g S g.many.toNat (Look.start g S)).node 1).kind = 2 then Look.visit g S (g.many.toNat + 1) (Look.reads g S g.many.toNat (Look.start g S)).rooted 1
  else (Look.reads g S g.many.toNat (Look.start g S)).tell 1 (inodeAt g 1).1
def Look.reached (t : Look) (i : Int) (n : Inode) : Look :=
  let m := t.namesOf i
  let t1 := if n.links < (m.length : Int) then t.tell 5 i else if (m.length : Int) < n.links then t.tell 8 i else t
  if n.kind ≠ 2 then t1 else if 1 < m.length then t1.tell 6 i else if n.parent ≠ m.getD 0 0 then t1.tell 7 i else t1
def Look.taken (g : Geom) (S : Int → ByteArray) (t : Look) (k : Int) (b : Bool) (n : Int) : Look × Option (List Nat) :=
  if mapC (S (mapAt g k b).1) n = 0 then (t, some (placesL (S (mapAt g k b).1).data.toList n.toNat)) else (t.tell 1 (mapAt g k b).1, none)
def Look.inode (g : Geom) (k : Int) (ps : Option (List Nat)) (t : Look) (p : Nat) : Look :=
  let i := k * g.inodes + p + 1
  match IM.getM t.nodes i with
  | none => t
  | some n =>
    let t1 := if t.has i then t.reached i n else t
    match ps with
    | none => t1
    | some l => if t.has i ≠ decide (p ∈ l) ∨ (t.has i = false ∧ n.kind ≠ 0) then t1.tell 9 i else t1
def Look.block2 (g : Geom) (k : Int) (ps : Option (List Nat)) (t : Look) (p : Nat) : Look :=
  let a := (blkAt g k p).1
  let t1 := if 1 < t.cnt a then t.tell 3 a else t
  match ps with
  | none => t1
  | some l => if 0 < t.cnt a ∧ p ∉ l then t1.tell 4 a else if t.cnt a = 0 ∧ p ∈ l then t1.tell 10 a else t1
def Look.upto (f : Look → Nat → Look) : Nat → Look → Look
  | 0, t => t
  | k + 1, t => f (Look.upto f k t) k
def Look.group (g : Geom) (S : Int → ByteArray) (t : Look) (k : Nat) : Look :=
  let a := t.taken g S k false g.inodes
  let t2 := Look.upto (Look.inode g k a.2) g.inodes.toNat a.1
  let b := t2.taken g S k true g.blocks
  Look.upto (Look.block2 g k b.2) g.blocks.toNat b.1
def Look.disk (g : Geom) (S : Int → ByteArray) : Look := Look.upto (fun t k => t.group g S k) g.groups.toNat (Look.through g S)
end Go.Proofs.YtaphcmcimoloiaaGreatDoor.Sp
