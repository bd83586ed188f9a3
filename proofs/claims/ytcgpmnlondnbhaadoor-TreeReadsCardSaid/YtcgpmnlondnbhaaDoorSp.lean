/-
  The tree of layer 10 as plain data: paths (lists of names) and what they stand for. No program in this text.
-/
import Derived.Test.YtcgpmnlondnbhaaDoorTxt
namespace Go.Proofs.YtcgpmnlondnbhaaDoor.Sp
open Go Txt

structure Op where
  kind : Int
  path : ByteArray
  to : ByteArray
  off : Int
  len : Int
  data : ByteArray
structure Ans where
  code : Int := 0
  kind : Int := 0
  links : Int := 0
  size : Int := 0
  data : ByteArray := ofL []
  names : List ByteArray := []

/-- Paths but the root's, each with the number of what it stands for; things by number: directory or file, and bytes; how many numbers were given. -/
structure Tree where
  names : List (List ByteArray × Nat)
  things : List (Nat × Bool × ByteArray)
  many : Nat

def new : Tree := ⟨[], [(0, true, ofL [])], 0⟩
def Tree.find (t : Tree) (p : List ByteArray) : Option Nat := (t.names.find? (fun x => decide (x.1 = p))).map (·.2)
def Tree.idOf (t : Tree) (p : List ByteArray) : Option Nat := if p = [] then some 0 else t.find p
def Tree.thing (t : Tree) (i : Nat) : Bool × ByteArray := ((t.things.find? (fun x => decide (x.1 = i))).map (·.2)).getD (true, ofL [])
def Tree.isDir (t : Tree) (i : Nat) : Bool := (t.thing i).1
def Tree.dataOf (t : Tree) (i : Nat) : ByteArray := (t.thing i).2
def Tree.links (t : Tree) (i : Nat) : Nat := t.names.countP (fun x => decide (x.2 = i))

/-- From a place on, name by name. -/
def Tree.walk (t : Tree) : List ByteArray → List ByteArray → Nat → Nat × Int
  | _, [], i => (i, 0)
  | pre, s :: r, i => if t.isDir i = true then (match t.find (pre ++ [s]) with
      | none => (0, 100)
      | some j => t.walk (pre ++ [s]) r j) else (0, 103)
def Tree.at (t : Tree) (path : ByteArray) : Nat × Int := if (splitN path).2 = 0 then t.walk [] (splitN path).1 0 else (0, (splitN path).2)
/-- A walk to a path's directory: what is refused. -/
def Tree.dirC (t : Tree) (path : ByteArray) : Int :=
  if (lastN path).2.2 = 0 then (if (t.walk [] (lastN path).1 0).2 = 0 then (if t.isDir (t.walk [] (lastN path).1 0).1 = true then 0 else 103) else (t.walk [] (lastN path).1 0).2) else (lastN path).2.2
def full (path : ByteArray) : List ByteArray := (splitN path).1

def leT (a b : ByteArray) : Bool := decide (a.data.toList ≤ b.data.toList)
/-- The names right below a path, rising. -/
def Tree.kidsL (t : Tree) (p : List ByteArray) : List ByteArray := t.names.filterMap (fun x => if x.1.dropLast = p then x.1.getLast? else none)
def Tree.kids (t : Tree) (p : List ByteArray) : List ByteArray := (t.kidsL p).mergeSort leT

/-- The name at a path goes, and what it stood for, if that was its last one. -/
def Tree.forget (t : Tree) (p : List ByteArray) : Tree :=
  match t.find p with
  | none => t
  | some i =>
    let names := t.names.filter (fun x => decide (x.1 ≠ p))
    if names.countP (fun x => decide (x.2 = i)) = 0 then { t with names := names, things := t.things.filter (fun x => decide (x.1 ≠ i)) } else { t with names := names }

def Tree.make (t : Tree) (path : ByteArray) (dir : Bool) : Tree × Int :=
  if t.dirC path = 0 then (if (t.find (full path)).isSome then (t, 101) else (⟨t.names ++ [(full path, t.many + 1)], t.things ++ [(t.many + 1, dir, ofL [])], t.many + 1⟩, 0)) else (t, t.dirC path)

def Tree.link (t : Tree) (path to : ByteArray) : Tree × Int :=
  if (t.at path).2 = 0 then
    (if t.isDir (t.at path).1 = true then (t, 102) else
      if t.dirC to = 0 then (if (t.find (full to)).isSome then (t, 101) else
        if 200 ≤ t.links (t.at path).1 then (t, 105) else ({ t with names := t.names ++ [(full to, (t.at path).1)] }, 0)) else (t, t.dirC to))
  else (t, (t.at path).2)

def Tree.remove (t : Tree) (path : ByteArray) (dir : Bool) : Tree × Int :=
  if t.dirC path = 0 then
    (match t.find (full path) with
    | none => (t, 100)
    | some i => if t.isDir i = true ∧ dir = false then (t, 102) else if t.isDir i = false ∧ dir = true then (t, 103) else
        if dir = true ∧ t.kidsL (full path) ≠ [] then (t, 104) else (t.forget (full path), 0))
  else (t, t.dirC path)

/-- A path's beginning turned. -/
def moved (dir : Bool) (p q : List ByteArray) (x : List ByteArray × Nat) : List ByteArray × Nat :=
  if x.1 = p ∨ (dir = true ∧ p <+: x.1) then (q ++ x.1.drop p.length, x.2) else x
def Tree.move (t : Tree) (dir : Bool) (p q : List ByteArray) : Tree := { t with names := t.names.map (moved dir p q) }

def Tree.rename (t : Tree) (path to : ByteArray) : Tree × Int :=
  if t.dirC path = 0 then
    (match t.find (full path) with
    | none => (t, 100)
    | some i =>
      if (lastN to).2.2 = 0 then
        (if t.isDir i = true ∧ full path <+: full to ∧ path ≠ to then (t, 107) else
          if t.dirC to = 0 then
            (match t.find (full to) with
            | none => (t.move (t.isDir i) (full path) (full to), 0)
            | some j =>
              if i = j then (t, 0) else
              if t.isDir j = true ∧ t.isDir i = false then (t, 102) else
              if t.isDir j = false ∧ t.isDir i = true then (t, 103) else
              if t.isDir j = true ∧ t.kidsL (full to) ≠ [] then (t, 104) else
              ((t.forget (full to)).move (t.isDir i) (full path) (full to), 0))
          else (t, t.dirC to))
      else (t, (lastN to).2.2))
  else (t, t.dirC path)

/-- A path that stands for a file: its number. -/
def Tree.file (t : Tree) (path : ByteArray) : Nat × Int :=
  if (t.at path).2 = 0 then (if t.isDir (t.at path).1 = true then (0, 102) else ((t.at path).1, 0)) else (0, (t.at path).2)
def Tree.set (t : Tree) (i : Nat) (d : ByteArray) : Tree := { t with things := t.things.map (fun x => if x.1 = i then (x.1, x.2.1, d) else x) }

def piece (d : List UInt8) (off len : Nat) : List UInt8 := (d.drop off).take len
/-- Bytes with zeros behind them, so many. -/
def stretch (d : List UInt8) (n : Nat) : List UInt8 := d.take n ++ List.replicate (n - d.length) 0
def writeL (d : List UInt8) (off : Nat) (s : List UInt8) : List UInt8 :=
  (stretch d (max d.length (off + s.length))).take off ++ s ++ (stretch d (max d.length (off + s.length))).drop (off + s.length)

def Tree.bytes (t : Tree) (o : Op) : Tree × ByteArray × Int :=
  if (t.file o.path).2 = 0 then
    (if o.kind = 7 then
      (if o.off < 0 ∨ o.len < 0 then (t, ofL [], 1) else (t, ofL (piece (t.dataOf (t.file o.path).1).data.toList o.off.toNat o.len.toNat), 0))
    else if o.kind = 8 then
      (if o.off < 0 then (t, ofL [], 1) else if o.off > 2560 ∨ (o.data.size : Int) > 2560 - o.off then (t, ofL [], 106) else
        if o.data.size = 0 then (t, ofL [], 0) else
        (t.set (t.file o.path).1 (ofL (writeL (t.dataOf (t.file o.path).1).data.toList o.off.toNat o.data.data.toList)), ofL [], 0))
    else
      (if o.len < 0 then (t, ofL [], 1) else if o.len > 2560 then (t, ofL [], 106) else
        (t.set (t.file o.path).1 (ofL (stretch (t.dataOf (t.file o.path).1).data.toList o.len.toNat)), ofL [], 0)))
  else (t, ofL [], (t.file o.path).2)

def Tree.tell (t : Tree) (o : Op) : Ans :=
  if (t.at o.path).2 = 0 then
    (if o.kind = 10 then
      (if t.isDir (t.at o.path).1 = true then { kind := 2, links := 1, size := (t.kidsL (full o.path)).length } else
        { kind := 1, links := t.links (t.at o.path).1, size := (t.dataOf (t.at o.path).1).size })
    else if o.kind = 11 then
      (if t.isDir (t.at o.path).1 = true then { names := t.kids (full o.path) } else { code := 103 })
    else {})
  else { code := (t.at o.path).2 }

def Tree.step (t : Tree) (o : Op) : Tree × Ans :=
  if o.kind = 1 then ((t.make o.path false).1, { code := (t.make o.path false).2 })
  else if o.kind = 2 then ((t.make o.path true).1, { code := (t.make o.path true).2 })
  else if o.kind = 3 then ((t.link o.path o.to).1, { code := (t.link o.path o.to).2 })
  else if o.kind = 4 then ((t.remove o.path false).1, { code := (t.remove o.path false).2 })
  else if o.kind = 5 then ((t.remove o.path true).1, { code := (t.remove o.path true).2 })
  else if o.kind = 6 then ((t.rename o.path o.to).1, { code := (t.rename o.path o.to).2 })
  else if o.kind = 7 ∨ o.kind = 8 ∨ o.kind = 9 then ((t.bytes o).1, { code := (t.bytes o).2.2, data := (t.bytes o).2.1 })
  else if o.kind = 10 ∨ o.kind = 11 ∨ o.kind = 12 then (t, t.tell o)
  else (t, { code := 3 })

def shown (t : Tree) (x : List ByteArray × Nat) : ByteArray := ofL (joinL x.1 ++ if t.isDir x.2 = true then [47] else [])
def Tree.paths (t : Tree) : List ByteArray := (ofL [47] :: t.names.map (shown t)).mergeSort leT

/-- What holds of a tree at all times. -/
structure Tree.Ok (t : Tree) : Prop where
  ne : ∀ p i, (p, i) ∈ t.names → p ≠ []
  good : ∀ p i, (p, i) ∈ t.names → ∀ s ∈ p, nameB s = true
  nodup : (t.names.map (·.1)).Nodup
  up : ∀ p i, (p, i) ∈ t.names → p.dropLast = [] ∨ ∃ j, (p.dropLast, j) ∈ t.names ∧ t.isDir j = true
  ids : (t.things.map (·.1)).Nodup
  there : ∀ p i, (p, i) ∈ t.names → i ≠ 0 ∧ ∃ b d, (i, b, d) ∈ t.things
  root : ∃ d, (0, true, d) ∈ t.things
  named : ∀ i b d, (i, b, d) ∈ t.things → i = 0 ∨ ∃ p, (p, i) ∈ t.names
  one : ∀ p q i d, (i, true, d) ∈ t.things → (p, i) ∈ t.names → (q, i) ∈ t.names → p = q
  many : ∀ i b d, (i, b, d) ∈ t.things → i ≤ t.many
  small : ∀ i d, (i, false, d) ∈ t.things → d.size ≤ 2560
  empty : ∀ i d, (i, true, d) ∈ t.things → d = ofL []

end Go.Proofs.YtcgpmnlondnbhaaDoor.Sp
