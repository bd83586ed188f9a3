/-
  The judge of layer 27 as plain data. No program in this text.
-/
import Derived.Test.YtcgpmnlondnbhaaGreatDoorPlainA
namespace Go.Proofs.YtcgpmnlondnbhaaGreatDoor.Sp
open Go Txt

/-- An answer in a log. -/
structure Did where
  node : Int
  task : Int
  frm : Int
  till : Int
  o : Op
  a : Ans

def Did.may (x : Did) : Prop := 0 ≤ x.node ∧ x.node < 2 ∧ 1 ≤ x.task ∧ x.task ≤ 1024 ∧ 1 ≤ x.frm ∧ 0 ≤ x.till ∧ x.frm ≤ 1099511627776 ∧ x.till ≤ 1099511627776
instance (x : Did) : Decidable x.may := by unfold Did.may; infer_instance
def Did.key (x : Did) : Int × Int := (x.node, x.task)

/-- From the place i on, with these keys seen. -/
def checkFrom : Nat → List (Int × Int) → List Did → Int × Int
  | _, _, [] => (0, 0)
  | i, seen, x :: r => if x.key ∈ seen ∨ ¬ x.may then (i, 270) else checkFrom (i + 1) (seen ++ [x.key]) r
def checkN (l : List Did) : Int × Int := if l.length > 256 then (-1, 2) else checkFrom 0 [] l

instance : DecidableEq Ans := fun a b => by
  obtain ⟨a1, a2, a3, a4, a5, a6⟩ := a
  obtain ⟨b1, b2, b3, b4, b5, b6⟩ := b
  exact decidable_of_iff (a1 = b1 ∧ a2 = b2 ∧ a3 = b3 ∧ a4 = b4 ∧ a5 = b5 ∧ a6 = b6) ⟨fun ⟨h1, h2, h3, h4, h5, h6⟩ => by subst h1 h2 h3 h4 h5 h6; rfl, fun h => by cases h; exact ⟨rfl, rfl, rfl, rfl, rfl, rfl⟩⟩

/-- An answer, by a tree: the tree behind it, and whether it is right. -/
def playN (t : Tree) (x : Did) : Tree × Bool :=
  if x.a.code = 109 ∧ (t.step x.o).2.code = 0 then (t, decide (x.a = { code := 109 })) else ((t.step x.o).1, decide (x.a = (t.step x.o).2))

/-- The first fault, from the place i on: which, and where. -/
def judgeFrom : Nat → Tree → Int → List Did → Int × Int
  | _, _, _, [] => (0, 0)
  | i, t, last, x :: r => if x.till ≤ max x.frm last then (1, i) else if (playN t x).2 = true then judgeFrom (i + 1) (playN t x).1 x.till r else (2, i)
def judgeN (l : List Did) : Int × Int × Int :=
  if (checkN l).2 = 0 then ((judgeFrom 0 new (-1) l).1, (judgeFrom 0 new (-1) l).2, 0) else (0, 0, (checkN l).2)
def plays (t : Tree) (l : List Did) : Tree := l.foldl (fun t x => (playN t x).1) t
end Go.Proofs.YtcgpmnlondnbhaaGreatDoor.Sp
