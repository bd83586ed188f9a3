/-
  Worlds that turned at some places alone.
-/
import Derived.Test.YtghafpdmcbockaaGreatDoorNamesA
namespace Go.Proofs.YtghafpdmcbockaaGreatDoor
open Go Go.RowKit Txt

theorem heap_below {w w' : World} (hb : Below w.heap.size w w') : ∀ (k : Nat) (o : Obj), w.heap[k]? = some o → w'.heap[k]? = some o := fun k o h => by
  rw [hb.block k (Array.getElem?_eq_some_iff.1 h).1]; exact h

/-- Nothing below a world's end has turned but at places of K. -/
structure Turn (K : Nat → Prop) (w w' : World) : Prop where
  os : w'.os = w.os
  tape : w'.tape = w.tape
  output : w'.output = w.output
  size : w.heap.size ≤ w'.heap.size
  block : ∀ k, k < w.heap.size → ¬ K k → w'.heap[k]? = w.heap[k]?
theorem Turn.of_below {K : Nat → Prop} {w w' : World} (h : Below w.heap.size w w') : Turn K w w' := ⟨h.os, h.tape, h.output, h.size, fun k hk _ => h.block k hk⟩
theorem Turn.refl (K : Nat → Prop) (w : World) : Turn K w w := Turn.of_below (Below.refl _ _)
theorem Turn.trans {K K1 K2 : Nat → Prop} {a b c : World} (h : Turn K1 a b) (g : Turn K2 b c) (h1 : ∀ k, k < a.heap.size → K1 k → K k) (h2 : ∀ k, k < a.heap.size → K2 k → K k) : Turn K a c :=
  ⟨g.os.trans h.os, g.tape.trans h.tape, g.output.trans h.output, Nat.le_trans h.size g.size, fun k hk hn => (g.block k (Nat.lt_of_lt_of_le hk h.size) (fun e => hn (h2 k hk e))).trans (h.block k hk (fun e => hn (h1 k hk e)))⟩
theorem Turn.mono {K K' : Nat → Prop} {a b : World} (h : Turn K a b) (hk : ∀ k, k < a.heap.size → K k → K' k) : Turn K' a b :=
  ⟨h.os, h.tape, h.output, h.size, fun k hk' hn => h.block k hk' (fun e => hn (hk k hk' e))⟩
theorem Turn.below {K : Nat → Prop} {a b : World} {n : Nat} (h : Turn K a b) (hk : ∀ k, K k → n ≤ k) (hn : n ≤ a.heap.size) : Below n a b :=
  ⟨h.os, h.tape, h.output, h.size, fun k hk' => h.block k (by omega) (fun e => by have := hk k e; omega)⟩
theorem Turn.heap {K : Nat → Prop} {a b : World} (h : Turn K a b) {k : Nat} {o : Obj} (ho : a.heap[k]? = some o) (hk : ¬ K k) : b.heap[k]? = some o := by
  rw [h.block k (Array.getElem?_eq_some_iff.1 ho).1 hk]; exact ho

theorem bcell {a b : World} (h : Below a.heap.size a b) : (∀ k o, k < a.heap.size → b.cell? ⟨k, o, none⟩ = a.cell? ⟨k, o, none⟩) ∧ (∀ k o, k < a.heap.size → b.frozen? ⟨k, o, none⟩ = a.frozen? ⟨k, o, none⟩) :=
  ⟨fun k o hk => h.cell (p := ⟨k, o, none⟩) hk, fun k o hk => h.frozen (p := ⟨k, o, none⟩) hk⟩

/-- A block that is none of the tree's. -/
def Apart (D : Nat → Prop) (w : World) (n : Nat) (o : Obj) : Prop := w.heap[n]? = some o ∧ ¬ D n
theorem Apart.turn {D D' : Nat → Prop} {w w' : World} {n : Nat} {o : Obj} (h : Apart D w n o) (hT : Turn D w w') (hd : ∀ j, D' j → D j ∨ w.heap.size ≤ j) : Apart D' w' n o :=
  ⟨hT.heap h.1 h.2, fun hn => (hd n hn).elim h.2 (fun hle => by have := (Array.getElem?_eq_some_iff.1 h.1).1; omega)⟩
theorem Apart.below {D : Nat → Prop} {w w' : World} {n : Nat} {o : Obj} (h : Apart D w n o) (hb : Below w.heap.size w w') : Apart D w' n o := ⟨heap_below hb _ _ h.1, h.2⟩
end Go.Proofs.YtghafpdmcbockaaGreatDoor
