/-
  Rows of one's own, of whatever type: element by element. No walk in this text.
-/
import Derived.Test.YtghafpdmcbockaaGreatDoorMapsA
import Derived.Deep.AppendLies
namespace Go.Proofs.YtghafpdmcbockaaGreatDoor
open Go Go.RowKit Txt Sp

/-- The slice v holds the values of l, each told by f in so many cells, in a block of its own from base on. -/
def OwnR {α : Type} (e : TypeId) (size : Nat) (f : α → List Value) (base : Nat) (w : World) (v : Value) (l : List α) : Prop := w.ownsRow base e size v l.length (l.flatMap f)
def textC (s : ByteArray) : List Value := [.string s]
section
variable {α : Type} {e : TypeId} {size : Nat} {f : α → List Value}
theorem OwnR.void (base : Nat) (w : World) : OwnR e size f base w (.slice none 0 0) [] := ⟨by simp, Or.inl ⟨rfl, rfl⟩⟩
theorem OwnR.below {n : Nat} {w w' : World} {v : Value} {l : List α} (h : OwnR e size f n w v l) (hb : Below w.heap.size w w') : OwnR e size f n w' v l := by
  obtain ⟨h1, h2⟩ := h
  refine ⟨h1, h2.imp_right ?_⟩
  rintro ⟨g, cap, cur, hv, hg, hh, h3⟩
  exact ⟨g, cap, cur, hv, hg, heapOld hb hh, h3⟩
theorem OwnR.form {n : Nat} {w : World} {v : Value} {l : List α} (h : OwnR e size f n w v l) : ∃ ad cap, v = .slice ad l.length cap := by
  obtain ⟨_, ⟨rfl, h0⟩ | ⟨g, cap, cur, rfl, _⟩⟩ := h
  · exact ⟨none, 0, by rw [h0]⟩
  · exact ⟨_, _, rfl⟩
theorem OwnR.mono {n m : Nat} {w : World} {v : Value} {l : List α} (h : OwnR e size f n w v l) (hm : m ≤ n) : OwnR e size f m w v l := by
  obtain ⟨h1, h2⟩ := h
  refine ⟨h1, h2.imp_right ?_⟩
  rintro ⟨g, cap, cur, hv, hg, h3⟩
  exact ⟨g, cap, cur, hv, by omega, h3⟩
/-- A block as it was made holds a row. -/
theorem OwnR.block {base b : Nat} {w : World} {l : List α} {cs : Array Value} (h : w.heap[b]? = some (.cells cs e (0, 0))) (hc : cs.toList = l.flatMap f) (hl : cs.size = l.length * size) (hb : base ≤ b) (hm : l.length ≤ maxLen) : OwnR e size f base w (.slice (some ⟨b, 0, none⟩) l.length l.length) l := by
  refine ⟨by rw [← hc, Array.length_toList, hl], Or.inr ⟨b, l.length, cs, rfl, hb, h, Nat.le_refl _, hm, hl, ?_⟩⟩
  rw [← hc, List.take_of_length_le (by rw [Array.length_toList, hl]; exact Nat.le_refl _)]
theorem OwnR.snoc {base : Nat} {w : World} {l : List α} {v : Value} {x : α} {cs : List Value} {n : Nat} (h : w.ownsRow base e size v n (l.flatMap f ++ cs)) (hx : f x = cs) (hn : n = l.length + 1) : OwnR e size f base w v (l ++ [x]) := by
  subst hn
  unfold OwnR
  rw [List.length_append, List.flatMap_append, List.flatMap_cons, List.flatMap_nil, List.append_nil, hx]
  exact h
theorem OwnR.row {base : Nat} {w : World} {l : List α} {v : Value} (hf : ∀ x ∈ l, (f x).length = size) (h : OwnR e size f base w v l) : RowAt w v size (l.map f) :=
  RowAt.own (base := base) (e := e) (fun x hx => by
    obtain ⟨y, hy, rfl⟩ := List.mem_map.1 hx
    exact hf y hy) (by
    rw [List.length_map, List.flatten_eq_flatMap, List.flatMap_map]
    exact h)
end
end Go.Proofs.YtghafpdmcbockaaGreatDoor
