/-
  The reference's tree in memory. No walk in this text.
-/
import Derived.Test.YtcgpmnlondnbhaaGreatDoorSpRef
import Derived.Test.YtcgpmnlondnbhaaGreatDoorTreeA
import Derived.Deep.AppendLies
import Derived.OwnWalk
namespace Go.Proofs.YtcgpmnlondnbhaaGreatDoor
open Go Go.RowKit Txt Sp

def thingC (x : Nat × Bool × ByteArray) : List Value := [.int .i64 (x.1 : Int), .bool x.2.1, .string x.2.2]
def nameC (x : List ByteArray × Nat) : List Value := [.string (ofL (joinL x.1)), .int .i64 (x.2 : Int)]
section
variable {α : Type} {f : α → List Value} {n : Nat}
theorem flat_length (hf : ∀ x, (f x).length = n) : ∀ l : List α, (l.flatMap f).length = l.length * n
  | [] => by simp
  | x :: r => by rw [List.flatMap_cons, List.length_append, flat_length hf r, hf, List.length_cons, Nat.add_mul]; omega
theorem flat_at (hf : ∀ x, (f x).length = n) : ∀ (l : List α) (k : Nat) (x : α), l[k]? = some x → ∀ i, i < n → (l.flatMap f)[k * n + i]? = (f x)[i]?
  | [], _, _, h, _, _ => by simp at h
  | y :: r, 0, x, h, i, hi => by
    simp at h
    subst h
    rw [List.flatMap_cons, Nat.zero_mul, Nat.zero_add, List.getElem?_append_left (by rw [hf]; exact hi)]
  | y :: r, k + 1, x, h, i, hi => by
    have := flat_at hf r k x (by simpa using h) i hi
    rw [List.flatMap_cons, List.getElem?_append_right (by rw [hf, Nat.add_mul]; omega), hf, ← this]
    congr 1
    rw [Nat.add_mul]; omega
theorem flat_take (hf : ∀ x, (f x).length = n) (l : List α) (k : Nat) (hk : k ≤ l.length) : (l.flatMap f).take (k * n) = (l.take k).flatMap f := by
  conv => lhs; rw [← List.take_append_drop k l, List.flatMap_append]
  rw [List.take_left']
  rw [flat_length hf, List.length_take, Nat.min_eq_left hk]
theorem flat_drop (hf : ∀ x, (f x).length = n) (l : List α) (k : Nat) (hk : k ≤ l.length) : (l.flatMap f).drop (k * n) = (l.drop k).flatMap f := by
  conv => lhs; rw [← List.take_append_drop k l, List.flatMap_append]
  rw [List.drop_left']
  rw [flat_length hf, List.length_take, Nat.min_eq_left hk]
end
theorem thingC_len (x : Nat × Bool × ByteArray) : (thingC x).length = 3 := rfl
theorem nameC_len (x : List ByteArray × Nat) : (nameC x).length = 2 := rfl
theorem thingC_one {x : Nat × Bool × ByteArray} {u : Value} (h : u ∈ thingC x) : u.oneCell' = true := by
  simp [thingC] at h
  rcases h with rfl | rfl | rfl <;> rfl
theorem nameC_one {x : List ByteArray × Nat} {u : Value} (h : u ∈ nameC x) : u.oneCell' = true := by
  simp [nameC] at h
  rcases h with rfl | rfl <;> rfl
theorem things_one (l : List (Nat × Bool × ByteArray)) : ∀ u ∈ l.flatMap thingC, u.oneCell' = true := fun u hu => by
  obtain ⟨x, _, hx⟩ := List.mem_flatMap.1 hu
  exact thingC_one hx
theorem names_one (l : List (List ByteArray × Nat)) : ∀ u ∈ l.flatMap nameC, u.oneCell' = true := fun u hu => by
  obtain ⟨x, _, hx⟩ := List.mem_flatMap.1 hu
  exact nameC_one hx

def refO (vT vN : Value) (m : Nat) : Obj := .cells #[vT, vN, .int .i64 (m : Int)] 65 (0, 0)
/-- Rows of things, of names. -/
def ThingsAt (base : Nat) (w : World) (v : Value) (l : List (Nat × Bool × ByteArray)) : Prop := w.ownsRow base 61 3 v l.length (l.flatMap thingC)
def NamesAt (base : Nat) (w : World) (v : Value) (l : List (List ByteArray × Nat)) : Prop := w.ownsRow base 77 2 v l.length (l.flatMap nameC)

theorem row_keep {w w' : World} {base size : Nat} {e : TypeId} {v : Value} {n : Nat} {xs : List Value} (h : w.ownsRow base e size v n xs) (hs : ∀ k o, v.ownBlock = some k → w.heap[k]? = some o → w'.heap[k]? = some o) : w'.ownsRow base e size v n xs := by
  refine ⟨h.1, h.2.imp_right ?_⟩
  rintro ⟨g, cap, cur, rfl, hb, hh, h3⟩
  exact ⟨g, cap, cur, rfl, hb, hs g _ rfl hh, h3⟩
theorem row_mono {w : World} {base base' size : Nat} {e : TypeId} {v : Value} {n : Nat} {xs : List Value} (h : w.ownsRow base e size v n xs) (hb : base' ≤ base) : w.ownsRow base' e size v n xs := by
  refine ⟨h.1, h.2.imp_right ?_⟩
  rintro ⟨g, cap, cur, rfl, hg, hh, h3⟩
  exact ⟨g, cap, cur, rfl, by omega, hh, h3⟩
theorem row_not {w : World} {base size : Nat} {e e' : TypeId} {v : Value} {n : Nat} {xs : List Value} (h : w.ownsRow base e size v n xs) {r : Nat} {cs : Array Value} {fr : Nat × Nat} (hr : w.heap[r]? = some (.cells cs e' fr)) (he : e ≠ e') : ∀ g, v.ownBlock = some g → g ≠ r := fun g hg hgr => by
  rcases h.2 with ⟨rfl, _⟩ | ⟨g', cap, cur, rfl, _, hh, _⟩
  · cases hg
  · have : g' = g := by simpa [Value.ownBlock] using hg
    subst this hgr
    rw [hr] at hh
    cases hh
    exact he rfl

/-- The reference's tree t in the block r; nothing of it is one of D. -/
structure RefAt (base : Nat) (w : World) (D : Nat → Prop) (r : Nat) (t : Sp.Tree) (vT vN : Value) : Prop where
  obj : w.heap[r]? = some (refO vT vN t.many)
  things : ThingsAt base w vT t.things
  names : NamesAt base w vN t.names
  low : base ≤ r
  apart : ¬ D r ∧ (∀ g, vT.ownBlock = some g → ¬ D g) ∧ ∀ g, vN.ownBlock = some g → ¬ D g
  lim : ∀ j, D j → j < w.heap.size

section
variable {base : Nat} {w w' : World} {D D' : Nat → Prop} {r : Nat} {t : Sp.Tree} {vT vN : Value}
theorem RefAt.keep (h : RefAt base w D r t vT vN) (hs : ∀ k o, (k = r ∨ vT.ownBlock = some k ∨ vN.ownBlock = some k) → w.heap[k]? = some o → w'.heap[k]? = some o) (ha : ∀ j, D' j → D j ∨ w.heap.size ≤ j) (hl : ∀ j, D' j → j < w'.heap.size) : RefAt base w' D' r t vT vN := by
  have hr := (Array.getElem?_eq_some_iff.1 h.obj).1
  refine ⟨hs r _ (Or.inl rfl) h.obj, row_keep h.things (fun k o hk => hs k o (Or.inr (Or.inl hk))), row_keep h.names (fun k o hk => hs k o (Or.inr (Or.inr hk))), h.low, ⟨fun hj => ?_, fun g hg hj => ?_, fun g hg hj => ?_⟩, hl⟩
  · rcases ha r hj with h1 | h1
    · exact h.apart.1 h1
    · omega
  · rcases ha g hj with h1 | h1
    · exact h.apart.2.1 g hg h1
    · have := (h.things.lt g hg).2; omega
  · rcases ha g hj with h1 | h1
    · exact h.apart.2.2 g hg h1
    · have := (h.names.lt g hg).2; omega
theorem RefAt.turn (h : RefAt base w D r t vT vN) (hT : Turn D w w') (hd : ∀ j, D' j → D j ∨ w.heap.size ≤ j) (hl : ∀ j, D' j → j < w'.heap.size) : RefAt base w' D' r t vT vN :=
  h.keep (fun k o hk ho => hT.heap ho (by
    rcases hk with rfl | hk | hk
    · exact h.apart.1
    · exact h.apart.2.1 _ hk
    · exact h.apart.2.2 _ hk)) hd hl
theorem RefAt.below (h : RefAt base w D r t vT vN) (hb : Below w.heap.size w w') : RefAt base w' D r t vT vN :=
  h.keep (fun _ _ _ ho => heap_below hb _ _ ho) (fun _ hj => Or.inl hj) (fun j hj => Nat.lt_of_lt_of_le (h.lim j hj) hb.size)
theorem RefAt.lt (h : RefAt base w D r t vT vN) : r < w.heap.size := (Array.getElem?_eq_some_iff.1 h.obj).1
/-- Another tree of the reference turns. -/
theorem RefAt.beside (h : RefAt base w D r t vT vN) {g : Nat} {aT aN : Value} {m : Nat} (hg : w.heap[g]? = some (refO aT aN m)) (hne : g ≠ r) (hT : Turn (fun j => j = g) w w') : RefAt base w' D r t vT vN :=
  h.keep (fun k o hk ho => hT.heap ho (by
    rcases hk with rfl | hk | hk
    · exact fun e => hne e.symm
    · exact row_not h.things hg (by decide) k hk
    · exact row_not h.names hg (by decide) k hk)) (fun _ hj => Or.inl hj) (fun j hj => Nat.lt_of_lt_of_le (h.lim j hj) hT.size)
/-- Another tree of the reference over the same rows. -/
theorem RefAt.share (h : RefAt base w D r t vT vN) {g : Nat} (hg : w'.heap[g]? = some (refO vT vN t.many)) (hb : Below w.heap.size w w') (hge : w.heap.size ≤ g) : RefAt base w' D g t vT vN :=
  have h' := h.below hb
  ⟨hg, h'.things, h'.names, Nat.le_trans h.low (by have := h.lt; omega), ⟨fun hj => by have := h.lim g hj; omega, h'.apart.2⟩, h'.lim⟩
theorem RefAt.cells (h : RefAt base w D r t vT vN) : w.cell? ⟨r, 0, none⟩ = some vT ∧ w.cell? ⟨r, 1, none⟩ = some vN ∧ w.cell? ⟨r, 2, none⟩ = some (.int .i64 (t.many : Int)) :=
  ⟨by rw [cell_of_row w r 0 _ _ _ h.obj]; rfl, by rw [cell_of_row w r 1 _ _ _ h.obj]; rfl, by rw [cell_of_row w r 2 _ _ _ h.obj]; rfl⟩
theorem RefAt.free (h : RefAt base w D r t vT vN) : w.frozen? ⟨r, 0, none⟩ = false ∧ w.frozen? ⟨r, 1, none⟩ = false ∧ w.frozen? ⟨r, 2, none⟩ = false := by
  have := h.obj
  refine ⟨?_, ?_, ?_⟩ <;> simp [World.frozen?, this, refO]
theorem RefAt.mono (h : RefAt base w D r t vT vN) {base' : Nat} (hb : base' ≤ base) : RefAt base' w D r t vT vN := ⟨h.obj, row_mono h.things hb, row_mono h.names hb, Nat.le_trans hb h.low, h.apart, h.lim⟩
end

section
variable {base : Nat} {w : World} {v : Value}
/-- What a row of things looks like, and each thing's cells. -/
theorem ThingsAt.form {l : List (Nat × Bool × ByteArray)} (h : ThingsAt base w v l) (hl : 0 < l.length) : ∃ g cap, v = .slice (some ⟨g, 0, none⟩) l.length cap ∧ base ≤ g ∧ g < w.heap.size := World.ownsRow.form h hl
theorem ThingsAt.at' {l : List (Nat × Bool × ByteArray)} {g cap : Nat} (h : ThingsAt base w (.slice (some ⟨g, 0, none⟩) l.length cap) l) {k : Nat} {x : Nat × Bool × ByteArray} (hx : l[k]? = some x) :
    w.cell? ⟨g, k * 3, none⟩ = some (.int .i64 (x.1 : Int)) ∧ w.cell? ⟨g, k * 3 + 1, none⟩ = some (.bool x.2.1) ∧ w.cell? ⟨g, k * 3 + 2, none⟩ = some (.string x.2.2) := by
  have hk := (List.getElem?_eq_some_iff.1 hx).1
  have h1 : ∀ i, i < 3 → w.cell? ⟨g, k * 3 + i, none⟩ = (thingC x)[i]? := fun i hi => by
    rw [World.ownsRow.cellAt h _ (by omega), flat_at thingC_len l k x hx i hi]
  exact ⟨h1 0 (by omega), h1 1 (by omega), h1 2 (by omega)⟩
theorem NamesAt.form {l : List (List ByteArray × Nat)} (h : NamesAt base w v l) (hl : 0 < l.length) : ∃ g cap, v = .slice (some ⟨g, 0, none⟩) l.length cap ∧ base ≤ g ∧ g < w.heap.size := World.ownsRow.form h hl
theorem NamesAt.at' {l : List (List ByteArray × Nat)} {g cap : Nat} (h : NamesAt base w (.slice (some ⟨g, 0, none⟩) l.length cap) l) {k : Nat} {x : List ByteArray × Nat} (hx : l[k]? = some x) :
    w.cell? ⟨g, k * 2, none⟩ = some (.string (ofL (joinL x.1))) ∧ w.cell? ⟨g, k * 2 + 1, none⟩ = some (.int .i64 (x.2 : Int)) := by
  have hk := (List.getElem?_eq_some_iff.1 hx).1
  have h1 : ∀ i, i < 2 → w.cell? ⟨g, k * 2 + i, none⟩ = (nameC x)[i]? := fun i hi => by
    rw [World.ownsRow.cellAt h _ (by omega), flat_at nameC_len l k x hx i hi]
  exact ⟨h1 0 (by omega), h1 1 (by omega)⟩
/-- Its shape, in any case. -/
theorem row_shape {e : TypeId} {size n : Nat} {xs : List Value} (h : w.ownsRow base e size v n xs) : ∃ ad cap, v = .slice ad n cap ∧ n ≤ cap ∧ cap ≤ maxLen := by
  rcases h.2 with ⟨rfl, rfl⟩ | ⟨g, cap, cur, rfl, _, _, h1, h2, _⟩
  · exact ⟨none, 0, rfl, Nat.le_refl _, Nat.zero_le _⟩
  · exact ⟨_, cap, rfl, h1, h2⟩
end
end Go.Proofs.YtcgpmnlondnbhaaGreatDoor
