/-
  A row of changes whose elements are written over, one by one. No walk in this text.
-/
import Derived.Test.YtgofmnhfajmbfaaGreatDoorSidA
import Derived.Test.YtgofmnhfajmbfaaGreatDoorMapsB
import Derived.Laws.IdiomCopy
namespace Go.Proofs.YtgofmnhfajmbfaaGreatDoor
open Go Go.RowKit Txt Sp

theorem setCells_sets {b : Nat} : ∀ (vs : List Value) (o : Nat) (w : World), w.setCells b o vs = sets w b o vs
  | [], _, _ => rfl
  | v :: r, o, w => setCells_sets r (o + 1) (w.setCell ⟨b, o, none⟩ v)
theorem sets_turn {b : Nat} : ∀ (vs : List Value) (i : Nat) (w : World), Turn (fun j => j = b) w (sets w b i vs)
  | [], _, _ => Turn.refl _ _
  | _ :: r, i, _ => setCell_turn.trans (sets_turn r (i + 1) _) (fun _ _ h => h) (fun _ _ h => h)
theorem chgs_length : ∀ l : List (Chg × Value), (l.flatMap chgC).length = l.length * 6
  | [] => rfl
  | x :: r => by
    rw [List.flatMap_cons, List.length_append, chgs_length r, List.length_cons]
    show 6 + _ = _
    omega
theorem chgs_take : ∀ (l : List (Chg × Value)) (i : Nat), (l.flatMap chgC).take (i * 6) = (l.take i).flatMap chgC
  | [], i => by simp
  | x :: r, 0 => by simp
  | x :: r, i + 1 => by
    rw [List.flatMap_cons, List.take_succ_cons, List.flatMap_cons, ← chgs_take r i, show (i + 1) * 6 = (chgC x).length + i * 6 by show _ = 6 + _; omega, List.take_length_add_append]
theorem chgs_drop : ∀ (l : List (Chg × Value)) (i : Nat), (l.flatMap chgC).drop (i * 6) = (l.drop i).flatMap chgC
  | [], i => by simp
  | x :: r, 0 => by simp
  | x :: r, i + 1 => by
    rw [List.flatMap_cons, List.drop_succ_cons, ← chgs_drop r i, show (i + 1) * 6 = (chgC x).length + i * 6 by show _ = 6 + _; omega, List.drop_length_add_append]
/-- The block g holds the rows R, and what comes behind them. -/
def RowG (w : World) (g cap : Nat) (R : List (Chg × Value)) : Prop := ∃ cur : Array Value, w.heap[g]? = some (.cells cur 209 (0, 0)) ∧ cur.size = cap * 6 ∧ R.length ≤ cap ∧ cur.toList.take (R.length * 6) = R.flatMap chgC
section
variable {w w' : World} {g cap : Nat} {R : List (Chg × Value)}
theorem RowG.lt (h : RowG w g cap R) : g < w.heap.size := by
  obtain ⟨cur, h1, _⟩ := h
  exact (Array.getElem?_eq_some_iff.1 h1).1
theorem RowG.below (h : RowG w g cap R) (hb : Below w.heap.size w w') : RowG w' g cap R := by
  obtain ⟨cur, h1, h2⟩ := h
  exact ⟨cur, heapOld hb h1, h2⟩
theorem RowG.cell (h : RowG w g cap R) {j : Nat} {x : Chg × Value} (hx : R[j]? = some x) {m : Nat} {y : Value} (hy : (chgC x)[m]? = some y) : w.cell? ⟨g, j * 6 + m, none⟩ = some y := by
  obtain ⟨cur, h1, h2, h3, h4⟩ := h
  have hj := (List.getElem?_eq_some_iff.1 hx).1
  have hm : m < 6 := (List.getElem?_eq_some_iff.1 hy).1
  refine cellOf h1 ?_
  have e1 : cur.toList[j * 6 + m]? = (R.flatMap chgC)[j * 6 + m]? := by rw [← h4, List.getElem?_take_of_lt (by omega)]
  have e2 : (R.flatMap chgC)[j * 6 + m]? = ((R.drop j).flatMap chgC)[m]? := by rw [← chgs_drop, List.getElem?_drop]
  rw [← Array.getElem?_toList, e1, e2, List.drop_eq_getElem_cons hj, List.flatMap_cons, (List.getElem?_eq_some_iff.1 hx).2, List.getElem?_append_left hm]
  exact hy
theorem RowG.free (h : RowG w g cap R) (k : Nat) : w.frozen? ⟨g, k, none⟩ = false := by
  obtain ⟨cur, h1, _⟩ := h
  exact freeOf h1
theorem RowG.set (h : RowG w g cap R) {i : Nat} (hi : i < R.length) (x : Chg × Value) : RowG (sets w g (i * 6) (chgC x)) g cap (R.set i x) := by
  obtain ⟨cur, h1, h2, h3, h4⟩ := h
  have h6 : (chgC x).length = 6 := rfl
  have hcl : cur.toList.length = cap * 6 := by rw [Array.length_toList, h2]
  refine ⟨_, sets_heap (chgC x) (i * 6) w cur h1 (by rw [h6]; omega), ?_, by rw [List.length_set]; exact h3, ?_⟩
  · rw [List.size_toArray, List.length_append, List.length_append, List.length_take, List.length_drop, hcl, h6]
    omega
  · rw [List.length_set, List.set_eq_take_append_cons_drop, if_pos hi, List.flatMap_append, List.flatMap_cons, ← chgs_take, ← chgs_drop, ← h4, List.append_assoc, List.take_append, List.take_append, h6]
    have e1 : (cur.toList.take (i * 6)).length = i * 6 := by rw [List.length_take, hcl]; omega
    rw [e1, List.take_take, List.take_take, List.take_of_length_le (l := chgC x) (by rw [h6]; omega), List.drop_take, show min (R.length * 6) (i * 6) = i * 6 by omega, show min (i * 6) (R.length * 6) = i * 6 by omega, show (i + 1) * 6 = i * 6 + 6 by omega, show R.length * 6 - i * 6 - 6 = R.length * 6 - (i * 6 + 6) by omega]
theorem RowG.own (h : RowG w g cap R) {base : Nat} (hg : base ≤ g) (hc : cap ≤ maxLen) {i : Nat} (hi : i ≤ R.length) : OwnR 209 6 chgC base w (.slice (some ⟨g, 0, none⟩) i cap) (R.take i) := by
  obtain ⟨cur, h1, h2, h3, h4⟩ := h
  have hl : (R.take i).length = i := by rw [List.length_take]; omega
  refine ⟨chgs_length _, Or.inr ⟨g, cap, cur, by rw [hl], hg, h1, by omega, hc, h2, ?_⟩⟩
  rw [hl, ← chgs_take, ← h4, List.take_take, show min (i * 6) (R.length * 6) = i * 6 by omega]
/-- What is behind is written over. -/
theorem RowG.tail (h : RowG w g cap R) {i : Nat} (hi : i ≤ R.length) {Z : List Value} (hZ : Z.length = (R.length - i) * 6) : RowG (sets w g (i * 6) Z) g cap (R.take i) := by
  obtain ⟨cur, h1, h2, h3, h4⟩ := h
  have hcl : cur.toList.length = cap * 6 := by rw [Array.length_toList, h2]
  have hl : (R.take i).length = i := by rw [List.length_take]; omega
  refine ⟨_, sets_heap Z (i * 6) w cur h1 (by rw [hZ]; omega), ?_, by omega, ?_⟩
  · rw [List.size_toArray, List.length_append, List.length_append, List.length_take, List.length_drop, hcl, hZ]
    omega
  · rw [hl, ← chgs_take, ← h4, List.append_assoc, List.take_append_of_le_length (by rw [List.length_take, hcl]; omega), List.take_take, List.take_take, show min (i * 6) (i * 6) = i * 6 by omega, show min (i * 6) (R.length * 6) = i * 6 by omega]
end
theorem OwnR.rowG {w : World} {base : Nat} {v : Value} {l : List (Chg × Value)} (h : OwnR 209 6 chgC base w v l) (h0 : l ≠ []) : ∃ g cap, v = .slice (some ⟨g, 0, none⟩) l.length cap ∧ base ≤ g ∧ cap ≤ maxLen ∧ RowG w g cap l := by
  obtain ⟨_, ⟨rfl, hn⟩ | ⟨g, cap, cur, rfl, hg, hh, h1, h2, h3, h4⟩⟩ := h
  · exact absurd (List.eq_nil_of_length_eq_zero hn) h0
  · exact ⟨g, cap, rfl, hg, h2, cur, hh, h3, h1, h4⟩
end Go.Proofs.YtgofmnhfajmbfaaGreatDoor
