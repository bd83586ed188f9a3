/-
  A log that is copied: what is read, and what holds on the way. No walk in this text.
-/
import Derived.Test.YtcgpmnlondnbhaaDoorLogAt
namespace Go.Proofs.YtcgpmnlondnbhaaDoor
open Go Go.RowKit Txt Sp

/-- An answer of a log lies at a place; nil names have no room. -/
def SrcAt (w : World) (b off : Nat) (x : Sp.Did) : Prop := ∃ ad cap, Texts w (.slice ad x.a.names.length cap) x.a.names ∧ (ad = none → x.a.names.length = 0 ∧ cap = 0) ∧ ∀ (i : Nat) (y : Value), (didA x (.slice ad x.a.names.length cap))[i]? = some y → w.cell? ⟨b, off + i, none⟩ = some y
/-- The slice v holds the log L; where it is nil it has no room. -/
def Src (w : World) (v : Value) (L : List Sp.Did) : Prop :=
  ∃ ad cap, v = .slice ad L.length cap ∧ (ad = none → L.length = 0 ∧ cap = 0) ∧ L.length ≤ cap ∧ cap ≤ maxLen ∧ (0 < L.length → ∃ b off, ad = some ⟨b, off, none⟩ ∧ b < w.heap.size ∧ ∀ (k : Nat) (x : Sp.Did), L[k]? = some x → SrcAt w b (off + k * 16) x)

/-- Cells as they are read. -/
def readCells (w : World) (b off n : Nat) : List Value := (List.range n).map (fun j => (w.cell? ⟨b, off + j, none⟩).getD (.bool false))
theorem readCells_length (w : World) (b off n : Nat) : (readCells w b off n).length = n := by unfold readCells; rw [List.length_map, List.length_range]
theorem readCells_at {w : World} {b off n j : Nat} (h : j < n) {y : Value} (hy : w.cell? ⟨b, off + j, none⟩ = some y) : (readCells w b off n)[j]? = some y := by
  unfold readCells
  rw [List.getElem?_map, List.getElem?_range h, Option.map_some, hy]
  rfl

theorem didA_one {x : Sp.Did} {ad : Option Addr} {m cap : Nat} {i : Nat} {y : Value} (h : (didA x (.slice ad m cap))[i]? = some y) : y.oneCell' = true := by
  have hi : i < 16 := (Array.getElem?_eq_some_iff.1 h).1
  match i, hi with
  | 0, _ | 1, _ | 2, _ | 3, _ | 4, _ | 5, _ | 6, _ | 7, _ | 8, _ | 9, _ | 10, _ | 11, _ | 12, _ | 13, _ | 14, _ | 15, _ =>
    have := Option.some.inj h
    subst this
    rfl
theorem didA_get (x : Sp.Did) (nv : Value) {i : Nat} (h : i < 16) : ∃ y, (didA x nv)[i]? = some y := ⟨(didA x nv)[i]'h, Array.getElem?_eq_getElem h⟩

section
variable {w : World} {b off : Nat} {L : List Sp.Did}
theorem src_cell (h : ∀ (k : Nat) (x : Sp.Did), L[k]? = some x → SrcAt w b (off + k * 16) x) {j : Nat} (hj : j < L.length * 16) : ∃ y, w.cell? ⟨b, off + j, none⟩ = some y ∧ y.oneCell' = true := by
  have hk : j / 16 < L.length := by omega
  obtain ⟨ad, cap, _, _, hc⟩ := h (j / 16) (L[j / 16]'hk) (List.getElem?_eq_getElem hk)
  obtain ⟨y, hy⟩ := didA_get (L[j / 16]'hk) (.slice ad (L[j / 16]'hk).a.names.length cap) (i := j % 16) (by omega)
  have := hc _ _ hy
  rw [show off + j / 16 * 16 + j % 16 = off + j by omega] at this
  exact ⟨y, this, didA_one hy⟩
theorem src_reads (h : ∀ (k : Nat) (x : Sp.Did), L[k]? = some x → SrcAt w b (off + k * 16) x) {j : Nat} {u : Value} (hu : (readCells w b off (L.length * 16))[j]? = some u) : w.cell? ⟨b, off + j, none⟩ = some u ∧ u.oneCell' = true := by
  have hj : j < L.length * 16 := by
    have := (List.getElem?_eq_some_iff.1 hu).1
    rwa [readCells_length] at this
  obtain ⟨y, hy, h1⟩ := src_cell h hj
  rw [readCells_at hj hy] at hu
  cases hu
  exact ⟨hy, h1⟩
end

/-- Behind k rounds: the answers' names below k lie in blocks of their own. -/
structure CopyLog (w wr : World) (g cap : Nat) (L : List Sp.Did) (k : Nat) (xs : List Value) : Prop where
  low : Below w.heap.size w wr
  own : wr.ownsRow w.heap.size 56 16 (.slice (some ⟨g, 0, none⟩) L.length cap) L.length xs
  done : ∀ (j : Nat) (x : Sp.Did), j < k → L[j]? = some x → ∃ ad c, OwnTexts w.heap.size wr (.slice ad x.a.names.length c) x.a.names ∧ (∀ e, (Value.slice ad x.a.names.length c).ownBlock = some e → e ≠ g) ∧ ∀ (i : Nat) (y : Value), (didA x (.slice ad x.a.names.length c))[i]? = some y → xs[j * 16 + i]? = some y
  rest : ∀ (j : Nat) (x : Sp.Did), k ≤ j → L[j]? = some x → ∃ ad c, Texts w (.slice ad x.a.names.length c) x.a.names ∧ (ad = none → x.a.names.length = 0 ∧ c = 0) ∧ ∀ (i : Nat) (y : Value), (didA x (.slice ad x.a.names.length c))[i]? = some y → xs[j * 16 + i]? = some y

theorem CopyLog.log {w wr : World} {g cap : Nat} {L : List Sp.Did} {k : Nat} {xs : List Value} (h : CopyLog w wr g cap L k xs) (hk : L.length ≤ k) : LogAt w.heap.size wr (fun _ => False) (.slice (some ⟨g, 0, none⟩) L.length cap) L xs :=
  ⟨h.own, fun _ _ hf => hf, fun j x hx => by
    obtain ⟨ad, c, h1, h2, h3⟩ := h.done j x (Nat.lt_of_lt_of_le (List.getElem?_eq_some_iff.1 hx).1 hk) hx
    refine ⟨ad, c, h1, fun e he => ⟨fun hf => hf, fun hg => h2 e he ?_⟩, h3⟩
    have : g = e := by simpa [Value.ownBlock] using hg
    exact this.symm⟩

theorem didA_names {x : Sp.Did} {v v' : Value} {i : Nat} (h : i ≠ 15) : (didA x v')[i]? = (didA x v)[i]? := by
  by_cases hi : i < 16
  · match i, hi, h with
    | 0, _, _ | 1, _, _ | 2, _, _ | 3, _, _ | 4, _, _ | 5, _, _ | 6, _, _ | 7, _, _ | 8, _, _ | 9, _, _ | 10, _, _ | 11, _, _ | 12, _, _ | 13, _, _ | 14, _, _ => rfl
    | n + 15, hi, h => exact absurd (by omega : n + 15 = 15) h
  · rw [Array.getElem?_eq_none (by show (didA x v').size ≤ i; show 16 ≤ i; omega), Array.getElem?_eq_none (by show 16 ≤ i; omega)]

/-- One round more: new names in a block of their own, and the cell told so. -/
theorem CopyLog.step {w wr w1 : World} {g cap : Nat} {L : List Sp.Did} {k : Nat} {xs : List Value} (h : CopyLog w wr g cap L k xs) {x : Sp.Did} (hx : L[k]? = some x) (hb : Below wr.heap.size wr w1)
    {ad : Option Addr} {c : Nat} (hn : OwnTexts wr.heap.size w1 (.slice ad x.a.names.length c) x.a.names) :
    CopyLog w (w1.setCell ⟨g, k * 16 + 15, none⟩ (.slice ad x.a.names.length c)) g cap L (k + 1) (xs.set (k * 16 + 15) (.slice ad x.a.names.length c)) := by
  have hg := h.own.lt g rfl
  have hlen := h.own.1
  have hkl := (List.getElem?_eq_some_iff.1 hx).1
  have own1 : w1.ownsRow w.heap.size 56 16 (.slice (some ⟨g, 0, none⟩) L.length cap) L.length xs := owns_size h.own (fun k o _ ho => heap_below hb _ _ ho)
  have keep : ∀ (e : Nat) (o : Obj), e ≠ g → w1.heap[e]? = some o → (w1.setCell ⟨g, k * 16 + 15, none⟩ (.slice ad x.a.names.length c)).heap[e]? = some o := fun e o he ho => by
    rw [heap_setCell_ne _ he]
    exact ho
  have other : ∀ (j i : Nat), i < 16 → (j ≠ k ∨ i ≠ 15) → (xs.set (k * 16 + 15) (.slice ad x.a.names.length c))[j * 16 + i]? = xs[j * 16 + i]? := fun j i hi hor => by
    rw [List.getElem?_set_ne (by omega)]
  refine ⟨?_, (own1.stored _ _).1, fun j y hj hy => ?_, fun j y hj hy => ?_⟩
  · exact (below_next h.low hb).setCell hg.1 _
  · by_cases hjk : j = k
    · subst hjk
      rw [hx] at hy
      cases hy
      refine ⟨ad, c, (hn.mono h.low.size).keep (fun e o he ho => keep e o (fun hh => by
        have := (own_lt hn e he).1
        omega) ho), fun e he hh => by
          have := (own_lt hn e he).1
          omega, fun i z hz => ?_⟩
      have hi : i < 16 := (Array.getElem?_eq_some_iff.1 hz).1
      by_cases h15 : i = 15
      · subst h15
        rw [List.getElem?_set_self (by rw [hlen]; omega)]
        exact hz
      · rw [other _ _ hi (Or.inr h15)]
        obtain ⟨ad0, c0, _, _, h3⟩ := h.rest j x (Nat.le_refl _) hx
        refine h3 i z ?_
        rw [← hz]
        exact didA_names h15
    · obtain ⟨ad0, c0, h1, h2, h3⟩ := h.done j y (by omega) hy
      refine ⟨ad0, c0, (h1.below hb).keep (fun e o he ho => keep e o (h2 e he) ho), h2, fun i z hz => ?_⟩
      rw [other _ _ (Array.getElem?_eq_some_iff.1 hz).1 (Or.inl hjk)]
      exact h3 i z hz
  · obtain ⟨ad0, c0, h1, h2, h3⟩ := h.rest j y (by omega) hy
    refine ⟨ad0, c0, h1, h2, fun i z hz => ?_⟩
    rw [other _ _ (Array.getElem?_eq_some_iff.1 hz).1 (Or.inl (by omega))]
    exact h3 i z hz
end Go.Proofs.YtcgpmnlondnbhaaDoor
