/-
  A log in memory that grows, beside a tree. No walk in this text.
-/
import Derived.Test.YtcgpmnlondnbhaaDoorJudgeCheck
import Derived.Test.YtcgpmnlondnbhaaDoorTreeRenames
namespace Go.Proofs.YtcgpmnlondnbhaaDoor
open Go Go.RowKit Txt Sp

/-- The slice v holds the log L in a block of its own, its cells xs; each answer's names lie in a block of their own; none of these is one of D. -/
structure LogAt (base : Nat) (w : World) (D : Nat → Prop) (v : Value) (L : List Sp.Did) (xs : List Value) : Prop where
  own : w.ownsRow base 56 16 v L.length xs
  apart : ∀ g, v.ownBlock = some g → ¬ D g
  at' : ∀ (k : Nat) (x : Sp.Did), L[k]? = some x → ∃ ad cap, OwnTexts base w (.slice ad x.a.names.length cap) x.a.names ∧
    (∀ g, (Value.slice ad x.a.names.length cap).ownBlock = some g → ¬ D g ∧ v.ownBlock ≠ some g) ∧ ∀ (i : Nat) (y : Value), (didA x (.slice ad x.a.names.length cap))[i]? = some y → xs[k * 16 + i]? = some y

theorem OwnTexts.keep {n : Nat} {w w' : World} {v : Value} {l : List ByteArray} (h : OwnTexts n w v l) (hs : ∀ k o, v.ownBlock = some k → w.heap[k]? = some o → w'.heap[k]? = some o) : OwnTexts n w' v l :=
  let ⟨e, h⟩ := h
  ⟨e, owns_same h hs⟩

theorem owns_size {w w' : World} {base size : Nat} {e : TypeId} {v : Value} {n : Nat} {xs : List Value} (h : w.ownsRow base e size v n xs) (hs : ∀ k o, v.ownBlock = some k → w.heap[k]? = some o → w'.heap[k]? = some o) : w'.ownsRow base e size v n xs := by
  refine ⟨h.1, h.2.imp_right ?_⟩
  rintro ⟨g, cap, cur, rfl, hb, hh, h3⟩
  exact ⟨g, cap, cur, rfl, hb, hs g _ rfl hh, h3⟩

theorem LogAt.void (base : Nat) (w : World) (D : Nat → Prop) : LogAt base w D (.slice none 0 0) [] [] := ⟨⟨rfl, Or.inl ⟨rfl, rfl⟩⟩, (fun g hg => by cases hg), (fun k x hx => by simp at hx)⟩

section
variable {base : Nat} {w w' : World} {D D' : Nat → Prop} {v : Value} {L : List Sp.Did} {xs : List Value}
theorem LogAt.turn (h : LogAt base w D v L xs) (hT : Turn D w w') (hd : ∀ j, D' j → D j ∨ w.heap.size ≤ j) : LogAt base w' D' v L xs := by
  refine ⟨owns_size h.own (fun k o hk ho => hT.heap ho (h.apart k hk)), fun g hg hj => (hd g hj).elim (h.apart g hg) (fun hle => by have := (h.own.lt g hg).2; omega), fun k x hx => ?_⟩
  obtain ⟨ad, cap, h1, h2, h3⟩ := h.at' k x hx
  refine ⟨ad, cap, h1.keep (fun j o hj ho => hT.heap ho (h2 j hj).1), fun g hg => ⟨fun hj => (hd g hj).elim (h2 g hg).1 (fun hle => by have := (own_lt h1 g hg).2; omega), (h2 g hg).2⟩, h3⟩
theorem LogAt.below (h : LogAt base w D v L xs) (hb : Below w.heap.size w w') : LogAt base w' D v L xs := by
  refine ⟨owns_size h.own (fun k o _ ho => heap_below hb _ _ ho), h.apart, fun k x hx => ?_⟩
  obtain ⟨ad, cap, h1, h2, h3⟩ := h.at' k x hx
  exact ⟨ad, cap, h1.below hb, h2, h3⟩
theorem LogAt.dids (h : LogAt base w D v L xs) : Dids w v L := by
  obtain ⟨hlen, hown⟩ := h.own
  rcases hown with ⟨rfl, h0⟩ | ⟨g, cap, cur, rfl, hb, hg, h1, h2, h3, h4⟩
  · have hL : L = [] := List.length_eq_zero_iff.1 h0
    subst hL
    exact ⟨none, 0, rfl, Nat.le_refl _, Nat.zero_le _, fun h => by simp at h⟩
  · refine ⟨_, cap, rfl, h1, h2, fun _ => ⟨g, 0, rfl, (Array.getElem?_eq_some_iff.1 hg).1, fun k x hx => ?_⟩⟩
    obtain ⟨ad, c, t1, t2, t3⟩ := h.at' k x hx
    refine ⟨ad, c, t1.texts, fun i y hy => ?_⟩
    have h5 := t3 i y hy
    have h6 := (List.getElem?_eq_some_iff.1 h5).1
    rw [hlen] at h6
    rw [Nat.zero_add, h.own.cellAt _ h6]
    exact h5

/-- One answer more. -/
theorem LogAt.snoc (h : LogAt base w D v L xs) {x : Sp.Did} {ad : Option Addr} {cap : Nat} (hn : OwnTexts base w (.slice ad x.a.names.length cap) x.a.names) (hap : ∀ g, (Value.slice ad x.a.names.length cap).ownBlock = some g → ¬ D g ∧ v.ownBlock ≠ some g)
    {g c : Nat} (hown : w'.ownsRow base 56 16 (.slice (some ⟨g, 0, none⟩) (L.length + 1) c) (L.length + 1) (xs ++ (didA x (.slice ad x.a.names.length cap)).toList)) (hg : w.grownBy w' v.ownBlock) (hloc : v.ownBlock = some g ∨ g = w.heap.size) (hD : ∀ j, D j → j < w.heap.size) :
    LogAt base w' D (.slice (some ⟨g, 0, none⟩) (L.length + 1) c) (L ++ [x]) (xs ++ (didA x (.slice ad x.a.names.length cap)).toList) := by
  have hlen := h.own.1
  have keep : ∀ k o, v.ownBlock ≠ some k → w.heap[k]? = some o → w'.heap[k]? = some o := fun k o hk ho => by
    rw [hg.block k (Array.getElem?_eq_some_iff.1 ho).1 (Ne.symm hk)]
    exact ho
  have new : ∀ (k : Nat), k < w.heap.size → v.ownBlock ≠ some k → (Value.slice (some ⟨g, 0, none⟩) (L.length + 1) c).ownBlock ≠ some k := fun k hk hne e => by
    have e' : g = k := by simpa [Value.ownBlock] using e
    rcases hloc with h1 | h1
    · exact hne (by rw [h1, e'])
    · omega
  refine ⟨by rw [List.length_append, List.length_singleton]; exact hown, fun j hj => ?_, fun k y hy => ?_⟩
  · have e' : g = j := by simpa [Value.ownBlock] using hj
    subst e'
    rcases hloc with h1 | h1
    · exact h.apart g h1
    · intro hj
      have := hD g hj
      omega
  · by_cases hk : k < L.length
    · rw [List.getElem?_append_left hk] at hy
      obtain ⟨ad2, c2, t1, t2, t3⟩ := h.at' k y hy
      refine ⟨ad2, c2, t1.keep (fun j o hj ho => keep j o (t2 j hj).2 ho), fun j hj => ⟨(t2 j hj).1, new j (own_lt t1 j hj).2 (t2 j hj).2⟩, fun i z hz => ?_⟩
      have := t3 i z hz
      rw [List.getElem?_append_left (List.getElem?_eq_some_iff.1 this).1]
      exact this
    · have hk2 : k = L.length := by
        have := (List.getElem?_eq_some_iff.1 hy).1
        rw [List.length_append, List.length_singleton] at this
        omega
      subst hk2
      rw [List.getElem?_append_right (Nat.le_refl _), Nat.sub_self] at hy
      obtain rfl : x = y := by simpa using hy
      refine ⟨ad, cap, hn.keep (fun j o hj ho => keep j o (hap j hj).2 ho), fun j hj => ⟨(hap j hj).1, new j (own_lt hn j hj).2 (hap j hj).2⟩, fun i z hz => ?_⟩
      rw [List.getElem?_append_right (by omega), hlen, show L.length * 16 + i - L.length * 16 = i by omega]
      simpa using hz

/-- A tree beside a row that grows. -/
theorem Live.grown {w0 : World} {B k : Nat} {t : Sp.Tree} (h : Live w0 w B t k D) {row : Option Nat} (hg : w.grownBy w' row) (hr : ∀ g, row = some g → ¬ D g ∧ w0.heap.size ≤ g) : Live w0 w' B t k D := by
  obtain ⟨φ, μ, hR, hD⟩ := h.rep
  refine ⟨h.ok, h.few, h.low.trans ⟨hg.os, hg.tape, hg.output, hg.size, fun j hj => hg.block j (Nat.lt_of_lt_of_le hj h.low.size) (fun e => by have := (hr j e.symm).2; omega)⟩, ⟨φ, μ, hR.dom_same h.ok (fun j hj o ho => ?_), hD⟩, fun j hj => ⟨(h.from0 j hj).1, Nat.lt_of_lt_of_le (h.from0 j hj).2 hg.size⟩, h.max0⟩
  rw [hg.block j (Array.getElem?_eq_some_iff.1 ho).1 (fun e => (hr j e.symm).1 (hD j hj))]
  exact ho
end
end Go.Proofs.YtcgpmnlondnbhaaDoor
