/-
  A slice of texts in a block of its own, which may be written.
-/
import Derived.Test.YtcgpmnlondnbhaaDoorCut
namespace Go.Proofs.YtcgpmnlondnbhaaDoor
open Go Go.RowKit

/-- The slice v holds the texts l in a block of its own, from the block n on. -/
def OwnTexts (n : Nat) (w : World) (v : Value) (l : List ByteArray) : Prop := ∃ e, w.ownsRow n e 1 v l.length (l.map Value.string)
theorem OwnTexts.void (n : Nat) (w : World) : OwnTexts n w (.slice none 0 0) [] := ⟨0, rfl, Or.inl ⟨rfl, rfl⟩⟩
theorem OwnTexts.texts {n : Nat} {w : World} {v : Value} {l : List ByteArray} (h : OwnTexts n w v l) : Texts w v l := let ⟨_, h⟩ := h; Texts.own h
theorem OwnTexts.mono {n m : Nat} {w : World} {v : Value} {l : List ByteArray} (h : OwnTexts n w v l) (hm : m ≤ n) : OwnTexts m w v l := by
  obtain ⟨e, h1, h2⟩ := h
  refine ⟨e, h1, h2.imp_right ?_⟩
  rintro ⟨g, cap, cur, hv, hb, h3⟩
  exact ⟨g, cap, cur, hv, by omega, h3⟩
theorem OwnTexts.same {n : Nat} {w w' : World} {v : Value} {l : List ByteArray} (h : OwnTexts n w v l) (hs : ∀ k, n ≤ k → ∀ o, w.heap[k]? = some o → w'.heap[k]? = some o) : OwnTexts n w' v l := by
  obtain ⟨e, h1, h2⟩ := h
  refine ⟨e, h1, h2.imp_right ?_⟩
  rintro ⟨g, cap, cur, hv, hb, hh, h3⟩
  exact ⟨g, cap, cur, hv, hb, hs g hb _ hh, h3⟩
theorem OwnTexts.below {n : Nat} {w w' : World} {v : Value} {l : List ByteArray} (h : OwnTexts n w v l) (hb : Below w.heap.size w w') : OwnTexts n w' v l :=
  h.same (fun k _ o ho => by rw [hb.block k (Array.getElem?_eq_some_iff.1 ho).1]; exact ho)
end Go.Proofs.YtcgpmnlondnbhaaDoor
