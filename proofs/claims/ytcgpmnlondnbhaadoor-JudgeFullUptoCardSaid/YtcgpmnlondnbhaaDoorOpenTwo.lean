/-
  A pair of texts among the arguments.
-/
import Derived.Test.YtcgpmnlondnbhaaDoorOpens
import Derived.OpenShut
namespace Go.Proofs.YtcgpmnlondnbhaaDoor
open Go Go.ChangeShapes Go.WideShapes Go.RowKit

set_option maxRecDepth 100000 in
theorem open_two {H : Type} {enc : TypeId × Value → H} {W : World} {base : Nat} {v : Value} {d : DataW H} {ps : List MemPlace} (hval : Value.okWide Tryd.prog W .any base 39 v)
    (h : DataW.Trod enc Tryd.prog W 0 (fun _ => true) true 39 v d ps) : ∃ s t : ByteArray, v = .agg #[.string s, .string t] ∧ d = .agg [.lit (.string s.data.toList), .lit (.string t.data.toList)] ∧ ps = [] ∧ s.size ≤ maxLen ∧ t.size ≤ maxLen := by
  have hcs : Tryd.prog.cellsOf 9 = 1 := by kernel_rfl
  have hcA : Tryd.prog.cellsOf 39 = 2 := by kernel_rfl
  obtain ⟨cs, rfl, hsz⟩ : ∃ cs : Array Value, v = .agg cs ∧ cs.size = Tryd.prog.cellsOf 39 := by
    simp only [Value.okWide, Tryd.underlying39] at hval
    obtain ⟨cs, h1, h2, _⟩ := hval
    exact ⟨cs, h1, h2⟩
  rw [hcA] at hsz
  obtain ⟨l⟩ := cs
  match l, hsz with
  | [c0, c1], _ =>
    obtain ⟨fuel, hf⟩ := h
    obtain ⟨xs, m, _, hx, _, hlen, hg⟩ := DataW.trod_array Tryd.underlying39 hf
    have h0 := hg 0 (by decide)
    have h1 := hg 1 (by decide)
    match xs, hlen with
    | [y0, y1], _ =>
      rw [hcs] at h0 h1
      obtain ⟨s, e0, rfl, hs⟩ := DataW.trod_string Tryd.underlying9 (show DataW.trod enc Tryd.prog W 0 (fun _ => true) true m 9 [c0] = some y0 from h0)
      obtain ⟨t, e1, rfl, ht⟩ := DataW.trod_string Tryd.underlying9 (show DataW.trod enc Tryd.prog W 0 (fun _ => true) true m 9 [c1] = some y1 from h1)
      cases e0
      cases e1
      simp only [Prod.mk.injEq] at hx
      exact ⟨s, t, rfl, hx.1, hx.2, hs, ht⟩
end Go.Proofs.YtcgpmnlondnbhaaDoor
