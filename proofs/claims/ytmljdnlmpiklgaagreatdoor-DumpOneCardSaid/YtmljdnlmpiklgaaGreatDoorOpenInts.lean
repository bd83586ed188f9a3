/-
  A pair of numbers among the arguments.
-/
import Derived.Test.YtmljdnlmpiklgaaGreatDoorFrame
import Derived.Deep.Fields
import Derived.ChangeSame
import Derived.OpenShut
namespace Go.Proofs.YtmljdnlmpiklgaaGreatDoor
open Go Go.ChangeShapes Go.WideShapes Go.RowKit

set_option maxRecDepth 100000 in
theorem open_ints2 {H : Type} {enc : TypeId × Value → H} {W : World} {base : Nat} {v : Value} {d : DataW H} {ps : List MemPlace} (hval : Value.okWide Tryz.prog W .any base 35 v)
    (h : DataW.Trod enc Tryz.prog W 0 (fun _ => true) true 35 v d ps) : ∃ a b : Int, v = .agg #[.int .i64 a, .int .i64 b] ∧ d = .agg [.lit (.int .i64 a), .lit (.int .i64 b)] ∧ ps = [] := by
  have hcs : Tryz.prog.cellsOf 3 = 1 := by kernel_rfl
  have hcA : Tryz.prog.cellsOf 35 = 2 := by kernel_rfl
  obtain ⟨cs, rfl, hsz⟩ : ∃ cs : Array Value, v = .agg cs ∧ cs.size = Tryz.prog.cellsOf 35 := by
    simp only [Value.okWide, Tryz.underlying35] at hval
    obtain ⟨cs, h1, h2, _⟩ := hval
    exact ⟨cs, h1, h2⟩
  rw [hcA] at hsz
  obtain ⟨l⟩ := cs
  match l, hsz with
  | [c0, c1], _ =>
    obtain ⟨fuel, hf⟩ := h
    obtain ⟨xs, m, _, hx, _, hlen, hg⟩ := DataW.trod_array Tryz.underlying35 hf
    have h0 := hg 0 (by decide)
    have h1 := hg 1 (by decide)
    match xs, hlen with
    | [y0, y1], _ =>
      rw [hcs] at h0 h1
      obtain ⟨n0, e0, rfl, hs⟩ := DataW.trod_int Tryz.underlying3 (show DataW.trod enc Tryz.prog W 0 (fun _ => true) true m 3 [c0] = some y0 from h0)
      obtain ⟨n1, e1, rfl, ht⟩ := DataW.trod_int Tryz.underlying3 (show DataW.trod enc Tryz.prog W 0 (fun _ => true) true m 3 [c1] = some y1 from h1)
      cases e0
      cases e1
      simp only [Prod.mk.injEq] at hx
      exact ⟨n0, n1, rfl, hx.1, hx.2⟩
end Go.Proofs.YtmljdnlmpiklgaaGreatDoor
