/-
  A directory is removed just if it has no names. No walk in this text.
-/
import Derived.Test.YtcgpmnlondnbhaaDoorSpRenames
import Derived.Test.YtcgpmnlondnbhaaDoorTreeA
namespace Go.Proofs.YtcgpmnlondnbhaaDoor.Sp
open Go Txt

section
variable {t : Tree}
theorem tell_list_at {p : ByteArray} {i : Nat} (h : t.at p = (i, 0)) : t.tell ⟨11, p, noText, 0, 0, noText⟩ = if t.isDir i = true then { names := t.kids (full p) } else { code := 103 } := by
  unfold Tree.tell
  simp only
  rw [h, if_pos rfl, if_neg (by decide), if_pos trivial]
theorem kids_length (p : List ByteArray) : (t.kids p).length = (t.kidsL p).length := List.length_mergeSort _
theorem root_only {p : ByteArray} (h : splitN p = ([], 0)) : p = ⟨#[47]⟩ := ((join_split h).2).symm

/-- What is removed as a directory: it is there, and has no names. -/
theorem remove_zero {p : ByteArray} (hz : (t.remove p true).2 = 0) : ∃ i, t.dirC p = 0 ∧ t.find (full p) = some i ∧ t.isDir i = true ∧ t.kidsL (full p) = [] := by
  unfold Tree.remove at hz
  by_cases hc : t.dirC p = 0
  · rw [if_pos hc] at hz
    cases hf : t.find (full p) with
    | none => rw [hf] at hz; cases hz
    | some i =>
      rw [hf] at hz
      simp only at hz
      rw [if_neg (by simp)] at hz
      by_cases h1 : t.isDir i = false
      · rw [if_pos ⟨h1, trivial⟩] at hz; cases hz
      · rw [if_neg (fun h => h1 h.1)] at hz
        by_cases h2 : t.kidsL (full p) = []
        · exact ⟨i, hc, rfl, by simpa using h1, h2⟩
        · rw [if_pos ⟨trivial, h2⟩] at hz; cases hz
  · rw [if_neg hc] at hz
    exact absurd hz hc

theorem empty_no (h : t.Ok) {p : ByteArray} (hz : (t.step ⟨5, p, noText, 0, 0, noText⟩).2.code = 0) : (t.step ⟨11, p, noText, 0, 0, noText⟩).2.code = 0 ∧ p ≠ ⟨#[47]⟩ := by
  have hz' : (t.remove p true).2 = 0 := hz
  obtain ⟨i, h1, h2, h3, _⟩ := remove_zero hz'
  obtain ⟨l, x, a, hp⟩ := inDir h1
  have hat : t.at p = (i, 0) := at_of h hp.split (find_idOf h h2)
  refine ⟨?_, fun e => ?_⟩
  · show (t.tell ⟨11, p, noText, 0, 0, noText⟩).code = 0
    rw [tell_list_at hat, if_pos h3]
  · have hs := hp.split
    rw [hp.full, e, splitN_root rfl] at hs
    have := congrArg (fun z => z.1.length) hs
    simp at this

theorem empty_law (h : t.Ok) {p : ByteArray} (hz : (t.step ⟨11, p, noText, 0, 0, noText⟩).2.code = 0) (hp : p ≠ ⟨#[47]⟩) :
    (t.step ⟨5, p, noText, 0, 0, noText⟩).2.code = if (t.step ⟨11, p, noText, 0, 0, noText⟩).2.names = [] then 0 else 104 := by
  show (t.remove p true).2 = if (t.tell ⟨11, p, noText, 0, 0, noText⟩).names = [] then 0 else 104
  have hz' : (t.tell ⟨11, p, noText, 0, 0, noText⟩).code = 0 := hz
  have h0 : (t.at p).2 = 0 := by
    by_cases hc : (t.at p).2 = 0
    · exact hc
    · unfold Tree.tell at hz'
      simp only at hz'
      rw [if_neg hc] at hz'
      exact hz'
  obtain ⟨hs, _, hid⟩ := at_ok t h0
  have hat : t.at p = ((t.at p).1, 0) := by rw [← h0]
  obtain ⟨i, hi⟩ : ∃ i, (t.at p).1 = i := ⟨_, rfl⟩
  rw [hi] at hid hat
  have ht := tell_list_at hat
  cases hd : t.isDir i with
  | false => rw [ht, hd, if_neg (by simp)] at hz'; cases hz'
  | true =>
    have hne : full p ≠ [] := fun e => hp (root_only (by rw [hs, e]))
    rw [idOf_find hne] at hid
    rw [ht, hd, if_pos rfl]
    show _ = if t.kids (full p) = [] then 0 else 104
    have hcd := there_dirC h hs hid
    have hk : t.kids (full p) = [] ↔ t.kidsL (full p) = [] := by
      rw [← List.length_eq_zero_iff, kids_length, List.length_eq_zero_iff]
    by_cases hke : t.kidsL (full p) = []
    · rw [if_pos (hk.2 hke), remove_dir hcd hid hd hke]
    · rw [if_neg (fun e => hke (hk.1 e)), remove_full hcd hid hd hke]
end
end Go.Proofs.YtcgpmnlondnbhaaDoor.Sp
