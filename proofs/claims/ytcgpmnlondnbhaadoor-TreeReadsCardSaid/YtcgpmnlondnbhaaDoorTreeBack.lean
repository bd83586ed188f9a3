/-
  The tree behind reading, writing, cutting a file. No walk in this text.
-/
import Derived.Test.YtcgpmnlondnbhaaDoorTreePiece
namespace Go.Proofs.YtcgpmnlondnbhaaDoor
open Go Go.RowKit Txt Sp

section
variable {w w' : World} {B : Nat} {t : Sp.Tree} {φ μ : Nat → Nat}
theorem file_ok (hok : t.Ok) {p : ByteArray} {i : Nat} (h : t.file p = (i, 0)) : t.idOf (full p) = some i ∧ t.isDir i = false ∧ (i, false, t.dataOf i) ∈ t.things := by
  unfold Sp.Tree.file at h
  split at h
  · rename_i h1
    split at h
    · have := congrArg (·.2) h
      exact absurd this (show (102 : Int) ≠ 0 by decide)
    · rename_i h2
      have hi : (t.at p).1 = i := congrArg (·.1) h
      have h3 := (at_ok t h1).2.2
      rw [hi] at h2 h3
      have hd : t.isDir i = false := Bool.eq_false_iff.2 h2
      have h4 := there_idOf hok h3
      rw [hd] at h4
      exact ⟨h3, hd, h4⟩
  · rename_i h1
    exact absurd (congrArg (·.2) h) h1

theorem bytes_eq {o : Sp.Op} {i : Nat} (hf : t.file o.path = (i, 0)) (hd : (t.dataOf i).size ≤ 2560) : (t.bytes o).2 = (bytesD (t.dataOf i) o).2 ∧
    (((t.bytes o).1 = t ∧ (bytesD (t.dataOf i) o).1 = t.dataOf i) ∨ (t.bytes o).1 = t.set i (bytesD (t.dataOf i) o).1) ∧ (bytesD (t.dataOf i) o).1.size ≤ 2560 := by
  unfold Sp.Tree.bytes bytesD
  rw [hf, if_pos rfl]
  simp only
  split
  · split
    · exact ⟨rfl, Or.inl ⟨rfl, rfl⟩, hd⟩
    · exact ⟨rfl, Or.inl ⟨rfl, rfl⟩, hd⟩
  · split
    · split
      · exact ⟨rfl, Or.inl ⟨rfl, rfl⟩, hd⟩
      · split
        · exact ⟨rfl, Or.inl ⟨rfl, rfl⟩, hd⟩
        · split
          · exact ⟨rfl, Or.inl ⟨rfl, rfl⟩, hd⟩
          · refine ⟨rfl, Or.inr rfl, ?_⟩
            show (ofL (writeL (t.dataOf i).data.toList o.off.toNat o.data.data.toList)).size ≤ 2560
            rw [Lib.size_eq, ofL_data, writeL_length, ← Lib.size_eq, ← Lib.size_eq]
            omega
    · split
      · exact ⟨rfl, Or.inl ⟨rfl, rfl⟩, hd⟩
      · split
        · exact ⟨rfl, Or.inl ⟨rfl, rfl⟩, hd⟩
        · refine ⟨rfl, Or.inr rfl, ?_⟩
          show (ofL (stretch (t.dataOf i).data.toList o.len.toNat)).size ≤ 2560
          rw [stretch_size]
          omega

theorem dom_set (hok : t.Ok) {i : Nat} {d : ByteArray} (hi : (i, false, t.dataOf i) ∈ t.things) (hs : d.size ≤ 2560) {k : Nat} (h : Rep.dom B (t.set i d) φ μ k) : Rep.dom B t φ μ k := by
  rcases h with rfl | ⟨j, ⟨b, e, hj⟩, h⟩
  · exact Or.inl rfl
  · have hok' := hok.set hi hs
    have hd := isDir_of hok' hj
    obtain ⟨x, hx, he⟩ := List.mem_map.1 hj
    obtain ⟨a, c, f⟩ := x
    have hac : a = j ∧ c = b := by
      simp only at he
      split at he <;> cases he <;> exact ⟨rfl, rfl⟩
    obtain ⟨rfl, rfl⟩ := hac
    refine Or.inr ⟨a, ⟨_, _, hx⟩, ?_⟩
    rw [isDir_of hok hx, ← hd]
    exact h

theorem bytes_rep (hR : Rep w B t φ μ) (hok : t.Ok) {o : Sp.Op} {i : Nat} (hf : t.file o.path = (i, 0)) (h : w'.heap[φ i]? = some (thingO (bytesD (t.dataOf i) o).1 (t.links i) none)) (T : Turn (fun k => k = φ i) w w') :
    Rep w' B (t.bytes o).1 φ μ ∧ Turn (Rep.dom B t φ μ) w w' ∧ ∀ k, Rep.dom B (t.bytes o).1 φ μ k → Rep.dom B t φ μ k := by
  obtain ⟨h1, h2, h3⟩ := file_ok hok hf
  obtain ⟨_, e2, e3⟩ := bytes_eq hf (hok.small _ _ h3)
  refine ⟨?_, T.mono (fun k _ h => h ▸ dom_thing ⟨_, _, h3⟩), ?_⟩
  · rcases e2 with ⟨e, e'⟩ | e
    · rw [e]
      rw [e'] at h
      refine hR.same (fun k ob hk => ?_)
      by_cases hkk : k = φ i
      · subst hkk
        rw [hR.file i _ h3] at hk
        rw [← hk]
        exact h
      · exact T.heap hk hkk
    · rw [e]
      exact hR.set hok h3 e3 (fun b ob hb hne => T.heap hb hne) h
  · rcases e2 with ⟨e, _⟩ | e
    · rw [e]; exact fun _ h => h
    · rw [e]; exact fun k h => dom_set hok h3 e3 h
end
end Go.Proofs.YtcgpmnlondnbhaaDoor
