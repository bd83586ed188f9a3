/-
  How many paths there are behind an operation. No walk in this text.
-/
import Derived.Test.YtcgpmnlondnbhaaDoorSpLinks
import Derived.Test.YtcgpmnlondnbhaaDoorPlainA
import Derived.Test.YtcgpmnlondnbhaaDoorTreeB
namespace Go.Proofs.YtcgpmnlondnbhaaDoor.Sp
open Go Txt

section
variable {t : Tree}
theorem paths_length (t : Tree) : t.paths.length = t.names.length + 1 := by
  unfold Tree.paths
  rw [List.length_mergeSort, List.length_cons, List.length_map]
theorem forget_one (h : t.Ok) {p : List ByteArray} {i : Nat} (hf : t.find p = some i) : (t.forget p).names.length + 1 = t.names.length := by
  rw [(forget_cases h hf).1]
  have h1 := filter_or (fun x : List ByteArray × Nat => decide (x.1 = p)) (fun x => decide (x.1 ≠ p)) t.names (fun x _ a b => (of_decide_eq_true b) (of_decide_eq_true a))
  have h2 : t.names.filter (fun x => decide (x.1 = p) || decide (x.1 ≠ p)) = t.names := by
    rw [List.filter_eq_self]
    intro x _
    by_cases hx : x.1 = p <;> simp [hx]
  rw [h2, filter_one h.nodup ((find_mem h).1 hf)] at h1
  have := h1.length_eq
  rw [List.length_append, List.length_singleton] at this
  omega

/-- What TreeCounts asks of one operation. -/
structure Counted (t : Tree) (o : Op) : Prop where
  bad : (t.step o).2.code ≠ 0 → (t.step o).1.names.length = t.names.length
  more : (t.step o).2.code = 0 → o.kind = 1 ∨ o.kind = 2 ∨ o.kind = 3 → (t.step o).1.names.length = t.names.length + 1
  less : (t.step o).2.code = 0 → o.kind = 4 ∨ o.kind = 5 → (t.step o).1.names.length + 1 = t.names.length
  turn : (t.step o).2.code = 0 → o.kind = 6 → (t.step o).1.names.length = t.names.length ∨ (t.step ⟨10, o.to, noText, 0, 0, noText⟩).2.code = 0 ∧ (t.step o).1.names.length + 1 = t.names.length
  rest : ¬ (o.kind = 1 ∨ o.kind = 2 ∨ o.kind = 3 ∨ o.kind = 4 ∨ o.kind = 5 ∨ o.kind = 6) → (t.step o).1.names.length = t.names.length

theorem make_count (path : ByteArray) (dir : Bool) : ((t.make path dir).2 ≠ 0 → (t.make path dir).1.names.length = t.names.length) ∧ ((t.make path dir).2 = 0 → (t.make path dir).1.names.length = t.names.length + 1) := by
  unfold Tree.make
  split
  · split
    · exact ⟨fun _ => rfl, fun h => by cases h⟩
    · exact ⟨fun h => absurd rfl h, fun _ => by simp⟩
  · rename_i hc
    exact ⟨fun _ => rfl, fun h => absurd h hc⟩
theorem link_count (path q : ByteArray) : ((t.link path q).2 ≠ 0 → (t.link path q).1.names.length = t.names.length) ∧ ((t.link path q).2 = 0 → (t.link path q).1.names.length = t.names.length + 1) := by
  unfold Tree.link
  split
  · split
    · exact ⟨fun _ => rfl, fun h => by cases h⟩
    · split
      · split
        · exact ⟨fun _ => rfl, fun h => by cases h⟩
        · split
          · exact ⟨fun _ => rfl, fun h => by cases h⟩
          · exact ⟨fun h => absurd rfl h, fun _ => by simp⟩
      · rename_i hc
        exact ⟨fun _ => rfl, fun h => absurd h hc⟩
  · rename_i hc
    exact ⟨fun _ => rfl, fun h => absurd h hc⟩
theorem remove_count (h : t.Ok) (path : ByteArray) (dir : Bool) : ((t.remove path dir).2 ≠ 0 → (t.remove path dir).1.names.length = t.names.length) ∧ ((t.remove path dir).2 = 0 → (t.remove path dir).1.names.length + 1 = t.names.length) := by
  unfold Tree.remove
  split
  · split
    · exact ⟨fun _ => rfl, fun h => by cases h⟩
    · rename_i i hf
      split
      · exact ⟨fun _ => rfl, fun h => by cases h⟩
      · split
        · exact ⟨fun _ => rfl, fun h => by cases h⟩
        · split
          · exact ⟨fun _ => rfl, fun h => by cases h⟩
          · exact ⟨fun h => absurd rfl h, fun _ => forget_one h hf⟩
  · rename_i hc
    exact ⟨fun _ => rfl, fun h => absurd h hc⟩

/-- What is there is told. -/
theorem last_full {q : ByteArray} (h : (lastN q).2.2 = 0) : splitN q = (full q, 0) := by
  rcases lastN_cases q with ⟨c, e, hc⟩ | ⟨l, x, e, hs⟩
  · rw [e] at h
    have h : c = 0 := h
    rw [h] at hc
    simp at hc
  · unfold full; rw [hs]
theorem stat_there (h : t.Ok) {q : ByteArray} {j : Nat} (hs : splitN q = (full q, 0)) (hj : t.idOf (full q) = some j) : (t.step ⟨10, q, noText, 0, 0, noText⟩).2.code = 0 := by
  have hat := at_of h hs hj
  have hb : (t.tell ⟨10, q, noText, 0, 0, noText⟩).code = 0 := by
    unfold Tree.tell
    simp only
    rw [hat, if_pos rfl, if_pos trivial]
    split <;> rfl
  have hst : t.step ⟨10, q, noText, 0, 0, noText⟩ = (t, t.tell ⟨10, q, noText, 0, 0, noText⟩) := by
    unfold Tree.step
    rfl
  rw [hst]
  exact hb
theorem rename_count (h : t.Ok) (path q : ByteArray) : ((t.rename path q).2 ≠ 0 → (t.rename path q).1.names.length = t.names.length) ∧
    ((t.rename path q).2 = 0 → (t.rename path q).1.names.length = t.names.length ∨ (t.step ⟨10, q, noText, 0, 0, noText⟩).2.code = 0 ∧ (t.rename path q).1.names.length + 1 = t.names.length) := by
  unfold Tree.rename
  split
  · split
    · exact ⟨fun _ => rfl, fun h => by cases h⟩
    · rename_i i hf
      split
      · rename_i hl
        split
        · exact ⟨fun _ => rfl, fun h => by cases h⟩
        · split
          · split
            · exact ⟨fun h => absurd rfl h, fun _ => Or.inl (move_length _ _ _ _)⟩
            · rename_i j hg
              split
              · exact ⟨fun _ => rfl, fun _ => Or.inl rfl⟩
              · split
                · exact ⟨fun _ => rfl, fun h => by cases h⟩
                · split
                  · exact ⟨fun _ => rfl, fun h => by cases h⟩
                  · split
                    · exact ⟨fun _ => rfl, fun h => by cases h⟩
                    · exact ⟨fun h => absurd rfl h, fun _ => Or.inr ⟨stat_there h (last_full hl) (find_idOf h hg), by rw [move_length]; exact forget_one h hg⟩⟩
          · rename_i hc
            exact ⟨fun _ => rfl, fun h => absurd h hc⟩
      · rename_i hc
        exact ⟨fun _ => rfl, fun h => absurd h hc⟩
  · rename_i hc
    exact ⟨fun _ => rfl, fun h => absurd h hc⟩
theorem bytes_count (o : Op) : (t.bytes o).1.names.length = t.names.length := by
  unfold Tree.bytes
  split
  · split
    · split <;> rfl
    · split
      · split
        · rfl
        · split
          · rfl
          · split <;> rfl
      · split
        · rfl
        · split <;> rfl
  · rfl

theorem counted (h : t.Ok) (o : Op) : Counted t o := by
  obtain ⟨k, p, q, off, len, d⟩ := o
  by_cases h1 : k = 1
  · subst h1
    have hs : t.step ⟨1, p, q, off, len, d⟩ = ((t.make p false).1, { code := (t.make p false).2 }) := rfl
    have hc := make_count (t := t) p false
    exact ⟨fun h => by rw [hs] at h ⊢; exact hc.1 h, fun h _ => by rw [hs] at h ⊢; exact hc.2 h, fun _ h => by simp at h, fun _ h => by simp at h, fun h => by simp at h⟩
  by_cases h2 : k = 2
  · subst h2
    have hs : t.step ⟨2, p, q, off, len, d⟩ = ((t.make p true).1, { code := (t.make p true).2 }) := rfl
    have hc := make_count (t := t) p true
    exact ⟨fun h => by rw [hs] at h ⊢; exact hc.1 h, fun h _ => by rw [hs] at h ⊢; exact hc.2 h, fun _ h => by simp at h, fun _ h => by simp at h, fun h => by simp at h⟩
  by_cases h3 : k = 3
  · subst h3
    have hs : t.step ⟨3, p, q, off, len, d⟩ = ((t.link p q).1, { code := (t.link p q).2 }) := rfl
    have hc := link_count (t := t) p q
    exact ⟨fun h => by rw [hs] at h ⊢; exact hc.1 h, fun h _ => by rw [hs] at h ⊢; exact hc.2 h, fun _ h => by simp at h, fun _ h => by simp at h, fun h => by simp at h⟩
  by_cases h4 : k = 4
  · subst h4
    have hs : t.step ⟨4, p, q, off, len, d⟩ = ((t.remove p false).1, { code := (t.remove p false).2 }) := rfl
    have hc := remove_count h p false
    exact ⟨fun h => by rw [hs] at h ⊢; exact hc.1 h, fun _ h => by simp at h, fun h _ => by rw [hs] at h ⊢; exact hc.2 h, fun _ h => by simp at h, fun h => by simp at h⟩
  by_cases h5 : k = 5
  · subst h5
    have hs : t.step ⟨5, p, q, off, len, d⟩ = ((t.remove p true).1, { code := (t.remove p true).2 }) := rfl
    have hc := remove_count h p true
    exact ⟨fun h => by rw [hs] at h ⊢; exact hc.1 h, fun _ h => by simp at h, fun h _ => by rw [hs] at h ⊢; exact hc.2 h, fun _ h => by simp at h, fun h => by simp at h⟩
  by_cases h6 : k = 6
  · subst h6
    have hs : t.step ⟨6, p, q, off, len, d⟩ = ((t.rename p q).1, { code := (t.rename p q).2 }) := rfl
    have hc := rename_count h p q
    exact ⟨fun h => by rw [hs] at h ⊢; exact hc.1 h, fun _ h => by simp at h, fun _ h => by simp at h, fun h _ => by rw [hs] at h ⊢; exact hc.2 h, fun h => by simp at h⟩
  have hr : (t.step ⟨k, p, q, off, len, d⟩).1.names.length = t.names.length := by
    unfold Tree.step
    simp only
    rw [if_neg h1, if_neg h2, if_neg h3, if_neg h4, if_neg h5, if_neg h6]
    split
    · exact bytes_count _
    · split <;> rfl
  exact ⟨fun _ => hr, fun _ h => by simp only at h; omega, fun _ h => by simp only at h; omega, fun _ h => by simp only at h; omega, fun _ => hr⟩
end
end Go.Proofs.YtcgpmnlondnbhaaDoor.Sp
