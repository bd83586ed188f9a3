/-
  How few names and things a tree has behind operations. No program in this text.
-/
import Derived.Test.YtcgpmnlondnbhaaGreatDoorPlainA
namespace Go.Proofs.YtcgpmnlondnbhaaGreatDoor.Sp
open Go Txt

theorem forget_things (t : Tree) (p : List ByteArray) : (t.forget p).things.length ≤ t.things.length := by
  unfold Tree.forget
  cases t.find p with
  | none => exact Nat.le_refl _
  | some i =>
    simp only
    split
    · exact List.length_filter_le _ _
    · exact Nat.le_refl _
theorem forget_many (t : Tree) (p : List ByteArray) : (t.forget p).many ≤ t.many := by
  unfold Tree.forget
  cases t.find p with
  | none => exact Nat.le_refl _
  | some i =>
    simp only
    split <;> exact Nat.le_refl _
theorem set_things (t : Tree) (i : Nat) (d : ByteArray) : (t.set i d).things.length = t.things.length := List.length_map _
theorem step_things (t : Tree) (o : Op) : (t.step o).1.things.length ≤ t.things.length + 1 := by
  unfold Tree.step
  split
  · simp only; unfold Tree.make; split
    · split
      · exact Nat.le_succ _
      · simp
    · exact Nat.le_succ _
  split
  · simp only; unfold Tree.make; split
    · split
      · exact Nat.le_succ _
      · simp
    · exact Nat.le_succ _
  split
  · simp only; unfold Tree.link; split
    · split
      · exact Nat.le_succ _
      · split
        · split
          · exact Nat.le_succ _
          · split
            · exact Nat.le_succ _
            · simp
        · exact Nat.le_succ _
    · exact Nat.le_succ _
  have hrem : ∀ path dir, (t.remove path dir).1.things.length ≤ t.things.length + 1 := by
    intro path dir
    unfold Tree.remove
    split
    · split
      · exact Nat.le_succ _
      · split
        · exact Nat.le_succ _
        · split
          · exact Nat.le_succ _
          · split
            · exact Nat.le_succ _
            · exact Nat.le_succ_of_le (forget_things _ _)
    · exact Nat.le_succ _
  split
  · exact hrem _ _
  split
  · exact hrem _ _
  split
  · simp only; unfold Tree.rename; split
    · split
      · exact Nat.le_succ _
      · split
        · split
          · exact Nat.le_succ _
          · split
            · split
              · exact Nat.le_succ _
              · split
                · exact Nat.le_succ _
                · split
                  · exact Nat.le_succ _
                  · split
                    · exact Nat.le_succ _
                    · split
                      · exact Nat.le_succ _
                      · exact Nat.le_succ_of_le (forget_things _ _)
            · exact Nat.le_succ _
        · exact Nat.le_succ _
    · exact Nat.le_succ _
  split
  · simp only; unfold Tree.bytes; split
    · split
      · split <;> exact Nat.le_succ _
      · split
        · split
          · exact Nat.le_succ _
          · split
            · exact Nat.le_succ _
            · split
              · exact Nat.le_succ _
              · rw [set_things]; exact Nat.le_succ _
        · split
          · exact Nat.le_succ _
          · split
            · exact Nat.le_succ _
            · rw [set_things]; exact Nat.le_succ _
    · exact Nat.le_succ _
  split
  · exact Nat.le_succ _
  · exact Nat.le_succ _
theorem step_many (t : Tree) (o : Op) : (t.step o).1.many ≤ t.many + 1 := by
  unfold Tree.step
  split
  · simp only; unfold Tree.make; split
    · split
      · exact Nat.le_succ _
      · simp
    · exact Nat.le_succ _
  split
  · simp only; unfold Tree.make; split
    · split
      · exact Nat.le_succ _
      · simp
    · exact Nat.le_succ _
  split
  · simp only; unfold Tree.link; split
    · split
      · exact Nat.le_succ _
      · split
        · split
          · exact Nat.le_succ _
          · split
            · exact Nat.le_succ _
            · simp
        · exact Nat.le_succ _
    · exact Nat.le_succ _
  have hrem : ∀ path dir, (t.remove path dir).1.many ≤ t.many + 1 := by
    intro path dir
    unfold Tree.remove
    split
    · split
      · exact Nat.le_succ _
      · split
        · exact Nat.le_succ _
        · split
          · exact Nat.le_succ _
          · split
            · exact Nat.le_succ _
            · exact Nat.le_succ_of_le (forget_many _ _)
    · exact Nat.le_succ _
  split
  · exact hrem _ _
  split
  · exact hrem _ _
  split
  · simp only; unfold Tree.rename; split
    · split
      · exact Nat.le_succ _
      · split
        · split
          · exact Nat.le_succ _
          · split
            · split
              · exact Nat.le_succ _
              · split
                · exact Nat.le_succ _
                · split
                  · exact Nat.le_succ _
                  · split
                    · exact Nat.le_succ _
                    · split
                      · exact Nat.le_succ _
                      · exact Nat.le_succ_of_le (forget_many _ _)
            · exact Nat.le_succ _
        · exact Nat.le_succ _
    · exact Nat.le_succ _
  split
  · simp only; unfold Tree.bytes; split
    · split
      · split <;> exact Nat.le_succ _
      · split
        · split
          · exact Nat.le_succ _
          · split
            · exact Nat.le_succ _
            · split
              · exact Nat.le_succ _
              · exact Nat.le_succ _
        · split
          · exact Nat.le_succ _
          · split
            · exact Nat.le_succ _
            · exact Nat.le_succ _
    · exact Nat.le_succ _
  split
  · exact Nat.le_succ _
  · exact Nat.le_succ _

theorem steps_few (l : List Op) : (new.steps l).names.length ≤ l.length ∧ (new.steps l).things.length ≤ l.length + 1 ∧ (new.steps l).many ≤ l.length := by
  have h : ∀ (l : List Op) (t : Tree), (t.steps l).names.length ≤ t.names.length + l.length ∧ (t.steps l).things.length ≤ t.things.length + l.length ∧ (t.steps l).many ≤ t.many + l.length := by
    intro l
    induction l with
    | nil => intro t; exact ⟨Nat.le_refl _, Nat.le_refl _, Nat.le_refl _⟩
    | cons o r ih =>
      intro t
      obtain ⟨a, b, c⟩ := ih (t.step o).1
      have a2 := step_length t o
      have b2 := step_things t o
      have c2 := step_many t o
      rw [List.length_cons]
      refine ⟨?_, ?_, ?_⟩
      · show ((t.step o).1.steps r).names.length ≤ _; omega
      · show ((t.step o).1.steps r).things.length ≤ _; omega
      · show ((t.step o).1.steps r).many ≤ _; omega
  obtain ⟨a, b, c⟩ := h l new
  refine ⟨?_, ?_, ?_⟩
  · have : new.names.length = 0 := rfl
    omega
  · have : new.things.length = 1 := rfl
    omega
  · have : new.many = 0 := rfl
    omega
end Go.Proofs.YtcgpmnlondnbhaaGreatDoor.Sp
