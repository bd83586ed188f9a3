/-
  The reference's judge: plain laws. No walk in this text.
-/
import Derived.Test.YtcgpmnlondnbhaaGreatDoorSpJudge
import Derived.Test.YtcgpmnlondnbhaaGreatDoorSpFew
import Derived.Test.YtcgpmnlondnbhaaGreatDoorPlainA
namespace Go.Proofs.YtcgpmnlondnbhaaGreatDoor.Sp
open Go Txt

theorem plays_steps : ∀ (L : List Did) (t : Tree), ∃ ops : List Op, ops.length ≤ L.length ∧ plays t L = t.steps ops
  | [], t => ⟨[], Nat.le_refl _, rfl⟩
  | x :: r, t => by
    have h : plays t (x :: r) = plays (playN t x).1 r := rfl
    obtain ⟨ops, h1, h2⟩ := plays_steps r (playN t x).1
    rw [List.length_cons, h, h2]
    unfold playN
    split
    · exact ⟨ops, by omega, rfl⟩
    · exact ⟨x.o :: ops, by rw [List.length_cons]; omega, rfl⟩
theorem plays_snoc (t : Tree) (L : List Did) (x : Did) : plays t (L ++ [x]) = (playN (plays t L) x).1 := by
  unfold plays
  rw [List.foldl_append]
  rfl
theorem plays_ok (L : List Did) : (plays new L).Ok := by
  obtain ⟨ops, _, h⟩ := plays_steps L new
  rw [h]
  exact steps_ok new_ok ops
theorem plays_few (L : List Did) : (plays new L).names.length ≤ L.length ∧ (plays new L).things.length ≤ L.length + 1 ∧ (plays new L).many ≤ L.length := by
  obtain ⟨ops, h1, h⟩ := plays_steps L new
  have h2 := steps_few ops
  rw [h]
  omega
/-- The reference's way to check: key by key. -/
theorem key_mem {l : List Did} {k : Nat} {x : Did} : x.key ∈ (l.take k).map Did.key ↔ ∃ j y, j < k ∧ l[j]? = some y ∧ y.node = x.node ∧ y.task = x.task := by
  rw [List.mem_map]
  constructor
  · rintro ⟨y, hy, he⟩
    obtain ⟨j, hj⟩ := List.getElem?_of_mem hy
    rw [List.getElem?_take] at hj
    split at hj
    · rename_i h
      have h1 := congrArg Prod.fst he
      have h2 := congrArg Prod.snd he
      exact ⟨j, y, h, hj, h1, h2⟩
    · cases hj
  · rintro ⟨j, y, h, hj, h1, h2⟩
    refine ⟨y, List.mem_of_getElem? (i := j) (by rw [List.getElem?_take, if_pos h]; exact hj), ?_⟩
    unfold Did.key
    rw [h1, h2]
theorem check_zero : ∀ (l : List Did) (i : Nat) (seen : List (Int × Int)), (checkFrom i seen l).2 = 0 → checkFrom i seen l = (0, 0)
  | [], _, _, _ => rfl
  | x :: r, i, seen, h => by
    unfold checkFrom at h ⊢
    split at h
    · cases h
    · rename_i hc
      rw [if_neg hc]
      exact check_zero r _ _ h
theorem judge_at {l : List Did} (hc : checkN l = (0, 0)) (k : Nat) {x : Did} (hx : l[k]? = some x) : x.may := by
  have h : ∀ (l : List Did) (i : Nat) (seen : List (Int × Int)) (k : Nat) (x : Did), (checkFrom i seen l).2 = 0 → l[k]? = some x → x.may := by
    intro l
    induction l with
    | nil => intro _ _ k x _ hx; simp at hx
    | cons y r ih =>
      intro i seen k x hc hx
      unfold checkFrom at hc
      split at hc
      · cases hc
      rename_i h
      cases k with
      | zero =>
        cases hx
        exact Decidable.byContradiction (fun h1 => h (Or.inr h1))
      | succ k => exact ih _ _ k x hc (by simpa using hx)
  unfold checkN at hc
  split at hc
  · cases hc
  · exact h l 0 [] k x (by rw [hc]) hx
end Go.Proofs.YtcgpmnlondnbhaaGreatDoor.Sp
