/-
  Beginnings of a log that is fine; and one whose answers were told in another order of time. No walk in this text.
-/
import Derived.Test.YtcgpmnlondnbhaaDoorSpJudge
namespace Go.Proofs.YtcgpmnlondnbhaaDoor.Sp
open Go Txt

theorem check_take : ∀ (l : List Did) (i : Nat) (seen : List (Int × Int)) (k : Nat), (checkFrom i seen l).2 = 0 → checkFrom i seen (l.take k) = (0, 0)
  | [], _, _, _, _ => by rw [List.take_nil]; rfl
  | x :: r, i, seen, 0, _ => rfl
  | x :: r, i, seen, k + 1, h => by
    rw [List.take_succ_cons]
    unfold checkFrom at h ⊢
    split at h
    · cases h
    · rename_i hc
      rw [if_neg hc]
      exact check_take r _ _ k h
theorem judge_take : ∀ (l : List Did) (i : Nat) (t : Tree) (last : Int) (k : Nat), (judgeFrom i t last l).1 = 0 → judgeFrom i t last (l.take k) = (0, 0)
  | [], _, _, _, _, _ => by rw [List.take_nil]; rfl
  | x :: r, i, t, last, 0, _ => rfl
  | x :: r, i, t, last, k + 1, h => by
    rw [List.take_succ_cons]
    unfold judgeFrom at h ⊢
    split at h
    · cases h
    · rename_i hc
      rw [if_neg hc]
      split at h
      · rename_i hp
        rw [if_pos hp]
        exact judge_take r _ _ _ k h
      · cases h
/-- What a log that is fine says. -/
theorem fine_parts {l : List Did} (h1 : (judgeN l).1 = 0) (h2 : (judgeN l).2.2 = 0) : l.length ≤ 256 ∧ (checkFrom 0 [] l).2 = 0 ∧ (judgeFrom 0 new (-1) l).1 = 0 := by
  unfold judgeN at h1 h2
  have hc : (checkN l).2 = 0 := by
    split at h2
    · assumption
    · exact h2
  rw [if_pos hc] at h1
  unfold checkN at hc
  split at hc
  · cases hc
  · exact ⟨by omega, hc, h1⟩
theorem fine_take {l : List Did} (h1 : (judgeN l).1 = 0) (h2 : (judgeN l).2.2 = 0) (k : Nat) : judgeN (l.take k) = (0, 0, 0) := by
  obtain ⟨hl, hc, hj⟩ := fine_parts h1 h2
  have hk := check_take l 0 [] k hc
  have hj := judge_take l 0 new (-1) k hj
  have hlk : ¬ (l.take k).length > 256 := by rw [List.length_take]; omega
  have hck : checkN (l.take k) = (0, 0) := by
    unfold checkN
    rw [if_neg hlk, hk]
  unfold judgeN
  rw [hck, hj, if_pos rfl]
/-- The first two answers' times of telling, changed for one another. -/
def swapTill : List Did → List Did
  | x :: y :: r => { x with till := y.till } :: { y with till := x.till } :: r
  | l => l
theorem playN_till (t : Tree) (x : Did) (c : Int) : playN t { x with till := c } = playN t x := rfl
theorem swap_late {l : List Did} (h1 : (judgeN l).1 = 0) (h2 : (judgeN l).2.2 = 0) (h : 2 ≤ l.length) : judgeN (swapTill l) = (1, 1, 0) := by
  obtain ⟨hl, hc, hj⟩ := fine_parts h1 h2
  match l, h, hl, hc, hj with
  | x :: y :: r, _, hl, hc, hj =>
    unfold checkFrom at hc
    split at hc
    · cases hc
    rename_i c1
    unfold checkFrom at hc
    split at hc
    · cases hc
    rename_i c2
    unfold judgeFrom at hj
    split at hj
    · cases hj
    rename_i j1
    split at hj
    case isFalse => cases hj
    rename_i j2
    unfold judgeFrom at hj
    split at hj
    · cases hj
    rename_i j3
    have m1 : x.may := Decidable.byContradiction (fun h => c1 (Or.inr h))
    have m2 : y.may := Decidable.byContradiction (fun h => c2 (Or.inr h))
    have d1 : ¬ (({ x with till := y.till } : Did).key ∈ ([] : List (Int × Int)) ∨ ¬ ({ x with till := y.till } : Did).may) := by
      rintro (h | h)
      · cases h
      · exact h ⟨m1.1, m1.2.1, m1.2.2.1, m1.2.2.2.1, m1.2.2.2.2.1, m2.2.2.2.2.2.1, m1.2.2.2.2.2.2.1, m2.2.2.2.2.2.2.2⟩
    have d2 : ¬ (({ y with till := x.till } : Did).key ∈ ([] : List (Int × Int)) ++ [({ x with till := y.till } : Did).key] ∨ ¬ ({ y with till := x.till } : Did).may) := by
      rintro (h | h)
      · exact c2 (Or.inl h)
      · exact h ⟨m2.1, m2.2.1, m2.2.2.1, m2.2.2.2.1, m2.2.2.2.2.1, m1.2.2.2.2.2.1, m2.2.2.2.2.2.2.1, m1.2.2.2.2.2.2.2⟩
    have hck : (checkN (swapTill (x :: y :: r))).2 = 0 := by
      unfold checkN swapTill
      rw [if_neg (by simp only [List.length_cons] at hl ⊢; omega)]
      unfold checkFrom
      rw [if_neg d1]
      unfold checkFrom
      rw [if_neg d2]
      exact hc
    unfold judgeN
    rw [if_pos hck]
    unfold swapTill judgeFrom
    rw [if_neg (by show ¬ (y.till ≤ max x.frm (-1)); omega), playN_till, if_pos j2]
    unfold judgeFrom
    rw [if_pos (by show x.till ≤ max y.frm y.till; omega)]
    rfl
end Go.Proofs.YtcgpmnlondnbhaaDoor.Sp
