/-
  A log that a tree itself makes. No walk in this text.
-/
import Derived.Test.YtcgpmnlondnbhaaDoorSpJudge
namespace Go.Proofs.YtcgpmnlondnbhaaDoor.Sp
open Go Txt

/-- The log of operations that a tree answers, from the place i on. -/
def logFrom : Nat → Tree → List Op → List Did
  | _, _, [] => []
  | i, t, o :: r => ⟨((i % 2 : Nat) : Int), (i : Int) + 1, (i : Int) + 1, (i : Int) + 2, o, (t.step o).2⟩ :: logFrom (i + 1) (t.step o).1 r
/-- One answer's code turned. -/
def turnAt : List Did → Nat → Int → List Did
  | [], _, _ => []
  | x :: r, 0, c => { x with a := { x.a with code := c } } :: r
  | x :: r, k + 1, c => x :: turnAt r k c

theorem logFrom_length : ∀ (l : List Op) (i : Nat) (t : Tree), (logFrom i t l).length = l.length
  | [], _, _ => rfl
  | o :: r, i, t => by
    unfold logFrom
    rw [List.length_cons, logFrom_length r, List.length_cons]
theorem turnAt_length : ∀ (l : List Did) (k : Nat) (c : Int), (turnAt l k c).length = l.length
  | [], _, _ => rfl
  | x :: r, 0, c => rfl
  | x :: r, k + 1, c => by
    unfold turnAt
    rw [List.length_cons, turnAt_length r, List.length_cons]
theorem logFrom_snoc : ∀ (l : List Op) (i : Nat) (t : Tree) (o : Op), logFrom i t (l ++ [o]) = logFrom i t l ++ [⟨(((i + l.length) % 2 : Nat) : Int), ((i + l.length : Nat) : Int) + 1, ((i + l.length : Nat) : Int) + 1, ((i + l.length : Nat) : Int) + 2, o, ((t.steps l).step o).2⟩]
  | [], i, t, o => rfl
  | p :: r, i, t, o => by
    rw [List.cons_append]
    unfold logFrom
    rw [logFrom_snoc r (i + 1) (t.step p).1 o, List.length_cons, List.cons_append, show i + 1 + r.length = i + (r.length + 1) by omega]
    rfl

theorem check_log : ∀ (l : List Op) (i : Nat) (t : Tree) (seen : List (Int × Int)), i + l.length ≤ 1000 → (∀ k ∈ seen, k.2 ≤ i) → checkFrom i seen (logFrom i t l) = (0, 0)
  | [], _, _, _, _, _ => rfl
  | o :: r, i, t, seen, hl, hs => by
    rw [List.length_cons] at hl
    unfold logFrom checkFrom
    rw [if_neg]
    · refine check_log r (i + 1) _ _ (by omega) (fun k hk => ?_)
      rcases List.mem_append.1 hk with h | h
      · have := hs k h
        show k.2 ≤ ((i + 1 : Nat) : Int)
        omega
      · rw [List.mem_singleton.1 h]
        show (i : Int) + 1 ≤ ((i + 1 : Nat) : Int)
        omega
    · rintro (h | h)
      · have := hs _ h
        have h2 : (i : Int) + 1 ≤ i := this
        omega
      · refine h ⟨?_, ?_, ?_, ?_, ?_, ?_, ?_, ?_⟩
        · show (0 : Int) ≤ ((i % 2 : Nat) : Int); omega
        · show ((i % 2 : Nat) : Int) < 2; omega
        · show (1 : Int) ≤ (i : Int) + 1; omega
        · show (i : Int) + 1 ≤ 1024; omega
        · show (1 : Int) ≤ (i : Int) + 1; omega
        · show (0 : Int) ≤ (i : Int) + 2; omega
        · show (i : Int) + 1 ≤ 1099511627776; omega
        · show (i : Int) + 2 ≤ 1099511627776; omega
theorem check_turned : ∀ (l : List Did) (i k : Nat) (c : Int) (seen : List (Int × Int)), checkFrom i seen (turnAt l k c) = checkFrom i seen l
  | [], _, _, _, _ => rfl
  | x :: r, i, 0, c, seen => rfl
  | x :: r, i, k + 1, c, seen => by
    unfold turnAt checkFrom
    rw [check_turned r]

theorem play_log {t : Tree} {x : Did} (h : x.a = (t.step x.o).2) : playN t x = ((t.step x.o).1, true) := by
  unfold playN
  rw [if_neg (fun hc => by rw [← h] at hc; have h1 := hc.1; rw [hc.2] at h1; exact absurd h1 (by decide)), decide_eq_true h]
theorem judge_log : ∀ (l : List Op) (i : Nat) (t : Tree) (last : Int), last ≤ (i : Int) + 1 → judgeFrom i t last (logFrom i t l) = (0, 0)
  | [], _, _, _, _ => rfl
  | o :: r, i, t, last, hl => by
    unfold logFrom judgeFrom
    rw [if_neg (by show ¬ ((i : Int) + 2 ≤ max ((i : Int) + 1) last); omega), play_log rfl, if_pos rfl]
    exact judge_log r (i + 1) _ _ (by show (i : Int) + 2 ≤ ((i + 1 : Nat) : Int) + 1; omega)
theorem plays_log : ∀ (l : List Op) (i : Nat) (t : Tree), plays t (logFrom i t l) = t.steps l
  | [], _, _ => rfl
  | o :: r, i, t => by
    unfold logFrom plays
    rw [List.foldl_cons, play_log rfl]
    exact plays_log r (i + 1) _
theorem judge_turned : ∀ (l : List Op) (i : Nat) (t : Tree) (last : Int) (k : Nat) (c : Int) (x : Did), last ≤ (i : Int) + 1 → (logFrom i t l)[k]? = some x → c ≠ x.a.code → c ≠ 109 → judgeFrom i t last (turnAt (logFrom i t l) k c) = (2, ((i + k : Nat) : Int))
  | [], _, _, _, _, _, _, _, hx, _, _ => by simp [logFrom] at hx
  | o :: r, i, t, last, 0, c, x, hl, hx, hc, h109 => by
    unfold logFrom at hx ⊢
    unfold turnAt judgeFrom
    have hx' := Option.some.inj hx
    subst hx'
    rw [if_neg (by show ¬ ((i : Int) + 2 ≤ max ((i : Int) + 1) last); omega), if_neg]
    · rfl
    · unfold playN
      rw [if_neg (fun h => h109 h.1), decide_eq_false]
      · simp
      · intro h
        exact hc (congrArg Ans.code h)
  | o :: r, i, t, last, k + 1, c, x, hl, hx, hc, h109 => by
    unfold logFrom at hx ⊢
    unfold turnAt judgeFrom
    rw [if_neg (by show ¬ ((i : Int) + 2 ≤ max ((i : Int) + 1) last); omega), play_log rfl, if_pos rfl]
    have := judge_turned r (i + 1) (t.step o).1 ((i : Int) + 2) k c x (by show (i : Int) + 2 ≤ ((i + 1 : Nat) : Int) + 1; omega) (by simpa using hx) hc h109
    rw [show i + 1 + k = i + (k + 1) by omega] at this
    exact this

/-- A log that a tree makes is fine. -/
theorem fine_log {l : List Op} (hl : l.length ≤ 40) : judgeN (logFrom 0 new l) = (0, 0, 0) := by
  have h1 : checkN (logFrom 0 new l) = (0, 0) := by
    unfold checkN
    rw [if_neg (by rw [logFrom_length]; omega)]
    exact check_log l 0 new [] (by omega) (fun k hk => by cases hk)
  unfold judgeN
  rw [h1, if_pos rfl, judge_log l 0 new (-1) (by decide)]
theorem fine_check {l : List Op} (hl : l.length ≤ 40) : checkN (logFrom 0 new l) = (0, 0) := by
  unfold checkN
  rw [if_neg (by rw [logFrom_length]; omega)]
  exact check_log l 0 new [] (by omega) (fun k hk => by cases hk)
theorem wrong_log {l : List Op} (hl : l.length ≤ 40) {k : Nat} {c : Int} {x : Did} (hx : (logFrom 0 new l)[k]? = some x) (hc : c ≠ x.a.code) (h109 : c ≠ 109) : judgeN (turnAt (logFrom 0 new l) k c) = (2, (k : Int), 0) := by
  have h1 : checkN (turnAt (logFrom 0 new l) k c) = (0, 0) := by
    have := fine_check hl
    unfold checkN at this ⊢
    rw [turnAt_length, check_turned]
    exact this
  unfold judgeN
  rw [h1, if_pos rfl, judge_turned l 0 new (-1) k c x (by decide) hx hc h109, Nat.zero_add]
end Go.Proofs.YtcgpmnlondnbhaaDoor.Sp
