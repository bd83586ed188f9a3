/-
  A log with an answer more that there was no room. No walk in this text.
-/
import Derived.Test.YtcgpmnlondnbhaaDoorSpFine
namespace Go.Proofs.YtcgpmnlondnbhaaDoor.Sp
open Go Txt

theorem split_code (p : ByteArray) : (splitN p).2 ≠ 109 := by
  rcases splitN_cases p with ⟨l, h⟩ | h | h <;> rw [h] <;> simp
theorem last_code (p : ByteArray) : (lastN p).2.2 ≠ 109 := by
  unfold lastN
  split
  · split <;> simp
  · exact split_code p
theorem walk_not (t : Tree) : ∀ (l pre : List ByteArray) (i : Nat), (t.walk pre l i).2 ≠ 109
  | [], _, _ => by unfold Tree.walk; simp
  | s :: r, pre, i => by
    unfold Tree.walk
    split
    · split
      · simp
      · exact walk_not t r _ _
    · simp
theorem at_code (t : Tree) (p : ByteArray) : (t.at p).2 ≠ 109 := by
  unfold Tree.at
  split
  · exact walk_not t _ _ _
  · exact split_code p
theorem dir_code (t : Tree) (p : ByteArray) : t.dirC p ≠ 109 := by
  unfold Tree.dirC
  split
  · split
    · split <;> simp
    · exact walk_not t _ _ _
  · exact last_code p
theorem file_code (t : Tree) (p : ByteArray) : (t.file p).2 ≠ 109 := by
  unfold Tree.file
  split
  · split <;> simp
  · exact at_code t p
theorem make_code (t : Tree) (p : ByteArray) (d : Bool) : (t.make p d).2 ≠ 109 := by
  unfold Tree.make
  split
  · split <;> simp
  · exact dir_code t p
theorem link_code (t : Tree) (p q : ByteArray) : (t.link p q).2 ≠ 109 := by
  unfold Tree.link
  split
  · split
    · simp
    · split
      · split
        · simp
        · split <;> simp
      · exact dir_code t q
  · exact at_code t p
theorem remove_code (t : Tree) (p : ByteArray) (d : Bool) : (t.remove p d).2 ≠ 109 := by
  unfold Tree.remove
  split
  · split
    · simp
    · split
      · simp
      · split
        · simp
        · split <;> simp
  · exact dir_code t p
theorem rename_code (t : Tree) (p q : ByteArray) : (t.rename p q).2 ≠ 109 := by
  unfold Tree.rename
  split
  · split
    · simp
    · split
      · split
        · simp
        · split
          · split
            · simp
            · split
              · simp
              · split
                · simp
                · split
                  · simp
                  · split <;> simp
          · exact dir_code t q
      · exact last_code q
  · exact dir_code t p
theorem bytes_code (t : Tree) (o : Op) : (t.bytes o).2.2 ≠ 109 := by
  unfold Tree.bytes
  split
  · split
    · split <;> simp
    · split
      · split
        · simp
        · split
          · simp
          · split <;> simp
      · split
        · simp
        · split <;> simp
  · exact file_code t _
theorem tell_code (t : Tree) (o : Op) : (t.tell o).code ≠ 109 := by
  unfold Tree.tell
  split
  · split
    · split <;> simp
    · split
      · split
        · simp
        · simp
      · simp
  · exact at_code t _
theorem step_code (t : Tree) (o : Op) : (t.step o).2.code ≠ 109 := by
  unfold Tree.step
  split
  · exact make_code t _ _
  split
  · exact make_code t _ _
  split
  · exact link_code t _ _
  split
  · exact remove_code t _ _
  split
  · exact remove_code t _ _
  split
  · exact rename_code t _ _
  split
  · exact bytes_code t o
  split
  · exact tell_code t o
  · simp

theorem check_more : ∀ (l : List Op) (i : Nat) (t : Tree) (seen : List (Int × Int)) (x : Did), i + l.length ≤ 800 → (∀ k ∈ seen, k.2 ≤ i) → x.task = 900 → x.may → checkFrom i seen (logFrom i t l ++ [x]) = (0, 0)
  | [], i, t, seen, x, hl, hs, hx, hm => by
    show checkFrom i seen [x] = (0, 0)
    unfold checkFrom
    rw [if_neg]
    · rfl
    · rintro (h | h)
      · have h1 := hs _ h
        have h2 : x.task ≤ i := h1
        rw [List.length_nil] at hl
        omega
      · exact h hm
  | o :: r, i, t, seen, x, hl, hs, hx, hm => by
    rw [List.length_cons] at hl
    unfold logFrom
    rw [List.cons_append]
    unfold checkFrom
    rw [if_neg]
    · refine check_more r (i + 1) _ _ x (by omega) (fun k hk => ?_) hx hm
      rcases List.mem_append.1 hk with h | h
      · have := hs k h
        show k.2 ≤ ((i + 1 : Nat) : Int)
        omega
      · rw [List.mem_singleton.1 h]
        show (i : Int) + 1 ≤ ((i + 1 : Nat) : Int)
        omega
    · rintro (h | h)
      · have h2 : (i : Int) + 1 ≤ i := hs _ h
        omega
      · refine h ⟨?_, ?_, ?_, ?_, ?_, ?_, ?_, ?_⟩
        · show (0 : Int) ≤ ((i % 2 : Nat) : Int); omega
        · show ((i % 2 : Nat) : Int) < 2; omega
        · show (1 : Int) ≤ (i : Int) + 1; omega
        · show (i : Int) + 1 ≤ 1024; omega
        · show (1 : Int) ≤ (i : Int) + 1; omega
        · show (0 : Int) ≤ (i : Int) + 2; omega
        · show (i : Int) + 1 ≤ 1099511627776; omega
        · show (i : Int) + 2 ≤ 1099511627776; omega
theorem judge_more : ∀ (l : List Op) (i : Nat) (t : Tree) (last : Int) (x : Did), last ≤ (i : Int) + 1 → (i : Int) + l.length + 1 < x.till → x.frm < x.till → judgeFrom i t last (logFrom i t l ++ [x]) = if (playN (t.steps l) x).2 = true then (0, 0) else (2, ((i + l.length : Nat) : Int))
  | [], i, t, last, x, hl, hx, hf => by
    show judgeFrom i t last [x] = _
    unfold judgeFrom
    rw [List.length_nil] at hx ⊢
    rw [if_neg (by omega)]
    rfl
  | o :: r, i, t, last, x, hl, hx, hf => by
    rw [List.length_cons] at hx ⊢
    unfold logFrom
    rw [List.cons_append]
    conv => lhs; unfold judgeFrom
    rw [if_neg (by show ¬ ((i : Int) + 2 ≤ max ((i : Int) + 1) last); omega), play_log rfl, if_pos rfl]
    have := judge_more r (i + 1) (t.step o).1 ((i : Int) + 2) x (by show (i : Int) + 2 ≤ ((i + 1 : Nat) : Int) + 1; omega) (by omega) hf
    rw [show i + 1 + r.length = i + (r.length + 1) by omega] at this
    exact this
theorem plays_more (l : List Op) (x : Did) : plays new (logFrom 0 new l ++ [x]) = (playN (new.steps l) x).1 := by
  unfold plays
  rw [List.foldl_append]
  have := plays_log l 0 new
  unfold plays at this
  rw [this]
  rfl

def fullD (n : Nat) (o : Op) : Did := ⟨1, 900, (n : Int) + 1, (n : Int) + 9, o, { code := 109 }⟩
theorem full_play (t : Tree) (n : Nat) (o : Op) : playN t (fullD n o) = if (t.step o).2.code = 0 then (t, true) else ((t.step o).1, false) := by
  unfold playN
  by_cases h : (t.step o).2.code = 0
  · rw [if_pos ⟨rfl, h⟩, if_pos h]
    rw [decide_eq_true (show (fullD n o).a = { code := 109 } from rfl)]
  · rw [if_neg (fun hc => h hc.2), if_neg h]
    rw [decide_eq_false (show ¬ (fullD n o).a = (t.step (fullD n o).o).2 from fun hc => step_code t o (congrArg Ans.code hc).symm)]
    rfl
theorem full_check {l : List Op} (hl : l.length < 40) (o : Op) : checkN (logFrom 0 new l ++ [fullD l.length o]) = (0, 0) := by
  unfold checkN
  rw [if_neg (by rw [List.length_append, logFrom_length, List.length_singleton]; omega)]
  refine check_more l 0 new [] _ (by omega) (fun k hk => by cases hk) rfl ⟨?_, ?_, ?_, ?_, ?_, ?_, ?_, ?_⟩
  · show (0 : Int) ≤ 1; omega
  · show (1 : Int) < 2; omega
  · show (1 : Int) ≤ 900; omega
  · show (900 : Int) ≤ 1024; omega
  · show (1 : Int) ≤ (l.length : Int) + 1; omega
  · show (0 : Int) ≤ (l.length : Int) + 9; omega
  · show (l.length : Int) + 1 ≤ 1099511627776; omega
  · show (l.length : Int) + 9 ≤ 1099511627776; omega
theorem full_judge {l : List Op} (hl : l.length < 40) (o : Op) : judgeN (logFrom 0 new l ++ [fullD l.length o]) = if ((new.steps l).step o).2.code = 0 then (0, 0, 0) else (2, (l.length : Int), 0) := by
  unfold judgeN
  rw [full_check hl o, if_pos rfl, judge_more l 0 new (-1) _ (by decide) (by show ((0 : Nat) : Int) + l.length + 1 < (l.length : Int) + 9; omega) (by show (l.length : Int) + 1 < (l.length : Int) + 9; omega), full_play, Nat.zero_add]
  by_cases h : ((new.steps l).step o).2.code = 0
  · rw [if_pos h, if_pos h, if_pos rfl]
  · rw [if_neg h, if_neg h, if_neg (by simp)]
theorem full_plays (l : List Op) (o : Op) (h : ((new.steps l).step o).2.code = 0) : plays new (logFrom 0 new l ++ [fullD l.length o]) = new.steps l := by
  rw [plays_more, full_play, if_pos h]
end Go.Proofs.YtcgpmnlondnbhaaDoor.Sp
