/-
  Walks of layer 12: what Add asks of numbers.
-/
import Derived.Test.YtghafpdmcbockaaGreatDoorDepsView
namespace Go.Proofs.YtghafpdmcbockaaGreatDoor
open Go Go.RowKit Txt Sp

/-- The place of the first number that is none; below 0: there is none. -/
def badNo (last : Int) : List Int → Int
  | [] => -1
  | x :: r => if x < 1 ∨ last < x then 0 else if badNo last r < 0 then -1 else badNo last r + 1
theorem badNo_first {last : Int} : ∀ (l : List Int) (k : Nat) (x : Int), (∀ t ∈ l.take k, 1 ≤ t ∧ t ≤ last) → l[k]? = some x → (x < 1 ∨ last < x) → badNo last l = (k : Int)
  | [], k, x, _, h, _ => by cases h
  | y :: r, 0, x, _, h, hx => by
    cases h
    exact if_pos hx
  | y :: r, k + 1, x, ha, h, hx => by
    have ih := badNo_first r k x (fun t ht => ha t (by rw [List.take_succ_cons]; exact List.mem_cons_of_mem _ ht)) h hx
    have hy := ha y (by rw [List.take_succ_cons]; exact List.mem_cons_self ..)
    show (if y < 1 ∨ last < y then (0 : Int) else if badNo last r < 0 then -1 else badNo last r + 1) = _
    rw [if_neg (by omega), ih, if_neg (by omega)]
    omega
theorem badNo_none {last : Int} : ∀ {l : List Int}, (∀ t ∈ l, 1 ≤ t ∧ t ≤ last) → badNo last l = -1
  | [], _ => rfl
  | y :: r, h => by
    have hy := h y (List.mem_cons_self ..)
    show (if y < 1 ∨ last < y then (0 : Int) else if badNo last r < 0 then -1 else badNo last r + 1) = _
    rw [if_neg (by omega), badNo_none (fun t ht => h t (List.mem_cons_of_mem _ ht)), if_pos (by decide)]
theorem badNo_iff {last : Int} (l : List Int) : 0 ≤ badNo last l ↔ ∃ n ∈ l, n < 1 ∨ last < n := by
  constructor
  · intro h
    apply Classical.byContradiction
    intro hn
    rw [badNo_none (fun t ht => ⟨Int.not_lt.1 fun h => hn ⟨t, ht, Or.inl h⟩, Int.not_lt.1 fun h => hn ⟨t, ht, Or.inr h⟩⟩)] at h
    exact absurd h (by decide)
  · rintro ⟨n, hn, h⟩
    induction l with
    | nil => cases hn
    | cons y r ih =>
      show 0 ≤ (if y < 1 ∨ last < y then (0 : Int) else if badNo last r < 0 then -1 else badNo last r + 1)
      by_cases hy : y < 1 ∨ last < y
      · rw [if_pos hy]; exact Int.le_refl _
      · rw [if_neg hy]
        rcases List.mem_cons.1 hn with rfl | hn
        · exact absurd h hy
        · have := ih hn
          rw [if_neg (by omega)]
          omega
section
set_option maxHeartbeats 4000000
theorem addOne_any (w : World) (x : Int) (B Bx : Nat) (last : Int) (hx : w.cell? ⟨Bx, 0, none⟩ = some (.pointer (some ⟨B, 0, none⟩))) (hl : w.cell? ⟨B, 1, none⟩ = some (.int .i64 last)) :
    Calls Tryz.prog 263 #[.int .i64 x, .pointer (some ⟨Bx, 0, none⟩)] w fun e w' => e = .returned (.bool (decide (x < 1 ∨ last < x))) ∧ w = w' := by
  by_cases h1 : x < 1
  · have q1 : decide (x < 1) = true := decide_eq_true h1
    rw [decide_eq_true (Or.inl h1)]
    clear h1
    go_enter Tryz.func263, Tryz.ntmps263
    go_wp2
    go_ret
    exact ⟨rfl, rfl⟩
  · have q1 : decide (x < 1) = false := decide_eq_false h1
    by_cases h2 : last < x
    · have q2 : decide (x > last) = true := decide_eq_true h2
      rw [decide_eq_true (Or.inr h2)]
      clear h1
      go_enter Tryz.func263, Tryz.ntmps263
      go_wp2
      go_ret
      exact ⟨rfl, rfl⟩
    · have q2 : decide (x > last) = false := decide_eq_false h2
      rw [decide_eq_false (by omega)]
      clear h1
      go_enter Tryz.func263, Tryz.ntmps263
      go_wp2
      go_ret
      exact ⟨rfl, rfl⟩
set_option maxRecDepth 20000 in
theorem addIndex_any (w : World) (v : Value) (l : List Int) (B Bx : Nat) (last : Int) (hv : Ints w v l) (hx : w.cell? ⟨Bx, 0, none⟩ = some (.pointer (some ⟨B, 0, none⟩))) (hl : w.cell? ⟨B, 1, none⟩ = some (.int .i64 last)) :
    Calls Tryz.prog 186 #[v, .func (.func 263) #[] #[.pointer (some ⟨Bx, 0, none⟩)]] w fun e w' => e = .returned (.int .i64 (badNo last l)) ∧ w = w' := by
  obtain ⟨ad, n, cap, rfl, HN, hn2, HF⟩ := RowAt.facts (f := fun n : Int => [Value.int .i64 n]) hv
  have HS := Lib.hid (fun x : Int => addOne_any w x B Bx last hx hl)
  clear hv hx hl
  go_enter Tryz.func186, Tryz.ntmps186
  go_wp2
  go_loop [8] (fun i => ∃ k : Nat, k ≤ n ∧ i = .int .i64 k ∧ Hid (∀ t ∈ l.take k, 1 ≤ t ∧ t ≤ last)) (fun i => n - (intOf i).toNat)
  case atStart => exact ⟨0, Nat.zero_le _, rfl, Lib.hid (by simp)⟩
  case round =>
    obtain ⟨k, hk, rfl, HA⟩ := hrel
    by_cases hlt : k < n
    · obtain ⟨b, o, x, rfl, hb, hxx, hc⟩ := HF.out k hlt
      have hk0 : (k : Int) < (n : Int) := by omega
      have c0 := hc 0 _ rfl
      simp only [Nat.mul_one, Nat.add_zero] at c0
      have hcall := HS.out x
      by_cases h64 : x < 1 ∨ last < x
      · have HE := Lib.hid (badNo_first l k x HA.out hxx h64)
        rw [decide_eq_true h64] at hcall
        have HC := Lib.hid hcall
        clear hxx h64 hcall hc
        go_wp2_with fail
        refine HC.out.mono ?_
        rintro e w2 ⟨rfl, rfl⟩
        go_wp2
        go_ret
        exact ⟨ret_i HE.out.symm, rfl⟩
      · have HA2 : Hid (∀ t ∈ l.take (k + 1), 1 ≤ t ∧ t ≤ last) := by
          show ∀ t ∈ l.take (k + 1), 1 ≤ t ∧ t ≤ last
          rw [take_step hxx]
          intro t ht
          rcases List.mem_append.1 ht with ht | ht
          · exact HA.out t ht
          · rw [List.mem_singleton.1 ht]; omega
        rw [decide_eq_false h64] at hcall
        have HC := Lib.hid hcall
        clear hxx h64 hcall hc
        go_wp2_with fail
        refine HC.out.mono ?_
        rintro e w2 ⟨rfl, rfl⟩
        go_wp2
        go_round
        case rel => exact ⟨k + 1, by omega, by go_num, HA2⟩
        case measure => simp [intOf]; omega
    · have htk : l.take k = l := List.take_of_length_le (by have := HN.out; omega)
      have ha := HA.out
      rw [htk] at ha
      have HE := Lib.hid (badNo_none ha)
      clear ha htk
      go_wp2
      go_ret
      exact ⟨ret_i HE.out.symm, rfl⟩
theorem addContains_any (w : World) (v : Value) (l : List Int) (B Bx : Nat) (last : Int) (hv : Ints w v l) (hx : w.cell? ⟨Bx, 0, none⟩ = some (.pointer (some ⟨B, 0, none⟩))) (hl : w.cell? ⟨B, 1, none⟩ = some (.int .i64 last)) :
    Calls Tryz.prog 187 #[v, .func (.func 263) #[] #[.pointer (some ⟨Bx, 0, none⟩)]] w fun e w' => e = .returned (.bool (decide (∃ n ∈ l, n < 1 ∨ last < n))) ∧ w = w' := by
  have hi := addIndex_any w v l B Bx last hv hx hl
  have hb : decide (∃ n ∈ l, n < 1 ∨ last < n) = decide (0 ≤ badNo last l) := decide_eq_decide.2 (badNo_iff l).symm
  rw [hb]
  obtain ⟨c, hc⟩ : ∃ c, badNo last l = c := ⟨_, rfl⟩
  rw [hc] at hi ⊢
  have HI := Lib.hid hi
  clear hi hc hv hx hl hb
  go_enter Tryz.func187, Tryz.ntmps187
  go_wp2_with fail
  refine HI.out.mono ?_
  rintro e w1 ⟨rfl, rfl⟩
  go_wp2
  go_ret
  exact ⟨rfl, rfl⟩
end
end Go.Proofs.YtghafpdmcbockaaGreatDoor
