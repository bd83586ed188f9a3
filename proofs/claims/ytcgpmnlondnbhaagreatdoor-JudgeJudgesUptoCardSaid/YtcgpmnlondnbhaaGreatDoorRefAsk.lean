/-
  The reference's walks: thing, name, links, walk, at, dir.
-/
import Derived.Test.YtcgpmnlondnbhaaGreatDoorRefRep
import Derived.Deep.QuietTactic
import Derived.BigQuiet
namespace Go.Proofs.YtcgpmnlondnbhaaGreatDoor
open Go Go.RowKit Txt Sp

theorem RefAt.drewN {base : Nat} {w : World} {D : Nat → Prop} {r : Nat} {t : Sp.Tree} {vT vN : Value} (h : RefAt base w D r t vT vN) (n : Nat) : RefAt base (w.drewN n) D r t vT vN := h.below (below_drewN (Below.refl _ _) n)

section
set_option maxHeartbeats 1000000
variable {base : Nat} {w : World} {D : Nat → Prop} {r : Nat} {t : Sp.Tree} {vT vN : Value}
theorem nat_beq (a b : Nat) : ((a : Int) == (b : Int)) = decide (a = b) := by
  rw [Bool.eq_iff_iff, beq_iff_eq, decide_eq_true_iff]; omega

/-- thing: the place of a number among things. -/
theorem rthing_any (h : RefAt base w D r t vT vN) {k i : Nat} {b : Bool} {d : ByteArray} (hk : t.things[k]? = some (i, b, d)) (hj : ∀ j y, j < k → t.things[j]? = some y → y.1 ≠ i) (hfew : t.things.length ≤ 1000000) :
    Calls Tryz.prog 43 #[ptr r, .int .i64 (i : Int)] w fun e w' => e = .returned (.int .i64 (k : Int)) ∧ w = w' := by
  have hkl := (List.getElem?_eq_some_iff.1 hk).1
  obtain ⟨g, cap, rfl, _, _⟩ := h.things.form (by omega)
  obtain ⟨c0, _, _⟩ := h.cells
  have hat := fun (j : Nat) (y : Nat × Bool × ByteArray) (hy : t.things[j]? = some y) => h.things.at' hy
  obtain ⟨n, hn⟩ : ∃ n, t.things.length = n := ⟨_, rfl⟩
  rw [hn] at c0 hkl hfew
  have HAt := Lib.hid hat
  have HK := Lib.hid hk
  have HJ := Lib.hid hj
  have HN := Lib.hid hn
  clear hat hk hj hn h
  unfold ptr
  go_enter Tryz.func43, Tryz.ntmps43
  go_wp2
  go_loop [5] (fun v => ∃ j : Nat, j ≤ k ∧ v = .int .i64 j) (fun v => k - (intOf v).toNat)
  case atStart => exact ⟨0, Nat.zero_le _, rfl⟩
  case round =>
    obtain ⟨j, hjk, rfl⟩ := hrel
    obtain ⟨y, hy⟩ : ∃ y, t.things[j]? = some y := ⟨t.things[j]'(by have := HN.out; omega), List.getElem?_eq_getElem _⟩
    obtain ⟨g0, _, _⟩ := HAt.out j y hy
    have HY := Lib.hid hy
    have hjn : j < n := by omega
    clear hy
    by_cases hlt : j < k
    · have e0 : ((y.1 : Int) == (i : Int)) = false := by rw [nat_beq]; exact decide_eq_false (HJ.out j y hlt HY.out)
      go_wp2
      go_round
      case rel => exact ⟨j + 1, by omega, by go_num⟩
      case measure => simp [intOf]; omega
    · obtain rfl : j = k := by omega
      have e0 : ((y.1 : Int) == (i : Int)) = true := by
        rw [nat_beq]
        have h1 := HK.out
        rw [HY.out] at h1
        exact decide_eq_true (congrArg (·.1) (Option.some.inj h1))
      go_wp2
      go_ret
      exact ⟨rfl, rfl⟩

/-- name: the place of a path among names. -/
theorem rname_hit (h : RefAt base w D r t vT vN) {s : ByteArray} {k : Nat} {x : List ByteArray × Nat} (hk : t.names[k]? = some x) (hs : ofL (joinL x.1) = s) (hj : ∀ j y, j < k → t.names[j]? = some y → ofL (joinL y.1) ≠ s) (hfew : t.names.length ≤ 1000000) :
    Calls Tryz.prog 60 #[ptr r, .string s] w fun e w' => e = .returned (.int .i64 (k : Int)) ∧ w = w' := by
  have hkl := (List.getElem?_eq_some_iff.1 hk).1
  obtain ⟨g, cap, rfl, _, _⟩ := h.names.form (by omega)
  obtain ⟨_, c1, _⟩ := h.cells
  have hat := fun (j : Nat) (y : List ByteArray × Nat) (hy : t.names[j]? = some y) => h.names.at' hy
  obtain ⟨n, hn⟩ : ∃ n, t.names.length = n := ⟨_, rfl⟩
  rw [hn] at c1 hkl hfew
  have HAt := Lib.hid hat
  have HK := Lib.hid hk
  have HS := Lib.hid hs
  have HJ := Lib.hid hj
  have HN := Lib.hid hn
  clear hat hk hj hn h hs
  unfold ptr
  go_enter Tryz.func60, Tryz.ntmps60
  go_wp2
  go_loop [5] (fun v => ∃ j : Nat, j ≤ k ∧ v = .int .i64 j) (fun v => k - (intOf v).toNat)
  case atStart => exact ⟨0, Nat.zero_le _, rfl⟩
  case round =>
    obtain ⟨j, hjk, rfl⟩ := hrel
    obtain ⟨y, hy⟩ : ∃ y, t.names[j]? = some y := ⟨t.names[j]'(by have := HN.out; omega), List.getElem?_eq_getElem _⟩
    obtain ⟨g0, _⟩ := HAt.out j y hy
    obtain ⟨q, hq⟩ : ∃ q, ofL (joinL y.1) = q := ⟨_, rfl⟩
    have HQ := Lib.hid hq
    rw [hq] at g0
    have HY := Lib.hid hy
    have hjn : j < n := by omega
    clear hy hq
    have q0 := text_eq q s
    by_cases hlt : j < k
    · have e0 : (q.toList == s.toList) = false := q0.trans (decide_eq_false (by rw [← HQ.out]; exact HJ.out j y hlt HY.out))
      clear q0
      go_wp2
      go_round
      case rel => exact ⟨j + 1, by omega, by go_num⟩
      case measure => simp [intOf]; omega
    · obtain rfl : j = k := by omega
      have e0 : (q.toList == s.toList) = true := q0.trans (decide_eq_true (by
        have h1 := HK.out
        rw [HY.out] at h1
        rw [← HQ.out, Option.some.inj h1, HS.out]))
      clear q0
      go_wp2
      go_ret
      exact ⟨rfl, rfl⟩
theorem rname_miss (h : RefAt base w D r t vT vN) {s : ByteArray} (hj : ∀ y ∈ t.names, ofL (joinL y.1) ≠ s) (hfew : t.names.length ≤ 1000000) :
    Calls Tryz.prog 60 #[ptr r, .string s] w fun e w' => e = .returned (.int .i64 (-1)) ∧ w = w' := by
  obtain ⟨_, c1, _⟩ := h.cells
  obtain ⟨ad, cap, rfl, _, _⟩ := row_shape h.names
  have hat : ∀ (j : Nat) (y : List ByteArray × Nat), t.names[j]? = some y → ∃ g, ad = some ⟨g, 0, none⟩ ∧ w.cell? ⟨g, j * 2, none⟩ = some (.string (ofL (joinL y.1))) := fun j y hy => by
    obtain ⟨g, cap', e, _, _⟩ := h.names.form (by have := (List.getElem?_eq_some_iff.1 hy).1; omega)
    cases e
    exact ⟨g, rfl, (h.names.at' hy).1⟩
  obtain ⟨n, hn⟩ : ∃ n, t.names.length = n := ⟨_, rfl⟩
  rw [hn] at c1 hfew
  have HAt := Lib.hid hat
  have HJ := Lib.hid hj
  have HN := Lib.hid hn
  clear hat hj hn h
  unfold ptr
  go_enter Tryz.func60, Tryz.ntmps60
  go_wp2
  go_loop [5] (fun v => ∃ j : Nat, j ≤ n ∧ v = .int .i64 j) (fun v => n - (intOf v).toNat)
  case atStart => exact ⟨0, Nat.zero_le _, rfl⟩
  case round =>
    obtain ⟨j, hjk, rfl⟩ := hrel
    by_cases hlt : j < n
    · obtain ⟨y, hy⟩ : ∃ y, t.names[j]? = some y := ⟨t.names[j]'(by have := HN.out; omega), List.getElem?_eq_getElem _⟩
      obtain ⟨g, rfl, g0⟩ := HAt.out j y hy
      obtain ⟨q, hq⟩ : ∃ q, ofL (joinL y.1) = q := ⟨_, rfl⟩
      have HQ := Lib.hid hq
      rw [hq] at g0
      have HY := Lib.hid hy
      clear hy hq HAt
      have q0 := text_eq q s
      have e0 : (q.toList == s.toList) = false := q0.trans (decide_eq_false (by rw [← HQ.out]; exact HJ.out y (List.mem_of_getElem? HY.out)))
      clear q0
      go_wp2
      go_round
      case rel => exact ⟨j + 1, by omega, by go_num⟩
      case measure => simp [intOf]; omega
    · go_wp2
      go_ret
      exact ⟨rfl, rfl⟩
/-- What is asked at a path that may be: its place, or none. -/
theorem rname_some (h : RefAt base w D r t vT vN) (hok : t.Ok) (hfew : t.names.length ≤ 1000000) {p : List ByteArray} {i : Nat} (hf : t.find p = some i) {s : ByteArray} (hs : s = ofL (joinL p)) :
    ∃ k : Nat, t.names[k]? = some (p, i) ∧ Calls Tryz.prog 60 #[ptr r, .string s] w fun e w' => e = .returned (.int .i64 (k : Int)) ∧ w = w' := by
  subst hs
  obtain ⟨k, _, hk, hj⟩ := name_ix hok ((find_mem hok).1 hf)
  exact ⟨k, hk, rname_hit h hk rfl hj hfew⟩
theorem rname_at (h : RefAt base w D r t vT vN) (hok : t.Ok) (hfew : t.names.length ≤ 1000000) {p : List ByteArray} {i k : Nat} (hk : t.names[k]? = some (p, i)) {s : ByteArray} (hs : s = ofL (joinL p)) :
    Calls Tryz.prog 60 #[ptr r, .string s] w fun e w' => e = .returned (.int .i64 (k : Int)) ∧ w = w' := by
  obtain ⟨k2, h2, hc⟩ := rname_some h hok hfew ((find_mem hok).2 (List.mem_of_getElem? hk)) hs
  obtain rfl : k = k2 := by
    obtain ⟨a1, b1⟩ := List.getElem?_eq_some_iff.1 hk
    obtain ⟨a2, b2⟩ := List.getElem?_eq_some_iff.1 h2
    rcases Nat.lt_trichotomy k k2 with hlt | e | hlt
    · exact absurd (by rw [List.getElem_map, List.getElem_map, b1, b2]) (List.pairwise_iff_getElem.1 hok.nodup k k2 (by simpa using a1) (by simpa using a2) hlt)
    · exact e
    · exact absurd (by rw [List.getElem_map, List.getElem_map, b1, b2]) (List.pairwise_iff_getElem.1 hok.nodup k2 k (by simpa using a2) (by simpa using a1) hlt)
  exact hc
theorem rname_none (h : RefAt base w D r t vT vN) (hok : t.Ok) (hfew : t.names.length ≤ 1000000) {p : List ByteArray} (hp : Sp.Good p) (hf : t.find p = none) {s : ByteArray} (hs : s = ofL (joinL p)) :
    Calls Tryz.prog 60 #[ptr r, .string s] w fun e w' => e = .returned (.int .i64 (-1)) ∧ w = w' := by
  subst hs
  exact rname_miss h (name_not hok hp hf) hfew

/-- links: how many names a thing has. -/
theorem rlinks_any (h : RefAt base w D r t vT vN) (i : Nat) (hfew : t.names.length ≤ 1000000) :
    Calls Tryz.prog 63 #[ptr r, .int .i64 (i : Int)] w fun e w' => e = .returned (.int .i64 (t.links i : Int)) ∧ w = w' := by
  obtain ⟨_, c1, _⟩ := h.cells
  obtain ⟨ad, cap, rfl, _, _⟩ := row_shape h.names
  have hat : ∀ (j : Nat) (y : List ByteArray × Nat), t.names[j]? = some y → ∃ g, ad = some ⟨g, 0, none⟩ ∧ w.cell? ⟨g, j * 2 + 1, none⟩ = some (.int .i64 (y.2 : Int)) := fun j y hy => by
    obtain ⟨g, cap', e, _, _⟩ := h.names.form (by have := (List.getElem?_eq_some_iff.1 hy).1; omega)
    cases e
    exact ⟨g, rfl, (h.names.at' hy).2⟩
  obtain ⟨n, hn⟩ : ∃ n, t.names.length = n := ⟨_, rfl⟩
  rw [hn] at c1 hfew
  have HAt := Lib.hid hat
  have HN := Lib.hid hn
  clear hat hn h
  unfold ptr
  go_enter Tryz.func63, Tryz.ntmps63
  go_wp2
  go_loop [5, 6] (fun c v => ∃ j m : Nat, j ≤ n ∧ m ≤ j ∧ v = .int .i64 j ∧ c = .int .i64 m ∧ Hid (m = (t.names.take j).countP (fun x => decide (x.2 = i)))) (fun _ v => n - (intOf v).toNat)
  case atStart => exact ⟨0, 0, Nat.zero_le _, Nat.zero_le _, rfl, rfl, rfl⟩
  case round =>
    obtain ⟨j, m, hjk, hm, rfl, rfl, HM⟩ := hrel
    by_cases hlt : j < n
    · obtain ⟨y, hy⟩ : ∃ y, t.names[j]? = some y := ⟨t.names[j]'(by have := HN.out; omega), List.getElem?_eq_getElem _⟩
      obtain ⟨g, rfl, g0⟩ := HAt.out j y hy
      have HY := Lib.hid hy
      clear hy HAt
      by_cases hi : y.2 = i
      · have e0 : ((y.2 : Int) == (i : Int)) = true := by rw [nat_beq]; exact decide_eq_true hi
        have HS : Hid (m + 1 = (t.names.take (j + 1)).countP (fun x => decide (x.2 = i))) := by
          show m + 1 = _
          rw [take_more _ _ _ HY.out, List.countP_append, ← HM.out]
          simp [hi]
        clear hi
        go_wp2
        go_round
        case rel => exact ⟨j + 1, m + 1, by omega, by omega, by go_num, by go_num, HS⟩
        case measure => simp [intOf]; omega
      · have e0 : ((y.2 : Int) == (i : Int)) = false := by rw [nat_beq]; exact decide_eq_false hi
        have HS : Hid (m = (t.names.take (j + 1)).countP (fun x => decide (x.2 = i))) := by
          show m = _
          rw [take_more _ _ _ HY.out, List.countP_append, ← HM.out]
          simp [hi]
        clear hi
        go_wp2
        go_round
        case rel => exact ⟨j + 1, m, by omega, by omega, by go_num, rfl, HS⟩
        case measure => simp [intOf]; omega
    · have HF : Hid (t.links i = m) := by
        show t.links i = m
        rw [HM.out, List.take_of_length_le (by have := HN.out; omega)]
        rfl
      go_wp2
      go_ret
      rw [HF.out]
      exact ⟨rfl, rfl⟩
end
end Go.Proofs.YtcgpmnlondnbhaaGreatDoor
