/-
  The document's Name and may.
-/
import Derived.Test.YtnkcdeophjhblaaDoorWorld
namespace Go.Proofs.YtnkcdeophjhblaaDoor
open Go.RowKit Txt

theorem nameB_dot {s : ByteArray} (h : (s.toList == [46]) = true) : nameB s = false := by
  unfold nameB nameL
  rw [← Lib.toList_data, h]
  simp
theorem nameB_dots {s : ByteArray} (h : (s.toList == [46, 46]) = true) : nameB s = false := by
  unfold nameB nameL
  rw [← Lib.toList_data, h]
  simp
theorem nameB_short {s : ByteArray} (h : s.size < 1) : nameB s = false := by
  unfold nameB nameL
  rw [Lib.size_eq] at h
  rw [decide_eq_false (by omega)]
  simp
theorem nameB_long {s : ByteArray} (h : 13 < s.size) : nameB s = false := by
  unfold nameB nameL
  rw [Lib.size_eq] at h
  rw [decide_eq_false (p := s.data.toList.length ≤ 13) (by omega)]
  simp
theorem nameB_slash {s : ByteArray} (h : s.data.toList.contains 47 = true) : nameB s = false := by
  unfold nameB nameL
  rw [h]
  simp
theorem nameB_zero {s : ByteArray} (h : s.data.toList.contains 0 = true) : nameB s = false := by
  unfold nameB nameL
  rw [h]
  simp
theorem nameB_good {s : ByteArray} (h1 : 1 ≤ s.size) (h2 : s.size ≤ 13) (h3 : (s.toList == [46]) = false) (h4 : (s.toList == [46, 46]) = false) (h5 : s.data.toList.contains 47 = false) (h6 : s.data.toList.contains 0 = false) : nameB s = true := by
  unfold nameB nameL
  rw [Lib.toList_data] at h3 h4
  rw [h3, h4, h5, h6]
  rw [Lib.size_eq] at h1 h2
  rw [decide_eq_true h1, decide_eq_true h2]
  rfl

theorem contains_snoc (l : List UInt8) (k : Nat) (x y : UInt8) (h : l[k]? = some x) : (l.take (k + 1)).contains y = ((l.take k).contains y || decide (y = x)) := by
  rw [take_snoc l k x h]
  simp [List.contains_eq_mem, Bool.decide_or]
theorem contains_of_at {l : List UInt8} {k : Nat} {x : UInt8} (h : l[k]? = some x) : l.contains x = true := by
  rw [List.contains_eq_mem, decide_eq_true_iff]
  exact List.mem_of_getElem? h

set_option maxHeartbeats 400000 in
theorem refName_any (s : ByteArray) (w : World) (hs : s.size ≤ maxLen) :
    Calls Tryd.prog 31 #[.string s] w fun e w' => e = .returned (.bool (nameB s)) ∧ w = w' := by
  unfold maxLen at hs
  by_cases h1 : s.size < 1
  · have H := Lib.hid (nameB_short h1)
    go_enter Tryd.func31, Tryd.ntmps31
    go_wp2
    go_ret
    exact ⟨ret_bool H.out.symm, rfl⟩
  by_cases h2 : 13 < s.size
  · have H := Lib.hid (nameB_long h2)
    go_enter Tryd.func31, Tryd.ntmps31
    go_wp2
    go_ret
    exact ⟨ret_bool H.out.symm, rfl⟩
  cases h3 : (s.toList == [46]) with
  | true =>
    have H := Lib.hid (nameB_dot h3)
    go_enter Tryd.func31, Tryd.ntmps31
    go_wp2
    go_ret
    exact ⟨ret_bool H.out.symm, rfl⟩
  | false =>
  cases h4 : (s.toList == [46, 46]) with
  | true =>
    have H := Lib.hid (nameB_dots h4)
    go_enter Tryd.func31, Tryd.ntmps31
    go_wp2
    go_ret
    exact ⟨ret_bool H.out.symm, rfl⟩
  | false =>
  go_enter Tryd.func31, Tryd.ntmps31
  go_wp2
  go_loop [3] (fun i => ∃ k : Nat, k ≤ s.size ∧ i = .int .i64 k ∧ (s.data.toList.take k).contains 47 = false ∧ (s.data.toList.take k).contains 0 = false) (fun i => s.size - (intOf i).toNat)
  case atStart => exact ⟨0, Nat.zero_le _, rfl, rfl, rfl⟩
  case round =>
    obtain ⟨k, hk, rfl, ha, hb⟩ := hrel
    have HA := Lib.hid ha
    have HB := Lib.hid hb
    clear ha hb
    by_cases hlt : k < s.size
    · have HX := Lib.hid (at_data s k hlt)
      have e0 := u8_eq (s[k]'hlt) 0 (by decide)
      have e47 := u8_eq (s[k]'hlt) 47 (by decide)
      by_cases c0 : (s[k]'hlt) = 0
      · have H := Lib.hid (nameB_zero (s := s) (by have := contains_of_at HX.out; rw [c0] at this; exact this))
        have e0' : (((s[k]'hlt).toNat : Int) == 0) = true := by rw [c0]; rfl
        clear e0 e47 c0
        go_wp2
        go_ret
        exact ⟨ret_bool H.out.symm, rfl⟩
      by_cases c47 : (s[k]'hlt) = 47
      · have H := Lib.hid (nameB_slash (s := s) (by have := contains_of_at HX.out; rw [c47] at this; exact this))
        have e0' : (((s[k]'hlt).toNat : Int) == 0) = false := by rw [c47]; rfl
        have e47' : (((s[k]'hlt).toNat : Int) == 47) = true := by rw [c47]; rfl
        clear e0 e47 c0 c47
        go_wp2
        go_ret
        exact ⟨ret_bool H.out.symm, rfl⟩
      · have e0' : (((s[k]'hlt).toNat : Int) == 0) = false := e0.trans (decide_eq_false c0)
        have e47' : (((s[k]'hlt).toNat : Int) == 47) = false := e47.trans (decide_eq_false c47)
        have C0 := Lib.hid c0
        have C47 := Lib.hid c47
        clear e0 e47 c0 c47
        go_wp2
        go_round
        case rel => exact ⟨k + 1, by omega, by go_num, by rw [contains_snoc _ _ _ _ HX.out, HA.out]; simp [Ne.symm C47.out], by rw [contains_snoc _ _ _ _ HX.out, HB.out]; simp [Ne.symm C0.out]⟩
        case measure => simp [intOf]; omega
    · have he : s.data.toList.take k = s.data.toList := List.take_of_length_le (by rw [← Lib.size_eq]; omega)
      have H := Lib.hid (nameB_good (s := s) (by omega) (by omega) h3 h4 (by have := HA.out; rw [he] at this; exact this) (by have := HB.out; rw [he] at this; exact this))
      clear he
      go_wp2
      go_ret
      exact ⟨ret_bool H.out.symm, rfl⟩

set_option maxHeartbeats 400000 in
theorem refMay_any (v : Value) (l : List ByteArray) (w : World) (ht : Texts w v l) (hz : ∀ s ∈ l, s.size ≤ maxLen) :
    Calls Tryd.prog 25 #[v] w fun e w' => e = .returned (.int .i64 (mayC l)) ∧ w = w' := by
  obtain ⟨ad, cap, rfl, h1, h2, h3⟩ := ht
  obtain ⟨n, hn⟩ : ∃ n, n = l.length := ⟨_, rfl⟩
  have hmax : n ≤ 9223372036854775807 := by unfold maxLen at h2; omega
  have HN : Hid (n = l.length) := hn
  have H3 : Hid (0 < l.length → ∃ b off, ad = some ⟨b, off, Option.none⟩ ∧ b < w.heap.size ∧ ∀ j x, l[j]? = some x → w.cell? ⟨b, off + j, Option.none⟩ = some (.string x)) := h3
  have HZ : Hid (∀ s ∈ l, s.size ≤ maxLen) := hz
  rw [← hn]
  clear hn h1 h2 h3 hz
  go_enter Tryd.func25, Tryd.ntmps25
  go_wp2
  go_loop [3] (fun i => ∃ k : Nat, k ≤ n ∧ i = .int .i64 k ∧ (l.take k).all nameB = true) (fun i => n - (intOf i).toNat)
  case atStart => exact ⟨0, Nat.zero_le _, rfl, rfl⟩
  case round =>
    obtain ⟨k, hk, rfl, hall⟩ := hrel
    have HA : Hid ((l.take k).all nameB = true) := hall
    clear hall
    by_cases hlt : k < n
    · obtain ⟨b, off, rfl, hb, hc⟩ := H3.out (by have := HN.out; omega)
      obtain ⟨s, hs⟩ : ∃ s, l[k]? = some s := ⟨l[k]'(by have := HN.out; omega), by simp⟩
      have hcell := hc k s hs
      have hsz : s.size ≤ maxLen := HZ.out s (List.mem_of_getElem? hs)
      have HS : Hid (l[k]? = some s) := hs
      clear hc hs H3
      cases hb : nameB s with
      | true =>
        have HB : Hid (nameB s = true) := hb
        go_wp2_with (go_at_call 31; refine (refName_any _ _ hsz).mono ?_; rintro e w' ⟨rfl, rfl⟩; rw [hb])
        go_round
        case rel => exact ⟨k + 1, by omega, by go_num, by rw [take_snoc l k s HS.out, List.all_append, HA.out]; simp [HB.out]⟩
        case measure => simp [intOf]; omega
      | false =>
        have HB : Hid (nameB s = false) := hb
        go_wp2_with (go_at_call 31; refine (refName_any _ _ hsz).mono ?_; rintro e w' ⟨rfl, rfl⟩; rw [hb])
        go_ret
        refine ⟨ret_int ?_, rfl⟩
        unfold mayC
        rw [if_neg]
        intro h
        have := List.all_eq_true.1 h s (List.mem_of_getElem? HS.out)
        rw [HB.out] at this
        cases this
    · have he : k = l.length := by have := HN.out; omega
      have ha : l.all nameB = true := by have := HA.out; rw [he, List.take_length] at this; exact this
      by_cases h8 : 8 < n
      · go_wp2
        go_ret
        refine ⟨ret_int ?_, rfl⟩
        unfold mayC
        rw [if_pos ha, if_pos (by have := HN.out; omega)]
      · go_wp2
        go_ret
        refine ⟨ret_int ?_, rfl⟩
        unfold mayC
        rw [if_pos ha, if_neg (by have := HN.out; omega)]
end Go.Proofs.YtnkcdeophjhblaaDoor
