/-
  may of names.go and of the document: what is wrong with names.
-/
import Derived.Test.YtcgpmnlondnbhaaDoorRefName
import Derived.Test.YtcgpmnlondnbhaaDoorShelf
namespace Go.Proofs.YtcgpmnlondnbhaaDoor
open Go.RowKit Txt

theorem contains_one (c : UInt8) : ∀ l : List UInt8, Lib.contains l [c] = l.contains c
  | [] => by simp [Lib.contains, Lib.index]
  | b :: r => by
    have ih := contains_one c r
    have hge := Lib.index_ge r [c]
    unfold Lib.contains at ih ⊢
    rw [Lib.index]
    by_cases hb : c = b
    · subst hb; simp [List.isPrefixOf]
    · have hp : ([c] : List UInt8).isPrefixOf (b :: r) = false := by simp [List.isPrefixOf, hb]
      rw [hp, List.contains_cons, ← ih, beq_eq_false_iff_ne.2 hb, Bool.false_or, decide_eq_decide]
      simp only [Bool.false_eq_true, if_false]
      split
      · rename_i h
        rw [beq_iff_eq.1 h]
      · rename_i h
        have : Lib.index r [c] ≠ -1 := fun e => h (beq_iff_eq.2 e)
        omega

/-- strings.Contains at one byte. -/
theorem containsByte_any (s : ByteArray) (c : UInt8) (b : Bool) (h : s.data.toList.contains c = b) (w : World) (hm : MaxOk w) (hs : s.size ≤ 13) :
    Calls Tryd.prog 88 #[.string s, .string ⟨#[c]⟩] w fun e w' => e = .returned (.bool b) ∧ w = w' := by
  obtain ⟨m, hm⟩ := hm
  refine (Tryd.strings_Contains s ⟨#[c]⟩ m w (by omega) hm).mono ?_
  rintro e w' ⟨rfl, rfl⟩
  exact ⟨ret_bool ((contains_one c _).trans h), rfl⟩

set_option maxHeartbeats 400000 in
theorem name_any (s : ByteArray) (w : World) (hm : MaxOk w) (hs : s.size ≤ maxLen) :
    Calls Tryd.prog 82 #[.string s] w fun e w' => e = .returned (.bool (nameB s)) ∧ w = w' := by
  unfold maxLen at hs
  by_cases h1 : s.size < 1
  · have H := Lib.hid (nameB_short h1)
    have h0 : s.toList.isEmpty = true := by
      rw [Lib.toList_data, List.isEmpty_iff]
      exact List.length_eq_zero_iff.1 (by rw [← Lib.size_eq]; omega)
    go_enter Tryd.func82, Tryd.ntmps82
    go_wp2
    go_ret
    exact ⟨ret_bool H.out.symm, rfl⟩
  have h0 : s.toList.isEmpty = false := by
    rw [Lib.toList_data, List.isEmpty_eq_false_iff]
    intro e
    rw [Lib.size_eq, e] at h1
    exact h1 (by simp)
  by_cases h2 : 13 < s.size
  · have H := Lib.hid (nameB_long h2)
    go_enter Tryd.func82, Tryd.ntmps82
    go_wp2
    go_ret
    exact ⟨ret_bool H.out.symm, rfl⟩
  have h2' : s.size ≤ 13 := by omega
  cases h3 : (s.toList == [46]) with
  | true =>
    have H := Lib.hid (nameB_dot h3)
    go_enter Tryd.func82, Tryd.ntmps82
    go_wp2
    go_ret
    exact ⟨ret_bool H.out.symm, rfl⟩
  | false =>
  cases h4 : (s.toList == [46, 46]) with
  | true =>
    have H := Lib.hid (nameB_dots h4)
    go_enter Tryd.func82, Tryd.ntmps82
    go_wp2
    go_ret
    exact ⟨ret_bool H.out.symm, rfl⟩
  | false =>
  cases h5 : s.data.toList.contains 47 with
  | true =>
    have H := Lib.hid (nameB_slash h5)
    have H5 := Lib.hid h5
    clear h5
    go_enter Tryd.func82, Tryd.ntmps82
    go_wp2_with (go_at_call 88; refine (containsByte_any _ 47 true H5.out _ hm h2').mono ?_; rintro e w' ⟨rfl, rfl⟩)
    go_ret
    exact ⟨ret_bool H.out.symm, rfl⟩
  | false =>
  cases h6 : s.data.toList.contains 0 with
  | true =>
    have H := Lib.hid (nameB_zero h6)
    have H5 := Lib.hid h5
    have H6 := Lib.hid h6
    clear h5 h6
    go_enter Tryd.func82, Tryd.ntmps82
    go_wp2_with fail
    refine (containsByte_any _ 47 false H5.out _ hm h2').mono ?_
    rintro e w' ⟨rfl, rfl⟩
    go_wp2_with fail
    refine (containsByte_any _ 0 true H6.out _ hm h2').mono ?_
    rintro e w' ⟨rfl, rfl⟩
    go_wp2
    go_ret
    exact ⟨ret_bool H.out.symm, rfl⟩
  | false =>
    have H := Lib.hid (nameB_good (s := s) (by omega) h2' h3 h4 h5 h6)
    have H5 := Lib.hid h5
    have H6 := Lib.hid h6
    clear h5 h6
    go_enter Tryd.func82, Tryd.ntmps82
    go_wp2_with fail
    refine (containsByte_any _ 47 false H5.out _ hm h2').mono ?_
    rintro e w' ⟨rfl, rfl⟩
    go_wp2_with fail
    refine (containsByte_any _ 0 false H6.out _ hm h2').mono ?_
    rintro e w' ⟨rfl, rfl⟩
    go_wp2
    go_ret
    exact ⟨ret_bool H.out.symm, rfl⟩

set_option maxHeartbeats 400000 in
theorem may_any (v : Value) (l : List ByteArray) (w : World) (ht : Texts w v l) (hz : ∀ s ∈ l, s.size ≤ maxLen) (hm : MaxOk w) :
    Calls Tryd.prog 71 #[v] w fun e w' => e = .returned (.int .i64 (mayC l)) ∧ w = w' := by
  obtain ⟨ad, cap, rfl, h1, h2, h3⟩ := ht
  obtain ⟨n, hn⟩ : ∃ n, n = l.length := ⟨_, rfl⟩
  have hmax : n ≤ 9223372036854775807 := by unfold maxLen at h2; omega
  have HN : Hid (n = l.length) := hn
  have H3 : Hid (0 < l.length → ∃ b off, ad = some ⟨b, off, Option.none⟩ ∧ b < w.heap.size ∧ ∀ j x, l[j]? = some x → w.cell? ⟨b, off + j, Option.none⟩ = some (.string x)) := h3
  have HZ : Hid (∀ s ∈ l, s.size ≤ maxLen) := hz
  rw [← hn]
  clear hn h1 h2 h3 hz
  go_enter Tryd.func71, Tryd.ntmps71
  go_wp2
  go_loop [7] (fun i => ∃ k : Nat, k ≤ n ∧ i = .int .i64 k ∧ (l.take k).all nameB = true) (fun i => n - (intOf i).toNat)
  case atStart => exact ⟨0, Nat.zero_le _, rfl, rfl⟩
  case round =>
    obtain ⟨k, hk, rfl, hall⟩ := hrel
    have HA : Hid ((l.take k).all nameB = true) := hall
    clear hall
    by_cases hlt : k < n
    · obtain ⟨b, off, rfl, hb, hc⟩ := H3.out (by have := HN.out; omega)
      obtain ⟨s, hs⟩ : ∃ s, l[k]? = some s := ⟨l[k]'(by have := HN.out; omega), by simp⟩
      have hcell := hc k s hs
      have hsz : s.size ≤ maxLen := HZ.out s (List.mem_of_getElem? hs)
      have HS : Hid (l[k]? = some s) := hs
      clear hc hs H3
      cases hb : nameB s with
      | true =>
        have HB : Hid (nameB s = true) := hb
        go_wp2_with (go_at_call 82; refine (name_any _ _ hm hsz).mono ?_; rintro e w' ⟨rfl, rfl⟩; rw [hb])
        go_round
        case rel => exact ⟨k + 1, by omega, by go_num, by rw [take_snoc l k s HS.out, List.all_append, HA.out]; simp [HB.out]⟩
        case measure => simp [intOf]; omega
      | false =>
        have HB : Hid (nameB s = false) := hb
        go_wp2_with (go_at_call 82; refine (name_any _ _ hm hsz).mono ?_; rintro e w' ⟨rfl, rfl⟩; rw [hb])
        go_ret
        refine ⟨ret_int ?_, rfl⟩
        unfold mayC
        rw [if_neg]
        intro h
        have := List.all_eq_true.1 h s (List.mem_of_getElem? HS.out)
        rw [HB.out] at this
        cases this
    · have he : k = l.length := by have := HN.out; omega
      have ha : l.all nameB = true := by have := HA.out; rw [he, List.take_length] at this; exact this
      by_cases h8 : 8 < n
      · go_wp2
        go_ret
        refine ⟨ret_int ?_, rfl⟩
        unfold mayC
        rw [if_pos ha, if_pos (by have := HN.out; omega)]
      · go_wp2
        go_ret
        refine ⟨ret_int ?_, rfl⟩
        unfold mayC
        rw [if_pos ha, if_neg (by have := HN.out; omega)]
end Go.Proofs.YtcgpmnlondnbhaaDoor
