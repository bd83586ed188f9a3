/-
  The walk of the law NamesBack.
-/
import Derived.Test.YtnkcdeophjhblaaDoorLaws9b
import Derived.ArgAppend
namespace Go.Proofs.YtnkcdeophjhblaaDoor
open Go.RowKit Txt

/-- The cells of a slice that holds texts. -/
theorem Texts.olds {w : World} {ad : Option Addr} {n c : Nat} {r : List ByteArray} (h : Texts w (.slice ad n c) r) : n = r.length ∧ (ad = none → n = 0) ∧
    ∀ b, ad = some b → ∀ j u, (r.map Value.string)[j]? = some u → w.cell? (b.add j) = some u := by
  obtain ⟨ad', cap, e, h1, h2, h3⟩ := h
  cases e
  refine ⟨rfl, fun h0 => ?_, fun b hb => ?_⟩
  · subst h0
    cases r with
    | nil => rfl
    | cons x t => obtain ⟨_, _, e, _⟩ := h3 (by simp); cases e
  · subst hb
    cases r with
    | nil => intro j u hu; simp at hu
    | cons x t =>
      obtain ⟨b, off, e, _, hc⟩ := h3 (by simp)
      cases e
      exact texts_cells hc

theorem split_size {l : List ByteArray} (h : mayC l = 0) : (joinB l).size ≤ 200 := by
  have h2 := mayC_zero.1 h
  have h3 := joinL_length (l := l) (fun s hs => (nameB_size (h2.1 s hs)).2)
  unfold joinB
  split
  · rw [Lib.size_eq, ofL_data]; decide
  · rw [Lib.size_eq, ofL_data]; omega

section
set_option maxHeartbeats 400000
theorem namesBack_err_ok (p : ByteArray) (v : Value) (l : List ByteArray) (w : World) (hm : MaxOk w) (hs : p.size ≤ 4000000000) (HT : Hid (Texts w v l)) (HZ : Hid (∀ s ∈ l, s.size ≤ maxLen))
    {c : Int} (HA : Hid (splitN p = ([], c))) (hc : (c == 0) = false)
    {s : ByteArray} (HJ2 : Hid (joinN l = (s, 0))) (HS2 : Hid (splitN s = (l, 0))) (hss : s.size ≤ 200) :
    Calls Tryd.prog 8 #[.string p, v] w fun e w' => e = .returned (.bool true) ∧ Below w.heap.size w w' := by
  go_enter Tryd.func8, Tryd.ntmps8
  go_wp2_with fail
  refine (works_any _ hm).mono ?_
  rintro e w0 ⟨rfl, B0⟩
  go_wp2_with fail
  refine (split_err HA _ (hm.below B0) hs).mono ?_
  rintro e w1 ⟨u, rfl, hu, b1⟩
  have B1 := below_next B0 b1
  clear B0 b1 hu
  go_wp2_with fail
  refine (join_pair HJ2 _ ((HT.out).below B1) HZ.out (hm.below B1)).mono ?_
  rintro e x1 ⟨rfl, c1⟩
  have C1 := below_next B1 c1
  clear B1 c1
  go_wp2_with fail
  refine (split_ok HS2 _ (hm.below C1) (by omega)).mono ?_
  rintro e x2 ⟨v9, rfl, tx, c2⟩
  have C2 := below_next C1 c2
  clear C1 c2
  go_wp2_with fail
  refine (sameTexts_yes _ _ _ _ tx ((HT.out).below C2)).mono ?_
  rintro e x3 ⟨rfl, c3⟩
  have C3 := below_next C2 c3
  clear C2 c3
  go_wp2
  go_ret
  exact ⟨rfl, C3⟩

theorem namesBack_err_err (p : ByteArray) (v : Value) (l : List ByteArray) (w : World) (hm : MaxOk w) (hs : p.size ≤ 4000000000) (HT : Hid (Texts w v l)) (HZ : Hid (∀ s ∈ l, s.size ≤ maxLen))
    {c : Int} (HA : Hid (splitN p = ([], c))) (hc : (c == 0) = false)
    {d : Int} (HJ2 : Hid (joinN l = (ofL [], d))) (hd : (d == 0) = false) :
    Calls Tryd.prog 8 #[.string p, v] w fun e w' => e = .returned (.bool true) ∧ Below w.heap.size w w' := by
  have qe : (ofL []).toList.isEmpty = true := by rw [Lib.toList_data, ofL_data]; rfl
  go_enter Tryd.func8, Tryd.ntmps8
  go_wp2_with fail
  refine (works_any _ hm).mono ?_
  rintro e w0 ⟨rfl, B0⟩
  go_wp2_with fail
  refine (split_err HA _ (hm.below B0) hs).mono ?_
  rintro e w1 ⟨u, rfl, hu, b1⟩
  have B1 := below_next B0 b1
  clear B0 b1 hu
  go_wp2_with fail
  refine (join_pair HJ2 _ ((HT.out).below B1) HZ.out (hm.below B1)).mono ?_
  rintro e x1 ⟨rfl, c1⟩
  have C1 := below_next B1 c1
  clear B1 c1
  go_wp2
  go_ret
  exact ⟨rfl, C1⟩

theorem namesBack_root_ok (p : ByteArray) (v : Value) (l : List ByteArray) (w : World) (hm : MaxOk w) (hs : p.size ≤ 4000000000) (HT : Hid (Texts w v l)) (HZ : Hid (∀ s ∈ l, s.size ≤ maxLen))
    (HA : Hid (splitN p = ([], 0))) (HL : Hid (lastN p = ([], ofL [], 108))) (HJ : Hid (joinN [] = (p, 0)))
    {s : ByteArray} (HJ2 : Hid (joinN l = (s, 0))) (HS2 : Hid (splitN s = (l, 0))) (hss : s.size ≤ 200) :
    Calls Tryd.prog 8 #[.string p, v] w fun e w' => e = .returned (.bool true) ∧ Below w.heap.size w w' := by
  have q := text_eq p p
  rw [decide_eq_true rfl] at q
  go_enter Tryd.func8, Tryd.ntmps8
  go_wp2_with fail
  refine (works_any _ hm).mono ?_
  rintro e w0 ⟨rfl, B0⟩
  go_wp2_with fail
  refine (split_ok HA _ (hm.below B0) hs).mono ?_
  rintro e w1 ⟨u, rfl, hu, b1⟩
  have B1 := below_next B0 b1
  clear B0 b1
  go_wp2_with fail
  refine (join_pair HJ _ hu (by simp) (hm.below B1)).mono ?_
  rintro e w2 ⟨rfl, b2⟩
  have B2 := below_next B1 b2
  clear B1 b2 hu
  go_wp2_with fail
  refine (last_triple HL _ (hm.below B2) hs).mono ?_
  rintro e w3 ⟨ad, n, rfl, t3, b3⟩
  have B3 := below_next B2 b3
  clear B2 b3
  clear t3
  go_wp2_with fail
  refine (join_pair HJ2 _ ((HT.out).below B3) HZ.out (hm.below B3)).mono ?_
  rintro e x1 ⟨rfl, c1⟩
  have C1 := below_next B3 c1
  clear B3 c1
  go_wp2_with fail
  refine (split_ok HS2 _ (hm.below C1) (by omega)).mono ?_
  rintro e x2 ⟨v9, rfl, tx, c2⟩
  have C2 := below_next C1 c2
  clear C1 c2
  go_wp2_with fail
  refine (sameTexts_yes _ _ _ _ tx ((HT.out).below C2)).mono ?_
  rintro e x3 ⟨rfl, c3⟩
  have C3 := below_next C2 c3
  clear C2 c3
  go_wp2
  go_ret
  exact ⟨rfl, C3⟩

theorem namesBack_root_err (p : ByteArray) (v : Value) (l : List ByteArray) (w : World) (hm : MaxOk w) (hs : p.size ≤ 4000000000) (HT : Hid (Texts w v l)) (HZ : Hid (∀ s ∈ l, s.size ≤ maxLen))
    (HA : Hid (splitN p = ([], 0))) (HL : Hid (lastN p = ([], ofL [], 108))) (HJ : Hid (joinN [] = (p, 0)))
    {d : Int} (HJ2 : Hid (joinN l = (ofL [], d))) (hd : (d == 0) = false) :
    Calls Tryd.prog 8 #[.string p, v] w fun e w' => e = .returned (.bool true) ∧ Below w.heap.size w w' := by
  have q := text_eq p p
  rw [decide_eq_true rfl] at q
  have qe : (ofL []).toList.isEmpty = true := by rw [Lib.toList_data, ofL_data]; rfl
  go_enter Tryd.func8, Tryd.ntmps8
  go_wp2_with fail
  refine (works_any _ hm).mono ?_
  rintro e w0 ⟨rfl, B0⟩
  go_wp2_with fail
  refine (split_ok HA _ (hm.below B0) hs).mono ?_
  rintro e w1 ⟨u, rfl, hu, b1⟩
  have B1 := below_next B0 b1
  clear B0 b1
  go_wp2_with fail
  refine (join_pair HJ _ hu (by simp) (hm.below B1)).mono ?_
  rintro e w2 ⟨rfl, b2⟩
  have B2 := below_next B1 b2
  clear B1 b2 hu
  go_wp2_with fail
  refine (last_triple HL _ (hm.below B2) hs).mono ?_
  rintro e w3 ⟨ad, n, rfl, t3, b3⟩
  have B3 := below_next B2 b3
  clear B2 b3
  clear t3
  go_wp2_with fail
  refine (join_pair HJ2 _ ((HT.out).below B3) HZ.out (hm.below B3)).mono ?_
  rintro e x1 ⟨rfl, c1⟩
  have C1 := below_next B3 c1
  clear B3 c1
  go_wp2
  go_ret
  exact ⟨rfl, C1⟩

theorem namesBack_deep_ok (p : ByteArray) (v : Value) (l : List ByteArray) (w : World) (hm : MaxOk w) (hs : p.size ≤ 4000000000) (HT : Hid (Texts w v l)) (HZ : Hid (∀ s ∈ l, s.size ≤ maxLen))
    {r : List ByteArray} {x : ByteArray} (HA : Hid (splitN p = (r ++ [x], 0))) (HL : Hid (lastN p = (r, x, 0))) (HJ : Hid (joinN (r ++ [x]) = (p, 0))) (HR : Hid (∀ s ∈ r ++ [x], s.size ≤ maxLen)) (h8 : r.length ≤ 8)
    {s : ByteArray} (HJ2 : Hid (joinN l = (s, 0))) (HS2 : Hid (splitN s = (l, 0))) (hss : s.size ≤ 200) :
    Calls Tryd.prog 8 #[.string p, v] w fun e w' => e = .returned (.bool true) ∧ Below w.heap.size w w' := by
  obtain ⟨i0, hi, hz0, hz1, hz2⟩ := info_parts Tryd.infoText
  have q := text_eq p p
  rw [decide_eq_true rfl] at q
  go_enter Tryd.func8, Tryd.ntmps8
  go_wp2_with fail
  refine (works_any _ hm).mono ?_
  rintro e w0 ⟨rfl, B0⟩
  go_wp2_with fail
  refine (split_ok HA _ (hm.below B0) hs).mono ?_
  rintro e w1 ⟨u, rfl, hu, b1⟩
  have B1 := below_next B0 b1
  clear B0 b1
  go_wp2_with fail
  refine (join_pair HJ _ hu HR.out (hm.below B1)).mono ?_
  rintro e w2 ⟨rfl, b2⟩
  have B2 := below_next B1 b2
  clear B1 b2 hu
  go_wp2_with fail
  refine (last_triple HL _ (hm.below B2) hs).mono ?_
  rintro e w3 ⟨ad, n, rfl, t3, b3⟩
  have B3 := below_next B2 b3
  clear B2 b3
  have O := Lib.hid t3.olds
  have hn8 : n ≤ 8 := by have := O.out.1; omega
  have hb4 : Below w3.heap.size w3 (w3.alloc (.cells #[.string x] 9)) := (Below.refl _ _).alloc (Nat.le_refl _) _
  have O2 := Lib.hid (t3.below hb4).olds.2.2
  have HN : Hid ((r.map Value.string).length = n * 1) := by have := O.out.1; show (r.map Value.string).length = n * 1; rw [List.length_map]; omega
  have B4 := below_next B3 hb4
  clear t3 hb4 B3
  go_wp2_with (at_builtin; refine wpList_append_grows _ rfl _ _ 22 rfl 9 i0 (.string ByteArray.empty) 1 16 Tryd.underlying22 hi hz0 hz1 hz2 rfl (by decide) ad n n (r.map Value.string) rfl (fun h0 => ⟨O.out.2.1 h0, O.out.2.1 h0⟩) HN.out O2.out ⟨w3.heap.size, 0, none⟩ 1 1 [.string x] rfl rfl ?k1 ?k2 ?k3 ?k4 ?k5 ?_)
  case k1 =>
    intro j u hj
    match j, hj with
    | 0, hj => simp at hj; subst hj; simp [Addr.add]
  case k2 => intro u hu; simp at hu; subst hu; rfl
  case k3 => omega
  case k4 => unfold maxLen; omega
  case k5 => omega
  intro v' w4 hown hg
  have T4 : Texts w4 v' (r ++ [x]) := by
    have e1 := O.out.1
    subst e1
    exact Texts.own (by simpa using hown)
  have b5 : Below (w3.alloc (.cells #[.string x] 9)).heap.size (w3.alloc (.cells #[.string x] 9)) w4 := (Below.refl _ _).grown hg (Nat.le_refl _) (fun k hk => by cases hk)
  have B5 := below_next B4 b5
  clear B4 b5 hown hg O O2 HN
  go_wp2_with fail
  refine (join_pair HJ _ T4 HR.out (hm.below B5)).mono ?_
  rintro e w5 ⟨rfl, b6⟩
  have B6 := below_next B5 b6
  clear B5 b6 T4
  go_wp2_with fail
  refine (join_pair HJ2 _ ((HT.out).below B6) HZ.out (hm.below B6)).mono ?_
  rintro e x1 ⟨rfl, c1⟩
  have C1 := below_next B6 c1
  clear B6 c1
  go_wp2_with fail
  refine (split_ok HS2 _ (hm.below C1) (by omega)).mono ?_
  rintro e x2 ⟨v9, rfl, tx, c2⟩
  have C2 := below_next C1 c2
  clear C1 c2
  go_wp2_with fail
  refine (sameTexts_yes _ _ _ _ tx ((HT.out).below C2)).mono ?_
  rintro e x3 ⟨rfl, c3⟩
  have C3 := below_next C2 c3
  clear C2 c3
  go_wp2
  go_ret
  exact ⟨rfl, C3⟩

theorem namesBack_deep_err (p : ByteArray) (v : Value) (l : List ByteArray) (w : World) (hm : MaxOk w) (hs : p.size ≤ 4000000000) (HT : Hid (Texts w v l)) (HZ : Hid (∀ s ∈ l, s.size ≤ maxLen))
    {r : List ByteArray} {x : ByteArray} (HA : Hid (splitN p = (r ++ [x], 0))) (HL : Hid (lastN p = (r, x, 0))) (HJ : Hid (joinN (r ++ [x]) = (p, 0))) (HR : Hid (∀ s ∈ r ++ [x], s.size ≤ maxLen)) (h8 : r.length ≤ 8)
    {d : Int} (HJ2 : Hid (joinN l = (ofL [], d))) (hd : (d == 0) = false) :
    Calls Tryd.prog 8 #[.string p, v] w fun e w' => e = .returned (.bool true) ∧ Below w.heap.size w w' := by
  obtain ⟨i0, hi, hz0, hz1, hz2⟩ := info_parts Tryd.infoText
  have q := text_eq p p
  rw [decide_eq_true rfl] at q
  have qe : (ofL []).toList.isEmpty = true := by rw [Lib.toList_data, ofL_data]; rfl
  go_enter Tryd.func8, Tryd.ntmps8
  go_wp2_with fail
  refine (works_any _ hm).mono ?_
  rintro e w0 ⟨rfl, B0⟩
  go_wp2_with fail
  refine (split_ok HA _ (hm.below B0) hs).mono ?_
  rintro e w1 ⟨u, rfl, hu, b1⟩
  have B1 := below_next B0 b1
  clear B0 b1
  go_wp2_with fail
  refine (join_pair HJ _ hu HR.out (hm.below B1)).mono ?_
  rintro e w2 ⟨rfl, b2⟩
  have B2 := below_next B1 b2
  clear B1 b2 hu
  go_wp2_with fail
  refine (last_triple HL _ (hm.below B2) hs).mono ?_
  rintro e w3 ⟨ad, n, rfl, t3, b3⟩
  have B3 := below_next B2 b3
  clear B2 b3
  have O := Lib.hid t3.olds
  have hn8 : n ≤ 8 := by have := O.out.1; omega
  have hb4 : Below w3.heap.size w3 (w3.alloc (.cells #[.string x] 9)) := (Below.refl _ _).alloc (Nat.le_refl _) _
  have O2 := Lib.hid (t3.below hb4).olds.2.2
  have HN : Hid ((r.map Value.string).length = n * 1) := by have := O.out.1; show (r.map Value.string).length = n * 1; rw [List.length_map]; omega
  have B4 := below_next B3 hb4
  clear t3 hb4 B3
  go_wp2_with (at_builtin; refine wpList_append_grows _ rfl _ _ 22 rfl 9 i0 (.string ByteArray.empty) 1 16 Tryd.underlying22 hi hz0 hz1 hz2 rfl (by decide) ad n n (r.map Value.string) rfl (fun h0 => ⟨O.out.2.1 h0, O.out.2.1 h0⟩) HN.out O2.out ⟨w3.heap.size, 0, none⟩ 1 1 [.string x] rfl rfl ?k1 ?k2 ?k3 ?k4 ?k5 ?_)
  case k1 =>
    intro j u hj
    match j, hj with
    | 0, hj => simp at hj; subst hj; simp [Addr.add]
  case k2 => intro u hu; simp at hu; subst hu; rfl
  case k3 => omega
  case k4 => unfold maxLen; omega
  case k5 => omega
  intro v' w4 hown hg
  have T4 : Texts w4 v' (r ++ [x]) := by
    have e1 := O.out.1
    subst e1
    exact Texts.own (by simpa using hown)
  have b5 : Below (w3.alloc (.cells #[.string x] 9)).heap.size (w3.alloc (.cells #[.string x] 9)) w4 := (Below.refl _ _).grown hg (Nat.le_refl _) (fun k hk => by cases hk)
  have B5 := below_next B4 b5
  clear B4 b5 hown hg O O2 HN
  go_wp2_with fail
  refine (join_pair HJ _ T4 HR.out (hm.below B5)).mono ?_
  rintro e w5 ⟨rfl, b6⟩
  have B6 := below_next B5 b6
  clear B5 b6 T4
  go_wp2_with fail
  refine (join_pair HJ2 _ ((HT.out).below B6) HZ.out (hm.below B6)).mono ?_
  rintro e x1 ⟨rfl, c1⟩
  have C1 := below_next B6 c1
  clear B6 c1
  go_wp2
  go_ret
  exact ⟨rfl, C1⟩

theorem namesBack_walk (p : ByteArray) (v : Value) (l : List ByteArray) (w : World) (hm : MaxOk w) (hs : p.size ≤ 4000000000) (ht : Texts w v l) (hz : ∀ s ∈ l, s.size ≤ maxLen) :
    Calls Tryd.prog 8 #[.string p, v] w fun e w' => e = .returned (.bool true) ∧ Below w.heap.size w w' := by
  rcases splitN_or p with ⟨m, h, h8⟩ | ⟨c, h, hc⟩
  · have hj := join_split h
    have hj2 : joinN m = (p, 0) := by rw [joinN_ok hj.1, hj.2]
    by_cases hm0 : m = []
    · subst hm0
      by_cases h0 : mayC l = 0
      · exact namesBack_root_ok p v l w hm hs ht hz h (lastN_root h) hj2 (joinN_ok h0) (split_join h0) (split_size h0)
      · exact namesBack_root_err p v l w hm hs ht hz h (lastN_root h) hj2 (joinN_err rfl h0) (beq_eq_false_iff_ne.2 h0)
    · obtain ⟨r, x, rfl⟩ := list_snoc m hm0
      have hr : ∀ s ∈ r ++ [x], s.size ≤ maxLen := fun s hs => by have := (nameB_size ((splitN_short h).2 s hs)).2; unfold maxLen; omega
      have hr8 : r.length ≤ 8 := by simp at h8; omega
      by_cases h0 : mayC l = 0
      · exact namesBack_deep_ok p v l w hm hs ht hz h (lastN_ok h) hj2 hr hr8 (joinN_ok h0) (split_join h0) (split_size h0)
      · exact namesBack_deep_err p v l w hm hs ht hz h (lastN_ok h) hj2 hr hr8 (joinN_err rfl h0) (beq_eq_false_iff_ne.2 h0)
  · by_cases h0 : mayC l = 0
    · exact namesBack_err_ok p v l w hm hs ht hz h hc (joinN_ok h0) (split_join h0) (split_size h0)
    · exact namesBack_err_err p v l w hm hs ht hz h hc (joinN_err rfl h0) (beq_eq_false_iff_ne.2 h0)
end
end Go.Proofs.YtnkcdeophjhblaaDoor
