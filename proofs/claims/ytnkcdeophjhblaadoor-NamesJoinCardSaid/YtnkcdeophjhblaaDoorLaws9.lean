/-
  The walks of the laws NamesTwo, NamesUnder, NamesCommon.
-/
import Derived.Test.YtnkcdeophjhblaaDoorWorks
namespace Go.Proofs.YtnkcdeophjhblaaDoor
open Go.RowKit Txt

section
set_option maxHeartbeats 400000
theorem namesTwo_walk (a b : ByteArray) (w : World) (hm : MaxOk w) (hs : a.size ≤ 4000000000) (hs2 : b.size ≤ 4000000000) :
    Calls Tryd.prog 5 #[.string a, .string b] w fun e w' => e = .returned (.bool true) ∧ Below w.heap.size w w' := by
  obtain ⟨x, c, hl⟩ : ∃ l c, underN a b = (l, c) := ⟨_, _, rfl⟩
  obtain ⟨n, g, hd⟩ : ∃ d g, commonN a b = (d, g) := ⟨_, _, rfl⟩
  have HL := Lib.hid hl
  have HD := Lib.hid hd
  clear hl hd
  go_enter Tryd.func5, Tryd.ntmps5
  go_wp2_with fail
  refine (under_pair HL _ hm hs hs2).mono ?_
  rintro e w1 ⟨rfl, B1⟩
  go_wp2_with fail
  refine (refUnder_pair HL _ hs hs2).mono ?_
  rintro e w2 ⟨rfl, b2⟩
  have B2 := below_next B1 b2
  clear B1 b2
  go_wp2_with fail
  refine (common_ok HD _ (hm.below B2) hs hs2).mono ?_
  rintro e w3 ⟨rfl, b3⟩
  have B3 := below_next B2 b3
  clear B2 b3
  go_wp2_with fail
  refine (refCommon_ok HD _ hs hs2).mono ?_
  rintro e w4 ⟨rfl, b4⟩
  have B4 := below_next B3 b4
  clear B3 b4
  go_wp2_with fail
  refine (works_any _ (hm.below B4)).mono ?_
  rintro e w5 ⟨rfl, b5⟩
  have B5 := below_next B4 b5
  clear B4 b5
  go_wp2
  go_ret
  exact ⟨rfl, B5⟩

theorem under_trans {l m k : List ByteArray} : (!decide (lcp l m = l.length) || !decide (lcp m k = m.length) || decide (lcp l k = l.length)) = true := by
  by_cases h1 : lcp l m = l.length
  · by_cases h2 : lcp m k = m.length
    · have := (lcp_full l k).2 (((lcp_full l m).1 h1).trans ((lcp_full m k).1 h2))
      simp [this]
    · simp [h2]
  · simp [h1]
theorem under_both {a b : ByteArray} {l m : List ByteArray} (ha : splitN a = (l, 0)) (hb : splitN b = (m, 0)) : ((decide (lcp l m = l.length) && decide (lcp m l = m.length)) == decide (a = b)) = true := by
  rw [beq_iff_eq, Bool.eq_iff_iff, Bool.and_eq_true, decide_eq_true_iff, decide_eq_true_iff, decide_eq_true_iff, lcp_full, lcp_full]
  constructor
  · rintro ⟨h1, h2⟩
    have : l = m := h1.eq_of_length (Nat.le_antisymm h1.length_le h2.length_le)
    subst this
    exact splitN_inj ha hb
  · intro h
    subst h
    rw [ha] at hb
    cases hb
    exact ⟨List.prefix_refl _, List.prefix_refl _⟩
theorem underN_self {a : ByteArray} {l : List ByteArray} (h : splitN a = (l, 0)) : underN a a = (true, 0) := by
  rw [underN_ok h h, lcp_self]; simp
theorem underN_root {a : ByteArray} {l : List ByteArray} (h : splitN a = (l, 0)) : underN ⟨#[47]⟩ a = (true, 0) := by
  rw [underN_ok (l := []) (by decide) h]; simp [lcp]

/-- Either both paths are paths, or Under tells why not. -/
theorem underN_or (a b : ByteArray) : (∃ l m, splitN a = (l, 0) ∧ splitN b = (m, 0)) ∨ (∃ c, underN a b = (false, c) ∧ (c == 0) = false) := by
  rcases splitN_or a with ⟨l, h, _⟩ | ⟨c, h, hc⟩
  · rcases splitN_or b with ⟨m, g, _⟩ | ⟨d, g, hd⟩
    · exact Or.inl ⟨l, m, h, g⟩
    · exact Or.inr ⟨d, underN_err2 h g hd, hd⟩
  · exact Or.inr ⟨c, underN_err1 h hc, hc⟩

theorem namesUnder_walk (a b c : ByteArray) (w : World) (hm : MaxOk w) (hs : a.size ≤ 4000000000) (hs2 : b.size ≤ 4000000000) (hs3 : c.size ≤ 4000000000) :
    Calls Tryd.prog 6 #[.string a, .string b, .string c] w fun e w' => e = .returned (.bool true) ∧ Below w.heap.size w w' := by
  rcases underN_or a b with ⟨l, m, ha, hb⟩ | ⟨d, h, hd⟩
  · rcases underN_or b c with ⟨m', k, hb', hc⟩ | ⟨d, h, hd⟩
    · rw [hb] at hb'
      cases hb'
      obtain ⟨ab, hab⟩ : ∃ x, decide (lcp l m = l.length) = x := ⟨_, rfl⟩
      obtain ⟨ba, hba⟩ : ∃ x, decide (lcp m l = m.length) = x := ⟨_, rfl⟩
      obtain ⟨bc, hbc⟩ : ∃ x, decide (lcp m k = m.length) = x := ⟨_, rfl⟩
      obtain ⟨ac, hac⟩ : ∃ x, decide (lcp l k = l.length) = x := ⟨_, rfl⟩
      obtain ⟨eq, heq⟩ : ∃ x, decide (a = b) = x := ⟨_, rfl⟩
      have HAB := Lib.hid (underN_ok ha hb)
      have HBA := Lib.hid (underN_ok hb ha)
      have HBC := Lib.hid (underN_ok hb hc)
      have HAC := Lib.hid (underN_ok ha hc)
      rw [hab] at HAB
      rw [hba] at HBA
      rw [hbc] at HBC
      rw [hac] at HAC
      have HS := Lib.hid (underN_self ha)
      have HR := Lib.hid (underN_root ha)
      have K1 := Lib.hid (under_trans (l := l) (m := m) (k := k))
      have K2 := Lib.hid (under_both ha hb)
      rw [hab, hbc, hac] at K1
      rw [hab, hba, heq] at K2
      have q := (text_eq a b).trans heq
      have Q := Lib.hid q
      clear ha hb hc hab hba hbc hac heq q
      go_enter Tryd.func6, Tryd.ntmps6
      go_wp2_with fail
      refine (works_any _ hm).mono ?_
      rintro e w0 ⟨rfl, B0⟩
      go_wp2_with fail
      refine (under_pair HAB _ (hm.below B0) hs hs2).mono ?_
      rintro e w1 ⟨rfl, b1⟩
      have B1 := below_next B0 b1
      clear B0 b1
      go_wp2_with fail
      refine (under_pair HBC _ (hm.below B1) hs2 hs3).mono ?_
      rintro e w2 ⟨rfl, b2⟩
      have B2 := below_next B1 b2
      clear B1 b2
      go_wp2_with fail
      refine (under_pair HAC _ (hm.below B2) hs hs3).mono ?_
      rintro e w3 ⟨rfl, b3⟩
      have B3 := below_next B2 b3
      clear B2 b3
      go_wp2_with fail
      refine (under_pair HBA _ (hm.below B3) hs2 hs).mono ?_
      rintro e w4 ⟨rfl, b4⟩
      have B4 := below_next B3 b4
      clear B3 b4
      go_wp2_with fail
      refine (under_pair HS _ (hm.below B4) hs hs).mono ?_
      rintro e w5 ⟨rfl, b5⟩
      have B5 := below_next B4 b5
      clear B4 b5
      go_wp2_with fail
      refine (under_pair HR _ (hm.below B5) (by decide) hs).mono ?_
      rintro e w6 ⟨rfl, b6⟩
      have B6 := below_next B5 b6
      clear B5 b6
      have q := Q.out
      cases ab <;> cases bc <;> cases ac <;> cases ba <;> cases eq <;> first
        | (exact absurd K1.out (by decide))
        | (exact absurd K2.out (by decide))
        | (go_wp2; go_ret; exact ⟨rfl, B6⟩)
    · obtain ⟨x, c1, h1⟩ : ∃ l c, underN a b = (l, c) := ⟨_, _, rfl⟩
      have H := Lib.hid h
      have H1 := Lib.hid (underN_ok ha hb)
      obtain ⟨ab, hab⟩ : ∃ x, decide (lcp l m = l.length) = x := ⟨_, rfl⟩
      rw [hab] at H1
      clear h ha hb hab h1
      go_enter Tryd.func6, Tryd.ntmps6
      go_wp2_with fail
      refine (works_any _ hm).mono ?_
      rintro e w0 ⟨rfl, B0⟩
      go_wp2_with fail
      refine (under_pair H1 _ (hm.below B0) hs hs2).mono ?_
      rintro e w1 ⟨rfl, b1⟩
      have B1 := below_next B0 b1
      clear B0 b1
      go_wp2_with fail
      refine (under_pair H _ (hm.below B1) hs2 hs3).mono ?_
      rintro e w2 ⟨rfl, b2⟩
      have B2 := below_next B1 b2
      clear B1 b2
      go_wp2
      go_ret
      exact ⟨rfl, B2⟩
  · obtain ⟨x, c1, h1⟩ : ∃ l e, underN b c = (l, e) := ⟨_, _, rfl⟩
    have H := Lib.hid h
    have H1 := Lib.hid h1
    clear h h1
    go_enter Tryd.func6, Tryd.ntmps6
    go_wp2_with fail
    refine (works_any _ hm).mono ?_
    rintro e w0 ⟨rfl, B0⟩
    go_wp2_with fail
    refine (under_pair H _ (hm.below B0) hs hs2).mono ?_
    rintro e w1 ⟨rfl, b1⟩
    have B1 := below_next B0 b1
    clear B0 b1
    go_wp2_with fail
    refine (under_pair H1 _ (hm.below B1) hs2 hs3).mono ?_
    rintro e w2 ⟨rfl, b2⟩
    have B2 := below_next B1 b2
    clear B1 b2
    go_wp2
    go_ret
    exact ⟨rfl, B2⟩

theorem commonN_swap {a b : ByteArray} {c : Int} (h : commonN a b = (0, c)) (hc : (c == 0) = false) : ∃ d, commonN b a = (0, d) ∧ (d == 0) = false := by
  rcases splitN_or a with ⟨l, ha, _⟩ | ⟨c', ha, hc'⟩
  · rcases splitN_or b with ⟨m, hb, _⟩ | ⟨d, hb, hd⟩
    · rw [commonN_ok ha hb] at h
      have := (Prod.mk.inj h).2
      subst this
      cases hc
    · exact ⟨d, commonN_err1 hb hd, hd⟩
  · rcases splitN_or b with ⟨m, hb, _⟩ | ⟨d, hb, hd⟩
    · exact ⟨c', commonN_err2 hb ha hc', hc'⟩
    · exact ⟨d, commonN_err1 hb hd, hd⟩
theorem commonN_or (a b : ByteArray) : (∃ l m, splitN a = (l, 0) ∧ splitN b = (m, 0) ∧ l.length ≤ 8 ∧ m.length ≤ 8) ∨ (∃ c, commonN a b = (0, c) ∧ (c == 0) = false) := by
  rcases splitN_or a with ⟨l, h, h8⟩ | ⟨c, h, hc⟩
  · rcases splitN_or b with ⟨m, g, g8⟩ | ⟨d, g, hd⟩
    · exact Or.inl ⟨l, m, h, g, h8, g8⟩
    · exact Or.inr ⟨d, commonN_err2 h g hd, hd⟩
  · exact Or.inr ⟨c, commonN_err1 h hc, hc⟩
theorem lcp_both {l m : List ByteArray} (h1 : lcp l m = l.length) (h2 : lcp l m = m.length) : l = m :=
  ((lcp_full l m).1 h1).eq_of_length (by omega)

theorem namesCommon_walk (a b : ByteArray) (w : World) (hm : MaxOk w) (hs : a.size ≤ 4000000000) (hs2 : b.size ≤ 4000000000) :
    Calls Tryd.prog 4 #[.string a, .string b] w fun e w' => e = .returned (.bool true) ∧ Below w.heap.size w w' := by
  rcases commonN_or a b with ⟨l, m, ha, hb, h8, g8⟩ | ⟨c, h, hc⟩
  · have HA := Lib.hid ha
    have HB := Lib.hid hb
    have H := Lib.hid (commonN_ok ha hb)
    have H2 := Lib.hid (commonN_ok hb ha)
    rw [lcp_comm m l] at H2
    obtain ⟨k, hk⟩ : ∃ k, lcp l m = k := ⟨_, rfl⟩
    have hkl : k ≤ l.length := hk ▸ lcp_le l m
    have hkm : k ≤ m.length := by have := lcp_le m l; rw [lcp_comm, hk] at this; exact this
    have HT := Lib.hid (lcp_take l m)
    have HE : Hid ((k = l.length ∧ k = m.length) ↔ a = b) := by
      constructor
      · rintro ⟨e1, e2⟩
        have : l = m := lcp_both (hk.trans e1) (hk.trans e2)
        subst this
        exact splitN_inj ha hb
      · intro e
        subst e
        rw [ha] at hb
        cases hb
        have := hk.symm.trans (lcp_self l)
        exact ⟨this, this⟩
    rw [hk] at H H2 HT
    have q := text_eq a b
    have Q := Lib.hid q
    clear ha hb hk q
    go_enter Tryd.func4, Tryd.ntmps4
    go_wp2_with fail
    refine (works_any _ hm).mono ?_
    rintro e w0 ⟨rfl, B0⟩
    go_wp2_with fail
    refine (common_ok H _ (hm.below B0) hs hs2).mono ?_
    rintro e w1 ⟨rfl, b1⟩
    have B1 := below_next B0 b1
    clear B0 b1
    go_wp2_with fail
    refine (common_ok H2 _ (hm.below B1) hs2 hs).mono ?_
    rintro e w2 ⟨rfl, b2⟩
    have B2 := below_next B1 b2
    clear B1 b2
    go_wp2_with fail
    refine (split_ok HA _ (hm.below B2) hs).mono ?_
    rintro e w3 ⟨v, rfl, hv, b3⟩
    have B3 := below_next B2 b3
    clear B2 b3
    go_wp2_with fail
    refine (split_ok HB _ (hm.below B3) hs2).mono ?_
    rintro e w4 ⟨u, rfl, hu, b4⟩
    have B4 := below_next B3 b4
    have hv4 := hv.below b4
    clear B3 b4 hv
    obtain ⟨ad, cap, rfl, h1, h2, h3⟩ := hv4
    obtain ⟨ae, cap2, rfl, g1, g2, g3⟩ := hu
    have hv : Hid (Texts w4 (.slice ad k cap) (l.take k)) := Texts.front ⟨ad, cap, rfl, h1, h2, h3⟩ k cap hkl (by omega) (Nat.le_refl _)
    have hu : Hid (Texts w4 (.slice ae k cap2) (l.take k)) := by
      rw [HT.out]
      exact Texts.front ⟨ae, cap2, rfl, g1, g2, g3⟩ k cap2 hkm (by omega) (Nat.le_refl _)
    obtain ⟨n, hn⟩ : ∃ n, l.length = n := ⟨_, rfl⟩
    obtain ⟨n2, hn2⟩ : ∃ n, m.length = n := ⟨_, rfl⟩
    have hc1 : cap ≤ 9223372036854775807 := by unfold maxLen at h2; exact h2
    have hc2 : cap2 ≤ 9223372036854775807 := by unfold maxLen at g2; exact g2
    have hcn : n ≤ cap := by omega
    have hcn2 : n2 ≤ cap2 := by omega
    rw [hn, hn2] at HE
    rw [hn] at hkl h8 ⊢
    rw [hn2] at hkm g8 ⊢
    clear h1 h2 h3 g1 g2 g3 hn hn2
    have hq : ∀ n, Calls Tryd.prog 13 #[.slice ad k cap, .slice ae k cap2] (w4.drewN n) fun e w' => e = .returned (.bool true) ∧ ∃ m, w' = w4.drewN m := fun n =>
      Calls.quiet_of (sameTexts_quiet _ _ (l.take k) _ ((hv.out).below (below_drewN (Below.refl _ _) n)) ((hu.out).below (below_drewN (Below.refl _ _) n)))
    have HQ := Lib.hid hq
    clear hq
    by_cases e1 : k = n
    · have q1 : ((k : Int) == (n : Int)) = true := beq_iff_eq.2 (by omega)
      by_cases e2 : k = n2
      · have q2 : ((k : Int) == (n2 : Int)) = true := beq_iff_eq.2 (by omega)
        have q3 : (a.toList == b.toList) = true := Q.out.trans (decide_eq_true (HE.out.1 ⟨e1, e2⟩))
        clear e1 e2
        go_wp2
        go_quiet ((go_at_call 13; exact HQ.out _))
        go_wp2
        go_ret
        exact ⟨rfl, below_drewN B4 _⟩
      · have q2 : ((k : Int) == (n2 : Int)) = false := beq_eq_false_iff_ne.2 (by omega)
        have q3 : (a.toList == b.toList) = false := Q.out.trans (decide_eq_false (fun e => e2 (HE.out.2 e).2))
        clear e1 e2
        go_wp2
        go_quiet ((go_at_call 13; exact HQ.out _))
        go_wp2
        go_ret
        exact ⟨rfl, below_drewN B4 _⟩
    · have q1 : ((k : Int) == (n : Int)) = false := beq_eq_false_iff_ne.2 (by omega)
      have q3 : (a.toList == b.toList) = false := Q.out.trans (decide_eq_false (fun e => e1 (HE.out.2 e).1))
      clear e1
      go_wp2
      go_quiet ((go_at_call 13; exact HQ.out _))
      go_wp2
      go_ret
      exact ⟨rfl, below_drewN B4 _⟩
  · obtain ⟨d, h2, hd⟩ := commonN_swap h hc
    have H := Lib.hid h
    have H2 := Lib.hid h2
    clear h h2
    go_enter Tryd.func4, Tryd.ntmps4
    go_wp2_with fail
    refine (works_any _ hm).mono ?_
    rintro e w0 ⟨rfl, B0⟩
    go_wp2_with fail
    refine (common_ok H _ (hm.below B0) hs hs2).mono ?_
    rintro e w1 ⟨rfl, b1⟩
    have B1 := below_next B0 b1
    clear B0 b1
    go_wp2_with fail
    refine (common_ok H2 _ (hm.below B1) hs2 hs).mono ?_
    rintro e w2 ⟨rfl, b2⟩
    have B2 := below_next B1 b2
    clear B1 b2
    go_wp2
    go_ret
    exact ⟨rfl, B2⟩
end
end Go.Proofs.YtnkcdeophjhblaaDoor
