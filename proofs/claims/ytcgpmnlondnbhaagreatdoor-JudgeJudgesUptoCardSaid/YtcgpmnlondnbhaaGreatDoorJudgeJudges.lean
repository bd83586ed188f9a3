/-
  The law JudgeJudges' walk.
-/
import Derived.Test.YtcgpmnlondnbhaaGreatDoorRefJudge27
import Derived.Test.YtcgpmnlondnbhaaGreatDoorKept
import Derived.Test.YtcgpmnlondnbhaaGreatDoorJudgeWorks
import Derived.Test.YtcgpmnlondnbhaaGreatDoorLogA
namespace Go.Proofs.YtcgpmnlondnbhaaGreatDoor
open Go Go.RowKit Txt Sp

theorem SrcAt.did2 {w : World} {b off : Nat} {x : Sp.Did} (h : SrcAt w b off x) : DidAt w b off x :=
  let ⟨ad, cap, h1, _, h3⟩ := h
  ⟨ad, cap, h1, h3⟩
theorem Src.dids2 {w : World} {v : Value} {L : List Sp.Did} (h : Src w v L) : Dids w v L :=
  let ⟨ad, cap, h1, _, h3, h4, h5⟩ := h
  ⟨ad, cap, h1, h3, h4, fun h0 => let ⟨b, off, e, hb, hx⟩ := h5 h0; ⟨b, off, e, hb, fun k x hk => (hx k x hk).did2⟩⟩

section
set_option maxHeartbeats 8000000
set_option maxRecDepth 20000 in
theorem judgeJudges_walk (w : World) {v : Value} {L : List Sp.Did} (hs : Src w v L) (hok : ∀ x ∈ L, OpOk x.o) (hL : L.length ≤ 1048576) (hN : ∀ x ∈ L, x.a.names.length ≤ 2000000) (hm : MaxOk w) :
    Calls Tryz.prog 5 #[v] w fun e w' => e = .returned (.bool true) ∧ Below w.heap.size w w' := by
  have HM := Lib.hid hm
  have HOk := Lib.hid hok
  have HNm := Lib.hid hN
  have HLl := Lib.hid hL
  have HS := Lib.hid hs
  have HDl := Lib.hid hs.dids2
  obtain ⟨ad, cap, rfl, h0, h1, h2, h3⟩ := hs
  obtain ⟨n, hn⟩ : ∃ n, L.length = n := ⟨_, rfl⟩
  have HN := Lib.hid hn
  have hcap : cap ≤ 9223372036854775807 := Nat.le_trans h2 (by decide)
  rw [hn] at h1 HS HDl ⊢
  clear hm hok hN hL h0 h2 h3 hn
  go_enter Tryz.func5, Tryz.ntmps5
  by_cases h60 : 60 < n
  · by_cases h256 : n ≤ 256
    · go_wp2_with fail
      refine (judgeWorks_any w HM.out).mono ?_
      rintro e w1 ⟨rfl, hb1⟩
      have HB1 := Lib.hid hb1
      clear hb1
      go_wp2
      go_ret
      exact ⟨rfl, HB1.out⟩
    · obtain ⟨c1, c2, hcn⟩ : ∃ a b, checkN L = (a, b) := ⟨_, _, rfl⟩
      obtain ⟨j1, j2, j3, hjn⟩ : ∃ a b c, judgeN L = (a, b, c) := ⟨_, _, _, rfl⟩
      obtain ⟨PL, p2, hpn⟩ : ∃ a b, pathsN L = (a, b) := ⟨_, _, rfl⟩
      have HCn := Lib.hid hcn
      have HJn := Lib.hid hjn
      have HPn := Lib.hid hpn
      clear hcn hjn hpn
      go_wp2_with fail
      refine (judgeCopied_any w HS.out HLl.out HNm.out).mono ?_
      rintro e w1 ⟨g, cc, xs, rfl, hlog, hb1⟩
      rw [HN.out] at hlog ⊢
      have HB1 := Lib.hid hb1
      have HO1 := Lib.hid hlog.dids
      clear hlog hb1
      go_wp2_with fail
      refine (judgeCheck_any w1 HO1.out).mono ?_
      unfold CheckPost
      rw [HCn.out]
      rintro e w2 ⟨rfl, hb2⟩
      have HB2 := Lib.hid (below_next HB1.out hb2)
      have HO2 := Lib.hid (HO1.out.below hb2)
      clear hb2
      go_wp2_with fail
      refine (rcheck27_any w2 (HDl.out.below HB2.out)).mono ?_
      unfold CheckPost
      rw [HCn.out]
      rintro e w3 ⟨rfl, hb3⟩
      have HB3 := Lib.hid (below_next HB2.out hb3)
      have HO3 := Lib.hid (HO2.out.below hb3)
      clear hb3
      go_wp2_with fail
      refine (judge_known HJn.out HO3.out HOk.out (HM.out.below HB3.out)).mono ?_
      rintro e w4 ⟨rfl, hb4⟩
      have HB4 := Lib.hid (below_next HB3.out hb4)
      have HO4 := Lib.hid (HO3.out.below hb4)
      clear hb4
      go_wp2_with fail
      refine (rjudge27_any w4 (HDl.out.below HB4.out) HOk.out).mono ?_
      unfold JudgePost
      rw [HJn.out]
      rintro e w5 ⟨rfl, hb5⟩
      have HB5 := Lib.hid (below_next HB4.out hb5)
      have HO5 := Lib.hid (HO4.out.below hb5)
      clear hb5
      go_wp2_with fail
      refine (judgePaths_any w5 HO5.out HOk.out (HM.out.below HB5.out)).mono ?_
      unfold LogPathsPost
      rw [HPn.out]
      rintro e w6 ⟨v6, rfl, ho6, hb6⟩
      have HB6 := Lib.hid (below_next HB5.out hb6)
      have HO6 := Lib.hid (HO5.out.below hb6)
      have HP6 := Lib.hid ho6
      clear hb6 ho6
      go_wp2_with fail
      refine (rlogPaths27_any w6 (HDl.out.below HB6.out) HOk.out).mono ?_
      unfold LogPathsPost
      rw [HPn.out]
      rintro e w7 ⟨v7, rfl, ho7, hb7⟩
      have HB7 := Lib.hid (below_next HB6.out hb7)
      have HO7 := Lib.hid (HO6.out.below hb7)
      have HP7 := Lib.hid (HP6.out.below hb7)
      have HQ7 := Lib.hid ho7
      clear hb7 ho7
      go_wp2_with fail
      refine (sameTexts_yes _ _ _ _ HP7.out.texts HQ7.out.texts).mono ?_
      rintro e w8 ⟨rfl, hb8⟩
      have HB8 := Lib.hid (below_next HB7.out hb8)
      have HO8 := Lib.hid (HO7.out.below hb8)
      clear hb8
      go_wp2_with fail
      refine (kept_any w8 HO8.out (HDl.out.below HB8.out)).mono ?_
      rintro e w9 ⟨rfl, hb9⟩
      have HB9 := Lib.hid (below_next HB8.out hb9)
      clear hb9
      go_wp2_with fail
      refine (judgeWorks_any w9 (HM.out.below HB9.out)).mono ?_
      rintro e w10 ⟨rfl, hb10⟩
      have HB10 := Lib.hid (below_next HB9.out hb10)
      clear hb10
      go_wp2
      go_ret
      exact ⟨rfl, HB10.out⟩
  · obtain ⟨c1, c2, hcn⟩ : ∃ a b, checkN L = (a, b) := ⟨_, _, rfl⟩
    obtain ⟨j1, j2, j3, hjn⟩ : ∃ a b c, judgeN L = (a, b, c) := ⟨_, _, _, rfl⟩
    obtain ⟨PL, p2, hpn⟩ : ∃ a b, pathsN L = (a, b) := ⟨_, _, rfl⟩
    have HCn := Lib.hid hcn
    have HJn := Lib.hid hjn
    have HPn := Lib.hid hpn
    clear hcn hjn hpn
    go_wp2_with fail
    refine (judgeCopied_any w HS.out HLl.out HNm.out).mono ?_
    rintro e w1 ⟨g, cc, xs, rfl, hlog, hb1⟩
    rw [HN.out] at hlog ⊢
    have HB1 := Lib.hid hb1
    have HO1 := Lib.hid hlog.dids
    clear hlog hb1
    go_wp2_with fail
    refine (judgeCheck_any w1 HO1.out).mono ?_
    unfold CheckPost
    rw [HCn.out]
    rintro e w2 ⟨rfl, hb2⟩
    have HB2 := Lib.hid (below_next HB1.out hb2)
    have HO2 := Lib.hid (HO1.out.below hb2)
    clear hb2
    go_wp2_with fail
    refine (rcheck27_any w2 (HDl.out.below HB2.out)).mono ?_
    unfold CheckPost
    rw [HCn.out]
    rintro e w3 ⟨rfl, hb3⟩
    have HB3 := Lib.hid (below_next HB2.out hb3)
    have HO3 := Lib.hid (HO2.out.below hb3)
    clear hb3
    go_wp2_with fail
    refine (judge_known HJn.out HO3.out HOk.out (HM.out.below HB3.out)).mono ?_
    rintro e w4 ⟨rfl, hb4⟩
    have HB4 := Lib.hid (below_next HB3.out hb4)
    have HO4 := Lib.hid (HO3.out.below hb4)
    clear hb4
    go_wp2_with fail
    refine (rjudge27_any w4 (HDl.out.below HB4.out) HOk.out).mono ?_
    unfold JudgePost
    rw [HJn.out]
    rintro e w5 ⟨rfl, hb5⟩
    have HB5 := Lib.hid (below_next HB4.out hb5)
    have HO5 := Lib.hid (HO4.out.below hb5)
    clear hb5
    go_wp2_with fail
    refine (judgePaths_any w5 HO5.out HOk.out (HM.out.below HB5.out)).mono ?_
    unfold LogPathsPost
    rw [HPn.out]
    rintro e w6 ⟨v6, rfl, ho6, hb6⟩
    have HB6 := Lib.hid (below_next HB5.out hb6)
    have HO6 := Lib.hid (HO5.out.below hb6)
    have HP6 := Lib.hid ho6
    clear hb6 ho6
    go_wp2_with fail
    refine (rlogPaths27_any w6 (HDl.out.below HB6.out) HOk.out).mono ?_
    unfold LogPathsPost
    rw [HPn.out]
    rintro e w7 ⟨v7, rfl, ho7, hb7⟩
    have HB7 := Lib.hid (below_next HB6.out hb7)
    have HO7 := Lib.hid (HO6.out.below hb7)
    have HP7 := Lib.hid (HP6.out.below hb7)
    have HQ7 := Lib.hid ho7
    clear hb7 ho7
    go_wp2_with fail
    refine (sameTexts_yes _ _ _ _ HP7.out.texts HQ7.out.texts).mono ?_
    rintro e w8 ⟨rfl, hb8⟩
    have HB8 := Lib.hid (below_next HB7.out hb8)
    have HO8 := Lib.hid (HO7.out.below hb8)
    clear hb8
    go_wp2_with fail
    refine (kept_any w8 HO8.out (HDl.out.below HB8.out)).mono ?_
    rintro e w9 ⟨rfl, hb9⟩
    have HB9 := Lib.hid (below_next HB8.out hb9)
    clear hb9
    go_wp2_with fail
    refine (judgeWorks_any w9 (HM.out.below HB9.out)).mono ?_
    rintro e w10 ⟨rfl, hb10⟩
    have HB10 := Lib.hid (below_next HB9.out hb10)
    clear hb10
    go_wp2
    go_ret
    exact ⟨rfl, HB10.out⟩
end
end Go.Proofs.YtcgpmnlondnbhaaGreatDoor
