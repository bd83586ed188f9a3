/-
  SameTexts: whether two slices of texts hold the same texts.
-/
import Derived.Test.YtcgpmnlondnbhaaDoorWorld
namespace Go.Proofs.YtcgpmnlondnbhaaDoor
open Go.RowKit Txt

theorem text_eq (x y : ByteArray) : (x.toList == y.toList) = decide (x = y) := by
  rw [Bool.eq_iff_iff, beq_iff_eq, decide_eq_true_iff, Lib.toList_data, Lib.toList_data]
  exact ⟨fun h => Txt.ext h, fun h => by rw [h]⟩

set_option maxHeartbeats 400000 in
theorem sameTexts_draws (v u : Value) (l m : List ByteArray) (w : World) (ht : Texts w v l) (hu : Texts w u m) :
    Calls Tryd.prog 19 #[v, u] w fun e w' => e = .returned (.bool (decide (l = m))) ∧ ∃ q, w' = w.drewN q := by
  obtain ⟨ad, cap, rfl, h1, h2, h3⟩ := ht
  obtain ⟨ae, cae, rfl, g1, g2, g3⟩ := hu
  obtain ⟨n, hn⟩ : ∃ n, n = l.length := ⟨_, rfl⟩
  obtain ⟨n2, hn2⟩ : ∃ n, n = m.length := ⟨_, rfl⟩
  have hmax : n ≤ 9223372036854775807 := by unfold maxLen at h2; omega
  have hmax2 : n2 ≤ 9223372036854775807 := by unfold maxLen at g2; omega
  have HN := Lib.hid hn
  have HN2 := Lib.hid hn2
  have H3 := Lib.hid h3
  have G3 := Lib.hid g3
  rw [← hn, ← hn2]
  clear hn h1 h2 h3 hn2 g1 g2 g3
  by_cases hne : n = n2
  · subst hne
    go_enter Tryd.func19, Tryd.ntmps19
    go_wp2
    go_loopw [5] (fun i wr => ∃ k : Nat, k ≤ n ∧ i = .int .i64 k ∧ l.take k = m.take k ∧ ∃ q, wr = w.drewN q) (fun i _ => n - (intOf i).toNat)
    case atStart => exact ⟨0, Nat.zero_le _, rfl, rfl, 0, rfl⟩
    case round =>
      obtain ⟨k, hk, rfl, hall, q0, rfl⟩ := hrel
      have HA := Lib.hid hall
      clear hall
      by_cases hlt : k < n
      · obtain ⟨b, off, rfl, hb, hc⟩ := H3.out (by have := HN.out; omega)
        obtain ⟨c, offc, rfl, hbc, hcc⟩ := G3.out (by have := HN2.out; omega)
        obtain ⟨s, hs⟩ : ∃ s, l[k]? = some s := ⟨l[k]'(by have := HN.out; omega), by simp⟩
        obtain ⟨t, hst⟩ : ∃ s, m[k]? = some s := ⟨m[k]'(by have := HN2.out; omega), by simp⟩
        have hcell := hc k s hs
        have hcellt := hcc k t hst
        have HS := Lib.hid hs
        have HT := Lib.hid hst
        have q := text_eq s t
        clear hc hs H3 hcc hst G3
        by_cases hq : s = t
        · have q' : (s.toList == t.toList) = true := q.trans (decide_eq_true hq)
          have HQ := Lib.hid hq
          clear q hq
          go_wp2
          go_quiet (fail)
          go_wp2
          go_roundw
          case rel => exact ⟨k + 1, by omega, by go_num, by rw [take_snoc l k s HS.out, take_snoc m k t HT.out, HA.out, HQ.out], _, rfl⟩
          case measure => simp [intOf]; omega
        · have q' : (s.toList == t.toList) = false := q.trans (decide_eq_false hq)
          have HQ := Lib.hid hq
          clear q hq
          go_wp2
          go_quiet (fail)
          go_wp2
          go_ret
          refine ⟨ret_bool (decide_eq_false ?_).symm, _, World.drewN_drewN _ _ _⟩
          intro e
          have h1 := HS.out
          have h2 := HT.out
          rw [e, h2] at h1
          exact HQ.out (Option.some.inj h1).symm
      · have he : l = m := by
          have := HA.out
          rw [List.take_of_length_le (by have := HN.out; omega), List.take_of_length_le (by have := HN2.out; omega)] at this
          exact this
        have HE := Lib.hid he
        clear he
        go_wp2
        go_ret
        exact ⟨ret_bool (decide_eq_true HE.out).symm, _, rfl⟩
  · have q : ((n : Int) == (n2 : Int)) = false := beq_eq_false_iff_ne.2 (by omega)
    have H := Lib.hid hne
    clear hne
    go_enter Tryd.func19, Tryd.ntmps19
    go_wp2
    go_ret
    refine ⟨ret_bool (decide_eq_false ?_).symm, 0, rfl⟩
    intro e
    exact H.out (by rw [HN.out, HN2.out, e])
theorem sameTexts_any (v u : Value) (l m : List ByteArray) (w : World) (ht : Texts w v l) (hu : Texts w u m) :
    Calls Tryd.prog 19 #[v, u] w fun e w' => e = .returned (.bool (decide (l = m))) ∧ Below w.heap.size w w' :=
  (sameTexts_draws v u l m w ht hu).mono fun _ _ ⟨he, q, hw⟩ => ⟨he, hw ▸ below_drewN (Below.refl _ _) q⟩
theorem sameTexts_quiet (v u : Value) (l : List ByteArray) (w : World) (ht : Texts w v l) (hu : Texts w u l) :
    Calls Tryd.prog 19 #[v, u] w fun e w' => e = .returned (.bool true) ∧ ∃ q, w' = w.drewN q :=
  (sameTexts_draws v u l l w ht hu).mono fun _ _ ⟨he, q, hw⟩ => ⟨he.trans (ret_bool (decide_eq_true rfl)), q, hw⟩
theorem sameTexts_yes (v u : Value) (l : List ByteArray) (w : World) (ht : Texts w v l) (hu : Texts w u l) :
    Calls Tryd.prog 19 #[v, u] w fun e w' => e = .returned (.bool true) ∧ Below w.heap.size w w' := by
  refine (sameTexts_any v u l l w ht hu).mono ?_
  rintro e w' ⟨rfl, hb⟩
  exact ⟨ret_bool (decide_eq_true rfl), hb⟩
end Go.Proofs.YtcgpmnlondnbhaaDoor
