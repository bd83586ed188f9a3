/-
  The judge's walks: same, may; a log's answers.
-/
import Derived.Test.YtcgpmnlondnbhaaGreatDoorSameAns
import Derived.Test.YtcgpmnlondnbhaaGreatDoorKeyMap
namespace Go.Proofs.YtcgpmnlondnbhaaGreatDoor
open Go Go.RowKit Txt Sp

set_option maxHeartbeats 400000 in
theorem slicesEqual_draws (v u : Value) (l m : List ByteArray) (w : World) (ht : Texts w v l) (hu : Texts w u m) :
    Calls Tryz.prog 96 #[v, u] w fun e w' => e = .returned (.bool (decide (l = m))) ∧ ∃ q, w' = w.drewN q := by
  obtain ⟨ad, cap, rfl, h1, h2, h3⟩ := ht
  obtain ⟨ae, cae, rfl, g1, g2, g3⟩ := hu
  obtain ⟨n, hn⟩ : ∃ n, n = l.length := ⟨_, rfl⟩
  obtain ⟨n2, hn2⟩ : ∃ n, n = m.length := ⟨_, rfl⟩
  have hmax : n ≤ 9223372036854775807 := by unfold maxLen at h2; omega
  have hmax2 : n2 ≤ 9223372036854775807 := by unfold maxLen at g2; omega
  have HN := Lib.hid hn
  have HN2 := Lib.hid hn2
  have H3 := Lib.hid h3
  have G3 := Lib.hid g3
  rw [← hn, ← hn2]
  clear hn h1 h2 h3 hn2 g1 g2 g3
  by_cases hne : n = n2
  · subst hne
    go_enter Tryz.func96, Tryz.ntmps96
    go_wp2
    go_loopw [13] (fun i wr => ∃ k : Nat, k ≤ n ∧ i = .int .i64 k ∧ l.take k = m.take k ∧ ∃ q, wr = w.drewN q) (fun i _ => n - (intOf i).toNat)
    case atStart => exact ⟨0, Nat.zero_le _, rfl, rfl, 0, rfl⟩
    case round =>
      obtain ⟨k, hk, rfl, hall, q0, rfl⟩ := hrel
      have HA := Lib.hid hall
      clear hall
      by_cases hlt : k < n
      · obtain ⟨b, off, rfl, hb, hc⟩ := H3.out (by have := HN.out; omega)
        obtain ⟨c, offc, rfl, hbc, hcc⟩ := G3.out (by have := HN2.out; omega)
        obtain ⟨s, hs⟩ : ∃ s, l[k]? = some s := ⟨l[k]'(by have := HN.out; omega), by simp⟩
        obtain ⟨t, hst⟩ : ∃ s, m[k]? = some s := ⟨m[k]'(by have := HN2.out; omega), by simp⟩
        have hcell := hc k s hs
        have hcellt := hcc k t hst
        have HS := Lib.hid hs
        have HT := Lib.hid hst
        have q := text_eq s t
        clear hc hs H3 hcc hst G3
        by_cases hq : s = t
        · have q' : (s.toList == t.toList) = true := q.trans (decide_eq_true hq)
          have HQ := Lib.hid hq
          clear q hq
          go_wp2
          go_quiet (fail)
          go_wp2
          go_roundw
          case rel => exact ⟨k + 1, by omega, by go_num, by rw [take_snoc l k s HS.out, take_snoc m k t HT.out, HA.out, HQ.out], _, rfl⟩
          case measure => simp [intOf]; omega
        · have q' : (s.toList == t.toList) = false := q.trans (decide_eq_false hq)
          have HQ := Lib.hid hq
          clear q hq
          go_wp2
          go_quiet (fail)
          go_wp2
          go_ret
          refine ⟨ret_bool (decide_eq_false ?_).symm, _, World.drewN_drewN _ _ _⟩
          intro e
          have h1 := HS.out
          have h2 := HT.out
          rw [e, h2] at h1
          exact HQ.out (Option.some.inj h1).symm
      · have he : l = m := by
          have := HA.out
          rw [List.take_of_length_le (by have := HN.out; omega), List.take_of_length_le (by have := HN2.out; omega)] at this
          exact this
        have HE := Lib.hid he
        clear he
        go_wp2
        go_ret
        exact ⟨ret_bool (decide_eq_true HE.out).symm, _, rfl⟩
  · have q : ((n : Int) == (n2 : Int)) = false := beq_eq_false_iff_ne.2 (by omega)
    have H := Lib.hid hne
    clear hne
    go_enter Tryz.func96, Tryz.ntmps96
    go_wp2
    go_ret
    refine ⟨ret_bool (decide_eq_false ?_).symm, 0, rfl⟩
    intro e
    exact H.out (by rw [HN.out, HN2.out, e])
theorem slicesEqual_any (v u : Value) (l m : List ByteArray) (w : World) (ht : Texts w v l) (hu : Texts w u m) :
    Calls Tryz.prog 96 #[v, u] w fun e w' => e = .returned (.bool (decide (l = m))) ∧ Below w.heap.size w w' :=
  (slicesEqual_draws v u l m w ht hu).mono fun _ _ ⟨he, q, hw⟩ => ⟨he, hw ▸ below_drewN (Below.refl _ _) q⟩
section
set_option maxHeartbeats 1000000
theorem judgeSame_raw (w : World) (a b : Sp.Ans) (ad1 ad2 : Option Addr) (m1 m2 p1 p2 : Nat) (t1 : Texts w (.slice ad1 m1 p1) a.names) (t2 : Texts w (.slice ad2 m2 p2) b.names) :
    Calls Tryz.prog 72 #[.agg #[.int .i64 a.code, .int .i64 a.kind, .int .i64 a.links, .int .i64 a.size, .string a.data, .slice ad1 m1 p1], .agg #[.int .i64 b.code, .int .i64 b.kind, .int .i64 b.links, .int .i64 b.size, .string b.data, .slice ad2 m2 p2]] w
      (SamePost (a = b) w) := by
  obtain ⟨c1, k1, l1, s1, d1, x1⟩ := a
  obtain ⟨c2, k2, l2, s2, d2, x2⟩ := b
  simp only at t1 t2 ⊢
  have T1 := Lib.hid t1
  have T2 := Lib.hid t2
  clear t1 t2
  by_cases hc : c1 = c2
  rotate_left
  · have HNo : Hid ((⟨c1, k1, l1, s1, d1, x1⟩ : Sp.Ans) = ⟨c2, k2, l2, s2, d2, x2⟩ → False) := fun h => hc (congrArg Sp.Ans.code h)
    have f : (c1 == c2) = false := beq_eq_false_iff_ne.2 hc
    clear hc
    go_enter Tryz.func72, Tryz.ntmps72
    go_wp2
    go_ret
    exact ⟨false, rfl, (⟨fun h => (by cases h), fun h => (HNo.out h).elim⟩ : _ ↔ _), ((Below.refl w.heap.size w).alloc (Nat.le_refl _) _).alloc (by simp) _⟩
  subst hc
  by_cases hk : k1 = k2
  rotate_left
  · have HNo : Hid ((⟨c1, k1, l1, s1, d1, x1⟩ : Sp.Ans) = ⟨c1, k2, l2, s2, d2, x2⟩ → False) := fun h => hk (congrArg Sp.Ans.kind h)
    have f : (k1 == k2) = false := beq_eq_false_iff_ne.2 hk
    clear hk
    go_enter Tryz.func72, Tryz.ntmps72
    go_wp2
    go_ret
    exact ⟨false, rfl, (⟨fun h => (by cases h), fun h => (HNo.out h).elim⟩ : _ ↔ _), ((Below.refl w.heap.size w).alloc (Nat.le_refl _) _).alloc (by simp) _⟩
  subst hk
  by_cases hl : l1 = l2
  rotate_left
  · have HNo : Hid ((⟨c1, k1, l1, s1, d1, x1⟩ : Sp.Ans) = ⟨c1, k1, l2, s2, d2, x2⟩ → False) := fun h => hl (congrArg Sp.Ans.links h)
    have f : (l1 == l2) = false := beq_eq_false_iff_ne.2 hl
    clear hl
    go_enter Tryz.func72, Tryz.ntmps72
    go_wp2
    go_ret
    exact ⟨false, rfl, (⟨fun h => (by cases h), fun h => (HNo.out h).elim⟩ : _ ↔ _), ((Below.refl w.heap.size w).alloc (Nat.le_refl _) _).alloc (by simp) _⟩
  subst hl
  by_cases hs : s1 = s2
  rotate_left
  · have HNo : Hid ((⟨c1, k1, l1, s1, d1, x1⟩ : Sp.Ans) = ⟨c1, k1, l1, s2, d2, x2⟩ → False) := fun h => hs (congrArg Sp.Ans.size h)
    have f : (s1 == s2) = false := beq_eq_false_iff_ne.2 hs
    clear hs
    go_enter Tryz.func72, Tryz.ntmps72
    go_wp2
    go_ret
    exact ⟨false, rfl, (⟨fun h => (by cases h), fun h => (HNo.out h).elim⟩ : _ ↔ _), ((Below.refl w.heap.size w).alloc (Nat.le_refl _) _).alloc (by simp) _⟩
  subst hs
  have q := text_eq d1 d2
  by_cases hd : d1 = d2
  rotate_left
  · have HNo : Hid ((⟨c1, k1, l1, s1, d1, x1⟩ : Sp.Ans) = ⟨c1, k1, l1, s1, d2, x2⟩ → False) := fun h => hd (congrArg Sp.Ans.data h)
    have f : (d1.toList == d2.toList) = false := q.trans (decide_eq_false hd)
    clear hd q
    go_enter Tryz.func72, Tryz.ntmps72
    go_wp2
    go_ret
    exact ⟨false, rfl, (⟨fun h => (by cases h), fun h => (HNo.out h).elim⟩ : _ ↔ _), ((Below.refl w.heap.size w).alloc (Nat.le_refl _) _).alloc (by simp) _⟩
  subst hd
  have f : (d1.toList == d1.toList) = true := q.trans (decide_eq_true rfl)
  clear q
  have HB : Hid (Below w.heap.size w ((w.alloc (.cells #[.int .i64 c1, .int .i64 k1, .int .i64 l1, .int .i64 s1, .string d1, .slice ad1 m1 p1] 32)).alloc (.cells #[.int .i64 c1, .int .i64 k1, .int .i64 l1, .int .i64 s1, .string d1, .slice ad2 m2 p2] 32))) :=
    ((Below.refl w.heap.size w).alloc (Nat.le_refl _) _).alloc (by simp) _
  go_enter Tryz.func72, Tryz.ntmps72
  go_wp2_with fail
  refine (slicesEqual_any _ _ x1 x2 _ (T1.out.below HB.out) (T2.out.below HB.out)).mono ?_
  rintro e w1 ⟨rfl, hb⟩
  have HB1 := Lib.hid (below_next HB.out hb)
  clear hb
  by_cases hx : x1 = x2
  · subst hx
    rw [decide_eq_true rfl]
    go_wp2
    go_ret
    exact ⟨true, rfl, (⟨fun _ => by trivial, fun _ => rfl⟩ : _ ↔ _), HB1.out⟩
  · have HNo : Hid ((⟨c1, k1, l1, s1, d1, x1⟩ : Sp.Ans) = ⟨c1, k1, l1, s1, d1, x2⟩ → False) := fun h => hx (congrArg Sp.Ans.names h)
    rw [decide_eq_false hx]
    clear hx
    go_wp2
    go_ret
    exact ⟨false, rfl, (⟨fun h => (by cases h), fun h => (HNo.out h).elim⟩ : _ ↔ _), HB1.out⟩
theorem judgeSame_any (w : World) {a b : Sp.Ans} {v u : Value} (h1 : AnsV w v a) (h2 : AnsV w u b) : Calls Tryz.prog 72 #[v, u] w (SamePost (a = b) w) := by
  obtain ⟨n1, rfl, t1⟩ := h1
  obtain ⟨n2, rfl, t2⟩ := h2
  obtain ⟨ad1, p1, rfl, _⟩ := id t1
  obtain ⟨ad2, p2, rfl, _⟩ := id t2
  exact judgeSame_raw w a b _ _ _ _ _ _ t1 t2
end
end Go.Proofs.YtcgpmnlondnbhaaGreatDoor
