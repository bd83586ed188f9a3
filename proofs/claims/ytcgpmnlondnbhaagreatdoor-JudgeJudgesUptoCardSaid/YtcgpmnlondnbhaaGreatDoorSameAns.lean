/-
  SameAnswer: whether two answers are the same.
-/
import Derived.Test.YtcgpmnlondnbhaaGreatDoorTreeC
import Derived.Test.YtcgpmnlondnbhaaGreatDoorNamesA
namespace Go.Proofs.YtcgpmnlondnbhaaGreatDoor
open Go Go.RowKit Txt Sp

/-- A test's answer: true just if p. -/
def SamePost (p : Prop) (w : World) (e : Ending) (w' : World) : Prop := ∃ r, e = .returned (.bool r) ∧ (r = true ↔ p) ∧ Below w.heap.size w w'

section
set_option maxHeartbeats 1000000
theorem sameAns_raw (w : World) (a b : Sp.Ans) (ad1 ad2 : Option Addr) (m1 m2 p1 p2 : Nat) (t1 : Texts w (.slice ad1 m1 p1) a.names) (t2 : Texts w (.slice ad2 m2 p2) b.names) :
    Calls Tryz.prog 11 #[.agg #[.int .i64 a.code, .int .i64 a.kind, .int .i64 a.links, .int .i64 a.size, .string a.data, .slice ad1 m1 p1], .agg #[.int .i64 b.code, .int .i64 b.kind, .int .i64 b.links, .int .i64 b.size, .string b.data, .slice ad2 m2 p2]] w
      (SamePost (a = b) w) := by
  obtain ⟨c1, k1, l1, s1, d1, x1⟩ := a
  obtain ⟨c2, k2, l2, s2, d2, x2⟩ := b
  simp only at t1 t2 ⊢
  have T1 := Lib.hid t1
  have T2 := Lib.hid t2
  clear t1 t2
  by_cases hc : c1 = c2
  rotate_left
  · have HNo : Hid ((⟨c1, k1, l1, s1, d1, x1⟩ : Sp.Ans) = ⟨c2, k2, l2, s2, d2, x2⟩ → False) := fun h => hc (congrArg Sp.Ans.code h)
    have f : (c1 == c2) = false := beq_eq_false_iff_ne.2 hc
    clear hc
    go_enter Tryz.func11, Tryz.ntmps11
    go_wp2
    go_ret
    exact ⟨false, rfl, (⟨fun h => (by cases h), fun h => (HNo.out h).elim⟩ : _ ↔ _), ((Below.refl w.heap.size w).alloc (Nat.le_refl _) _).alloc (by simp) _⟩
  subst hc
  by_cases hk : k1 = k2
  rotate_left
  · have HNo : Hid ((⟨c1, k1, l1, s1, d1, x1⟩ : Sp.Ans) = ⟨c1, k2, l2, s2, d2, x2⟩ → False) := fun h => hk (congrArg Sp.Ans.kind h)
    have f : (k1 == k2) = false := beq_eq_false_iff_ne.2 hk
    clear hk
    go_enter Tryz.func11, Tryz.ntmps11
    go_wp2
    go_ret
    exact ⟨false, rfl, (⟨fun h => (by cases h), fun h => (HNo.out h).elim⟩ : _ ↔ _), ((Below.refl w.heap.size w).alloc (Nat.le_refl _) _).alloc (by simp) _⟩
  subst hk
  by_cases hl : l1 = l2
  rotate_left
  · have HNo : Hid ((⟨c1, k1, l1, s1, d1, x1⟩ : Sp.Ans) = ⟨c1, k1, l2, s2, d2, x2⟩ → False) := fun h => hl (congrArg Sp.Ans.links h)
    have f : (l1 == l2) = false := beq_eq_false_iff_ne.2 hl
    clear hl
    go_enter Tryz.func11, Tryz.ntmps11
    go_wp2
    go_ret
    exact ⟨false, rfl, (⟨fun h => (by cases h), fun h => (HNo.out h).elim⟩ : _ ↔ _), ((Below.refl w.heap.size w).alloc (Nat.le_refl _) _).alloc (by simp) _⟩
  subst hl
  by_cases hs : s1 = s2
  rotate_left
  · have HNo : Hid ((⟨c1, k1, l1, s1, d1, x1⟩ : Sp.Ans) = ⟨c1, k1, l1, s2, d2, x2⟩ → False) := fun h => hs (congrArg Sp.Ans.size h)
    have f : (s1 == s2) = false := beq_eq_false_iff_ne.2 hs
    clear hs
    go_enter Tryz.func11, Tryz.ntmps11
    go_wp2
    go_ret
    exact ⟨false, rfl, (⟨fun h => (by cases h), fun h => (HNo.out h).elim⟩ : _ ↔ _), ((Below.refl w.heap.size w).alloc (Nat.le_refl _) _).alloc (by simp) _⟩
  subst hs
  have q := text_eq d1 d2
  by_cases hd : d1 = d2
  rotate_left
  · have HNo : Hid ((⟨c1, k1, l1, s1, d1, x1⟩ : Sp.Ans) = ⟨c1, k1, l1, s1, d2, x2⟩ → False) := fun h => hd (congrArg Sp.Ans.data h)
    have f : (d1.toList == d2.toList) = false := q.trans (decide_eq_false hd)
    clear hd q
    go_enter Tryz.func11, Tryz.ntmps11
    go_wp2
    go_ret
    exact ⟨false, rfl, (⟨fun h => (by cases h), fun h => (HNo.out h).elim⟩ : _ ↔ _), ((Below.refl w.heap.size w).alloc (Nat.le_refl _) _).alloc (by simp) _⟩
  subst hd
  have f : (d1.toList == d1.toList) = true := q.trans (decide_eq_true rfl)
  clear q
  have HB : Hid (Below w.heap.size w ((w.alloc (.cells #[.int .i64 c1, .int .i64 k1, .int .i64 l1, .int .i64 s1, .string d1, .slice ad1 m1 p1] 32)).alloc (.cells #[.int .i64 c1, .int .i64 k1, .int .i64 l1, .int .i64 s1, .string d1, .slice ad2 m2 p2] 32))) :=
    ((Below.refl w.heap.size w).alloc (Nat.le_refl _) _).alloc (by simp) _
  go_enter Tryz.func11, Tryz.ntmps11
  go_wp2_with fail
  refine (sameTexts_any _ _ x1 x2 _ (T1.out.below HB.out) (T2.out.below HB.out)).mono ?_
  rintro e w1 ⟨rfl, hb⟩
  have HB1 := Lib.hid (below_next HB.out hb)
  clear hb
  by_cases hx : x1 = x2
  · subst hx
    rw [decide_eq_true rfl]
    go_wp2
    go_ret
    exact ⟨true, rfl, (⟨fun _ => by trivial, fun _ => rfl⟩ : _ ↔ _), HB1.out⟩
  · have HNo : Hid ((⟨c1, k1, l1, s1, d1, x1⟩ : Sp.Ans) = ⟨c1, k1, l1, s1, d1, x2⟩ → False) := fun h => hx (congrArg Sp.Ans.names h)
    rw [decide_eq_false hx]
    clear hx
    go_wp2
    go_ret
    exact ⟨false, rfl, (⟨fun h => (by cases h), fun h => (HNo.out h).elim⟩ : _ ↔ _), HB1.out⟩
theorem sameAns_any (w : World) {a b : Sp.Ans} {v u : Value} (h1 : AnsV w v a) (h2 : AnsV w u b) : Calls Tryz.prog 11 #[v, u] w (SamePost (a = b) w) := by
  obtain ⟨n1, rfl, t1⟩ := h1
  obtain ⟨n2, rfl, t2⟩ := h2
  obtain ⟨ad1, p1, rfl, _⟩ := id t1
  obtain ⟨ad2, p2, rfl, _⟩ := id t2
  exact sameAns_raw w a b _ _ _ _ _ _ t1 t2
end
end Go.Proofs.YtcgpmnlondnbhaaGreatDoor
