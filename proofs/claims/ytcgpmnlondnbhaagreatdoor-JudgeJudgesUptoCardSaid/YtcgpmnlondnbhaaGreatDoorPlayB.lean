/-
  PlayB: RefSame27, RefPlay27.
-/
import Derived.Test.YtcgpmnlondnbhaaGreatDoorJudgeSame
import Derived.Test.YtcgpmnlondnbhaaGreatDoorAppendSrc
import Derived.Deep.QuietTactic
import Derived.BigQuiet
import Derived.Test.YtcgpmnlondnbhaaGreatDoorSpPlays
import Derived.Test.YtcgpmnlondnbhaaGreatDoorAskA
import Derived.Test.YtcgpmnlondnbhaaGreatDoorJudgeCheck
namespace Go.Proofs.YtcgpmnlondnbhaaGreatDoor
open Go Go.RowKit Txt Sp

section
set_option maxHeartbeats 4000000
set_option maxRecDepth 20000 in
theorem rsame_eq (w : World) (c1 k1 l1 s1 c2 k2 l2 s2 : Int) (d1 d2 : ByteArray) (x1 : List ByteArray) (ad1 ad2 : Option Addr) (n p1 p2 : Nat) (t1 : Texts w (.slice ad1 n p1) x1) (t2 : Texts w (.slice ad2 n p2) x1) :
    Calls Tryz.prog 73 #[.agg #[.int .i64 c1, .int .i64 k1, .int .i64 l1, .int .i64 s1, .string d1, .slice ad1 n p1], .agg #[.int .i64 c2, .int .i64 k2, .int .i64 l2, .int .i64 s2, .string d2, .slice ad2 n p2]] w
      (SamePost ((⟨c1, k1, l1, s1, d1, x1⟩ : Sp.Ans) = ⟨c2, k2, l2, s2, d2, x1⟩) w) := by
  obtain ⟨_, _, e1, g1, g2, h1⟩ := t1
  obtain ⟨_, _, e2, _, _, h2⟩ := t2
  injection e1 with e1 e3 e4
  injection e2 with e2 e5 e6
  subst e1 e2 e4 e6
  have HN := Lib.hid e3.symm
  have H1 := Lib.hid h1
  have H2 := Lib.hid h2
  have hmax : n ≤ 9223372036854775807 := by unfold maxLen at g2; omega
  clear e3 e5 g1 g2 h1 h2
  by_cases hc : c1 = c2
  rotate_left
  · have HR : Hid (false = true ↔ (⟨c1, k1, l1, s1, d1, x1⟩ : Sp.Ans) = ⟨c2, k2, l2, s2, d2, x1⟩) := ⟨fun h => (by cases h), fun h => absurd (congrArg Sp.Ans.code h) hc⟩
    have fc : (c1 == c2) = false := beq_eq_false_iff_ne.2 hc
    clear hc
    obtain ⟨W, hW⟩ : ∃ W, (w.alloc (.cells #[.int .i64 c1, .int .i64 k1, .int .i64 l1, .int .i64 s1, .string d1, .slice ad1 n p1] 32)).alloc (.cells #[.int .i64 c2, .int .i64 k2, .int .i64 l2, .int .i64 s2, .string d2, .slice ad2 n p2] 32) = W := ⟨_, rfl⟩
    have HB : Hid (Below w.heap.size w W) := by show Below _ _ _; rw [← hW]; exact ((Below.refl w.heap.size w).alloc (Nat.le_refl _) _).alloc (by simp) _
    have hzA : W.heap[w.heap.size]? = some (.cells #[.int .i64 c1, .int .i64 k1, .int .i64 l1, .int .i64 s1, .string d1, .slice ad1 n p1] 32 (0, 0)) := by
      rw [← hW]
      exact heap_below ((Below.refl (w.alloc _).heap.size (w.alloc _)).alloc (Nat.le_refl _) _) _ _ (heap_alloc_new w _)
    have hzB : W.heap[w.heap.size + 1]? = some (.cells #[.int .i64 c2, .int .i64 k2, .int .i64 l2, .int .i64 s2, .string d2, .slice ad2 n p2] 32 (0, 0)) := by
      rw [← hW]
      exact alloc_at (by simp) _
    have z0 := cell_of_heap (k := 0) hzA rfl
    have z1 := cell_of_heap (k := 1) hzA rfl
    have z2 := cell_of_heap (k := 2) hzA rfl
    have z3 := cell_of_heap (k := 3) hzA rfl
    have z4 := cell_of_heap (k := 4) hzA rfl
    have z5 := cell_of_heap (k := 5) hzA rfl
    have y0 := cell_of_heap (k := 0) hzB rfl
    have y1 := cell_of_heap (k := 1) hzB rfl
    have y2 := cell_of_heap (k := 2) hzB rfl
    have y3 := cell_of_heap (k := 3) hzB rfl
    have y4 := cell_of_heap (k := 4) hzB rfl
    have y5 := cell_of_heap (k := 5) hzB rfl
    clear hzA hzB
    go_enter Tryz.func73, Tryz.ntmps73
    go_wp2
    go_loopw [5] (fun i wr => ∃ k : Nat, k ≤ n ∧ i = .int .i64 k ∧ ∃ q, wr = W.drewN q) (fun i _ => n - (intOf i).toNat)
    case atStart => exact ⟨0, Nat.zero_le _, rfl, 0, rfl⟩
    case round =>
      obtain ⟨k, hk, rfl, q0, rfl⟩ := hrel
      by_cases hlt : k < n
      · obtain ⟨b, off, rfl, hb, hc⟩ := H1.out (by have := HN.out; omega)
        obtain ⟨c, offc, rfl, hbc, hcc⟩ := H2.out (by have := HN.out; omega)
        obtain ⟨s, hs⟩ : ∃ s, x1[k]? = some s := ⟨x1[k]'(by have := HN.out; omega), by simp⟩
        have hcell := (HB.out.cell (p := ⟨b, off + k, none⟩) hb).trans (hc k s hs)
        have hcellt := (HB.out.cell (p := ⟨c, offc + k, none⟩) hbc).trans (hcc k s hs)
        have q' : (s.toList == s.toList) = true := (text_eq s s).trans (decide_eq_true rfl)
        have hk0 : (0 : Int) ≤ (k : Int) := by omega
        have hk1 : (k : Int) < (n : Int) := by omega
        clear hc hs hcc
        go_wp2
        go_quiet (fail)
        go_wp2
        go_roundw
        case rel => exact ⟨k + 1, by omega, by go_num, _, rfl⟩
        case measure => simp [intOf]; omega
      · go_wp2
        go_ret
        exact ⟨_, rfl, (by first | exact HR.out | (have h := HR.out; simpa using h)), below_drewN HB.out _⟩
  have fc : (c1 == c2) = true := beq_iff_eq.2 hc
  have Ec := Lib.hid hc
  clear hc
  by_cases hk : k1 = k2
  rotate_left
  · have HR : Hid (false = true ↔ (⟨c1, k1, l1, s1, d1, x1⟩ : Sp.Ans) = ⟨c2, k2, l2, s2, d2, x1⟩) := ⟨fun h => (by cases h), fun h => absurd (congrArg Sp.Ans.kind h) hk⟩
    have fk : (k1 == k2) = false := beq_eq_false_iff_ne.2 hk
    clear hk
    obtain ⟨W, hW⟩ : ∃ W, (w.alloc (.cells #[.int .i64 c1, .int .i64 k1, .int .i64 l1, .int .i64 s1, .string d1, .slice ad1 n p1] 32)).alloc (.cells #[.int .i64 c2, .int .i64 k2, .int .i64 l2, .int .i64 s2, .string d2, .slice ad2 n p2] 32) = W := ⟨_, rfl⟩
    have HB : Hid (Below w.heap.size w W) := by show Below _ _ _; rw [← hW]; exact ((Below.refl w.heap.size w).alloc (Nat.le_refl _) _).alloc (by simp) _
    have hzA : W.heap[w.heap.size]? = some (.cells #[.int .i64 c1, .int .i64 k1, .int .i64 l1, .int .i64 s1, .string d1, .slice ad1 n p1] 32 (0, 0)) := by
      rw [← hW]
      exact heap_below ((Below.refl (w.alloc _).heap.size (w.alloc _)).alloc (Nat.le_refl _) _) _ _ (heap_alloc_new w _)
    have hzB : W.heap[w.heap.size + 1]? = some (.cells #[.int .i64 c2, .int .i64 k2, .int .i64 l2, .int .i64 s2, .string d2, .slice ad2 n p2] 32 (0, 0)) := by
      rw [← hW]
      exact alloc_at (by simp) _
    have z0 := cell_of_heap (k := 0) hzA rfl
    have z1 := cell_of_heap (k := 1) hzA rfl
    have z2 := cell_of_heap (k := 2) hzA rfl
    have z3 := cell_of_heap (k := 3) hzA rfl
    have z4 := cell_of_heap (k := 4) hzA rfl
    have z5 := cell_of_heap (k := 5) hzA rfl
    have y0 := cell_of_heap (k := 0) hzB rfl
    have y1 := cell_of_heap (k := 1) hzB rfl
    have y2 := cell_of_heap (k := 2) hzB rfl
    have y3 := cell_of_heap (k := 3) hzB rfl
    have y4 := cell_of_heap (k := 4) hzB rfl
    have y5 := cell_of_heap (k := 5) hzB rfl
    clear hzA hzB
    go_enter Tryz.func73, Tryz.ntmps73
    go_wp2
    go_loopw [5] (fun i wr => ∃ k : Nat, k ≤ n ∧ i = .int .i64 k ∧ ∃ q, wr = W.drewN q) (fun i _ => n - (intOf i).toNat)
    case atStart => exact ⟨0, Nat.zero_le _, rfl, 0, rfl⟩
    case round =>
      obtain ⟨k, hk, rfl, q0, rfl⟩ := hrel
      by_cases hlt : k < n
      · obtain ⟨b, off, rfl, hb, hc⟩ := H1.out (by have := HN.out; omega)
        obtain ⟨c, offc, rfl, hbc, hcc⟩ := H2.out (by have := HN.out; omega)
        obtain ⟨s, hs⟩ : ∃ s, x1[k]? = some s := ⟨x1[k]'(by have := HN.out; omega), by simp⟩
        have hcell := (HB.out.cell (p := ⟨b, off + k, none⟩) hb).trans (hc k s hs)
        have hcellt := (HB.out.cell (p := ⟨c, offc + k, none⟩) hbc).trans (hcc k s hs)
        have q' : (s.toList == s.toList) = true := (text_eq s s).trans (decide_eq_true rfl)
        have hk0 : (0 : Int) ≤ (k : Int) := by omega
        have hk1 : (k : Int) < (n : Int) := by omega
        clear hc hs hcc
        go_wp2
        go_quiet (fail)
        go_wp2
        go_roundw
        case rel => exact ⟨k + 1, by omega, by go_num, _, rfl⟩
        case measure => simp [intOf]; omega
      · go_wp2
        go_ret
        exact ⟨_, rfl, (by first | exact HR.out | (have h := HR.out; simpa using h)), below_drewN HB.out _⟩
  have fk : (k1 == k2) = true := beq_iff_eq.2 hk
  have Ek := Lib.hid hk
  clear hk
  by_cases hl : l1 = l2
  rotate_left
  · have HR : Hid (false = true ↔ (⟨c1, k1, l1, s1, d1, x1⟩ : Sp.Ans) = ⟨c2, k2, l2, s2, d2, x1⟩) := ⟨fun h => (by cases h), fun h => absurd (congrArg Sp.Ans.links h) hl⟩
    have fl : (l1 == l2) = false := beq_eq_false_iff_ne.2 hl
    clear hl
    obtain ⟨W, hW⟩ : ∃ W, (w.alloc (.cells #[.int .i64 c1, .int .i64 k1, .int .i64 l1, .int .i64 s1, .string d1, .slice ad1 n p1] 32)).alloc (.cells #[.int .i64 c2, .int .i64 k2, .int .i64 l2, .int .i64 s2, .string d2, .slice ad2 n p2] 32) = W := ⟨_, rfl⟩
    have HB : Hid (Below w.heap.size w W) := by show Below _ _ _; rw [← hW]; exact ((Below.refl w.heap.size w).alloc (Nat.le_refl _) _).alloc (by simp) _
    have hzA : W.heap[w.heap.size]? = some (.cells #[.int .i64 c1, .int .i64 k1, .int .i64 l1, .int .i64 s1, .string d1, .slice ad1 n p1] 32 (0, 0)) := by
      rw [← hW]
      exact heap_below ((Below.refl (w.alloc _).heap.size (w.alloc _)).alloc (Nat.le_refl _) _) _ _ (heap_alloc_new w _)
    have hzB : W.heap[w.heap.size + 1]? = some (.cells #[.int .i64 c2, .int .i64 k2, .int .i64 l2, .int .i64 s2, .string d2, .slice ad2 n p2] 32 (0, 0)) := by
      rw [← hW]
      exact alloc_at (by simp) _
    have z0 := cell_of_heap (k := 0) hzA rfl
    have z1 := cell_of_heap (k := 1) hzA rfl
    have z2 := cell_of_heap (k := 2) hzA rfl
    have z3 := cell_of_heap (k := 3) hzA rfl
    have z4 := cell_of_heap (k := 4) hzA rfl
    have z5 := cell_of_heap (k := 5) hzA rfl
    have y0 := cell_of_heap (k := 0) hzB rfl
    have y1 := cell_of_heap (k := 1) hzB rfl
    have y2 := cell_of_heap (k := 2) hzB rfl
    have y3 := cell_of_heap (k := 3) hzB rfl
    have y4 := cell_of_heap (k := 4) hzB rfl
    have y5 := cell_of_heap (k := 5) hzB rfl
    clear hzA hzB
    go_enter Tryz.func73, Tryz.ntmps73
    go_wp2
    go_loopw [5] (fun i wr => ∃ k : Nat, k ≤ n ∧ i = .int .i64 k ∧ ∃ q, wr = W.drewN q) (fun i _ => n - (intOf i).toNat)
    case atStart => exact ⟨0, Nat.zero_le _, rfl, 0, rfl⟩
    case round =>
      obtain ⟨k, hk, rfl, q0, rfl⟩ := hrel
      by_cases hlt : k < n
      · obtain ⟨b, off, rfl, hb, hc⟩ := H1.out (by have := HN.out; omega)
        obtain ⟨c, offc, rfl, hbc, hcc⟩ := H2.out (by have := HN.out; omega)
        obtain ⟨s, hs⟩ : ∃ s, x1[k]? = some s := ⟨x1[k]'(by have := HN.out; omega), by simp⟩
        have hcell := (HB.out.cell (p := ⟨b, off + k, none⟩) hb).trans (hc k s hs)
        have hcellt := (HB.out.cell (p := ⟨c, offc + k, none⟩) hbc).trans (hcc k s hs)
        have q' : (s.toList == s.toList) = true := (text_eq s s).trans (decide_eq_true rfl)
        have hk0 : (0 : Int) ≤ (k : Int) := by omega
        have hk1 : (k : Int) < (n : Int) := by omega
        clear hc hs hcc
        go_wp2
        go_quiet (fail)
        go_wp2
        go_roundw
        case rel => exact ⟨k + 1, by omega, by go_num, _, rfl⟩
        case measure => simp [intOf]; omega
      · go_wp2
        go_ret
        exact ⟨_, rfl, (by first | exact HR.out | (have h := HR.out; simpa using h)), below_drewN HB.out _⟩
  have fl : (l1 == l2) = true := beq_iff_eq.2 hl
  have El := Lib.hid hl
  clear hl
  by_cases hs : s1 = s2
  rotate_left
  · have HR : Hid (false = true ↔ (⟨c1, k1, l1, s1, d1, x1⟩ : Sp.Ans) = ⟨c2, k2, l2, s2, d2, x1⟩) := ⟨fun h => (by cases h), fun h => absurd (congrArg Sp.Ans.size h) hs⟩
    have fs : (s1 == s2) = false := beq_eq_false_iff_ne.2 hs
    clear hs
    obtain ⟨W, hW⟩ : ∃ W, (w.alloc (.cells #[.int .i64 c1, .int .i64 k1, .int .i64 l1, .int .i64 s1, .string d1, .slice ad1 n p1] 32)).alloc (.cells #[.int .i64 c2, .int .i64 k2, .int .i64 l2, .int .i64 s2, .string d2, .slice ad2 n p2] 32) = W := ⟨_, rfl⟩
    have HB : Hid (Below w.heap.size w W) := by show Below _ _ _; rw [← hW]; exact ((Below.refl w.heap.size w).alloc (Nat.le_refl _) _).alloc (by simp) _
    have hzA : W.heap[w.heap.size]? = some (.cells #[.int .i64 c1, .int .i64 k1, .int .i64 l1, .int .i64 s1, .string d1, .slice ad1 n p1] 32 (0, 0)) := by
      rw [← hW]
      exact heap_below ((Below.refl (w.alloc _).heap.size (w.alloc _)).alloc (Nat.le_refl _) _) _ _ (heap_alloc_new w _)
    have hzB : W.heap[w.heap.size + 1]? = some (.cells #[.int .i64 c2, .int .i64 k2, .int .i64 l2, .int .i64 s2, .string d2, .slice ad2 n p2] 32 (0, 0)) := by
      rw [← hW]
      exact alloc_at (by simp) _
    have z0 := cell_of_heap (k := 0) hzA rfl
    have z1 := cell_of_heap (k := 1) hzA rfl
    have z2 := cell_of_heap (k := 2) hzA rfl
    have z3 := cell_of_heap (k := 3) hzA rfl
    have z4 := cell_of_heap (k := 4) hzA rfl
    have z5 := cell_of_heap (k := 5) hzA rfl
    have y0 := cell_of_heap (k := 0) hzB rfl
    have y1 := cell_of_heap (k := 1) hzB rfl
    have y2 := cell_of_heap (k := 2) hzB rfl
    have y3 := cell_of_heap (k := 3) hzB rfl
    have y4 := cell_of_heap (k := 4) hzB rfl
    have y5 := cell_of_heap (k := 5) hzB rfl
    clear hzA hzB
    go_enter Tryz.func73, Tryz.ntmps73
    go_wp2
    go_loopw [5] (fun i wr => ∃ k : Nat, k ≤ n ∧ i = .int .i64 k ∧ ∃ q, wr = W.drewN q) (fun i _ => n - (intOf i).toNat)
    case atStart => exact ⟨0, Nat.zero_le _, rfl, 0, rfl⟩
    case round =>
      obtain ⟨k, hk, rfl, q0, rfl⟩ := hrel
      by_cases hlt : k < n
      · obtain ⟨b, off, rfl, hb, hc⟩ := H1.out (by have := HN.out; omega)
        obtain ⟨c, offc, rfl, hbc, hcc⟩ := H2.out (by have := HN.out; omega)
        obtain ⟨s, hs⟩ : ∃ s, x1[k]? = some s := ⟨x1[k]'(by have := HN.out; omega), by simp⟩
        have hcell := (HB.out.cell (p := ⟨b, off + k, none⟩) hb).trans (hc k s hs)
        have hcellt := (HB.out.cell (p := ⟨c, offc + k, none⟩) hbc).trans (hcc k s hs)
        have q' : (s.toList == s.toList) = true := (text_eq s s).trans (decide_eq_true rfl)
        have hk0 : (0 : Int) ≤ (k : Int) := by omega
        have hk1 : (k : Int) < (n : Int) := by omega
        clear hc hs hcc
        go_wp2
        go_quiet (fail)
        go_wp2
        go_roundw
        case rel => exact ⟨k + 1, by omega, by go_num, _, rfl⟩
        case measure => simp [intOf]; omega
      · go_wp2
        go_ret
        exact ⟨_, rfl, (by first | exact HR.out | (have h := HR.out; simpa using h)), below_drewN HB.out _⟩
  have fs : (s1 == s2) = true := beq_iff_eq.2 hs
  have Es := Lib.hid hs
  clear hs
  have q := text_eq d1 d2
  by_cases hd : d1 = d2
  rotate_left
  · have HR : Hid (false = true ↔ (⟨c1, k1, l1, s1, d1, x1⟩ : Sp.Ans) = ⟨c2, k2, l2, s2, d2, x1⟩) := ⟨fun h => (by cases h), fun h => absurd (congrArg Sp.Ans.data h) hd⟩
    have fd : (d1.toList == d2.toList) = false := q.trans (decide_eq_false hd)
    clear hd q
    obtain ⟨W, hW⟩ : ∃ W, (w.alloc (.cells #[.int .i64 c1, .int .i64 k1, .int .i64 l1, .int .i64 s1, .string d1, .slice ad1 n p1] 32)).alloc (.cells #[.int .i64 c2, .int .i64 k2, .int .i64 l2, .int .i64 s2, .string d2, .slice ad2 n p2] 32) = W := ⟨_, rfl⟩
    have HB : Hid (Below w.heap.size w W) := by show Below _ _ _; rw [← hW]; exact ((Below.refl w.heap.size w).alloc (Nat.le_refl _) _).alloc (by simp) _
    have hzA : W.heap[w.heap.size]? = some (.cells #[.int .i64 c1, .int .i64 k1, .int .i64 l1, .int .i64 s1, .string d1, .slice ad1 n p1] 32 (0, 0)) := by
      rw [← hW]
      exact heap_below ((Below.refl (w.alloc _).heap.size (w.alloc _)).alloc (Nat.le_refl _) _) _ _ (heap_alloc_new w _)
    have hzB : W.heap[w.heap.size + 1]? = some (.cells #[.int .i64 c2, .int .i64 k2, .int .i64 l2, .int .i64 s2, .string d2, .slice ad2 n p2] 32 (0, 0)) := by
      rw [← hW]
      exact alloc_at (by simp) _
    have z0 := cell_of_heap (k := 0) hzA rfl
    have z1 := cell_of_heap (k := 1) hzA rfl
    have z2 := cell_of_heap (k := 2) hzA rfl
    have z3 := cell_of_heap (k := 3) hzA rfl
    have z4 := cell_of_heap (k := 4) hzA rfl
    have z5 := cell_of_heap (k := 5) hzA rfl
    have y0 := cell_of_heap (k := 0) hzB rfl
    have y1 := cell_of_heap (k := 1) hzB rfl
    have y2 := cell_of_heap (k := 2) hzB rfl
    have y3 := cell_of_heap (k := 3) hzB rfl
    have y4 := cell_of_heap (k := 4) hzB rfl
    have y5 := cell_of_heap (k := 5) hzB rfl
    clear hzA hzB
    go_enter Tryz.func73, Tryz.ntmps73
    go_wp2
    go_loopw [5] (fun i wr => ∃ k : Nat, k ≤ n ∧ i = .int .i64 k ∧ ∃ q, wr = W.drewN q) (fun i _ => n - (intOf i).toNat)
    case atStart => exact ⟨0, Nat.zero_le _, rfl, 0, rfl⟩
    case round =>
      obtain ⟨k, hk, rfl, q0, rfl⟩ := hrel
      by_cases hlt : k < n
      · obtain ⟨b, off, rfl, hb, hc⟩ := H1.out (by have := HN.out; omega)
        obtain ⟨c, offc, rfl, hbc, hcc⟩ := H2.out (by have := HN.out; omega)
        obtain ⟨s, hs⟩ : ∃ s, x1[k]? = some s := ⟨x1[k]'(by have := HN.out; omega), by simp⟩
        have hcell := (HB.out.cell (p := ⟨b, off + k, none⟩) hb).trans (hc k s hs)
        have hcellt := (HB.out.cell (p := ⟨c, offc + k, none⟩) hbc).trans (hcc k s hs)
        have q' : (s.toList == s.toList) = true := (text_eq s s).trans (decide_eq_true rfl)
        have hk0 : (0 : Int) ≤ (k : Int) := by omega
        have hk1 : (k : Int) < (n : Int) := by omega
        clear hc hs hcc
        go_wp2
        go_quiet (fail)
        go_wp2
        go_roundw
        case rel => exact ⟨k + 1, by omega, by go_num, _, rfl⟩
        case measure => simp [intOf]; omega
      · go_wp2
        go_ret
        exact ⟨_, rfl, (by first | exact HR.out | (have h := HR.out; simpa using h)), below_drewN HB.out _⟩
  have fd : (d1.toList == d2.toList) = true := q.trans (decide_eq_true hd)
  have HR : Hid (true = true ↔ (⟨c1, k1, l1, s1, d1, x1⟩ : Sp.Ans) = ⟨c2, k2, l2, s2, d2, x1⟩) := ⟨fun _ => by rw [Ec.out, Ek.out, El.out, Es.out, hd], fun _ => rfl⟩
  clear hd q
  obtain ⟨W, hW⟩ : ∃ W, (w.alloc (.cells #[.int .i64 c1, .int .i64 k1, .int .i64 l1, .int .i64 s1, .string d1, .slice ad1 n p1] 32)).alloc (.cells #[.int .i64 c2, .int .i64 k2, .int .i64 l2, .int .i64 s2, .string d2, .slice ad2 n p2] 32) = W := ⟨_, rfl⟩
  have HB : Hid (Below w.heap.size w W) := by show Below _ _ _; rw [← hW]; exact ((Below.refl w.heap.size w).alloc (Nat.le_refl _) _).alloc (by simp) _
  have hzA : W.heap[w.heap.size]? = some (.cells #[.int .i64 c1, .int .i64 k1, .int .i64 l1, .int .i64 s1, .string d1, .slice ad1 n p1] 32 (0, 0)) := by
    rw [← hW]
    exact heap_below ((Below.refl (w.alloc _).heap.size (w.alloc _)).alloc (Nat.le_refl _) _) _ _ (heap_alloc_new w _)
  have hzB : W.heap[w.heap.size + 1]? = some (.cells #[.int .i64 c2, .int .i64 k2, .int .i64 l2, .int .i64 s2, .string d2, .slice ad2 n p2] 32 (0, 0)) := by
    rw [← hW]
    exact alloc_at (by simp) _
  have z0 := cell_of_heap (k := 0) hzA rfl
  have z1 := cell_of_heap (k := 1) hzA rfl
  have z2 := cell_of_heap (k := 2) hzA rfl
  have z3 := cell_of_heap (k := 3) hzA rfl
  have z4 := cell_of_heap (k := 4) hzA rfl
  have z5 := cell_of_heap (k := 5) hzA rfl
  have y0 := cell_of_heap (k := 0) hzB rfl
  have y1 := cell_of_heap (k := 1) hzB rfl
  have y2 := cell_of_heap (k := 2) hzB rfl
  have y3 := cell_of_heap (k := 3) hzB rfl
  have y4 := cell_of_heap (k := 4) hzB rfl
  have y5 := cell_of_heap (k := 5) hzB rfl
  clear hzA hzB
  go_enter Tryz.func73, Tryz.ntmps73
  go_wp2
  go_loopw [5] (fun i wr => ∃ k : Nat, k ≤ n ∧ i = .int .i64 k ∧ ∃ q, wr = W.drewN q) (fun i _ => n - (intOf i).toNat)
  case atStart => exact ⟨0, Nat.zero_le _, rfl, 0, rfl⟩
  case round =>
    obtain ⟨k, hk, rfl, q0, rfl⟩ := hrel
    by_cases hlt : k < n
    · obtain ⟨b, off, rfl, hb, hc⟩ := H1.out (by have := HN.out; omega)
      obtain ⟨c, offc, rfl, hbc, hcc⟩ := H2.out (by have := HN.out; omega)
      obtain ⟨s, hs⟩ : ∃ s, x1[k]? = some s := ⟨x1[k]'(by have := HN.out; omega), by simp⟩
      have hcell := (HB.out.cell (p := ⟨b, off + k, none⟩) hb).trans (hc k s hs)
      have hcellt := (HB.out.cell (p := ⟨c, offc + k, none⟩) hbc).trans (hcc k s hs)
      have q' : (s.toList == s.toList) = true := (text_eq s s).trans (decide_eq_true rfl)
      have hk0 : (0 : Int) ≤ (k : Int) := by omega
      have hk1 : (k : Int) < (n : Int) := by omega
      clear hc hs hcc
      go_wp2
      go_quiet (fail)
      go_wp2
      go_roundw
      case rel => exact ⟨k + 1, by omega, by go_num, _, rfl⟩
      case measure => simp [intOf]; omega
    · go_wp2
      go_ret
      exact ⟨_, rfl, (by first | exact HR.out | (have h := HR.out; simpa using h)), below_drewN HB.out _⟩
set_option maxRecDepth 20000 in
theorem rsame_ne (w : World) (c1 k1 l1 s1 c2 k2 l2 s2 : Int) (d1 d2 : ByteArray) (x1 x2 : List ByteArray) (hx : x1 ≠ x2) (ad1 ad2 : Option Addr) (n p1 p2 : Nat) (t1 : Texts w (.slice ad1 n p1) x1) (t2 : Texts w (.slice ad2 n p2) x2) :
    Calls Tryz.prog 73 #[.agg #[.int .i64 c1, .int .i64 k1, .int .i64 l1, .int .i64 s1, .string d1, .slice ad1 n p1], .agg #[.int .i64 c2, .int .i64 k2, .int .i64 l2, .int .i64 s2, .string d2, .slice ad2 n p2]] w
      (fun e w' => e = .returned (.bool false) ∧ Below w.heap.size w w') := by
  obtain ⟨_, _, e1, g1, g2, h1⟩ := t1
  obtain ⟨_, _, e2, _, _, h2⟩ := t2
  injection e1 with e1 e3 e4
  injection e2 with e2 e5 e6
  subst e1 e2 e4 e6
  have HN := Lib.hid e3.symm
  have HN2 := Lib.hid e5.symm
  have H1 := Lib.hid h1
  have H2 := Lib.hid h2
  have HX := Lib.hid hx
  have hmax : n ≤ 9223372036854775807 := by unfold maxLen at g2; omega
  clear e3 e5 g1 g2 h1 h2 hx
  obtain ⟨W, hW⟩ : ∃ W, (w.alloc (.cells #[.int .i64 c1, .int .i64 k1, .int .i64 l1, .int .i64 s1, .string d1, .slice ad1 n p1] 32)).alloc (.cells #[.int .i64 c2, .int .i64 k2, .int .i64 l2, .int .i64 s2, .string d2, .slice ad2 n p2] 32) = W := ⟨_, rfl⟩
  have HB : Hid (Below w.heap.size w W) := by show Below _ _ _; rw [← hW]; exact ((Below.refl w.heap.size w).alloc (Nat.le_refl _) _).alloc (by simp) _
  have hzA : W.heap[w.heap.size]? = some (.cells #[.int .i64 c1, .int .i64 k1, .int .i64 l1, .int .i64 s1, .string d1, .slice ad1 n p1] 32 (0, 0)) := by
    rw [← hW]
    exact heap_below ((Below.refl (w.alloc _).heap.size (w.alloc _)).alloc (Nat.le_refl _) _) _ _ (heap_alloc_new w _)
  have hzB : W.heap[w.heap.size + 1]? = some (.cells #[.int .i64 c2, .int .i64 k2, .int .i64 l2, .int .i64 s2, .string d2, .slice ad2 n p2] 32 (0, 0)) := by
    rw [← hW]
    exact alloc_at (by simp) _
  have z0 := cell_of_heap (k := 0) hzA rfl
  have z1 := cell_of_heap (k := 1) hzA rfl
  have z2 := cell_of_heap (k := 2) hzA rfl
  have z3 := cell_of_heap (k := 3) hzA rfl
  have z4 := cell_of_heap (k := 4) hzA rfl
  have z5 := cell_of_heap (k := 5) hzA rfl
  have y0 := cell_of_heap (k := 0) hzB rfl
  have y1 := cell_of_heap (k := 1) hzB rfl
  have y2 := cell_of_heap (k := 2) hzB rfl
  have y3 := cell_of_heap (k := 3) hzB rfl
  have y4 := cell_of_heap (k := 4) hzB rfl
  have y5 := cell_of_heap (k := 5) hzB rfl
  clear hzA hzB
  go_enter Tryz.func73, Tryz.ntmps73
  go_wp2
  go_loopw [5] (fun i wr => ∃ k : Nat, k ≤ n ∧ i = .int .i64 k ∧ Hid (x1.take k = x2.take k) ∧ ∃ q, wr = W.drewN q) (fun i _ => n - (intOf i).toNat)
  case atStart => exact ⟨0, Nat.zero_le _, rfl, Lib.hid rfl, 0, rfl⟩
  case round =>
    obtain ⟨k, hk, rfl, HA, q0, rfl⟩ := hrel
    by_cases hlt : k < n
    · obtain ⟨b, off, rfl, hb, hc⟩ := H1.out (by have := HN.out; omega)
      obtain ⟨c, offc, rfl, hbc, hcc⟩ := H2.out (by have := HN2.out; omega)
      obtain ⟨s, hs⟩ : ∃ s, x1[k]? = some s := ⟨x1[k]'(by have := HN.out; omega), by simp⟩
      obtain ⟨t, ht⟩ : ∃ s, x2[k]? = some s := ⟨x2[k]'(by have := HN2.out; omega), by simp⟩
      have hcell := (HB.out.cell (p := ⟨b, off + k, none⟩) hb).trans (hc k s hs)
      have hcellt := (HB.out.cell (p := ⟨c, offc + k, none⟩) hbc).trans (hcc k t ht)
      have HS := Lib.hid hs
      have HT := Lib.hid ht
      have q := text_eq s t
      have hk0 : (0 : Int) ≤ (k : Int) := by omega
      have hk1 : (k : Int) < (n : Int) := by omega
      clear hc hs hcc ht
      by_cases hq : s = t
      · have q' : (s.toList == t.toList) = true := q.trans (decide_eq_true hq)
        have HQ := Lib.hid hq
        clear q hq
        go_wp2
        go_quiet (fail)
        go_wp2
        go_roundw
        case rel => exact ⟨k + 1, by omega, by go_num, by show x1.take (k + 1) = x2.take (k + 1); rw [take_snoc x1 k s HS.out, take_snoc x2 k t HT.out, HA.out, HQ.out], _, rfl⟩
        case measure => simp [intOf]; omega
      · have q' : (s.toList == t.toList) = false := q.trans (decide_eq_false hq)
        clear q hq
        go_wp2
        go_quiet (fail)
        go_wp2
        go_ret
        exact ⟨rfl, below_drewN (below_drewN HB.out _) _⟩
    · exact absurd (by
        have h := HA.out
        rw [List.take_of_length_le (by rw [HN.out]; omega), List.take_of_length_le (by rw [HN2.out]; omega)] at h
        exact h) HX.out
set_option maxRecDepth 20000 in
theorem rsame_len (w : World) (c1 k1 l1 s1 c2 k2 l2 s2 : Int) (d1 d2 : ByteArray) (ad1 ad2 : Option Addr) (n m p1 p2 : Nat) (hn : n ≠ m) :
    Calls Tryz.prog 73 #[.agg #[.int .i64 c1, .int .i64 k1, .int .i64 l1, .int .i64 s1, .string d1, .slice ad1 n p1], .agg #[.int .i64 c2, .int .i64 k2, .int .i64 l2, .int .i64 s2, .string d2, .slice ad2 m p2]] w
      (fun e w' => e = .returned (.bool false) ∧ Below w.heap.size w w') := by
  have f : ((n : Int) == (m : Int)) = false := beq_eq_false_iff_ne.2 (by omega)
  clear hn
  go_enter Tryz.func73, Tryz.ntmps73
  go_wp2
  go_ret
  exact ⟨rfl, ((Below.refl w.heap.size w).alloc (Nat.le_refl _) _).alloc (by simp) _⟩
/-- The reference's same. -/
theorem rsame_any (w : World) {a b : Sp.Ans} {v u : Value} (h1 : AnsV w v a) (h2 : AnsV w u b) : Calls Tryz.prog 73 #[v, u] w (SamePost (a = b) w) := by
  obtain ⟨n1, rfl, t1⟩ := h1
  obtain ⟨n2, rfl, t2⟩ := h2
  obtain ⟨ad1, p1, rfl, _⟩ := id t1
  obtain ⟨ad2, p2, rfl, _⟩ := id t2
  obtain ⟨c1, k1, l1, s1, d1, x1⟩ := a
  obtain ⟨c2, k2, l2, s2, d2, x2⟩ := b
  simp only at t1 t2 ⊢
  by_cases hx : x1 = x2
  · subst hx
    exact rsame_eq w c1 k1 l1 s1 c2 k2 l2 s2 d1 d2 x1 ad1 ad2 _ p1 p2 t1 t2
  · have hno : ¬ ((⟨c1, k1, l1, s1, d1, x1⟩ : Sp.Ans) = ⟨c2, k2, l2, s2, d2, x2⟩) := fun h => hx (congrArg Sp.Ans.names h)
    by_cases hl : x1.length = x2.length
    · rw [← hl] at t2 ⊢
      exact (rsame_ne w c1 k1 l1 s1 c2 k2 l2 s2 d1 d2 x1 x2 hx ad1 ad2 _ p1 p2 t1 t2).mono fun _ _ ⟨h3, h4⟩ => ⟨false, h3, ⟨fun h => (by cases h), fun h => absurd h hno⟩, h4⟩
    · exact (rsame_len w c1 k1 l1 s1 c2 k2 l2 s2 d1 d2 ad1 ad2 _ _ p1 p2 hl).mono fun _ _ ⟨h3, h4⟩ => ⟨false, h3, ⟨fun h => (by cases h), fun h => absurd h hno⟩, h4⟩
end
end Go.Proofs.YtcgpmnlondnbhaaGreatDoor

namespace Go.Proofs.YtcgpmnlondnbhaaGreatDoor
open Go Go.RowKit Txt Sp

def RPlayPost (base : Nat) (w : World) (r : Nat) (t : Sp.Tree) (x : Sp.Did) (e : Ending) (w' : World) : Prop := ∃ b, e = .returned (.bool b) ∧ b = (playN t x).2 ∧ RefTo base w (fun _ => False) r (playN t x).1 w'

/-- Behind other blocks' turns: the reference is as it was. -/
theorem RefTo.behind {base : Nat} {w w1 w2 : World} {D : Nat → Prop} {r : Nat} {t : Sp.Tree} (hb : Below w.heap.size w w1) (h : RefTo base w1 D r t w2) : RefTo base w D r t w2 := by
  obtain ⟨vT, vN, h1, h2⟩ := h
  exact ⟨vT, vN, h1, (Turn.of_below (K := fun j => j = r) hb).trans h2 (fun _ _ e => e) (fun _ _ e => e)⟩
theorem RefTo.next {base : Nat} {w w1 w2 : World} {D : Nat → Prop} {r : Nat} {t : Sp.Tree} (h : RefTo base w D r t w1) (hb : Below w1.heap.size w1 w2) : RefTo base w D r t w2 := by
  obtain ⟨vT, vN, h1, h2⟩ := h
  exact ⟨vT, vN, h1.below hb, turn_below h2 hb⟩
theorem ans_six {w : World} {n : Nat} {c k l s : Int} {d : ByteArray} {v : Value} {t : TypeId} {fr : Nat × Nat} (h : w.heap[n]? = some (.cells #[.int .i64 c, .int .i64 k, .int .i64 l, .int .i64 s, .string d, v] t fr)) :
    w.cell? ⟨n, 0, none⟩ = some (.int .i64 c) ∧ w.cell? ⟨n, 1, none⟩ = some (.int .i64 k) ∧ w.cell? ⟨n, 2, none⟩ = some (.int .i64 l) ∧ w.cell? ⟨n, 3, none⟩ = some (.int .i64 s) ∧ w.cell? ⟨n, 4, none⟩ = some (.string d) ∧ w.cell? ⟨n, 5, none⟩ = some v :=
  ⟨cell_of_heap h rfl, cell_of_heap h rfl, cell_of_heap h rfl, cell_of_heap h rfl, cell_of_heap h rfl, cell_of_heap h rfl⟩
def didC (node task frm till ok : Int) (op ot : ByteArray) (oo ol : Int) (od : ByteArray) (ac ak al as_ : Int) (ad : ByteArray) (v : Value) : Array Value :=
  #[.int .i64 node, .int .i64 task, .int .i64 frm, .int .i64 till, .int .i64 ok, .string op, .string ot, .int .i64 oo, .int .i64 ol, .string od, .int .i64 ac, .int .i64 ak, .int .i64 al, .int .i64 as_, .string ad, v]
theorem did_twelve {w : World} {n : Nat} {node task frm till ok : Int} {op ot : ByteArray} {oo ol : Int} {od : ByteArray} {ac ak al as_ : Int} {ad : ByteArray} {v : Value} {t : TypeId} {fr : Nat × Nat} (h : w.heap[n]? = some (.cells (didC node task frm till ok op ot oo ol od ac ak al as_ ad v) t fr)) :
    w.cell? ⟨n, 4, none⟩ = some (.int .i64 ok) ∧ w.cell? ⟨n, 5, none⟩ = some (.string op) ∧ w.cell? ⟨n, 6, none⟩ = some (.string ot) ∧ w.cell? ⟨n, 7, none⟩ = some (.int .i64 oo) ∧ w.cell? ⟨n, 8, none⟩ = some (.int .i64 ol) ∧ w.cell? ⟨n, 9, none⟩ = some (.string od) ∧
    w.cell? ⟨n, 10, none⟩ = some (.int .i64 ac) ∧ w.cell? ⟨n, 11, none⟩ = some (.int .i64 ak) ∧ w.cell? ⟨n, 12, none⟩ = some (.int .i64 al) ∧ w.cell? ⟨n, 13, none⟩ = some (.int .i64 as_) ∧ w.cell? ⟨n, 14, none⟩ = some (.string ad) ∧ w.cell? ⟨n, 15, none⟩ = some v :=
  ⟨cell_of_heap h rfl, cell_of_heap h rfl, cell_of_heap h rfl, cell_of_heap h rfl, cell_of_heap h rfl, cell_of_heap h rfl, cell_of_heap h rfl, cell_of_heap h rfl, cell_of_heap h rfl, cell_of_heap h rfl, cell_of_heap h rfl, cell_of_heap h rfl⟩

section
set_option maxHeartbeats 8000000
set_option maxRecDepth 20000 in
theorem rplay_any {w0 w : World} (hlow : Below w0.heap.size w0 w) {r : Nat} {t : Sp.Tree} {vT vN : Value} (hR : RefAt w0.heap.size w (fun _ => False) r t vT vN) (hok : t.Ok) (hf : Few t) {x : Sp.Did} {na : Option Addr} {nc : Nat} (ht : Texts w0 (.slice na x.a.names.length nc) x.a.names) (ho : OpOk x.o) :
    Calls Tryz.prog 47 #[ptr r, .agg (didA x (.slice na x.a.names.length nc))] w (RPlayPost w0.heap.size w r t x) := by
  obtain ⟨node, task, frm, till, ⟨ok, op, ot, oo, ol, od⟩, ⟨ac, ak, al, as_, ad, an⟩⟩ := x
  have HT := Lib.hid ht
  have HO := Lib.hid ho
  have HR := Lib.hid hR
  have HLow := Lib.hid hlow
  have HOk := Lib.hid hok
  have HF := Lib.hid hf
  have HRl := Lib.hid hR.low
  have hrw := (Array.getElem?_eq_some_iff.1 hR.obj).1
  simp only at HT HO
  unfold didA
  simp only
  obtain ⟨W0, hW0⟩ : ∃ W, w.alloc (.cells #[.int .i64 node, .int .i64 task, .int .i64 frm, .int .i64 till, .int .i64 ok, .string op, .string ot, .int .i64 oo, .int .i64 ol, .string od, .int .i64 ac, .int .i64 ak, .int .i64 al, .int .i64 as_, .string ad, .slice na an.length nc] 81) = W := ⟨_, rfl⟩
  have HB0 : Hid (Below w.heap.size w W0) := by show Below _ _ _; rw [← hW0]; exact (Below.refl _ _).alloc (Nat.le_refl _) _
  have HX0 : Hid (W0.heap[w.heap.size]? = some (.cells (didC node task frm till ok op ot oo ol od ac ak al as_ ad (.slice na an.length nc)) 81 (0, 0))) := by show _ = _; rw [← hW0]; exact heap_alloc_new w _
  have hx0l := (Array.getElem?_eq_some_iff.1 HX0.out).1
  obtain ⟨t', c, c1, c2, c3, cd, cn, hs⟩ : ∃ t' c c1 c2 ck cd cn, t.step ⟨ok, op, ot, oo, ol, od⟩ = (t', ⟨c, c1, c2, ck, cd, cn⟩) := ⟨_, _, _, _, _, _, _, rfl⟩
  have HS := Lib.hid hs
  have HX0l := Lib.hid hx0l
  have HRw0 := Lib.hid hrw
  clear hlow hR hok hf ht ho hs hx0l hrw
  unfold ptr
  go_enter Tryz.func47, Tryz.ntmps47
  go_wp2_with fail
  refine (rfork_any (HR.out.below HB0.out)).mono ?_
  rintro e w1 ⟨g, vT1, vN1, rfl, hr1, hb1, hg1⟩
  have HR1 := Lib.hid hr1
  have HB1 := Lib.hid (below_next HB0.out hb1)
  have HX1 := Lib.hid (heap_below hb1 _ _ HX0.out)
  have HG1 : Hid (w.heap.size < g) := Nat.lt_of_lt_of_le HX0l.out hg1
  have z := did_twelve HX1.out
  clear hr1 hb1 hg1
  unfold ptr
  go_wp2_with fail
  clear z
  refine (rdo_known HS.out (rdo_any HR1.out HOk.out HF.out ⟨ok, op, ot, oo, ol, od⟩ HO.out)).mono ?_
  rintro e w2 ⟨ad2, cap2, rfl, x2, hto2⟩
  obtain ⟨_, _, _, ht2⟩ := hto2
  have HX2 := Lib.hid (ht2.heap HX1.out (fun e => by have := HG1.out; omega))
  have HB2 : Hid (Below w.heap.size w w2) := HB1.out.trans (ht2.below (fun j hj => by rw [hj]; exact Nat.le_of_lt HG1.out) HB1.out.size)
  have H12 : Hid (w1.heap.size ≤ w2.heap.size) := ht2.size
  obtain ⟨W3, hW3⟩ : ∃ W, w2.alloc (.cells #[.int .i64 c, .int .i64 c1, .int .i64 c2, .int .i64 c3, .string cd, .slice ad2 cn.length cap2] 32) = W := ⟨_, rfl⟩
  have hb23 : Below w2.heap.size w2 W3 := by rw [← hW3]; exact (Below.refl _ _).alloc (Nat.le_refl _) _
  have HB3 := Lib.hid (below_next HB2.out hb23)
  have HX3 := Lib.hid (heap_below hb23 _ _ HX2.out)
  have HW3 : Hid (W3.heap[w2.heap.size]? = some (.cells #[.int .i64 c, .int .i64 c1, .int .i64 c2, .int .i64 c3, .string cd, .slice ad2 cn.length cap2] 32 (0, 0))) := by show _ = _; rw [← hW3]; exact heap_alloc_new w2 _
  have HXn : Hid (OwnTexts w1.heap.size W3 (.slice ad2 cn.length cap2) cn) := x2.below hb23
  have HR3 := Lib.hid (HR.out.below HB3.out)
  have HRw : Hid (r < w1.heap.size) := Nat.lt_of_lt_of_le HRw0.out HB1.out.size
  have HNr : Hid (w.heap.size ≠ r ∧ w2.heap.size ≠ r) := ⟨by have := HRw0.out; omega, by have := HRw.out; have := H12.out; omega⟩
  have z := did_twelve HX3.out
  have y := ans_six HW3.out
  clear ht2 x2 hb23 HX0 HX1 HX2 HB0 HB1 HB2 HR1 HG1 hW0
  by_cases hfull : ac = 109 ∧ c = 0
  · obtain ⟨rfl, rfl⟩ := hfull
    have HP : Hid (playN t ⟨node, task, frm, till, ⟨ok, op, ot, oo, ol, od⟩, ⟨109, ak, al, as_, ad, an⟩⟩ = (t, decide ((⟨109, ak, al, as_, ad, an⟩ : Sp.Ans) = { code := 109 }))) := by
      show playN _ _ = _
      unfold playN
      rw [if_pos ⟨rfl, by rw [HS.out]⟩]
    have HTx : Hid (Texts W3 (.slice na an.length nc) an) := HT.out.below (HLow.out.trans (HB3.out.mono HLow.out.size))
    go_wp2_with fail
    clear z y
    refine (rsame_any _ (a := ⟨109, ak, al, as_, ad, an⟩) (b := ⟨0, c1, c2, c3, cd, cn⟩) ⟨_, rfl, HTx.out⟩ ⟨_, rfl, HXn.out.texts⟩).mono ?_
    rintro e w4 ⟨b1, rfl, hb1, hb4⟩
    obtain rfl : b1 = false := by
      cases b1
      · rfl
      · exact absurd (congrArg Sp.Ans.code (hb1.1 rfl)) (by show ¬ ((109 : Int) = 0); decide)
    have HB4 := Lib.hid (below_next HB3.out hb4)
    have HTx4 := Lib.hid (HTx.out.below hb4)
    have z := did_twelve (heap_below hb4 _ _ HX3.out)
    clear hb1 hb4
    go_wp2_with fail
    clear z
    refine (rsame_any _ (a := ⟨109, ak, al, as_, ad, an⟩) (b := { code := 109 }) ⟨_, rfl, HTx4.out⟩ ⟨_, rfl, (OwnTexts.void 0 _).texts⟩).mono ?_
    rintro e w5 ⟨b, rfl, hb, hb5⟩
    have HTo : Hid (RefTo w0.heap.size w (fun _ => False) r t w5) := ⟨_, _, HR.out.below (below_next HB4.out hb5), Turn.of_below (below_next HB4.out hb5)⟩
    have HBr := Lib.hid hb
    clear hb hb5
    cases b
    all_goals
      go_wp2
      go_ret
      refine ⟨_, rfl, ?_, ?_⟩
      · rw [HP.out]
        show _ = decide _
        first | (rw [Bool.eq_iff_iff, HBr.out, decide_eq_true_iff]; done) | exact (decide_eq_true (HBr.out.1 trivial)).symm
      · rw [HP.out]
        exact HTo.out
  · have HP : Hid (playN t ⟨node, task, frm, till, ⟨ok, op, ot, oo, ol, od⟩, ⟨ac, ak, al, as_, ad, an⟩⟩ = (t', decide ((⟨ac, ak, al, as_, ad, an⟩ : Sp.Ans) = ⟨c, c1, c2, c3, cd, cn⟩))) := by
      show playN _ _ = _
      unfold playN
      rw [if_neg (by rw [HS.out]; exact hfull), HS.out]
    have hor : ac ≠ 109 ∨ ac = 109 ∧ c ≠ 0 := by
      by_cases h : ac = 109
      · exact Or.inr ⟨h, fun h0 => hfull ⟨h, h0⟩⟩
      · exact Or.inl h
    clear hfull
    rcases hor with h | ⟨rfl, h⟩
    · have f : (ac == 109) = false := beq_eq_false_iff_ne.2 h
      clear h
      go_wp2_with fail
      clear z y
      refine (rdo_known HS.out (rdo_any HR3.out HOk.out HF.out ⟨ok, op, ot, oo, ol, od⟩ HO.out)).mono ?_
      rintro e w4 ⟨ad4, cap4, rfl, -, hto4⟩
      have HTo4 := Lib.hid (RefTo.behind HB3.out hto4)
      obtain ⟨_, _, _, ht4⟩ := hto4
      have hx4 := ht4.heap HX3.out (fun e => HNr.out.1 e)
      have hw4 := ht4.heap HW3.out (fun e => HNr.out.2 e)
      have HBx : Hid (Below w0.heap.size w0 w4) := (HLow.out.trans (HB3.out.mono HLow.out.size)).trans (ht4.below (fun j hj => by rw [hj]; exact HRl.out) (Nat.le_trans HLow.out.size HB3.out.size))
      have HT4 := Lib.hid (HT.out.below HBx.out)
      have HXn4 : Hid (OwnTexts w1.heap.size w4 (.slice ad2 cn.length cap2) cn) := own_turn HXn.out ht4 (fun j hj => by rw [hj]; exact HRw.out)
      have z := did_twelve hx4
      have y := ans_six hw4
      clear ht4 hx4 hw4
      go_wp2_with fail
      clear z y
      refine (rsame_any _ (a := ⟨_, ak, al, as_, ad, an⟩) (b := ⟨c, c1, c2, c3, cd, cn⟩) ⟨_, rfl, HT4.out⟩ ⟨_, rfl, HXn4.out.texts⟩).mono ?_
      rintro e w5 ⟨b, rfl, hb, hb5⟩
      have HTo5 := Lib.hid (HTo4.out.next hb5)
      have HBr := Lib.hid hb
      clear hb hb5
      cases b
      all_goals
        go_wp2
        go_ret
        refine ⟨_, rfl, ?_, ?_⟩
        · rw [HP.out]
          show _ = decide _
          first | (rw [Bool.eq_iff_iff, HBr.out, decide_eq_true_iff]; done) | exact (decide_eq_true (HBr.out.1 trivial)).symm
        · rw [HP.out]
          exact HTo5.out
    · have f : (c == 0) = false := beq_eq_false_iff_ne.2 h
      clear h
      go_wp2_with fail
      clear z y
      refine (rdo_known HS.out (rdo_any HR3.out HOk.out HF.out ⟨ok, op, ot, oo, ol, od⟩ HO.out)).mono ?_
      rintro e w4 ⟨ad4, cap4, rfl, -, hto4⟩
      have HTo4 := Lib.hid (RefTo.behind HB3.out hto4)
      obtain ⟨_, _, _, ht4⟩ := hto4
      have hx4 := ht4.heap HX3.out (fun e => HNr.out.1 e)
      have hw4 := ht4.heap HW3.out (fun e => HNr.out.2 e)
      have HBx : Hid (Below w0.heap.size w0 w4) := (HLow.out.trans (HB3.out.mono HLow.out.size)).trans (ht4.below (fun j hj => by rw [hj]; exact HRl.out) (Nat.le_trans HLow.out.size HB3.out.size))
      have HT4 := Lib.hid (HT.out.below HBx.out)
      have HXn4 : Hid (OwnTexts w1.heap.size w4 (.slice ad2 cn.length cap2) cn) := own_turn HXn.out ht4 (fun j hj => by rw [hj]; exact HRw.out)
      have z := did_twelve hx4
      have y := ans_six hw4
      clear ht4 hx4 hw4
      go_wp2_with fail
      clear z y
      refine (rsame_any _ (a := ⟨_, ak, al, as_, ad, an⟩) (b := ⟨c, c1, c2, c3, cd, cn⟩) ⟨_, rfl, HT4.out⟩ ⟨_, rfl, HXn4.out.texts⟩).mono ?_
      rintro e w5 ⟨b, rfl, hb, hb5⟩
      have HTo5 := Lib.hid (HTo4.out.next hb5)
      have HBr := Lib.hid hb
      clear hb hb5
      cases b
      all_goals
        go_wp2
        go_ret
        refine ⟨_, rfl, ?_, ?_⟩
        · rw [HP.out]
          show _ = decide _
          first | (rw [Bool.eq_iff_iff, HBr.out, decide_eq_true_iff]; done) | exact (decide_eq_true (HBr.out.1 trivial)).symm
        · rw [HP.out]
          exact HTo5.out
end
end Go.Proofs.YtcgpmnlondnbhaaGreatDoor
