/-
  The law TreeCounts' walk.
-/
import Derived.Test.YtcgpmnlondnbhaaDoorTreeLinks
import Derived.Test.YtcgpmnlondnbhaaDoorTreeAll
import Derived.Test.YtcgpmnlondnbhaaDoorSpCounts
namespace Go.Proofs.YtcgpmnlondnbhaaDoor
open Go Go.RowKit Txt Sp

theorem apart_one {D : Nat → Prop} {w : World} {n : Nat} {cs : Array Value} {e : TypeId} (h : Apart D w n (.cells cs e (0, 0))) (a : Obj) (k : Nat) : (w.alloc a).cell? ⟨n, k, none⟩ = cs[k]? := by
  have := (h.below ((Below.refl w.heap.size w).alloc (Nat.le_refl _) a)).1
  simp [World.cell?, this]

section
set_option maxHeartbeats 4000000

set_option maxRecDepth 20000 in
theorem treeCounts_walk (w : World) {v : Value} {l : List Sp.Op} (o : Sp.Op) (hl : Ops w v l) (hok : ∀ o ∈ l, OpOk o) (ho : OpOk o) (hm : MaxOk w) :
    Calls Tryd.prog 6 #[v, opV o] w fun e w' => e = .returned (.bool true) ∧ Below w.heap.size w w' := by
  obtain ⟨k, p, q, off, len, d⟩ := o
  have q1 := eql_tree_nil
  have HL := Lib.hid hl
  have HO := Lib.hid hok
  have HOo := Lib.hid ho
  have HM := Lib.hid hm
  have B0 := Lib.hid ((Below.refl w.heap.size w).alloc (Nat.le_refl _) (.cells #[.int .i64 k, .string p, .string q, .int .i64 off, .int .i64 len, .string d] 32))
  have hbox : (w.alloc (.cells #[.int .i64 k, .string p, .string q, .int .i64 off, .int .i64 len, .string d] 32)).heap[w.heap.size]? = some (.cells #[.int .i64 k, .string p, .string q, .int .i64 off, .int .i64 len, .string d] 32 (0, 0)) := heap_alloc_new w _
  have HBox := Lib.hid hbox
  have hzz : (w.alloc (.cells #[.int .i64 k, .string p, .string q, .int .i64 off, .int .i64 len, .string d] 32)).heap.size = w.heap.size + 1 := by simp
  have HZ := Lib.hid hzz
  clear hl hok hm ho hbox hzz
  unfold opV
  go_enter Tryd.func6, Tryd.ntmps6
  go_wp2_with fail
  refine (treeMade_any (w0 := w) _ (HL.out.below B0.out) HO.out B0.out HM.out).mono ?_
  rintro e w1 ⟨B, D1, rfl, l1, hb1, hd1⟩
  have L1 := Lib.hid l1
  have P1 : Hid (Apart D1 w1 w.heap.size (.cells #[.int .i64 k, .string p, .string q, .int .i64 off, .int .i64 len, .string d] 32 (0, 0))) :=
    ⟨heap_below hb1 _ _ HBox.out, fun hj => by have := hd1 _ hj; have := HZ.out; omega⟩
  clear l1 hb1 hd1
  unfold ptr
  go_wp2_with fail
  refine (treeWorks_any (w0 := w) _ L1.out.low HM.out).mono ?_
  rintro e w2 ⟨rfl, hb2⟩
  have L2 := Lib.hid (L1.out.below hb2)
  have P2 := Lib.hid (P1.out.below hb2)
  obtain ⟨t, ht⟩ : ∃ t, Sp.new.steps (l.take 40) = t := ⟨_, rfl⟩
  rw [ht] at L2
  clear hb2 ht L1 P1
  go_wp2_with fail
  refine (paths_live L2.out (by decide)).mono ?_
  rintro e w3 ⟨pv, rfl, hpt, hb3⟩
  obtain ⟨pa, pc, rfl, _⟩ := hpt.texts
  have L3 := Lib.hid (L2.out.below hb3)
  have P3 := Lib.hid (P2.out.below hb3)
  have c3 := apart_cells P3.out
  clear hpt hb3 L2 P2
  obtain ⟨sc, sk, sl, ss, sd, sn, hst⟩ : ∃ sc sk sl ss sd sn, t.step ⟨10, q, noText, 0, 0, noText⟩ = (t, ⟨sc, sk, sl, ss, sd, sn⟩) := ⟨_, _, _, _, _, _, rfl⟩
  obtain ⟨t', c, c1, c2, ck, cd, cn, hs⟩ : ∃ t' c c1 c2 ck cd cn, t.step ⟨k, p, q, off, len, d⟩ = (t', ⟨c, c1, c2, ck, cd, cn⟩) := ⟨_, _, _, _, _, _, _, rfl⟩
  have hfa := L3.out.few
  have hcount := counted L3.out.ok ⟨k, p, q, off, len, d⟩
  have HSt := Lib.hid hst
  have HS := Lib.hid hs
  clear hst hs
  go_wp2_with fail
  refine (do_known HSt.out L3.out (small_ok HOo.out.dest (by decide) (by decide) (by decide) (by decide) (by decide)) (by decide)).mono ?_
  rintro e w4 ⟨ad4, cap4, D4, rfl, -, l4, t4, d4⟩
  have L4 := Lib.hid l4
  have P4 := Lib.hid (P3.out.turn t4 d4)
  clear l4 t4 d4 c3 L3 P3
  obtain ⟨W4, hW4⟩ : ∃ W, w4.alloc (.cells #[.int .i64 sc, .int .i64 sk, .int .i64 sl, .int .i64 ss, .string sd, .slice ad4 sn.length cap4] 29) = W := ⟨_, rfl⟩
  have hb4 : Below w4.heap.size w4 W4 := by rw [← hW4]; exact (Below.refl _ _).alloc (Nat.le_refl _) _
  have M4 := Lib.hid (L4.out.below hb4)
  have Q4 := Lib.hid (P4.out.below hb4)
  have S4 : Hid (Apart D4 W4 w4.heap.size (.cells #[.int .i64 sc, .int .i64 sk, .int .i64 sl, .int .i64 ss, .string sd, .slice ad4 sn.length cap4] 29 (0, 0))) := L4.out.apart (Nat.le_refl _) (by rw [← hW4]; exact heap_alloc_new w4 _)
  have c4 := apart_cells Q4.out
  go_wp2_with fail
  refine (do_known HS.out M4.out HOo.out (by decide)).mono ?_
  rintro e w5 ⟨ad5, cap5, D5, rfl, -, l5, t5, d5⟩
  have L5 := Lib.hid l5
  have S5 := Lib.hid (S4.out.turn t5 d5)
  have P5 := Lib.hid (Q4.out.turn t5 d5)
  obtain ⟨n4, hn4⟩ : ∃ n4, w4.heap.size = n4 := ⟨_, rfl⟩
  rw [hn4] at S5 ⊢
  clear l5 t5 d5 c4 P4 L4 M4 Q4 S4 hW4 hb4 hn4
  go_wp2_with fail
  obtain ⟨W5, hW5⟩ : ∃ W, w5.alloc (.cells #[.int .i64 c, .int .i64 c1, .int .i64 c2, .int .i64 ck, .string cd, .slice ad5 cn.length cap5] 29) = W := ⟨_, rfl⟩
  have hb5 : Below w5.heap.size w5 W5 := by rw [← hW5]; exact (Below.refl _ _).alloc (Nat.le_refl _) _
  have M5 := Lib.hid (L5.out.below hb5)
  have Q5 := Lib.hid (S5.out.below hb5)
  have N5 := Lib.hid (P5.out.below hb5)
  have A5 : Hid (Apart D5 W5 w5.heap.size (.cells #[.int .i64 c, .int .i64 c1, .int .i64 c2, .int .i64 ck, .string cd, .slice ad5 cn.length cap5] 29 (0, 0))) := L5.out.apart (Nat.le_refl _) (by rw [← hW5]; exact heap_alloc_new w5 _)
  rw [hW5]
  clear hW5 hb5 L5 S5 P5
  refine (paths_live M5.out (by decide)).mono ?_
  rintro e w6 ⟨pv2, rfl, hpt2, hb6⟩
  obtain ⟨pa2, pc2, rfl, _⟩ := hpt2.texts
  have M6 := Lib.hid (M5.out.below hb6)
  have c6 := apart_cells (Q5.out.below hb6)
  have c7 := apart_cells (A5.out.below hb6)
  have c8 := apart_cells (N5.out.below hb6)
  have hfew := M5.out.few
  have hfew1 := step_length t ⟨k, p, q, off, len, d⟩
  clear hpt2 hb6 M5 Q5 A5 N5
  obtain ⟨hbad, hmore, hless, hturn, hrest⟩ := hcount
  rw [HS.out] at hbad hmore hless hturn hrest
  rw [HSt.out] at hturn
  simp only at hbad hmore hless hturn hrest
  have ea := paths_length t
  have eb := paths_length t'
  generalize t.paths.length = a at ea ⊢
  generalize t'.paths.length = b at eb ⊢
  generalize t.names.length = na at *
  generalize t'.names.length = nb at *
  have hle : a ≤ 41 := by omega
  by_cases hc : c = 0
  rotate_left
  · have hc0 : (c == 0) = false := beq_eq_false_iff_ne.2 hc
    have hq : ((b : Int) == (a : Int)) = true := by rw [beq_iff_eq]; have := hbad hc; omega
    clear ea eb hbad hmore hless hturn hrest hc
    go_wp2
    go_ret
    exact ⟨rfl, M6.out.low⟩
  subst hc
  by_cases h1 : k = 1
  · subst h1
    have hq : ((b : Int) == (a : Int) + 1) = true := by rw [beq_iff_eq]; have := hmore rfl (by simp); omega
    clear ea eb hbad hmore hless hturn hrest
    go_wp2
    go_ret
    exact ⟨rfl, M6.out.low⟩
  by_cases h2 : k = 2
  · subst h2
    have hq : ((b : Int) == (a : Int) + 1) = true := by rw [beq_iff_eq]; have := hmore rfl (by simp); omega
    clear ea eb hbad hmore hless hturn hrest h1
    go_wp2
    go_ret
    exact ⟨rfl, M6.out.low⟩
  by_cases h3 : k = 3
  · subst h3
    have hq : ((b : Int) == (a : Int) + 1) = true := by rw [beq_iff_eq]; have := hmore rfl (by simp); omega
    clear ea eb hbad hmore hless hturn hrest h1 h2
    go_wp2
    go_ret
    exact ⟨rfl, M6.out.low⟩
  by_cases h4 : k = 4
  · subst h4
    have hq : ((b : Int) == (a : Int) - 1) = true := by rw [beq_iff_eq]; have := hless rfl (by simp); omega
    clear ea eb hbad hmore hless hturn hrest h1 h2 h3
    go_wp2
    go_ret
    exact ⟨rfl, M6.out.low⟩
  by_cases h5 : k = 5
  · subst h5
    have hq : ((b : Int) == (a : Int) - 1) = true := by rw [beq_iff_eq]; have := hless rfl (by simp); omega
    clear ea eb hbad hmore hless hturn hrest h1 h2 h3 h4
    go_wp2
    go_ret
    exact ⟨rfl, M6.out.low⟩
  by_cases h6 : k = 6
  · subst h6
    have ht := hturn rfl rfl
    by_cases hba : b = a
    · have hq : ((b : Int) == (a : Int)) = true := by rw [beq_iff_eq]; omega
      clear ea eb hbad hmore hless hturn hrest h1 h2 h3 h4 h5 ht hba
      go_wp2
      go_ret
      exact ⟨rfl, M6.out.low⟩
    · have hq : ((b : Int) == (a : Int)) = false := by rw [beq_eq_false_iff_ne]; omega
      have hsc : (sc == 0) = true := by
        rw [beq_iff_eq]
        rcases ht with ht | ht
        · omega
        · exact ht.1
      have hq2 : ((b : Int) == (a : Int) - 1) = true := by
        rw [beq_iff_eq]
        rcases ht with ht | ht
        · omega
        · have := ht.2; omega
      clear ea eb hbad hmore hless hturn hrest h1 h2 h3 h4 h5 ht hba
      go_wp2
      go_ret
      exact ⟨rfl, M6.out.low⟩
  have hk1 : (k == 1) = false := beq_eq_false_iff_ne.2 h1
  have hk2 : (k == 2) = false := beq_eq_false_iff_ne.2 h2
  have hk3 : (k == 3) = false := beq_eq_false_iff_ne.2 h3
  have hk4 : (k == 4) = false := beq_eq_false_iff_ne.2 h4
  have hk5 : (k == 5) = false := beq_eq_false_iff_ne.2 h5
  have hk6 : (k == 6) = false := beq_eq_false_iff_ne.2 h6
  have hq : ((b : Int) == (a : Int)) = true := by rw [beq_iff_eq]; have := hrest (by omega); omega
  clear ea eb hbad hmore hless hturn hrest h1 h2 h3 h4 h5 h6
  go_wp2
  go_ret
  exact ⟨rfl, M6.out.low⟩
end
end Go.Proofs.YtcgpmnlondnbhaaDoor
