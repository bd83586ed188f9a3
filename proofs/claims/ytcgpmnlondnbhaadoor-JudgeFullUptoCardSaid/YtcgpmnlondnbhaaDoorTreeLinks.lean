/-
  The law TreeLinks' walk.
-/
import Derived.Test.YtcgpmnlondnbhaaDoorTreeWorks
import Derived.Test.YtcgpmnlondnbhaaDoorSameAns
import Derived.Test.YtcgpmnlondnbhaaDoorSpLinks
namespace Go.Proofs.YtcgpmnlondnbhaaDoor
open Go Go.RowKit Txt Sp

theorem Texts.void_any {w : World} {v : Value} (h : Texts w v []) (w' : World) : Texts w' v [] :=
  let ⟨ad, cap, hv, h1, h2, _⟩ := h
  ⟨ad, cap, hv, h1, h2, fun h0 => absurd h0 (by simp)⟩
theorem apart_cells2 {D : Nat → Prop} {w : World} {n : Nat} {cs : Array Value} {e : TypeId} (h : Apart D w n (.cells cs e (0, 0))) (a b : Obj) (k : Nat) : ((w.alloc a).alloc b).cell? ⟨n, k, none⟩ = cs[k]? := by
  have hb : Below w.heap.size w ((w.alloc a).alloc b) := ((Below.refl w.heap.size w).alloc (Nat.le_refl _) _).alloc (by simp) _
  have := (h.below hb).1
  simp [World.cell?, this]
theorem apart_cells {D : Nat → Prop} {w : World} {n : Nat} {cs : Array Value} {e : TypeId} (h : Apart D w n (.cells cs e (0, 0))) (k : Nat) : w.cell? ⟨n, k, none⟩ = cs[k]? := by simp [World.cell?, h.1]

section
set_option maxHeartbeats 2000000
theorem treeLinks_walk (w : World) {v : Value} {l : List Sp.Op} (p q data : ByteArray) (hl : Ops w v l) (hok : ∀ o ∈ l, OpOk o) (hp : p.size ≤ 4000000000) (hq : q.size ≤ 4000000000) (hdt : data.size ≤ 9223372036854775807) (hm : MaxOk w) :
    Calls Tryd.prog 4 #[v, .agg #[.string p, .string q], .string data] w fun e w' => e = .returned (.bool true) ∧ Below w.heap.size w w' := by
  have q1 := eql_tree_nil
  have q2 := ans_code
  have HL := Lib.hid hl
  have HO := Lib.hid hok
  have HM := Lib.hid hm
  clear hl hok hm
  have B0 := Lib.hid ((Below.refl w.heap.size w).alloc (Nat.le_refl _) (.cells #[.string p, .string q] 39))
  go_enter Tryd.func4, Tryd.ntmps4
  go_wp2_with fail
  go_quiet (fail)
  go_wp2_with fail
  obtain ⟨W0, hW0⟩ : ∃ W, ((w.alloc (.cells #[.string p, .string q] 39)).drewN nq) = W := ⟨_, rfl⟩
  rw [hW0]
  have B1 : Hid (Below w.heap.size w W0) := by
    show Below w.heap.size w W0
    rw [← hW0]
    exact below_drewN B0.out _
  clear hW0
  refine (treeMade_any (w0 := w) _ (HL.out.below B1.out) HO.out B1.out HM.out).mono ?_
  rintro e w1 ⟨B, D1, rfl, l1, -, -⟩
  have L1 := Lib.hid l1
  clear l1
  unfold ptr
  go_wp2_with fail
  refine (treeWorks_any (w0 := w) _ L1.out.low HM.out).mono ?_
  rintro e w2 ⟨rfl, hb2⟩
  have L2 := Lib.hid (L1.out.below hb2)
  clear hb2
  by_cases hlong : 500 < data.size
  · go_wp2
    go_ret
    exact ⟨rfl, L2.out.low⟩
  · obtain ⟨t, ht⟩ : ∃ t, Sp.new.steps (l.take 40) = t := ⟨_, rfl⟩
    rw [ht] at L2
    clear ht L1
    have hsm : data.size ≤ 500 := by omega
    by_cases hc : (t.step ⟨3, p, q, 0, 0, noText⟩).2.code = 0
    · obtain ⟨t1, t2, t3, n, s, z, z2, e1, hn, hn2, e2, e3, e4, e5, e6, e7, e8⟩ := links_law L2.out.ok hsm hc
      have hn40 : n ≤ 40 := Nat.le_trans hn2 L2.out.few
      have E1 := Lib.hid e1
      have E2 := Lib.hid e2
      have E3 := Lib.hid e3
      have E4 := Lib.hid e4
      have E5 := Lib.hid e5
      have E6 := Lib.hid e6
      have E7 := Lib.hid e7
      have E8 := Lib.hid e8
      clear e1 e2 e3 e4 e5 e6 e7 e8 hc hn2
      go_wp2_with fail
      refine (do_known E1.out L2.out (small_ok hp hq (by decide) (by decide) (by decide) (by decide)) (by decide)).mono ?_
      rintro e w3 ⟨ad3, cap3, D3, rfl, -, l3, -, -⟩
      have L3 := Lib.hid l3
      clear l3
      go_wp2_with fail
      refine (do_known E2.out L3.out (small_ok hp (by decide) (by decide) (by decide) (by decide) (by decide)) (by decide)).mono ?_
      rintro e w4 ⟨ad4, cap4, D4, rfl, -, l4, -, -⟩
      have L4 := Lib.hid l4
      clear l4
      go_wp2_with fail
      obtain ⟨W4, hW4⟩ : ∃ W, w4.alloc (.cells #[.int .i64 0, .int .i64 1, .int .i64 ((n : Int) + 1), .int .i64 z, .string (ofL []), .slice ad4 0 cap4] 29) = W := ⟨_, rfl⟩
      have hb4 : Below w4.heap.size w4 W4 := by rw [← hW4]; exact (Below.refl _ _).alloc (Nat.le_refl _) _
      have M4 : Hid (Live w W4 B t1 (40 + 1 + 1) D4) := L4.out.below hb4
      have P4 : Hid (Apart D4 W4 w4.heap.size (.cells #[.int .i64 0, .int .i64 1, .int .i64 ((n : Int) + 1), .int .i64 z, .string (ofL []), .slice ad4 0 cap4] 29 (0, 0))) :=
        L4.out.apart (Nat.le_refl _) (by rw [← hW4]; exact heap_alloc_new w4 _)
      obtain ⟨n4, hn4⟩ : ∃ n4, w4.heap.size = n4 := ⟨_, rfl⟩
      rw [hW4]
      rw [hn4] at P4 ⊢
      clear hW4 hb4 hn4
      refine (do_known E3.out M4.out (small_ok hq (by decide) hdt (by decide) (by decide) (by decide)) (by decide)).mono ?_
      rintro e w5 ⟨ad5, cap5, D5, rfl, -, l5, t5, d5⟩
      have L5 := Lib.hid l5
      have P5 := Lib.hid (P4.out.turn t5 d5)
      clear l5 t5 d5 P4 M4 L4 L3
      go_wp2_with fail
      refine (do_known E4.out L5.out (small_ok hp (by decide) (by decide) (by decide) (by decide) (by decide)) (by decide)).mono ?_
      rintro e w6 ⟨ad6, cap6, D6, rfl, x6, l6, t6, d6⟩
      have L6 := Lib.hid l6
      have P6 := Lib.hid (P5.out.turn t6 d6)
      have X6 := Lib.hid x6.void_any
      clear l6 t6 d6 P5 L5 x6
      go_wp2_with fail
      refine (do_known E5.out L6.out (small_ok hq (by decide) (by decide) (by decide) (by decide) (by decide)) (by decide)).mono ?_
      rintro e w7 ⟨ad7, cap7, D7, rfl, x7, l7, t7, d7⟩
      have L7 := Lib.hid l7
      have P7 := Lib.hid (P6.out.turn t7 d7)
      have X7 := Lib.hid x7.void_any
      clear l7 t7 d7 P6 L6 x7
      go_wp2_with fail
      obtain ⟨W7, hW7⟩ : ∃ W, (w7.alloc (.cells #[.int .i64 0, .int .i64 0, .int .i64 0, .int .i64 0, .string s, .slice ad6 0 cap6] 29)).alloc (.cells #[.int .i64 0, .int .i64 0, .int .i64 0, .int .i64 0, .string s, .slice ad7 0 cap7] 29) = W := ⟨_, rfl⟩
      have hb7 : Below w7.heap.size w7 W7 := by rw [← hW7]; exact ((Below.refl w7.heap.size w7).alloc (Nat.le_refl _) _).alloc (by simp) _
      have M7 := Lib.hid (L7.out.below hb7)
      have Q7 := Lib.hid (P7.out.below hb7)
      have R7 : Hid (Apart D7 W7 (w7.heap.size + 1) (.cells #[.int .i64 0, .int .i64 0, .int .i64 0, .int .i64 0, .string s, .slice ad7 0 cap7] 29 (0, 0))) :=
        L7.out.apart (Nat.le_succ _) (by rw [← hW7]; exact alloc_at (by simp) _)
      obtain ⟨n7, hn7⟩ : ∃ n7, w7.heap.size = n7 := ⟨_, rfl⟩
      rw [hW7]
      rw [hn7] at R7 ⊢
      clear hW7 hb7 hn7 P7 L7
      refine (sameAns_any W7 (a := ⟨0, 0, 0, 0, s, []⟩) (b := ⟨0, 0, 0, 0, s, []⟩) ⟨_, rfl, X6.out _⟩ ⟨_, rfl, X7.out _⟩).mono ?_
      rintro e w8 ⟨r, rfl, hr, hb8⟩
      obtain rfl : r = true := hr.2 rfl
      have M8 := Lib.hid (M7.out.below hb8)
      have Q8 := Lib.hid (Q7.out.below hb8)
      have R8 := Lib.hid (R7.out.below hb8)
      have c8 := apart_cells Q8.out
      clear hr hb8 M7 Q7 R7
      go_wp2_with fail
      clear c8
      refine (do_known E6.out M8.out (small_ok hp (by decide) (by decide) (by decide) (by decide) (by decide)) (by decide)).mono ?_
      rintro e w9 ⟨ad9, cap9, D9, rfl, -, l9, t9, d9⟩
      have L9 := Lib.hid l9
      have P9 := Lib.hid (Q8.out.turn t9 d9)
      have R9 := Lib.hid (R8.out.turn t9 d9)
      clear l9 t9 d9 Q8 R8 M8
      go_wp2_with fail
      refine (do_known E7.out L9.out (small_ok hq (by decide) (by decide) (by decide) (by decide) (by decide)) (by decide)).mono ?_
      rintro e w10 ⟨ad10, cap10, D10, rfl, x10, l10, t10, d10⟩
      have L10 := Lib.hid l10
      have P10 := Lib.hid (P9.out.turn t10 d10)
      have R10 := Lib.hid (R9.out.turn t10 d10)
      have X10 := Lib.hid x10.void_any
      clear l10 t10 d10 P9 R9 L9 x10
      go_wp2_with fail
      refine (do_known E8.out L10.out (small_ok hq (by decide) (by decide) (by decide) (by decide) (by decide)) (by decide)).mono ?_
      rintro e w11 ⟨ad11, cap11, D11, rfl, -, l11, t11, d11⟩
      have L11 := Lib.hid l11
      have P11 := Lib.hid (P10.out.turn t11 d11)
      have R11 := Lib.hid (R10.out.turn t11 d11)
      clear l11 t11 d11 P10 R10 L10
      have c11 := apart_cells2 R11.out
      go_wp2_with fail
      obtain ⟨W11, hW11⟩ : ∃ W, (w11.alloc (.cells #[.int .i64 0, .int .i64 0, .int .i64 0, .int .i64 0, .string s, .slice ad10 0 cap10] 29)).alloc (.cells #[.int .i64 0, .int .i64 1, .int .i64 (n : Int), .int .i64 z2, .string (ofL []), .slice ad11 0 cap11] 29) = W := ⟨_, rfl⟩
      have hb11 : Below w11.heap.size w11 W11 := by rw [← hW11]; exact ((Below.refl w11.heap.size w11).alloc (Nat.le_refl _) _).alloc (by simp) _
      have M11 := Lib.hid (L11.out.below hb11)
      have Q11 := Lib.hid (P11.out.below hb11)
      have R12 : Hid (Apart D11 W11 (w11.heap.size + 1) (.cells #[.int .i64 0, .int .i64 1, .int .i64 (n : Int), .int .i64 z2, .string (ofL []), .slice ad11 0 cap11] 29 (0, 0))) :=
        L11.out.apart (Nat.le_succ _) (by rw [← hW11]; exact alloc_at (by simp) _)
      obtain ⟨n11, hn11⟩ : ∃ n11, w11.heap.size = n11 := ⟨_, rfl⟩
      rw [hW11]
      rw [hn11] at R12 ⊢
      clear hW11 hb11 hn11 P11 L11 c11 R11
      refine (sameAns_any W11 (a := ⟨0, 0, 0, 0, s, []⟩) (b := ⟨0, 0, 0, 0, s, []⟩) ⟨_, rfl, X10.out _⟩ ⟨_, rfl, X7.out _⟩).mono ?_
      rintro e w12 ⟨r, rfl, hr, hb12⟩
      obtain rfl : r = true := hr.2 rfl
      have M12 := Lib.hid (M11.out.below hb12)
      have c12 := apart_cells (Q11.out.below hb12)
      have c13 := apart_cells (R12.out.below hb12)
      clear hr hb12 M11 Q11 R12
      go_wp2
      go_ret
      exact ⟨by simp, M12.out.low⟩
    · obtain ⟨t', c, c1, c2, c3, d, names, hs⟩ : ∃ t' c c1 c2 c3 d names, t.step ⟨3, p, q, 0, 0, noText⟩ = (t', ⟨c, c1, c2, c3, d, names⟩) := ⟨_, _, _, _, _, _, _, rfl⟩
      rw [hs] at hc
      have hc0 : (c == 0) = false := beq_eq_false_iff_ne.2 hc
      have HS := Lib.hid hs
      clear hs hc
      go_wp2_with fail
      refine (do_known HS.out L2.out (small_ok hp hq (by decide) (by decide) (by decide) (by decide)) (by decide)).mono ?_
      rintro e w3 ⟨ad3, cap3, D3, rfl, -, l3, -, -⟩
      have L3 := Lib.hid l3
      clear l3
      have hc1 : (c != 0) = true := by simp [bne, hc0]
      go_wp2
      go_ret
      exact ⟨rfl, L3.out.low⟩
end
end Go.Proofs.YtcgpmnlondnbhaaDoor
