/-
  The law TreeEmpty's walk.
-/
import Derived.Test.YtcgpmnlondnbhaaDoorTreeForks
import Derived.Test.YtcgpmnlondnbhaaDoorTreeRenames
import Derived.Test.YtcgpmnlondnbhaaDoorSpEmpty
namespace Go.Proofs.YtcgpmnlondnbhaaDoor
open Go Go.RowKit Txt Sp

section
set_option maxHeartbeats 8000000
set_option maxRecDepth 20000 in
theorem treeEmpty_walk (w : World) {v : Value} {l : List Sp.Op} (p : ByteArray) (hl : Ops w v l) (hok : ∀ o ∈ l, OpOk o) (hp : p.size ≤ 4000000000) (hm : MaxOk w) :
    Calls Tryd.prog 7 #[v, .string p] w fun e w' => e = .returned (.bool true) ∧ Below w.heap.size w w' := by
  have q1 := eql_tree_nil
  have q2 := neq_tree_nil
  have HL := Lib.hid hl
  have HO := Lib.hid hok
  have HM := Lib.hid hm
  clear hl hok hm
  go_enter Tryd.func7, Tryd.ntmps7
  go_wp2_with fail
  refine (treeMade_any (w0 := w) _ HL.out HO.out (Below.refl _ _) HM.out).mono ?_
  rintro e w1 ⟨B, D1, rfl, l1, -, -⟩
  have L1 := Lib.hid l1
  clear l1
  unfold ptr
  go_wp2_with fail
  refine (treeWorks_any (w0 := w) _ L1.out.low HM.out).mono ?_
  rintro e w2 ⟨rfl, hb2⟩
  have L2 := Lib.hid (L1.out.below hb2)
  obtain ⟨t, ht⟩ : ∃ t, Sp.new.steps (l.take 40) = t := ⟨_, rfl⟩
  rw [ht] at L2
  have OK := Lib.hid L2.out.ok
  clear hb2 ht L1
  obtain ⟨ac, ak, al, as_, ad, an, hs1⟩ : ∃ sc sk sl ss sd sn, t.step ⟨11, p, noText, 0, 0, noText⟩ = (t, ⟨sc, sk, sl, ss, sd, sn⟩) := ⟨_, _, _, _, _, _, rfl⟩
  obtain ⟨t', bc, bk, bl, bs, bd, bn, hs2⟩ : ∃ t' sc sk sl ss sd sn, t.step ⟨5, p, noText, 0, 0, noText⟩ = (t', ⟨sc, sk, sl, ss, sd, sn⟩) := ⟨_, _, _, _, _, _, _, rfl⟩
  have H1 := Lib.hid hs1
  have H2 := Lib.hid hs2
  clear hs1 hs2
  go_wp2_with fail
  refine (do_known H1.out L2.out (small_ok hp (by decide) (by decide) (by decide) (by decide) (by decide)) (by decide)).mono ?_
  rintro e w3 ⟨ad3, cap3, D3, rfl, -, l3, t3, d3⟩
  obtain ⟨W3, hW3, M3, A3, B3⟩ := l3.stored #[.int .i64 ac, .int .i64 ak, .int .i64 al, .int .i64 as_, .string ad, .slice ad3 an.length cap3] 29
  obtain ⟨n3, hn3⟩ : ∃ n3, w3.heap.size = n3 := ⟨_, rfl⟩
  rw [hn3] at A3
  clear l3 t3 d3 L2
  go_wp2_with fail
  refine (fork_live M3.out (by decide)).mono ?_
  rintro e w4 ⟨B4, D4, rfl, l4, hb4, hd4⟩
  have L4 := Lib.hid l4
  have A4 : Hid (Apart D4 w4 n3 _) := ⟨(A3.out.below hb4).1, fun hj => by
    have h1 := hd4 _ hj
    have h2 := (Array.getElem?_eq_some_iff.1 A3.out.1).1
    omega⟩
  clear l4 hb4 hd4 A3 hW3 B3 M3
  unfold ptr
  go_wp2_with fail
  refine (do_known H2.out L4.out (small_ok hp (by decide) (by decide) (by decide) (by decide) (by decide)) (by decide)).mono ?_
  rintro e w5 ⟨ad5, cap5, D5, rfl, -, l5, t5, d5⟩
  have A5 := Lib.hid (A4.out.turn t5 d5)
  obtain ⟨W5, hW5, M5, S5, B5⟩ := l5.stored #[.int .i64 bc, .int .i64 bk, .int .i64 bl, .int .i64 bs, .string bd, .slice ad5 bn.length cap5] 29
  have A6 := Lib.hid (A5.out.below B5.out)
  obtain ⟨n5, hn5⟩ : ∃ n5, w5.heap.size = n5 := ⟨_, rfl⟩
  rw [hn5] at S5
  have ca := apart_cells A6.out
  have cs := apart_cells S5.out
  clear l5 t5 d5 A4 A5 B5 L4
  have hno : bc = 0 → ac = 0 ∧ p ≠ ⟨#[47]⟩ := fun h => by
    have := empty_no OK.out (p := p) (by rw [H2.out]; exact h)
    rw [H1.out] at this
    exact this
  have hyes : ac = 0 → p ≠ ⟨#[47]⟩ → bc = if an = [] then 0 else 104 := fun h1 h2 => by
    have := empty_law OK.out (p := p) (by rw [H1.out]; exact h1) h2
    rw [H1.out, H2.out] at this
    exact this
  have hpe : (p.toList == [47]) = decide (p = ⟨#[47]⟩) := by
    rw [← text_eq, Lib.toList_data ⟨#[47]⟩]
  by_cases hac : ac = 0
  · by_cases hpr : p = ⟨#[47]⟩
    · have hbc : bc ≠ 0 := fun h => (hno h).2 hpr
      have hb0 : (bc == 0) = false := beq_eq_false_iff_ne.2 hbc
      have hb1 : (bc != 0) = true := by simp [bne, hb0]
      subst hac
      subst hpr
      clear hno hyes hpe hbc
      go_wp2
      go_ret
      exact ⟨rfl, M5.out.low⟩
    · have hbc := hyes hac hpr
      rw [decide_eq_false hpr] at hpe
      subst hac
      clear hno hyes hpr
      obtain ⟨m, hm⟩ : ∃ m, an.length = m := ⟨_, rfl⟩
      rw [hm] at ca ⊢
      by_cases hn : an = []
      · rw [if_pos hn] at hbc
        obtain rfl : m = 0 := by rw [← hm, hn]; rfl
        subst hbc
        clear hm hn
        go_wp2_with fail
        refine (new_live (w0 := w) M5.out.low HM.out).mono ?_
        rintro e w6 ⟨B6, D6, rfl, l6, -, -⟩
        have L6 := Lib.hid l6
        clear l6
        unfold ptr
        go_wp2
        go_ret
        exact ⟨rfl, L6.out.low⟩
      · rw [if_neg hn] at hbc
        have hm0 : 0 < m := by rw [← hm]; exact List.length_pos_iff.2 hn
        have hm1 : ((m : Int) == 0) = false := beq_eq_false_iff_ne.2 (by omega)
        have hm2 : (0 : Int) < m := by omega
        subst hbc
        clear hm hn hm0
        go_wp2_with fail
        refine (new_live (w0 := w) M5.out.low HM.out).mono ?_
        rintro e w6 ⟨B6, D6, rfl, l6, -, -⟩
        have L6 := Lib.hid l6
        clear l6
        unfold ptr
        go_wp2
        go_ret
        exact ⟨rfl, L6.out.low⟩
  · have hbc : bc ≠ 0 := fun h => hac (hno h).1
    have hb0 : (bc == 0) = false := beq_eq_false_iff_ne.2 hbc
    have hb1 : (bc != 0) = true := by simp [bne, hb0]
    have ha0 : (ac == 0) = false := beq_eq_false_iff_ne.2 hac
    have ha1 : (ac != 0) = true := by simp [bne, ha0]
    clear hno hyes hpe hbc hac
    go_wp2
    go_ret
    exact ⟨rfl, M5.out.low⟩
end
end Go.Proofs.YtcgpmnlondnbhaaDoor
