/-
  The law TreeRenames' walk.
-/
import Derived.Test.YtcgpmnlondnbhaaDoorTreeLinks
import Derived.Test.YtcgpmnlondnbhaaDoorTreeAll
import Derived.Test.YtcgpmnlondnbhaaDoorSpRenames
namespace Go.Proofs.YtcgpmnlondnbhaaDoor
open Go Go.RowKit Txt Sp

/-- A slice of texts that lies beside the tree. -/
def Kept (D : Nat → Prop) (w : World) (v : Value) (l : List ByteArray) : Prop := ∃ n, OwnTexts n w v l ∧ ∀ g, v.ownBlock = some g → ¬ D g
theorem own_lt {n : Nat} {w : World} {v : Value} {l : List ByteArray} (h : OwnTexts n w v l) : ∀ g, v.ownBlock = some g → n ≤ g ∧ g < w.heap.size := by
  obtain ⟨e, h⟩ := h
  exact h.lt
theorem Kept.turn {D D' : Nat → Prop} {w w' : World} {v : Value} {l : List ByteArray} (h : Kept D w v l) (hT : Turn D w w') (hd : ∀ j, D' j → D j ∨ w.heap.size ≤ j) : Kept D' w' v l := by
  obtain ⟨n, ho, ha⟩ := h
  refine ⟨n, ?_, fun g hg hj => (hd g hj).elim (ha g hg) (fun hle => by have := (own_lt ho g hg).2; omega)⟩
  obtain ⟨e, ho⟩ := ho
  exact ⟨e, owns_same ho (fun k o hk hh => hT.heap hh (ha k hk))⟩
theorem Kept.below {D : Nat → Prop} {w w' : World} {v : Value} {l : List ByteArray} (h : Kept D w v l) (hb : Below w.heap.size w w') : Kept D w' v l := by
  obtain ⟨n, ⟨e, ho⟩, ha⟩ := h
  exact ⟨n, ⟨e, owns_same ho (fun k o _ hh => heap_below hb _ _ hh)⟩, ha⟩
theorem Kept.texts {D : Nat → Prop} {w : World} {v : Value} {l : List ByteArray} (h : Kept D w v l) : Texts w v l := let ⟨_, ho, _⟩ := h; ho.texts
theorem Live.keeps {w0 w w' : World} {B : Nat} {t : Sp.Tree} {k : Nat} {D : Nat → Prop} (h : Live w0 w B t k D) {v : Value} {l : List ByteArray} (ho : OwnTexts w.heap.size w' v l) : Kept D w' v l :=
  ⟨_, ho, fun g hg hj => by have := (own_lt ho g hg).1; have := (h.from0 g hj).2; omega⟩
/-- An answer laid into a block of its own. -/
theorem Live.stored {w0 w : World} {B : Nat} {t : Sp.Tree} {k : Nat} {D : Nat → Prop} (h : Live w0 w B t k D) (cs : Array Value) (e : TypeId) :
    ∃ W, w.alloc (.cells cs e) = W ∧ Hid (Live w0 W B t k D) ∧ Hid (Apart D W w.heap.size (.cells cs e (0, 0))) ∧ Hid (Below w.heap.size w W) :=
  ⟨_, rfl, h.below ((Below.refl _ _).alloc (Nat.le_refl _) _), h.apart (Nat.le_refl _) (heap_alloc_new w _), (Below.refl _ _).alloc (Nat.le_refl _) _⟩

section
set_option maxHeartbeats 8000000
set_option maxRecDepth 20000 in
theorem treeRenames_walk (w : World) {v : Value} {l : List Sp.Op} (p q : ByteArray) (hl : Ops w v l) (hok : ∀ o ∈ l, OpOk o) (hp : p.size ≤ 4000000000) (hq : q.size ≤ 4000000000) (hm : MaxOk w) :
    Calls Tryd.prog 5 #[v, .string p, .string q] w fun e w' => e = .returned (.bool true) ∧ Below w.heap.size w w' := by
  have q1 := eql_tree_nil
  have HL := Lib.hid hl
  have HO := Lib.hid hok
  have HM := Lib.hid hm
  clear hl hok hm
  go_enter Tryd.func5, Tryd.ntmps5
  go_wp2_with fail
  refine (treeMade_any (w0 := w) _ HL.out HO.out (Below.refl _ _) HM.out).mono ?_
  rintro e w1 ⟨B, D1, rfl, l1, -, -⟩
  have L1 := Lib.hid l1
  clear l1
  unfold ptr
  go_wp2_with fail
  refine (treeWorks_any (w0 := w) _ L1.out.low HM.out).mono ?_
  rintro e w2 ⟨rfl, hb2⟩
  have L2 := Lib.hid (L1.out.below hb2)
  obtain ⟨t, ht⟩ : ∃ t, Sp.new.steps (l.take 40) = t := ⟨_, rfl⟩
  rw [ht] at L2
  have OK := Lib.hid L2.out.ok
  clear hb2 ht L1
  obtain ⟨sc, sk, sl, ss, sd, sn, hs1⟩ : ∃ sc sk sl ss sd sn, t.step ⟨10, p, noText, 0, 0, noText⟩ = (t, ⟨sc, sk, sl, ss, sd, sn⟩) := ⟨_, _, _, _, _, _, rfl⟩
  obtain ⟨tc, tk, tl, ts, td, tn, hs2⟩ : ∃ sc sk sl ss sd sn, t.step ⟨10, q, noText, 0, 0, noText⟩ = (t, ⟨sc, sk, sl, ss, sd, sn⟩) := ⟨_, _, _, _, _, _, rfl⟩
  obtain ⟨t', c, c1, c2, c3, cd, cn, hs3⟩ : ∃ t' c c1 c2 ck cd cn, t.step ⟨6, p, q, 0, 0, noText⟩ = (t', ⟨c, c1, c2, ck, cd, cn⟩) := ⟨_, _, _, _, _, _, _, rfl⟩
  have H1 := Lib.hid hs1
  have H2 := Lib.hid hs2
  have H3 := Lib.hid hs3
  clear hs1 hs2 hs3
  go_wp2_with fail
  refine (do_known H1.out L2.out (small_ok hp (by decide) (by decide) (by decide) (by decide) (by decide)) (by decide)).mono ?_
  rintro e w3 ⟨ad3, cap3, D3, rfl, x3, l3, t3, d3⟩
  obtain ⟨W3, hW3, M3, A3, B3⟩ := l3.stored #[.int .i64 sc, .int .i64 sk, .int .i64 sl, .int .i64 ss, .string sd, .slice ad3 sn.length cap3] 29
  have X3 := Lib.hid x3
  obtain ⟨n3, hn3⟩ : ∃ n3, w3.heap.size = n3 := ⟨_, rfl⟩
  rw [hn3] at A3
  clear l3 t3 d3 x3 L2
  go_wp2_with fail
  refine (do_known H2.out M3.out (small_ok hq (by decide) (by decide) (by decide) (by decide) (by decide)) (by decide)).mono ?_
  rintro e w4 ⟨ad4, cap4, D4, rfl, -, l4, t4, d4⟩
  have A4 := Lib.hid (A3.out.turn t4 d4)
  obtain ⟨W4, hW4, M4, S4, B4⟩ := l4.stored #[.int .i64 tc, .int .i64 tk, .int .i64 tl, .int .i64 ts, .string td, .slice ad4 tn.length cap4] 29
  have A5 := Lib.hid (A4.out.below B4.out)
  obtain ⟨n4, hn4⟩ : ∃ n4, w4.heap.size = n4 := ⟨_, rfl⟩
  rw [hn4] at S4
  clear l4 t4 d4 A3 A4 M3 hW3 B4 B3
  go_wp2_with fail
  refine (paths_live M4.out (by decide)).mono ?_
  rintro e w5 ⟨pv, rfl, hpt, hb5⟩
  have K5 := Lib.hid (M4.out.keeps hpt)
  obtain ⟨pa, pc, rfl, _⟩ := hpt.texts
  have M5 := Lib.hid (M4.out.below hb5)
  have A6 := Lib.hid (A5.out.below hb5)
  have S6 := Lib.hid (S4.out.below hb5)
  clear hpt hb5 M4 A5 S4 hW4
  go_wp2_with fail
  refine (do_known H3.out M5.out (small_ok hp hq (by decide) (by decide) (by decide) (by decide)) (by decide)).mono ?_
  rintro e w6 ⟨ad6, cap6, D6, rfl, -, l6, t6, d6⟩
  have A7 := Lib.hid (A6.out.turn t6 d6)
  have S7 := Lib.hid (S6.out.turn t6 d6)
  have K7 := Lib.hid (K5.out.turn t6 d6)
  obtain ⟨W6, hW6, M6, R6, B6⟩ := l6.stored #[.int .i64 c, .int .i64 c1, .int .i64 c2, .int .i64 c3, .string cd, .slice ad6 cn.length cap6] 29
  have A8 := Lib.hid (A7.out.below B6.out)
  have S8 := Lib.hid (S7.out.below B6.out)
  have K8 := Lib.hid (K7.out.below B6.out)
  obtain ⟨n6, hn6⟩ : ∃ n6, w6.heap.size = n6 := ⟨_, rfl⟩
  rw [hn6] at R6
  have ca := apart_cells A8.out
  have cs := apart_cells S8.out
  have cr := apart_cells R6.out
  clear l6 t6 d6 A6 A7 S6 S7 K5 K7 B6 M5
  by_cases hc : c = 0
  rotate_left
  · have hc0 : (c == 0) = false := beq_eq_false_iff_ne.2 hc
    have hc1 : (c != 0) = true := by simp [bne, hc0]
    clear hc
    by_cases hs : sc = 0
    · have hs0 : (sc == 0) = true := beq_iff_eq.2 hs
      clear hs
      go_wp2
      go_ret
      exact ⟨rfl, M6.out.low⟩
    · have hs0 : (sc == 0) = false := beq_eq_false_iff_ne.2 hs
      clear hs
      go_wp2
      go_ret
      exact ⟨rfl, M6.out.low⟩
  · subst hc
    have hz : (t.rename p q).2 = 0 := congrArg (fun z => z.2.code) H3.out
    have hsc : sc = 0 := by
      have h := rename_was OK.out hz
      rw [H1.out] at h
      exact h
    subst hsc
    by_cases hpq : p = q
    · have hpq0 : (p.toList == q.toList) = true := by rw [text_eq, decide_eq_true hpq]
      clear hpq
      go_wp2
      go_ret
      exact ⟨rfl, M6.out.low⟩
    have hpq0 : (p.toList == q.toList) = false := by rw [text_eq, decide_eq_false hpq]
    by_cases htc : tc = 0
    · subst htc
      clear hpq
      go_wp2
      go_ret
      exact ⟨rfl, M6.out.low⟩
    have htc0 : (tc == 0) = false := beq_eq_false_iff_ne.2 htc
    obtain ⟨t1, k, lk, s, g, e1, e2, e3, e4, e5, e6, e7, e8⟩ := renames_law OK.out hz hpq (by rw [H2.out]; exact htc)
    rw [H1.out] at e2
    rw [H3.out] at e1
    obtain ⟨rfl, e1⟩ := Prod.mk.inj e1
    obtain ⟨-, e2⟩ := Prod.mk.inj e2
    obtain ⟨-, rfl, rfl, rfl, rfl, rfl⟩ := Ans.mk.inj e2
    obtain ⟨gc, gk, gl, gs, gd, gn⟩ := g
    obtain rfl : gc = 100 := e5
    clear e1 e2 hz hpq htc H1 H2 H3
    have E3 := Lib.hid e3
    have E4 := Lib.hid e4
    have E6 := Lib.hid e6
    have E7 := Lib.hid e7
    have E8 := Lib.hid e8
    clear e3 e4 e6 e7 e8
    go_wp2_with fail
    clear ca cs cr
    refine (do_known E3.out M6.out (small_ok hq (by decide) (by decide) (by decide) (by decide) (by decide)) (by decide)).mono ?_
    rintro e w7 ⟨ad7, cap7, D7, rfl, x7, l7, t7, d7⟩
    have A9 := Lib.hid (A8.out.turn t7 d7)
    have K9 := Lib.hid (K8.out.turn t7 d7)
    obtain ⟨W7, hW7, M7, R7, B7⟩ := l7.stored #[.int .i64 0, .int .i64 sk, .int .i64 sl, .int .i64 ss, .string (ofL []), .slice ad7 0 cap7] 29
    have A10 := Lib.hid (A9.out.below B7.out)
    have K10 := Lib.hid (K9.out.below B7.out)
    obtain ⟨n7, hn7⟩ : ∃ n7, w7.heap.size = n7 := ⟨_, rfl⟩
    rw [hn7] at R7
    have X7 := Lib.hid x7.void_any
    clear l7 t7 d7 x7 A8 A9 K8 K9 M6 B7
    go_wp2_with fail
    refine (do_known E4.out M7.out (small_ok hp (by decide) (by decide) (by decide) (by decide) (by decide)) (by decide)).mono ?_
    rintro e w8 ⟨ad8, cap8, D8, rfl, -, l8, t8, d8⟩
    have A11 := Lib.hid (A10.out.turn t8 d8)
    have R11 := Lib.hid (R7.out.turn t8 d8)
    have K11 := Lib.hid (K10.out.turn t8 d8)
    obtain ⟨W8, hW8, M8, S8, B8⟩ := l8.stored #[.int .i64 100, .int .i64 gk, .int .i64 gl, .int .i64 gs, .string gd, .slice ad8 gn.length cap8] 29
    have A12 := Lib.hid (A11.out.below B8.out)
    have R12 := Lib.hid (R11.out.below B8.out)
    have K12 := Lib.hid (K11.out.below B8.out)
    obtain ⟨n8, hn8⟩ : ∃ n8, w8.heap.size = n8 := ⟨_, rfl⟩
    rw [hn8] at S8
    clear l8 t8 d8 A10 A11 R7 R11 K10 K11 M7 B8
    have ca := apart_cells A12.out
    have cr := apart_cells R12.out
    go_wp2_with fail
    clear ca cr
    refine (sameAns_any W8 (a := ⟨0, sk, sl, ss, ofL [], []⟩) (b := ⟨0, sk, sl, ss, ofL [], []⟩) ⟨_, rfl, X7.out _⟩ ⟨_, rfl, X3.out.void_any _⟩).mono ?_
    rintro e w9 ⟨r, rfl, hr, hb9⟩
    obtain rfl : r = true := hr.2 rfl
    have M9 := Lib.hid (M8.out.below hb9)
    have S9 := Lib.hid (S8.out.below hb9)
    have K13 := Lib.hid (K12.out.below hb9)
    have cs := apart_cells S9.out
    clear hr hb9 M8 S8 K12 R12 A12 X7 X3
    go_wp2_with fail
    clear cs
    refine (paths_live M9.out (by decide)).mono ?_
    rintro e w10 ⟨pv1, rfl, hpt, hb10⟩
    obtain ⟨pa1, pc1, rfl, -⟩ := hpt.texts
    have M10 := Lib.hid (M9.out.below hb10)
    have K14 := Lib.hid (K13.out.below hb10)
    have hlen : t'.paths.length = t.paths.length := by rw [paths_length, paths_length, E6.out]
    clear hpt hb10 M9 S9 K13
    rw [hlen]
    clear hlen E6
    go_wp2_with fail
    refine (under_pair E7 _ M10.out.max hp hq).mono ?_
    rintro e w11 ⟨rfl, hb11⟩
    have M11 := Lib.hid (M10.out.below hb11)
    have K15 := Lib.hid (K14.out.below hb11)
    clear hb11 M10 K14
    go_wp2_with fail
    refine (do_known E8.out M11.out (small_ok hq hp (by decide) (by decide) (by decide) (by decide)) (by decide)).mono ?_
    rintro e w12 ⟨ad12, cap12, D12, rfl, -, l12, t12, d12⟩
    have K16 := Lib.hid (K15.out.turn t12 d12)
    obtain ⟨W12, hW12, M12, R12, B12⟩ := l12.stored #[.int .i64 0, .int .i64 0, .int .i64 0, .int .i64 0, .string (ofL []), .slice ad12 0 cap12] 29
    obtain ⟨n12, hn12⟩ : ∃ n12, w12.heap.size = n12 := ⟨_, rfl⟩
    rw [hn12] at R12
    have K17 := Lib.hid (K16.out.below B12.out)
    have cr := apart_cells R12.out
    clear l12 t12 d12 K15 K16 M11 B12 R12
    go_wp2_with fail
    clear cr
    refine (paths_live M12.out (by decide)).mono ?_
    rintro e w13 ⟨pv2, rfl, hpt, hb13⟩
    have M13 := Lib.hid (M12.out.below hb13)
    have K18 := Lib.hid (K17.out.below hb13)
    have P13 := Lib.hid hpt.texts
    clear hpt hb13 M12 K17
    go_wp2_with fail
    refine (sameTexts_yes _ _ _ _ P13.out K18.out.texts).mono ?_
    rintro e w14 ⟨rfl, hb14⟩
    have M14 := Lib.hid (M13.out.below hb14)
    clear hb14 M13 K18
    go_wp2
    go_ret
    exact ⟨rfl, M14.out.low⟩
end
end Go.Proofs.YtcgpmnlondnbhaaDoor
