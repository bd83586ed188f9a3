/-
  The tree: link.
-/
import Derived.Test.YtcgpmnlondnbhaaDoorTreeLink
namespace Go.Proofs.YtcgpmnlondnbhaaDoor
open Go Go.RowKit Txt Sp

theorem link_err {t : Sp.Tree} {p tt : ByteArray} (hc : (t.at p).2 ≠ 0) : t.link p tt = (t, (t.at p).2) := by
  unfold Sp.Tree.link; rw [if_neg hc]
theorem link_dir {t : Sp.Tree} {p tt : ByteArray} {i : Nat} (h : t.at p = (i, 0)) (hd : t.isDir i = true) : t.link p tt = (t, 102) := by
  unfold Sp.Tree.link; rw [h, if_pos rfl, if_pos hd]
theorem link_err2 {t : Sp.Tree} {p tt : ByteArray} {i : Nat} (h : t.at p = (i, 0)) (hd : t.isDir i = false) {c : Int} (h2 : t.dirC tt = c) (hc : c ≠ 0) : t.link p tt = (t, c) := by
  unfold Sp.Tree.link; rw [h, if_pos rfl, hd, h2, if_neg (by simp), if_neg hc]
theorem link_exist {t : Sp.Tree} {p tt : ByteArray} {i j : Nat} (h : t.at p = (i, 0)) (hd : t.isDir i = false) (h2 : t.dirC tt = 0) (hf : t.find (full tt) = some j) : t.link p tt = (t, 101) := by
  unfold Sp.Tree.link; rw [h, if_pos rfl, hd, h2, if_neg (by simp), if_pos rfl, hf]; rfl
theorem link_many {t : Sp.Tree} {p tt : ByteArray} {i : Nat} (h : t.at p = (i, 0)) (hd : t.isDir i = false) (h2 : t.dirC tt = 0) (hf : t.find (full tt) = none) (hm : 200 ≤ t.links i) : t.link p tt = (t, 105) := by
  unfold Sp.Tree.link; rw [h, if_pos rfl, hd, h2, if_neg (by simp), if_pos rfl, hf]; simp [hm]
theorem link_ok {t : Sp.Tree} {p tt : ByteArray} {i : Nat} (h : t.at p = (i, 0)) (hd : t.isDir i = false) (h2 : t.dirC tt = 0) (hf : t.find (full tt) = none) (hm : t.links i < 200) : t.link p tt = (t.named (full tt) i, 0) := by
  unfold Sp.Tree.link; rw [h, if_pos rfl, hd, h2, if_neg (by simp), if_pos rfl, hf]; simp [Nat.not_le.2 hm, Sp.Tree.named]

section
set_option maxHeartbeats 1000000
/-- What of an operation that leaves no new block is said. -/
def OpPost (r : Sp.Tree × Int) (w : World) (B : Nat) (t : Sp.Tree) (φ μ : Nat → Nat) (e : Ending) (w' : World) : Prop :=
  e = .returned (.int .i64 r.2) ∧ Rep w' B r.1 φ μ ∧ Turn (Rep.dom B t φ μ) w w' ∧ ∀ k, Rep.dom B r.1 φ μ k → Rep.dom B t φ μ k
theorem OpPost.same {r : Sp.Tree × Int} {w w' : World} {B : Nat} {t : Sp.Tree} {φ μ : Nat → Nat} {c : Int} (h : r = (t, c)) (hR : Rep w B t φ μ) (hb : Below w.heap.size w w') : OpPost r w B t φ μ (.returned (.int .i64 c)) w' := by
  subst h
  exact ⟨rfl, hR.below hb, Turn.of_below hb, fun _ h => h⟩

theorem dom_named {B : Nat} {t : Sp.Tree} {φ μ : Nat → Nat} {q : List ByteArray} {k j : Nat} (h : Rep.dom B (t.named q k) φ μ j) : Rep.dom B t φ μ j := h

theorem link_any {w : World} {B : Nat} {t : Sp.Tree} {φ μ : Nat → Nat} (hR : Rep w B t φ μ) (hok : t.Ok) (p tt : ByteArray) (hm : MaxOk w) (hs : p.size ≤ 4000000000) (hs2 : tt.size ≤ 4000000000) (hlinks : ∀ i, t.links i ≤ 1000000) :
    Calls Tryd.prog 27 #[ptr B, .string p, .string tt] w (OpPost (t.link p tt) w B t φ μ) := by
  have m1 := fun (r : Option Nat) (w : World) => run_eql_map_nil (P := Tryd.prog) w 64 _ _ r ht_map
  have m2 := fun (r : Option Nat) (w : World) => run_neq_map_nil (P := Tryd.prog) w 64 _ _ r ht_map
  have HR := Lib.hid hR
  have HOK := Lib.hid hok
  have HL := Lib.hid hlinks
  obtain ⟨i, c, hat⟩ : ∃ i c, t.at p = (i, c) := ⟨_, _, rfl⟩
  have HAT := Lib.hid hat
  clear hR hok hlinks hat
  by_cases h0 : c = 0
  · subst h0
    have HI : Hid (t.idOf (full p) = some i) := by
      have h := (at_ok t (path := p) (by rw [HAT.out])).2.2
      rw [HAT.out] at h
      exact h
    cases hd : t.isDir i with
    | true =>
      have HM := Lib.hid (link_dir (tt := tt) HAT.out hd)
      have HD := Lib.hid hd
      clear hd
      go_enter Tryd.func27, Tryd.ntmps27
      go_wp2_with fail
      refine (tat_any HR.out HOK.out p hm hs).mono ?_
      rintro e w1 ⟨rfl, hb⟩
      rw [HAT.out, thingV_ok rfl]
      have HB := Lib.hid hb
      have c2 := (HR.out.below hb).dirCell HI.out HD.out
      clear hb
      unfold ptr
      go_wp2
      go_ret
      exact OpPost.same HM.out HR.out HB.out
    | false =>
      have HD := Lib.hid hd
      obtain ⟨c, hc⟩ : ∃ c, t.dirC tt = c := ⟨_, rfl⟩
      have HC := Lib.hid hc
      clear hd
      by_cases h1 : c = 0
      · subst h1
        clear hc
        go_enter Tryd.func27, Tryd.ntmps27
        go_wp2_with fail
        refine (tat_any HR.out HOK.out p hm hs).mono ?_
        rintro e w1 ⟨rfl, hb⟩
        rw [HAT.out, thingV_ok rfl]
        have HB := Lib.hid hb
        have HR1 := Lib.hid (HR.out.below hb)
        have hm1 := hm.below hb
        have c2 := HR1.out.fileCell HOK.out HI.out HD.out
        clear hb
        unfold ptr
        go_wp2_with fail
        refine (place_any HR1.out HOK.out tt hm1 hs2).mono ?_
        rintro e w2 ⟨⟨v, s, rfl, hpl⟩, hb⟩
        obtain ⟨l, a, h1, h2, h3, h4, h5, rfl⟩ := hpl HC.out
        rw [HC.out]
        have HB2 := Lib.hid (below_next HB.out hb)
        have HR2 := Lib.hid (HR.out.below HB2.out)
        have H2 := Lib.hid h2
        have H3 := Lib.hid h3
        have H4 := Lib.hid h4
        have H5 := Lib.hid h5
        clear hpl hb h1 h2 h3 h4 h5 c2
        go_wp2_with fail
        refine (is_any (HR2.out.below ((Below.refl _ _).alloc (Nat.le_refl _) _)) H3.out H4.out s).mono ?_
        rintro e w3 ⟨rfl, hb2⟩
        have hb12 := below_next ((Below.refl w2.heap.size w2).alloc (Nat.le_refl _) _) hb2
        have hbl : w3.heap[w2.heap.size]? = some (.cells #[ptr (φ a), .string s] 88 (0, 0)) := heap_below hb2 _ _ (heap_alloc_new w2 _)
        have c0 : w3.cell? ⟨w2.heap.size, 0, none⟩ = some (ptr (φ a)) := cell_of_heap hbl rfl
        have c1 : w3.cell? ⟨w2.heap.size, 1, none⟩ = some (.string s) := cell_of_heap hbl rfl
        have HB3 := Lib.hid (below_next HB2.out hb12)
        have HR3 := Lib.hid (HR.out.below HB3.out)
        cases hf : t.find (l ++ [s]) with
        | some j =>
          have HM := Lib.hid (link_exist HAT.out HD.out HC.out (by rw [H2.out]; exact hf))
          clear hb2 hb12 hbl hf
          simp only [Option.map_some, ptrO, ptr]
          go_wp2
          go_ret
          exact OpPost.same HM.out HR.out HB3.out
        | none =>
          have HF := Lib.hid hf
          have hth := there_idOf HOK.out HI.out
          rw [HD.out] at hth
          have HTh := Lib.hid hth
          have hob := HR3.out.file i _ hth
          have HOB := Lib.hid hob
          have c3 : w3.cell? ⟨φ i, 1, none⟩ = some (.int .i64 (t.links i)) := cell_of_heap hob rfl
          obtain ⟨n, hn⟩ : ∃ n, t.links i = n := ⟨_, rfl⟩
          have HN := Lib.hid hn
          rw [hn] at c3
          have hn1 : n ≤ 1000000 := by rw [← hn]; exact HL.out i
          clear hb2 hb12 hbl hf hth hob hn
          simp only [Option.map_none, ptrO]
          unfold ptr at c0
          by_cases hbig : 200 ≤ n
          · have HM := Lib.hid (link_many HAT.out HD.out HC.out (by rw [H2.out]; exact HF.out) (by rw [HN.out]; exact hbig))
            have hbi : (n : Int) ≥ 200 := by omega
            have hdec : decide ((n : Int) ≥ 200) = true := decide_eq_true hbi
            clear hbig
            go_wp2
            go_ret
            exact OpPost.same HM.out HR.out HB3.out
          · have HM := Lib.hid (link_ok HAT.out HD.out HC.out (by rw [H2.out]; exact HF.out) (by rw [HN.out]; omega))
            have hbi : ¬ (n : Int) ≥ 200 := by omega
            clear hbig
            obtain ⟨hd1, l0, hl0, hl1⟩ := HR3.out.dir a l H3.out H4.out
            have HD1 := Lib.hid hd1
            have HL0 := Lib.hid hl0
            clear hd1 hl0 hl1
            go_wp2_with fail
            refine (put_any HD1.out HL0.out HOB.out (HL.out i)).mono ?_
            rintro e w4 ⟨rfl, ⟨o', ho', hmo⟩, hbo, hT⟩
            go_wp2
            go_ret
            have hi := has_idOf HOK.out H3.out
            have hrep := HR3.out.named HOK.out H3.out H4.out H5.out HF.out HTh.out HL0.out (fun b o ho h1 h2 => hT.heap ho (fun h => h.elim h1 h2)) hbo hmo ho'
            unfold OpPost
            rw [HM.out, H2.out]
            refine ⟨rfl, hrep, (Turn.of_below HB3.out).trans hT (K1 := Rep.dom B t φ μ) (fun _ _ h => h) (fun k _ h => ?_), fun k h => dom_named h⟩
            rcases h with rfl | rfl
            · exact dom_map hi H4.out
            · exact dom_thing ⟨_, _, HTh.out⟩
      · have HM := Lib.hid (link_err2 HAT.out HD.out hc h1)
        have hc0 : (c == 0) = false := beq_eq_false_iff_ne.2 h1
        clear hc h1
        go_enter Tryd.func27, Tryd.ntmps27
        go_wp2_with fail
        refine (tat_any HR.out HOK.out p hm hs).mono ?_
        rintro e w1 ⟨rfl, hb⟩
        rw [HAT.out, thingV_ok rfl]
        have HB := Lib.hid hb
        have HR1 := Lib.hid (HR.out.below hb)
        have hm1 := hm.below hb
        have c2 := HR1.out.fileCell HOK.out HI.out HD.out
        clear hb
        unfold ptr
        go_wp2_with fail
        refine (place_any HR1.out HOK.out tt hm1 hs2).mono ?_
        rintro e w2 ⟨⟨v, s, rfl, hpl⟩, hb⟩
        rw [HC.out]
        have HB2 := Lib.hid (below_next HB.out hb)
        clear hpl hb c2
        go_wp2
        go_ret
        exact OpPost.same HM.out HR.out (HB2.out.alloc HB2.out.size _)
  · have HM := Lib.hid (link_err (tt := tt) (t := t) (p := p) (by rw [HAT.out]; exact h0))
    have hc0 : (c == 0) = false := beq_eq_false_iff_ne.2 h0
    have HV := Lib.hid (thingV_err (φ := φ) HAT.out h0)
    clear h0
    go_enter Tryd.func27, Tryd.ntmps27
    go_wp2_with fail
    refine (tat_any HR.out HOK.out p hm hs).mono ?_
    rintro e w1 ⟨rfl, hb⟩
    rw [HV.out, HAT.out]
    have HB := Lib.hid hb
    clear hb
    go_wp2
    go_ret
    exact OpPost.same (by rw [HM.out, HAT.out]) HR.out HB.out
end
end Go.Proofs.YtcgpmnlondnbhaaDoor
