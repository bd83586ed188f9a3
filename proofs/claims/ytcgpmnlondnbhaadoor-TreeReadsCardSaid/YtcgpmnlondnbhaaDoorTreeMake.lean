/-
  The tree's walks: create, link, remove.
-/
import Derived.Test.YtcgpmnlondnbhaaDoorTreePut
namespace Go.Proofs.YtcgpmnlondnbhaaDoor
open Go Go.RowKit Txt Sp

/-- Behind a change: the tree lies there still, and nothing but it has turned. -/
def After (w : World) (B : Nat) (t : Sp.Tree) (φ μ : Nat → Nat) (w' : World) (t' : Sp.Tree) : Prop :=
  ∃ φ' μ', Rep w' B t' φ' μ' ∧ Turn (Rep.dom B t φ μ) w w' ∧ ∀ k, Rep.dom B t' φ' μ' k → Rep.dom B t φ μ k ∨ w.heap.size ≤ k

section
variable {w w' : World} {B : Nat} {t : Sp.Tree} {φ μ : Nat → Nat}
theorem After.same (hR : Rep w B t φ μ) (hb : Below w.heap.size w w') : After w B t φ μ w' t := ⟨φ, μ, hR.below hb, Turn.of_below hb, fun _ h => Or.inl h⟩
theorem dom_thing {i : Nat} (h : t.has i) : Rep.dom B t φ μ (φ i) := Or.inr ⟨i, h, Or.inl rfl⟩
theorem dom_map {i : Nat} (h : t.has i) (hd : t.isDir i = true) : Rep.dom B t φ μ (μ i) := Or.inr ⟨i, h, Or.inr ⟨hd, rfl⟩⟩
end

theorem make_err {t : Sp.Tree} {p : ByteArray} {dir : Bool} {c : Int} (h : t.dirC p = c) (hc : c ≠ 0) : t.make p dir = (t, c) := by
  unfold Sp.Tree.make; rw [h, if_neg hc]
theorem make_exist {t : Sp.Tree} {p : ByteArray} {dir : Bool} {j : Nat} (h : t.dirC p = 0) (hf : t.find (full p) = some j) : t.make p dir = (t, 101) := by
  unfold Sp.Tree.make; rw [h, if_pos rfl, hf]; rfl
theorem make_ok {t : Sp.Tree} {p : ByteArray} {dir : Bool} (h : t.dirC p = 0) (hf : t.find (full p) = none) : t.make p dir = (t.grown (full p) dir, 0) := by
  unfold Sp.Tree.make; rw [h, if_pos rfl, hf]; rfl

section
set_option maxHeartbeats 1000000

/-- create: b is the new thing's block; mb, of a directory, its map's. -/
theorem create_any {w : World} {B : Nat} {t : Sp.Tree} {φ μ : Nat → Nat} (hR : Rep w B t φ μ) (hok : t.Ok) (p : ByteArray) (hm : MaxOk w) (hs : p.size ≤ 4000000000) (dir : Bool) {b mb : Nat}
    (hbw : w.heap[b]? = some (thingO (ofL []) 0 (if dir = true then some mb else none))) (hbφ : ∀ j, t.has j → φ j ≠ b) (hbμ : ∀ j, t.has j → t.isDir j = true → μ j ≠ mb) (hmb : dir = true → MapAt w mb []) :
    Calls Tryd.prog 26 #[ptr B, .string p, ptr b] w fun e w' => e = .returned (.int .i64 (t.make p dir).2) ∧
      ∃ φ' μ', Rep w' B (t.make p dir).1 φ' μ' ∧ Turn (fun k => Rep.dom B t φ μ k ∨ k = b) w w' ∧ ∀ k, Rep.dom B (t.make p dir).1 φ' μ' k → Rep.dom B t φ μ k ∨ k = b ∨ (dir = true ∧ k = mb) := by
  have HR := Lib.hid hR
  have HOK := Lib.hid hok
  have HBW := Lib.hid hbw
  have Hφ := Lib.hid hbφ
  have Hμ := Lib.hid hbμ
  have HMB := Lib.hid hmb
  obtain ⟨c, hc⟩ : ∃ c, t.dirC p = c := ⟨_, rfl⟩
  have HC := Lib.hid hc
  clear hR hok hbw hbφ hbμ hmb
  by_cases h0 : c = 0
  · subst h0
    clear hc
    go_enter Tryd.func26, Tryd.ntmps26
    go_wp2_with fail
    refine (place_any HR.out HOK.out p hm hs).mono ?_
    rintro e w1 ⟨⟨v, s, rfl, hpl⟩, hb⟩
    obtain ⟨l, i, h1, h2, h3, h4, h5, rfl⟩ := hpl HC.out
    rw [HC.out]
    have HB := Lib.hid hb
    have HR1 := Lib.hid (HR.out.below hb)
    have H2 := Lib.hid h2
    have H3 := Lib.hid h3
    have H4 := Lib.hid h4
    have H5 := Lib.hid h5
    clear hpl hb h1 h2 h3 h4 h5
    go_wp2_with fail
    refine (is_any (HR1.out.below ((Below.refl _ _).alloc (Nat.le_refl _) _)) H3.out H4.out s).mono ?_
    rintro e w2 ⟨rfl, hb2⟩
    have hb12 := below_next ((Below.refl w1.heap.size w1).alloc (Nat.le_refl _) _) hb2
    have hbl : w2.heap[w1.heap.size]? = some (.cells #[ptr (φ i), .string s] 88 (0, 0)) := heap_below hb2 _ _ (heap_alloc_new w1 _)
    have c0 : w2.cell? ⟨w1.heap.size, 0, none⟩ = some (ptr (φ i)) := cell_of_heap hbl rfl
    have c1 : w2.cell? ⟨w1.heap.size, 1, none⟩ = some (.string s) := cell_of_heap hbl rfl
    have HB2 := Lib.hid (below_next HB.out hb12)
    have HR2 := Lib.hid (HR.out.below HB2.out)
    cases hf : t.find (l ++ [s]) with
    | some j =>
      have HM := Lib.hid (make_exist (dir := dir) HC.out (by rw [H2.out]; exact hf))
      clear hb2 hb12 hbl hf
      simp only [Option.map_some, ptrO, ptr]
      go_wp2
      go_ret
      rw [HM.out]
      exact ⟨rfl, φ, μ, HR2.out, Turn.of_below HB2.out, fun k h => Or.inl h⟩
    | none =>
      have HM := Lib.hid (make_ok (dir := dir) HC.out (by rw [H2.out]; exact hf))
      have HF := Lib.hid hf
      obtain ⟨hd1, l0, hl0, hl1⟩ := HR2.out.dir i l H3.out H4.out
      have HD1 := Lib.hid hd1
      have HL0 := Lib.hid hl0
      clear hb2 hb12 hbl hf hd1 hl0 hl1
      simp only [Option.map_none, ptrO]
      unfold ptr at c0
      go_wp2_with fail
      refine (put_any HD1.out HL0.out (heap_below HB2.out _ _ HBW.out) (by decide)).mono ?_
      rintro e w3 ⟨rfl, ⟨o', ho', hmo⟩, hbo, hT⟩
      go_wp2
      go_ret
      rw [HM.out]
      have hi := has_idOf HOK.out H3.out
      have hs2 : ∀ (k : Nat) (o : Obj), w2.heap[k]? = some o → k ≠ μ i → k ≠ b → w3.heap[k]? = some o := fun k o ho h1 h2 => hT.heap ho (fun h => h.elim h1 h2)
      have hmb3 : dir = true → MapAt w3 mb [] := fun hd => by
        have hm2 := (HMB.out hd).same (heap_below HB2.out mb)
        exact hm2.same (fun o ho => hs2 _ _ ho (Ne.symm (Hμ.out i hi H4.out)) (hm2.ne_cells (heap_below HB2.out _ _ HBW.out)))
      have hRG := HR2.out.grown HOK.out H3.out H4.out H5.out HF.out HL0.out (heap_below HB2.out _ _ HBW.out) Hφ.out Hμ.out hs2 hbo hmo ho' hmb3
      rw [← H2.out] at hRG
      refine ⟨rfl, _, _, hRG, (Turn.of_below HB2.out).trans hT (K1 := fun k => Rep.dom B t φ μ k ∨ k = b) (fun _ _ h => h) (fun k _ h => ?_), ?_⟩
      · rcases h with rfl | rfl
        · exact Or.inl (dom_map hi H4.out)
        · exact Or.inr rfl
      · rintro k (rfl | ⟨j, ⟨bb, d, hj⟩, h⟩)
        · exact Or.inl (Or.inl rfl)
        · rcases List.mem_append.1 hj with hj' | hj'
          · have hjh : t.has j := ⟨_, _, hj'⟩
            have hne : j ≠ t.many + 1 := fun e => fresh_not HOK.out (e ▸ hj')
            rw [upd_ne hne, upd_ne hne, grown_isDir HOK.out, if_neg hne] at h
            rcases h with rfl | ⟨hd, rfl⟩
            · exact Or.inl (dom_thing hjh)
            · exact Or.inl (dom_map hjh hd)
          · cases List.mem_singleton.1 hj'
            rw [upd_at, upd_at, grown_isDir HOK.out, if_pos rfl] at h
            rcases h with rfl | ⟨hd, rfl⟩
            · exact Or.inr (Or.inl rfl)
            · exact Or.inr (Or.inr ⟨hd, rfl⟩)
  · have HM := Lib.hid (make_err (dir := dir) hc h0)
    have hc0 : (c == 0) = false := beq_eq_false_iff_ne.2 h0
    clear hc h0
    go_enter Tryd.func26, Tryd.ntmps26
    go_wp2_with fail
    refine (place_any HR.out HOK.out p hm hs).mono ?_
    rintro e w1 ⟨⟨v, s, rfl, hpl⟩, hb⟩
    rw [HC.out]
    have HB := Lib.hid hb
    clear hpl hb
    go_wp2
    go_ret
    rw [HM.out]
    have HB2 := HB.out.alloc HB.out.size (.cells #[.pointer v, .string s] 88)
    exact ⟨rfl, φ, μ, HR.out.below HB2, Turn.of_below HB2, fun k h => Or.inl h⟩
end
end Go.Proofs.YtcgpmnlondnbhaaDoor
