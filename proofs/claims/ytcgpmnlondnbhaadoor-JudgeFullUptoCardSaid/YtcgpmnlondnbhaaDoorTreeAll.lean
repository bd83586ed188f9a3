/-
  The tree's walks: Paths.
-/
import Derived.Test.YtcgpmnlondnbhaaDoorTreePaths
import Derived.Sort.OwnSorted
namespace Go.Proofs.YtcgpmnlondnbhaaDoor
open Go Go.RowKit Txt Sp Go.Sort

section
set_option maxHeartbeats 1000000
theorem allPaths_any {w : World} {B : Nat} {t : Sp.Tree} {φ μ : Nat → Nat} (hR : Rep w B t φ μ) (hok : t.Ok) (hfew : t.names.length ≤ 500000) :
    Calls Tryd.prog 17 #[ptr B] w fun e w' => ∃ v, e = .returned v ∧ OwnTexts w.heap.size w' v t.paths ∧ RowKit.Below w.heap.size w w' := by
  have c0 := hR.rootCell
  have hroot : (⟨#[47]⟩ : ByteArray) = shown t ([], 0) := by
    have := paths_perm hok
    rw [List.map_cons, List.cons.injEq] at this
    exact this.1.symm
  have hcall := paths_any (B := B) hok (by omega) ((belowL t []).length + 1) [] 0 w (by omega) hR idOf_nil (by have := belowL_len (t := t) []; simp; omega)
  rw [← hroot] at hcall
  have HCall := Lib.hid hcall
  have HOK := Lib.hid hok
  clear hR hcall hroot hok
  unfold ptr at c0 HCall ⊢
  go_enter Tryd.func17, Tryd.ntmps17
  go_wp2_with fail
  refine HCall.out.mono ?_
  rintro e w1 ⟨g, cap, L, rfl, hown, hperm, hb⟩
  have hlen : L.length ≤ 1000000 := by
    have h1 := hperm.length_eq
    rw [List.length_map, List.length_cons] at h1
    have := belowL_len (t := t) []
    omega
  rcases hown.2 with ⟨hnil, _⟩ | ⟨g', cap', cur, hv, hbase, hgb, h1, h2, h3, h4⟩
  · cases hnil
  cases hv
  obtain ⟨ss, hss⟩ : ∃ ss, L.map (·.data.toList) = ss := ⟨_, rfl⟩
  have hmap : L.map Value.string = ss.map encStr := by
    rw [← hss, List.map_map]
    refine List.map_congr_left (fun x _ => ?_)
    show Value.string x = encStr x.data.toList
    unfold encStr
    congr 1
  have hlss : ss.length = L.length := by rw [← hss, List.length_map]
  have h4' := h4
  rw [hmap] at h4'
  have hH : Holds encStr w1 g 0 ss.toArray := holds_of_block hgb (by simpa [hlss] using h4')
  have hc := Go.Proofs.AnyM.slices_Sort_string Tryd.sort34 g 0 cap ss w1 hH (Array.getElem?_eq_some_iff.1 hgb).1 (by omega)
  rw [hlss] at hc
  have HC := Lib.hid hc
  have fin : ∀ (n : Nat) (os : Array Obj), ∃ v, Ending.returned (.slice (some ⟨g, 0, none⟩) L.length cap) = .returned v ∧
      OwnTexts w.heap.size (grow (putRow encStr (Sort.ahead w1 n) g 0 (ss.mergeSort fun x y => decide (x ≤ y)).toArray) os) v t.paths ∧ RowKit.Below w.heap.size w (grow (putRow encStr (Sort.ahead w1 n) g 0 (ss.mergeSort fun x y => decide (x ≤ y)).toArray) os) := by
    intro n os
    have ho := ownsRow_sorted (base := w.heap.size) (ss := ss) (os := os) (n := n) (ts := ss.mergeSort fun x y => decide (x ≤ y)) (by simp) hbase hgb (by rw [hlss]; exact h1) h2 h3
    have hg := grownBy_sorted (w := w1) (g := g) (n := n) (os := os) (ss.mergeSort fun x y => decide (x ≤ y)).toArray
    have hsort : (ss.mergeSort (fun x y => decide (x ≤ y))).map encStr = t.paths.map Value.string := by
      have hp2 : ss.Perm ((ofL [47] :: t.names.map (shown t)).map (·.data.toList)) := by
        rw [← hss, ← paths_perm HOK.out]
        exact hperm.map _
      rw [keys_sorted hp2]
      rfl
    have hlp : t.paths.length = ss.length := by
      have := congrArg List.length hsort
      simpa using this.symm
    rw [hsort, ← hlp] at ho
    refine ⟨_, rfl, ?_, hb.trans ⟨hg.os, hg.tape, hg.output, hg.size, fun k hk => hg.block k (by have := hb.size; omega) (by simp; omega)⟩⟩
    rw [← hlss, ← hlp]
    exact ⟨_, ho⟩
  have HF := Lib.hid fin
  clear hown hperm hb hgb h1 h2 h3 h4 h4' hss hmap hlss hH hc fin
  go_wp2_with fail
  refine HC.out.mono ?_
  rintro e w2 ⟨rfl, n, os, rfl⟩
  go_wp2
  go_ret
  exact HF.out n os
theorem paths_live {w0 w : World} {B : Nat} {t : Sp.Tree} {k : Nat} {D : Nat → Prop} (h : Live w0 w B t k D) (hk : k ≤ 100000) :
    Calls Tryd.prog 17 #[ptr B] w fun e w' => ∃ v, e = .returned v ∧ OwnTexts w.heap.size w' v t.paths ∧ RowKit.Below w.heap.size w w' := by
  obtain ⟨φ, μ, hR, _⟩ := h.rep
  exact allPaths_any hR h.ok (Nat.le_trans h.few (by omega))
end
end Go.Proofs.YtcgpmnlondnbhaaDoor
