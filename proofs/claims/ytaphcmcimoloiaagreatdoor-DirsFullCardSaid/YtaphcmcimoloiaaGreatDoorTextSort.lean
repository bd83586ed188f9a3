/-
  slices.Sort of a slice of texts.
-/
import Derived.Test.YtaphcmcimoloiaaGreatDoorSidA
import Derived.Test.YtaphcmcimoloiaaGreatDoorSortM
import Derived.Sort.OwnSorted
namespace Go.Proofs.YtaphcmcimoloiaaGreatDoor
open Go Go.RowKit Txt Sp Go.Sort

def sortL (L : List ByteArray) : List ByteArray := ((L.map (·.data.toList)).mergeSort (fun x y => decide (x ≤ y))).map (fun b => ⟨b.toArray⟩)
theorem sortL_enc (L : List ByteArray) : (sortL L).map Value.string = ((L.map (·.data.toList)).mergeSort (fun x y => decide (x ≤ y))).map encStr := by
  unfold sortL
  rw [List.map_map]
  rfl
theorem sortL_perm (L : List ByteArray) : (sortL L).Perm L := by
  have h := (List.mergeSort_perm (L.map (·.data.toList)) (fun x y => decide (x ≤ y))).map (fun b : List UInt8 => (⟨b.toArray⟩ : ByteArray))
  refine h.trans ?_
  rw [List.map_map]
  refine (List.Perm.of_eq (List.map_congr_left (g := id) (fun x _ => ?_))).trans (List.Perm.of_eq (List.map_id L))
  show (⟨x.data.toList.toArray⟩ : ByteArray) = x
  rfl
theorem sortTexts_any {W : World} {base : Nat} {v : Value} {L : List ByteArray} (ho : W.ownsRow base 9 1 v L.length (L.map Value.string)) (hl : L.length ≤ 1000000) :
    Calls Tryz.prog 114 #[v] W fun e w' => e = .returned (.tuple #[]) ∧ w'.ownsRow base 9 1 v L.length ((sortL L).map Value.string) ∧ W.grownBy w' v.ownBlock := by
  rcases ho.2 with ⟨rfl, h0⟩ | ⟨g, cap, cur, rfl, hbase, hgb, h1, h2, h3, h4⟩
  · have hL : L = [] := List.length_eq_zero_iff.1 h0
    subst hL
    refine (Go.Proofs.AnyM.slices_Sort_string_none Tryz.sort114 none 0 W).mono ?_
    rintro e w' ⟨rfl, rfl⟩
    have e : sortL [] = [] := (sortL_perm []).eq_nil
    rw [e]
    exact ⟨rfl, World.ownsRow_nil _ _ _ _, ⟨rfl, rfl, rfl, Nat.le_refl _, fun _ _ _ => rfl⟩⟩
  · obtain ⟨ss, hss⟩ : ∃ ss, L.map (·.data.toList) = ss := ⟨_, rfl⟩
    have hmap : L.map Value.string = ss.map encStr := by
      rw [← hss, List.map_map]
      refine List.map_congr_left (fun x _ => ?_)
      show Value.string x = encStr x.data.toList
      unfold encStr
      congr 1
    have hlss : ss.length = L.length := by rw [← hss, List.length_map]
    have h4' := h4
    rw [hmap] at h4'
    have hH : Holds encStr W g 0 ss.toArray := holds_of_block hgb (by simpa [hlss] using h4')
    have hc := Go.Proofs.AnyM.slices_Sort_string Tryz.sort114 g 0 cap ss W hH (Array.getElem?_eq_some_iff.1 hgb).1 (by omega)
    rw [hlss] at hc
    refine hc.mono ?_
    rintro e w' ⟨rfl, n, os, rfl⟩
    have hr := ownsRow_sorted (base := base) (ss := ss) (os := os) (n := n) (ts := ss.mergeSort fun x y => decide (x ≤ y)) (by simp) hbase hgb (by rw [hlss]; exact h1) h2 h3
    refine ⟨rfl, ?_, grownBy_sorted (w := W) (g := g) (n := n) (os := os) (ss.mergeSort fun x y => decide (x ≤ y)).toArray⟩
    rw [sortL_enc, hss]
    rw [hlss] at hr
    exact hr
end Go.Proofs.YtaphcmcimoloiaaGreatDoor
