/-
  A row of operations of the call's own: its values laid flat.
-/
import Derived.Test.YtcgpmnlondnbhaaDoorOpens
import Derived.Test.YtcgpmnlondnbhaaDoorAppendSrc
namespace Go.Proofs.YtcgpmnlondnbhaaDoor
open Go Go.RowKit Txt Sp

def opsVals (l : List Sp.Op) : List Value := l.flatMap (fun o => (opA o).toList)
theorem opsVals_length : ∀ l : List Sp.Op, (opsVals l).length = l.length * 6
  | [] => rfl
  | o :: l => by
    have h := opsVals_length l
    unfold opsVals at h ⊢
    rw [List.flatMap_cons, List.length_append, h, List.length_cons]
    show 6 + l.length * 6 = _
    omega
theorem opsVals_snoc (l : List Sp.Op) (o : Sp.Op) : opsVals (l ++ [o]) = opsVals l ++ (opA o).toList := by
  unfold opsVals
  rw [List.flatMap_append]
  simp
theorem opsVals_at : ∀ (l : List Sp.Op) (k i : Nat), i < 6 → (opsVals l)[k * 6 + i]? = (l[k]?).bind (fun o => (opA o).toList[i]?)
  | [], k, i, _ => by simp [opsVals]
  | o :: l, 0, i, hi => by
    unfold opsVals
    rw [List.flatMap_cons, List.getElem?_append_left (by show _ < 6; omega)]
    simp
  | o :: l, k + 1, i, hi => by
    have h := opsVals_at l k i hi
    unfold opsVals at h ⊢
    rw [List.flatMap_cons, List.getElem?_append_right (by show 6 ≤ _; omega)]
    have h6 : (k + 1) * 6 + i - (opA o).toList.length = k * 6 + i := by show _ - 6 = _; omega
    rw [h6, h, List.getElem?_cons_succ]
theorem opsVals_one (l : List Sp.Op) : ∀ u ∈ opsVals l, u.oneCell' = true := by
  intro u hu
  obtain ⟨o, _, h⟩ := List.mem_flatMap.1 hu
  unfold opA at h
  simp at h
  rcases h with rfl | rfl | rfl | rfl | rfl | rfl <;> rfl
theorem ops_src {w : World} {ad : Option Addr} {cap : Nat} {l : List Sp.Op} (h : Ops w (.slice ad l.length cap) l) : ∀ a, ad = some a → ∀ j u, (opsVals l)[j]? = some u → w.cell? (a.add j) = some u := by
  intro a ha j u hu
  obtain ⟨ad2, cap2, hv, _, _, hc⟩ := h
  injection hv with e1 _ _
  subst e1
  have hj : j < l.length * 6 := by rw [← opsVals_length]; exact (List.getElem?_eq_some_iff.1 hu).1
  obtain ⟨b, off, e, hb, hc⟩ := hc (by omega)
  rw [ha] at e
  injection e with e
  subst e
  have hjk : j / 6 * 6 + j % 6 = j := by omega
  rw [← hjk, opsVals_at l _ _ (Nat.mod_lt _ (by omega))] at hu
  obtain ⟨o, ho, hu⟩ := Option.bind_eq_some_iff.1 hu
  have h2 := hc (j / 6) o ho (j % 6) u (by simpa using hu)
  rw [hjk] at h2
  have h6 : ((⟨b, off, none⟩ : Addr).add j) = ⟨b, off + j, none⟩ := by
    unfold Addr.add
    split
    · rename_i hj
      simp_all
    · rfl
  rw [h6]
  exact h2
theorem ops_own {base : Nat} {w : World} {e : TypeId} {v : Value} {l : List Sp.Op} (h : w.ownsRow base e 6 v l.length (opsVals l)) : Ops w v l := by
  obtain ⟨hlen, hown⟩ := id h
  rcases hown with ⟨rfl, h0⟩ | ⟨g, cap, cur, rfl, hb, hg, h1, h2, h3, h4⟩
  · have hL : l = [] := List.length_eq_zero_iff.1 h0
    subst hL
    exact ⟨none, 0, rfl, Nat.le_refl _, Nat.zero_le _, fun h => by simp at h⟩
  · refine ⟨_, cap, rfl, h1, h2, fun _ => ⟨g, 0, rfl, (Array.getElem?_eq_some_iff.1 hg).1, fun k o ho i y hy => ?_⟩⟩
    have hi : i < 6 := (Array.getElem?_eq_some_iff.1 hy).1
    have h5 : (opsVals l)[k * 6 + i]? = some y := by
      rw [opsVals_at l k i hi, ho]
      simpa using hy
    have h6 := (List.getElem?_eq_some_iff.1 h5).1
    rw [hlen] at h6
    rw [Nat.zero_add, h.cellAt _ h6]
    exact h5
end Go.Proofs.YtcgpmnlondnbhaaDoor
