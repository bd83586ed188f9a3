/-
  A log in memory, one answer's code turned. No walk in this text.
-/
import Derived.Test.YtcgpmnlondnbhaaDoorLogAt
import Derived.Test.YtcgpmnlondnbhaaDoorSpFine
namespace Go.Proofs.YtcgpmnlondnbhaaDoor
open Go Go.RowKit Txt Sp

theorem turnAt_get : ∀ (L : List Sp.Did) (k : Nat) (c : Int) (j : Nat), (turnAt L k c)[j]? = if j = k then (L[k]?).map (fun x => { x with a := { x.a with code := c } }) else L[j]?
  | [], k, c, j => by unfold turnAt; simp
  | x :: r, 0, c, j => by
    unfold turnAt
    cases j with
    | zero => simp
    | succ j => simp
  | x :: r, k + 1, c, j => by
    unfold turnAt
    cases j with
    | zero => simp
    | succ j =>
      rw [List.getElem?_cons_succ, turnAt_get r k c j, List.getElem?_cons_succ, List.getElem?_cons_succ]
      simp

theorem LogAt.turned {base : Nat} {w : World} {D : Nat → Prop} {L : List Sp.Did} {xs : List Value} {g cap : Nat} (h : LogAt base w D (.slice (some ⟨g, 0, none⟩) L.length cap) L xs) {k : Nat} (hk : k < L.length) (c : Int) :
    Dids (w.setCell ⟨g, k * 16 + 10, none⟩ (.int .i64 c)) (.slice (some ⟨g, 0, none⟩) L.length cap) (turnAt L k c) := by
  obtain ⟨hlen, hown⟩ := h.own
  rcases hown with ⟨h0, _⟩ | ⟨g', cap', cur, hv, hb, hg, h1, h2, h3, h4⟩
  · cases h0
  cases hv
  have hcell : ∀ j, j < L.length * 16 → (w.setCell ⟨g, k * 16 + 10, none⟩ (.int .i64 c)).cell? ⟨g, j, none⟩ = if j = k * 16 + 10 then some (.int .i64 c) else xs[j]? := fun j hj => by
    have h5 := heap_setCell_at (k := k * 16 + 10) hg (.int .i64 c)
    have h6 : j < cur.size := by rw [h3]; exact Nat.lt_of_lt_of_le hj (Nat.mul_le_mul_right _ h1)
    have h7 : xs[j]? = cur[j]? := by rw [← h4, List.getElem?_take_of_lt hj, Array.getElem?_toList]
    simp only [World.cell?, h5]
    by_cases hjk : j = k * 16 + 10
    · subst hjk
      rw [if_pos rfl]
      simp [h6]
    · rw [if_neg hjk, h7]
      simp [Ne.symm hjk]
  refine ⟨_, cap, by rw [turnAt_length], by rw [turnAt_length]; exact h1, h2, fun _ => ⟨g, 0, rfl, by rw [size_setCell]; exact (Array.getElem?_eq_some_iff.1 hg).1, fun j x hx => ?_⟩⟩
  rw [turnAt_get] at hx
  have texts : ∀ {ad : Option Addr} {m cap2 : Nat} {names : List ByteArray}, OwnTexts base w (.slice ad m cap2) names → (∀ e, (Value.slice ad m cap2).ownBlock = some e → ¬ D e ∧ (Value.slice (some ⟨g, 0, none⟩) L.length cap).ownBlock ≠ some e) → Texts (w.setCell ⟨g, k * 16 + 10, none⟩ (.int .i64 c)) (.slice ad m cap2) names := fun t1 t2 => by
    refine (t1.keep (fun e o he ho => ?_)).texts
    have hne : e ≠ g := fun hh => (t2 e he).2 (by rw [hh]; rfl)
    rw [heap_setCell_ne _ hne]
    exact ho
  by_cases hjk : j = k
  · subst hjk
    rw [if_pos rfl] at hx
    obtain ⟨y, hy, rfl⟩ := Option.map_eq_some_iff.1 hx
    obtain ⟨ad, c2, t1, t2, t3⟩ := h.at' j y hy
    refine ⟨ad, c2, texts t1 t2, fun i z hz => ?_⟩
    have hi : i < 16 := (Array.getElem?_eq_some_iff.1 hz).1
    rw [Nat.zero_add, hcell _ (by omega)]
    by_cases hi10 : i = 10
    · subst hi10
      rw [if_pos rfl]
      exact hz
    · rw [if_neg (by omega)]
      refine t3 i z ?_
      rw [← hz]
      match i, hi, hi10 with
      | 0, _, _ | 1, _, _ | 2, _, _ | 3, _, _ | 4, _, _ | 5, _, _ | 6, _, _ | 7, _, _ | 8, _, _ | 9, _, _ | 11, _, _ | 12, _, _ | 13, _, _ | 14, _, _ | 15, _, _ => rfl
  · rw [if_neg hjk] at hx
    obtain ⟨ad, c2, t1, t2, t3⟩ := h.at' j x hx
    refine ⟨ad, c2, texts t1 t2, fun i z hz => ?_⟩
    have hi : i < 16 := (Array.getElem?_eq_some_iff.1 hz).1
    have hj := (List.getElem?_eq_some_iff.1 hx).1
    rw [Nat.zero_add, hcell _ (by omega), if_neg (by omega)]
    exact t3 i z hz
end Go.Proofs.YtcgpmnlondnbhaaDoor
