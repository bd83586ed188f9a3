/-
  A log in memory, one answer's time of telling turned. No walk in this text.
-/
import Derived.Test.YtcgpmnlondnbhaaDoorLogSrc
import Derived.Test.YtcgpmnlondnbhaaDoorSpBegins
namespace Go.Proofs.YtcgpmnlondnbhaaDoor
open Go Go.RowKit Txt Sp

def tillAt : List Sp.Did → Nat → Int → List Sp.Did
  | [], _, _ => []
  | x :: r, 0, c => { x with till := c } :: r
  | x :: r, k + 1, c => x :: tillAt r k c
theorem tillAt_length : ∀ (L : List Sp.Did) (k : Nat) (c : Int), (tillAt L k c).length = L.length
  | [], _, _ => rfl
  | x :: r, 0, c => rfl
  | x :: r, k + 1, c => by
    unfold tillAt
    rw [List.length_cons, tillAt_length r, List.length_cons]
theorem tillAt_get : ∀ (L : List Sp.Did) (k : Nat) (c : Int) (j : Nat), (tillAt L k c)[j]? = if j = k then (L[k]?).map (fun x => { x with till := c }) else L[j]?
  | [], k, c, j => by unfold tillAt; simp
  | x :: r, 0, c, j => by
    unfold tillAt
    cases j with
    | zero => simp
    | succ j => simp
  | x :: r, k + 1, c, j => by
    unfold tillAt
    cases j with
    | zero => simp
    | succ j =>
      rw [List.getElem?_cons_succ, tillAt_get r k c j, List.getElem?_cons_succ, List.getElem?_cons_succ]
      simp

theorem LogAt.tilled {base : Nat} {w : World} {D : Nat → Prop} {L : List Sp.Did} {xs : List Value} {g cap n : Nat} (h : LogAt base w D (.slice (some ⟨g, 0, none⟩) n cap) L xs) (hn : n = L.length) {k : Nat} (hk : k < L.length) (c : Int) :
    LogAt base (w.setCell ⟨g, k * 16 + 3, none⟩ (.int .i64 c)) D (.slice (some ⟨g, 0, none⟩) n cap) (tillAt L k c) (xs.set (k * 16 + 3) (.int .i64 c)) := by
  subst hn
  have hlen := h.own.1
  refine ⟨by rw [tillAt_length]; exact (h.own.stored _ _).1, h.apart, fun j x hx => ?_⟩
  rw [tillAt_get] at hx
  have texts : ∀ {ad : Option Addr} {m cap2 : Nat} {names : List ByteArray}, OwnTexts base w (.slice ad m cap2) names → (∀ e, (Value.slice ad m cap2).ownBlock = some e → ¬ D e ∧ (Value.slice (some ⟨g, 0, none⟩) L.length cap).ownBlock ≠ some e) → OwnTexts base (w.setCell ⟨g, k * 16 + 3, none⟩ (.int .i64 c)) (.slice ad m cap2) names := fun t1 t2 => by
    refine t1.keep (fun e o he ho => ?_)
    have hne : e ≠ g := fun hh => (t2 e he).2 (by rw [hh]; rfl)
    rw [heap_setCell_ne _ hne]
    exact ho
  by_cases hjk : j = k
  · subst hjk
    rw [if_pos rfl] at hx
    obtain ⟨y, hy, rfl⟩ := Option.map_eq_some_iff.1 hx
    obtain ⟨ad, c2, t1, t2, t3⟩ := h.at' j y hy
    refine ⟨ad, c2, texts t1 t2, t2, fun i z hz => ?_⟩
    have hi : i < 16 := (Array.getElem?_eq_some_iff.1 hz).1
    by_cases hi3 : i = 3
    · subst hi3
      rw [List.getElem?_set_self (by rw [hlen]; omega)]
      exact hz
    · rw [List.getElem?_set_ne (by omega)]
      refine t3 i z ?_
      rw [← hz]
      match i, hi, hi3 with
      | 0, _, _ | 1, _, _ | 2, _, _ | 4, _, _ | 5, _, _ | 6, _, _ | 7, _, _ | 8, _, _ | 9, _, _ | 10, _, _ | 11, _, _ | 12, _, _ | 13, _, _ | 14, _, _ | 15, _, _ => rfl
  · rw [if_neg hjk] at hx
    obtain ⟨ad, c2, t1, t2, t3⟩ := h.at' j x hx
    refine ⟨ad, c2, texts t1 t2, t2, fun i z hz => ?_⟩
    have hi : i < 16 := (Array.getElem?_eq_some_iff.1 hz).1
    rw [List.getElem?_set_ne (by omega)]
    exact t3 i z hz

theorem swap_till {L : List Sp.Did} {x y : Sp.Did} (hx : L[0]? = some x) (hy : L[1]? = some y) : tillAt (tillAt L 0 y.till) 1 x.till = swapTill L ∧ tillAt (tillAt L 1 x.till) 0 y.till = swapTill L := by
  match L, hx, hy with
  | a :: b :: r, hx, hy =>
    cases hx
    cases hy
    exact ⟨rfl, rfl⟩
end Go.Proofs.YtcgpmnlondnbhaaDoor
