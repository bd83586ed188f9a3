/-
  Last, Common and Under, of names.go and of the document.
-/
import Derived.Test.YtcgpmnlondnbhaaDoorSplit
import Derived.Test.YtcgpmnlondnbhaaDoorSame
namespace Go.Proofs.YtcgpmnlondnbhaaDoor
open Go.RowKit Txt

theorem splitN_or (p : ByteArray) : (∃ l, splitN p = (l, 0) ∧ l.length ≤ 8) ∨ (∃ c, splitN p = ([], c) ∧ (c == 0) = false) := by
  rcases splitN_cases p with ⟨l, h⟩ | h | h
  · exact Or.inl ⟨l, h, (splitN_short h).1⟩
  · exact Or.inr ⟨90, h, rfl⟩
  · exact Or.inr ⟨91, h, rfl⟩

theorem split_ok {p : ByteArray} {l : List ByteArray} (h : Hid (splitN p = (l, 0))) (w : World) (hm : MaxOk w) (hs : p.size ≤ 4000000000) :
    Calls Tryd.prog 52 #[.string p] w fun e w' => ∃ v, e = .returned (.tuple #[v, .int .i64 0]) ∧ Texts w' v l ∧ Below w.heap.size w w' := by
  have h2 := split_any p w hm hs
  unfold SplitPost at h2
  rw [h.out] at h2
  exact h2
theorem split_err {p : ByteArray} {c : Int} (h : Hid (splitN p = ([], c))) (w : World) (hm : MaxOk w) (hs : p.size ≤ 4000000000) :
    Calls Tryd.prog 52 #[.string p] w fun e w' => ∃ v, e = .returned (.tuple #[v, .int .i64 c]) ∧ Texts w' v [] ∧ Below w.heap.size w w' := by
  have h2 := split_any p w hm hs
  unfold SplitPost at h2
  rw [h.out] at h2
  exact h2
/-- A slice of texts, some of them: the first ones. -/
theorem Texts.front {w : World} {ad : Option Addr} {cap : Nat} {l : List ByteArray} (h : Texts w (.slice ad l.length cap) l) (k c : Nat) (hk : k ≤ l.length) (hc : k ≤ c) (hc2 : c ≤ cap) : Texts w (.slice ad k c) (l.take k) := by
  obtain ⟨ad', cap', e, h1, h2, h3⟩ := h
  cases e
  have hl : (l.take k).length = k := by rw [List.length_take]; omega
  refine ⟨ad, c, by rw [hl], by rw [hl]; exact hc, by omega, fun hp => ?_⟩
  obtain ⟨b, off, e, hb, hcell⟩ := h3 (by omega)
  refine ⟨b, off, e, hb, fun j x hx => hcell j x ?_⟩
  rw [List.getElem?_take] at hx
  split at hx
  · exact hx
  · cases hx

theorem lastN_err {p : ByteArray} {c : Int} (h : splitN p = ([], c)) (hc : (c == 0) = false) : lastN p = ([], ofL [], c) := by
  unfold lastN; rw [h]; simp [beq_eq_false_iff_ne.1 hc]
theorem lastN_root {p : ByteArray} (h : splitN p = ([], 0)) : lastN p = ([], ofL [], 108) := by
  unfold lastN; rw [h]; rfl
theorem lastN_ok {p : ByteArray} {l : List ByteArray} {x : ByteArray} (h : splitN p = (l ++ [x], 0)) : lastN p = (l, x, 0) := by
  unfold lastN; rw [h]; simp

/-- What Last leaves. -/
def LastPost (p : ByteArray) (w : World) (e : Ending) (w' : World) : Prop :=
  ∃ v, e = .returned (.tuple #[v, .string (lastN p).2.1, .int .i64 (lastN p).2.2]) ∧ Texts w' v (lastN p).1 ∧ Below w.heap.size w w'
/-- What names.Last leaves: a slice without room behind its end. -/
def LastPost1 (p : ByteArray) (w : World) (e : Ending) (w' : World) : Prop :=
  ∃ (ad : Option Addr) (n : Nat), e = .returned (.tuple #[.slice ad n n, .string (lastN p).2.1, .int .i64 (lastN p).2.2]) ∧ Texts w' (.slice ad n n) (lastN p).1 ∧ Below w.heap.size w w'

theorem LastPost.mk {p : ByteArray} {l : List ByteArray} {x : ByteArray} {c : Int} (h : lastN p = (l, x, c)) {w w' : World} {v : Value} (ht : Texts w' v l) (hb : Below w.heap.size w w') : LastPost p w (.returned (.tuple #[v, .string x, .int .i64 c])) w' :=
  ⟨_, by rw [h], by rw [h]; exact ht, hb⟩
theorem LastPost1.mk {p : ByteArray} {l : List ByteArray} {x : ByteArray} {c : Int} (h : lastN p = (l, x, c)) {w w' : World} {ad : Option Addr} {n : Nat} (ht : Texts w' (.slice ad n n) l) (hb : Below w.heap.size w w') : LastPost1 p w (.returned (.tuple #[.slice ad n n, .string x, .int .i64 c])) w' :=
  ⟨_, _, by rw [h], by rw [h]; exact ht, hb⟩

theorem list_snoc {α : Type} (l : List α) (h : l ≠ []) : ∃ r x, l = r ++ [x] := ⟨l.dropLast, l.getLast h, (List.dropLast_concat_getLast h).symm⟩

set_option maxHeartbeats 400000 in
theorem last_any (p : ByteArray) (w : World) (hm : MaxOk w) (hs : p.size ≤ 4000000000) :
    Calls Tryd.prog 45 #[.string p] w (LastPost1 p w) := by
  rcases splitN_or p with ⟨l, h, h8⟩ | ⟨c, h, hc⟩
  · have H := Lib.hid h
    by_cases hl : l = []
    · subst hl
      have HL := Lib.hid (lastN_root h)
      clear h h8
      go_enter Tryd.func45, Tryd.ntmps45
      go_wp2_with (go_at_call 52; refine (split_ok H _ hm hs).mono ?_; rintro e w' ⟨v, rfl, ht, hb⟩; obtain ⟨ad, cap, rfl, h1, h2, h3⟩ := ht; clear h3)
      go_ret3
      exact LastPost1.mk HL.out (Texts.void _) hb
    · obtain ⟨r, x, rfl⟩ := list_snoc l hl
      have HL := Lib.hid (lastN_ok h)
      obtain ⟨n, hn⟩ : ∃ n, r.length = n := ⟨_, rfl⟩
      have hn8 : n ≤ 8 := by rw [← hn]; simp at h8; omega
      have HN := Lib.hid hn
      clear h h8 hl hn
      go_enter Tryd.func45, Tryd.ntmps45
      go_wp2_with fail
      refine (split_ok H _ hm hs).mono ?_
      rintro e w' ⟨v, rfl, ht, hb⟩
      have HT := Lib.hid ht
      obtain ⟨ad, cap, rfl, h1, h2, h3⟩ := ht
      obtain ⟨b, off, rfl, hlt, hcell⟩ := h3 (by simp)
      have hx := hcell n x (by rw [List.getElem?_append_right (by have := HN.out; omega)]; simp [HN.out])
      have HT2 : Hid (Texts w' (.slice (some ⟨b, off, none⟩) n n) r) := by
        have := (HT.out).front n n (by simp; have := HN.out; omega) (Nat.le_refl _) (by have := HN.out; simp at h1; omega)
        rw [List.take_append_of_le_length (by have := HN.out; omega), List.take_of_length_le (by have := HN.out; omega)] at this
        exact this
      have hlen : (r ++ [x]).length = n + 1 := by simp; exact HN.out
      have hcap : n + 1 ≤ cap := by omega
      have hcm : cap ≤ 9223372036854775807 := by unfold maxLen at h2; exact h2
      clear HT h1 h2 h3 hcell
      rw [hlen]
      clear hlen
      go_wp2
      go_quiet (fail)
      go_wp2
      go_ret3
      exact LastPost1.mk HL.out ((HT2.out).below ((below_drewN (Below.refl _ _) _))) (below_drewN hb _)
  · have H := Lib.hid h
    have HL := Lib.hid (lastN_err h hc)
    clear h
    go_enter Tryd.func45, Tryd.ntmps45
    go_wp2_with (go_at_call 52; refine (split_err H _ hm hs).mono ?_; rintro e w' ⟨v, rfl, ht, hb⟩)
    go_ret3
    exact LastPost1.mk HL.out (Texts.void _) hb

theorem split_pair {p : ByteArray} {l : List ByteArray} {c : Int} (h : Hid (splitN p = (l, c))) (w : World) (hm : MaxOk w) (hs : p.size ≤ 4000000000) :
    Calls Tryd.prog 52 #[.string p] w fun e w' => ∃ v, e = .returned (.tuple #[v, .int .i64 c]) ∧ Texts w' v l ∧ Below w.heap.size w w' := by
  have h2 := split_any p w hm hs
  unfold SplitPost at h2
  rw [h.out] at h2
  exact h2
theorem last_triple {p : ByteArray} {l : List ByteArray} {x : ByteArray} {c : Int} (h : Hid (lastN p = (l, x, c))) (w : World) (hm : MaxOk w) (hs : p.size ≤ 4000000000) :
    Calls Tryd.prog 45 #[.string p] w fun e w' => ∃ ad n, e = .returned (.tuple #[.slice ad n n, .string x, .int .i64 c]) ∧ Texts w' (.slice ad n n) l ∧ Below w.heap.size w w' := by
  have h2 := last_any p w hm hs
  unfold LastPost1 at h2
  rw [h.out] at h2
  exact h2
theorem below_next {a b c : World} (h : Below a.heap.size a b) (k : Below b.heap.size b c) : Below a.heap.size a c := h.trans (k.mono h.size)


end Go.Proofs.YtcgpmnlondnbhaaDoor
