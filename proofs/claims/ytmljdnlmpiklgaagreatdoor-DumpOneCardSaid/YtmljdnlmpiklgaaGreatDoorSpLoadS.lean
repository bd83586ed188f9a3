/-
  Layer 31: what a text that is read tells of it: a sector's size; its dump is the text. No program in this text.
-/
import Derived.Test.YtmljdnlmpiklgaaGreatDoorSpLoad
namespace Go.Proofs.YtmljdnlmpiklgaaGreatDoor.Sp
open Go Txt

theorem ofL_len (l : List UInt8) : (ofL l).size = l.length := by
  show l.toArray.size = _
  simp
theorem padL_len {l : List UInt8} (h : l.length ≤ 64) : (padL l).length = 64 := by
  unfold padL
  rw [List.length_append, zeros_length]
  omega
theorem allP_length {α β : Type} {f : α → Option β} : ∀ {l : List α} {r : List β}, allP f l = some r → r.length = l.length
  | [], r, h => by cases h; rfl
  | x :: l, r, h => by
    unfold allP at h
    split at h
    · rename_i y ys _ h2
      cases h
      rw [List.length_cons, List.length_cons, allP_length h2]
    · cases h
theorem allP_mem {α β : Type} {f : α → Option β} : ∀ {l : List α} {r : List β}, allP f l = some r → ∀ y ∈ r, ∃ x ∈ l, f x = some y
  | [], r, h, y, hy => by cases h; cases hy
  | x :: l, r, h, y, hy => by
    unfold allP at h
    split at h
    · rename_i z ys h1 h2
      cases h
      rcases List.mem_cons.1 hy with rfl | hy
      · exact ⟨x, by simp, h1⟩
      · obtain ⟨x2, hx, h3⟩ := allP_mem h2 y hy
        exact ⟨x2, by simp [hx], h3⟩
    · cases h
theorem allP_append {α β : Type} {f : α → Option β} : ∀ (l m : List α), allP f (l ++ m) = match allP f l, allP f m with
    | some a, some b => some (a ++ b)
    | _, _ => none
  | [], m => by
    show allP f m = _
    rw [show allP f ([] : List α) = some [] from rfl]
    cases allP f m <;> rfl
  | x :: l, m => by
    have ih := allP_append (f := f) l m
    cases hx : f x <;> cases hl : allP f l <;> cases hm : allP f m <;> simp [allP, hx, hl, hm, ih]
theorem allP_snoc {α β : Type} {f : α → Option β} {l : List α} {r : List β} {x : α} {y : β} (h : allP f l = some r) (hx : f x = some y) : allP f (l ++ [x]) = some (r ++ [y]) := by
  rw [allP_append, h]
  show (match some r, allP f [x] with | some a, some b => some (a ++ b) | _, _ => none) = _
  have : allP f [x] = some [y] := by unfold allP; rw [hx]; rfl
  rw [this]
theorem allP_none {α β : Type} {f : α → Option β} {l : List α} {x : α} (hx : x ∈ l) (h : f x = none) : allP f l = none := by
  induction l with
  | nil => cases hx
  | cons a r ih =>
    unfold allP
    rcases List.mem_cons.1 hx with rfl | hx
    · rw [h]
    · rw [ih hx]
      cases f a <;> rfl
theorem slotL_len {x : Entry} (h : x.may) : (slotL x).length = 16 := by
  have hn : x.name.size ≤ 13 := by
    rcases h with h | h
    · omega
    · have h2 := h.2.2
      unfold nameB nameL at h2
      simp only [Bool.and_eq_true, decide_eq_true_eq] at h2
      have := h2.1.1.1.1.2
      rw [Lib.size_eq]
      exact this
  unfold slotL
  rw [List.length_append, List.length_append, List.length_append, textL_length, zeros_length, List.length_singleton, ← Lib.size_eq]
  omega
theorem entryP_may {w : List UInt8} {x : Entry} (h : entryP w = some x) : x.may := by
  unfold entryP at h
  split at h
  · cases h
    exact Or.inl ⟨rfl, rfl⟩
  · split at h
    · split at h
      · split at h
        · cases h
          assumption
        · cases h
      · cases h
    · cases h
theorem inodeB_len {n : Inode} (h : n.direct.length = 8) : (inodeB n).size = 64 := by
  unfold inodeB
  rw [ofL_len]
  apply padL_len
  have : (n.direct.flatMap (fun b => textL 2 b.toNat)).length = 16 := by
    obtain ⟨k, l, z, p, g, d, m⟩ := n
    match d, h with
    | [d0, d1, d2, d3, d4, d5, d6, d7], _ => rfl
  simp only [List.length_append, textL_length, this, List.length_cons, List.length_nil]
  omega
theorem mapB_len (l : List Nat) : (mapB l).length = 64 := by unfold mapB; simp

/-- What is read is a sector. -/
theorem readP_size {g : Geom} {a : Int} {ws : List (List UInt8)} {s : ByteArray} (h : readP g a ws = some s) : s.size = 64 := by
  cases ws with
  | nil => cases h
  | cons w r =>
    simp only [readP] at h
    split at h
    · split at h
      · cases h; kernel_rfl
      · cases h
    split at h
    · unfold unleaseP at h
      split at h
      · split at h
        · rename_i l hl
          unfold tableN at h
          split at h
          · obtain ⟨hlt, he⟩ := List.getElem?_eq_some_iff.1 h
            rw [tabB_length] at hlt
            have := tabB_at (n := g.tables.toNat) (List.replicate ((a - 2) * 16).toNat (0, 0) ++ l ++ List.replicate (g.regions - (a - 2) * 16 - (r.length : Int)).toNat (0, 0)) hlt
            rw [h] at this
            cases this
            rw [ofL_len, secB_length (by rw [List.length_take]; omega)]
          · simp at h
        · cases h
      · cases h
    split at h
    · unfold unnodeP at h
      split at h
      · cases h
      · split at h
        · split at h
          · split at h
            · cases h
              exact inodeB_len (by unfold inodeP13; simp)
            · cases h
          · cases h
        · cases h
    split at h
    · unfold undirP at h
      split at h
      · rename_i h4
        split at h
        · rename_i l hl
          cases h
          have h1 := allP_length hl
          rw [h4] at h1
          have h2 : ∀ x ∈ l, (slotL x).length = 16 := fun x hx => by
            obtain ⟨w, _, hw⟩ := allP_mem hl x hx
            exact slotL_len (entryP_may hw)
          match l, h1 with
          | [a, b, c, d], _ =>
            rw [ofL_len]
            simp only [List.flatMap_cons, List.flatMap_nil, List.length_append, List.length_nil]
            rw [h2 a (by simp), h2 b (by simp), h2 c (by simp), h2 d (by simp)]
        · cases h
      · cases h
    split at h
    · split at h
      · split at h
        · cases h
          unfold superB
          rw [ofL_len, padL_len (by simp)]
        · cases h
      · cases h
    split at h
    · split at h
      · split at h
        · cases h
          unfold wallB
          rw [ofL_len, padL_len (by simp [textL_length])]
        · cases h
      · cases h
    split at h
    · split at h
      · unfold mapS at h
        split at h
        · cases h
          rw [ofL_len, mapB_len]
        · cases h
      · cases h
    split at h
    · split at h
      · unfold mapS at h
        split at h
        · cases h
          rw [ofL_len, mapB_len]
        · cases h
      · cases h
    split at h
    · split at h
      · split at h
        · split at h
          · cases h
            rw [ofL_len]
            assumption
          · cases h
        · cases h
      · cases h
    · cases h
theorem lineP_line {g : Geom} {i : Nat} {t : List UInt8} {s : ByteArray} (h : lineP g i t = some s) : lineL g (i : Int) s = t ∧ s.size = 64 := by
  unfold lineP at h
  split at h
  · split at h
    · split at h
      · rename_i s2 hs
        split at h
        · cases h
          exact ⟨by assumption, readP_size hs⟩
        · cases h
      · cases h
    · cases h
  · cases h
/-- Lines, with a byte between them. -/
def unline (c : UInt8) : List (List UInt8) → List UInt8
  | [] => []
  | [x] => x
  | x :: y :: r => x ++ c :: unline c (y :: r)
theorem unline_cutAt {c : UInt8} : ∀ l : List UInt8, unline c (cutAt c l) = l
  | [] => rfl
  | b :: r => by
    have ih := unline_cutAt (c := c) r
    unfold cutAt
    by_cases hc : b = c
    · rw [if_pos hc]
      cases hr : cutAt c r with
      | nil => exact absurd hr (cutAt_ne r)
      | cons x xs =>
        rw [hr] at ih
        show [] ++ c :: unline c (x :: xs) = b :: r
        rw [ih, hc]
        rfl
    · rw [if_neg hc]
      cases hr : cutAt c r with
      | nil => exact absurd hr (cutAt_ne r)
      | cons x xs =>
        rw [hr] at ih
        cases xs with
        | nil =>
          show b :: x = b :: r
          rw [show x = r from ih]
        | cons y ys =>
          show (b :: x) ++ c :: unline c (y :: ys) = b :: r
          rw [List.cons_append, show x ++ c :: unline c (y :: ys) = r from ih]
/-- What is read of lines is the dump of them. -/
theorem loadFrom_text {g : Geom} : ∀ (ls : List (List UInt8)) (i : Nat) (l : List ByteArray) (k : Nat), loadFrom g i ls = (some l, k) →
    unline 10 ls = textFrom i g l ∧ ((i + l.length : Nat) : Int) = g.size ∧ (∀ s ∈ l, s.size = 64) ∧ k = 0
  | [], i, l, k, h => by simp [loadFrom] at h
  | [t], i, l, k, h => by
    unfold loadFrom at h
    split at h
    · rename_i h1
      simp only [Prod.mk.injEq, Option.some.injEq] at h
      obtain ⟨rfl, rfl⟩ := h
      exact ⟨h1.2, h1.1, by simp, rfl⟩
    · simp at h
  | t :: u :: r, i, l, k, h => by
    unfold loadFrom at h
    split at h
    · simp at h
    · split at h
      · rename_i s hs
        split at h
        · rename_i l2 k2 h2
          simp only [Prod.mk.injEq, Option.some.injEq] at h
          obtain ⟨rfl, rfl⟩ := h
          obtain ⟨e1, e2, e3, e4⟩ := loadFrom_text (u :: r) (i + 1) l2 k2 h2
          obtain ⟨f1, f2⟩ := lineP_line hs
          refine ⟨?_, ?_, ?_, e4⟩
          · show t ++ 10 :: unline 10 (u :: r) = lineL g i s ++ 10 :: textFrom (i + 1) g l2
            rw [e1, f1]
          · rw [← e2, List.length_cons]
            omega
          · intro x hx
            rcases List.mem_cons.1 hx with rfl | hx
            · exact f2
            · exact e3 x hx
        · simp at h
      · simp at h
theorem loadFrom_line {g : Geom} : ∀ (ls : List (List UInt8)) (i k : Nat), ls ≠ [] → loadFrom g i ls = (none, k) → i + 1 ≤ k ∧ k ≤ i + ls.length
  | [], i, k, hn, h => absurd rfl hn
  | [t], i, k, hn, h => by
    unfold loadFrom at h
    split at h
    · simp at h
    · simp only [Prod.mk.injEq, true_and] at h
      rw [← h, List.length_singleton]
      omega
  | t :: u :: r, i, k, hn, h => by
    unfold loadFrom at h
    split at h
    · simp only [Prod.mk.injEq, true_and] at h
      rw [← h, List.length_cons]
      omega
    · split at h
      · split at h
        · simp at h
        · rename_i k2 h2
          simp only [Prod.mk.injEq, true_and] at h
          have := loadFrom_line (u :: r) (i + 1) k2 (by simp) h2
          rw [List.length_cons]
          omega
      · simp only [Prod.mk.injEq, true_and] at h
        rw [← h, List.length_cons]
        omega
/-- A text that is read is the dump of what it is read as. -/
theorem loadN_ok {g : Geom} {t : ByteArray} (h : (loadN g t).2.2 = 0) : shapeP g (loadN g t).1 ∧ textN g (loadN g t).1 = (t, 0) ∧ (loadN g t).2.1 = 0 ∧ t.size ≤ 1048576 := by
  unfold loadN at h ⊢
  by_cases hg : g.ok
  · rw [if_pos hg] at h ⊢
    by_cases hs : 1048576 < t.size
    · rw [if_pos hs] at h
      simp at h
    · rw [if_neg hs] at h ⊢
      cases hl : loadFrom g 0 (cutAt 10 t.data.toList) with
      | mk o k =>
        rw [hl] at h
        cases o with
        | none => simp at h
        | some l =>
          obtain ⟨e1, e2, e3, e4⟩ := loadFrom_text _ _ _ _ hl
          rw [unline_cutAt] at e1
          rw [Nat.zero_add] at e2
          have hsh : shapeP g l := ⟨hg, e2, e3⟩
          refine ⟨hsh, ?_, e4, by omega⟩
          show textN g l = (t, 0)
          unfold textN
          rw [if_pos hsh, ← e1, data_ofL]
  · rw [if_neg hg] at h
    simp at h
/-- What is wrong. -/
theorem loadN_codes (g : Geom) (t : ByteArray) : (loadN g t).2.2 ≠ 0 → (loadN g t).1 = [] ∧ ((loadN g t).2.2 = 4 ∧ ¬ g.ok ∨ (loadN g t).2.2 = 2 ∧ 1048576 < t.size ∨ (loadN g t).2.2 = 280 ∧ 1 ≤ (loadN g t).2.1) := by
  unfold loadN
  by_cases hg : g.ok
  · rw [if_pos hg]
    by_cases hs : 1048576 < t.size
    · rw [if_pos hs]
      exact fun _ => ⟨rfl, Or.inr (Or.inl ⟨rfl, hs⟩)⟩
    · rw [if_neg hs]
      cases hl : loadFrom g 0 (cutAt 10 t.data.toList) with
      | mk o k =>
        cases o with
        | none =>
          intro _
          refine ⟨rfl, Or.inr (Or.inr ⟨rfl, ?_⟩)⟩
          have := loadFrom_line _ _ _ (cutAt_ne _) hl
          show 1 ≤ k
          omega
        | some l => exact fun h => absurd rfl h
  · rw [if_neg hg]
    exact fun _ => ⟨rfl, Or.inl ⟨rfl, hg⟩⟩
end Go.Proofs.YtmljdnlmpiklgaaGreatDoor.Sp
