/-
  Laws of the tree as plain data: finding, walking, and what each change does to what is found. No program in this text.
-/
import Derived.Test.YtcgpmnlondnbhaaDoorSp
namespace Go.Proofs.YtcgpmnlondnbhaaDoor.Sp
open Go Txt

theorem snocInd {α : Type} {P : List α → Prop} (nil : P []) (append_singleton : ∀ l x, P l → P (l ++ [x])) (l : List α) : P l := by
  have : ∀ n, ∀ l : List α, l.length = n → P l := by
    intro n
    induction n with
    | zero => intro l h; rw [List.length_eq_zero_iff.1 h]; exact nil
    | succ n ih =>
      intro l h
      have hne : l ≠ [] := fun e => by rw [e] at h; cases h
      rw [← List.dropLast_concat_getLast hne]
      exact append_singleton _ _ (ih _ (by rw [List.length_dropLast, h]; rfl))
  exact this _ l rfl

section
variable {t : Tree}

theorem find_mem (h : t.Ok) {p : List ByteArray} {i : Nat} : t.find p = some i ↔ (p, i) ∈ t.names := by
  unfold Tree.find
  constructor
  · intro e
    obtain ⟨x, hx, rfl⟩ := Option.map_eq_some_iff.1 e
    have h1 := List.find?_some hx
    have h2 := List.mem_of_find?_eq_some hx
    have : x.1 = p := of_decide_eq_true h1
    subst this
    exact h2
  · intro hm
    have hn := h.nodup
    generalize t.names = l at hm hn
    induction l with
    | nil => cases hm
    | cons y r ih =>
      rw [List.map_cons, List.nodup_cons] at hn
      rw [List.find?_cons]
      rcases List.mem_cons.1 hm with e | hm
      · subst e; simp
      · have hne : y.1 ≠ p := fun e => hn.1 (by rw [e]; exact List.mem_map.2 ⟨_, hm, rfl⟩)
        rw [decide_eq_false hne]
        exact ih hm hn.2
theorem find_none {p : List ByteArray} : t.find p = none ↔ ∀ i, (p, i) ∉ t.names := by
  unfold Tree.find
  rw [Option.map_eq_none_iff, List.find?_eq_none]
  constructor
  · intro h i hm
    exact h _ hm (by simp)
  · intro h x hx e
    have := of_decide_eq_true e
    subst this
    exact h x.2 hx
theorem find_nil (h : t.Ok) : t.find [] = none := find_none.2 fun _ hm => h.ne _ _ hm rfl
theorem idOf_find {p : List ByteArray} (hp : p ≠ []) : t.idOf p = t.find p := if_neg hp
theorem idOf_nil : t.idOf [] = some 0 := if_pos rfl
theorem idOf_snoc {p : List ByteArray} {s : ByteArray} : t.idOf (p ++ [s]) = t.find (p ++ [s]) := idOf_find (by simp)
theorem find_idOf (h : t.Ok) {p : List ByteArray} {i : Nat} (hf : t.find p = some i) : t.idOf p = some i := by
  rw [idOf_find (h.ne _ _ ((find_mem h).1 hf)), hf]

theorem thing_of (h : t.Ok) {i : Nat} {b : Bool} {d : ByteArray} (hm : (i, b, d) ∈ t.things) : t.thing i = (b, d) := by
  unfold Tree.thing
  have hn := h.ids
  generalize t.things = l at hm hn
  induction l with
  | nil => cases hm
  | cons y r ih =>
    rw [List.map_cons, List.nodup_cons] at hn
    rw [List.find?_cons]
    rcases List.mem_cons.1 hm with e | hm
    · subst e; simp
    · have hne : y.1 ≠ i := fun e => hn.1 (by rw [e]; exact List.mem_map.2 ⟨_, hm, rfl⟩)
      rw [decide_eq_false hne]
      exact ih hm hn.2
theorem isDir_of (h : t.Ok) {i : Nat} {b : Bool} {d : ByteArray} (hm : (i, b, d) ∈ t.things) : t.isDir i = b := by unfold Tree.isDir; rw [thing_of h hm]
theorem dataOf_of (h : t.Ok) {i : Nat} {b : Bool} {d : ByteArray} (hm : (i, b, d) ∈ t.things) : t.dataOf i = d := by unfold Tree.dataOf; rw [thing_of h hm]

/-- What stands for something stands for a thing. -/
theorem there_idOf (h : t.Ok) {p : List ByteArray} {i : Nat} (hp : t.idOf p = some i) : (i, t.isDir i, t.dataOf i) ∈ t.things := by
  unfold Tree.idOf at hp
  split at hp
  · cases hp
    obtain ⟨d, hd⟩ := h.root
    rw [isDir_of h hd, dataOf_of h hd]; exact hd
  · obtain ⟨_, b, d, hd⟩ := h.there _ _ ((find_mem h).1 hp)
    rw [isDir_of h hd, dataOf_of h hd]; exact hd

theorem walk_ok : ∀ (l : List ByteArray) {pre : List ByteArray} {i j : Nat}, t.walk pre l i = (j, 0) → t.idOf pre = some i → t.idOf (pre ++ l) = some j
  | [], pre, i, j, hw, hp => by
    unfold Tree.walk at hw
    cases hw
    rw [List.append_nil]; exact hp
  | s :: r, pre, i, j, hw, hp => by
    unfold Tree.walk at hw
    split at hw
    · cases hf : t.find (pre ++ [s]) with
      | none => rw [hf] at hw; cases hw
      | some k =>
        rw [hf] at hw
        have := walk_ok r hw (by rw [idOf_snoc]; exact hf)
        rw [List.append_assoc] at this
        exact this
    · cases hw

/-- Whatever is there is walked to. -/
theorem walk_there (h : t.Ok) : ∀ (l : List ByteArray) {pre : List ByteArray} {i j : Nat}, t.idOf pre = some i → t.idOf (pre ++ l) = some j → t.walk pre l i = (j, 0)
  | [], pre, i, j, hp, hj => by
    rw [List.append_nil, hp] at hj
    cases hj
    rfl
  | s :: r, pre, i, j, hp, hj => by
    have key : ∀ (r : List ByteArray) (j : Nat), t.find (pre ++ [s] ++ r) = some j → ∃ k, t.find (pre ++ [s]) = some k := by
      intro r
      induction r using snocInd with
      | nil => intro j hj; rw [List.append_nil] at hj; exact ⟨j, hj⟩
      | append_singleton r x ih =>
        intro j hj
        rw [← List.append_assoc] at hj
        rcases h.up _ _ ((find_mem h).1 hj) with e | ⟨k, hk, _⟩
        · rw [List.dropLast_concat] at e
          simp at e
        · rw [List.dropLast_concat] at hk
          exact ih k ((find_mem h).2 hk)
    have hj' : t.find (pre ++ [s] ++ r) = some j := by
      rw [idOf_find (by simp)] at hj
      rw [List.append_assoc]
      exact hj
    obtain ⟨k, hk⟩ := key r j hj'
    have hd : t.isDir i = true := by
      rcases h.up _ _ ((find_mem h).1 hk) with e | ⟨k', hk', hd⟩
      · rw [List.dropLast_concat] at e
        subst e
        cases hp
        obtain ⟨d, hd⟩ := h.root
        exact isDir_of h hd
      · rw [List.dropLast_concat] at hk'
        have := find_idOf h ((find_mem h).2 hk')
        rw [hp] at this
        cases this
        exact hd
    unfold Tree.walk
    rw [if_pos hd, hk]
    exact walk_there h r (by rw [idOf_snoc]; exact hk) (by rw [List.append_assoc]; exact hj)

theorem walk_code : ∀ (l : List ByteArray) (pre : List ByteArray) (i : Nat), (t.walk pre l i).2 = 0 ∨ (t.walk pre l i) = (0, 100) ∨ (t.walk pre l i) = (0, 103)
  | [], _, _ => Or.inl rfl
  | s :: r, pre, i => by
    unfold Tree.walk
    split
    · cases t.find (pre ++ [s]) with
      | none => simp
      | some k => exact walk_code r _ k
    · simp

/-- A walk to a path's directory. -/
inductive DirTo (t : Tree) (path : ByteArray) : Prop where
  | err (c : Int) (h1 : lastN path = ([], ofL [], c)) (h2 : (c == 0) = false) (h3 : t.dirC path = c)
  | miss (l : List ByteArray) (x : ByteArray) (c : Int) (h1 : lastN path = (l, x, 0)) (h2 : t.walk [] l 0 = (0, c)) (h3 : (c == 0) = false) (h4 : t.dirC path = c)
  | file (l : List ByteArray) (x : ByteArray) (i : Nat) (h1 : lastN path = (l, x, 0)) (h2 : t.walk [] l 0 = (i, 0)) (h3 : t.isDir i = false) (h4 : t.dirC path = 103)
  | dir (l : List ByteArray) (x : ByteArray) (i : Nat) (h1 : lastN path = (l, x, 0)) (h2 : t.walk [] l 0 = (i, 0)) (h3 : t.isDir i = true) (h4 : t.dirC path = 0) (h5 : full path = l ++ [x]) (h6 : nameB x = true)

theorem lastN_cases (p : ByteArray) : (∃ c, lastN p = ([], ofL [], c) ∧ (c == 0) = false) ∨ ∃ l x, lastN p = (l, x, 0) ∧ splitN p = (l ++ [x], 0) := by
  rcases splitN_cases p with ⟨l, h⟩ | h | h
  · cases hl : l with
    | nil => subst hl; exact Or.inl ⟨108, by unfold lastN; rw [h]; rfl, rfl⟩
    | cons y r =>
      have hne : l ≠ [] := by rw [hl]; simp
      refine Or.inr ⟨l.dropLast, l.getLast hne, ?_, ?_⟩
      · unfold lastN
        rw [h]
        simp only [if_true, hne, if_false]
        rw [List.getLastD_eq_getLast?, List.getLast?_eq_some_getLast hne]
        rfl
      · rw [h, List.dropLast_concat_getLast hne]
  · exact Or.inl ⟨90, by unfold lastN; rw [h]; rfl, rfl⟩
  · exact Or.inl ⟨91, by unfold lastN; rw [h]; rfl, rfl⟩

theorem dirTo (t : Tree) (path : ByteArray) : DirTo t path := by
  rcases lastN_cases path with ⟨c, h, hc⟩ | ⟨l, x, h, hs⟩
  · exact .err c h hc (by unfold Tree.dirC; rw [h]; simp [beq_eq_false_iff_ne.1 hc])
  · rcases walk_code (t := t) l [] 0 with hw | hw | hw
    · obtain ⟨i, hi⟩ : ∃ i, t.walk [] l 0 = (i, 0) := ⟨(t.walk [] l 0).1, by rw [← hw]⟩
      cases hd : t.isDir i with
      | false => exact .file l x i h hi hd (by unfold Tree.dirC; rw [h]; simp [hi, hd])
      | true =>
        refine .dir l x i h hi hd (by unfold Tree.dirC; rw [h]; simp [hi, hd]) (by unfold full; rw [hs]) ?_
        exact (splitN_short hs).2 x (by simp)
    · exact .miss l x 100 h hw rfl (by unfold Tree.dirC; rw [h]; simp [hw])
    · exact .miss l x 103 h hw rfl (by unfold Tree.dirC; rw [h]; simp [hw])
end
end Go.Proofs.YtcgpmnlondnbhaaDoor.Sp
