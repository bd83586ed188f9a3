/-
  What each change of the tree does to what is found, and that the tree stays one. No program in this text.
-/
import Derived.Test.YtcgpmnlondnbhaaDoorSpLaws
namespace Go.Proofs.YtcgpmnlondnbhaaDoor.Sp
open Go Txt

theorem new_ok : Tree.Ok Sp.new where
  ne := by intro p i h; simp [Sp.new] at h
  good := by intro p i h; simp [Sp.new] at h
  nodup := by simp [Sp.new]
  up := by intro p i h; simp [Sp.new] at h
  ids := by simp [Sp.new]
  there := by intro p i h; simp [Sp.new] at h
  root := ⟨ofL [], by simp [Sp.new]⟩
  named := by intro i b d h; simp [Sp.new] at h; exact Or.inl h.1
  one := by intro p q i d _ h; simp [Sp.new] at h
  many := by intro i b d h; simp [Sp.new] at h; simp [h.1]
  small := by intro i d h; simp [Sp.new] at h
  empty := by intro i d h; simp [Sp.new] at h; exact h.2

section
variable {t : Tree}

/-- Of what is there all beginnings are there. -/
theorem below_there (h : t.Ok) {p : List ByteArray} (hp : p ≠ []) : ∀ (r : List ByteArray) {j : Nat}, (p ++ r, j) ∈ t.names → ∃ k, (p, k) ∈ t.names ∧ (r ≠ [] → t.isDir k = true) := by
  intro r
  induction r using snocInd with
  | nil => intro j hj; rw [List.append_nil] at hj; exact ⟨j, hj, fun e => absurd rfl e⟩
  | append_singleton r x ih =>
    intro j hj
    rw [← List.append_assoc] at hj
    rcases h.up _ _ hj with e | ⟨k, hk, hd⟩
    · rw [List.dropLast_concat] at e
      exact absurd (List.append_eq_nil_iff.1 e).1 hp
    · rw [List.dropLast_concat] at hk
      by_cases hr : r = []
      · subst hr
        rw [List.append_nil] at hk
        exact ⟨k, hk, fun _ => hd⟩
      · obtain ⟨k2, h1, h2⟩ := ih hk
        exact ⟨k2, h1, fun _ => h2 hr⟩
/-- Nothing is below a file. -/
theorem below_file (h : t.Ok) {p r : List ByteArray} {i j : Nat} (hp : (p, i) ∈ t.names) (hd : t.isDir i = false) (hj : (p ++ r, j) ∈ t.names) : r = [] := by
  cases hr : r with
  | nil => rfl
  | cons x r' =>
    obtain ⟨k, h1, h2⟩ := below_there h (h.ne _ _ hp) r hj
    have : k = i := by
      have a := (find_mem h).2 h1
      have b := (find_mem h).2 hp
      rw [a] at b
      exact Option.some.inj b
    subst this
    rw [h2 (by rw [hr]; simp)] at hd
    cases hd

theorem mem_uniq (h : t.Ok) {p : List ByteArray} {i j : Nat} (h1 : (p, i) ∈ t.names) (h2 : (p, j) ∈ t.names) : i = j := by
  have a := (find_mem h).2 h1
  have b := (find_mem h).2 h2
  rw [a] at b
  exact Option.some.inj b
theorem idOf_mem (h : t.Ok) {l : List ByteArray} {i : Nat} (hl : t.idOf l = some i) : l = [] ∧ i = 0 ∨ (l, i) ∈ t.names := by
  unfold Tree.idOf at hl
  split at hl
  · rename_i e; cases hl; exact Or.inl ⟨e, rfl⟩
  · exact Or.inr ((find_mem h).1 hl)
theorem idOf_good (h : t.Ok) {l : List ByteArray} {i : Nat} (hl : t.idOf l = some i) : ∀ s ∈ l, nameB s = true := by
  rcases idOf_mem h hl with ⟨rfl, _⟩ | hm
  · simp
  · exact h.good _ _ hm

/-! ### A name more -/
theorem find_more {names : List (List ByteArray × Nat)} {things things' : List (Nat × Bool × ByteArray)} {a b m : Nat} {q p : List ByteArray} (hq : (⟨names, things, a⟩ : Tree).find q = none) :
    (⟨names ++ [(q, m)], things', b⟩ : Tree).find p = if p = q then some m else (⟨names, things, a⟩ : Tree).find p := by
  unfold Tree.find at hq ⊢
  rw [List.find?_append]
  by_cases h : p = q
  · subst h
    rw [if_pos rfl]
    cases hf : names.find? (fun x => decide (x.1 = p)) with
    | none => simp
    | some y => rw [hf] at hq; cases hq
  · rw [if_neg h]
    cases hf : names.find? (fun x => decide (x.1 = p)) with
    | none => simp [Ne.symm h]
    | some y => simp

def Tree.grown (t : Tree) (q : List ByteArray) (dir : Bool) : Tree := ⟨t.names ++ [(q, t.many + 1)], t.things ++ [(t.many + 1, dir, ofL [])], t.many + 1⟩
def Tree.named (t : Tree) (q : List ByteArray) (i : Nat) : Tree := { t with names := t.names ++ [(q, i)] }

theorem fresh_not (h : t.Ok) {b : Bool} {d : ByteArray} : (t.many + 1, b, d) ∉ t.things := fun hm => by
  have := h.many _ _ _ hm
  omega
theorem grown_thing (h : t.Ok) (q : List ByteArray) (dir : Bool) (i : Nat) : (t.grown q dir).thing i = if i = t.many + 1 then (dir, ofL []) else t.thing i := by
  unfold Tree.thing Tree.grown
  simp only
  rw [List.find?_append]
  by_cases hi : i = t.many + 1
  · subst hi
    rw [if_pos rfl]
    cases hf : t.things.find? (fun x => decide (x.1 = t.many + 1)) with
    | none => simp
    | some y =>
      have h1 := List.find?_some hf
      have h2 := List.mem_of_find?_eq_some hf
      obtain ⟨a, b, d⟩ := y
      have : a = t.many + 1 := of_decide_eq_true h1
      subst this
      exact absurd h2 (fresh_not h)
  · rw [if_neg hi]
    cases hf : t.things.find? (fun x => decide (x.1 = i)) with
    | none => simp [Ne.symm hi]
    | some y => simp
theorem grown_isDir (h : t.Ok) (q : List ByteArray) (dir : Bool) (i : Nat) : (t.grown q dir).isDir i = if i = t.many + 1 then dir else t.isDir i := by
  unfold Tree.isDir
  rw [grown_thing h]
  split <;> rfl
theorem named_isDir (q : List ByteArray) (i j : Nat) : (t.named q i).isDir j = t.isDir j := rfl
theorem fresh_name (h : t.Ok) {p : List ByteArray} : (p, t.many + 1) ∉ t.names := fun hm => by
  obtain ⟨_, b, d, hd⟩ := h.there _ _ hm
  exact fresh_not h hd

theorem Tree.Ok.grown (h : t.Ok) {l : List ByteArray} {x : ByteArray} {i : Nat} {dir : Bool} (hl : t.idOf l = some i) (hd : t.isDir i = true) (hx : nameB x = true) (hf : t.find (l ++ [x]) = none) : (t.grown (l ++ [x]) dir).Ok where
  ne := by
    intro p j hm
    rcases List.mem_append.1 hm with hm | hm
    · exact h.ne _ _ hm
    · cases List.mem_singleton.1 hm; simp
  good := by
    intro p j hm
    rcases List.mem_append.1 hm with hm | hm
    · exact h.good _ _ hm
    · cases List.mem_singleton.1 hm
      intro s hs
      rcases List.mem_append.1 hs with hs | hs
      · exact idOf_good h hl s hs
      · rw [List.mem_singleton.1 hs]; exact hx
  nodup := by
    show ((t.names ++ [(l ++ [x], t.many + 1)]).map (·.1)).Nodup
    rw [List.map_append, List.nodup_append]
    refine ⟨h.nodup, by simp, ?_⟩
    intro a ha b hb e
    simp at hb
    obtain ⟨y, hy, rfl⟩ := List.mem_map.1 ha
    rw [hb] at e
    exact find_none.1 hf y.2 (by rw [← e]; exact hy)
  up := by
    intro p j hm
    rcases List.mem_append.1 hm with hm | hm
    · rcases h.up _ _ hm with e | ⟨k, hk, hdk⟩
      · exact Or.inl e
      · refine Or.inr ⟨k, List.mem_append_left _ hk, ?_⟩
        rw [grown_isDir h, if_neg (fun e => fresh_name h (e ▸ hk))]
        exact hdk
    · cases List.mem_singleton.1 hm
      rw [List.dropLast_concat]
      rcases idOf_mem h hl with ⟨e, _⟩ | hm
      · exact Or.inl e
      · refine Or.inr ⟨i, List.mem_append_left _ hm, ?_⟩
        rw [grown_isDir h, if_neg (fun e => fresh_name h (e ▸ hm))]
        exact hd
  ids := by
    show ((t.things ++ [(t.many + 1, dir, ofL [])]).map (·.1)).Nodup
    rw [List.map_append, List.nodup_append]
    refine ⟨h.ids, by simp, ?_⟩
    intro a ha b hb e
    simp at hb
    obtain ⟨⟨a', b', d'⟩, hy, rfl⟩ := List.mem_map.1 ha
    subst hb
    simp at e
    subst e
    exact fresh_not h hy
  there := by
    intro p j hm
    rcases List.mem_append.1 hm with hm | hm
    · obtain ⟨h0, b, d, hd⟩ := h.there _ _ hm
      exact ⟨h0, b, d, List.mem_append_left _ hd⟩
    · cases List.mem_singleton.1 hm
      exact ⟨by omega, dir, ofL [], List.mem_append_right _ (by simp)⟩
  root := let ⟨d, hd⟩ := h.root; ⟨d, List.mem_append_left _ hd⟩
  named := by
    intro j b d hm
    rcases List.mem_append.1 hm with hm | hm
    · rcases h.named _ _ _ hm with e | ⟨p, hp⟩
      · exact Or.inl e
      · exact Or.inr ⟨p, List.mem_append_left _ hp⟩
    · cases List.mem_singleton.1 hm
      exact Or.inr ⟨l ++ [x], List.mem_append_right _ (by simp)⟩
  one := by
    intro p q j d hm hp hq
    rcases List.mem_append.1 hm with hm | hm
    · have hne : j ≠ t.many + 1 := fun e => fresh_not h (e ▸ hm)
      rcases List.mem_append.1 hp with hp | hp
      · rcases List.mem_append.1 hq with hq | hq
        · exact h.one _ _ _ _ hm hp hq
        · cases List.mem_singleton.1 hq; exact absurd rfl hne
      · cases List.mem_singleton.1 hp; exact absurd rfl hne
    · cases List.mem_singleton.1 hm
      rcases List.mem_append.1 hp with hp | hp
      · exact absurd hp (fresh_name h)
      · rcases List.mem_append.1 hq with hq | hq
        · exact absurd hq (fresh_name h)
        · cases List.mem_singleton.1 hp; cases List.mem_singleton.1 hq; rfl
  many := by
    intro j b d hm
    show j ≤ t.many + 1
    rcases List.mem_append.1 hm with hm | hm
    · have := h.many _ _ _ hm; omega
    · cases List.mem_singleton.1 hm; omega
  small := by
    intro j d hm
    rcases List.mem_append.1 hm with hm | hm
    · exact h.small _ _ hm
    · cases List.mem_singleton.1 hm; decide
  empty := by
    intro j d hm
    rcases List.mem_append.1 hm with hm | hm
    · exact h.empty _ _ hm
    · cases List.mem_singleton.1 hm; rfl

theorem Tree.Ok.named_ (h : t.Ok) {l : List ByteArray} {x : ByteArray} {i k : Nat} {d : ByteArray} (hl : t.idOf l = some i) (hd : t.isDir i = true) (hx : nameB x = true) (hf : t.find (l ++ [x]) = none) (hk : (k, false, d) ∈ t.things) (hk0 : k ≠ 0) : (t.named (l ++ [x]) k).Ok where
  ne := by
    intro p j hm
    rcases List.mem_append.1 hm with hm | hm
    · exact h.ne _ _ hm
    · cases List.mem_singleton.1 hm; simp
  good := by
    intro p j hm
    rcases List.mem_append.1 hm with hm | hm
    · exact h.good _ _ hm
    · cases List.mem_singleton.1 hm
      intro s hs
      rcases List.mem_append.1 hs with hs | hs
      · exact idOf_good h hl s hs
      · rw [List.mem_singleton.1 hs]; exact hx
  nodup := by
    show ((t.names ++ [(l ++ [x], k)]).map (·.1)).Nodup
    rw [List.map_append, List.nodup_append]
    refine ⟨h.nodup, by simp, ?_⟩
    intro a ha b hb e
    simp at hb
    obtain ⟨y, hy, rfl⟩ := List.mem_map.1 ha
    rw [hb] at e
    exact find_none.1 hf y.2 (by rw [← e]; exact hy)
  up := by
    intro p j hm
    rcases List.mem_append.1 hm with hm | hm
    · rcases h.up _ _ hm with e | ⟨k', hk', hdk⟩
      · exact Or.inl e
      · exact Or.inr ⟨k', List.mem_append_left _ hk', hdk⟩
    · cases List.mem_singleton.1 hm
      rw [List.dropLast_concat]
      rcases idOf_mem h hl with ⟨e, _⟩ | hm
      · exact Or.inl e
      · exact Or.inr ⟨i, List.mem_append_left _ hm, hd⟩
  ids := h.ids
  there := by
    intro p j hm
    rcases List.mem_append.1 hm with hm | hm
    · exact h.there _ _ hm
    · cases List.mem_singleton.1 hm
      exact ⟨hk0, _, _, hk⟩
  root := h.root
  named := by
    intro j b d hm
    rcases h.named _ _ _ hm with e | ⟨p, hp⟩
    · exact Or.inl e
    · exact Or.inr ⟨p, List.mem_append_left _ hp⟩
  one := by
    intro p q j d' hm hp hq
    have hne : j ≠ k := fun e => by
      subst e
      have a := isDir_of h hm
      have b := isDir_of h hk
      rw [a] at b
      cases b
    rcases List.mem_append.1 hp with hp | hp
    · rcases List.mem_append.1 hq with hq | hq
      · exact h.one _ _ _ _ hm hp hq
      · cases List.mem_singleton.1 hq; exact absurd rfl hne
    · cases List.mem_singleton.1 hp; exact absurd rfl hne
  many := h.many
  small := h.small
  empty := h.empty

/-! ### A name less -/
theorem find_less (h : t.Ok) {names' : List (List ByteArray × Nat)} {things' : List (Nat × Bool × ByteArray)} {b : Nat} {q : List ByteArray} (hn : names' = t.names.filter (fun x => decide (x.1 ≠ q))) (p : List ByteArray) :
    (⟨names', things', b⟩ : Tree).find p = if p = q then none else t.find p := by
  subst hn
  by_cases hp : p = q
  · rw [if_pos hp]
    refine find_none.2 fun i hm => ?_
    have := (List.mem_filter.1 hm).2
    simp [hp] at this
  · rw [if_neg hp]
    cases hf : t.find p with
    | none => exact find_none.2 fun i hm => find_none.1 hf i (List.mem_filter.1 hm).1
    | some i =>
      have hm := (find_mem h).1 hf
      unfold Tree.find at hf ⊢
      simp only at hf ⊢
      rw [List.find?_filter]
      obtain ⟨y, hy, rfl⟩ := Option.map_eq_some_iff.1 hf
      have hy1 : y.1 = p := of_decide_eq_true (List.find?_some (p := fun x : List ByteArray × Nat => decide (x.1 = p)) hy)
      have : (fun a : List ByteArray × Nat => decide (decide (a.1 ≠ q) = true ∧ decide (a.1 = p) = true)) = fun a => decide (a.1 = p) := by
        funext a
        by_cases ha : a.1 = p
        · simp [ha, hp]
        · simp [ha]
      rw [this, hy]
      rfl

theorem forget_cases (_h : t.Ok) {p : List ByteArray} {i : Nat} (hf : t.find p = some i) :
    (t.forget p).names = t.names.filter (fun x => decide (x.1 ≠ p)) ∧ (t.forget p).many = t.many ∧
    (((t.forget p).things = t.things.filter (fun x => decide (x.1 ≠ i)) ∧ (∀ q, (q, i) ∈ t.names → q = p)) ∨ ((t.forget p).things = t.things ∧ ∃ q, (q, i) ∈ t.names ∧ q ≠ p)) := by
  unfold Tree.forget
  rw [hf]
  simp only
  by_cases hc : (t.names.filter (fun x => decide (x.1 ≠ p))).countP (fun x => decide (x.2 = i)) = 0
  · rw [if_pos hc]
    refine ⟨rfl, rfl, Or.inl ⟨rfl, fun q hq => ?_⟩⟩
    rw [List.countP_eq_zero] at hc
    by_cases hqp : q = p
    · exact hqp
    · exact absurd (decide_eq_true rfl) (hc (q, i) (List.mem_filter.2 ⟨hq, by simp [hqp]⟩))
  · rw [if_neg hc]
    refine ⟨rfl, rfl, Or.inr ⟨rfl, ?_⟩⟩
    have hpos : 0 < (t.names.filter (fun x => decide (x.1 ≠ p))).countP (fun x => decide (x.2 = i)) := by omega
    obtain ⟨⟨q, j⟩, hm, hj⟩ := List.countP_pos_iff.1 hpos
    have hj' : j = i := of_decide_eq_true hj
    subst hj'
    have := List.mem_filter.1 hm
    exact ⟨q, this.1, by simpa using this.2⟩

theorem find_forget (h : t.Ok) {p : List ByteArray} {i : Nat} (hf : t.find p = some i) (r : List ByteArray) : (t.forget p).find r = if r = p then none else t.find r := by
  have := (forget_cases h hf).1
  exact find_less h (things' := (t.forget p).things) (b := (t.forget p).many) this r

theorem forget_thing (h : t.Ok) {p : List ByteArray} {i : Nat} (hf : t.find p = some i) {j : Nat} {b : Bool} {d : ByteArray} : (j, b, d) ∈ (t.forget p).things ↔ (j, b, d) ∈ t.things ∧ (j = i → ∃ q, (q, i) ∈ t.names ∧ q ≠ p) := by
  rcases (forget_cases h hf).2.2 with ⟨e, hall⟩ | ⟨e, hex⟩
  · rw [e, List.mem_filter]
    constructor
    · rintro ⟨h1, h2⟩
      exact ⟨h1, fun hj => by simp [hj] at h2⟩
    · rintro ⟨h1, h2⟩
      refine ⟨h1, ?_⟩
      by_cases hj : j = i
      · obtain ⟨q, hq, hne⟩ := h2 hj
        exact absurd (hall q hq) hne
      · simp [hj]
  · rw [e]
    exact ⟨fun h1 => ⟨h1, fun _ => hex⟩, fun h1 => h1.1⟩

theorem Tree.Ok.forget (h : t.Ok) {p : List ByteArray} {i : Nat} (hf : t.find p = some i) (hbelow : ∀ s j, (p ++ [s], j) ∉ t.names) : (t.forget p).Ok := by
  have hc := forget_cases h hf
  have hmem : ∀ r j, (r, j) ∈ (t.forget p).names ↔ (r, j) ∈ t.names ∧ r ≠ p := by
    intro r j
    rw [hc.1, List.mem_filter]
    simp
  have hp := (find_mem h).1 hf
  have hdir : ∀ j q, (q, j) ∈ (t.forget p).names → (t.forget p).isDir j = t.isDir j := by
    intro j q hq
    obtain ⟨h1, h2⟩ := (hmem q j).1 hq
    obtain ⟨_, b, d, hd⟩ := h.there _ _ h1
    have hd' : (j, b, d) ∈ (t.forget p).things := (forget_thing h hf).2 ⟨hd, fun e => ⟨q, e ▸ h1, h2⟩⟩
    have hn : ((t.forget p).things.map (·.1)).Nodup := by
      rcases hc.2.2 with ⟨e, _⟩ | ⟨e, _⟩
      · rw [e]; exact h.ids.sublist ((List.filter_sublist).map _)
      · rw [e]; exact h.ids
    rw [isDir_of h hd]
    unfold Tree.isDir Tree.thing
    generalize (t.forget p).things = l at hd' hn
    induction l with
    | nil => cases hd'
    | cons y r ih =>
      rw [List.map_cons, List.nodup_cons] at hn
      rw [List.find?_cons]
      rcases List.mem_cons.1 hd' with e | hm
      · subst e; simp
      · have hne : y.1 ≠ j := fun e => hn.1 (by rw [e]; exact List.mem_map.2 ⟨_, hm, rfl⟩)
        rw [decide_eq_false hne]
        exact ih hm hn.2
  exact {
    ne := fun q j hm => h.ne _ _ ((hmem q j).1 hm).1
    good := fun q j hm => h.good _ _ ((hmem q j).1 hm).1
    nodup := by rw [hc.1]; exact h.nodup.sublist ((List.filter_sublist).map _)
    up := by
      intro q j hm
      obtain ⟨h1, h2⟩ := (hmem q j).1 hm
      rcases h.up _ _ h1 with e | ⟨k, hk, hd⟩
      · exact Or.inl e
      · have hne : q.dropLast ≠ p := by
          intro e
          have hq := List.dropLast_concat_getLast (h.ne _ _ h1)
          rw [e] at hq
          exact hbelow _ j (by rw [hq]; exact h1)
        have hk' := (hmem _ k).2 ⟨hk, hne⟩
        exact Or.inr ⟨k, hk', by rw [hdir k _ hk']; exact hd⟩
    ids := by
      rcases hc.2.2 with ⟨e, _⟩ | ⟨e, _⟩
      · rw [e]; exact h.ids.sublist ((List.filter_sublist).map _)
      · rw [e]; exact h.ids
    there := by
      intro q j hm
      obtain ⟨h1, h2⟩ := (hmem q j).1 hm
      obtain ⟨h0, b, d, hd⟩ := h.there _ _ h1
      exact ⟨h0, b, d, (forget_thing h hf).2 ⟨hd, fun e => ⟨q, e ▸ h1, h2⟩⟩⟩
    root := by
      obtain ⟨d, hd⟩ := h.root
      exact ⟨d, (forget_thing h hf).2 ⟨hd, fun e => absurd e.symm (h.there _ _ hp).1⟩⟩
    named := by
      intro j b d hm
      obtain ⟨h1, h2⟩ := (forget_thing h hf).1 hm
      rcases h.named _ _ _ h1 with e | ⟨q, hq⟩
      · exact Or.inl e
      · by_cases hqp : q = p
        · subst hqp
          have hji := mem_uniq h hq hp
          obtain ⟨q', hq', hne⟩ := h2 hji
          exact Or.inr ⟨q', (hmem _ _).2 ⟨hji ▸ hq', hne⟩⟩
        · exact Or.inr ⟨q, (hmem _ _).2 ⟨hq, hqp⟩⟩
    one := by
      intro q r j d hm hq hr
      exact h.one _ _ _ _ ((forget_thing h hf).1 hm).1 ((hmem _ _).1 hq).1 ((hmem _ _).1 hr).1
    many := by
      intro j b d hm
      rw [hc.2.1]
      exact h.many _ _ _ ((forget_thing h hf).1 hm).1
    small := fun j d hm => h.small _ _ ((forget_thing h hf).1 hm).1
    empty := fun j d hm => h.empty _ _ ((forget_thing h hf).1 hm).1 }
end
end Go.Proofs.YtcgpmnlondnbhaaDoor.Sp
