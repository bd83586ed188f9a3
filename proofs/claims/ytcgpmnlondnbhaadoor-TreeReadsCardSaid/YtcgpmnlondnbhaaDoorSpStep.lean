/-
  The tree stays one under every operation. No program in this text.
-/
import Derived.Test.YtcgpmnlondnbhaaDoorSpMove
namespace Go.Proofs.YtcgpmnlondnbhaaDoor.Sp
open Go Txt

section
variable {t : Tree}
theorem kidsL_mem {p : List ByteArray} {s : ByteArray} : s ∈ t.kidsL p ↔ ∃ j, (p ++ [s], j) ∈ t.names := by
  unfold Tree.kidsL
  rw [List.mem_filterMap]
  constructor
  · rintro ⟨x, hx, hs⟩
    split at hs
    · rename_i hd
      obtain ⟨q, j⟩ := x
      simp only at hd hs
      obtain ⟨hne, rfl⟩ : ∃ h : q ≠ [], s = q.getLast h := by
        cases q with
        | nil => simp at hs
        | cons a r => exact ⟨by simp, by rw [List.getLast?_eq_some_getLast (by simp)] at hs; exact (Option.some.inj hs).symm⟩
      refine ⟨j, ?_⟩
      rw [← hd, List.dropLast_concat_getLast hne]
      exact hx
    · cases hs
  · rintro ⟨j, hj⟩
    refine ⟨_, hj, ?_⟩
    simp
theorem kidsL_nil {p : List ByteArray} (h : t.kidsL p = []) (s : ByteArray) (j : Nat) : (p ++ [s], j) ∉ t.names := fun hm => by
  have := kidsL_mem.2 ⟨j, hm⟩
  rw [h] at this
  cases this

theorem isDir_forget (h : t.Ok) {p : List ByteArray} {i : Nat} (hf : t.find p = some i) (hbelow : ∀ s j, (p ++ [s], j) ∉ t.names) {q : List ByteArray} {j : Nat} (hq : t.idOf q = some j) (hne : q ≠ p) : (t.forget p).isDir j = t.isDir j := by
  have hok := h.forget hf hbelow
  have hthere := there_idOf h hq
  refine isDir_of hok ((forget_thing h hf).2 ⟨hthere, fun e => ?_⟩)
  subst e
  rcases idOf_mem h hq with ⟨_, e0⟩ | hm
  · exact absurd e0 (h.there _ _ ((find_mem h).1 hf)).1
  · exact ⟨q, hm, hne⟩

theorem Tree.Ok.set (h : t.Ok) {i : Nat} {d d' : ByteArray} (hi : (i, false, d) ∈ t.things) (hs : d'.size ≤ 2560) : (t.set i d').Ok := by
  have hmem : ∀ j b e, (j, b, e) ∈ (t.set i d').things ↔ (j ≠ i ∧ (j, b, e) ∈ t.things) ∨ (j = i ∧ b = false ∧ e = d') := by
    intro j b e
    show (j, b, e) ∈ t.things.map _ ↔ _
    rw [List.mem_map]
    constructor
    · rintro ⟨x, hx, he⟩
      obtain ⟨a, c, f⟩ := x
      simp only at he
      split at he
      · rename_i ha
        subst ha
        cases he
        have := isDir_of h hx
        rw [isDir_of h hi] at this
        exact Or.inr ⟨rfl, this.symm, rfl⟩
      · rename_i ha
        cases he
        exact Or.inl ⟨ha, hx⟩
    · rintro (⟨hne, hm⟩ | ⟨rfl, rfl, rfl⟩)
      · exact ⟨_, hm, by simp [hne]⟩
      · exact ⟨_, hi, by simp⟩
  have hids : (t.set i d').things.map (·.1) = t.things.map (·.1) := by
    show (t.things.map _).map _ = _
    rw [List.map_map]
    apply List.map_congr_left
    intro x _
    simp only [Function.comp_apply]
    split <;> rfl
  have hn : ((t.set i d').things.map (·.1)).Nodup := by rw [hids]; exact h.ids
  have hthere : ∀ j b e, (j, b, e) ∈ t.things → ∃ e', (j, b, e') ∈ (t.set i d').things := by
    intro j b e hm
    by_cases hj : j = i
    · subst hj
      have := isDir_of h hm
      rw [isDir_of h hi] at this
      exact ⟨d', (hmem _ _ _).2 (Or.inr ⟨rfl, this.symm, rfl⟩)⟩
    · exact ⟨e, (hmem _ _ _).2 (Or.inl ⟨hj, hm⟩)⟩
  have hback : ∀ j b e, (j, b, e) ∈ (t.set i d').things → ∃ e', (j, b, e') ∈ t.things := by
    intro j b e hm
    rcases (hmem _ _ _).1 hm with ⟨_, hm⟩ | ⟨rfl, rfl, rfl⟩
    · exact ⟨_, hm⟩
    · exact ⟨_, hi⟩
  have hdir : ∀ j b e, (j, b, e) ∈ (t.set i d').things → (t.set i d').isDir j = b := by
    intro j b e hd'
    unfold Tree.isDir Tree.thing
    generalize (t.set i d').things = l at hd' hn
    induction l with
    | nil => cases hd'
    | cons y r ih =>
      rw [List.map_cons, List.nodup_cons] at hn
      rw [List.find?_cons]
      rcases List.mem_cons.1 hd' with e | hm
      · subst e; simp
      · have hne : y.1 ≠ j := fun e => hn.1 (by rw [e]; exact List.mem_map.2 ⟨_, hm, rfl⟩)
        rw [decide_eq_false hne]
        exact ih hm hn.2
  exact {
    ne := h.ne
    good := h.good
    nodup := h.nodup
    up := by
      intro p j hm
      rcases h.up _ _ hm with e | ⟨k, hk, hd⟩
      · exact Or.inl e
      · obtain ⟨_, b, e, he⟩ := h.there _ _ hk
        obtain ⟨e', he'⟩ := hthere _ _ _ he
        refine Or.inr ⟨k, hk, ?_⟩
        rw [hdir _ _ _ he', ← isDir_of h he]
        exact hd
    ids := hn
    there := by
      intro p j hm
      obtain ⟨h0, b, e, he⟩ := h.there _ _ hm
      obtain ⟨e', he'⟩ := hthere _ _ _ he
      exact ⟨h0, b, e', he'⟩
    root := by
      obtain ⟨d, hd⟩ := h.root
      exact hthere _ _ _ hd
    named := by
      intro j b e hm
      obtain ⟨e', he'⟩ := hback _ _ _ hm
      exact h.named _ _ _ he'
    one := by
      intro p q j e hm hp hq
      obtain ⟨e', he'⟩ := hback _ _ _ hm
      exact h.one _ _ _ _ he' hp hq
    many := by
      intro j b e hm
      obtain ⟨e', he'⟩ := hback _ _ _ hm
      exact h.many _ _ _ he'
    small := by
      intro j e hm
      rcases (hmem _ _ _).1 hm with ⟨_, hm⟩ | ⟨rfl, _, rfl⟩
      · exact h.small _ _ hm
      · exact hs
    empty := by
      intro j e hm
      rcases (hmem _ _ _).1 hm with ⟨_, hm⟩ | ⟨_, hb, _⟩
      · exact h.empty _ _ hm
      · cases hb }

theorem stretch_length (d : List UInt8) (n : Nat) : (stretch d n).length = n := by
  unfold stretch
  rw [List.length_append, List.length_take, List.length_replicate]
  omega
theorem writeL_length (d : List UInt8) (off : Nat) (s : List UInt8) : (writeL d off s).length = max d.length (off + s.length) := by
  unfold writeL
  rw [List.length_append, List.length_append, List.length_take, List.length_drop, stretch_length]
  omega

theorem at_ok (t : Tree) {path : ByteArray} (h : (t.at path).2 = 0) : splitN path = (full path, 0) ∧ t.walk [] (full path) 0 = ((t.at path).1, 0) ∧ t.idOf (full path) = some (t.at path).1 := by
  unfold Tree.at at h
  split at h
  · rename_i hs
    have e : splitN path = (full path, 0) := by unfold full; rw [← hs]
    have hw : t.walk [] (full path) 0 = ((t.at path).1, 0) := by
      unfold Tree.at
      rw [if_pos hs]
      show t.walk [] (splitN path).1 0 = _
      rw [← h]
    exact ⟨e, hw, walk_ok _ hw idOf_nil⟩
  · exact absurd h (by assumption)

theorem Tree.Ok.make (h : t.Ok) (path : ByteArray) (dir : Bool) : (t.make path dir).1.Ok := by
  unfold Tree.make
  rcases dirTo t path with ⟨c, h1, h2, h3⟩ | ⟨l, x, c, h1, h2, h3, h4⟩ | ⟨l, x, i, h1, h2, h3, h4⟩ | ⟨l, x, i, h1, h2, h3, h4, h5, h6⟩
  · rw [h3, if_neg (beq_eq_false_iff_ne.1 h2)]; exact h
  · rw [h4, if_neg (beq_eq_false_iff_ne.1 h3)]; exact h
  · rw [h4, if_neg (by decide)]; exact h
  · rw [h4, if_pos rfl, h5]
    cases hf : t.find (l ++ [x]) with
    | none => exact h.grown (walk_ok _ h2 idOf_nil) h3 h6 hf
    | some j => exact h

theorem Tree.Ok.link (h : t.Ok) (path to : ByteArray) : (t.link path to).1.Ok := by
  unfold Tree.link
  split
  · rename_i ha
    obtain ⟨_, _, hid⟩ := at_ok t ha
    split
    · exact h
    · rename_i hd
      rcases dirTo t to with ⟨c, h1, h2, h3⟩ | ⟨l, x, c, h1, h2, h3, h4⟩ | ⟨l, x, i, h1, h2, h3, h4⟩ | ⟨l, x, i, h1, h2, h3, h4, h5, h6⟩
      · rw [h3, if_neg (beq_eq_false_iff_ne.1 h2)]; exact h
      · rw [h4, if_neg (beq_eq_false_iff_ne.1 h3)]; exact h
      · rw [h4, if_neg (by decide)]; exact h
      · rw [h4, if_pos rfl, h5]
        cases hf : t.find (l ++ [x]) with
        | some j => exact h
        | none =>
          simp only [Option.isSome_none, Bool.false_eq_true, if_false]
          split
          · exact h
          · have hth := there_idOf h hid
            rw [Bool.not_eq_true _ |>.mp hd] at hth
            refine h.named_ (walk_ok _ h2 idOf_nil) h3 h6 hf hth (fun e => ?_)
            obtain ⟨d, hr⟩ := h.root
            rw [e] at hd
            exact hd (isDir_of h hr)
  · exact h

theorem nothing_below (h : t.Ok) {p : List ByteArray} {i : Nat} (hf : t.find p = some i) (hk : t.isDir i = true → t.kidsL p = []) : ∀ s j, (p ++ [s], j) ∉ t.names := by
  intro s j hm
  cases hd : t.isDir i with
  | true => exact kidsL_nil (hk hd) s j hm
  | false =>
    have := below_file h ((find_mem h).1 hf) hd hm
    cases this

theorem Tree.Ok.remove (h : t.Ok) (path : ByteArray) (dir : Bool) : (t.remove path dir).1.Ok := by
  unfold Tree.remove
  split
  · split
    · exact h
    · rename_i i hf
      split
      · exact h
      · rename_i c1
        split
        · exact h
        · rename_i c2
          split
          · exact h
          · rename_i c3
            refine h.forget hf (nothing_below h hf fun hd => ?_)
            cases dir with
            | false => exact absurd ⟨hd, rfl⟩ c1
            | true => simpa using c3
  · exact h

theorem Tree.Ok.rename (h : t.Ok) (path to : ByteArray) : (t.rename path to).1.Ok := by
  unfold Tree.rename
  split
  · split
    · exact h
    · rename_i i hf
      split
      · split
        · exact h
        · rename_i hloop
          split
          · rename_i hdc
            rcases dirTo t to with ⟨c, h1, h2, h3⟩ | ⟨l, x, c, h1, h2, h3, h4⟩ | ⟨l, x, k, h1, h2, h3, h4⟩ | ⟨l, x, k, h1, h2, h3, h4, h5, h6⟩
            · exact absurd (hdc.symm.trans h3).symm (beq_eq_false_iff_ne.1 h2)
            · exact absurd (hdc.symm.trans h4).symm (beq_eq_false_iff_ne.1 h3)
            · exact absurd (hdc.symm.trans h4) (by decide)
            · have hp := (find_mem h).1 hf
              have hl : t.idOf l = some k := walk_ok _ h2 idOf_nil
              have hpt : ∀ (hne : t.find (full to) ≠ some i), path ≠ to := fun hne e => hne (by rw [← e]; exact hf)
              cases hq : t.find (full to) with
              | none =>
                simp only
                rw [h5] at hq hloop ⊢
                exact h.move hp hl h3 h6 hq (fun hd hpre => hloop ⟨hd, hpre, hpt (by rw [h5, hq]; simp)⟩)
              | some j =>
                simp only
                split
                · exact h
                · rename_i hij
                  split
                  · exact h
                  · rename_i c1
                    split
                    · exact h
                    · rename_i c2
                      split
                      · exact h
                      · rename_i c3
                        have hne : path ≠ to := hpt (by rw [hq]; intro e; exact hij (Option.some.inj e).symm)
                        have hpq : full path ≠ full to := fun e => hij (by rw [e] at hf; rw [hf] at hq; exact Option.some.inj hq)
                        have hbelow := nothing_below h hq (fun hd => by
                          have := not_and.1 c3 hd
                          simpa using this)
                        have hok1 := h.forget hq hbelow
                        have hf1 : (t.forget (full to)).find (full path) = some i := by rw [find_forget h hq, if_neg hpq]; exact hf
                        have hd1 : (t.forget (full to)).isDir i = t.isDir i := isDir_forget h hq hbelow (find_idOf h hf) hpq
                        have hlq : l ≠ full to := by rw [h5]; intro e; have := congrArg List.length e; simp at this
                        have hl1 : (t.forget (full to)).idOf l = some k := by
                          unfold Tree.idOf at hl ⊢
                          split
                          · rename_i e; rw [if_pos e] at hl; exact hl
                          · rename_i e; rw [if_neg e] at hl; rw [find_forget h hq, if_neg hlq]; exact hl
                        have hk1 : (t.forget (full to)).isDir k = true := by rw [isDir_forget h hq hbelow hl hlq]; exact h3
                        have hq1 : (t.forget (full to)).find (full to) = none := by rw [find_forget h hq, if_pos rfl]
                        have := hok1.move (y := x) (l := l) ((find_mem hok1).1 hf1) hl1 hk1 h6 (by rw [← h5]; exact hq1) (fun hd hpre => hloop ⟨by rw [← hd1]; exact hd, by rw [h5]; exact hpre, hne⟩)
                        rw [hd1, ← h5] at this
                        exact this
          · exact h
      · exact h
  · exact h

theorem Tree.Ok.bytes (h : t.Ok) (o : Op) : (t.bytes o).1.Ok := by
  unfold Tree.bytes
  split
  · rename_i hfile
    have hth : ∃ d, ((t.file o.path).1, false, d) ∈ t.things := by
      unfold Tree.file at hfile ⊢
      split at hfile
      · rename_i ha
        split at hfile
        · cases hfile
        · rename_i hd
          rw [if_pos ha, if_neg hd]
          have := there_idOf h (at_ok t ha).2.2
          rw [Bool.not_eq_true _ |>.mp hd] at this
          exact ⟨_, this⟩
      · exact absurd hfile (by assumption)
    obtain ⟨d, hth⟩ := hth
    have hsmall := h.small _ _ hth
    have hdata := dataOf_of h hth
    split
    · split <;> exact h
    · split
      · split
        · exact h
        · rename_i c1
          split
          · exact h
          · rename_i c2
            split
            · exact h
            · refine h.set hth ?_
              rw [Lib.size_eq, ofL_data, writeL_length, hdata, ← Lib.size_eq, ← Lib.size_eq]
              omega
      · split
        · exact h
        · split
          · exact h
          · refine h.set hth ?_
            rw [Lib.size_eq, ofL_data, stretch_length]
            omega
  · exact h

theorem Tree.Ok.step (h : t.Ok) (o : Op) : (t.step o).1.Ok := by
  unfold Tree.step
  split
  · exact h.make _ _
  split
  · exact h.make _ _
  split
  · exact h.link _ _
  split
  · exact h.remove _ _
  split
  · exact h.remove _ _
  split
  · exact h.rename _ _
  split
  · exact h.bytes _
  split
  · exact h
  · exact h
end
end Go.Proofs.YtcgpmnlondnbhaaDoor.Sp
