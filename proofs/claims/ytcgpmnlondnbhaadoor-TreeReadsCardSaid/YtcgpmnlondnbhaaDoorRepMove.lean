/-
  A rename, and a file's new bytes, in memory. No walk in this text.
-/
import Derived.Test.YtcgpmnlondnbhaaDoorRepOps
namespace Go.Proofs.YtcgpmnlondnbhaaDoor
open Go Go.RowKit Txt Sp

section
variable {w w' : World} {B : Nat} {t : Sp.Tree} {φ μ : Nat → Nat}

/-- What a rename leaves of a directory's entries: a: where the name was, c: where it goes. -/
def moveM (a c : Nat) (x y : ByteArray) (b : Nat) (j : Nat) (l : List (ByteArray × Nat)) : List (ByteArray × Nat) :=
  let l1 := if j = a then delM l x else l
  if j = c then setM l1 y b else l1
theorem getM_move (a c : Nat) (x y : ByteArray) (b j : Nat) (l : List (ByteArray × Nat)) (s : ByteArray) :
    getM (moveM a c x y b j l) s = if j = c ∧ s = y then some b else if j = a ∧ s = x then none else getM l s := by
  have common : getM (if j = a then delM l x else l) s = if j = a ∧ s = x then none else getM l s := by
    by_cases ha : j = a
    · rw [if_pos ha, getM_del]
      by_cases hx : s = x
      · rw [if_pos hx, if_pos ⟨ha, hx⟩]
      · rw [if_neg hx, if_neg (fun h => hx h.2)]
    · rw [if_neg ha, if_neg (fun h => ha h.1)]
  unfold moveM
  simp only
  by_cases hc : j = c
  · rw [if_pos hc, getM_set]
    by_cases hs : s = y
    · rw [if_pos hs, if_pos ⟨hc, hs⟩]
    · rw [if_neg hs, common, if_neg (fun h : j = c ∧ s = y => hs h.2)]
  · rw [if_neg hc, common, if_neg (fun h : j = c ∧ s = y => hc h.1)]

theorem move_isDir (dir : Bool) (p q : List ByteArray) (j : Nat) : (t.move dir p q).isDir j = t.isDir j := rfl

theorem Rep.move (hR : Rep w B t φ μ) (hok : t.Ok) {lp l : List ByteArray} {x y : ByteArray} {a i k : Nat} (ha : t.idOf lp = some a) (had : t.isDir a = true) (hf : t.find (lp ++ [x]) = some i) (hl : t.idOf l = some k) (hd : t.isDir k = true) (hy : nameB y = true)
    (hq : t.find (l ++ [y]) = none) (hloop : t.isDir i = true → ¬ lp ++ [x] <+: l ++ [y])
    (hs : ∀ (b : Nat) (o : Obj), w.heap[b]? = some o → b ≠ μ a → b ≠ μ k → w'.heap[b]? = some o)
    (hm : ∀ j lj, t.has j → t.isDir j = true → (j = a ∨ j = k) → MapAt w (μ j) lj → MapAt w' (μ j) (moveM a k x y (φ i) j lj)) :
    Rep w' B (t.move (t.isDir i) (lp ++ [x]) (l ++ [y])) φ μ := by
  have hp := (find_mem hok).1 hf
  have hok' := hok.move hp hl hd hy hq hloop
  have hah := has_idOf hok ha
  have hkh := has_idOf hok hl
  have hpl : ¬ lp ++ [x] <+: l := by
    rintro ⟨e, he⟩
    cases hdi : t.isDir i with
    | true => exact hloop hdi ⟨e ++ [y], by rw [← List.append_assoc, he]⟩
    | false =>
      rcases idOf_mem hok hl with ⟨e1, _⟩ | hm
      · subst e1; simp at he
      · have := below_file hok hp hdi (r := e) (j := k) (by rw [he]; exact hm)
        subst this
        rw [List.append_nil] at he
        rw [he] at hp
        have := mem_uniq hok hp hm
        subst this
        rw [hdi] at hd
        cases hd
  exact {
    root := hs _ _ hR.root (hR.root_ne_map hok hah had) (hR.root_ne_map hok hkh hd)
    file := by
      intro j e hj
      have hjh : t.has j := ⟨_, _, hj⟩
      rw [move_links]
      exact hs _ _ (hR.file j e hj) (hR.thing_ne_map hok hjh hah had) (hR.thing_ne_map hok hjh hkh hd)
    dir := by
      intro j p hpj hdj
      have hdj' : t.isDir j = true := hdj
      rw [move_links]
      have hfm := find_move hok hp hl hd hy hq hloop
      -- the entries of a directory that is neither of the two
      have other : ∀ r, t.idOf r = some j → j ≠ a → j ≠ k → w'.heap[φ j]? = some (thingO (ofL []) (t.links j) (some (μ j))) ∧ ∃ l', MapAt w' (μ j) l' ∧ ∀ s, getM l' s = (t.find (r ++ [s])).map φ := by
        intro r hr hja hjk
        have hjh := has_idOf hok hr
        obtain ⟨h1, lj, h2, h3⟩ := hR.dir j r hr hdj'
        exact ⟨hs _ _ h1 (hR.thing_ne_map hok hjh hah had) (hR.thing_ne_map hok hjh hkh hd), lj,
          h2.same (fun o ho => hs _ _ ho (fun e => hja (hR.injm _ _ hjh hah hdj' had e)) (fun e => hjk (hR.injm _ _ hjh hkh hdj' hd e))), h3⟩
      by_cases hqp : l ++ [y] <+: p
      · obtain ⟨e, rfl⟩ := hqp
        have hj : t.idOf (lp ++ [x] ++ e) = some j := by
          rw [idOf_find (by simp), hfm, if_pos (List.prefix_append _ _), List.drop_left] at hpj
          exact find_idOf hok hpj
        have hja : j ≠ a := by
          intro e1
          subst e1
          have := congrArg List.length (dir_path hok hj ha had)
          simp at this
        have hjk : j ≠ k := by
          intro e1
          subst e1
          have := dir_path hok hj hl hd
          exact hpl ⟨e, this⟩
        obtain ⟨h1, lj, h2, h3⟩ := other _ hj hja hjk
        refine ⟨h1, lj, h2, fun s => ?_⟩
        have e2 : l ++ [y] ++ e ++ [s] = l ++ [y] ++ (e ++ [s]) := List.append_assoc _ _ _
        rw [h3 s, hfm, e2, if_pos (List.prefix_append _ _), List.drop_left, List.append_assoc (lp ++ [x])]
      · have hj : t.idOf p = some j ∧ ¬ lp ++ [x] <+: p := by
          by_cases h0 : p = []
          · subst h0
            exact ⟨hpj, by intro h; have := h.length_le; simp at this⟩
          · rw [idOf_find h0, hfm, if_neg hqp] at hpj
            split at hpj
            · cases hpj
            · rename_i hn
              exact ⟨find_idOf hok hpj, hn⟩
        obtain ⟨hj, hpp⟩ := hj
        have hjh := has_idOf hok hj
        have hval : ∀ s, (t.move (t.isDir i) (lp ++ [x]) (l ++ [y])).find (p ++ [s]) = if j = k ∧ s = y then some i else if j = a ∧ s = x then none else t.find (p ++ [s]) := by
          intro s
          rw [hfm]
          by_cases h1 : l ++ [y] <+: p ++ [s]
          · have e : l ++ [y] = p ++ [s] := by
              rcases List.prefix_concat_iff.1 h1 with e | e
              · exact e
              · exact absurd e hqp
            have e1 : l = p := by have := congrArg List.dropLast e; simpa using this
            have e2 : y = s := by have := congrArg List.getLast? e; simpa using this
            subst e1
            subst e2
            rw [hl] at hj
            have hkj := Option.some.inj hj
            rw [if_pos h1, if_pos ⟨hkj.symm, rfl⟩, List.drop_length, List.append_nil, hf]
          · rw [if_neg h1]
            have hn : ¬ (j = k ∧ s = y) := by
              rintro ⟨rfl, rfl⟩
              have := dir_path hok hj hl hd
              subst this
              exact h1 (List.prefix_refl _)
            rw [if_neg hn]
            by_cases h2 : lp ++ [x] <+: p ++ [s]
            · have e : lp ++ [x] = p ++ [s] := by
                rcases List.prefix_concat_iff.1 h2 with e | e
                · exact e
                · exact absurd e hpp
              have e1 : lp = p := by have := congrArg List.dropLast e; simpa using this
              have e2 : x = s := by have := congrArg List.getLast? e; simpa using this
              subst e1
              subst e2
              rw [ha] at hj
              have haj := Option.some.inj hj
              rw [if_pos h2, if_pos ⟨haj.symm, rfl⟩]
            · rw [if_neg h2, if_neg]
              rintro ⟨rfl, rfl⟩
              have := dir_path hok hj ha had
              subst this
              exact h2 (List.prefix_refl _)
        by_cases hak : j = a ∨ j = k
        · obtain ⟨h1, lj, h2, h3⟩ := hR.dir j p hj hdj'
          refine ⟨hs _ _ h1 (hR.thing_ne_map hok hjh hah had) (hR.thing_ne_map hok hjh hkh hd), _, hm j lj hjh hdj' hak h2, fun s => ?_⟩
          rw [getM_move, hval, h3 s]
          split
          · rfl
          · split
            · rfl
            · rfl
        · obtain ⟨h1, lj, h2, h3⟩ := other p hj (fun e => hak (Or.inl e)) (fun e => hak (Or.inr e))
          refine ⟨h1, lj, h2, fun s => ?_⟩
          rw [h3 s, hval, if_neg (fun e => hak (Or.inr e.1)), if_neg (fun e => hak (Or.inl e.1))]
    inj := hR.inj
    injm := hR.injm }

/-- A file's new bytes. -/
theorem Rep.set (hR : Rep w B t φ μ) (hok : t.Ok) {i : Nat} {d d' : ByteArray} (hi : (i, false, d) ∈ t.things) (hs' : d'.size ≤ 2560)
    (hs : ∀ (b : Nat) (o : Obj), w.heap[b]? = some o → b ≠ φ i → w'.heap[b]? = some o) (hthing : w'.heap[φ i]? = some (thingO d' (t.links i) none)) : Rep w' B (t.set i d') φ μ := by
  have hih : t.has i := ⟨_, _, hi⟩
  have hid := isDir_of hok hi
  have hok' := hok.set hi hs'
  have hmem : ∀ j b e, (j, b, e) ∈ (t.set i d').things → (j ≠ i ∧ (j, b, e) ∈ t.things) ∨ (j = i ∧ b = false ∧ e = d') := by
    intro j b e hm
    obtain ⟨x, hx, he⟩ := List.mem_map.1 hm
    obtain ⟨a, c, f⟩ := x
    simp only at he
    split at he
    · rename_i ha
      subst ha
      cases he
      have := isDir_of hok hx
      rw [hid] at this
      exact Or.inr ⟨rfl, this.symm, rfl⟩
    · rename_i ha
      cases he
      exact Or.inl ⟨ha, hx⟩
  have hhas : ∀ j, (t.set i d').has j → t.has j := by
    rintro j ⟨b, e, hj⟩
    rcases hmem j b e hj with ⟨_, h⟩ | ⟨rfl, _, _⟩
    · exact ⟨_, _, h⟩
    · exact hih
  have hdir : ∀ j, (t.set i d').has j → (t.set i d').isDir j = t.isDir j := by
    rintro j ⟨b, e, hj⟩
    rw [isDir_of hok' hj]
    rcases hmem j b e hj with ⟨_, h⟩ | ⟨rfl, rfl, _⟩
    · rw [isDir_of hok h]
    · rw [hid]
  exact {
    root := hs _ _ hR.root (hR.root_ne_thing hok hih)
    file := by
      intro j e hj
      rcases hmem j false e hj with ⟨hne, h⟩ | ⟨rfl, _, rfl⟩
      · exact hs _ _ (hR.file j e h) (fun e2 => hne (hR.inj _ _ ⟨_, _, h⟩ hih e2))
      · exact hthing
    dir := by
      intro j p hp hdj
      have hjh := has_idOf hok' hp
      rw [hdir j hjh] at hdj
      have hji : j ≠ i := fun e => by rw [e, hid] at hdj; cases hdj
      obtain ⟨h1, lj, h2, h3⟩ := hR.dir j p hp hdj
      exact ⟨hs _ _ h1 (fun e2 => hji (hR.inj _ _ (hhas j hjh) hih e2)), lj, h2.same (fun o ho => hs _ _ ho (Ne.symm (hR.thing_ne_map hok hih (hhas j hjh) hdj))), h3⟩
    inj := fun a b ha hb => hR.inj a b (hhas a ha) (hhas b hb)
    injm := fun a b ha hb hda hdb => hR.injm a b (hhas a ha) (hhas b hb) (by rw [← hdir a ha]; exact hda) (by rw [← hdir b hb]; exact hdb) }
end
end Go.Proofs.YtcgpmnlondnbhaaDoor
