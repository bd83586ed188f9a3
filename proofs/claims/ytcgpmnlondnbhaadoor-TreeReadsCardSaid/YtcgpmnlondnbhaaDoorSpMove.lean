/-
  A rename on the tree as plain data. No program in this text.
-/
import Derived.Test.YtcgpmnlondnbhaaDoorSpOps
namespace Go.Proofs.YtcgpmnlondnbhaaDoor.Sp
open Go Txt

/-- A path's beginning turned. -/
def mv (p q : List ByteArray) (x : List ByteArray × Nat) : List ByteArray × Nat := if p <+: x.1 then (q ++ x.1.drop p.length, x.2) else x

theorem nodup_of_map {α β : Type} (f : α → β) : ∀ {l : List α}, (l.map f).Nodup → l.Nodup
  | [], _ => by simp
  | x :: r, h => by
    rw [List.map_cons, List.nodup_cons] at h
    rw [List.nodup_cons]
    exact ⟨fun hm => h.1 (List.mem_map.2 ⟨x, hm, rfl⟩), nodup_of_map f h.2⟩

section
variable {t : Tree}
theorem move_names (h : t.Ok) {p q : List ByteArray} {i : Nat} (hp : (p, i) ∈ t.names) : (t.move (t.isDir i) p q).names = t.names.map (mv p q) := by
  unfold Tree.move
  simp only
  apply List.map_congr_left
  intro x hx
  unfold moved mv
  by_cases hpre : p <+: x.1
  · rw [if_pos hpre, if_pos]
    obtain ⟨r, hr⟩ := hpre
    cases hd : t.isDir i with
    | true => exact Or.inr ⟨rfl, r, hr⟩
    | false =>
      have := below_file h hp hd (r := r) (j := x.2) (by rw [hr]; exact hx)
      subst this
      rw [List.append_nil] at hr
      exact Or.inl hr.symm
  · rw [if_neg hpre, if_neg]
    rintro (e | ⟨_, e⟩)
    · exact hpre (e ▸ List.prefix_refl _)
    · exact hpre e

theorem no_below (h : t.Ok) {q r : List ByteArray} {j : Nat} (hq : t.find q = none) (hq0 : q ≠ []) : (q ++ r, j) ∉ t.names := fun hm => by
  obtain ⟨k, hk, _⟩ := below_there h hq0 r hm
  exact find_none.1 hq k hk

theorem mv_mem {p q : List ByteArray} (r : List ByteArray) (j : Nat) :
    (r, j) ∈ t.names.map (mv p q) ↔ (∃ e, r = q ++ e ∧ (p ++ e, j) ∈ t.names) ∨ (¬ p <+: r ∧ (r, j) ∈ t.names) := by
  rw [List.mem_map]
  constructor
  · rintro ⟨x, hx, e⟩
    unfold mv at e
    split at e
    · rename_i hpre
      obtain ⟨s, hs⟩ := hpre
      have e1 := (Prod.mk.inj e).1
      have e2 := (Prod.mk.inj e).2
      refine Or.inl ⟨s, ?_, ?_⟩
      · rw [← e1, ← hs, List.drop_left]
      · rw [hs, ← e2]; exact hx
    · rename_i hpre
      subst e
      exact Or.inr ⟨hpre, hx⟩
  · rintro (⟨e, rfl, hm⟩ | ⟨hn, hm⟩)
    · refine ⟨_, hm, ?_⟩
      unfold mv
      rw [if_pos (List.prefix_append _ _), List.drop_left]
    · refine ⟨_, hm, ?_⟩
      unfold mv
      rw [if_neg hn]

theorem Tree.Ok.move (h : t.Ok) {p l : List ByteArray} {y : ByteArray} {i k : Nat} (hp : (p, i) ∈ t.names) (hl : t.idOf l = some k) (hd : t.isDir k = true) (hy : nameB y = true) (hq : t.find (l ++ [y]) = none)
    (hloop : t.isDir i = true → ¬ p <+: l ++ [y]) : (t.move (t.isDir i) p (l ++ [y])).Ok := by
  have hp0 := h.ne _ _ hp
  have hq0 : l ++ [y] ≠ [] := by simp
  have hnames := move_names (q := l ++ [y]) h hp
  have hmem : ∀ r j, (r, j) ∈ (t.move (t.isDir i) p (l ++ [y])).names ↔ (∃ e, r = l ++ [y] ++ e ∧ (p ++ e, j) ∈ t.names) ∨ (¬ p <+: r ∧ (r, j) ∈ t.names) := by
    intro r j; rw [hnames]; exact mv_mem r j
  -- the directory of the new place stays where it is
  have hnl : ¬ p <+: l := by
    rintro ⟨e, he⟩
    cases hdi : t.isDir i with
    | true => exact hloop hdi ⟨e ++ [y], by rw [← List.append_assoc, he]⟩
    | false =>
      rcases idOf_mem h hl with ⟨e1, _⟩ | hm
      · subst e1; exact hp0 (List.append_eq_nil_iff.1 he).1
      · have := below_file h hp hdi (r := e) (j := k) (by rw [he]; exact hm)
        subst this
        rw [List.append_nil] at he
        subst he
        have := mem_uniq h hp hm
        subst this
        rw [hdi] at hd
        cases hd
  exact {
    ne := by
      intro r j hm
      rcases (hmem r j).1 hm with ⟨e, rfl, _⟩ | ⟨_, hm2⟩
      · simp
      · exact h.ne _ _ hm2
    good := by
      intro r j hm
      rcases (hmem r j).1 hm with ⟨e, rfl, hm2⟩ | ⟨_, hm2⟩
      · intro s hs
        rcases List.mem_append.1 hs with hs | hs
        · rcases List.mem_append.1 hs with hs | hs
          · exact idOf_good h hl s hs
          · rw [List.mem_singleton.1 hs]; exact hy
        · exact h.good _ _ hm2 s (List.mem_append_right _ hs)
      · exact h.good _ _ hm2
    nodup := by
      rw [hnames, List.map_map]
      have hn : t.names.Nodup := nodup_of_map _ h.nodup
      have hinj : ∀ a ∈ t.names, ∀ b ∈ t.names, (mv p (l ++ [y]) a).1 = (mv p (l ++ [y]) b).1 → a = b := by
        intro a ha b hb e
        have back : ∀ x ∈ t.names, ∀ z ∈ t.names, x.1 = z.1 → x = z := fun x hx z hz e => by
          obtain ⟨x1, x2⟩ := x
          obtain ⟨z1, z2⟩ := z
          simp only at e
          subst e
          rw [mem_uniq h hx hz]
        unfold mv at e
        by_cases hpa : p <+: a.1
        · by_cases hpb : p <+: b.1
          · rw [if_pos hpa, if_pos hpb] at e
            obtain ⟨ra, hra⟩ := hpa
            obtain ⟨rb, hrb⟩ := hpb
            rw [← hra, ← hrb, List.drop_left, List.drop_left] at e
            exact back a ha b hb (by rw [← hra, ← hrb, List.append_cancel_left e])
          · rw [if_pos hpa, if_neg hpb] at e
            exact absurd (show (l ++ [y] ++ a.1.drop p.length, b.2) ∈ t.names by simp only at e; rw [e]; exact hb) (no_below h hq hq0)
        · by_cases hpb : p <+: b.1
          · rw [if_neg hpa, if_pos hpb] at e
            exact absurd (show (l ++ [y] ++ b.1.drop p.length, a.2) ∈ t.names by simp only at e; rw [← e]; exact ha) (no_below h hq hq0)
          · rw [if_neg hpa, if_neg hpb] at e
            exact back a ha b hb e
      generalize t.names = L at hn hinj
      induction L with
      | nil => simp
      | cons x r ih =>
        rw [List.nodup_cons] at hn
        rw [List.map_cons, List.nodup_cons]
        refine ⟨fun hm => ?_, ih hn.2 (fun a ha b hb => hinj a (List.mem_cons_of_mem _ ha) b (List.mem_cons_of_mem _ hb))⟩
        obtain ⟨z, hz, e⟩ := List.mem_map.1 hm
        have := hinj x (by simp) z (List.mem_cons_of_mem _ hz) e.symm
        subst this
        exact hn.1 hz
    up := by
      intro r j hm
      rcases (hmem r j).1 hm with ⟨e, rfl, hm2⟩ | ⟨hn, hm2⟩
      · by_cases he : e = []
        · subst he
          rw [List.append_nil, List.dropLast_concat]
          rcases idOf_mem h hl with ⟨e1, _⟩ | hm3
          · exact Or.inl e1
          · exact Or.inr ⟨k, (hmem _ _).2 (Or.inr ⟨hnl, hm3⟩), hd⟩
        · obtain ⟨f, z, rfl⟩ : ∃ f z, e = f ++ [z] := ⟨e.dropLast, e.getLast he, (List.dropLast_concat_getLast he).symm⟩
          rw [← List.append_assoc] at hm2 ⊢
          rw [List.dropLast_concat]
          rcases h.up _ _ hm2 with e1 | ⟨k', hk', hd'⟩
          · rw [List.dropLast_concat] at e1
            exact absurd (List.append_eq_nil_iff.1 e1).1 hp0
          · rw [List.dropLast_concat] at hk'
            exact Or.inr ⟨k', (hmem _ _).2 (Or.inl ⟨f, rfl, hk'⟩), hd'⟩
      · rcases h.up _ _ hm2 with e1 | ⟨k', hk', hd'⟩
        · exact Or.inl e1
        · refine Or.inr ⟨k', (hmem _ _).2 (Or.inr ⟨fun hpre => hn (hpre.trans (List.dropLast_prefix r)), hk'⟩), hd'⟩
    ids := h.ids
    there := by
      intro r j hm
      rcases (hmem r j).1 hm with ⟨e, rfl, hm2⟩ | ⟨_, hm2⟩
      · exact h.there _ _ hm2
      · exact h.there _ _ hm2
    root := h.root
    named := by
      intro j b d hm
      rcases h.named _ _ _ hm with e | ⟨r, hr⟩
      · exact Or.inl e
      · by_cases hpre : p <+: r
        · obtain ⟨e, he⟩ := hpre
          exact Or.inr ⟨_, (hmem _ _).2 (Or.inl ⟨e, rfl, by rw [he]; exact hr⟩)⟩
        · exact Or.inr ⟨r, (hmem _ _).2 (Or.inr ⟨hpre, hr⟩)⟩
    one := by
      intro r s j d hm hr hs
      rcases (hmem r j).1 hr with ⟨e, rfl, hr2⟩ | ⟨hn, hr2⟩
      · rcases (hmem s j).1 hs with ⟨f, rfl, hs2⟩ | ⟨hn2, hs2⟩
        · have := h.one _ _ _ _ hm hr2 hs2
          rw [List.append_cancel_left this]
        · have := h.one _ _ _ _ hm hr2 hs2
          exact absurd (this ▸ List.prefix_append _ _) hn2
      · rcases (hmem s j).1 hs with ⟨f, rfl, hs2⟩ | ⟨hn2, hs2⟩
        · have := h.one _ _ _ _ hm hr2 hs2
          exact absurd (this ▸ List.prefix_append _ _) hn
        · exact h.one _ _ _ _ hm hr2 hs2
    many := h.many
    small := h.small
    empty := h.empty }

/-- What is found behind a rename. -/
theorem find_move (h : t.Ok) {p l : List ByteArray} {y : ByteArray} {i k : Nat} (hp : (p, i) ∈ t.names) (hl : t.idOf l = some k) (hd : t.isDir k = true) (hy : nameB y = true) (hq : t.find (l ++ [y]) = none)
    (hloop : t.isDir i = true → ¬ p <+: l ++ [y]) (r : List ByteArray) :
    (t.move (t.isDir i) p (l ++ [y])).find r = if l ++ [y] <+: r then t.find (p ++ r.drop (l ++ [y]).length) else if p <+: r then none else t.find r := by
  have hok := h.move hp hl hd hy hq hloop
  have hmem : ∀ r j, (r, j) ∈ (t.move (t.isDir i) p (l ++ [y])).names ↔ (∃ e, r = l ++ [y] ++ e ∧ (p ++ e, j) ∈ t.names) ∨ (¬ p <+: r ∧ (r, j) ∈ t.names) := by
    intro r j; rw [move_names h hp]; exact mv_mem r j
  have hext : ∀ (a b : Option Nat), (∀ j, a = some j ↔ b = some j) → a = b := by
    intro a b hab
    cases a with
    | none =>
      cases b with
      | none => rfl
      | some j => exact absurd ((hab j).2 rfl) (by simp)
    | some j => exact ((hab j).1 rfl).symm
  apply hext
  intro j
  rw [find_mem hok, hmem]
  by_cases hqr : l ++ [y] <+: r
  · rw [if_pos hqr, find_mem h]
    obtain ⟨e, rfl⟩ := hqr
    rw [List.drop_left]
    constructor
    · rintro (⟨f, hf, hm⟩ | ⟨_, hm⟩)
      · rw [List.append_cancel_left hf]; exact hm
      · exact absurd hm (no_below h hq (by simp))
    · intro hm
      exact Or.inl ⟨e, rfl, hm⟩
  · rw [if_neg hqr]
    by_cases hpr : p <+: r
    · rw [if_pos hpr]
      constructor
      · rintro (⟨f, hf, _⟩ | ⟨hn, _⟩)
        · exact absurd ⟨f, hf.symm⟩ hqr
        · exact absurd hpr hn
      · intro e; cases e
    · rw [if_neg hpr, find_mem h]
      constructor
      · rintro (⟨f, hf, _⟩ | ⟨_, hm⟩)
        · exact absurd ⟨f, hf.symm⟩ hqr
        · exact hm
      · intro hm; exact Or.inr ⟨hpr, hm⟩

theorem move_links (dir : Bool) (p q : List ByteArray) (j : Nat) : (t.move dir p q).links j = t.links j := by
  unfold Tree.links Tree.move
  simp only
  rw [List.countP_map]
  apply List.countP_congr
  intro x _
  unfold moved
  simp only [Function.comp_apply]
  split <;> rfl
end
end Go.Proofs.YtcgpmnlondnbhaaDoor.Sp
