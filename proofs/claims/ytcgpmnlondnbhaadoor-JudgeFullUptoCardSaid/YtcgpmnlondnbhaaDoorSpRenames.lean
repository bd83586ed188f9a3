/-
  A rename, and back again. No walk in this text.
-/
import Derived.Test.YtcgpmnlondnbhaaDoorSpCounts
import Derived.Test.YtcgpmnlondnbhaaDoorTreeB
namespace Go.Proofs.YtcgpmnlondnbhaaDoor.Sp
open Go Txt

theorem filterMap_same {α β : Type} {f g : α → Option β} : ∀ (l : List α), (∀ x ∈ l, f x = g x) → l.filterMap f = l.filterMap g
  | [], _ => rfl
  | x :: r, h => by
    rw [List.filterMap_cons, List.filterMap_cons, h x (by simp), filterMap_same r (fun y hy => h y (List.mem_cons_of_mem _ hy))]

section
variable {t : Tree}
theorem walk_snoc : ∀ (l : List ByteArray) {pre m : List ByteArray} {i a : Nat}, t.walk pre l i = (a, 0) → t.walk pre (l ++ m) i = t.walk (pre ++ l) m a
  | [], pre, m, i, a, h => by
    unfold Tree.walk at h
    cases h
    rw [List.append_nil, List.nil_append]
  | s :: r, pre, m, i, a, h => by
    unfold Tree.walk at h
    split at h
    · rename_i hd
      cases hf : t.find (pre ++ [s]) with
      | none => rw [hf] at h; cases h
      | some k =>
        rw [hf] at h
        have ih := walk_snoc r (m := m) h
        rw [List.cons_append]
        conv => lhs; unfold Tree.walk
        rw [if_pos hd, hf]
        simp only
        rw [ih, List.append_assoc]
        rfl
    · cases h

/-- A path's last name, in a directory that is there. -/
structure InDir (t : Tree) (p : ByteArray) (l : List ByteArray) (x : ByteArray) (a : Nat) : Prop where
  last : lastN p = (l, x, 0)
  id : t.idOf l = some a
  dir : t.isDir a = true
  full : full p = l ++ [x]
  name : nameB x = true
theorem inDir {p : ByteArray} (h : t.dirC p = 0) : ∃ l x a, InDir t p l x a := by
  rcases dirTo t p with ⟨c, h1, h2, h3⟩ | ⟨l, x, c, h1, h2, h3, h4⟩ | ⟨l, x, i, h1, h2, h3, h4⟩ | ⟨l, x, i, h1, h2, h3, h4, h5, h6⟩
  · rw [h] at h3; rw [← h3] at h2; simp at h2
  · rw [h] at h4; rw [← h4] at h3; simp at h3
  · rw [h] at h4; cases h4
  · exact ⟨l, x, i, h1, walk_ok _ h2 idOf_nil, h3, h5, h6⟩
theorem InDir.dirC (h : t.Ok) {p : ByteArray} {l : List ByteArray} {x : ByteArray} {a : Nat} (hp : InDir t p l x a) : t.dirC p = 0 := by
  unfold Tree.dirC
  rw [hp.last]
  simp only
  rw [walk_there h l (pre := []) idOf_nil hp.id, if_pos trivial, if_pos rfl, if_pos hp.dir]
theorem InDir.split {p : ByteArray} {l : List ByteArray} {x : ByteArray} {a : Nat} (hp : InDir t p l x a) : splitN p = (Sp.full p, 0) := last_full (by rw [hp.last])

theorem rename_zero {p q : ByteArray} (hz : (t.rename p q).2 = 0) : ∃ i, t.dirC p = 0 ∧ t.find (full p) = some i ∧ (lastN q).2.2 = 0 ∧ ¬ (t.isDir i = true ∧ full p <+: full q ∧ p ≠ q) ∧ t.dirC q = 0 := by
  obtain ⟨c, hc⟩ : ∃ c, t.dirC p = c := ⟨_, rfl⟩
  by_cases h0 : c = 0
  rotate_left
  · rw [rename_err hc h0] at hz; exact absurd hz h0
  subst h0
  cases hf : t.find (full p) with
  | none => rw [rename_none hc hf] at hz; cases hz
  | some i =>
    obtain ⟨g, hg⟩ : ∃ g, (lastN q).2.2 = g := ⟨_, rfl⟩
    by_cases hg0 : g = 0
    rotate_left
    · rw [rename_err2 hc hf hg hg0] at hz; exact absurd hz hg0
    subst hg0
    by_cases hl : t.isDir i = true ∧ full p <+: full q ∧ p ≠ q
    · rw [rename_loop hc hf hg hl] at hz; cases hz
    obtain ⟨d, hd⟩ : ∃ d, t.dirC q = d := ⟨_, rfl⟩
    by_cases hd0 : d = 0
    rotate_left
    · rw [rename_err3 hc hf hg hl hd hd0] at hz; exact absurd hz hd0
    subst hd0
    exact ⟨i, hc, by first | exact hf | rfl, hg, hl, hd⟩

theorem rename_was (h : t.Ok) {p q : ByteArray} (hz : (t.rename p q).2 = 0) : (t.step ⟨10, p, noText, 0, 0, noText⟩).2.code = 0 := by
  obtain ⟨i, h1, h2, _⟩ := rename_zero hz
  obtain ⟨l, x, a, hp⟩ := inDir h1
  exact stat_there h hp.split (find_idOf h h2)

theorem tell_stat_eq (t : Tree) (p : ByteArray) : t.step ⟨10, p, noText, 0, 0, noText⟩ = (t, t.tell ⟨10, p, noText, 0, 0, noText⟩) := rfl
theorem tell_stat_at {p : ByteArray} {i : Nat} (h : t.at p = (i, 0)) : t.tell ⟨10, p, noText, 0, 0, noText⟩ = if t.isDir i = true then { kind := 2, links := 1, size := (t.kidsL (full p)).length } else { kind := 1, links := t.links i, size := (t.dataOf i).size } := by
  unfold Tree.tell
  simp only
  rw [h, if_pos rfl, if_pos trivial]

/-- What is right below a path is right below the other one. -/
theorem kidsL_move (h : t.Ok) {p q : List ByteArray} {i : Nat} (hp : (p, i) ∈ t.names) (hq : t.find q = none) (hq0 : q ≠ []) : (t.move (t.isDir i) p q).kidsL q = t.kidsL p := by
  have hp0 := h.ne _ _ hp
  unfold Tree.kidsL
  rw [move_names h hp, List.filterMap_map]
  refine filterMap_same _ (fun x hx => ?_)
  show (if (mv p q x).1.dropLast = q then (mv p q x).1.getLast? else none) = _
  unfold mv
  by_cases hpre : p <+: x.1
  · rw [if_pos hpre]
    obtain ⟨r, hr⟩ := hpre
    rw [← hr, List.drop_left]
    simp only
    induction r using snocInd with
    | nil =>
      rw [List.append_nil, List.append_nil, if_neg, if_neg]
      · intro e
        have := congrArg List.length e
        rw [List.length_dropLast] at this
        have : 0 < p.length := List.length_pos_iff.2 hp0
        omega
      · intro e
        have := congrArg List.length e
        rw [List.length_dropLast] at this
        have : 0 < q.length := List.length_pos_iff.2 hq0
        omega
    | append_singleton r s _ =>
      rw [← List.append_assoc, ← List.append_assoc, List.dropLast_concat, List.dropLast_concat, List.getLast?_concat, List.getLast?_concat]
      by_cases hr0 : r = []
      · subst hr0; simp
      · rw [if_neg, if_neg]
        · intro e; exact hr0 (by simpa using e)
        · intro e; exact hr0 (by simpa using e)
  · rw [if_neg hpre, if_neg, if_neg]
    · intro e
      obtain ⟨x1, x2⟩ := x
      simp only at e hpre
      have hne := h.ne _ _ hx
      exact hpre ⟨[x1.getLast hne], by rw [← e]; exact List.dropLast_concat_getLast hne⟩
    · intro e
      obtain ⟨x1, x2⟩ := x
      simp only at e
      have hne := h.ne _ _ hx
      have : x1 = q ++ [x1.getLast hne] := by rw [← e]; exact (List.dropLast_concat_getLast hne).symm
      rw [this] at hx
      exact no_below h hq hq0 hx

theorem renames_law (h : t.Ok) {p q : ByteArray} (hz : (t.rename p q).2 = 0) (hpq : p ≠ q) (hth : (t.step ⟨10, q, noText, 0, 0, noText⟩).2.code ≠ 0) :
    ∃ t1 k l s g, t.step ⟨6, p, q, 0, 0, noText⟩ = (t1, {}) ∧ t.step ⟨10, p, noText, 0, 0, noText⟩ = (t, ⟨0, k, l, s, ofL [], []⟩) ∧ t1.step ⟨10, q, noText, 0, 0, noText⟩ = (t1, ⟨0, k, l, s, ofL [], []⟩) ∧
      t1.step ⟨10, p, noText, 0, 0, noText⟩ = (t1, g) ∧ g.code = 100 ∧ t1.names.length = t.names.length ∧ underN p q = (false, 0) ∧ t1.step ⟨6, q, p, 0, 0, noText⟩ = (t, {}) := by
  obtain ⟨i, hcp, hf, hlq, hloop, hcq⟩ := rename_zero hz
  obtain ⟨lp, x, a, hp⟩ := inDir hcp
  obtain ⟨lq, y, k, hq⟩ := inDir hcq
  have hfq : t.find (full q) = none := by
    cases hg : t.find (full q) with
    | none => rfl
    | some j => exact absurd (stat_there h hq.split (find_idOf h hg)) hth
  have hren := rename_new hcp hf hlq hloop hcq hfq
  have hmem := (find_mem h).1 hf
  have hQ0 : full q ≠ [] := by rw [hq.full]; simp
  have hloop' : t.isDir i = true → ¬ full p <+: full q := fun hd hpre => hloop ⟨hd, hpre, hpq⟩
  have hnot : ¬ full p <+: full q := by
    cases hd : t.isDir i with
    | true => exact hloop' hd
    | false =>
      rintro ⟨r, hr⟩
      induction r using snocInd with
      | nil => rw [List.append_nil] at hr; rw [hr, hfq] at hf; cases hf
      | append_singleton r s _ =>
        rw [hq.full, ← List.append_assoc] at hr
        have hr1 : full p ++ r = lq := by
          have := congrArg List.dropLast hr
          rwa [List.dropLast_concat, List.dropLast_concat] at this
        have hk := hq.id
        rw [← hr1, idOf_find (by intro e; exact h.ne _ _ hmem (List.append_eq_nil_iff.1 e).1)] at hk
        have := below_file h hmem hd ((find_mem h).1 hk)
        subst this
        rw [List.append_nil, hf] at hk
        cases hk
        have := hq.dir
        rw [hd] at this
        cases this
  have hnot2 : ¬ full q <+: full p := by
    rintro ⟨r, hr⟩
    exact no_below h hfq hQ0 (by rw [hr]; exact hmem)
  have hok1 : (t.move (t.isDir i) (full p) (full q)).Ok := by
    rw [hq.full]
    exact h.move hmem hq.id hq.dir hq.name (by rw [← hq.full]; exact hfq) (by rw [← hq.full]; exact hloop')
  have hF : ∀ r, (t.move (t.isDir i) (full p) (full q)).find r = if full q <+: r then t.find (full p ++ r.drop (full q).length) else if full p <+: r then none else t.find r := by
    intro r
    have := find_move h hmem hq.id hq.dir hq.name (by rw [← hq.full]; exact hfq) (by rw [← hq.full]; exact hloop') r
    rw [← hq.full] at this
    exact this
  obtain ⟨t1, ht1⟩ : ∃ t1, t.move (t.isDir i) (full p) (full q) = t1 := ⟨_, rfl⟩
  have hdir1 : ∀ j, t1.isDir j = t.isDir j := fun j => by rw [← ht1]; rfl
  have hnames1 : t1.names = t.names.map (mv (full p) (full q)) := by rw [← ht1]; exact move_names h hmem
  have hlinks1 : ∀ j, t1.links j = t.links j := fun j => by rw [← ht1]; exact move_links _ _ _ _
  have hdata1 : ∀ j, t1.dataOf j = t.dataOf j := fun j => by rw [← ht1]; rfl
  have hkids1 : t1.kidsL (full q) = t.kidsL (full p) := by rw [← ht1]; exact kidsL_move h hmem hfq hQ0
  have hthings : ∀ (d : Bool) (u v : List ByteArray), (t1.move d u v).things = t.things ∧ (t1.move d u v).many = t.many := fun d u v => by rw [← ht1]; exact ⟨rfl, rfl⟩
  rw [ht1] at hok1 hF hren
  -- what is found there
  have hfQ : t1.find (full q) = some i := by rw [hF, if_pos (List.prefix_refl _), List.drop_length, List.append_nil]; exact hf
  have hfP : t1.find (full p) = none := by rw [hF, if_neg hnot2, if_pos (List.prefix_refl _)]
  have hlow : ∀ (l : List ByteArray) (b : Nat), t.idOf l = some b → ¬ full q <+: l → ¬ full p <+: l → t1.idOf l = some b := by
    intro l b hl n1 n2
    by_cases h0 : l = []
    · subst h0; exact hl
    · rw [idOf_find h0] at hl ⊢
      rw [hF, if_neg n1, if_neg n2]
      exact hl
  have hlen : ∀ (l : List ByteArray) (s : ByteArray), ¬ l ++ [s] <+: l := fun l s hpre => by
    have := hpre.length_le
    rw [List.length_append, List.length_singleton] at this
    omega
  have hp1 : InDir t1 p lp x a := by
    refine ⟨hp.last, hlow lp a hp.id (fun hpre => ?_) (by rw [hp.full]; exact hlen lp x), by rw [hdir1]; exact hp.dir, hp.full, hp.name⟩
    exact hnot2 (hpre.trans ⟨[x], hp.full.symm⟩)
  have hq1 : InDir t1 q lq y k := by
    refine ⟨hq.last, hlow lq k hq.id (by rw [hq.full]; exact hlen lq y) (fun hpre => ?_), by rw [hdir1]; exact hq.dir, hq.full, hq.name⟩
    exact hnot (hpre.trans ⟨[y], hq.full.symm⟩)
  have hatP : t.at p = (i, 0) := at_of h hp.split (find_idOf h hf)
  have hatQ : t1.at q = (i, 0) := at_of hok1 hq.split (find_idOf hok1 hfQ)
  have hatP1 : t1.at p = (0, 100) := by
    unfold Tree.at
    rw [hp.split, if_pos rfl]
    show t1.walk [] (full p) 0 = _
    rw [hp.full, walk_snoc lp (walk_there hok1 lp (pre := []) idOf_nil hp1.id)]
    unfold Tree.walk
    rw [if_pos hp1.dir, List.nil_append, ← hp.full, hfP]
  have hback : t1.rename q p = (t, 0) := by
    have h1 := rename_new (hq1.dirC hok1) hfQ (by rw [hp.last] : (lastN p).2.2 = 0) (fun hc => hnot2 hc.2.1) (hp1.dirC hok1) hfP
    rw [h1, hdir1]
    have hn : (t1.move (t.isDir i) (full q) (full p)).names = t.names := by
      have h2 := move_names hok1 ((find_mem hok1).1 hfQ) (q := full p)
      rw [hdir1] at h2
      rw [h2, hnames1, List.map_map]
      conv => rhs; rw [← List.map_id t.names]
      refine List.map_congr_left (fun z hz => ?_)
      show mv (full q) (full p) (mv (full p) (full q) z) = z
      unfold mv
      by_cases hpre : full p <+: z.1
      · rw [if_pos hpre]
        obtain ⟨r, hr⟩ := hpre
        obtain ⟨z1, z2⟩ := z
        simp only at hr ⊢
        rw [← hr, List.drop_left, if_pos (List.prefix_append _ _), List.drop_left]
      · rw [if_neg hpre, if_neg]
        rintro ⟨r, hr⟩
        obtain ⟨z1, z2⟩ := z
        simp only at hr
        exact no_below h hfq hQ0 (by rw [hr]; exact hz)
    obtain ⟨h3, h4⟩ := hthings (t.isDir i) (full q) (full p)
    have : t1.move (t.isDir i) (full q) (full p) = t := by
      generalize t1.move (t.isDir i) (full q) (full p) = u at hn h3 h4
      cases u
      cases t
      simp only at hn h3 h4
      rw [hn, h3, h4]
    rw [this]
  have hstep : t.step ⟨6, p, q, 0, 0, noText⟩ = (t1, {}) := by
    show ((t.rename p q).1, ({ code := (t.rename p q).2 } : Ans)) = _
    rw [hren]
  have hstep2 : t1.step ⟨6, q, p, 0, 0, noText⟩ = (t, {}) := by
    show ((t1.rename q p).1, ({ code := (t1.rename q p).2 } : Ans)) = _
    rw [hback]
  have hunder : underN p q = (false, 0) := by
    rw [under_full (by rw [hp.last]) hlq, decide_eq_false hnot]
  have hnl : t1.names.length = t.names.length := by rw [hnames1, List.length_map]
  have hgone : (t1.tell ⟨10, p, noText, 0, 0, noText⟩).code = 100 := by
    unfold Tree.tell
    simp only
    rw [hatP1, if_neg (by decide)]
  have e1 := tell_stat_at hatP
  have e2 := tell_stat_at hatQ
  rw [hdir1, hkids1, hlinks1, hdata1] at e2
  cases hd : t.isDir i with
  | true =>
    rw [hd, if_pos rfl] at e1 e2
    exact ⟨t1, _, _, _, _, hstep, by rw [tell_stat_eq, e1], by rw [tell_stat_eq, e2], rfl, hgone, hnl, hunder, hstep2⟩
  | false =>
    rw [hd, if_neg (by simp)] at e1 e2
    exact ⟨t1, _, _, _, _, hstep, by rw [tell_stat_eq, e1], by rw [tell_stat_eq, e2], rfl, hgone, hnl, hunder, hstep2⟩
end
end Go.Proofs.YtcgpmnlondnbhaaDoor.Sp
