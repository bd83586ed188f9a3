/-
  What a change of memory does to a tree that lies there. No walk in this text.
-/
import Derived.Test.YtcgpmnlondnbhaaDoorTreeRep
import Derived.Test.YtcgpmnlondnbhaaDoorSpStep
namespace Go.Proofs.YtcgpmnlondnbhaaDoor
open Go Go.RowKit Txt Sp

theorem getM_set (l : List (ByteArray × Nat)) (s : ByteArray) (b : Nat) (r : ByteArray) : getM (setM l s b) r = if r = s then some b else getM l r := by
  unfold setM
  cases hs : getM l s with
  | none =>
    simp only [Option.isSome_none, Bool.false_eq_true, if_false]
    unfold getM at hs ⊢
    rw [List.find?_append]
    by_cases h : r = s
    · subst h
      rw [if_pos rfl]
      cases hf : l.find? (fun x => decide (x.1 = r)) with
      | none => simp
      | some y => rw [hf] at hs; cases hs
    · rw [if_neg h]
      cases hf : l.find? (fun x => decide (x.1 = r)) with
      | none => simp [Ne.symm h]
      | some y => simp
  | some c =>
    simp only [Option.isSome_some, if_true]
    obtain ⟨y, hy, rfl⟩ := Option.map_eq_some_iff.1 hs
    have hy1 : y.1 = s := of_decide_eq_true (List.find?_some (p := fun x : ByteArray × Nat => decide (x.1 = s)) hy)
    have hym := List.mem_of_find?_eq_some hy
    unfold getM
    rw [List.find?_map]
    by_cases h : r = s
    · subst h
      rw [if_pos rfl]
      have e : ((fun x : ByteArray × Nat => decide (x.1 = r)) ∘ fun x => if x.1 = r then (r, b) else x) = fun x => decide (x.1 = r) := by
        funext x
        simp only [Function.comp_apply]
        by_cases hx : x.1 = r <;> simp [hx]
      rw [e, hy]
      simp [hy1]
    · rw [if_neg h]
      have e : ((fun x : ByteArray × Nat => decide (x.1 = r)) ∘ fun x => if x.1 = s then (s, b) else x) = fun x => decide (x.1 = r) := by
        funext x
        simp only [Function.comp_apply]
        by_cases hx : x.1 = s
        · simp [hx]
        · simp [hx]
      rw [e]
      cases hf : l.find? (fun x => decide (x.1 = r)) with
      | none => rfl
      | some z =>
        have hz1 : z.1 = r := of_decide_eq_true (List.find?_some (p := fun x : ByteArray × Nat => decide (x.1 = r)) hf)
        have : z.1 ≠ s := by rw [hz1]; exact h
        simp [this]
theorem getM_del (l : List (ByteArray × Nat)) (s r : ByteArray) : getM (delM l s) r = if r = s then none else getM l r := by
  unfold getM delM
  rw [List.find?_filter]
  by_cases h : r = s
  · subst h
    rw [if_pos rfl]
    simp
  · rw [if_neg h]
    have : (fun a : ByteArray × Nat => decide (decide (a.1 ≠ s) = true ∧ decide (a.1 = r) = true)) = fun a => decide (a.1 = r) := by
      funext a
      by_cases ha : a.1 = r
      · simp [ha, h]
      · simp [ha]
    rw [this]

section
variable {w w' : World} {B : Nat} {t : Sp.Tree} {φ μ : Nat → Nat}

theorem has_idOf (hok : t.Ok) {p : List ByteArray} {i : Nat} (hp : t.idOf p = some i) : t.has i := ⟨_, _, there_idOf hok hp⟩
theorem idOf_has (hok : t.Ok) {i : Nat} (h : t.has i) : ∃ p, t.idOf p = some i := by
  obtain ⟨b, d, hd⟩ := h
  rcases hok.named _ _ _ hd with rfl | ⟨p, hp⟩
  · exact ⟨[], idOf_nil⟩
  · exact ⟨p, find_idOf hok ((find_mem hok).2 hp)⟩
/-- A directory has one path. -/
theorem dir_path (hok : t.Ok) {p q : List ByteArray} {i : Nat} (hp : t.idOf p = some i) (hq : t.idOf q = some i) (hd : t.isDir i = true) : p = q := by
  have hth := there_idOf hok hp
  rw [hd] at hth
  rcases idOf_mem hok hp with ⟨rfl, rfl⟩ | hp
  · rcases idOf_mem hok hq with ⟨rfl, _⟩ | hq
    · rfl
    · exact absurd rfl (hok.there _ _ hq).1
  · rcases idOf_mem hok hq with ⟨rfl, rfl⟩ | hq
    · exact absurd rfl (hok.there _ _ hp).1
    · exact hok.one _ _ _ _ hth hp hq

theorem Rep.thing (hR : Rep w B t φ μ) (hok : t.Ok) {i : Nat} (h : t.has i) : ∃ d m, w.heap[φ i]? = some (thingO d (t.links i) m) := by
  obtain ⟨p, hp⟩ := idOf_has hok h
  cases hd : t.isDir i with
  | true => exact ⟨_, _, (hR.dir i p hp hd).1⟩
  | false =>
    have := there_idOf hok hp
    rw [hd] at this
    exact ⟨_, _, hR.file i _ this⟩
theorem Rep.map (hR : Rep w B t φ μ) (hok : t.Ok) {i : Nat} (h : t.has i) (hd : t.isDir i = true) : ∃ es c, w.heap[μ i]? = some (.map es c) := by
  obtain ⟨p, hp⟩ := idOf_has hok h
  obtain ⟨_, l, ⟨o, ho, es, c, rfl, _⟩, _⟩ := hR.dir i p hp hd
  exact ⟨es, c, ho⟩
theorem Rep.root_ne_map (hR : Rep w B t φ μ) (hok : t.Ok) {i : Nat} (h : t.has i) (hd : t.isDir i = true) : B ≠ μ i := by
  obtain ⟨es, c, hm⟩ := hR.map hok h hd
  intro e
  have := hR.root
  rw [e, hm] at this
  cases this
theorem Rep.thing_ne_map (hR : Rep w B t φ μ) (hok : t.Ok) {i j : Nat} (hj : t.has j) (h : t.has i) (hd : t.isDir i = true) : φ j ≠ μ i := by
  obtain ⟨es, c, hm⟩ := hR.map hok h hd
  obtain ⟨d, m, ht⟩ := hR.thing hok hj
  intro e
  rw [e, hm] at ht
  cases ht
theorem Rep.root_ne_thing (hR : Rep w B t φ μ) (hok : t.Ok) {j : Nat} (hj : t.has j) : B ≠ φ j := by
  obtain ⟨d, m, ht⟩ := hR.thing hok hj
  intro e
  have := hR.root
  rw [e, ht] at this
  simp [thingO, treeO] at this

theorem MapAt.same {m : Nat} {l : List (ByteArray × Nat)} (h : MapAt w m l) (hs : ∀ o, w.heap[m]? = some o → w'.heap[m]? = some o) : MapAt w' m l :=
  let ⟨o, ho, hm⟩ := h
  ⟨o, hs o ho, hm⟩

/-- Nothing of the tree has turned. -/
theorem Rep.same (hR : Rep w B t φ μ) (hs : ∀ (k : Nat) (o : Obj), w.heap[k]? = some o → w'.heap[k]? = some o) : Rep w' B t φ μ where
  root := hs _ _ hR.root
  file i d h := hs _ _ (hR.file i d h)
  dir i p hp hd := let ⟨h1, l, h2, h3⟩ := hR.dir i p hp hd; ⟨hs _ _ h1, l, h2.same (hs _), h3⟩
  inj := hR.inj
  injm := hR.injm
theorem heap_below {w w' : World} (hb : Below w.heap.size w w') : ∀ (k : Nat) (o : Obj), w.heap[k]? = some o → w'.heap[k]? = some o := fun k o h => by
  rw [hb.block k (Array.getElem?_eq_some_iff.1 h).1]; exact h
theorem Rep.below (hR : Rep w B t φ μ) (hb : Below w.heap.size w w') : Rep w' B t φ μ := hR.same (heap_below hb)

def upd (f : Nat → Nat) (i b : Nat) : Nat → Nat := fun j => if j = i then b else f j
theorem upd_at (f : Nat → Nat) (i b : Nat) : upd f i b i = b := if_pos rfl
theorem upd_ne {f : Nat → Nat} {i b j : Nat} (h : j ≠ i) : upd f i b j = f j := if_neg h

theorem grown_links (q : List ByteArray) (dir : Bool) (j : Nat) : (t.grown q dir).links j = t.links j + if j = t.many + 1 then 1 else 0 := by
  unfold Sp.Tree.links Sp.Tree.grown
  simp only [List.countP_append, List.countP_cons, List.countP_nil]
  by_cases h : j = t.many + 1
  · simp [h]
  · simp [h, Ne.symm h]
theorem links_fresh (hok : t.Ok) : t.links (t.many + 1) = 0 := by
  unfold Sp.Tree.links
  rw [List.countP_eq_zero]
  intro x hx e
  have : x.2 = t.many + 1 := of_decide_eq_true e
  exact fresh_name hok (p := x.1) (by rw [← this]; exact hx)
theorem grown_find {q : List ByteArray} (hf : t.find q = none) {p : List ByteArray} {dir : Bool} : (t.grown q dir).find p = if p = q then some (t.many + 1) else t.find p := find_more hf
theorem grown_idOf {l : List ByteArray} {x : ByteArray} {dir : Bool} (hf : t.find (l ++ [x]) = none) {p : List ByteArray} : (t.grown (l ++ [x]) dir).idOf p = if p = l ++ [x] then some (t.many + 1) else t.idOf p := by
  unfold Sp.Tree.idOf
  by_cases h0 : p = []
  · subst h0
    rw [if_pos rfl, if_neg (by simp), if_pos rfl]
  · rw [if_neg h0, if_neg h0, grown_find hf]

/-- A file or a directory more. -/
theorem Rep.grown (hR : Rep w B t φ μ) (hok : t.Ok) {l : List ByteArray} {x : ByteArray} {i : Nat} {dir : Bool} (hl : t.idOf l = some i) (hd : t.isDir i = true) (hx : nameB x = true) (hf : t.find (l ++ [x]) = none)
    {b mb : Nat} {l0 : List (ByteArray × Nat)} {o' : Obj} (hl0 : MapAt w (μ i) l0) {m0 : Option Nat} (hbw : w.heap[b]? = some (thingO (ofL []) 0 m0)) (hbφ : ∀ j, t.has j → φ j ≠ b) (hbμ : ∀ j, t.has j → t.isDir j = true → μ j ≠ mb)
    (hs : ∀ (k : Nat) (o : Obj), w.heap[k]? = some o → k ≠ μ i → k ≠ b → w'.heap[k]? = some o) (hnew : w'.heap[b]? = some (thingO (ofL []) 1 (if dir = true then some mb else none)))
    (hmap : w'.heap[μ i]? = some o') (ho' : IsMap o' (setM l0 x b)) (hmb : dir = true → MapAt w' mb []) :
    Rep w' B (t.grown (l ++ [x]) dir) (upd φ (t.many + 1) b) (upd μ (t.many + 1) mb) := by
  have hok' : (t.grown (l ++ [x]) dir).Ok := hok.grown hl hd hx hf
  have hi := has_idOf hok hl
  have hne : ∀ j, t.has j → j ≠ t.many + 1 := fun j ⟨b, d, hj⟩ e => fresh_not hok (e ▸ hj)
  have hhas : ∀ j, (t.grown (l ++ [x]) dir).has j → j = t.many + 1 ∨ t.has j := by
    rintro j ⟨b, d, hj⟩
    rcases List.mem_append.1 hj with hj | hj
    · exact Or.inr ⟨b, d, hj⟩
    · cases List.mem_singleton.1 hj; exact Or.inl rfl
  have hz : 0 ≠ t.many + 1 := by omega
  have hmap0 : ∀ s, getM l0 s = (t.find (l ++ [s])).map φ := by
    obtain ⟨_, l1, h1, h2⟩ := hR.dir i l hl hd
    intro s
    rw [← h2 s]
    obtain ⟨o1, ho1, es1, c1, rfl, hst1, hen1⟩ := h1
    obtain ⟨o2, ho2, es2, c2, rfl, hst2, hen2⟩ := hl0
    rw [ho1] at ho2
    cases ho2
    have : l1.map encE = l0.map encE := by rw [← hen1, hen2]
    have : l1 = l0 := by
      refine List.map_inj_right (fun a b e => ?_) |>.1 this
      obtain ⟨a1, a2⟩ := a
      obtain ⟨b1, b2⟩ := b
      simp [encE, ptr] at e
      rw [e.1, e.2]
    rw [this]
  exact {
    root := by
      rw [upd_ne hz]
      exact hs _ _ hR.root (hR.root_ne_map hok hi hd) (fun e => by have := hR.root; rw [e, hbw] at this; simp [thingO, treeO] at this)
    file := by
      intro j d hj
      rcases List.mem_append.1 hj with hj | hj
      · have hjh : t.has j := ⟨_, _, hj⟩
        rw [upd_ne (hne j hjh), grown_links, if_neg (hne j hjh)]
        exact hs _ _ (hR.file j d hj) (hR.thing_ne_map hok hjh hi hd) (hbφ j hjh)
      · cases List.mem_singleton.1 hj
        rw [upd_at, grown_links, if_pos rfl, links_fresh hok]
        exact hnew
    dir := by
      intro j p hp hdj
      rw [grown_idOf hf] at hp
      rw [grown_isDir hok] at hdj
      split at hp
      · rename_i e
        cases hp
        rw [if_pos rfl] at hdj
        subst hdj
        rw [upd_at, upd_at, grown_links, if_pos rfl, links_fresh hok]
        refine ⟨hnew, [], hmb rfl, fun s => ?_⟩
        have : t.find (p ++ [s]) = none := by
          rw [e]
          refine find_none.2 fun k hk => no_below hok hf (by simp) hk
        rw [grown_find hf, if_neg (by rw [e]; intro e2; have := congrArg List.length e2; simp at this), this]
        rfl
      · rename_i e
        have hjh := has_idOf hok hp
        rw [if_neg (hne j hjh)] at hdj
        rw [upd_ne (hne j hjh), upd_ne (hne j hjh), grown_links, if_neg (hne j hjh)]
        obtain ⟨h1, lj, h2, h3⟩ := hR.dir j p hp hdj
        refine ⟨hs _ _ h1 (hR.thing_ne_map hok hjh hi hd) (hbφ j hjh), ?_⟩
        have hmapφ : ∀ (q : List ByteArray), (t.find q).map (upd φ (t.many + 1) b) = (t.find q).map φ := by
          intro q
          cases hq : t.find q with
          | none => rfl
          | some k =>
            simp only [Option.map_some]
            rw [upd_ne (hne k (has_idOf hok (find_idOf hok hq)))]
        by_cases hji : j = i
        · subst hji
          have hpl : p = l := dir_path hok hp hl hd
          subst hpl
          refine ⟨_, ⟨o', hmap, ho'⟩, fun s => ?_⟩
          rw [getM_set, grown_find hf]
          by_cases hsx : s = x
          · subst hsx
            rw [if_pos rfl, if_pos rfl]
            simp [upd_at]
          · rw [if_neg hsx, if_neg (by intro e2; exact hsx (by simpa using e2)), hmapφ]
            exact hmap0 s
        · refine ⟨lj, h2.same (fun o ho => hs _ _ ho (fun e2 => hji (hR.injm _ _ hjh hi hdj hd e2)) (fun e2 => ?_)), fun s => ?_⟩
          · obtain ⟨es, c, hm⟩ := hR.map hok hjh hdj
            rw [e2, hbw] at hm
            cases hm
          · rw [h3 s, grown_find hf, if_neg, hmapφ]
            intro e2
            have : p = l := by
              have := congrArg List.dropLast e2
              simpa using this
            subst this
            rw [hl] at hp
            exact hji (Option.some.inj hp).symm
    inj := by
      intro a c ha hc e
      rcases hhas a ha with rfl | ha'
      · rcases hhas c hc with rfl | hc'
        · rfl
        · rw [upd_at, upd_ne (hne c hc')] at e
          exact absurd e.symm (hbφ c hc')
      · rcases hhas c hc with rfl | hc'
        · rw [upd_at, upd_ne (hne a ha')] at e
          exact absurd e (hbφ a ha')
        · rw [upd_ne (hne a ha'), upd_ne (hne c hc')] at e
          exact hR.inj a c ha' hc' e
    injm := by
      intro a c ha hc hda hdc e
      rw [grown_isDir hok] at hda hdc
      rcases hhas a ha with rfl | ha'
      · rcases hhas c hc with rfl | hc'
        · rfl
        · rw [if_neg (hne c hc')] at hdc
          rw [upd_at, upd_ne (hne c hc')] at e
          exact absurd e.symm (hbμ c hc' hdc)
      · rw [if_neg (hne a ha')] at hda
        rcases hhas c hc with rfl | hc'
        · rw [upd_at, upd_ne (hne a ha')] at e
          exact absurd e (hbμ a ha' hda)
        · rw [if_neg (hne c hc')] at hdc
          rw [upd_ne (hne a ha'), upd_ne (hne c hc')] at e
          exact hR.injm a c ha' hc' hda hdc e }

theorem MapAt.uniq {m : Nat} {l1 l2 : List (ByteArray × Nat)} (h1 : MapAt w m l1) (h2 : MapAt w m l2) : l1 = l2 := by
  obtain ⟨o1, ho1, es1, c1, rfl, _, hen1⟩ := h1
  obtain ⟨o2, ho2, es2, c2, rfl, _, hen2⟩ := h2
  rw [ho1] at ho2
  cases ho2
  have : l1.map encE = l2.map encE := by rw [← hen1, hen2]
  refine List.map_inj_right (fun a b e => ?_) |>.1 this
  obtain ⟨a1, a2⟩ := a
  obtain ⟨b1, b2⟩ := b
  simp [encE, ptr] at e
  rw [e.1, e.2]
theorem Rep.entries (hR : Rep w B t φ μ) {i : Nat} {p : List ByteArray} (hp : t.idOf p = some i) (hd : t.isDir i = true) {l : List (ByteArray × Nat)} (hl : MapAt w (μ i) l) (s : ByteArray) : getM l s = (t.find (p ++ [s])).map φ := by
  obtain ⟨_, l1, h1, h2⟩ := hR.dir i p hp hd
  rw [hl.uniq h1]
  exact h2 s
theorem named_links (q : List ByteArray) (k j : Nat) : (t.named q k).links j = t.links j + if j = k then 1 else 0 := by
  unfold Sp.Tree.links Sp.Tree.named
  simp only [List.countP_append, List.countP_cons, List.countP_nil]
  by_cases h : j = k
  · simp [h]
  · simp [h, Ne.symm h]
theorem named_find {q : List ByteArray} (hf : t.find q = none) {p : List ByteArray} {k : Nat} : (t.named q k).find p = if p = q then some k else t.find p := find_more (things := t.things) (a := t.many) hf
theorem named_idOf {l : List ByteArray} {x : ByteArray} {k : Nat} (hf : t.find (l ++ [x]) = none) {p : List ByteArray} : (t.named (l ++ [x]) k).idOf p = if p = l ++ [x] then some k else t.idOf p := by
  unfold Sp.Tree.idOf
  by_cases h0 : p = []
  · subst h0
    rw [if_pos rfl, if_neg (by simp), if_pos rfl]
  · rw [if_neg h0, if_neg h0, named_find hf]

/-- A file's other name. -/
theorem Rep.named (hR : Rep w B t φ μ) (hok : t.Ok) {l : List ByteArray} {x : ByteArray} {i k : Nat} {d : ByteArray} (hl : t.idOf l = some i) (hd : t.isDir i = true) (hx : nameB x = true) (hf : t.find (l ++ [x]) = none) (hk : (k, false, d) ∈ t.things)
    {l0 : List (ByteArray × Nat)} {o' : Obj} (hl0 : MapAt w (μ i) l0)
    (hs : ∀ (b : Nat) (o : Obj), w.heap[b]? = some o → b ≠ μ i → b ≠ φ k → w'.heap[b]? = some o) (hthing : w'.heap[φ k]? = some (thingO d (t.links k + 1) none))
    (hmap : w'.heap[μ i]? = some o') (ho' : IsMap o' (setM l0 x (φ k))) : Rep w' B (t.named (l ++ [x]) k) φ μ := by
  have hi := has_idOf hok hl
  have hkh : t.has k := ⟨_, _, hk⟩
  have hkd := isDir_of hok hk
  exact {
    root := hs _ _ hR.root (hR.root_ne_map hok hi hd) (hR.root_ne_thing hok hkh)
    file := by
      intro j e hj
      have hjh : t.has j := ⟨_, _, hj⟩
      rw [named_links]
      by_cases hjk : j = k
      · subst hjk
        rw [if_pos rfl]
        have := dataOf_of hok hj
        rw [dataOf_of hok hk] at this
        subst this
        exact hthing
      · rw [if_neg hjk]
        exact hs _ _ (hR.file j e hj) (hR.thing_ne_map hok hjh hi hd) (fun e2 => hjk (hR.inj _ _ hjh hkh e2))
    dir := by
      intro j p hp hdj
      rw [named_idOf hf] at hp
      have hjk : j ≠ k := fun e => by
        subst e
        have : t.isDir j = true := hdj
        rw [hkd] at this
        cases this
      split at hp
      · exact absurd (Option.some.inj hp).symm hjk
      · have hjh := has_idOf hok hp
        obtain ⟨h1, lj, h2, h3⟩ := hR.dir j p hp hdj
        rw [named_links, if_neg hjk]
        refine ⟨hs _ _ h1 (hR.thing_ne_map hok hjh hi hd) (fun e2 => hjk (hR.inj _ _ hjh hkh e2)), ?_⟩
        by_cases hji : j = i
        · subst hji
          have hpl : p = l := dir_path hok hp hl hd
          subst hpl
          refine ⟨_, ⟨o', hmap, ho'⟩, fun s => ?_⟩
          rw [getM_set, named_find hf]
          by_cases hsx : s = x
          · subst hsx
            rw [if_pos rfl, if_pos rfl]
            rfl
          · rw [if_neg hsx, if_neg (by intro e2; exact hsx (by simpa using e2))]
            exact hR.entries hl hd hl0 s
        · refine ⟨lj, h2.same (fun o ho => hs _ _ ho (fun e2 => hji (hR.injm _ _ hjh hi hdj hd e2)) (Ne.symm (hR.thing_ne_map hok hkh hjh hdj))), fun s => ?_⟩
          rw [h3 s, named_find hf, if_neg]
          intro e2
          have : p = l := by
            have := congrArg List.dropLast e2
            simpa using this
          subst this
          rw [hl] at hp
          exact hji (Option.some.inj hp).symm
    inj := hR.inj
    injm := hR.injm }

theorem forget_links (hok : t.Ok) {p : List ByteArray} {i : Nat} (hf : t.find p = some i) (j : Nat) : (t.forget p).links j = t.links j - if j = i then 1 else 0 := by
  unfold Sp.Tree.links
  rw [(forget_cases hok hf).1, List.countP_filter]
  have hp := (find_mem hok).1 hf
  have hn := hok.nodup
  by_cases hj : j = i
  · subst hj
    rw [if_pos rfl]
    -- the name p is counted once
    have key : ∀ L : List (List ByteArray × Nat), (L.map (·.1)).Nodup → (p, j) ∈ L → L.countP (fun x => decide (x.2 = j) && decide (x.1 ≠ p)) + 1 = L.countP (fun x => decide (x.2 = j)) := by
      intro L
      induction L with
      | nil => intro _ h; cases h
      | cons y r ih =>
        intro hn hm
        rw [List.map_cons, List.nodup_cons] at hn
        rw [List.countP_cons, List.countP_cons]
        rcases List.mem_cons.1 hm with e | hm
        · subst e
          have : r.countP (fun x => decide (x.2 = j) && decide (x.1 ≠ p)) = r.countP (fun x => decide (x.2 = j)) := by
            apply List.countP_congr
            intro z hz
            have : z.1 ≠ p := fun e => hn.1 (by rw [← e]; exact List.mem_map.2 ⟨z, hz, rfl⟩)
            simp [this]
          rw [this]
          simp
        · have hne : y.1 ≠ p := fun e => hn.1 (by rw [e]; exact List.mem_map.2 ⟨_, hm, rfl⟩)
          have e1 : (decide (y.2 = j) && decide (y.1 ≠ p)) = decide (y.2 = j) := by simp [hne]
          have := ih hn.2 hm
          rw [e1]
          omega
    have := key _ hn hp
    omega
  · rw [if_neg hj, Nat.sub_zero]
    apply List.countP_congr
    intro z hz
    by_cases hzj : z.2 = j
    · have : z.1 ≠ p := fun e => hj (by
        obtain ⟨z1, z2⟩ := z
        simp only at e hzj
        subst e
        subst hzj
        exact mem_uniq hok hz hp)
      simp [hzj, this]
    · simp [hzj]
theorem links_pos (hok : t.Ok) {p : List ByteArray} {i : Nat} (hf : t.find p = some i) : 1 ≤ t.links i := by
  unfold Sp.Tree.links
  exact List.countP_pos_iff.2 ⟨_, (find_mem hok).1 hf, by simp⟩
theorem forget_idOf (hok : t.Ok) {p : List ByteArray} {i : Nat} (hf : t.find p = some i) {q : List ByteArray} {j : Nat} (hq : (t.forget p).idOf q = some j) : t.idOf q = some j ∧ q ≠ p := by
  have hp0 := hok.ne _ _ ((find_mem hok).1 hf)
  unfold Sp.Tree.idOf at hq ⊢
  by_cases h0 : q = []
  · rw [if_pos h0] at hq
    rw [if_pos h0]
    exact ⟨hq, by rw [h0]; exact Ne.symm hp0⟩
  · rw [if_neg h0, find_forget hok hf] at hq
    rw [if_neg h0]
    split at hq
    · cases hq
    · rename_i hne
      exact ⟨hq, hne⟩

/-- A name less. -/
theorem Rep.forget (hR : Rep w B t φ μ) (hok : t.Ok) {l : List ByteArray} {x : ByteArray} {i k : Nat} {d : ByteArray} {m : Option Nat} (hl : t.idOf l = some i) (hd : t.isDir i = true) (hf : t.find (l ++ [x]) = some k) (hbelow : ∀ s j, (l ++ [x] ++ [s], j) ∉ t.names)
    {l0 : List (ByteArray × Nat)} {o' : Obj} (hl0 : MapAt w (μ i) l0)
    (hs : ∀ (b : Nat) (o : Obj), w.heap[b]? = some o → b ≠ μ i → b ≠ φ k → w'.heap[b]? = some o) (hwas : w.heap[φ k]? = some (thingO d (t.links k) m)) (hthing : w'.heap[φ k]? = some (thingO d (t.links k - 1) m))
    (hmap : w'.heap[μ i]? = some o') (ho' : IsMap o' (delM l0 x)) : Rep w' B (t.forget (l ++ [x])) φ μ := by
  have hi := has_idOf hok hl
  have hkh := has_idOf hok (find_idOf hok hf)
  have hhas : ∀ j, (t.forget (l ++ [x])).has j → t.has j := fun j ⟨b, e, hj⟩ => ⟨b, e, ((forget_thing hok hf).1 hj).1⟩
  have hok' := hok.forget hf hbelow
  have hdir : ∀ j, (t.forget (l ++ [x])).has j → (t.forget (l ++ [x])).isDir j = t.isDir j := by
    rintro j ⟨b, e, hj⟩
    rw [isDir_of hok' hj, isDir_of hok ((forget_thing hok hf).1 hj).1]
  exact {
    root := hs _ _ hR.root (hR.root_ne_map hok hi hd) (hR.root_ne_thing hok hkh)
    file := by
      intro j e hj
      have hj1 := ((forget_thing hok hf).1 hj).1
      have hjh : t.has j := ⟨_, _, hj1⟩
      rw [forget_links hok hf]
      by_cases hjk : j = k
      · subst hjk
        rw [if_pos rfl]
        have := hR.file j e hj1
        rw [hwas] at this
        simp only [thingO, Option.some.injEq, Obj.cells.injEq] at this
        have h2 : d = e ∧ m = none := by simpa using this
        rw [← h2.1, ← h2.2]
        exact hthing
      · rw [if_neg hjk, Nat.sub_zero]
        exact hs _ _ (hR.file j e hj1) (hR.thing_ne_map hok hjh hi hd) (fun e2 => hjk (hR.inj _ _ hjh hkh e2))
    dir := by
      intro j p hp hdj
      have hjh' := has_idOf hok' hp
      have hboth := forget_idOf hok hf hp
      clear hp
      obtain ⟨hp, hne⟩ := hboth
      rw [hdir j hjh'] at hdj
      have hjh := has_idOf hok hp
      have hjk : j ≠ k := fun e => by
        subst e
        exact hne (dir_path hok hp (find_idOf hok hf) hdj)
      obtain ⟨h1, lj, h2, h3⟩ := hR.dir j p hp hdj
      rw [forget_links hok hf, if_neg hjk, Nat.sub_zero]
      refine ⟨hs _ _ h1 (hR.thing_ne_map hok hjh hi hd) (fun e2 => hjk (hR.inj _ _ hjh hkh e2)), ?_⟩
      by_cases hji : j = i
      · subst hji
        have hpl : p = l := dir_path hok hp hl hd
        subst hpl
        refine ⟨_, ⟨o', hmap, ho'⟩, fun s => ?_⟩
        rw [getM_del, find_forget hok hf]
        by_cases hsx : s = x
        · subst hsx
          rw [if_pos rfl, if_pos rfl]
          rfl
        · rw [if_neg hsx, if_neg (by intro e2; exact hsx (by simpa using e2))]
          exact hR.entries hl hd hl0 s
      · refine ⟨lj, h2.same (fun o ho => hs _ _ ho (fun e2 => hji (hR.injm _ _ hjh hi hdj hd e2)) (Ne.symm (hR.thing_ne_map hok hkh hjh hdj))), fun s => ?_⟩
        rw [h3 s, find_forget hok hf, if_neg]
        intro e2
        have : p = l := by
          have := congrArg List.dropLast e2
          simpa using this
        subst this
        rw [hl] at hp
        exact hji (Option.some.inj hp).symm
    inj := fun a b ha hb => hR.inj a b (hhas a ha) (hhas b hb)
    injm := fun a b ha hb hda hdb => hR.injm a b (hhas a ha) (hhas b hb) (by rw [← hdir a ha]; exact hda) (by rw [← hdir b hb]; exact hdb) }
end
end Go.Proofs.YtcgpmnlondnbhaaDoor
