/-
  What the reference does with joined paths and places in lists is what is done with lists of names. No program in this text.
-/
import Derived.Test.YtcgpmnlondnbhaaGreatDoorPlainA
namespace Go.Proofs.YtcgpmnlondnbhaaGreatDoor.Sp
open Go Txt

theorem cutL_cons_eq (r : List UInt8) : cutL (47 :: r) = [] :: cutL r := by
  conv => lhs; unfold cutL
  rw [if_pos rfl]
theorem cutL_cons_ne {c : UInt8} {r x : List UInt8} {xs : List (List UInt8)} (hc : c ≠ 47) (h : cutL r = x :: xs) : cutL (c :: r) = (c :: x) :: xs := by
  conv => lhs; unfold cutL
  rw [if_neg hc, h]
theorem cutL_append : ∀ (a b : List UInt8), cutL (a ++ 47 :: b) = cutL a ++ cutL b
  | [], b => by rw [List.nil_append, cutL_cons_eq]; rfl
  | c :: r, b => by
    have ih := cutL_append r b
    rw [List.cons_append]
    by_cases hc : c = 47
    · subst hc
      rw [cutL_cons_eq, cutL_cons_eq, ih]; rfl
    · cases hr : cutL r with
      | nil => exact absurd hr (cutL_ne r)
      | cons x xs =>
        rw [hr] at ih
        rw [cutL_cons_ne hc hr, cutL_cons_ne hc ih]; rfl

def Good (p : List ByteArray) : Prop := ∀ s ∈ p, nameB s = true
theorem cut_joinL : ∀ {p : List ByteArray}, Good p → cutL (joinL p) = [] :: p.map (·.data.toList)
  | [], _ => rfl
  | s :: r, h => by
    unfold joinL
    rw [cutL_cons_eq, cutB_join s r h]
theorem map_data_inj {a b : List ByteArray} (h : a.map (·.data.toList) = b.map (·.data.toList)) : a = b := by
  rw [← ofL_map a, h, ofL_map]
theorem joinL_inj {a b : List ByteArray} (ha : Good a) (hb : Good b) (h : joinL a = joinL b) : a = b := by
  have h1 := cut_joinL ha
  rw [h, cut_joinL hb] at h1
  exact map_data_inj (List.cons.inj h1).2.symm
theorem path_inj {a b : List ByteArray} (ha : Good a) (hb : Good b) (h : ofL (joinL a) = ofL (joinL b)) : a = b := joinL_inj ha hb (ofL_inj h)
theorem joinL_app : ∀ (a b : List ByteArray), joinL (a ++ b) = joinL a ++ joinL b
  | [], b => rfl
  | s :: r, b => by
    show 47 :: (s.data.toList ++ joinL (r ++ b)) = 47 :: (s.data.toList ++ joinL r) ++ joinL b
    rw [joinL_app r b]
    simp
theorem joinL_ne {p : List ByteArray} (h : p ≠ []) : joinL p ≠ [] := by
  cases p with
  | nil => exact absurd rfl h
  | cons s r => unfold joinL; simp

/-- A path's text: that of the path's names. -/
theorem path_text {path : ByteArray} {l : List ByteArray} (h : splitN path = (l, 0)) (hl : l ≠ []) : path = ofL (joinL l) := by
  have := (join_split h).2
  unfold joinB at this
  rw [if_neg hl] at this
  exact this.symm
theorem path_root {path : ByteArray} (h : splitN path = ([], 0)) : path = ofL [47] := by
  have := (join_split h).2
  unfold joinB at this
  rw [if_pos rfl] at this
  exact this.symm
theorem path_not_root {l : List ByteArray} (h : Good l) (hl : l ≠ []) : ofL (joinL l) ≠ ofL [47] := fun e => by
  have e1 := ofL_inj e
  cases l with
  | nil => exact hl rfl
  | cons s r =>
    have hs := (nameB_size (h s (by simp))).1
    rw [Lib.size_eq] at hs
    unfold joinL at e1
    have := (List.cons.inj e1).2
    rw [(List.append_eq_nil_iff.1 this).1] at hs
    simp at hs

/-- The name right below p, if x is that. -/
def kidOf (p x : List ByteArray) : Option ByteArray := if x.dropLast = p then x.getLast? else none
theorem kid_snoc {p x : List ByteArray} {y : ByteArray} (h : kidOf p x = some y) : x = p ++ [y] := by
  unfold kidOf at h
  split at h
  · rename_i hd
    rcases List.eq_nil_or_concat x with e | ⟨a, b, e⟩
    · subst e; cases h
    · subst e
      simp at h hd
      subst h hd
      simp
  · cases h
theorem kid_of_snoc (p : List ByteArray) (y : ByteArray) : kidOf p (p ++ [y]) = some y := by
  unfold kidOf
  rw [List.dropLast_concat, if_pos rfl, List.getLast?_concat]
theorem kid_none_of {p x : List ByteArray} (h : ∀ y, x ≠ p ++ [y]) : kidOf p x = none := by
  cases hk : kidOf p x with
  | none => rfl
  | some y => exact absurd (kid_snoc hk) (h y)
theorem take_over {α : Type} (l : List α) (x : α) (r : List α) : (l ++ x :: r).take (l.length + 1) = l ++ [x] := by
  rw [show l ++ x :: r = (l ++ [x]) ++ r by simp, List.take_left']
  simp
inductive KidCase (p x : List ByteArray) : Prop where
  | short (h1 : (joinL x).length ≤ (joinL p).length + 1) (h2 : kidOf p x = none)
  | other (h1 : (joinL p).length + 1 < (joinL x).length) (h2 : (joinL x).take ((joinL p).length + 1) ≠ joinL p ++ [47]) (h3 : kidOf p x = none)
  | deep (rest : List UInt8) (h1 : (joinL p).length + 1 < (joinL x).length) (h2 : joinL x = joinL p ++ 47 :: rest) (h3 : rest.contains 47 = true) (h4 : kidOf p x = none)
  | kid (rest : List UInt8) (h1 : (joinL p).length + 1 < (joinL x).length) (h2 : joinL x = joinL p ++ 47 :: rest) (h3 : rest.contains 47 = false) (h4 : kidOf p x = some (ofL rest))
theorem kidCase {p x : List ByteArray} (hp : Good p) (hx : Good x) : KidCase p x := by
  have hsnoc : ∀ y, x = p ++ [y] → (joinL p).length + 1 < (joinL x).length ∧ joinL x = joinL p ++ 47 :: y.data.toList ∧ y.data.toList.contains 47 = false := fun y e => by
    have hy := hx y (by rw [e]; simp)
    have h1 := (nameB_size hy).1
    rw [Lib.size_eq] at h1
    subst e
    rw [joinL_snoc]
    refine ⟨by rw [List.length_append, List.length_cons]; omega, rfl, ?_⟩
    rw [List.contains_eq_mem, decide_eq_false_iff_not]
    exact fun hm => nameB_free hy 47 hm rfl
  by_cases h1 : (joinL x).length ≤ (joinL p).length + 1
  · exact .short h1 (kid_none_of fun y e => by have := (hsnoc y e).1; omega)
  by_cases h2 : (joinL x).take ((joinL p).length + 1) = joinL p ++ [47]
  rotate_left
  · refine .other (by omega) h2 (kid_none_of fun y e => h2 ?_)
    rw [(hsnoc y e).2.1]
    exact take_over _ _ _
  have h3 : joinL x = joinL p ++ 47 :: (joinL x).drop ((joinL p).length + 1) := by
    conv => lhs; rw [← List.take_append_drop ((joinL p).length + 1) (joinL x), h2]
    simp
  cases h4 : ((joinL x).drop ((joinL p).length + 1)).contains 47 with
  | true =>
    refine .deep _ (by omega) h3 h4 (kid_none_of fun y e => ?_)
    have h5 := (hsnoc y e).2
    rw [h3] at h5
    have h6 := (List.cons.inj (List.append_cancel_left h5.1)).2
    rw [h6, h5.2] at h4
    cases h4
  | false =>
    refine .kid _ (by omega) h3 h4 ?_
    have h5 := cut_joinL hx
    rw [h3, cutL_append, cut_joinL hp, cutL_free (fun b hb e => by subst e; rw [List.contains_eq_mem, decide_eq_false_iff_not] at h4; exact h4 hb)] at h5
    have h6 := (List.cons.inj h5).2
    have h7 : x = p ++ [ofL ((joinL x).drop ((joinL p).length + 1))] := by
      apply map_data_inj
      rw [← h6, List.map_append]
      simp [ofL_data]
    conv => lhs; rw [h7]
    exact kid_of_snoc _ _

/-- A path that lies strictly below p, by its text. -/
theorem below_iff {p x : List ByteArray} (hp : Good p) (hx : Good x) : ((joinL p).length < (joinL x).length ∧ (joinL x).take ((joinL p).length + 1) = joinL p ++ [47]) ↔ p <+: x ∧ x ≠ p := by
  constructor
  · rintro ⟨h1, h2⟩
    have h3 : joinL x = joinL p ++ 47 :: (joinL x).drop ((joinL p).length + 1) := by
      conv => lhs; rw [← List.take_append_drop ((joinL p).length + 1) (joinL x), h2]
      simp
    have h5 := cut_joinL hx
    rw [h3, cutL_append, cut_joinL hp] at h5
    have h6 := (List.cons.inj h5).2
    have h7 : x = p ++ (cutL ((joinL x).drop ((joinL p).length + 1))).map ofL := by
      apply map_data_inj
      rw [← h6, List.map_append, List.map_map]
      congr 1
      rw [show ((fun x : ByteArray => x.data.toList) ∘ ofL) = id from funext fun y => ofL_data y, List.map_id]
    refine ⟨⟨_, h7.symm⟩, fun e => ?_⟩
    have h8 := congrArg List.length h7
    rw [e] at h8
    rw [List.length_append, List.length_map] at h8
    have h9 := cutL_ne ((joinL p).drop ((joinL p).length + 1))
    have : (cutL ((joinL p).drop ((joinL p).length + 1))).length = 0 := by omega
    exact h9 (List.length_eq_zero_iff.1 this)
  · rintro ⟨⟨r, rfl⟩, hne⟩
    cases r with
    | nil => exact absurd (List.append_nil p) hne
    | cons y r =>
      have e1 : joinL (y :: r) = 47 :: (y.data.toList ++ joinL r) := rfl
      rw [joinL_app, e1]
      refine ⟨by rw [List.length_append, List.length_cons]; omega, ?_⟩
      exact take_over _ _ _
theorem moved_text {p q x : List ByteArray} (h : p <+: x) : joinL q ++ (joinL x).drop (joinL p).length = joinL (q ++ x.drop p.length) := by
  obtain ⟨r, rfl⟩ := h
  rw [joinL_app p r, List.drop_left, List.drop_left, joinL_app]

section
variable {t : Tree}
theorem take_more {α : Type} (l : List α) (k : Nat) (x : α) (h : l[k]? = some x) : l.take (k + 1) = l.take k ++ [x] := by
  obtain ⟨hk, rfl⟩ := List.getElem?_eq_some_iff.1 h
  exact List.take_succ_eq_append_getElem hk
theorem key_ix {α β : Type} {l : List (α × β)} (hn : (l.map (·.1)).Nodup) {x : α × β} (hx : x ∈ l) : ∃ k, k < l.length ∧ l[k]? = some x ∧ ∀ j y, j < k → l[j]? = some y → y.1 ≠ x.1 := by
  obtain ⟨k, hk⟩ := List.getElem?_of_mem hx
  refine ⟨k, (List.getElem?_eq_some_iff.1 hk).1, hk, fun j y hj hy e => ?_⟩
  have h1 : (l.map (·.1))[j]? = some x.1 := by rw [List.getElem?_map, hy, ← e]; rfl
  have h2 : (l.map (·.1))[k]? = some x.1 := by rw [List.getElem?_map, hk]; rfl
  obtain ⟨a1, b1⟩ := List.getElem?_eq_some_iff.1 h1
  obtain ⟨a2, b2⟩ := List.getElem?_eq_some_iff.1 h2
  exact List.pairwise_iff_getElem.1 hn j k a1 a2 hj (b1.trans b2.symm)
theorem key_erase {α β : Type} [DecidableEq α] {l : List (α × β)} (hn : (l.map (·.1)).Nodup) {k : Nat} {x : α × β} (hx : l[k]? = some x) : l.filter (fun y => decide (y.1 ≠ x.1)) = l.take k ++ l.drop (k + 1) := by
  induction l generalizing k with
  | nil => simp at hx
  | cons y r ih =>
    rw [List.map_cons, List.nodup_cons] at hn
    cases k with
    | zero =>
      simp at hx
      subst hx
      rw [List.filter_cons_of_neg (by simp)]
      simp only [List.take_zero, List.nil_append, Nat.zero_add, List.drop_succ_cons, List.drop_zero]
      rw [List.filter_eq_self]
      intro z hz
      exact decide_eq_true fun e => hn.1 (by rw [← e]; exact List.mem_map.2 ⟨z, hz, rfl⟩)
    | succ k =>
      have hxr : r[k]? = some x := by simpa using hx
      have hne : y.1 ≠ x.1 := fun e => hn.1 (by rw [e]; exact List.mem_map.2 ⟨x, List.mem_of_getElem? hxr, rfl⟩)
      rw [List.filter_cons_of_pos (by simp [hne]), ih hn.2 hxr]
      simp
theorem key_set {l : List (Nat × Bool × ByteArray)} (hn : (l.map (·.1)).Nodup) {k : Nat} {i : Nat} {b : Bool} {d : ByteArray} (hx : l[k]? = some (i, b, d)) (d' : ByteArray) : l.map (fun x => if x.1 = i then (x.1, x.2.1, d') else x) = l.set k (i, b, d') := by
  induction l generalizing k with
  | nil => simp at hx
  | cons y r ih =>
    rw [List.map_cons, List.nodup_cons] at hn
    cases k with
    | zero =>
      simp at hx
      subst hx
      rw [List.map_cons, if_pos rfl, List.set_cons_zero]
      congr 1
      refine (List.map_congr_left (fun z hz => ?_)).trans (List.map_id r)
      rw [if_neg]
      · rfl
      · intro e
        exact hn.1 (by rw [← e]; exact List.mem_map.2 ⟨z, hz, rfl⟩)
    | succ k =>
      have hxr : r[k]? = some (i, b, d) := by simpa using hx
      have hne : y.1 ≠ i := fun e => hn.1 (by rw [e]; exact List.mem_map.2 ⟨_, List.mem_of_getElem? hxr, rfl⟩)
      rw [List.map_cons, if_neg hne, ih hn.2 hxr, List.set_cons_succ]

/-- The place of a thing. -/
theorem thing_ix (h : t.Ok) {i : Nat} (hm : (i, t.isDir i, t.dataOf i) ∈ t.things) : ∃ k, k < t.things.length ∧ t.things[k]? = some (i, t.isDir i, t.dataOf i) ∧ ∀ j y, j < k → t.things[j]? = some y → y.1 ≠ i := key_ix h.ids hm
/-- The place of a name. -/
theorem name_ix (h : t.Ok) {p : List ByteArray} {i : Nat} (hm : (p, i) ∈ t.names) : ∃ k, k < t.names.length ∧ t.names[k]? = some (p, i) ∧ ∀ j y, j < k → t.names[j]? = some y → ofL (joinL y.1) ≠ ofL (joinL p) := by
  obtain ⟨k, h1, h2, h3⟩ := key_ix h.nodup hm
  exact ⟨k, h1, h2, fun j y hj hy e => h3 j y hj hy (path_inj (h.good _ _ (List.mem_of_getElem? hy)) (h.good _ _ hm) e)⟩
theorem name_not (h : t.Ok) {p : List ByteArray} (hp : Good p) (hn : t.find p = none) : ∀ y ∈ t.names, ofL (joinL y.1) ≠ ofL (joinL p) := fun y hy e => by
  have := path_inj (h.good y.1 y.2 hy) hp e
  subst this
  exact find_none.1 hn y.2 hy

/-- No name lies deeper than there are names. -/
theorem depth_le (h : t.Ok) (p : List ByteArray) : ∀ i, (p, i) ∈ t.names → (belowL t p).length + p.length ≤ t.names.length := by
  induction p using snocInd with
  | nil => intro i hm; exact absurd rfl (h.ne _ _ hm)
  | append_singleton p s ih =>
    intro i hm
    have h1 := belowL_child h (p := p) (s := s) ((find_mem h).2 hm)
    rw [List.length_append, List.length_singleton]
    by_cases hp : p = []
    · subst hp
      rw [belowL_root h] at h1
      simp at h1 ⊢
      omega
    · obtain ⟨k, hk, _⟩ := below_there h hp [s] hm
      have := ih k hk
      omega
theorem path_size (h : t.Ok) {p : List ByteArray} {i : Nat} (hm : (p, i) ∈ t.names) : (ofL (joinL p)).size ≤ 14 * t.names.length := by
  have h1 := depth_le h p i hm
  have h2 := joinL_size p (h.good _ _ hm)
  rw [Lib.size_eq, ofL_data]
  omega

def ltT (a b : ByteArray) : Bool := decide (a.data.toList < b.data.toList)
/-- A text among others that rise. -/
def insL (l : List ByteArray) (s : ByteArray) : List ByteArray := l.takeWhile (fun x => ltT x s) ++ s :: l.dropWhile (fun x => ltT x s)
theorem insL_perm (l : List ByteArray) (s : ByteArray) : (insL l s).Perm (s :: l) := by
  unfold insL
  refine List.perm_middle.trans ?_
  rw [List.takeWhile_append_dropWhile]
theorem leT_total (a b : ByteArray) : (leT a b || leT b a) = true := by
  unfold leT
  rw [Bool.or_eq_true, decide_eq_true_iff, decide_eq_true_iff]
  exact List.le_total _ _
theorem leT_trans (a b c : ByteArray) (h1 : leT a b = true) (h2 : leT b c = true) : leT a c = true := by
  unfold leT at *
  rw [decide_eq_true_iff] at *
  exact List.le_trans h1 h2
theorem not_ltT {a b : ByteArray} (h : ltT a b = false) : leT b a = true := by
  unfold ltT at h
  unfold leT
  rw [decide_eq_false_iff_not] at h
  rw [decide_eq_true_iff]
  exact h
theorem ltT_le {a b : ByteArray} (h : ltT a b = true) : leT a b = true := by
  unfold ltT at h
  unfold leT
  rw [decide_eq_true_iff] at *
  exact List.le_of_lt h
theorem insL_sorted {l : List ByteArray} (h : l.Pairwise (fun a b => leT a b = true)) (s : ByteArray) : (insL l s).Pairwise (fun a b => leT a b = true) := by
  induction l with
  | nil => simp [insL]
  | cons x r ih =>
    rw [List.pairwise_cons] at h
    unfold insL
    cases hx : ltT x s with
    | true =>
      rw [List.takeWhile_cons_of_pos (p := fun x => ltT x s) hx, List.dropWhile_cons_of_pos (p := fun x => ltT x s) hx, List.cons_append, List.pairwise_cons]
      refine ⟨fun y hy => ?_, ih h.2⟩
      have := (insL_perm r s).mem_iff.1 hy
      rcases List.mem_cons.1 this with rfl | hy
      · exact ltT_le hx
      · exact h.1 y hy
    | false =>
      rw [List.takeWhile_cons_of_neg (p := fun x => ltT x s) (by simp [hx]), List.dropWhile_cons_of_neg (p := fun x => ltT x s) (by simp [hx]), List.nil_append, List.pairwise_cons]
      refine ⟨fun y hy => ?_, List.pairwise_cons.2 h⟩
      rcases List.mem_cons.1 hy with rfl | hy
      · exact not_ltT hx
      · exact leT_trans _ _ _ (not_ltT hx) (h.1 y hy)
theorem insL_length (l : List ByteArray) (s : ByteArray) : (insL l s).length = l.length + 1 := (insL_perm l s).length_eq
theorem foldl_ins : ∀ (L acc : List ByteArray), acc.Pairwise (fun a b => leT a b = true) → (L.foldl insL acc).Perm (acc ++ L) ∧ (L.foldl insL acc).Pairwise (fun a b => leT a b = true)
  | [], acc, h => by simpa using h
  | s :: r, acc, h => by
    rw [List.foldl_cons]
    obtain ⟨h1, h2⟩ := foldl_ins r (insL acc s) (insL_sorted h s)
    refine ⟨h1.trans ?_, h2⟩
    refine ((insL_perm acc s).append_right r).trans ?_
    rw [List.cons_append]
    exact List.perm_middle.symm
theorem leT_antisymm {a b : ByteArray} (h1 : leT a b = true) (h2 : leT b a = true) : a = b := by
  unfold leT at *
  rw [decide_eq_true_iff] at *
  exact Txt.ext (List.le_antisymm h1 h2)
theorem sorted_uniq : ∀ {a b : List ByteArray}, a.Perm b → a.Pairwise (fun a b => leT a b = true) → b.Pairwise (fun a b => leT a b = true) → a = b
  | [], b, h, _, _ => (List.Perm.nil_eq h)
  | x :: r, [], h, _, _ => absurd h.length_eq (by simp)
  | x :: r, y :: q, h, ha, hb => by
    rw [List.pairwise_cons] at ha hb
    have e : x = y := by
      rcases List.mem_cons.1 (h.mem_iff.1 (List.mem_cons_self (a := x))) with e | e
      · exact e
      · rcases List.mem_cons.1 (h.mem_iff.2 (List.mem_cons_self (a := y))) with f | f
        · exact f.symm
        · exact leT_antisymm (ha.1 _ f) (hb.1 _ e)
    subst e
    rw [sorted_uniq ((List.perm_cons _).1 h) ha.2 hb.2]
/-- Put one after the other, texts rise. -/
theorem foldl_sorted (L acc : List ByteArray) (h : acc.Pairwise (fun a b => leT a b = true)) : L.foldl insL acc = (acc ++ L).mergeSort leT := by
  obtain ⟨h1, h2⟩ := foldl_ins L acc h
  exact sorted_uniq (h1.trans (List.mergeSort_perm _ _).symm) h2 (List.pairwise_mergeSort leT_trans leT_total _)

/-- The first k names' kids of p, put one after the other. -/
def kidsTo (t : Tree) (p : List ByteArray) (k : Nat) : List ByteArray := ((t.names.take k).filterMap (fun x => kidOf p x.1)).foldl insL []
theorem kidsTo_zero (p : List ByteArray) : kidsTo t p 0 = [] := rfl
theorem kidsTo_none {p : List ByteArray} {k : Nat} {x : List ByteArray × Nat} (hx : t.names[k]? = some x) (h : kidOf p x.1 = none) : kidsTo t p (k + 1) = kidsTo t p k := by
  unfold kidsTo
  rw [take_more _ _ _ hx, List.filterMap_append]
  simp [h]
theorem kidsTo_some {p : List ByteArray} {k : Nat} {x : List ByteArray × Nat} (hx : t.names[k]? = some x) {y : ByteArray} (h : kidOf p x.1 = some y) : kidsTo t p (k + 1) = insL (kidsTo t p k) y := by
  unfold kidsTo
  rw [take_more _ _ _ hx, List.filterMap_append, List.foldl_append]
  simp [h]
theorem kidsTo_all (p : List ByteArray) {k : Nat} (hk : t.names.length ≤ k) : kidsTo t p k = t.kids p := by
  unfold kidsTo
  rw [List.take_of_length_le hk, foldl_sorted _ _ List.Pairwise.nil, List.nil_append]
  rfl
theorem kidsTo_length (p : List ByteArray) (k : Nat) : (kidsTo t p k).length ≤ t.names.length := by
  unfold kidsTo
  rw [foldl_sorted _ _ List.Pairwise.nil, List.length_mergeSort, List.nil_append]
  refine Nat.le_trans (List.length_filterMap_le _ _) ?_
  rw [List.length_take]
  omega
theorem kids_length (p : List ByteArray) : (t.kids p).length = (t.kidsL p).length := by
  unfold Tree.kids
  rw [List.length_mergeSort]

/-- The first k names, shown, put one after the other. -/
def pathsTo (t : Tree) (k : Nat) : List ByteArray := ((t.names.take k).map (shown t)).foldl insL [ofL [47]]
theorem pathsTo_step {k : Nat} {x : List ByteArray × Nat} (hx : t.names[k]? = some x) : pathsTo t (k + 1) = insL (pathsTo t k) (shown t x) := by
  unfold pathsTo
  rw [take_more _ _ _ hx, List.map_append, List.foldl_append]
  rfl
theorem pathsTo_all {k : Nat} (hk : t.names.length ≤ k) : pathsTo t k = t.paths := by
  unfold pathsTo
  rw [List.take_of_length_le hk, foldl_sorted _ _ (by simp)]
  rfl
theorem pathsTo_length (k : Nat) : (pathsTo t k).length ≤ t.names.length + 1 := by
  unfold pathsTo
  rw [foldl_sorted _ _ (by simp), List.length_mergeSort, List.length_append, List.length_map, List.length_take, List.length_singleton]
  omega
end
end Go.Proofs.YtcgpmnlondnbhaaGreatDoor.Sp
