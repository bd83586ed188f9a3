/-
  PlainA: Txt.
-/
import Derived.Lib.SplitLaws
namespace Go.Proofs.YtgofmnhfajmbfaaGreatDoor.Txt
open Go

/-- May a text be a name? -/
def nameL (l : List UInt8) : Bool := decide (1 ≤ l.length) && decide (l.length ≤ 13) && !(l == [46]) && !(l == [46, 46]) && !l.contains 47 && !l.contains 0
def nameB (s : ByteArray) : Bool := nameL s.data.toList
/-- What is wrong with names. -/
def mayC (l : List ByteArray) : Int := if l.all nameB then (if 8 < l.length then 91 else 0) else 90
/-- A text cut at strokes. -/
def cutL : List UInt8 → List (List UInt8)
  | [] => [[]]
  | c :: r => if c = 47 then [] :: cutL r else match cutL r with
    | [] => [[c]]
    | x :: xs => (c :: x) :: xs
def ofL (l : List UInt8) : ByteArray := ⟨l.toArray⟩
def cutB (s : ByteArray) : List ByteArray := (cutL s.data.toList).map ofL

theorem ofL_data (l : List UInt8) : (ofL l).data.toList = l := by simp [ofL]
theorem data_ofL (s : ByteArray) : ofL s.data.toList = s := by cases s; simp [ofL]
theorem ofL_inj {a b : List UInt8} (h : ofL a = ofL b) : a = b := by rw [← ofL_data a, h, ofL_data]
theorem ext {a b : ByteArray} (h : a.data.toList = b.data.toList) : a = b := by rw [← data_ofL a, h, data_ofL]

theorem cutL_ne (l : List UInt8) : cutL l ≠ [] := by
  cases l with
  | nil => simp [cutL]
  | cons c r =>
    unfold cutL
    split
    · simp
    · split <;> simp

theorem cutL_free {a : List UInt8} (h : ∀ b ∈ a, b ≠ 47) : cutL a = [a] := by
  induction a with
  | nil => rfl
  | cons c r ih =>
    have hc : c ≠ 47 := h c (by simp)
    have hr := ih (fun b hb => h b (by simp [hb]))
    unfold cutL
    rw [if_neg hc, hr]

theorem cutL_hit {a : List UInt8} (h : ∀ b ∈ a, b ≠ 47) (r : List UInt8) : cutL (a ++ 47 :: r) = a :: cutL r := by
  induction a with
  | nil => simp [cutL]
  | cons c t ih =>
    have hc : c ≠ 47 := h c (by simp)
    have hr := ih (fun b hb => h b (by simp [hb]))
    rw [List.cons_append]
    conv => lhs; unfold cutL
    rw [if_neg hc, hr]

theorem splitK_slash : ∀ s : List UInt8, Lib.splitK [47] 0 (Lib.count s [47]) s = cutL s
  | [] => by rw [Lib.count_miss (by simp [Lib.index])]; rfl
  | c :: r => by
    have ih := splitK_slash r
    by_cases hc : c = 47
    · subst hc
      rw [Lib.count_cons_eq, Nat.add_comm]
      have hi : Lib.index (47 :: r) [47] = 0 := by rw [Lib.index]; simp [List.isPrefixOf]
      unfold Lib.splitK cutL
      rw [hi]
      simp [ih]
    · rw [Lib.count_cons_ne c 47 r hc]
      have hp : ([47] : List UInt8).isPrefixOf (c :: r) = false := by simp [List.isPrefixOf, Ne.symm hc]
      have hix : Lib.index (c :: r) [47] = if Lib.index r [47] == -1 then -1 else Lib.index r [47] + 1 := by rw [Lib.index, hp]; simp
      unfold cutL
      rw [if_neg hc]
      cases hk : Lib.count r [47] with
      | zero =>
        rw [hk] at ih
        rw [← ih]
        rfl
      | succ k =>
        rw [hk] at ih
        have hge := Lib.index_ge r [47]
        have hm : Lib.index r [47] ≠ -1 := fun e => by rw [Lib.count_miss e] at hk; cases hk
        obtain ⟨i, hi⟩ : ∃ i : Nat, Lib.index r [47] = i := ⟨(Lib.index r [47]).toNat, by omega⟩
        have hb : (Lib.index r [47] == -1) = false := beq_eq_false_iff_ne.2 hm
        have hb2 : (((i : Int) + 1) == -1) = false := beq_eq_false_iff_ne.2 (by omega)
        have e1 : Lib.splitK [47] 0 (k + 1) r = r.take i :: Lib.splitK [47] 0 k (r.drop (i + 1)) := by
          rw [Lib.splitK, hb, hi]; simp
        rw [e1] at ih
        rw [Lib.splitK, hix, hb, hi]
        have e2 : ((i : Int) + 1).toNat = i + 1 := by omega
        simp only [Bool.false_eq_true, if_false, hb2, e2, List.length_cons, List.length_nil, Nat.add_zero, Nat.zero_add]
        rw [List.take_succ_cons, List.drop_succ_cons, ← ih]

/-- strings.Split at a stroke. -/
theorem splitB_slash (s : ByteArray) : Lib.splitB ⟨#[47]⟩ 0 (Lib.countB s ⟨#[47]⟩) s = cutB s := by
  have h := Lib.splitB_data ⟨#[47]⟩ 0 (Lib.countB s ⟨#[47]⟩) s
  have h2 : (Lib.splitB ⟨#[47]⟩ 0 (Lib.countB s ⟨#[47]⟩) s).map (·.data.toList) = cutL s.data.toList := by
    rw [h]; exact splitK_slash _
  unfold cutB
  rw [← h2, List.map_map]
  have : (ofL ∘ fun x : ByteArray => x.data.toList) = id := by funext x; exact data_ofL x
  rw [this, List.map_id]

theorem count_slash (s : ByteArray) : Lib.countB s ⟨#[47]⟩ + 1 = (cutB s).length := by
  rw [← splitB_slash, Lib.splitB_all _ (by decide) 0 _ s rfl]

theorem cutB_length_le (s : ByteArray) : (cutB s).length ≤ s.size + 1 := by
  rw [← count_slash]
  have := Lib.countB_le ⟨#[47]⟩ (by decide) s.size s (Nat.le_refl _)
  omega

theorem cutB_ne (s : ByteArray) : cutB s ≠ [] := by
  unfold cutB
  intro h
  exact cutL_ne _ (List.map_eq_nil_iff.1 h)

/-- names.Split: the names, and the code. -/
def splitN (p : ByteArray) : List ByteArray × Int :=
  match p.data.toList with
  | [] => ([], 90)
  | c :: r => if c = 47 then (if r = [] then ([], 0) else if mayC (cutB (ofL r)) = 0 then (cutB (ofL r), 0) else ([], mayC (cutB (ofL r)))) else ([], 90)

theorem mayC_cases (l : List ByteArray) : mayC l = 0 ∨ mayC l = 90 ∨ mayC l = 91 := by
  unfold mayC
  split
  · split <;> simp
  · simp

/-- Either names, or none and a code. -/
theorem splitN_cases (p : ByteArray) : (∃ l, splitN p = (l, 0)) ∨ splitN p = ([], 90) ∨ splitN p = ([], 91) := by
  unfold splitN
  split
  · simp
  · split
    · split
      · exact Or.inl ⟨_, rfl⟩
      · split
        · exact Or.inl ⟨_, rfl⟩
        · rename_i h
          rcases mayC_cases (cutB (ofL _)) with h1 | h1 | h1
          · exact absurd h1 h
          · rw [h1]; simp
          · rw [h1]; simp
    · simp

theorem mayC_zero {l : List ByteArray} : mayC l = 0 ↔ (∀ s ∈ l, nameB s = true) ∧ l.length ≤ 8 := by
  unfold mayC
  constructor
  · intro h
    split at h
    · rename_i ha
      split at h
      · cases h
      · exact ⟨fun s hs => List.all_eq_true.1 ha s hs, by omega⟩
    · cases h
  · intro ⟨h1, h2⟩
    rw [if_pos (List.all_eq_true.2 h1), if_neg (by omega)]

theorem nameB_size {s : ByteArray} (h : nameB s = true) : 1 ≤ s.size ∧ s.size ≤ 13 := by
  unfold nameB nameL at h
  simp only [Bool.and_eq_true, decide_eq_true_eq] at h
  rw [Lib.size_eq]
  omega
theorem nameB_free {s : ByteArray} (h : nameB s = true) : ∀ b ∈ s.data.toList, b ≠ 47 := by
  unfold nameB nameL at h
  simp only [Bool.and_eq_true, Bool.not_eq_true', List.contains_eq_mem, decide_eq_false_iff_not] at h
  intro b hb e
  subst e
  exact h.1.2 hb

/-- The path of names. -/
def joinL : List ByteArray → List UInt8
  | [] => []
  | s :: r => 47 :: (s.data.toList ++ joinL r)
def joinB (l : List ByteArray) : ByteArray := if l = [] then ofL [47] else ofL (joinL l)
def joinN (l : List ByteArray) : ByteArray × Int := if mayC l = 0 then (joinB l, 0) else (ofL [], mayC l)

theorem cutB_join : ∀ (s : ByteArray) (r : List ByteArray), (∀ x ∈ s :: r, nameB x = true) → cutL (s.data.toList ++ joinL r) = (s :: r).map (·.data.toList)
  | s, [], h => by
    rw [joinL, List.append_nil, cutL_free (nameB_free (h s (by simp)))]
    rfl
  | s, t :: r, h => by
    rw [joinL, cutL_hit (nameB_free (h s (by simp))), cutB_join t r (fun x hx => h x (List.mem_cons_of_mem _ hx))]
    rfl

theorem ofL_map (l : List ByteArray) : (l.map (·.data.toList)).map ofL = l := by
  rw [List.map_map]
  have : (ofL ∘ fun x : ByteArray => x.data.toList) = id := by funext x; exact data_ofL x
  rw [this, List.map_id]

/-- What is joined is split. -/
theorem split_join {l : List ByteArray} (h : mayC l = 0) : splitN (joinB l) = (l, 0) := by
  have h1 := (mayC_zero.1 h).1
  cases l with
  | nil => rfl
  | cons s r =>
    have hs := nameB_size (h1 s (by simp))
    have hne : s.data.toList ++ joinL r ≠ [] := by
      intro e
      have := (List.append_eq_nil_iff.1 e).1
      rw [Lib.size_eq, this] at hs
      simp at hs
    have hc : cutB (ofL (s.data.toList ++ joinL r)) = s :: r := by
      unfold cutB
      rw [ofL_data, cutB_join s r h1, ofL_map]
    unfold joinB
    rw [if_neg (by simp)]
    unfold splitN
    rw [ofL_data, joinL]
    simp only [if_true]
    rw [if_neg hne, hc, if_pos h]

theorem join_cut : ∀ (l : List UInt8), joinL ((cutL l).map ofL) = 47 :: l
  | [] => by simp [cutL, joinL, ofL]
  | c :: r => by
    have ih := join_cut r
    unfold cutL
    split
    · rename_i h; subst h
      rw [List.map_cons, joinL, ofL_data, ih]; rfl
    · have hne := cutL_ne r
      cases hr : cutL r with
      | nil => exact absurd hr hne
      | cons x xs =>
        rw [hr, List.map_cons, joinL, ofL_data] at ih
        simp only [List.map_cons, joinL, ofL_data, List.cons_append]
        have := (List.cons.inj ih).2
        rw [this]

/-- What is split is joined. -/
theorem join_split {p : ByteArray} {l : List ByteArray} (h : splitN p = (l, 0)) : mayC l = 0 ∧ joinB l = p := by
  unfold splitN at h
  split at h
  · cases h
  · rename_i c r hp
    split at h
    · rename_i hc; subst hc
      split at h
      · rename_i hr; subst hr
        cases h
        refine ⟨rfl, ext ?_⟩
        rw [hp]; rfl
      · split at h
        · rename_i hm
          cases h
          refine ⟨hm, ext ?_⟩
          unfold joinB
          rw [if_neg (cutB_ne _), ofL_data, hp]
          unfold cutB
          rw [ofL_data, join_cut]
        · rename_i hm
          exact absurd (Prod.mk.inj h).2 hm
    · cases h

theorem splitN_inj {a b : ByteArray} {l : List ByteArray} (ha : splitN a = (l, 0)) (hb : splitN b = (l, 0)) : a = b := by
  rw [← (join_split ha).2, (join_split hb).2]

theorem splitN_short {p : ByteArray} {l : List ByteArray} (h : splitN p = (l, 0)) : l.length ≤ 8 ∧ ∀ s ∈ l, nameB s = true :=
  let m := mayC_zero.1 (join_split h).1
  ⟨m.2, m.1⟩

/-- names.Last: the names but the last one, that, and the code. -/
def lastN (p : ByteArray) : List ByteArray × ByteArray × Int :=
  if (splitN p).2 = 0 then (if (splitN p).1 = [] then ([], ofL [], 108) else ((splitN p).1.dropLast, (splitN p).1.getLastD (ofL []), 0)) else ([], ofL [], (splitN p).2)

/-- With how many names two lists begin alike. -/
def lcp : List ByteArray → List ByteArray → Nat
  | x :: xs, y :: ys => if x = y then lcp xs ys + 1 else 0
  | _, _ => 0
def commonN (a b : ByteArray) : Int × Int :=
  if (splitN a).2 = 0 then (if (splitN b).2 = 0 then ((lcp (splitN a).1 (splitN b).1 : Nat), 0) else (0, (splitN b).2)) else (0, (splitN a).2)
def underN (a b : ByteArray) : Bool × Int :=
  if (splitN a).2 = 0 then (if (splitN b).2 = 0 then (decide (lcp (splitN a).1 (splitN b).1 = (splitN a).1.length), 0) else (false, (splitN b).2)) else (false, (splitN a).2)

theorem lcp_comm : ∀ a b : List ByteArray, lcp a b = lcp b a
  | [], [] => rfl
  | [], _ :: _ => rfl
  | _ :: _, [] => rfl
  | x :: xs, y :: ys => by
    unfold lcp
    rw [lcp_comm xs ys]
    by_cases h : x = y
    · subst h; rfl
    · rw [if_neg h, if_neg (Ne.symm h)]
theorem lcp_le : ∀ a b : List ByteArray, lcp a b ≤ a.length
  | [], b => by simp [lcp]
  | _ :: _, [] => by simp [lcp]
  | x :: xs, y :: ys => by
    have := lcp_le xs ys
    unfold lcp
    split <;> simp <;> omega
theorem lcp_take : ∀ a b : List ByteArray, a.take (lcp a b) = b.take (lcp a b)
  | [], [] => rfl
  | [], _ :: _ => by simp [lcp]
  | _ :: _, [] => by simp [lcp]
  | x :: xs, y :: ys => by
    unfold lcp
    split
    · rename_i h; subst h; simp [lcp_take xs ys]
    · simp
theorem lcp_full : ∀ a b : List ByteArray, lcp a b = a.length ↔ a <+: b
  | [], b => by simp [lcp]
  | _ :: _, [] => by simp [lcp]
  | x :: xs, y :: ys => by
    have := lcp_full xs ys
    unfold lcp
    by_cases h : x = y
    · subst h
      rw [if_pos rfl]
      simp [this]
    · rw [if_neg h]
      simp [List.cons_prefix_cons, h]
theorem lcp_self (a : List ByteArray) : lcp a a = a.length := (lcp_full a a).2 (List.prefix_refl a)

end Go.Proofs.YtgofmnhfajmbfaaGreatDoor.Txt
