/-
  PlainA: Txt, Sp, SpLaws, SpOps, SpMove, SpStep, SpReads, SpPaths.
-/
import Derived.Lib.SplitLaws
namespace Go.Proofs.YtmljdnlmpiklgaaGreatDoor.Txt
open Go

/-- May a text be a name? -/
def nameL (l : List UInt8) : Bool := decide (1 ≤ l.length) && decide (l.length ≤ 13) && !(l == [46]) && !(l == [46, 46]) && !l.contains 47 && !l.contains 0
def nameB (s : ByteArray) : Bool := nameL s.data.toList
/-- What is wrong with names. -/
def mayC (l : List ByteArray) : Int := if l.all nameB then (if 8 < l.length then 91 else 0) else 90
/-- A text cut at strokes. -/
def cutL : List UInt8 → List (List UInt8)
  | [] => [[]]
  | c :: r => if c = 47 then [] :: cutL r else match cutL r with
    | [] => [[c]]
    | x :: xs => (c :: x) :: xs
def ofL (l : List UInt8) : ByteArray := ⟨l.toArray⟩
def cutB (s : ByteArray) : List ByteArray := (cutL s.data.toList).map ofL

theorem ofL_data (l : List UInt8) : (ofL l).data.toList = l := by simp [ofL]
theorem data_ofL (s : ByteArray) : ofL s.data.toList = s := by cases s; simp [ofL]
theorem ofL_inj {a b : List UInt8} (h : ofL a = ofL b) : a = b := by rw [← ofL_data a, h, ofL_data]
theorem ext {a b : ByteArray} (h : a.data.toList = b.data.toList) : a = b := by rw [← data_ofL a, h, data_ofL]

theorem cutL_ne (l : List UInt8) : cutL l ≠ [] := by
  cases l with
  | nil => simp [cutL]
  | cons c r =>
    unfold cutL
    split
    · simp
    · split <;> simp

theorem cutL_free {a : List UInt8} (h : ∀ b ∈ a, b ≠ 47) : cutL a = [a] := by
  induction a with
  | nil => rfl
  | cons c r ih =>
    have hc : c ≠ 47 := h c (by simp)
    have hr := ih (fun b hb => h b (by simp [hb]))
    unfold cutL
    rw [if_neg hc, hr]

theorem cutL_hit {a : List UInt8} (h : ∀ b ∈ a, b ≠ 47) (r : List UInt8) : cutL (a ++ 47 :: r) = a :: cutL r := by
  induction a with
  | nil => simp [cutL]
  | cons c t ih =>
    have hc : c ≠ 47 := h c (by simp)
    have hr := ih (fun b hb => h b (by simp [hb]))
    rw [List.cons_append]
    conv => lhs; unfold cutL
    rw [if_neg hc, hr]

theorem splitK_slash : ∀ s : List UInt8, Lib.splitK [47] 0 (Lib.count s [47]) s = cutL s
  | [] => by rw [Lib.count_miss (by simp [Lib.index])]; rfl
  | c :: r => by
    have ih := splitK_slash r
    by_cases hc : c = 47
    · subst hc
      rw [Lib.count_cons_eq, Nat.add_comm]
      have hi : Lib.index (47 :: r) [47] = 0 := by rw [Lib.index]; simp [List.isPrefixOf]
      unfold Lib.splitK cutL
      rw [hi]
      simp [ih]
    · rw [Lib.count_cons_ne c 47 r hc]
      have hp : ([47] : List UInt8).isPrefixOf (c :: r) = false := by simp [List.isPrefixOf, Ne.symm hc]
      have hix : Lib.index (c :: r) [47] = if Lib.index r [47] == -1 then -1 else Lib.index r [47] + 1 := by rw [Lib.index, hp]; simp
      unfold cutL
      rw [if_neg hc]
      cases hk : Lib.count r [47] with
      | zero =>
        rw [hk] at ih
        rw [← ih]
        rfl
      | succ k =>
        rw [hk] at ih
        have hge := Lib.index_ge r [47]
        have hm : Lib.index r [47] ≠ -1 := fun e => by rw [Lib.count_miss e] at hk; cases hk
        obtain ⟨i, hi⟩ : ∃ i : Nat, Lib.index r [47] = i := ⟨(Lib.index r [47]).toNat, by omega⟩
        have hb : (Lib.index r [47] == -1) = false := beq_eq_false_iff_ne.2 hm
        have hb2 : (((i : Int) + 1) == -1) = false := beq_eq_false_iff_ne.2 (by omega)
        have e1 : Lib.splitK [47] 0 (k + 1) r = r.take i :: Lib.splitK [47] 0 k (r.drop (i + 1)) := by
          rw [Lib.splitK, hb, hi]; simp
        rw [e1] at ih
        rw [Lib.splitK, hix, hb, hi]
        have e2 : ((i : Int) + 1).toNat = i + 1 := by omega
        simp only [Bool.false_eq_true, if_false, hb2, e2, List.length_cons, List.length_nil, Nat.add_zero, Nat.zero_add]
        rw [List.take_succ_cons, List.drop_succ_cons, ← ih]

/-- strings.Split at a stroke. -/
theorem splitB_slash (s : ByteArray) : Lib.splitB ⟨#[47]⟩ 0 (Lib.countB s ⟨#[47]⟩) s = cutB s := by
  have h := Lib.splitB_data ⟨#[47]⟩ 0 (Lib.countB s ⟨#[47]⟩) s
  have h2 : (Lib.splitB ⟨#[47]⟩ 0 (Lib.countB s ⟨#[47]⟩) s).map (·.data.toList) = cutL s.data.toList := by
    rw [h]; exact splitK_slash _
  unfold cutB
  rw [← h2, List.map_map]
  have : (ofL ∘ fun x : ByteArray => x.data.toList) = id := by funext x; exact data_ofL x
  rw [this, List.map_id]

theorem count_slash (s : ByteArray) : Lib.countB s ⟨#[47]⟩ + 1 = (cutB s).length := by
  rw [← splitB_slash, Lib.splitB_all _ (by decide) 0 _ s rfl]

theorem cutB_length_le (s : ByteArray) : (cutB s).length ≤ s.size + 1 := by
  rw [← count_slash]
  have := Lib.countB_le ⟨#[47]⟩ (by decide) s.size s (Nat.le_refl _)
  omega

theorem cutB_ne (s : ByteArray) : cutB s ≠ [] := by
  unfold cutB
  intro h
  exact cutL_ne _ (List.map_eq_nil_iff.1 h)

/-- names.Split: the names, and the code. -/
def splitN (p : ByteArray) : List ByteArray × Int :=
  match p.data.toList with
  | [] => ([], 90)
  | c :: r => if c = 47 then (if r = [] then ([], 0) else if mayC (cutB (ofL r)) = 0 then (cutB (ofL r), 0) else ([], mayC (cutB (ofL r)))) else ([], 90)

theorem mayC_cases (l : List ByteArray) : mayC l = 0 ∨ mayC l = 90 ∨ mayC l = 91 := by
  unfold mayC
  split
  · split <;> simp
  · simp

/-- Either names, or none and a code. -/
theorem splitN_cases (p : ByteArray) : (∃ l, splitN p = (l, 0)) ∨ splitN p = ([], 90) ∨ splitN p = ([], 91) := by
  unfold splitN
  split
  · simp
  · split
    · split
      · exact Or.inl ⟨_, rfl⟩
      · split
        · exact Or.inl ⟨_, rfl⟩
        · rename_i h
          rcases mayC_cases (cutB (ofL _)) with h1 | h1 | h1
          · exact absurd h1 h
          · rw [h1]; simp
          · rw [h1]; simp
    · simp

theorem mayC_zero {l : List ByteArray} : mayC l = 0 ↔ (∀ s ∈ l, nameB s = true) ∧ l.length ≤ 8 := by
  unfold mayC
  constructor
  · intro h
    split at h
    · rename_i ha
      split at h
      · cases h
      · exact ⟨fun s hs => List.all_eq_true.1 ha s hs, by omega⟩
    · cases h
  · intro ⟨h1, h2⟩
    rw [if_pos (List.all_eq_true.2 h1), if_neg (by omega)]

theorem nameB_size {s : ByteArray} (h : nameB s = true) : 1 ≤ s.size ∧ s.size ≤ 13 := by
  unfold nameB nameL at h
  simp only [Bool.and_eq_true, decide_eq_true_eq] at h
  rw [Lib.size_eq]
  omega
theorem nameB_free {s : ByteArray} (h : nameB s = true) : ∀ b ∈ s.data.toList, b ≠ 47 := by
  unfold nameB nameL at h
  simp only [Bool.and_eq_true, Bool.not_eq_true', List.contains_eq_mem, decide_eq_false_iff_not] at h
  intro b hb e
  subst e
  exact h.1.2 hb

/-- The path of names. -/
def joinL : List ByteArray → List UInt8
  | [] => []
  | s :: r => 47 :: (s.data.toList ++ joinL r)
def joinB (l : List ByteArray) : ByteArray := if l = [] then ofL [47] else ofL (joinL l)
def joinN (l : List ByteArray) : ByteArray × Int := if mayC l = 0 then (joinB l, 0) else (ofL [], mayC l)

theorem cutB_join : ∀ (s : ByteArray) (r : List ByteArray), (∀ x ∈ s :: r, nameB x = true) → cutL (s.data.toList ++ joinL r) = (s :: r).map (·.data.toList)
  | s, [], h => by
    rw [joinL, List.append_nil, cutL_free (nameB_free (h s (by simp)))]
    rfl
  | s, t :: r, h => by
    rw [joinL, cutL_hit (nameB_free (h s (by simp))), cutB_join t r (fun x hx => h x (List.mem_cons_of_mem _ hx))]
    rfl

theorem ofL_map (l : List ByteArray) : (l.map (·.data.toList)).map ofL = l := by
  rw [List.map_map]
  have : (ofL ∘ fun x : ByteArray => x.data.toList) = id := by funext x; exact data_ofL x
  rw [this, List.map_id]

/-- What is joined is split. -/
theorem split_join {l : List ByteArray} (h : mayC l = 0) : splitN (joinB l) = (l, 0) := by
  have h1 := (mayC_zero.1 h).1
  cases l with
  | nil => rfl
  | cons s r =>
    have hs := nameB_size (h1 s (by simp))
    have hne : s.data.toList ++ joinL r ≠ [] := by
      intro e
      have := (List.append_eq_nil_iff.1 e).1
      rw [Lib.size_eq, this] at hs
      simp at hs
    have hc : cutB (ofL (s.data.toList ++ joinL r)) = s :: r := by
      unfold cutB
      rw [ofL_data, cutB_join s r h1, ofL_map]
    unfold joinB
    rw [if_neg (by simp)]
    unfold splitN
    rw [ofL_data, joinL]
    simp only [if_true]
    rw [if_neg hne, hc, if_pos h]

theorem join_cut : ∀ (l : List UInt8), joinL ((cutL l).map ofL) = 47 :: l
  | [] => by simp [cutL, joinL, ofL]
  | c :: r => by
    have ih := join_cut r
    unfold cutL
    split
    · rename_i h; subst h
      rw [List.map_cons, joinL, ofL_data, ih]; rfl
    · have hne := cutL_ne r
      cases hr : cutL r with
      | nil => exact absurd hr hne
      | cons x xs =>
        rw [hr, List.map_cons, joinL, ofL_data] at ih
        simp only [List.map_cons, joinL, ofL_data, List.cons_append]
        have := (List.cons.inj ih).2
        rw [this]

/-- What is split is joined. -/
theorem join_split {p : ByteArray} {l : List ByteArray} (h : splitN p = (l, 0)) : mayC l = 0 ∧ joinB l = p := by
  unfold splitN at h
  split at h
  · cases h
  · rename_i c r hp
    split at h
    · rename_i hc; subst hc
      split at h
      · rename_i hr; subst hr
        cases h
        refine ⟨rfl, ext ?_⟩
        rw [hp]; rfl
      · split at h
        · rename_i hm
          cases h
          refine ⟨hm, ext ?_⟩
          unfold joinB
          rw [if_neg (cutB_ne _), ofL_data, hp]
          unfold cutB
          rw [ofL_data, join_cut]
        · rename_i hm
          exact absurd (Prod.mk.inj h).2 hm
    · cases h

theorem splitN_inj {a b : ByteArray} {l : List ByteArray} (ha : splitN a = (l, 0)) (hb : splitN b = (l, 0)) : a = b := by
  rw [← (join_split ha).2, (join_split hb).2]

theorem splitN_short {p : ByteArray} {l : List ByteArray} (h : splitN p = (l, 0)) : l.length ≤ 8 ∧ ∀ s ∈ l, nameB s = true :=
  let m := mayC_zero.1 (join_split h).1
  ⟨m.2, m.1⟩

/-- names.Last: the names but the last one, that, and the code. -/
def lastN (p : ByteArray) : List ByteArray × ByteArray × Int :=
  if (splitN p).2 = 0 then (if (splitN p).1 = [] then ([], ofL [], 108) else ((splitN p).1.dropLast, (splitN p).1.getLastD (ofL []), 0)) else ([], ofL [], (splitN p).2)

/-- With how many names two lists begin alike. -/
def lcp : List ByteArray → List ByteArray → Nat
  | x :: xs, y :: ys => if x = y then lcp xs ys + 1 else 0
  | _, _ => 0
def commonN (a b : ByteArray) : Int × Int :=
  if (splitN a).2 = 0 then (if (splitN b).2 = 0 then ((lcp (splitN a).1 (splitN b).1 : Nat), 0) else (0, (splitN b).2)) else (0, (splitN a).2)
def underN (a b : ByteArray) : Bool × Int :=
  if (splitN a).2 = 0 then (if (splitN b).2 = 0 then (decide (lcp (splitN a).1 (splitN b).1 = (splitN a).1.length), 0) else (false, (splitN b).2)) else (false, (splitN a).2)

theorem lcp_comm : ∀ a b : List ByteArray, lcp a b = lcp b a
  | [], [] => rfl
  | [], _ :: _ => rfl
  | _ :: _, [] => rfl
  | x :: xs, y :: ys => by
    unfold lcp
    rw [lcp_comm xs ys]
    by_cases h : x = y
    · subst h; rfl
    · rw [if_neg h, if_neg (Ne.symm h)]
theorem lcp_le : ∀ a b : List ByteArray, lcp a b ≤ a.length
  | [], b => by simp [lcp]
  | _ :: _, [] => by simp [lcp]
  | x :: xs, y :: ys => by
    have := lcp_le xs ys
    unfold lcp
    split <;> simp <;> omega
theorem lcp_take : ∀ a b : List ByteArray, a.take (lcp a b) = b.take (lcp a b)
  | [], [] => rfl
  | [], _ :: _ => by simp [lcp]
  | _ :: _, [] => by simp [lcp]
  | x :: xs, y :: ys => by
    unfold lcp
    split
    · rename_i h; subst h; simp [lcp_take xs ys]
    · simp
theorem lcp_full : ∀ a b : List ByteArray, lcp a b = a.length ↔ a <+: b
  | [], b => by simp [lcp]
  | _ :: _, [] => by simp [lcp]
  | x :: xs, y :: ys => by
    have := lcp_full xs ys
    unfold lcp
    by_cases h : x = y
    · subst h
      rw [if_pos rfl]
      simp [this]
    · rw [if_neg h]
      simp [List.cons_prefix_cons, h]
theorem lcp_self (a : List ByteArray) : lcp a a = a.length := (lcp_full a a).2 (List.prefix_refl a)

end Go.Proofs.YtmljdnlmpiklgaaGreatDoor.Txt

namespace Go.Proofs.YtmljdnlmpiklgaaGreatDoor.Sp
open Go Txt

structure Op where
  kind : Int
  path : ByteArray
  to : ByteArray
  off : Int
  len : Int
  data : ByteArray
structure Ans where
  code : Int := 0
  kind : Int := 0
  links : Int := 0
  size : Int := 0
  data : ByteArray := ofL []
  names : List ByteArray := []

/-- Paths but the root's, each with the number of what it stands for; things by number: directory or file, and bytes; how many numbers were given. -/
structure Tree where
  names : List (List ByteArray × Nat)
  things : List (Nat × Bool × ByteArray)
  many : Nat

def new : Tree := ⟨[], [(0, true, ofL [])], 0⟩
def Tree.find (t : Tree) (p : List ByteArray) : Option Nat := (t.names.find? (fun x => decide (x.1 = p))).map (·.2)
def Tree.idOf (t : Tree) (p : List ByteArray) : Option Nat := if p = [] then some 0 else t.find p
def Tree.thing (t : Tree) (i : Nat) : Bool × ByteArray := ((t.things.find? (fun x => decide (x.1 = i))).map (·.2)).getD (true, ofL [])
def Tree.isDir (t : Tree) (i : Nat) : Bool := (t.thing i).1
def Tree.dataOf (t : Tree) (i : Nat) : ByteArray := (t.thing i).2
def Tree.links (t : Tree) (i : Nat) : Nat := t.names.countP (fun x => decide (x.2 = i))

/-- From a place on, name by name. -/
def Tree.walk (t : Tree) : List ByteArray → List ByteArray → Nat → Nat × Int
  | _, [], i => (i, 0)
  | pre, s :: r, i => if t.isDir i = true then (match t.find (pre ++ [s]) with
      | none => (0, 100)
      | some j => t.walk (pre ++ [s]) r j) else (0, 103)
def Tree.at (t : Tree) (path : ByteArray) : Nat × Int := if (splitN path).2 = 0 then t.walk [] (splitN path).1 0 else (0, (splitN path).2)
/-- A walk to a path's directory: what is refused. -/
def Tree.dirC (t : Tree) (path : ByteArray) : Int :=
  if (lastN path).2.2 = 0 then (if (t.walk [] (lastN path).1 0).2 = 0 then (if t.isDir (t.walk [] (lastN path).1 0).1 = true then 0 else 103) else (t.walk [] (lastN path).1 0).2) else (lastN path).2.2
def full (path : ByteArray) : List ByteArray := (splitN path).1

def leT (a b : ByteArray) : Bool := decide (a.data.toList ≤ b.data.toList)
/-- The names right below a path, rising. -/
def Tree.kidsL (t : Tree) (p : List ByteArray) : List ByteArray := t.names.filterMap (fun x => if x.1.dropLast = p then x.1.getLast? else none)
def Tree.kids (t : Tree) (p : List ByteArray) : List ByteArray := (t.kidsL p).mergeSort leT

/-- The name at a path goes, and what it stood for, if that was its last one. -/
def Tree.forget (t : Tree) (p : List ByteArray) : Tree :=
  match t.find p with
  | none => t
  | some i =>
    let names := t.names.filter (fun x => decide (x.1 ≠ p))
    if names.countP (fun x => decide (x.2 = i)) = 0 then { t with names := names, things := t.things.filter (fun x => decide (x.1 ≠ i)) } else { t with names := names }

def Tree.make (t : Tree) (path : ByteArray) (dir : Bool) : Tree × Int :=
  if t.dirC path = 0 then (if (t.find (full path)).isSome then (t, 101) else (⟨t.names ++ [(full path, t.many + 1)], t.things ++ [(t.many + 1, dir, ofL [])], t.many + 1⟩, 0)) else (t, t.dirC path)

def Tree.link (t : Tree) (path to : ByteArray) : Tree × Int :=
  if (t.at path).2 = 0 then
    (if t.isDir (t.at path).1 = true then (t, 102) else
      if t.dirC to = 0 then (if (t.find (full to)).isSome then (t, 101) else
        if 200 ≤ t.links (t.at path).1 then (t, 105) else ({ t with names := t.names ++ [(full to, (t.at path).1)] }, 0)) else (t, t.dirC to))
  else (t, (t.at path).2)

def Tree.remove (t : Tree) (path : ByteArray) (dir : Bool) : Tree × Int :=
  if t.dirC path = 0 then
    (match t.find (full path) with
    | none => (t, 100)
    | some i => if t.isDir i = true ∧ dir = false then (t, 102) else if t.isDir i = false ∧ dir = true then (t, 103) else
        if dir = true ∧ t.kidsL (full path) ≠ [] then (t, 104) else (t.forget (full path), 0))
  else (t, t.dirC path)

/-- A path's beginning turned. -/
def moved (dir : Bool) (p q : List ByteArray) (x : List ByteArray × Nat) : List ByteArray × Nat :=
  if x.1 = p ∨ (dir = true ∧ p <+: x.1) then (q ++ x.1.drop p.length, x.2) else x
def Tree.move (t : Tree) (dir : Bool) (p q : List ByteArray) : Tree := { t with names := t.names.map (moved dir p q) }

def Tree.rename (t : Tree) (path to : ByteArray) : Tree × Int :=
  if t.dirC path = 0 then
    (match t.find (full path) with
    | none => (t, 100)
    | some i =>
      if (lastN to).2.2 = 0 then
        (if t.isDir i = true ∧ full path <+: full to ∧ path ≠ to then (t, 107) else
          if t.dirC to = 0 then
            (match t.find (full to) with
            | none => (t.move (t.isDir i) (full path) (full to), 0)
            | some j =>
              if i = j then (t, 0) else
              if t.isDir j = true ∧ t.isDir i = false then (t, 102) else
              if t.isDir j = false ∧ t.isDir i = true then (t, 103) else
              if t.isDir j = true ∧ t.kidsL (full to) ≠ [] then (t, 104) else
              ((t.forget (full to)).move (t.isDir i) (full path) (full to), 0))
          else (t, t.dirC to))
      else (t, (lastN to).2.2))
  else (t, t.dirC path)

/-- A path that stands for a file: its number. -/
def Tree.file (t : Tree) (path : ByteArray) : Nat × Int :=
  if (t.at path).2 = 0 then (if t.isDir (t.at path).1 = true then (0, 102) else ((t.at path).1, 0)) else (0, (t.at path).2)
def Tree.set (t : Tree) (i : Nat) (d : ByteArray) : Tree := { t with things := t.things.map (fun x => if x.1 = i then (x.1, x.2.1, d) else x) }

def piece (d : List UInt8) (off len : Nat) : List UInt8 := (d.drop off).take len
/-- Bytes with zeros behind them, so many. -/
def stretch (d : List UInt8) (n : Nat) : List UInt8 := d.take n ++ List.replicate (n - d.length) 0
def writeL (d : List UInt8) (off : Nat) (s : List UInt8) : List UInt8 :=
  (stretch d (max d.length (off + s.length))).take off ++ s ++ (stretch d (max d.length (off + s.length))).drop (off + s.length)

def Tree.bytes (t : Tree) (o : Op) : Tree × ByteArray × Int :=
  if (t.file o.path).2 = 0 then
    (if o.kind = 7 then
      (if o.off < 0 ∨ o.len < 0 then (t, ofL [], 1) else (t, ofL (piece (t.dataOf (t.file o.path).1).data.toList o.off.toNat o.len.toNat), 0))
    else if o.kind = 8 then
      (if o.off < 0 then (t, ofL [], 1) else if o.off > 2560 ∨ (o.data.size : Int) > 2560 - o.off then (t, ofL [], 106) else
        if o.data.size = 0 then (t, ofL [], 0) else
        (t.set (t.file o.path).1 (ofL (writeL (t.dataOf (t.file o.path).1).data.toList o.off.toNat o.data.data.toList)), ofL [], 0))
    else
      (if o.len < 0 then (t, ofL [], 1) else if o.len > 2560 then (t, ofL [], 106) else
        (t.set (t.file o.path).1 (ofL (stretch (t.dataOf (t.file o.path).1).data.toList o.len.toNat)), ofL [], 0)))
  else (t, ofL [], (t.file o.path).2)

def Tree.tell (t : Tree) (o : Op) : Ans :=
  if (t.at o.path).2 = 0 then
    (if o.kind = 10 then
      (if t.isDir (t.at o.path).1 = true then { kind := 2, links := 1, size := (t.kidsL (full o.path)).length } else
        { kind := 1, links := t.links (t.at o.path).1, size := (t.dataOf (t.at o.path).1).size })
    else if o.kind = 11 then
      (if t.isDir (t.at o.path).1 = true then { names := t.kids (full o.path) } else { code := 103 })
    else {})
  else { code := (t.at o.path).2 }

def Tree.step (t : Tree) (o : Op) : Tree × Ans :=
  if o.kind = 1 then ((t.make o.path false).1, { code := (t.make o.path false).2 })
  else if o.kind = 2 then ((t.make o.path true).1, { code := (t.make o.path true).2 })
  else if o.kind = 3 then ((t.link o.path o.to).1, { code := (t.link o.path o.to).2 })
  else if o.kind = 4 then ((t.remove o.path false).1, { code := (t.remove o.path false).2 })
  else if o.kind = 5 then ((t.remove o.path true).1, { code := (t.remove o.path true).2 })
  else if o.kind = 6 then ((t.rename o.path o.to).1, { code := (t.rename o.path o.to).2 })
  else if o.kind = 7 ∨ o.kind = 8 ∨ o.kind = 9 then ((t.bytes o).1, { code := (t.bytes o).2.2, data := (t.bytes o).2.1 })
  else if o.kind = 10 ∨ o.kind = 11 ∨ o.kind = 12 then (t, t.tell o)
  else (t, { code := 3 })

def shown (t : Tree) (x : List ByteArray × Nat) : ByteArray := ofL (joinL x.1 ++ if t.isDir x.2 = true then [47] else [])
def Tree.paths (t : Tree) : List ByteArray := (ofL [47] :: t.names.map (shown t)).mergeSort leT

/-- What holds of a tree at all times. -/
structure Tree.Ok (t : Tree) : Prop where
  ne : ∀ p i, (p, i) ∈ t.names → p ≠ []
  good : ∀ p i, (p, i) ∈ t.names → ∀ s ∈ p, nameB s = true
  nodup : (t.names.map (·.1)).Nodup
  up : ∀ p i, (p, i) ∈ t.names → p.dropLast = [] ∨ ∃ j, (p.dropLast, j) ∈ t.names ∧ t.isDir j = true
  ids : (t.things.map (·.1)).Nodup
  there : ∀ p i, (p, i) ∈ t.names → i ≠ 0 ∧ ∃ b d, (i, b, d) ∈ t.things
  root : ∃ d, (0, true, d) ∈ t.things
  named : ∀ i b d, (i, b, d) ∈ t.things → i = 0 ∨ ∃ p, (p, i) ∈ t.names
  one : ∀ p q i d, (i, true, d) ∈ t.things → (p, i) ∈ t.names → (q, i) ∈ t.names → p = q
  many : ∀ i b d, (i, b, d) ∈ t.things → i ≤ t.many
  small : ∀ i d, (i, false, d) ∈ t.things → d.size ≤ 2560
  empty : ∀ i d, (i, true, d) ∈ t.things → d = ofL []

end Go.Proofs.YtmljdnlmpiklgaaGreatDoor.Sp

namespace Go.Proofs.YtmljdnlmpiklgaaGreatDoor.Sp
open Go Txt

theorem snocInd {α : Type} {P : List α → Prop} (nil : P []) (append_singleton : ∀ l x, P l → P (l ++ [x])) (l : List α) : P l := by
  have : ∀ n, ∀ l : List α, l.length = n → P l := by
    intro n
    induction n with
    | zero => intro l h; rw [List.length_eq_zero_iff.1 h]; exact nil
    | succ n ih =>
      intro l h
      have hne : l ≠ [] := fun e => by rw [e] at h; cases h
      rw [← List.dropLast_concat_getLast hne]
      exact append_singleton _ _ (ih _ (by rw [List.length_dropLast, h]; rfl))
  exact this _ l rfl

section
variable {t : Tree}

theorem find_mem (h : t.Ok) {p : List ByteArray} {i : Nat} : t.find p = some i ↔ (p, i) ∈ t.names := by
  unfold Tree.find
  constructor
  · intro e
    obtain ⟨x, hx, rfl⟩ := Option.map_eq_some_iff.1 e
    have h1 := List.find?_some hx
    have h2 := List.mem_of_find?_eq_some hx
    have : x.1 = p := of_decide_eq_true h1
    subst this
    exact h2
  · intro hm
    have hn := h.nodup
    generalize t.names = l at hm hn
    induction l with
    | nil => cases hm
    | cons y r ih =>
      rw [List.map_cons, List.nodup_cons] at hn
      rw [List.find?_cons]
      rcases List.mem_cons.1 hm with e | hm
      · subst e; simp
      · have hne : y.1 ≠ p := fun e => hn.1 (by rw [e]; exact List.mem_map.2 ⟨_, hm, rfl⟩)
        rw [decide_eq_false hne]
        exact ih hm hn.2
theorem find_none {p : List ByteArray} : t.find p = none ↔ ∀ i, (p, i) ∉ t.names := by
  unfold Tree.find
  rw [Option.map_eq_none_iff, List.find?_eq_none]
  constructor
  · intro h i hm
    exact h _ hm (by simp)
  · intro h x hx e
    have := of_decide_eq_true e
    subst this
    exact h x.2 hx
theorem find_nil (h : t.Ok) : t.find [] = none := find_none.2 fun _ hm => h.ne _ _ hm rfl
theorem idOf_find {p : List ByteArray} (hp : p ≠ []) : t.idOf p = t.find p := if_neg hp
theorem idOf_nil : t.idOf [] = some 0 := if_pos rfl
theorem idOf_snoc {p : List ByteArray} {s : ByteArray} : t.idOf (p ++ [s]) = t.find (p ++ [s]) := idOf_find (by simp)
theorem find_idOf (h : t.Ok) {p : List ByteArray} {i : Nat} (hf : t.find p = some i) : t.idOf p = some i := by
  rw [idOf_find (h.ne _ _ ((find_mem h).1 hf)), hf]

theorem thing_of (h : t.Ok) {i : Nat} {b : Bool} {d : ByteArray} (hm : (i, b, d) ∈ t.things) : t.thing i = (b, d) := by
  unfold Tree.thing
  have hn := h.ids
  generalize t.things = l at hm hn
  induction l with
  | nil => cases hm
  | cons y r ih =>
    rw [List.map_cons, List.nodup_cons] at hn
    rw [List.find?_cons]
    rcases List.mem_cons.1 hm with e | hm
    · subst e; simp
    · have hne : y.1 ≠ i := fun e => hn.1 (by rw [e]; exact List.mem_map.2 ⟨_, hm, rfl⟩)
      rw [decide_eq_false hne]
      exact ih hm hn.2
theorem isDir_of (h : t.Ok) {i : Nat} {b : Bool} {d : ByteArray} (hm : (i, b, d) ∈ t.things) : t.isDir i = b := by unfold Tree.isDir; rw [thing_of h hm]
theorem dataOf_of (h : t.Ok) {i : Nat} {b : Bool} {d : ByteArray} (hm : (i, b, d) ∈ t.things) : t.dataOf i = d := by unfold Tree.dataOf; rw [thing_of h hm]

/-- What stands for something stands for a thing. -/
theorem there_idOf (h : t.Ok) {p : List ByteArray} {i : Nat} (hp : t.idOf p = some i) : (i, t.isDir i, t.dataOf i) ∈ t.things := by
  unfold Tree.idOf at hp
  split at hp
  · cases hp
    obtain ⟨d, hd⟩ := h.root
    rw [isDir_of h hd, dataOf_of h hd]; exact hd
  · obtain ⟨_, b, d, hd⟩ := h.there _ _ ((find_mem h).1 hp)
    rw [isDir_of h hd, dataOf_of h hd]; exact hd

theorem walk_ok : ∀ (l : List ByteArray) {pre : List ByteArray} {i j : Nat}, t.walk pre l i = (j, 0) → t.idOf pre = some i → t.idOf (pre ++ l) = some j
  | [], pre, i, j, hw, hp => by
    unfold Tree.walk at hw
    cases hw
    rw [List.append_nil]; exact hp
  | s :: r, pre, i, j, hw, hp => by
    unfold Tree.walk at hw
    split at hw
    · cases hf : t.find (pre ++ [s]) with
      | none => rw [hf] at hw; cases hw
      | some k =>
        rw [hf] at hw
        have := walk_ok r hw (by rw [idOf_snoc]; exact hf)
        rw [List.append_assoc] at this
        exact this
    · cases hw

/-- Whatever is there is walked to. -/
theorem walk_there (h : t.Ok) : ∀ (l : List ByteArray) {pre : List ByteArray} {i j : Nat}, t.idOf pre = some i → t.idOf (pre ++ l) = some j → t.walk pre l i = (j, 0)
  | [], pre, i, j, hp, hj => by
    rw [List.append_nil, hp] at hj
    cases hj
    rfl
  | s :: r, pre, i, j, hp, hj => by
    have key : ∀ (r : List ByteArray) (j : Nat), t.find (pre ++ [s] ++ r) = some j → ∃ k, t.find (pre ++ [s]) = some k := by
      intro r
      induction r using snocInd with
      | nil => intro j hj; rw [List.append_nil] at hj; exact ⟨j, hj⟩
      | append_singleton r x ih =>
        intro j hj
        rw [← List.append_assoc] at hj
        rcases h.up _ _ ((find_mem h).1 hj) with e | ⟨k, hk, _⟩
        · rw [List.dropLast_concat] at e
          simp at e
        · rw [List.dropLast_concat] at hk
          exact ih k ((find_mem h).2 hk)
    have hj' : t.find (pre ++ [s] ++ r) = some j := by
      rw [idOf_find (by simp)] at hj
      rw [List.append_assoc]
      exact hj
    obtain ⟨k, hk⟩ := key r j hj'
    have hd : t.isDir i = true := by
      rcases h.up _ _ ((find_mem h).1 hk) with e | ⟨k', hk', hd⟩
      · rw [List.dropLast_concat] at e
        subst e
        cases hp
        obtain ⟨d, hd⟩ := h.root
        exact isDir_of h hd
      · rw [List.dropLast_concat] at hk'
        have := find_idOf h ((find_mem h).2 hk')
        rw [hp] at this
        cases this
        exact hd
    unfold Tree.walk
    rw [if_pos hd, hk]
    exact walk_there h r (by rw [idOf_snoc]; exact hk) (by rw [List.append_assoc]; exact hj)

theorem walk_code : ∀ (l : List ByteArray) (pre : List ByteArray) (i : Nat), (t.walk pre l i).2 = 0 ∨ (t.walk pre l i) = (0, 100) ∨ (t.walk pre l i) = (0, 103)
  | [], _, _ => Or.inl rfl
  | s :: r, pre, i => by
    unfold Tree.walk
    split
    · cases t.find (pre ++ [s]) with
      | none => simp
      | some k => exact walk_code r _ k
    · simp

/-- A walk to a path's directory. -/
inductive DirTo (t : Tree) (path : ByteArray) : Prop where
  | err (c : Int) (h1 : lastN path = ([], ofL [], c)) (h2 : (c == 0) = false) (h3 : t.dirC path = c)
  | miss (l : List ByteArray) (x : ByteArray) (c : Int) (h1 : lastN path = (l, x, 0)) (h2 : t.walk [] l 0 = (0, c)) (h3 : (c == 0) = false) (h4 : t.dirC path = c)
  | file (l : List ByteArray) (x : ByteArray) (i : Nat) (h1 : lastN path = (l, x, 0)) (h2 : t.walk [] l 0 = (i, 0)) (h3 : t.isDir i = false) (h4 : t.dirC path = 103)
  | dir (l : List ByteArray) (x : ByteArray) (i : Nat) (h1 : lastN path = (l, x, 0)) (h2 : t.walk [] l 0 = (i, 0)) (h3 : t.isDir i = true) (h4 : t.dirC path = 0) (h5 : full path = l ++ [x]) (h6 : nameB x = true)

theorem lastN_cases (p : ByteArray) : (∃ c, lastN p = ([], ofL [], c) ∧ (c == 0) = false) ∨ ∃ l x, lastN p = (l, x, 0) ∧ splitN p = (l ++ [x], 0) := by
  rcases splitN_cases p with ⟨l, h⟩ | h | h
  · cases hl : l with
    | nil => subst hl; exact Or.inl ⟨108, by unfold lastN; rw [h]; rfl, rfl⟩
    | cons y r =>
      have hne : l ≠ [] := by rw [hl]; simp
      refine Or.inr ⟨l.dropLast, l.getLast hne, ?_, ?_⟩
      · unfold lastN
        rw [h]
        simp only [if_true, hne, if_false]
        rw [List.getLastD_eq_getLast?, List.getLast?_eq_some_getLast hne]
        rfl
      · rw [h, List.dropLast_concat_getLast hne]
  · exact Or.inl ⟨90, by unfold lastN; rw [h]; rfl, rfl⟩
  · exact Or.inl ⟨91, by unfold lastN; rw [h]; rfl, rfl⟩

theorem dirTo (t : Tree) (path : ByteArray) : DirTo t path := by
  rcases lastN_cases path with ⟨c, h, hc⟩ | ⟨l, x, h, hs⟩
  · exact .err c h hc (by unfold Tree.dirC; rw [h]; simp [beq_eq_false_iff_ne.1 hc])
  · rcases walk_code (t := t) l [] 0 with hw | hw | hw
    · obtain ⟨i, hi⟩ : ∃ i, t.walk [] l 0 = (i, 0) := ⟨(t.walk [] l 0).1, by rw [← hw]⟩
      cases hd : t.isDir i with
      | false => exact .file l x i h hi hd (by unfold Tree.dirC; rw [h]; simp [hi, hd])
      | true =>
        refine .dir l x i h hi hd (by unfold Tree.dirC; rw [h]; simp [hi, hd]) (by unfold full; rw [hs]) ?_
        exact (splitN_short hs).2 x (by simp)
    · exact .miss l x 100 h hw rfl (by unfold Tree.dirC; rw [h]; simp [hw])
    · exact .miss l x 103 h hw rfl (by unfold Tree.dirC; rw [h]; simp [hw])
end
end Go.Proofs.YtmljdnlmpiklgaaGreatDoor.Sp

namespace Go.Proofs.YtmljdnlmpiklgaaGreatDoor.Sp
open Go Txt

theorem new_ok : Tree.Ok Sp.new where
  ne := by intro p i h; simp [Sp.new] at h
  good := by intro p i h; simp [Sp.new] at h
  nodup := by simp [Sp.new]
  up := by intro p i h; simp [Sp.new] at h
  ids := by simp [Sp.new]
  there := by intro p i h; simp [Sp.new] at h
  root := ⟨ofL [], by simp [Sp.new]⟩
  named := by intro i b d h; simp [Sp.new] at h; exact Or.inl h.1
  one := by intro p q i d _ h; simp [Sp.new] at h
  many := by intro i b d h; simp [Sp.new] at h; simp [h.1]
  small := by intro i d h; simp [Sp.new] at h
  empty := by intro i d h; simp [Sp.new] at h; exact h.2

section
variable {t : Tree}

/-- Of what is there all beginnings are there. -/
theorem below_there (h : t.Ok) {p : List ByteArray} (hp : p ≠ []) : ∀ (r : List ByteArray) {j : Nat}, (p ++ r, j) ∈ t.names → ∃ k, (p, k) ∈ t.names ∧ (r ≠ [] → t.isDir k = true) := by
  intro r
  induction r using snocInd with
  | nil => intro j hj; rw [List.append_nil] at hj; exact ⟨j, hj, fun e => absurd rfl e⟩
  | append_singleton r x ih =>
    intro j hj
    rw [← List.append_assoc] at hj
    rcases h.up _ _ hj with e | ⟨k, hk, hd⟩
    · rw [List.dropLast_concat] at e
      exact absurd (List.append_eq_nil_iff.1 e).1 hp
    · rw [List.dropLast_concat] at hk
      by_cases hr : r = []
      · subst hr
        rw [List.append_nil] at hk
        exact ⟨k, hk, fun _ => hd⟩
      · obtain ⟨k2, h1, h2⟩ := ih hk
        exact ⟨k2, h1, fun _ => h2 hr⟩
/-- Nothing is below a file. -/
theorem below_file (h : t.Ok) {p r : List ByteArray} {i j : Nat} (hp : (p, i) ∈ t.names) (hd : t.isDir i = false) (hj : (p ++ r, j) ∈ t.names) : r = [] := by
  cases hr : r with
  | nil => rfl
  | cons x r' =>
    obtain ⟨k, h1, h2⟩ := below_there h (h.ne _ _ hp) r hj
    have : k = i := by
      have a := (find_mem h).2 h1
      have b := (find_mem h).2 hp
      rw [a] at b
      exact Option.some.inj b
    subst this
    rw [h2 (by rw [hr]; simp)] at hd
    cases hd

theorem mem_uniq (h : t.Ok) {p : List ByteArray} {i j : Nat} (h1 : (p, i) ∈ t.names) (h2 : (p, j) ∈ t.names) : i = j := by
  have a := (find_mem h).2 h1
  have b := (find_mem h).2 h2
  rw [a] at b
  exact Option.some.inj b
theorem idOf_mem (h : t.Ok) {l : List ByteArray} {i : Nat} (hl : t.idOf l = some i) : l = [] ∧ i = 0 ∨ (l, i) ∈ t.names := by
  unfold Tree.idOf at hl
  split at hl
  · rename_i e; cases hl; exact Or.inl ⟨e, rfl⟩
  · exact Or.inr ((find_mem h).1 hl)
theorem idOf_good (h : t.Ok) {l : List ByteArray} {i : Nat} (hl : t.idOf l = some i) : ∀ s ∈ l, nameB s = true := by
  rcases idOf_mem h hl with ⟨rfl, _⟩ | hm
  · simp
  · exact h.good _ _ hm

/-! ### A name more -/
theorem find_more {names : List (List ByteArray × Nat)} {things things' : List (Nat × Bool × ByteArray)} {a b m : Nat} {q p : List ByteArray} (hq : (⟨names, things, a⟩ : Tree).find q = none) :
    (⟨names ++ [(q, m)], things', b⟩ : Tree).find p = if p = q then some m else (⟨names, things, a⟩ : Tree).find p := by
  unfold Tree.find at hq ⊢
  rw [List.find?_append]
  by_cases h : p = q
  · subst h
    rw [if_pos rfl]
    cases hf : names.find? (fun x => decide (x.1 = p)) with
    | none => simp
    | some y => rw [hf] at hq; cases hq
  · rw [if_neg h]
    cases hf : names.find? (fun x => decide (x.1 = p)) with
    | none => simp [Ne.symm h]
    | some y => simp

def Tree.grown (t : Tree) (q : List ByteArray) (dir : Bool) : Tree := ⟨t.names ++ [(q, t.many + 1)], t.things ++ [(t.many + 1, dir, ofL [])], t.many + 1⟩
def Tree.named (t : Tree) (q : List ByteArray) (i : Nat) : Tree := { t with names := t.names ++ [(q, i)] }

theorem fresh_not (h : t.Ok) {b : Bool} {d : ByteArray} : (t.many + 1, b, d) ∉ t.things := fun hm => by
  have := h.many _ _ _ hm
  omega
theorem grown_thing (h : t.Ok) (q : List ByteArray) (dir : Bool) (i : Nat) : (t.grown q dir).thing i = if i = t.many + 1 then (dir, ofL []) else t.thing i := by
  unfold Tree.thing Tree.grown
  simp only
  rw [List.find?_append]
  by_cases hi : i = t.many + 1
  · subst hi
    rw [if_pos rfl]
    cases hf : t.things.find? (fun x => decide (x.1 = t.many + 1)) with
    | none => simp
    | some y =>
      have h1 := List.find?_some hf
      have h2 := List.mem_of_find?_eq_some hf
      obtain ⟨a, b, d⟩ := y
      have : a = t.many + 1 := of_decide_eq_true h1
      subst this
      exact absurd h2 (fresh_not h)
  · rw [if_neg hi]
    cases hf : t.things.find? (fun x => decide (x.1 = i)) with
    | none => simp [Ne.symm hi]
    | some y => simp
theorem grown_isDir (h : t.Ok) (q : List ByteArray) (dir : Bool) (i : Nat) : (t.grown q dir).isDir i = if i = t.many + 1 then dir else t.isDir i := by
  unfold Tree.isDir
  rw [grown_thing h]
  split <;> rfl
theorem named_isDir (q : List ByteArray) (i j : Nat) : (t.named q i).isDir j = t.isDir j := rfl
theorem fresh_name (h : t.Ok) {p : List ByteArray} : (p, t.many + 1) ∉ t.names := fun hm => by
  obtain ⟨_, b, d, hd⟩ := h.there _ _ hm
  exact fresh_not h hd

theorem Tree.Ok.grown (h : t.Ok) {l : List ByteArray} {x : ByteArray} {i : Nat} {dir : Bool} (hl : t.idOf l = some i) (hd : t.isDir i = true) (hx : nameB x = true) (hf : t.find (l ++ [x]) = none) : (t.grown (l ++ [x]) dir).Ok where
  ne := by
    intro p j hm
    rcases List.mem_append.1 hm with hm | hm
    · exact h.ne _ _ hm
    · cases List.mem_singleton.1 hm; simp
  good := by
    intro p j hm
    rcases List.mem_append.1 hm with hm | hm
    · exact h.good _ _ hm
    · cases List.mem_singleton.1 hm
      intro s hs
      rcases List.mem_append.1 hs with hs | hs
      · exact idOf_good h hl s hs
      · rw [List.mem_singleton.1 hs]; exact hx
  nodup := by
    show ((t.names ++ [(l ++ [x], t.many + 1)]).map (·.1)).Nodup
    rw [List.map_append, List.nodup_append]
    refine ⟨h.nodup, by simp, ?_⟩
    intro a ha b hb e
    simp at hb
    obtain ⟨y, hy, rfl⟩ := List.mem_map.1 ha
    rw [hb] at e
    exact find_none.1 hf y.2 (by rw [← e]; exact hy)
  up := by
    intro p j hm
    rcases List.mem_append.1 hm with hm | hm
    · rcases h.up _ _ hm with e | ⟨k, hk, hdk⟩
      · exact Or.inl e
      · refine Or.inr ⟨k, List.mem_append_left _ hk, ?_⟩
        rw [grown_isDir h, if_neg (fun e => fresh_name h (e ▸ hk))]
        exact hdk
    · cases List.mem_singleton.1 hm
      rw [List.dropLast_concat]
      rcases idOf_mem h hl with ⟨e, _⟩ | hm
      · exact Or.inl e
      · refine Or.inr ⟨i, List.mem_append_left _ hm, ?_⟩
        rw [grown_isDir h, if_neg (fun e => fresh_name h (e ▸ hm))]
        exact hd
  ids := by
    show ((t.things ++ [(t.many + 1, dir, ofL [])]).map (·.1)).Nodup
    rw [List.map_append, List.nodup_append]
    refine ⟨h.ids, by simp, ?_⟩
    intro a ha b hb e
    simp at hb
    obtain ⟨⟨a', b', d'⟩, hy, rfl⟩ := List.mem_map.1 ha
    subst hb
    simp at e
    subst e
    exact fresh_not h hy
  there := by
    intro p j hm
    rcases List.mem_append.1 hm with hm | hm
    · obtain ⟨h0, b, d, hd⟩ := h.there _ _ hm
      exact ⟨h0, b, d, List.mem_append_left _ hd⟩
    · cases List.mem_singleton.1 hm
      exact ⟨by omega, dir, ofL [], List.mem_append_right _ (by simp)⟩
  root := let ⟨d, hd⟩ := h.root; ⟨d, List.mem_append_left _ hd⟩
  named := by
    intro j b d hm
    rcases List.mem_append.1 hm with hm | hm
    · rcases h.named _ _ _ hm with e | ⟨p, hp⟩
      · exact Or.inl e
      · exact Or.inr ⟨p, List.mem_append_left _ hp⟩
    · cases List.mem_singleton.1 hm
      exact Or.inr ⟨l ++ [x], List.mem_append_right _ (by simp)⟩
  one := by
    intro p q j d hm hp hq
    rcases List.mem_append.1 hm with hm | hm
    · have hne : j ≠ t.many + 1 := fun e => fresh_not h (e ▸ hm)
      rcases List.mem_append.1 hp with hp | hp
      · rcases List.mem_append.1 hq with hq | hq
        · exact h.one _ _ _ _ hm hp hq
        · cases List.mem_singleton.1 hq; exact absurd rfl hne
      · cases List.mem_singleton.1 hp; exact absurd rfl hne
    · cases List.mem_singleton.1 hm
      rcases List.mem_append.1 hp with hp | hp
      · exact absurd hp (fresh_name h)
      · rcases List.mem_append.1 hq with hq | hq
        · exact absurd hq (fresh_name h)
        · cases List.mem_singleton.1 hp; cases List.mem_singleton.1 hq; rfl
  many := by
    intro j b d hm
    show j ≤ t.many + 1
    rcases List.mem_append.1 hm with hm | hm
    · have := h.many _ _ _ hm; omega
    · cases List.mem_singleton.1 hm; omega
  small := by
    intro j d hm
    rcases List.mem_append.1 hm with hm | hm
    · exact h.small _ _ hm
    · cases List.mem_singleton.1 hm; decide
  empty := by
    intro j d hm
    rcases List.mem_append.1 hm with hm | hm
    · exact h.empty _ _ hm
    · cases List.mem_singleton.1 hm; rfl

theorem Tree.Ok.named_ (h : t.Ok) {l : List ByteArray} {x : ByteArray} {i k : Nat} {d : ByteArray} (hl : t.idOf l = some i) (hd : t.isDir i = true) (hx : nameB x = true) (hf : t.find (l ++ [x]) = none) (hk : (k, false, d) ∈ t.things) (hk0 : k ≠ 0) : (t.named (l ++ [x]) k).Ok where
  ne := by
    intro p j hm
    rcases List.mem_append.1 hm with hm | hm
    · exact h.ne _ _ hm
    · cases List.mem_singleton.1 hm; simp
  good := by
    intro p j hm
    rcases List.mem_append.1 hm with hm | hm
    · exact h.good _ _ hm
    · cases List.mem_singleton.1 hm
      intro s hs
      rcases List.mem_append.1 hs with hs | hs
      · exact idOf_good h hl s hs
      · rw [List.mem_singleton.1 hs]; exact hx
  nodup := by
    show ((t.names ++ [(l ++ [x], k)]).map (·.1)).Nodup
    rw [List.map_append, List.nodup_append]
    refine ⟨h.nodup, by simp, ?_⟩
    intro a ha b hb e
    simp at hb
    obtain ⟨y, hy, rfl⟩ := List.mem_map.1 ha
    rw [hb] at e
    exact find_none.1 hf y.2 (by rw [← e]; exact hy)
  up := by
    intro p j hm
    rcases List.mem_append.1 hm with hm | hm
    · rcases h.up _ _ hm with e | ⟨k', hk', hdk⟩
      · exact Or.inl e
      · exact Or.inr ⟨k', List.mem_append_left _ hk', hdk⟩
    · cases List.mem_singleton.1 hm
      rw [List.dropLast_concat]
      rcases idOf_mem h hl with ⟨e, _⟩ | hm
      · exact Or.inl e
      · exact Or.inr ⟨i, List.mem_append_left _ hm, hd⟩
  ids := h.ids
  there := by
    intro p j hm
    rcases List.mem_append.1 hm with hm | hm
    · exact h.there _ _ hm
    · cases List.mem_singleton.1 hm
      exact ⟨hk0, _, _, hk⟩
  root := h.root
  named := by
    intro j b d hm
    rcases h.named _ _ _ hm with e | ⟨p, hp⟩
    · exact Or.inl e
    · exact Or.inr ⟨p, List.mem_append_left _ hp⟩
  one := by
    intro p q j d' hm hp hq
    have hne : j ≠ k := fun e => by
      subst e
      have a := isDir_of h hm
      have b := isDir_of h hk
      rw [a] at b
      cases b
    rcases List.mem_append.1 hp with hp | hp
    · rcases List.mem_append.1 hq with hq | hq
      · exact h.one _ _ _ _ hm hp hq
      · cases List.mem_singleton.1 hq; exact absurd rfl hne
    · cases List.mem_singleton.1 hp; exact absurd rfl hne
  many := h.many
  small := h.small
  empty := h.empty

/-! ### A name less -/
theorem find_less (h : t.Ok) {names' : List (List ByteArray × Nat)} {things' : List (Nat × Bool × ByteArray)} {b : Nat} {q : List ByteArray} (hn : names' = t.names.filter (fun x => decide (x.1 ≠ q))) (p : List ByteArray) :
    (⟨names', things', b⟩ : Tree).find p = if p = q then none else t.find p := by
  subst hn
  by_cases hp : p = q
  · rw [if_pos hp]
    refine find_none.2 fun i hm => ?_
    have := (List.mem_filter.1 hm).2
    simp [hp] at this
  · rw [if_neg hp]
    cases hf : t.find p with
    | none => exact find_none.2 fun i hm => find_none.1 hf i (List.mem_filter.1 hm).1
    | some i =>
      have hm := (find_mem h).1 hf
      unfold Tree.find at hf ⊢
      simp only at hf ⊢
      rw [List.find?_filter]
      obtain ⟨y, hy, rfl⟩ := Option.map_eq_some_iff.1 hf
      have hy1 : y.1 = p := of_decide_eq_true (List.find?_some (p := fun x : List ByteArray × Nat => decide (x.1 = p)) hy)
      have : (fun a : List ByteArray × Nat => decide (decide (a.1 ≠ q) = true ∧ decide (a.1 = p) = true)) = fun a => decide (a.1 = p) := by
        funext a
        by_cases ha : a.1 = p
        · simp [ha, hp]
        · simp [ha]
      rw [this, hy]
      rfl

theorem forget_cases (_h : t.Ok) {p : List ByteArray} {i : Nat} (hf : t.find p = some i) :
    (t.forget p).names = t.names.filter (fun x => decide (x.1 ≠ p)) ∧ (t.forget p).many = t.many ∧
    (((t.forget p).things = t.things.filter (fun x => decide (x.1 ≠ i)) ∧ (∀ q, (q, i) ∈ t.names → q = p)) ∨ ((t.forget p).things = t.things ∧ ∃ q, (q, i) ∈ t.names ∧ q ≠ p)) := by
  unfold Tree.forget
  rw [hf]
  simp only
  by_cases hc : (t.names.filter (fun x => decide (x.1 ≠ p))).countP (fun x => decide (x.2 = i)) = 0
  · rw [if_pos hc]
    refine ⟨rfl, rfl, Or.inl ⟨rfl, fun q hq => ?_⟩⟩
    rw [List.countP_eq_zero] at hc
    by_cases hqp : q = p
    · exact hqp
    · exact absurd (decide_eq_true rfl) (hc (q, i) (List.mem_filter.2 ⟨hq, by simp [hqp]⟩))
  · rw [if_neg hc]
    refine ⟨rfl, rfl, Or.inr ⟨rfl, ?_⟩⟩
    have hpos : 0 < (t.names.filter (fun x => decide (x.1 ≠ p))).countP (fun x => decide (x.2 = i)) := by omega
    obtain ⟨⟨q, j⟩, hm, hj⟩ := List.countP_pos_iff.1 hpos
    have hj' : j = i := of_decide_eq_true hj
    subst hj'
    have := List.mem_filter.1 hm
    exact ⟨q, this.1, by simpa using this.2⟩

theorem find_forget (h : t.Ok) {p : List ByteArray} {i : Nat} (hf : t.find p = some i) (r : List ByteArray) : (t.forget p).find r = if r = p then none else t.find r := by
  have := (forget_cases h hf).1
  exact find_less h (things' := (t.forget p).things) (b := (t.forget p).many) this r

theorem forget_thing (h : t.Ok) {p : List ByteArray} {i : Nat} (hf : t.find p = some i) {j : Nat} {b : Bool} {d : ByteArray} : (j, b, d) ∈ (t.forget p).things ↔ (j, b, d) ∈ t.things ∧ (j = i → ∃ q, (q, i) ∈ t.names ∧ q ≠ p) := by
  rcases (forget_cases h hf).2.2 with ⟨e, hall⟩ | ⟨e, hex⟩
  · rw [e, List.mem_filter]
    constructor
    · rintro ⟨h1, h2⟩
      exact ⟨h1, fun hj => by simp [hj] at h2⟩
    · rintro ⟨h1, h2⟩
      refine ⟨h1, ?_⟩
      by_cases hj : j = i
      · obtain ⟨q, hq, hne⟩ := h2 hj
        exact absurd (hall q hq) hne
      · simp [hj]
  · rw [e]
    exact ⟨fun h1 => ⟨h1, fun _ => hex⟩, fun h1 => h1.1⟩

theorem Tree.Ok.forget (h : t.Ok) {p : List ByteArray} {i : Nat} (hf : t.find p = some i) (hbelow : ∀ s j, (p ++ [s], j) ∉ t.names) : (t.forget p).Ok := by
  have hc := forget_cases h hf
  have hmem : ∀ r j, (r, j) ∈ (t.forget p).names ↔ (r, j) ∈ t.names ∧ r ≠ p := by
    intro r j
    rw [hc.1, List.mem_filter]
    simp
  have hp := (find_mem h).1 hf
  have hdir : ∀ j q, (q, j) ∈ (t.forget p).names → (t.forget p).isDir j = t.isDir j := by
    intro j q hq
    obtain ⟨h1, h2⟩ := (hmem q j).1 hq
    obtain ⟨_, b, d, hd⟩ := h.there _ _ h1
    have hd' : (j, b, d) ∈ (t.forget p).things := (forget_thing h hf).2 ⟨hd, fun e => ⟨q, e ▸ h1, h2⟩⟩
    have hn : ((t.forget p).things.map (·.1)).Nodup := by
      rcases hc.2.2 with ⟨e, _⟩ | ⟨e, _⟩
      · rw [e]; exact h.ids.sublist ((List.filter_sublist).map _)
      · rw [e]; exact h.ids
    rw [isDir_of h hd]
    unfold Tree.isDir Tree.thing
    generalize (t.forget p).things = l at hd' hn
    induction l with
    | nil => cases hd'
    | cons y r ih =>
      rw [List.map_cons, List.nodup_cons] at hn
      rw [List.find?_cons]
      rcases List.mem_cons.1 hd' with e | hm
      · subst e; simp
      · have hne : y.1 ≠ j := fun e => hn.1 (by rw [e]; exact List.mem_map.2 ⟨_, hm, rfl⟩)
        rw [decide_eq_false hne]
        exact ih hm hn.2
  exact {
    ne := fun q j hm => h.ne _ _ ((hmem q j).1 hm).1
    good := fun q j hm => h.good _ _ ((hmem q j).1 hm).1
    nodup := by rw [hc.1]; exact h.nodup.sublist ((List.filter_sublist).map _)
    up := by
      intro q j hm
      obtain ⟨h1, h2⟩ := (hmem q j).1 hm
      rcases h.up _ _ h1 with e | ⟨k, hk, hd⟩
      · exact Or.inl e
      · have hne : q.dropLast ≠ p := by
          intro e
          have hq := List.dropLast_concat_getLast (h.ne _ _ h1)
          rw [e] at hq
          exact hbelow _ j (by rw [hq]; exact h1)
        have hk' := (hmem _ k).2 ⟨hk, hne⟩
        exact Or.inr ⟨k, hk', by rw [hdir k _ hk']; exact hd⟩
    ids := by
      rcases hc.2.2 with ⟨e, _⟩ | ⟨e, _⟩
      · rw [e]; exact h.ids.sublist ((List.filter_sublist).map _)
      · rw [e]; exact h.ids
    there := by
      intro q j hm
      obtain ⟨h1, h2⟩ := (hmem q j).1 hm
      obtain ⟨h0, b, d, hd⟩ := h.there _ _ h1
      exact ⟨h0, b, d, (forget_thing h hf).2 ⟨hd, fun e => ⟨q, e ▸ h1, h2⟩⟩⟩
    root := by
      obtain ⟨d, hd⟩ := h.root
      exact ⟨d, (forget_thing h hf).2 ⟨hd, fun e => absurd e.symm (h.there _ _ hp).1⟩⟩
    named := by
      intro j b d hm
      obtain ⟨h1, h2⟩ := (forget_thing h hf).1 hm
      rcases h.named _ _ _ h1 with e | ⟨q, hq⟩
      · exact Or.inl e
      · by_cases hqp : q = p
        · subst hqp
          have hji := mem_uniq h hq hp
          obtain ⟨q', hq', hne⟩ := h2 hji
          exact Or.inr ⟨q', (hmem _ _).2 ⟨hji ▸ hq', hne⟩⟩
        · exact Or.inr ⟨q, (hmem _ _).2 ⟨hq, hqp⟩⟩
    one := by
      intro q r j d hm hq hr
      exact h.one _ _ _ _ ((forget_thing h hf).1 hm).1 ((hmem _ _).1 hq).1 ((hmem _ _).1 hr).1
    many := by
      intro j b d hm
      rw [hc.2.1]
      exact h.many _ _ _ ((forget_thing h hf).1 hm).1
    small := fun j d hm => h.small _ _ ((forget_thing h hf).1 hm).1
    empty := fun j d hm => h.empty _ _ ((forget_thing h hf).1 hm).1 }
end
end Go.Proofs.YtmljdnlmpiklgaaGreatDoor.Sp

namespace Go.Proofs.YtmljdnlmpiklgaaGreatDoor.Sp
open Go Txt

/-- A path's beginning turned. -/
def mv (p q : List ByteArray) (x : List ByteArray × Nat) : List ByteArray × Nat := if p <+: x.1 then (q ++ x.1.drop p.length, x.2) else x

theorem nodup_of_map {α β : Type} (f : α → β) : ∀ {l : List α}, (l.map f).Nodup → l.Nodup
  | [], _ => by simp
  | x :: r, h => by
    rw [List.map_cons, List.nodup_cons] at h
    rw [List.nodup_cons]
    exact ⟨fun hm => h.1 (List.mem_map.2 ⟨x, hm, rfl⟩), nodup_of_map f h.2⟩

section
variable {t : Tree}
theorem move_names (h : t.Ok) {p q : List ByteArray} {i : Nat} (hp : (p, i) ∈ t.names) : (t.move (t.isDir i) p q).names = t.names.map (mv p q) := by
  unfold Tree.move
  simp only
  apply List.map_congr_left
  intro x hx
  unfold moved mv
  by_cases hpre : p <+: x.1
  · rw [if_pos hpre, if_pos]
    obtain ⟨r, hr⟩ := hpre
    cases hd : t.isDir i with
    | true => exact Or.inr ⟨rfl, r, hr⟩
    | false =>
      have := below_file h hp hd (r := r) (j := x.2) (by rw [hr]; exact hx)
      subst this
      rw [List.append_nil] at hr
      exact Or.inl hr.symm
  · rw [if_neg hpre, if_neg]
    rintro (e | ⟨_, e⟩)
    · exact hpre (e ▸ List.prefix_refl _)
    · exact hpre e

theorem no_below (h : t.Ok) {q r : List ByteArray} {j : Nat} (hq : t.find q = none) (hq0 : q ≠ []) : (q ++ r, j) ∉ t.names := fun hm => by
  obtain ⟨k, hk, _⟩ := below_there h hq0 r hm
  exact find_none.1 hq k hk

theorem mv_mem {p q : List ByteArray} (r : List ByteArray) (j : Nat) :
    (r, j) ∈ t.names.map (mv p q) ↔ (∃ e, r = q ++ e ∧ (p ++ e, j) ∈ t.names) ∨ (¬ p <+: r ∧ (r, j) ∈ t.names) := by
  rw [List.mem_map]
  constructor
  · rintro ⟨x, hx, e⟩
    unfold mv at e
    split at e
    · rename_i hpre
      obtain ⟨s, hs⟩ := hpre
      have e1 := (Prod.mk.inj e).1
      have e2 := (Prod.mk.inj e).2
      refine Or.inl ⟨s, ?_, ?_⟩
      · rw [← e1, ← hs, List.drop_left]
      · rw [hs, ← e2]; exact hx
    · rename_i hpre
      subst e
      exact Or.inr ⟨hpre, hx⟩
  · rintro (⟨e, rfl, hm⟩ | ⟨hn, hm⟩)
    · refine ⟨_, hm, ?_⟩
      unfold mv
      rw [if_pos (List.prefix_append _ _), List.drop_left]
    · refine ⟨_, hm, ?_⟩
      unfold mv
      rw [if_neg hn]

theorem Tree.Ok.move (h : t.Ok) {p l : List ByteArray} {y : ByteArray} {i k : Nat} (hp : (p, i) ∈ t.names) (hl : t.idOf l = some k) (hd : t.isDir k = true) (hy : nameB y = true) (hq : t.find (l ++ [y]) = none)
    (hloop : t.isDir i = true → ¬ p <+: l ++ [y]) : (t.move (t.isDir i) p (l ++ [y])).Ok := by
  have hp0 := h.ne _ _ hp
  have hq0 : l ++ [y] ≠ [] := by simp
  have hnames := move_names (q := l ++ [y]) h hp
  have hmem : ∀ r j, (r, j) ∈ (t.move (t.isDir i) p (l ++ [y])).names ↔ (∃ e, r = l ++ [y] ++ e ∧ (p ++ e, j) ∈ t.names) ∨ (¬ p <+: r ∧ (r, j) ∈ t.names) := by
    intro r j; rw [hnames]; exact mv_mem r j
  -- the directory of the new place stays where it is
  have hnl : ¬ p <+: l := by
    rintro ⟨e, he⟩
    cases hdi : t.isDir i with
    | true => exact hloop hdi ⟨e ++ [y], by rw [← List.append_assoc, he]⟩
    | false =>
      rcases idOf_mem h hl with ⟨e1, _⟩ | hm
      · subst e1; exact hp0 (List.append_eq_nil_iff.1 he).1
      · have := below_file h hp hdi (r := e) (j := k) (by rw [he]; exact hm)
        subst this
        rw [List.append_nil] at he
        subst he
        have := mem_uniq h hp hm
        subst this
        rw [hdi] at hd
        cases hd
  exact {
    ne := by
      intro r j hm
      rcases (hmem r j).1 hm with ⟨e, rfl, _⟩ | ⟨_, hm2⟩
      · simp
      · exact h.ne _ _ hm2
    good := by
      intro r j hm
      rcases (hmem r j).1 hm with ⟨e, rfl, hm2⟩ | ⟨_, hm2⟩
      · intro s hs
        rcases List.mem_append.1 hs with hs | hs
        · rcases List.mem_append.1 hs with hs | hs
          · exact idOf_good h hl s hs
          · rw [List.mem_singleton.1 hs]; exact hy
        · exact h.good _ _ hm2 s (List.mem_append_right _ hs)
      · exact h.good _ _ hm2
    nodup := by
      rw [hnames, List.map_map]
      have hn : t.names.Nodup := nodup_of_map _ h.nodup
      have hinj : ∀ a ∈ t.names, ∀ b ∈ t.names, (mv p (l ++ [y]) a).1 = (mv p (l ++ [y]) b).1 → a = b := by
        intro a ha b hb e
        have back : ∀ x ∈ t.names, ∀ z ∈ t.names, x.1 = z.1 → x = z := fun x hx z hz e => by
          obtain ⟨x1, x2⟩ := x
          obtain ⟨z1, z2⟩ := z
          simp only at e
          subst e
          rw [mem_uniq h hx hz]
        unfold mv at e
        by_cases hpa : p <+: a.1
        · by_cases hpb : p <+: b.1
          · rw [if_pos hpa, if_pos hpb] at e
            obtain ⟨ra, hra⟩ := hpa
            obtain ⟨rb, hrb⟩ := hpb
            rw [← hra, ← hrb, List.drop_left, List.drop_left] at e
            exact back a ha b hb (by rw [← hra, ← hrb, List.append_cancel_left e])
          · rw [if_pos hpa, if_neg hpb] at e
            exact absurd (show (l ++ [y] ++ a.1.drop p.length, b.2) ∈ t.names by simp only at e; rw [e]; exact hb) (no_below h hq hq0)
        · by_cases hpb : p <+: b.1
          · rw [if_neg hpa, if_pos hpb] at e
            exact absurd (show (l ++ [y] ++ b.1.drop p.length, a.2) ∈ t.names by simp only at e; rw [← e]; exact ha) (no_below h hq hq0)
          · rw [if_neg hpa, if_neg hpb] at e
            exact back a ha b hb e
      generalize t.names = L at hn hinj
      induction L with
      | nil => simp
      | cons x r ih =>
        rw [List.nodup_cons] at hn
        rw [List.map_cons, List.nodup_cons]
        refine ⟨fun hm => ?_, ih hn.2 (fun a ha b hb => hinj a (List.mem_cons_of_mem _ ha) b (List.mem_cons_of_mem _ hb))⟩
        obtain ⟨z, hz, e⟩ := List.mem_map.1 hm
        have := hinj x (by simp) z (List.mem_cons_of_mem _ hz) e.symm
        subst this
        exact hn.1 hz
    up := by
      intro r j hm
      rcases (hmem r j).1 hm with ⟨e, rfl, hm2⟩ | ⟨hn, hm2⟩
      · by_cases he : e = []
        · subst he
          rw [List.append_nil, List.dropLast_concat]
          rcases idOf_mem h hl with ⟨e1, _⟩ | hm3
          · exact Or.inl e1
          · exact Or.inr ⟨k, (hmem _ _).2 (Or.inr ⟨hnl, hm3⟩), hd⟩
        · obtain ⟨f, z, rfl⟩ : ∃ f z, e = f ++ [z] := ⟨e.dropLast, e.getLast he, (List.dropLast_concat_getLast he).symm⟩
          rw [← List.append_assoc] at hm2 ⊢
          rw [List.dropLast_concat]
          rcases h.up _ _ hm2 with e1 | ⟨k', hk', hd'⟩
          · rw [List.dropLast_concat] at e1
            exact absurd (List.append_eq_nil_iff.1 e1).1 hp0
          · rw [List.dropLast_concat] at hk'
            exact Or.inr ⟨k', (hmem _ _).2 (Or.inl ⟨f, rfl, hk'⟩), hd'⟩
      · rcases h.up _ _ hm2 with e1 | ⟨k', hk', hd'⟩
        · exact Or.inl e1
        · refine Or.inr ⟨k', (hmem _ _).2 (Or.inr ⟨fun hpre => hn (hpre.trans (List.dropLast_prefix r)), hk'⟩), hd'⟩
    ids := h.ids
    there := by
      intro r j hm
      rcases (hmem r j).1 hm with ⟨e, rfl, hm2⟩ | ⟨_, hm2⟩
      · exact h.there _ _ hm2
      · exact h.there _ _ hm2
    root := h.root
    named := by
      intro j b d hm
      rcases h.named _ _ _ hm with e | ⟨r, hr⟩
      · exact Or.inl e
      · by_cases hpre : p <+: r
        · obtain ⟨e, he⟩ := hpre
          exact Or.inr ⟨_, (hmem _ _).2 (Or.inl ⟨e, rfl, by rw [he]; exact hr⟩)⟩
        · exact Or.inr ⟨r, (hmem _ _).2 (Or.inr ⟨hpre, hr⟩)⟩
    one := by
      intro r s j d hm hr hs
      rcases (hmem r j).1 hr with ⟨e, rfl, hr2⟩ | ⟨hn, hr2⟩
      · rcases (hmem s j).1 hs with ⟨f, rfl, hs2⟩ | ⟨hn2, hs2⟩
        · have := h.one _ _ _ _ hm hr2 hs2
          rw [List.append_cancel_left this]
        · have := h.one _ _ _ _ hm hr2 hs2
          exact absurd (this ▸ List.prefix_append _ _) hn2
      · rcases (hmem s j).1 hs with ⟨f, rfl, hs2⟩ | ⟨hn2, hs2⟩
        · have := h.one _ _ _ _ hm hr2 hs2
          exact absurd (this ▸ List.prefix_append _ _) hn
        · exact h.one _ _ _ _ hm hr2 hs2
    many := h.many
    small := h.small
    empty := h.empty }

/-- What is found behind a rename. -/
theorem find_move (h : t.Ok) {p l : List ByteArray} {y : ByteArray} {i k : Nat} (hp : (p, i) ∈ t.names) (hl : t.idOf l = some k) (hd : t.isDir k = true) (hy : nameB y = true) (hq : t.find (l ++ [y]) = none)
    (hloop : t.isDir i = true → ¬ p <+: l ++ [y]) (r : List ByteArray) :
    (t.move (t.isDir i) p (l ++ [y])).find r = if l ++ [y] <+: r then t.find (p ++ r.drop (l ++ [y]).length) else if p <+: r then none else t.find r := by
  have hok := h.move hp hl hd hy hq hloop
  have hmem : ∀ r j, (r, j) ∈ (t.move (t.isDir i) p (l ++ [y])).names ↔ (∃ e, r = l ++ [y] ++ e ∧ (p ++ e, j) ∈ t.names) ∨ (¬ p <+: r ∧ (r, j) ∈ t.names) := by
    intro r j; rw [move_names h hp]; exact mv_mem r j
  have hext : ∀ (a b : Option Nat), (∀ j, a = some j ↔ b = some j) → a = b := by
    intro a b hab
    cases a with
    | none =>
      cases b with
      | none => rfl
      | some j => exact absurd ((hab j).2 rfl) (by simp)
    | some j => exact ((hab j).1 rfl).symm
  apply hext
  intro j
  rw [find_mem hok, hmem]
  by_cases hqr : l ++ [y] <+: r
  · rw [if_pos hqr, find_mem h]
    obtain ⟨e, rfl⟩ := hqr
    rw [List.drop_left]
    constructor
    · rintro (⟨f, hf, hm⟩ | ⟨_, hm⟩)
      · rw [List.append_cancel_left hf]; exact hm
      · exact absurd hm (no_below h hq (by simp))
    · intro hm
      exact Or.inl ⟨e, rfl, hm⟩
  · rw [if_neg hqr]
    by_cases hpr : p <+: r
    · rw [if_pos hpr]
      constructor
      · rintro (⟨f, hf, _⟩ | ⟨hn, _⟩)
        · exact absurd ⟨f, hf.symm⟩ hqr
        · exact absurd hpr hn
      · intro e; cases e
    · rw [if_neg hpr, find_mem h]
      constructor
      · rintro (⟨f, hf, _⟩ | ⟨_, hm⟩)
        · exact absurd ⟨f, hf.symm⟩ hqr
        · exact hm
      · intro hm; exact Or.inr ⟨hpr, hm⟩

theorem move_links (dir : Bool) (p q : List ByteArray) (j : Nat) : (t.move dir p q).links j = t.links j := by
  unfold Tree.links Tree.move
  simp only
  rw [List.countP_map]
  apply List.countP_congr
  intro x _
  unfold moved
  simp only [Function.comp_apply]
  split <;> rfl
end
end Go.Proofs.YtmljdnlmpiklgaaGreatDoor.Sp

namespace Go.Proofs.YtmljdnlmpiklgaaGreatDoor.Sp
open Go Txt

section
variable {t : Tree}
theorem kidsL_mem {p : List ByteArray} {s : ByteArray} : s ∈ t.kidsL p ↔ ∃ j, (p ++ [s], j) ∈ t.names := by
  unfold Tree.kidsL
  rw [List.mem_filterMap]
  constructor
  · rintro ⟨x, hx, hs⟩
    split at hs
    · rename_i hd
      obtain ⟨q, j⟩ := x
      simp only at hd hs
      obtain ⟨hne, rfl⟩ : ∃ h : q ≠ [], s = q.getLast h := by
        cases q with
        | nil => simp at hs
        | cons a r => exact ⟨by simp, by rw [List.getLast?_eq_some_getLast (by simp)] at hs; exact (Option.some.inj hs).symm⟩
      refine ⟨j, ?_⟩
      rw [← hd, List.dropLast_concat_getLast hne]
      exact hx
    · cases hs
  · rintro ⟨j, hj⟩
    refine ⟨_, hj, ?_⟩
    simp
theorem kidsL_nil {p : List ByteArray} (h : t.kidsL p = []) (s : ByteArray) (j : Nat) : (p ++ [s], j) ∉ t.names := fun hm => by
  have := kidsL_mem.2 ⟨j, hm⟩
  rw [h] at this
  cases this

theorem isDir_forget (h : t.Ok) {p : List ByteArray} {i : Nat} (hf : t.find p = some i) (hbelow : ∀ s j, (p ++ [s], j) ∉ t.names) {q : List ByteArray} {j : Nat} (hq : t.idOf q = some j) (hne : q ≠ p) : (t.forget p).isDir j = t.isDir j := by
  have hok := h.forget hf hbelow
  have hthere := there_idOf h hq
  refine isDir_of hok ((forget_thing h hf).2 ⟨hthere, fun e => ?_⟩)
  subst e
  rcases idOf_mem h hq with ⟨_, e0⟩ | hm
  · exact absurd e0 (h.there _ _ ((find_mem h).1 hf)).1
  · exact ⟨q, hm, hne⟩

theorem Tree.Ok.set (h : t.Ok) {i : Nat} {d d' : ByteArray} (hi : (i, false, d) ∈ t.things) (hs : d'.size ≤ 2560) : (t.set i d').Ok := by
  have hmem : ∀ j b e, (j, b, e) ∈ (t.set i d').things ↔ (j ≠ i ∧ (j, b, e) ∈ t.things) ∨ (j = i ∧ b = false ∧ e = d') := by
    intro j b e
    show (j, b, e) ∈ t.things.map _ ↔ _
    rw [List.mem_map]
    constructor
    · rintro ⟨x, hx, he⟩
      obtain ⟨a, c, f⟩ := x
      simp only at he
      split at he
      · rename_i ha
        subst ha
        cases he
        have := isDir_of h hx
        rw [isDir_of h hi] at this
        exact Or.inr ⟨rfl, this.symm, rfl⟩
      · rename_i ha
        cases he
        exact Or.inl ⟨ha, hx⟩
    · rintro (⟨hne, hm⟩ | ⟨rfl, rfl, rfl⟩)
      · exact ⟨_, hm, by simp [hne]⟩
      · exact ⟨_, hi, by simp⟩
  have hids : (t.set i d').things.map (·.1) = t.things.map (·.1) := by
    show (t.things.map _).map _ = _
    rw [List.map_map]
    apply List.map_congr_left
    intro x _
    simp only [Function.comp_apply]
    split <;> rfl
  have hn : ((t.set i d').things.map (·.1)).Nodup := by rw [hids]; exact h.ids
  have hthere : ∀ j b e, (j, b, e) ∈ t.things → ∃ e', (j, b, e') ∈ (t.set i d').things := by
    intro j b e hm
    by_cases hj : j = i
    · subst hj
      have := isDir_of h hm
      rw [isDir_of h hi] at this
      exact ⟨d', (hmem _ _ _).2 (Or.inr ⟨rfl, this.symm, rfl⟩)⟩
    · exact ⟨e, (hmem _ _ _).2 (Or.inl ⟨hj, hm⟩)⟩
  have hback : ∀ j b e, (j, b, e) ∈ (t.set i d').things → ∃ e', (j, b, e') ∈ t.things := by
    intro j b e hm
    rcases (hmem _ _ _).1 hm with ⟨_, hm⟩ | ⟨rfl, rfl, rfl⟩
    · exact ⟨_, hm⟩
    · exact ⟨_, hi⟩
  have hdir : ∀ j b e, (j, b, e) ∈ (t.set i d').things → (t.set i d').isDir j = b := by
    intro j b e hd'
    unfold Tree.isDir Tree.thing
    generalize (t.set i d').things = l at hd' hn
    induction l with
    | nil => cases hd'
    | cons y r ih =>
      rw [List.map_cons, List.nodup_cons] at hn
      rw [List.find?_cons]
      rcases List.mem_cons.1 hd' with e | hm
      · subst e; simp
      · have hne : y.1 ≠ j := fun e => hn.1 (by rw [e]; exact List.mem_map.2 ⟨_, hm, rfl⟩)
        rw [decide_eq_false hne]
        exact ih hm hn.2
  exact {
    ne := h.ne
    good := h.good
    nodup := h.nodup
    up := by
      intro p j hm
      rcases h.up _ _ hm with e | ⟨k, hk, hd⟩
      · exact Or.inl e
      · obtain ⟨_, b, e, he⟩ := h.there _ _ hk
        obtain ⟨e', he'⟩ := hthere _ _ _ he
        refine Or.inr ⟨k, hk, ?_⟩
        rw [hdir _ _ _ he', ← isDir_of h he]
        exact hd
    ids := hn
    there := by
      intro p j hm
      obtain ⟨h0, b, e, he⟩ := h.there _ _ hm
      obtain ⟨e', he'⟩ := hthere _ _ _ he
      exact ⟨h0, b, e', he'⟩
    root := by
      obtain ⟨d, hd⟩ := h.root
      exact hthere _ _ _ hd
    named := by
      intro j b e hm
      obtain ⟨e', he'⟩ := hback _ _ _ hm
      exact h.named _ _ _ he'
    one := by
      intro p q j e hm hp hq
      obtain ⟨e', he'⟩ := hback _ _ _ hm
      exact h.one _ _ _ _ he' hp hq
    many := by
      intro j b e hm
      obtain ⟨e', he'⟩ := hback _ _ _ hm
      exact h.many _ _ _ he'
    small := by
      intro j e hm
      rcases (hmem _ _ _).1 hm with ⟨_, hm⟩ | ⟨rfl, _, rfl⟩
      · exact h.small _ _ hm
      · exact hs
    empty := by
      intro j e hm
      rcases (hmem _ _ _).1 hm with ⟨_, hm⟩ | ⟨_, hb, _⟩
      · exact h.empty _ _ hm
      · cases hb }

theorem stretch_length (d : List UInt8) (n : Nat) : (stretch d n).length = n := by
  unfold stretch
  rw [List.length_append, List.length_take, List.length_replicate]
  omega
theorem writeL_length (d : List UInt8) (off : Nat) (s : List UInt8) : (writeL d off s).length = max d.length (off + s.length) := by
  unfold writeL
  rw [List.length_append, List.length_append, List.length_take, List.length_drop, stretch_length]
  omega

theorem at_ok (t : Tree) {path : ByteArray} (h : (t.at path).2 = 0) : splitN path = (full path, 0) ∧ t.walk [] (full path) 0 = ((t.at path).1, 0) ∧ t.idOf (full path) = some (t.at path).1 := by
  unfold Tree.at at h
  split at h
  · rename_i hs
    have e : splitN path = (full path, 0) := by unfold full; rw [← hs]
    have hw : t.walk [] (full path) 0 = ((t.at path).1, 0) := by
      unfold Tree.at
      rw [if_pos hs]
      show t.walk [] (splitN path).1 0 = _
      rw [← h]
    exact ⟨e, hw, walk_ok _ hw idOf_nil⟩
  · exact absurd h (by assumption)

theorem Tree.Ok.make (h : t.Ok) (path : ByteArray) (dir : Bool) : (t.make path dir).1.Ok := by
  unfold Tree.make
  rcases dirTo t path with ⟨c, h1, h2, h3⟩ | ⟨l, x, c, h1, h2, h3, h4⟩ | ⟨l, x, i, h1, h2, h3, h4⟩ | ⟨l, x, i, h1, h2, h3, h4, h5, h6⟩
  · rw [h3, if_neg (beq_eq_false_iff_ne.1 h2)]; exact h
  · rw [h4, if_neg (beq_eq_false_iff_ne.1 h3)]; exact h
  · rw [h4, if_neg (by decide)]; exact h
  · rw [h4, if_pos rfl, h5]
    cases hf : t.find (l ++ [x]) with
    | none => exact h.grown (walk_ok _ h2 idOf_nil) h3 h6 hf
    | some j => exact h

theorem Tree.Ok.link (h : t.Ok) (path to : ByteArray) : (t.link path to).1.Ok := by
  unfold Tree.link
  split
  · rename_i ha
    obtain ⟨_, _, hid⟩ := at_ok t ha
    split
    · exact h
    · rename_i hd
      rcases dirTo t to with ⟨c, h1, h2, h3⟩ | ⟨l, x, c, h1, h2, h3, h4⟩ | ⟨l, x, i, h1, h2, h3, h4⟩ | ⟨l, x, i, h1, h2, h3, h4, h5, h6⟩
      · rw [h3, if_neg (beq_eq_false_iff_ne.1 h2)]; exact h
      · rw [h4, if_neg (beq_eq_false_iff_ne.1 h3)]; exact h
      · rw [h4, if_neg (by decide)]; exact h
      · rw [h4, if_pos rfl, h5]
        cases hf : t.find (l ++ [x]) with
        | some j => exact h
        | none =>
          simp only [Option.isSome_none, Bool.false_eq_true, if_false]
          split
          · exact h
          · have hth := there_idOf h hid
            rw [Bool.not_eq_true _ |>.mp hd] at hth
            refine h.named_ (walk_ok _ h2 idOf_nil) h3 h6 hf hth (fun e => ?_)
            obtain ⟨d, hr⟩ := h.root
            rw [e] at hd
            exact hd (isDir_of h hr)
  · exact h

theorem nothing_below (h : t.Ok) {p : List ByteArray} {i : Nat} (hf : t.find p = some i) (hk : t.isDir i = true → t.kidsL p = []) : ∀ s j, (p ++ [s], j) ∉ t.names := by
  intro s j hm
  cases hd : t.isDir i with
  | true => exact kidsL_nil (hk hd) s j hm
  | false =>
    have := below_file h ((find_mem h).1 hf) hd hm
    cases this

theorem Tree.Ok.remove (h : t.Ok) (path : ByteArray) (dir : Bool) : (t.remove path dir).1.Ok := by
  unfold Tree.remove
  split
  · split
    · exact h
    · rename_i i hf
      split
      · exact h
      · rename_i c1
        split
        · exact h
        · rename_i c2
          split
          · exact h
          · rename_i c3
            refine h.forget hf (nothing_below h hf fun hd => ?_)
            cases dir with
            | false => exact absurd ⟨hd, rfl⟩ c1
            | true => simpa using c3
  · exact h

theorem Tree.Ok.rename (h : t.Ok) (path to : ByteArray) : (t.rename path to).1.Ok := by
  unfold Tree.rename
  split
  · split
    · exact h
    · rename_i i hf
      split
      · split
        · exact h
        · rename_i hloop
          split
          · rename_i hdc
            rcases dirTo t to with ⟨c, h1, h2, h3⟩ | ⟨l, x, c, h1, h2, h3, h4⟩ | ⟨l, x, k, h1, h2, h3, h4⟩ | ⟨l, x, k, h1, h2, h3, h4, h5, h6⟩
            · exact absurd (hdc.symm.trans h3).symm (beq_eq_false_iff_ne.1 h2)
            · exact absurd (hdc.symm.trans h4).symm (beq_eq_false_iff_ne.1 h3)
            · exact absurd (hdc.symm.trans h4) (by decide)
            · have hp := (find_mem h).1 hf
              have hl : t.idOf l = some k := walk_ok _ h2 idOf_nil
              have hpt : ∀ (hne : t.find (full to) ≠ some i), path ≠ to := fun hne e => hne (by rw [← e]; exact hf)
              cases hq : t.find (full to) with
              | none =>
                simp only
                rw [h5] at hq hloop ⊢
                exact h.move hp hl h3 h6 hq (fun hd hpre => hloop ⟨hd, hpre, hpt (by rw [h5, hq]; simp)⟩)
              | some j =>
                simp only
                split
                · exact h
                · rename_i hij
                  split
                  · exact h
                  · rename_i c1
                    split
                    · exact h
                    · rename_i c2
                      split
                      · exact h
                      · rename_i c3
                        have hne : path ≠ to := hpt (by rw [hq]; intro e; exact hij (Option.some.inj e).symm)
                        have hpq : full path ≠ full to := fun e => hij (by rw [e] at hf; rw [hf] at hq; exact Option.some.inj hq)
                        have hbelow := nothing_below h hq (fun hd => by
                          have := not_and.1 c3 hd
                          simpa using this)
                        have hok1 := h.forget hq hbelow
                        have hf1 : (t.forget (full to)).find (full path) = some i := by rw [find_forget h hq, if_neg hpq]; exact hf
                        have hd1 : (t.forget (full to)).isDir i = t.isDir i := isDir_forget h hq hbelow (find_idOf h hf) hpq
                        have hlq : l ≠ full to := by rw [h5]; intro e; have := congrArg List.length e; simp at this
                        have hl1 : (t.forget (full to)).idOf l = some k := by
                          unfold Tree.idOf at hl ⊢
                          split
                          · rename_i e; rw [if_pos e] at hl; exact hl
                          · rename_i e; rw [if_neg e] at hl; rw [find_forget h hq, if_neg hlq]; exact hl
                        have hk1 : (t.forget (full to)).isDir k = true := by rw [isDir_forget h hq hbelow hl hlq]; exact h3
                        have hq1 : (t.forget (full to)).find (full to) = none := by rw [find_forget h hq, if_pos rfl]
                        have := hok1.move (y := x) (l := l) ((find_mem hok1).1 hf1) hl1 hk1 h6 (by rw [← h5]; exact hq1) (fun hd hpre => hloop ⟨by rw [← hd1]; exact hd, by rw [h5]; exact hpre, hne⟩)
                        rw [hd1, ← h5] at this
                        exact this
          · exact h
      · exact h
  · exact h

theorem Tree.Ok.bytes (h : t.Ok) (o : Op) : (t.bytes o).1.Ok := by
  unfold Tree.bytes
  split
  · rename_i hfile
    have hth : ∃ d, ((t.file o.path).1, false, d) ∈ t.things := by
      unfold Tree.file at hfile ⊢
      split at hfile
      · rename_i ha
        split at hfile
        · cases hfile
        · rename_i hd
          rw [if_pos ha, if_neg hd]
          have := there_idOf h (at_ok t ha).2.2
          rw [Bool.not_eq_true _ |>.mp hd] at this
          exact ⟨_, this⟩
      · exact absurd hfile (by assumption)
    obtain ⟨d, hth⟩ := hth
    have hsmall := h.small _ _ hth
    have hdata := dataOf_of h hth
    split
    · split <;> exact h
    · split
      · split
        · exact h
        · rename_i c1
          split
          · exact h
          · rename_i c2
            split
            · exact h
            · refine h.set hth ?_
              rw [Lib.size_eq, ofL_data, writeL_length, hdata, ← Lib.size_eq, ← Lib.size_eq]
              omega
      · split
        · exact h
        · split
          · exact h
          · refine h.set hth ?_
            rw [Lib.size_eq, ofL_data, stretch_length]
            omega
  · exact h

theorem Tree.Ok.step (h : t.Ok) (o : Op) : (t.step o).1.Ok := by
  unfold Tree.step
  split
  · exact h.make _ _
  split
  · exact h.make _ _
  split
  · exact h.link _ _
  split
  · exact h.remove _ _
  split
  · exact h.remove _ _
  split
  · exact h.rename _ _
  split
  · exact h.bytes _
  split
  · exact h
  · exact h
end
end Go.Proofs.YtmljdnlmpiklgaaGreatDoor.Sp

namespace Go.Proofs.YtmljdnlmpiklgaaGreatDoor.Sp
open Go Txt

def pf : ByteArray := ⟨#[47, 102]⟩
def nf : ByteArray := ⟨#[102]⟩
def noText : ByteArray := ⟨#[]⟩
/-- A tree of one file, f. -/
def fileT (d : ByteArray) : Tree := ⟨[([nf], 1)], [(0, true, noText), (1, false, d)], 1⟩
theorem split_pf : splitN pf = ([nf], 0) := by decide
theorem fileT_isDir0 (d : ByteArray) : (fileT d).isDir 0 = true := rfl
theorem fileT_isDir1 (d : ByteArray) : (fileT d).isDir 1 = false := rfl
theorem fileT_data (d : ByteArray) : (fileT d).dataOf 1 = d := rfl
theorem fileT_find (d : ByteArray) : (fileT d).find [nf] = some 1 := by unfold Tree.find fileT; simp
theorem fileT_at (d : ByteArray) : (fileT d).at pf = (1, 0) := by
  unfold Tree.at
  rw [split_pf, if_pos rfl]
  unfold Tree.walk
  rw [if_pos (fileT_isDir0 d)]
  rw [show ([] : List ByteArray) ++ [nf] = [nf] from rfl, fileT_find]
  rfl
theorem fileT_file (d : ByteArray) : (fileT d).file pf = (1, 0) := by
  unfold Tree.file
  rw [fileT_at, if_pos rfl, if_neg (by rw [fileT_isDir1]; simp)]
theorem fileT_set (d e : ByteArray) : (fileT d).set 1 e = fileT e := rfl
theorem step_first : Sp.new.step ⟨1, pf, noText, 0, 0, noText⟩ = (fileT noText, {}) := by
  have h : Sp.new.make pf false = (fileT noText, 0) := by rfl
  unfold Tree.step
  rw [if_pos rfl, h]

section
variable (d : ByteArray)
theorem step_trunc {n : Nat} (h : n ≤ 2560) : (fileT d).step ⟨9, pf, noText, 0, n, noText⟩ = (fileT (ofL (stretch d.data.toList n)), {}) := by
  have hb : (fileT d).bytes ⟨9, pf, noText, 0, n, noText⟩ = (fileT (ofL (stretch d.data.toList n)), ofL [], 0) := by
    unfold Tree.bytes
    simp only
    rw [fileT_file, if_pos rfl, if_neg (by omega), if_neg (by omega), if_neg (by omega), if_neg (by omega)]
    rfl
  unfold Tree.step
  simp only
  rw [hb]
  rfl
theorem step_write {n : Nat} {s : ByteArray} (h : n ≤ 2560) (hs : s.size ≠ 0) (hf : s.size ≤ 2560 - n) : (fileT d).step ⟨8, pf, noText, n, 0, s⟩ = (fileT (ofL (writeL d.data.toList n s.data.toList)), {}) := by
  have hb : (fileT d).bytes ⟨8, pf, noText, n, 0, s⟩ = (fileT (ofL (writeL d.data.toList n s.data.toList)), ofL [], 0) := by
    unfold Tree.bytes
    simp only
    rw [fileT_file, if_pos rfl, if_neg (by omega), if_pos trivial, if_neg (by omega), if_neg (by omega), if_neg hs]
    rfl
  unfold Tree.step
  simp only
  rw [hb]
  rfl
theorem step_big {n : Nat} {s : ByteArray} (h : n ≤ 2560) (hf : 2560 - n < s.size) : (fileT d).step ⟨8, pf, noText, n, 0, s⟩ = (fileT d, { code := 106 }) := by
  have hb : (fileT d).bytes ⟨8, pf, noText, n, 0, s⟩ = (fileT d, ofL [], 106) := by
    unfold Tree.bytes
    simp only
    rw [fileT_file, if_pos rfl, if_neg (by omega), if_pos trivial, if_neg (by omega), if_pos (by omega)]
  unfold Tree.step
  simp only
  rw [hb]
  rfl
theorem step_read (off len : Nat) : (fileT d).step ⟨7, pf, noText, off, len, noText⟩ = (fileT d, { data := ofL (piece d.data.toList off len) }) := by
  have hb : (fileT d).bytes ⟨7, pf, noText, off, len, noText⟩ = (fileT d, ofL (piece d.data.toList off len), 0) := by
    unfold Tree.bytes
    simp only
    rw [fileT_file, if_pos rfl, if_pos trivial, if_neg (by omega)]
    rfl
  unfold Tree.step
  simp only
  rw [hb]
  rfl
theorem step_stat : (fileT d).step ⟨10, pf, noText, 0, 0, noText⟩ = (fileT d, { kind := 1, links := 1, size := d.size }) := by
  have hb : (fileT d).tell ⟨10, pf, noText, 0, 0, noText⟩ = { kind := 1, links := 1, size := d.size } := by
    unfold Tree.tell
    simp only
    rw [fileT_at, if_pos rfl, if_pos trivial, if_neg (by rw [fileT_isDir1]; simp), fileT_data]
    rfl
  unfold Tree.step
  simp only
  rw [hb]
  rfl
end

/-- How a write lays its bytes: stretched, then copied over. -/
theorem writeL_over (d : List UInt8) (n : Nat) (s : List UInt8) : (stretch d (max d.length (n + s.length))).take n ++ (s ++ (stretch d (max d.length (n + s.length))).drop (n + s.length)) = writeL d n s := by
  unfold writeL
  rw [List.append_assoc]

/-- An operation makes a tree longer by one name at most. -/
theorem move_length (t : Tree) (dir : Bool) (p q : List ByteArray) : (t.move dir p q).names.length = t.names.length := List.length_map _
theorem forget_length (t : Tree) (p : List ByteArray) : (t.forget p).names.length ≤ t.names.length := by
  unfold Tree.forget
  cases t.find p with
  | none => exact Nat.le_refl _
  | some i =>
    simp only
    split <;> exact List.length_filter_le _ _
theorem set_length (t : Tree) (i : Nat) (d : ByteArray) : (t.set i d).names.length = t.names.length := rfl
theorem step_length (t : Tree) (o : Op) : (t.step o).1.names.length ≤ t.names.length + 1 := by
  unfold Tree.step
  split
  · simp only; unfold Tree.make; split
    · split
      · exact Nat.le_succ _
      · simp
    · exact Nat.le_succ _
  split
  · simp only; unfold Tree.make; split
    · split
      · exact Nat.le_succ _
      · simp
    · exact Nat.le_succ _
  split
  · simp only; unfold Tree.link; split
    · split
      · exact Nat.le_succ _
      · split
        · split
          · exact Nat.le_succ _
          · split
            · exact Nat.le_succ _
            · simp
        · exact Nat.le_succ _
    · exact Nat.le_succ _
  have hrem : ∀ path dir, (t.remove path dir).1.names.length ≤ t.names.length + 1 := by
    intro path dir
    unfold Tree.remove
    split
    · split
      · exact Nat.le_succ _
      · split
        · exact Nat.le_succ _
        · split
          · exact Nat.le_succ _
          · split
            · exact Nat.le_succ _
            · exact Nat.le_succ_of_le (forget_length _ _)
    · exact Nat.le_succ _
  split
  · exact hrem _ _
  split
  · exact hrem _ _
  split
  · simp only; unfold Tree.rename; split
    · split
      · exact Nat.le_succ _
      · split
        · split
          · exact Nat.le_succ _
          · split
            · split
              · rw [move_length]; exact Nat.le_succ _
              · split
                · exact Nat.le_succ _
                · split
                  · exact Nat.le_succ _
                  · split
                    · exact Nat.le_succ _
                    · split
                      · exact Nat.le_succ _
                      · rw [move_length]; exact Nat.le_succ_of_le (forget_length _ _)
            · exact Nat.le_succ _
        · exact Nat.le_succ _
    · exact Nat.le_succ _
  split
  · simp only; unfold Tree.bytes; split
    · split
      · split <;> exact Nat.le_succ _
      · split
        · split
          · exact Nat.le_succ _
          · split
            · exact Nat.le_succ _
            · split
              · exact Nat.le_succ _
              · rw [set_length]; exact Nat.le_succ _
        · split
          · exact Nat.le_succ _
          · split
            · exact Nat.le_succ _
            · rw [set_length]; exact Nat.le_succ _
    · exact Nat.le_succ _
  split
  · exact Nat.le_succ _
  · exact Nat.le_succ _
theorem links_few (t : Tree) (i : Nat) : t.links i ≤ t.names.length := List.countP_le_length
theorem kids_few (t : Tree) (p : List ByteArray) : (t.kidsL p).length ≤ t.names.length := List.length_filterMap_le _ _

/-- The trees behind operations. -/
def Tree.steps (t : Tree) (l : List Op) : Tree := l.foldl (fun t o => (t.step o).1) t
theorem steps_snoc (t : Tree) (l : List Op) (o : Op) : t.steps (l ++ [o]) = ((t.steps l).step o).1 := by
  unfold Tree.steps
  rw [List.foldl_append]
  rfl
theorem steps_ok {t : Tree} (h : t.Ok) : ∀ (l : List Op), (t.steps l).Ok := by
  intro l
  induction l generalizing t with
  | nil => exact h
  | cons o r ih => exact ih (h.step o)
theorem steps_length (t : Tree) : ∀ (l : List Op), (t.steps l).names.length ≤ t.names.length + l.length := by
  intro l
  induction l generalizing t with
  | nil => exact Nat.le_refl _
  | cons o r ih =>
    have h1 := ih (t.step o).1
    have h2 := step_length t o
    show ((t.step o).1.steps r).names.length ≤ _
    rw [List.length_cons]
    omega

/-- The chapter's example. -/
def pa : ByteArray := ⟨#[47, 97]⟩
def paf : ByteArray := ⟨#[47, 97, 47, 102]⟩
def na : ByteArray := ⟨#[97]⟩
def exT (l : List UInt8) : Tree := ⟨[([na], 1), ([na, nf], 2)], [(0, true, noText), (1, true, noText), (2, false, ofL l)], 2⟩
theorem ex1 : Sp.new.step ⟨2, pa, noText, 0, 0, noText⟩ = (⟨[([na], 1)], [(0, true, noText), (1, true, noText)], 1⟩, {}) := by
  have h : Sp.new.make pa true = (⟨[([na], 1)], [(0, true, noText), (1, true, noText)], 1⟩, 0) := by rfl
  unfold Tree.step
  simp only
  rw [h]
  rfl
theorem ex2 : (⟨[([na], 1)], [(0, true, noText), (1, true, noText)], 1⟩ : Tree).step ⟨1, paf, noText, 0, 0, noText⟩ = (exT [], {}) := by
  have h : (⟨[([na], 1)], [(0, true, noText), (1, true, noText)], 1⟩ : Tree).make paf false = (exT [], 0) := by rfl
  unfold Tree.step
  simp only
  rw [h]
  rfl
theorem ex3 : (exT []).step ⟨8, paf, noText, 2, 0, ⟨#[120, 121]⟩⟩ = (exT [0, 0, 120, 121], {}) := by
  have h : (exT []).bytes ⟨8, paf, noText, 2, 0, ⟨#[120, 121]⟩⟩ = (exT [0, 0, 120, 121], noText, 0) := by rfl
  unfold Tree.step
  simp only
  rw [h]
  rfl
theorem ex4 : (exT [0, 0, 120, 121]).step ⟨7, paf, noText, 0, 9, noText⟩ = (exT [0, 0, 120, 121], { data := ⟨#[0, 0, 120, 121]⟩ }) := by
  have h : (exT [0, 0, 120, 121]).bytes ⟨7, paf, noText, 0, 9, noText⟩ = (exT [0, 0, 120, 121], ⟨#[0, 0, 120, 121]⟩, 0) := by rfl
  unfold Tree.step
  simp only
  rw [h]
  rfl
end Go.Proofs.YtmljdnlmpiklgaaGreatDoor.Sp

namespace Go.Proofs.YtmljdnlmpiklgaaGreatDoor.Sp
open Go Txt

theorem filter_or {α : Type} (a b : α → Bool) : ∀ (l : List α), (∀ x ∈ l, a x = true → b x = true → False) → (l.filter (fun x => a x || b x)).Perm (l.filter a ++ l.filter b)
  | [], _ => List.Perm.refl _
  | x :: r, h => by
    have ih := filter_or a b r (fun y hy => h y (List.mem_cons_of_mem _ hy))
    have hx := h x (by simp)
    cases ha : a x with
    | true =>
      have hb : b x = false := by
        cases hb : b x with
        | true => exact (hx ha hb).elim
        | false => rfl
      rw [List.filter_cons_of_pos (by simp [ha]), List.filter_cons_of_pos ha, List.filter_cons_of_neg (by simp [hb])]
      exact ih.cons x
    | false =>
      cases hb : b x with
      | true =>
        rw [List.filter_cons_of_pos (by simp [hb]), List.filter_cons_of_neg (by simp [ha]), List.filter_cons_of_pos hb]
        exact (ih.cons x).trans List.perm_middle.symm
      | false =>
        rw [List.filter_cons_of_neg (by simp [ha, hb]), List.filter_cons_of_neg (by simp [ha]), List.filter_cons_of_neg (by simp [hb])]
        exact ih

section
variable {t : Tree}
def belowL (t : Tree) (p : List ByteArray) : List (List ByteArray × Nat) := t.names.filter (fun x => decide (p <+: x.1 ∧ x.1 ≠ p))
/-- The name right below p. -/
def next (p : List ByteArray) (x : List ByteArray × Nat) : ByteArray := x.1.getD p.length ⟨#[]⟩
def doneL (t : Tree) (p : List ByteArray) (dn : ByteArray → Bool) : List (List ByteArray × Nat) := t.names.filter (fun x => decide (p <+: x.1 ∧ x.1 ≠ p) && dn (next p x))
theorem doneL_none (p : List ByteArray) : doneL t p (fun _ => false) = [] := by
  unfold doneL
  rw [List.filter_eq_nil_iff]
  intro x _
  simp

theorem next_iff (p : List ByteArray) (s : ByteArray) (x : List ByteArray × Nat) : (decide (p <+: x.1 ∧ x.1 ≠ p) && decide (next p x = s)) = decide (p ++ [s] <+: x.1) := by
  rw [Bool.eq_iff_iff, Bool.and_eq_true, decide_eq_true_iff, decide_eq_true_iff, decide_eq_true_iff]
  constructor
  · rintro ⟨⟨⟨r, hr⟩, hne⟩, hs⟩
    cases r with
    | nil => exact absurd (by rw [← hr, List.append_nil]) hne
    | cons y r =>
      have : next p x = y := by unfold next; rw [← hr]; simp [List.getD_eq_getElem?_getD]
      rw [this] at hs
      subst hs
      exact ⟨r, by rw [← hr]; simp⟩
  · rintro ⟨r, hr⟩
    rw [List.append_assoc] at hr
    refine ⟨⟨⟨_, hr⟩, fun e => ?_⟩, ?_⟩
    · have := congrArg List.length hr
      rw [e] at this
      simp at this
    · unfold next; rw [← hr]; simp [List.getD_eq_getElem?_getD]

theorem filter_one {q : List ByteArray} {j : Nat} : ∀ {l : List (List ByteArray × Nat)}, (l.map (·.1)).Nodup → (q, j) ∈ l → l.filter (fun x => decide (x.1 = q)) = [(q, j)]
  | [], _, h => by cases h
  | y :: r, hn, h => by
    rw [List.map_cons, List.nodup_cons] at hn
    rcases List.mem_cons.1 h with e | h
    · subst e
      rw [List.filter_cons_of_pos (by simp), List.filter_eq_nil_iff.2]
      intro x hx e
      exact hn.1 (List.mem_map.2 ⟨x, hx, of_decide_eq_true e⟩)
    · have hne : y.1 ≠ q := fun e => hn.1 (by rw [e]; exact List.mem_map.2 ⟨_, h, rfl⟩)
      rw [List.filter_cons_of_neg (by simp [hne]), filter_one hn.2 h]

theorem grp_perm (h : t.Ok) {q : List ByteArray} {j : Nat} (hj : (q, j) ∈ t.names) : (t.names.filter (fun x => decide (q <+: x.1))).Perm ((q, j) :: belowL t q) := by
  have e : (fun x : List ByteArray × Nat => decide (q <+: x.1)) = fun x => decide (x.1 = q) || decide (q <+: x.1 ∧ x.1 ≠ q) := by
    funext x
    by_cases hx : x.1 = q
    · rw [hx]; simp
    · simp [hx]
  rw [e]
  refine (filter_or _ _ _ (fun x _ h1 h2 => (of_decide_eq_true h2).2 (of_decide_eq_true h1))).trans ?_
  rw [filter_one h.nodup hj]
  exact List.Perm.refl _

theorem doneL_step (h : t.Ok) {p : List ByteArray} {dn : ByteArray → Bool} {s : ByteArray} {j : Nat} (hj : t.find (p ++ [s]) = some j) (hs : dn s = false) :
    (doneL t p (fun z => dn z || decide (z = s))).Perm (doneL t p dn ++ ((p ++ [s], j) :: belowL t (p ++ [s]))) := by
  have e : (fun x : List ByteArray × Nat => decide (p <+: x.1 ∧ x.1 ≠ p) && (dn (next p x) || decide (next p x = s))) = fun x => (decide (p <+: x.1 ∧ x.1 ≠ p) && dn (next p x)) || decide (p ++ [s] <+: x.1) := by
    funext x
    rw [← next_iff, Bool.and_or_distrib_left]
  unfold doneL
  rw [e]
  refine (filter_or _ _ _ (fun x _ h1 h2 => ?_)).trans (List.Perm.append_left _ (grp_perm h ((find_mem h).1 hj)))
  rw [← next_iff] at h2
  rw [Bool.and_eq_true] at h1 h2
  have := of_decide_eq_true h2.2
  rw [this, hs] at h1
  cases h1.2

theorem doneL_all (h : t.Ok) {p : List ByteArray} {dn : ByteArray → Bool} (hall : ∀ s, (t.find (p ++ [s])).isSome = true → dn s = true) : doneL t p dn = belowL t p := by
  unfold doneL belowL
  refine List.filter_congr (fun x hx => ?_)
  by_cases hp : p <+: x.1 ∧ x.1 ≠ p
  · rw [decide_eq_true hp, Bool.true_and]
    apply hall
    have h1 : p ++ [next p x] <+: x.1 := by
      have := next_iff p (next p x) x
      rw [decide_eq_true hp, decide_eq_true rfl] at this
      exact of_decide_eq_true this.symm
    obtain ⟨r, hr⟩ := h1
    obtain ⟨x1, x2⟩ := x
    simp only at hr
    rw [← hr] at hx
    obtain ⟨k, hk, _⟩ := below_there h (by simp) r hx
    rw [(find_mem h).2 hk]
    rfl
  · rw [decide_eq_false hp]; rfl

theorem belowL_child (h : t.Ok) {p : List ByteArray} {s : ByteArray} {j : Nat} (hj : t.find (p ++ [s]) = some j) : (belowL t (p ++ [s])).length + 1 ≤ (belowL t p).length := by
  have h1 := (grp_perm h ((find_mem h).1 hj)).length_eq
  rw [List.length_cons] at h1
  rw [← h1]
  unfold belowL
  rw [← List.countP_eq_length_filter, ← List.countP_eq_length_filter]
  refine List.countP_mono_left (fun x _ hx => ?_)
  rw [← next_iff, Bool.and_eq_true] at hx
  exact hx.1

theorem belowL_file (h : t.Ok) {p : List ByteArray} {i : Nat} (hf : (p, i) ∈ t.names) (hd : t.isDir i = false) : belowL t p = [] := by
  unfold belowL
  rw [List.filter_eq_nil_iff]
  rintro ⟨x1, x2⟩ hx e
  obtain ⟨⟨r, hr⟩, hne⟩ := of_decide_eq_true e
  simp only at hr hne
  rw [← hr] at hx hne
  have := below_file h hf hd hx
  subst this
  exact hne (by simp)
theorem belowL_root (h : t.Ok) : belowL t [] = t.names := by
  unfold belowL
  rw [List.filter_eq_self]
  rintro ⟨x1, x2⟩ hx
  exact decide_eq_true ⟨List.nil_prefix, h.ne _ _ hx⟩

theorem joinL_snoc : ∀ (p : List ByteArray) (s : ByteArray), joinL (p ++ [s]) = joinL p ++ 47 :: s.data.toList
  | [], s => by simp [joinL]
  | y :: r, s => by
    rw [List.cons_append]
    unfold joinL
    rw [joinL_snoc r s]
    simp
def slash (t : Tree) (j : Nat) : ByteArray := ofL (if t.isDir j = true then [47] else [])
theorem shown_child {p : List ByteArray} {i j : Nat} {s : ByteArray} (hd : t.isDir i = true) : shown t (p, i) ++ (s ++ slash t j) = shown t (p ++ [s], j) := by
  have happ : ∀ x y : ByteArray, (x ++ y).data.toList = x.data.toList ++ y.data.toList := fun x y => by simp
  refine Txt.ext ?_
  rw [happ, happ]
  unfold shown slash
  rw [ofL_data, ofL_data, ofL_data]
  simp only
  rw [if_pos hd, joinL_snoc]
  simp
theorem joinL_size : ∀ (p : List ByteArray), (∀ s ∈ p, nameB s = true) → (joinL p).length ≤ 14 * p.length
  | [], _ => by simp [joinL]
  | y :: r, h => by
    have h1 := (nameB_size (h y (by simp))).2
    have h2 := joinL_size r (fun s hs => h s (List.mem_cons_of_mem _ hs))
    have h3 : y.data.toList.length = y.size := Array.length_toList
    unfold joinL
    simp
    omega
theorem shown_size {p : List ByteArray} {i : Nat} (h : ∀ s ∈ p, nameB s = true) : (shown t (p, i)).size ≤ 14 * p.length + 1 := by
  have := joinL_size p h
  unfold shown
  rw [Lib.size_eq, ofL_data, List.length_append]
  simp only
  split <;> simp <;> omega
theorem paths_perm (h : t.Ok) : (([], 0) :: belowL t []).map (shown t) = ofL [47] :: t.names.map (shown t) := by
  rw [List.map_cons, belowL_root h]
  congr 1
  obtain ⟨d, hr⟩ := h.root
  unfold shown
  simp only
  rw [isDir_of h hr, if_pos rfl]
  rfl
end
end Go.Proofs.YtmljdnlmpiklgaaGreatDoor.Sp
