/-
  The tree's walks: copied, what holds of it. No walk in this text.
-/
import Derived.Test.YtcgpmnlondnbhaaDoorPtrMap
import Derived.Test.YtcgpmnlondnbhaaDoorRangeAt
import Derived.Test.YtcgpmnlondnbhaaDoorTreeC
namespace Go.Proofs.YtcgpmnlondnbhaaDoor
open Go Go.RowKit Txt Sp

section
variable {B : Nat} {t : Sp.Tree} {φ μ : Nat → Nat}

/-- A thing that is copied whole, but for what its names stand for. -/
def CopiedAt (w : World) (t : Sp.Tree) (ψ ν : Nat → Nat) (j : Nat) : Prop :=
  w.heap[ψ j]? = some (thingO (t.dataOf j) (t.links j) (if t.isDir j = true then some (ν j) else none)) ∧
  (t.isDir j = true → ∀ p, t.idOf p = some j → ∃ l, MapAt w (ν j) l ∧ ∀ s, getM l s = (t.find (p ++ [s])).map ψ)

def pairs (φ ψ : Nat → Nat) (S : List Nat) : List (Nat × Nat) := S.map (fun i => (φ i, ψ i))
theorem getP_pairs (hinj : ∀ i j, t.has i → t.has j → φ i = φ j → i = j) {ψ : Nat → Nat} : ∀ {S : List Nat}, (∀ j ∈ S, t.has j) → ∀ {i : Nat}, t.has i → getP (pairs φ ψ S) (φ i) = if i ∈ S then some (ψ i) else none
  | [], _, i, _ => rfl
  | j :: r, hS, i, hi => by
    have ih := getP_pairs hinj (ψ := ψ) (S := r) (fun k hk => hS k (List.mem_cons_of_mem _ hk)) hi
    unfold getP pairs at ih ⊢
    rw [List.map_cons, List.find?_cons]
    by_cases h : j = i
    · subst h
      rw [decide_eq_true rfl, if_pos (by simp)]
      rfl
    · rw [decide_eq_false (fun e => h (hinj j i (hS j (by simp)) hi e))]
      simp only
      rw [ih]
      have : (i ∈ j :: r) ↔ i ∈ r := by simp [Ne.symm h]
      simp only [this]
theorem pairs_congr {ψ ψ' : Nat → Nat} {S : List Nat} (h : ∀ j ∈ S, ψ' j = ψ j) : pairs φ ψ' S = pairs φ ψ S := List.map_congr_left (fun j hj => by rw [h j hj])

/-- New things, copied since a world of n blocks: each is at a path that Q tells. -/
structure News (n : Nat) (w : World) (t : Sp.Tree) (S S' : List Nat) (ψ ν : Nat → Nat) (Q : List ByteArray → Prop) : Prop where
  has : ∀ j ∈ S', t.has j
  sub : ∀ j ∈ S, j ∈ S'
  at' : ∀ j ∈ S', j ∉ S → ∃ q, Q q ∧ t.idOf q = some j
  whole : ∀ j ∈ S', j ∉ S → CopiedAt w t ψ ν j
  low : ∀ j ∈ S', j ∉ S → n ≤ ψ j ∧ (t.isDir j = true → n ≤ ν j)
  inj : ∀ i ∈ S', ∀ j ∈ S', i ∉ S → j ∉ S → ψ i = ψ j → i = j
  injm : ∀ i ∈ S', ∀ j ∈ S', i ∉ S → j ∉ S → t.isDir i = true → t.isDir j = true → ν i = ν j → i = j
  all : ∀ q j, Q q → t.idOf q = some j → j ∈ S'

/-- Behind copied. -/
def CopyPost (w : World) (t : Sp.Tree) (φ : Nat → Nat) (Dm : Nat) (S : List Nat) (ψ ν : Nat → Nat) (p : List ByteArray) (i : Nat) (e : Ending) (w' : World) : Prop :=
  ∃ S' ψ' ν', e = .returned (ptr (ψ' i)) ∧ PMapAt w' Dm (pairs φ ψ' S') ∧ (∀ j ∈ S, ψ' j = ψ j ∧ ν' j = ν j) ∧ i ∈ S' ∧ News w.heap.size w' t S S' ψ' ν' (fun q => p <+: q) ∧ Turn (fun k => k = Dm) w w'

theorem CopiedAt.lt {w : World} {ψ ν : Nat → Nat} {j : Nat} (h : CopiedAt w t ψ ν j) : ψ j < w.heap.size := (Array.getElem?_eq_some_iff.1 h.1).1
theorem CopiedAt.ltm (hok : t.Ok) {w : World} {ψ ν : Nat → Nat} {j : Nat} (h : CopiedAt w t ψ ν j) (hj : t.has j) (hd : t.isDir j = true) : ν j < w.heap.size := by
  obtain ⟨p, hp⟩ := idOf_has hok hj
  obtain ⟨l, hl, _⟩ := h.2 hd p hp
  exact hl.lt
/-- It stays so where its blocks stay, and its names' things are told alike. -/
theorem CopiedAt.kept {w w' : World} {ψ ψ' ν ν' : Nat → Nat} {j : Nat} (h : CopiedAt w t ψ ν j) (hψ : ψ' j = ψ j) (hν : ν' j = ν j) (hkids : t.isDir j = true → ∀ p s k, t.idOf p = some j → t.find (p ++ [s]) = some k → ψ' k = ψ k)
    (h1 : ∀ o, w.heap[ψ j]? = some o → w'.heap[ψ j]? = some o) (h2 : t.isDir j = true → ∀ o, w.heap[ν j]? = some o → w'.heap[ν j]? = some o) : CopiedAt w' t ψ' ν' j := by
  refine ⟨?_, fun hd p hp => ?_⟩
  · rw [hψ, hν]
    exact h1 _ h.1
  · obtain ⟨l, hl, hg⟩ := h.2 hd p hp
    rw [hν]
    refine ⟨l, hl.same (h2 hd), fun s => ?_⟩
    rw [hg s]
    cases hf : t.find (p ++ [s]) with
    | none => rfl
    | some k =>
      show some (ψ k) = some (ψ' k)
      rw [hkids hd p s k hp hf]

/-- The whole tree, copied. -/
theorem copied_rep (hok : t.Ok) {w : World} {B' : Nat} {S' : List Nat} {ψ ν : Nat → Nat} {n : Nat} (h : News n w t [] S' ψ ν (fun q => [] <+: q)) (hB : w.heap[B']? = some (treeO (ψ 0))) : Rep w B' t ψ ν := by
  have hall : ∀ j, t.has j → j ∈ S' := fun j hj => by
    obtain ⟨p, hp⟩ := idOf_has hok hj
    exact h.all p j List.nil_prefix hp
  have hno : ∀ j : Nat, j ∉ ([] : List Nat) := fun j hj => by cases hj
  exact {
    root := hB
    file := fun i d hi => by
      have h1 := (h.whole i (hall i ⟨_, _, hi⟩) (hno i)).1
      rw [isDir_of hok hi, dataOf_of hok hi, if_neg (by simp)] at h1
      exact h1
    dir := fun i p hp hd => by
      have hi := has_idOf hok hp
      obtain ⟨h1, h2⟩ := h.whole i (hall i hi) (hno i)
      have hth := there_idOf hok hp
      rw [hd] at hth
      rw [hd, if_pos rfl, hok.empty _ _ hth] at h1
      exact ⟨h1, h2 hd p hp⟩
    inj := fun i j hi hj e => h.inj i (hall i hi) j (hall j hj) (hno i) (hno j) e
    injm := fun i j hi hj hdi hdj e => h.injm i (hall i hi) j (hall j hj) (hno i) (hno j) hdi hdj e }
end
end Go.Proofs.YtcgpmnlondnbhaaDoor
