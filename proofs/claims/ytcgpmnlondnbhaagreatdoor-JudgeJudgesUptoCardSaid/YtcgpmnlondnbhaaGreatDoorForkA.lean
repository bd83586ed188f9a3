/-
  ForkA: TreeCopy, TreeFork, TreeDeep, TreeDir, TreeForks.
-/
import Derived.Test.YtcgpmnlondnbhaaGreatDoorPathA
import Derived.Test.YtcgpmnlondnbhaaGreatDoorTreeC
import Derived.Test.YtcgpmnlondnbhaaGreatDoorPlainA
import Derived.StillTailTactics
import Derived.Laws.IdiomRangeMap
import Derived.Deep.RegionHeld3
import Derived.Test.YtcgpmnlondnbhaaGreatDoorTreeWorks
namespace Go.Proofs.YtcgpmnlondnbhaaGreatDoor
open Go Go.RowKit Txt Sp

section
variable {B : Nat} {t : Sp.Tree} {φ μ : Nat → Nat}

/-- A thing that is copied whole, but for what its names stand for. -/
def CopiedAt (w : World) (t : Sp.Tree) (ψ ν : Nat → Nat) (j : Nat) : Prop :=
  w.heap[ψ j]? = some (thingO (t.dataOf j) (t.links j) (if t.isDir j = true then some (ν j) else none)) ∧
  (t.isDir j = true → ∀ p, t.idOf p = some j → ∃ l, MapAt w (ν j) l ∧ ∀ s, getM l s = (t.find (p ++ [s])).map ψ)

def pairs (φ ψ : Nat → Nat) (S : List Nat) : List (Nat × Nat) := S.map (fun i => (φ i, ψ i))
theorem getP_pairs (hinj : ∀ i j, t.has i → t.has j → φ i = φ j → i = j) {ψ : Nat → Nat} : ∀ {S : List Nat}, (∀ j ∈ S, t.has j) → ∀ {i : Nat}, t.has i → getP (pairs φ ψ S) (φ i) = if i ∈ S then some (ψ i) else none
  | [], _, i, _ => rfl
  | j :: r, hS, i, hi => by
    have ih := getP_pairs hinj (ψ := ψ) (S := r) (fun k hk => hS k (List.mem_cons_of_mem _ hk)) hi
    unfold getP pairs at ih ⊢
    rw [List.map_cons, List.find?_cons]
    by_cases h : j = i
    · subst h
      rw [decide_eq_true rfl, if_pos (by simp)]
      rfl
    · rw [decide_eq_false (fun e => h (hinj j i (hS j (by simp)) hi e))]
      simp only
      rw [ih]
      have : (i ∈ j :: r) ↔ i ∈ r := by simp [Ne.symm h]
      simp only [this]
theorem pairs_congr {ψ ψ' : Nat → Nat} {S : List Nat} (h : ∀ j ∈ S, ψ' j = ψ j) : pairs φ ψ' S = pairs φ ψ S := List.map_congr_left (fun j hj => by rw [h j hj])

/-- New things, copied since a world of n blocks: each is at a path that Q tells. -/
structure News (n : Nat) (w : World) (t : Sp.Tree) (S S' : List Nat) (ψ ν : Nat → Nat) (Q : List ByteArray → Prop) : Prop where
  has : ∀ j ∈ S', t.has j
  sub : ∀ j ∈ S, j ∈ S'
  at' : ∀ j ∈ S', j ∉ S → ∃ q, Q q ∧ t.idOf q = some j
  whole : ∀ j ∈ S', j ∉ S → CopiedAt w t ψ ν j
  low : ∀ j ∈ S', j ∉ S → n ≤ ψ j ∧ (t.isDir j = true → n ≤ ν j)
  inj : ∀ i ∈ S', ∀ j ∈ S', i ∉ S → j ∉ S → ψ i = ψ j → i = j
  injm : ∀ i ∈ S', ∀ j ∈ S', i ∉ S → j ∉ S → t.isDir i = true → t.isDir j = true → ν i = ν j → i = j
  all : ∀ q j, Q q → t.idOf q = some j → j ∈ S'

/-- Behind copied. -/
def CopyPost (w : World) (t : Sp.Tree) (φ : Nat → Nat) (Dm : Nat) (S : List Nat) (ψ ν : Nat → Nat) (p : List ByteArray) (i : Nat) (e : Ending) (w' : World) : Prop :=
  ∃ S' ψ' ν', e = .returned (ptr (ψ' i)) ∧ PMapAt w' Dm (pairs φ ψ' S') ∧ (∀ j ∈ S, ψ' j = ψ j ∧ ν' j = ν j) ∧ i ∈ S' ∧ News w.heap.size w' t S S' ψ' ν' (fun q => p <+: q) ∧ Turn (fun k => k = Dm) w w'

theorem CopiedAt.lt {w : World} {ψ ν : Nat → Nat} {j : Nat} (h : CopiedAt w t ψ ν j) : ψ j < w.heap.size := (Array.getElem?_eq_some_iff.1 h.1).1
theorem CopiedAt.ltm (hok : t.Ok) {w : World} {ψ ν : Nat → Nat} {j : Nat} (h : CopiedAt w t ψ ν j) (hj : t.has j) (hd : t.isDir j = true) : ν j < w.heap.size := by
  obtain ⟨p, hp⟩ := idOf_has hok hj
  obtain ⟨l, hl, _⟩ := h.2 hd p hp
  exact hl.lt
/-- It stays so where its blocks stay, and its names' things are told alike. -/
theorem CopiedAt.kept {w w' : World} {ψ ψ' ν ν' : Nat → Nat} {j : Nat} (h : CopiedAt w t ψ ν j) (hψ : ψ' j = ψ j) (hν : ν' j = ν j) (hkids : t.isDir j = true → ∀ p s k, t.idOf p = some j → t.find (p ++ [s]) = some k → ψ' k = ψ k)
    (h1 : ∀ o, w.heap[ψ j]? = some o → w'.heap[ψ j]? = some o) (h2 : t.isDir j = true → ∀ o, w.heap[ν j]? = some o → w'.heap[ν j]? = some o) : CopiedAt w' t ψ' ν' j := by
  refine ⟨?_, fun hd p hp => ?_⟩
  · rw [hψ, hν]
    exact h1 _ h.1
  · obtain ⟨l, hl, hg⟩ := h.2 hd p hp
    rw [hν]
    refine ⟨l, hl.same (h2 hd), fun s => ?_⟩
    rw [hg s]
    cases hf : t.find (p ++ [s]) with
    | none => rfl
    | some k =>
      show some (ψ k) = some (ψ' k)
      rw [hkids hd p s k hp hf]

/-- The whole tree, copied. -/
theorem copied_rep (hok : t.Ok) {w : World} {B' : Nat} {S' : List Nat} {ψ ν : Nat → Nat} {n : Nat} (h : News n w t [] S' ψ ν (fun q => [] <+: q)) (hB : w.heap[B']? = some (treeO (ψ 0))) : Rep w B' t ψ ν := by
  have hall : ∀ j, t.has j → j ∈ S' := fun j hj => by
    obtain ⟨p, hp⟩ := idOf_has hok hj
    exact h.all p j List.nil_prefix hp
  have hno : ∀ j : Nat, j ∉ ([] : List Nat) := fun j hj => by cases hj
  exact {
    root := hB
    file := fun i d hi => by
      have h1 := (h.whole i (hall i ⟨_, _, hi⟩) (hno i)).1
      rw [isDir_of hok hi, dataOf_of hok hi, if_neg (by simp)] at h1
      exact h1
    dir := fun i p hp hd => by
      have hi := has_idOf hok hp
      obtain ⟨h1, h2⟩ := h.whole i (hall i hi) (hno i)
      have hth := there_idOf hok hp
      rw [hd] at hth
      rw [hd, if_pos rfl, hok.empty _ _ hth] at h1
      exact ⟨h1, h2 hd p hp⟩
    inj := fun i j hi hj e => h.inj i (hall i hi) j (hall j hj) (hno i) (hno j) e
    injm := fun i j hi hj hdi hdj e => h.injm i (hall i hi) j (hall j hj) (hno i) (hno j) hdi hdj e }
end
end Go.Proofs.YtcgpmnlondnbhaaGreatDoor

namespace Go.Proofs.YtcgpmnlondnbhaaGreatDoor
open Go Go.RowKit Txt Sp

theorem neq_some (w : World) (a : Addr) : (binOp .neq 54 (.pointer (some a)) (.pointer none)).run Tryz.prog w = .ok (.bool true) w := by
  have h : ∀ d : Nat, (Op.equalIn (d + 1) 54 (.pointer (some a)) (.pointer none)).run Tryz.prog w = .ok false w := fun d => by
    simp [Op.equalIn, run_underlying pt_thing]
  simp only [binOp]
  simp [Op.equal, Op.maxDepth, h 9999]
theorem neq_none (w : World) : (binOp .neq 54 (.pointer none) (.pointer none)).run Tryz.prog w = .ok (.bool false) w := by
  have h : ∀ d : Nat, (Op.equalIn (d + 1) 54 (.pointer none) (.pointer none)).run Tryz.prog w = .ok true w := fun d => by
    simp [Op.equalIn, run_underlying pt_thing]
  simp only [binOp]
  simp [Op.equal, Op.maxDepth, h 9999]

section
set_option maxHeartbeats 4000000
variable {B Dm : Nat} {t : Sp.Tree} {φ μ : Nat → Nat}

theorem Rep.isThing {w : World} (hR : Rep w B t φ μ) (hok : t.Ok) {i : Nat} (h : t.has i) : IsThing w (φ i) :=
  let ⟨d, m, ht⟩ := hR.thing hok h
  ⟨d, _, m, ht⟩
theorem pairs_things {w : World} (hR : Rep w B t φ μ) (hok : t.Ok) {S : List Nat} (hS : ∀ j ∈ S, t.has j) (ψ : Nat → Nat) : ∀ x ∈ pairs φ ψ S, IsThing w x.1 := by
  intro x hx
  obtain ⟨j, hj, rfl⟩ := List.mem_map.1 hx
  exact hR.isThing hok (hS j hj)

/-- A file that has been copied by another name. -/
theorem copied_seen {w : World} (hR : Rep w B t φ μ) (hok : t.Ok) {p : List ByteArray} {i : Nat} (hp : t.idOf p = some i) {S : List Nat} {ψ ν : Nat → Nat} (hD : PMapAt w Dm (pairs φ ψ S)) (hS : ∀ j ∈ S, t.has j)
    (hi : i ∈ S) (hd : t.isDir i = false) : Calls Tryz.prog 27 #[ptr (φ i), .map (some Dm)] w (CopyPost w t φ Dm S ψ ν p i) := by
  have hlk := run_lookup_thing hD (hR.isThing hok (has_idOf hok hp)) (pairs_things hR hok hS ψ)
  rw [getP_pairs hR.inj hS (has_idOf hok hp), if_pos hi] at hlk
  have hmem : (p, i) ∈ t.names := by
    rcases idOf_mem hok hp with ⟨rfl, rfl⟩ | h
    · obtain ⟨d, hr⟩ := hok.root
      rw [isDir_of hok hr] at hd
      cases hd
    · exact h
  have HN : Hid (News w.heap.size w t S S ψ ν (fun q => p <+: q)) := ⟨hS, fun _ h => h, fun _ h1 h2 => absurd h1 h2, fun _ h1 h2 => absurd h1 h2, fun _ h1 h2 => absurd h1 h2, fun _ h1 _ _ h2 => absurd h1 h2, fun _ h1 _ _ h2 => absurd h1 h2, fun q j hq hj => by
    obtain ⟨r, rfl⟩ := hq
    by_cases h0 : p ++ r = []
    · exact absurd (List.append_eq_nil_iff.1 h0).1 (hok.ne _ _ hmem)
    · rw [idOf_find h0] at hj
      have := below_file hok hmem hd ((find_mem hok).1 hj)
      subst this
      rw [List.append_nil] at hj
      have h2 := (find_mem hok).2 hmem
      rw [h2] at hj
      cases hj
      exact hi⟩
  have HD := Lib.hid hD
  have HI := Lib.hid hi
  have p1 := neq_some
  clear hR hok hp hD hS hi hd hmem
  simp only [ptrO] at hlk
  unfold ptr at hlk ⊢
  go_enter Tryz.func27, Tryz.ntmps27
  go_wp2
  go_ret
  exact ⟨S, ψ, ν, rfl, HD.out, fun _ _ => ⟨rfl, rfl⟩, HI.out, HN.out, Turn.refl _ _⟩


/-- Where copied stands once the new thing is there, and is told. -/
structure Started (w : World) (t : Sp.Tree) (φ : Nat → Nat) (Dm : Nat) (S : List Nat) (ψ : Nat → Nat) (i : Nat) (W : World) : Prop where
  map : PMapAt W Dm (pairs φ (upd ψ i w.heap.size) (S ++ [i]))
  thing : W.heap[w.heap.size]? = some (thingO (t.dataOf i) (t.links i) none)
  turn : Turn (fun k => k = Dm) w W
  size : W.heap.size = w.heap.size + 1
theorem started {w : World} (hR : Rep w B t φ μ) (hok : t.Ok) {i : Nat} (hi : t.has i) {S : List Nat} {ψ : Nat → Nat} (hD : PMapAt w Dm (pairs φ ψ S)) (hS : ∀ j ∈ S, t.has j) (hn : i ∉ S) {o : Obj} (ho : o = thingO (t.dataOf i) (t.links i) none) :
    ∃ o', (Instr.mapUpdate 67 (.map (some Dm)) (ptr (φ i)) (ptr w.heap.size)).run Tryz.prog (w.alloc o).drew = .ok () (ChangeMaps.setBlock (w.alloc o).drew Dm o') ∧ Started w t φ Dm S ψ i (ChangeMaps.setBlock (w.alloc o).drew Dm o') := by
  subst ho
  have hb := (Below.refl w.heap.size w).alloc (Nat.le_refl _) (thingO (t.dataOf i) (t.links i) none)
  have hR1 : Rep (w.alloc (thingO (t.dataOf i) (t.links i) none)).drew B t φ μ := (hR.below hb).same (fun _ _ h => h)
  have hD1 : PMapAt (w.alloc (thingO (t.dataOf i) (t.links i) none)).drew Dm (pairs φ ψ S) := (hD.same (heap_below hb _)).same (fun _ h => h)
  have hg := getP_pairs hR.inj (ψ := ψ) hS hi
  rw [if_neg hn] at hg
  obtain ⟨o', hrun, ho'⟩ := run_update_thing hD1 (hR1.isThing hok hi) (pairs_things hR1 hok hS ψ) hg w.heap.size
  have hlt : Dm < (w.alloc (thingO (t.dataOf i) (t.links i) none)).drew.heap.size := hD1.lt
  have hne : Dm ≠ w.heap.size := Nat.ne_of_lt hD.lt
  have hz : (w.alloc (thingO (t.dataOf i) (t.links i) none)).drew.heap.size = w.heap.size + 1 := by
    show (w.heap.push _).size = _
    exact Array.size_push _
  refine ⟨o', hrun, ⟨⟨o', heap_setBlock_at _ hlt, ?_⟩, ?_, ⟨rfl, rfl, rfl, by rw [size_setBlock, hz]; omega, fun k hk hkn => ?_⟩, by rw [size_setBlock, hz]⟩⟩
  · have : pairs φ (upd ψ i w.heap.size) (S ++ [i]) = pairs φ ψ S ++ [(φ i, w.heap.size)] := by
      have h1 : S.map (fun j => (φ j, upd ψ i w.heap.size j)) = S.map (fun j => (φ j, ψ j)) := List.map_congr_left (fun j hj => by rw [upd_ne (fun e => hn (by rw [← e]; exact hj))])
      unfold pairs
      rw [List.map_append, List.map_cons, List.map_nil, upd_at, h1]
    rw [this]
    exact ho'
  · rw [heap_setBlock_ne _ (Ne.symm hne)]
    exact heap_alloc_new w _
  · rw [heap_setBlock_ne _ hkn]
    exact hb.block k hk

set_option maxRecDepth 20000 in
/-- A file that has not been copied. -/
theorem copied_file {w : World} (hR : Rep w B t φ μ) (hok : t.Ok) {p : List ByteArray} {i : Nat} (hp : t.idOf p = some i) {S : List Nat} {ψ ν : Nat → Nat} (hD : PMapAt w Dm (pairs φ ψ S)) (hS : ∀ j ∈ S, t.has j)
    (hi : i ∉ S) (hd : t.isDir i = false) (hDm : ∀ k, Rep.dom B t φ μ k → k ≠ Dm) : Calls Tryz.prog 27 #[ptr (φ i), .map (some Dm)] w (CopyPost w t φ Dm S ψ ν p i) := by
  have hih := has_idOf hok hp
  have hlk := run_lookup_thing hD (hR.isThing hok hih) (pairs_things hR hok hS ψ)
  rw [getP_pairs hR.inj hS hih, if_neg hi] at hlk
  have hmem : (p, i) ∈ t.names := by
    rcases idOf_mem hok hp with ⟨rfl, rfl⟩ | h
    · obtain ⟨d, hr⟩ := hok.root
      rw [isDir_of hok hr] at hd
      cases hd
    · exact h
  have hth := there_idOf hok hp
  rw [hd] at hth
  have hfile := hR.file i _ hth
  have c0 : w.cell? ⟨φ i, 0, none⟩ = some (.string (t.dataOf i)) := cell_of_heap hfile rfl
  have c1 : w.cell? ⟨φ i, 1, none⟩ = some (.int .i64 (t.links i)) := cell_of_heap hfile rfl
  obtain ⟨o', hrun, hst⟩ := started hR hok hih hD hS hi rfl
  obtain ⟨W, hW⟩ : ∃ W, ChangeMaps.setBlock (w.alloc (thingO (t.dataOf i) (t.links i) none)).drew Dm o' = W := ⟨_, rfl⟩
  rw [hW] at hrun hst
  have c2 : W.cell? ⟨φ i, 2, none⟩ = some (.map none) := cell_of_heap (hst.turn.heap hfile (hDm _ (dom_thing hih))) rfl
  have hne : ∀ j ∈ S, j ≠ i := fun j hj e => hi (by rw [← e]; exact hj)
  have fin : CopyPost w t φ Dm S ψ ν p i (.returned (ptr w.heap.size)) W := by
    refine ⟨S ++ [i], upd ψ i w.heap.size, ν, by rw [upd_at], hst.map, fun j hj => ⟨upd_ne (hne j hj), rfl⟩, by simp, ?_, hst.turn⟩
    have hnew : ∀ j ∈ S ++ [i], j ∉ S → j = i := fun j hj hn => by
      rcases List.mem_append.1 hj with h | h
      · exact absurd h hn
      · exact List.mem_singleton.1 h
    refine ⟨fun j hj => ?_, fun j hj => List.mem_append_left _ hj, fun j hj hn => ?_, fun j hj hn => ?_, fun j hj hn => ?_, fun a ha b hb hna hnb _ => ?_, fun a ha b hb hna hnb _ _ _ => ?_, fun q j hq hj => ?_⟩
    · rcases List.mem_append.1 hj with h | h
      · exact hS j h
      · rw [List.mem_singleton.1 h]; exact hih
    · rw [hnew j hj hn]; exact ⟨p, List.prefix_refl _, hp⟩
    · rw [hnew j hj hn]
      refine ⟨?_, fun h => by rw [hd] at h; cases h⟩
      rw [upd_at, hd, if_neg (by simp)]
      exact hst.thing
    · rw [hnew j hj hn, upd_at]
      exact ⟨Nat.le_refl _, fun h => by rw [hd] at h; cases h⟩
    · rw [hnew a ha hna, hnew b hb hnb]
    · rw [hnew a ha hna, hnew b hb hnb]
    · obtain ⟨r, rfl⟩ := hq
      by_cases h0 : p ++ r = []
      · exact absurd (List.append_eq_nil_iff.1 h0).1 (hok.ne _ _ hmem)
      · rw [idOf_find h0] at hj
        have := below_file hok hmem hd ((find_mem hok).1 hj)
        subst this
        rw [List.append_nil, (find_mem hok).2 hmem] at hj
        cases hj
        simp
  have HF := Lib.hid fin
  have hlt := hR.lt_thing hok hih
  have p2 := neq_none
  have m2 := fun (r : Option Nat) (w : World) => run_neq_map_nil (P := Tryz.prog) w 55 _ _ r ht_map
  clear hR hok hp hD hS hi hd hDm hih hmem hth hfile hst hW hne fin
  unfold thingO at hrun
  simp only [ptrO] at hlk
  unfold ptr at hlk hrun HF ⊢
  go_enter Tryz.func27, Tryz.ntmps27
  go_wp2
  go_still_tail 9, (by kernel_rfl)
  change wpList _ _ _ _ _ w.drew
  go_wp2
  go_ret
  exact HF.out
end
end Go.Proofs.YtcgpmnlondnbhaaGreatDoor

namespace Go.Proofs.YtcgpmnlondnbhaaGreatDoor
open Go Go.RowKit Txt Sp

section
variable {B Dm : Nat} {t : Sp.Tree} {φ μ : Nat → Nat}

/-- Behind some rounds: n is how many blocks there were ahead of it all; the new thing's block is n, its map's n + 1, the iterator's n + 2. -/
structure CopyRel (w : World) (t : Sp.Tree) (φ μ : Nat → Nat) (Dm : Nat) (p : List ByteArray) (i : Nat) (l : List (ByteArray × Nat)) (S : List Nat) (ψ ν : Nat → Nat) (wr : World) (dn : ByteArray → Bool) (cnt : Nat) (S2 : List Nat) (ψ2 ν2 : Nat → Nat) (lk : List (ByteArray × Nat)) : Prop where
  rg : Ranging wr (μ i) (w.heap.size + 2) l (fun s => (getM l s).isSome = true ∧ dn s = false) cnt
  map : PMapAt wr Dm (pairs φ ψ2 S2)
  thing : wr.heap[w.heap.size]? = some (thingO (ofL []) (t.links i) (some (w.heap.size + 1)))
  own : MapAt wr (w.heap.size + 1) lk
  kids : ∀ s, getM lk s = if dn s = true then (t.find (p ++ [s])).map ψ2 else none
  old : ∀ j ∈ S, ψ2 j = ψ j ∧ ν2 j = ν j
  self : i ∈ S2 ∧ ψ2 i = w.heap.size ∧ ν2 i = w.heap.size + 1
  news : News (w.heap.size + 3) wr t (S ++ [i]) S2 ψ2 ν2 (fun q => ∃ s, dn s = true ∧ p ++ [s] <+: q)
  turn : Turn (fun k => k = Dm) w wr
  past : w.heap.size + 3 ≤ wr.heap.size

theorem Rep.turn {w w' : World} (hR : Rep w B t φ μ) (hok : t.Ok) (hT : Turn (fun k => k = Dm) w w') (hDm : ∀ k, Rep.dom B t φ μ k → k ≠ Dm) : Rep w' B t φ μ := hR.dom_same hok (fun k hk _ ho => hT.heap ho (hDm k hk))

theorem CopyRel.step {w wr w1 w2 w3 : World} {p : List ByteArray} {i : Nat} {l lk : List (ByteArray × Nat)} {S S2 : List Nat} {ψ ν ψ2 ν2 : Nat → Nat} {dn : ByteArray → Bool} {cnt cnt1 : Nat} (hok : t.Ok)
    (h : CopyRel w t φ μ Dm p i l S ψ ν wr dn cnt S2 ψ2 ν2 lk) (hDw : Dm < w.heap.size) (hμ : μ i < w.heap.size) (hμD : μ i ≠ Dm) {s : ByteArray} {j : Nat} (hj : t.find (p ++ [s]) = some j) (hs : dn s = false)
    (hrg : Ranging w1 (μ i) (w.heap.size + 2) l (fun z => ((getM l z).isSome = true ∧ dn z = false) ∧ z ≠ s) cnt1) (hg1 : wr.grownBy w1 (some (w.heap.size + 2))) (hz1 : w1.heap.size = wr.heap.size)
    {S3 : List Nat} {ψ3 ν3 : Nat → Nat} (hmap : PMapAt w2 Dm (pairs φ ψ3 S3)) (hold : ∀ k ∈ S2, ψ3 k = ψ2 k ∧ ν3 k = ν2 k) (hnews : News w1.heap.size w2 t S2 S3 ψ3 ν3 (fun q => p ++ [s] <+: q)) (hT2 : Turn (fun k => k = Dm) w1 w2)
    (hmapw : ∀ o, w2.heap[Dm]? = some o → w3.heap[Dm]? = some o) (h3 : ∀ k, k ≠ w.heap.size + 1 → w3.heap[k]? = w2.heap[k]?) (hsz3 : w3.heap.size = w2.heap.size) (hos : w3.os = w2.os) (htape : w3.tape = w2.tape) (hout : w3.output = w2.output) {o' : Obj} (ho' : w3.heap[w.heap.size + 1]? = some o') (hm' : IsMap o' (setM lk s (ψ3 j))) :
    CopyRel w t φ μ Dm p i l S ψ ν w3 (fun z => dn z || decide (z = s)) cnt1 S3 ψ3 ν3 (setM lk s (ψ3 j)) := by
  have hpast := h.past
  have hz2 := hT2.size
  have step1 : ∀ k, k ≠ w.heap.size + 2 → k < wr.heap.size → w1.heap[k]? = wr.heap[k]? := fun k hk hlt => hg1.block k hlt (by simp [hk])
  have keep : ∀ k o, wr.heap[k]? = some o → k ≠ w.heap.size + 2 → k ≠ w.heap.size + 1 → k ≠ Dm → w3.heap[k]? = some o := fun k o ho k1 k2 k3 => by
    have hlt := (Array.getElem?_eq_some_iff.1 ho).1
    rw [h3 k k2, hT2.block k (by omega) k3, step1 k k1 hlt]
    exact ho
  have keep2 : ∀ k o, w2.heap[k]? = some o → k ≠ w.heap.size + 1 → w3.heap[k]? = some o := fun k o ho k1 => by rw [h3 k k1]; exact ho
  refine ⟨?_, hmap.same hmapw, keep _ _ h.thing (by omega) (by omega) (by omega), ⟨o', ho', hm'⟩, fun z => ?_, fun k hk => ?_, ?_, ?_, ?_, by omega⟩
  · have k1 := hrg.kept (w' := w2) (row := some Dm) ⟨hT2.os, hT2.tape, hT2.output, hT2.size, fun k hk hn => hT2.block k hk (fun e => hn (by rw [e]))⟩ (by simp [hμD]) (by simp; omega)
    have k2 := k1.kept (w' := w3) (row := some (w.heap.size + 1)) ⟨hos, htape, hout, by omega, fun k hk hn => h3 k (fun e => hn (by rw [e]))⟩ (by simp; omega) (by simp)
    exact k2.congr (fun z => by rw [and_assoc, Bool.or_eq_false_iff, decide_eq_false_iff_not])
  · rw [getM_set]
    by_cases hz : z = s
    · subst hz
      rw [if_pos rfl, if_pos (by simp), hj]
      rfl
    · rw [if_neg hz, h.kids z]
      have : (dn z || decide (z = s)) = dn z := by simp [hz]
      rw [this]
      by_cases hdz : dn z = true
      · rw [if_pos hdz, if_pos hdz]
        cases hf : t.find (p ++ [z]) with
        | none => rfl
        | some k =>
          have hk : k ∈ S2 := h.news.all (p ++ [z]) k ⟨z, hdz, List.prefix_refl _⟩ (find_idOf hok hf)
          show some (ψ2 k) = some (ψ3 k)
          rw [(hold k hk).1]
      · rw [if_neg hdz, if_neg hdz]
  · have hk2 : k ∈ S2 := h.news.sub k (List.mem_append_left _ hk)
    exact ⟨(hold k hk2).1.trans (h.old k hk).1, (hold k hk2).2.trans (h.old k hk).2⟩
  · exact ⟨hnews.sub i h.self.1, (hold i h.self.1).1.trans h.self.2.1, (hold i h.self.1).2.trans h.self.2.2⟩
  · have whole2 : ∀ k ∈ S2, k ∉ S ++ [i] → CopiedAt w3 t ψ3 ν3 k := fun k hk hn => by
      have hc := h.news.whole k hk hn
      obtain ⟨q, ⟨s0, hs0, hq0⟩, hq⟩ := h.news.at' k hk hn
      obtain ⟨l1, l2⟩ := h.news.low k hk hn
      refine hc.kept (hold k hk).1 (hold k hk).2 (fun hdk p' s' k' hp' hk' => ?_) (fun o ho => keep _ o ho (by omega) (by omega) (by omega)) (fun hdk o ho => by have := l2 hdk; exact keep _ o ho (by omega) (by omega) (by omega))
      have : p' = q := dir_path hok hp' hq hdk
      subst this
      exact (hold k' (h.news.all _ k' ⟨s0, hs0, hq0.trans (List.prefix_append _ _)⟩ (find_idOf hok hk'))).1
    have whole3 : ∀ k ∈ S3, k ∉ S2 → CopiedAt w3 t ψ3 ν3 k := fun k hk hn => by
      have hc := hnews.whole k hk hn
      obtain ⟨l1, l2⟩ := hnews.low k hk hn
      exact hc.kept rfl rfl (fun _ _ _ _ _ _ => rfl) (fun o ho => keep2 _ o ho (by omega)) (fun hdk o ho => by have := l2 hdk; exact keep2 _ o ho (by omega))
    have big : ∀ k ∈ S2, k ∉ S ++ [i] → ψ3 k < wr.heap.size ∧ (t.isDir k = true → ν3 k < wr.heap.size) := fun k hk hn => by
      have hc := h.news.whole k hk hn
      rw [(hold k hk).1, (hold k hk).2]
      exact ⟨hc.lt, fun hdk => hc.ltm hok (h.news.has k hk) hdk⟩
    refine ⟨hnews.has, fun k hk => hnews.sub k (h.news.sub k hk), fun k hk hn => ?_, fun k hk hn => ?_, fun k hk hn => ?_, fun a ha b hb hna hnb e => ?_, fun a ha b hb hna hnb hda hdb e => ?_, fun q k hq hk => ?_⟩
    · by_cases h2 : k ∈ S2
      · obtain ⟨q, ⟨s0, hs0, hq0⟩, hq⟩ := h.news.at' k h2 hn
        exact ⟨q, ⟨s0, by simp [hs0], hq0⟩, hq⟩
      · obtain ⟨q, hq0, hq⟩ := hnews.at' k hk h2
        exact ⟨q, ⟨s, by simp, hq0⟩, hq⟩
    · by_cases h2 : k ∈ S2
      · exact whole2 k h2 hn
      · exact whole3 k hk h2
    · by_cases h2 : k ∈ S2
      · rw [(hold k h2).1, (hold k h2).2]
        exact h.news.low k h2 hn
      · obtain ⟨l1, l2⟩ := hnews.low k hk h2
        exact ⟨by omega, fun hdk => by have := l2 hdk; omega⟩
    · by_cases ha2 : a ∈ S2
      · by_cases hb2 : b ∈ S2
        · rw [(hold a ha2).1, (hold b hb2).1] at e
          exact h.news.inj a ha2 b hb2 hna hnb e
        · have h1 := (big a ha2 hna).1
          have h2 := (hnews.low b hb hb2).1
          omega
      · by_cases hb2 : b ∈ S2
        · have h1 := (big b hb2 hnb).1
          have h2 := (hnews.low a ha ha2).1
          omega
        · exact hnews.inj a ha b hb ha2 hb2 e
    · by_cases ha2 : a ∈ S2
      · by_cases hb2 : b ∈ S2
        · rw [(hold a ha2).2, (hold b hb2).2] at e
          exact h.news.injm a ha2 b hb2 hna hnb hda hdb e
        · have h1 := (big a ha2 hna).2 hda
          have h2 := (hnews.low b hb hb2).2 hdb
          omega
      · by_cases hb2 : b ∈ S2
        · have h1 := (big b hb2 hnb).2 hdb
          have h2 := (hnews.low a ha ha2).2 hda
          omega
        · exact hnews.injm a ha b hb ha2 hb2 hda hdb e
    · obtain ⟨s0, hs0, hq0⟩ := hq
      by_cases hd0 : dn s0 = true
      · exact hnews.sub k (h.news.all q k ⟨s0, hd0, hq0⟩ hk)
      · have : s0 = s := by simpa [hd0] using hs0
        subst this
        exact hnews.all q k hq0 hk
  · refine ⟨hos.trans (hT2.os.trans (hg1.os.trans h.turn.os)), htape.trans (hT2.tape.trans (hg1.tape.trans h.turn.tape)), hout.trans (hT2.output.trans (hg1.output.trans h.turn.output)), by have := h.turn.size; omega, fun k hk hn => ?_⟩
    rw [h3 k (by omega), hT2.block k (by omega) hn, step1 k (by omega) (by omega)]
    exact h.turn.block k hk hn

theorem CopyRel.done {w wr : World} {p : List ByteArray} {i : Nat} {l lk : List (ByteArray × Nat)} {S S2 : List Nat} {ψ ν ψ2 ν2 : Nat → Nat} {dn : ByteArray → Bool} {cnt : Nat} (hok : t.Ok) (hp : t.idOf p = some i) (hd : t.isDir i = true)
    (h : CopyRel w t φ μ Dm p i l S ψ ν wr dn cnt S2 ψ2 ν2 lk) (hi : i ∉ S) (hall : ∀ s, (t.find (p ++ [s])).isSome = true → dn s = true) : CopyPost w t φ Dm S ψ ν p i (.returned (ptr w.heap.size)) wr := by
  have hnew : ∀ k ∈ S2, k ∉ S → k = i ∨ k ∉ S ++ [i] := fun k _ hn => by
    by_cases hki : k = i
    · exact Or.inl hki
    · exact Or.inr (fun hm => (List.mem_append.1 hm).elim hn (fun h1 => hki (List.mem_singleton.1 h1)))
  have hth := there_idOf hok hp
  rw [hd] at hth
  refine ⟨S2, ψ2, ν2, by rw [h.self.2.1], h.map, h.old, h.self.1, ⟨h.news.has, fun k hk => h.news.sub k (List.mem_append_left _ hk), fun k hk hn => ?_, fun k hk hn => ?_, fun k hk hn => ?_, fun a ha b hb hna hnb e => ?_, fun a ha b hb hna hnb hda hdb e => ?_, fun q k hq hk => ?_⟩, h.turn⟩
  · rcases hnew k hk hn with rfl | h2
    · exact ⟨p, List.prefix_refl _, hp⟩
    · obtain ⟨q, ⟨s, _, hq⟩, hk2⟩ := h.news.at' k hk h2
      exact ⟨q, (List.prefix_append p [s]).trans hq, hk2⟩
  · rcases hnew k hk hn with rfl | h2
    · refine ⟨?_, fun _ p' hp' => ?_⟩
      · rw [h.self.2.1, h.self.2.2, hd, if_pos rfl, hok.empty _ _ hth]
        exact h.thing
      · have : p' = p := dir_path hok hp' hp hd
        subst this
        rw [h.self.2.2]
        refine ⟨lk, h.own, fun s => ?_⟩
        rw [h.kids s]
        by_cases hds : dn s = true
        · rw [if_pos hds]
        · rw [if_neg hds]
          cases hf : t.find (p' ++ [s]) with
          | none => rfl
          | some k' => exact absurd (hall s (by rw [hf]; rfl)) hds
    · exact h.news.whole k hk h2
  · rcases hnew k hk hn with rfl | h2
    · rw [h.self.2.1, h.self.2.2]
      exact ⟨Nat.le_refl _, fun _ => Nat.le_succ _⟩
    · obtain ⟨l1, l2⟩ := h.news.low k hk h2
      exact ⟨by omega, fun hdk => by have := l2 hdk; omega⟩
  · rcases hnew a ha hna with rfl | h1
    · rcases hnew b hb hnb with rfl | h2
      · rfl
      · have := (h.news.low b hb h2).1
        rw [h.self.2.1] at e
        omega
    · rcases hnew b hb hnb with rfl | h2
      · have := (h.news.low a ha h1).1
        rw [h.self.2.1] at e
        omega
      · exact h.news.inj a ha b hb h1 h2 e
  · rcases hnew a ha hna with rfl | h1
    · rcases hnew b hb hnb with rfl | h2
      · rfl
      · have := (h.news.low b hb h2).2 hdb
        rw [h.self.2.2] at e
        omega
    · rcases hnew b hb hnb with rfl | h2
      · have := (h.news.low a ha h1).2 hda
        rw [h.self.2.2] at e
        omega
      · exact h.news.injm a ha b hb h1 h2 hda hdb e
  · obtain ⟨r, rfl⟩ := hq
    cases r with
    | nil =>
      rw [List.append_nil, hp] at hk
      cases hk
      exact h.self.1
    | cons s r =>
      have h1 : p ++ [s] <+: p ++ s :: r := ⟨r, by simp⟩
      have hne : p ++ s :: r ≠ [] := by simp
      have hk' := hk
      rw [idOf_find hne] at hk'
      obtain ⟨k2, hk2, _⟩ := below_there hok (p := p ++ [s]) (by simp) r (j := k) (by have := (find_mem hok).1 hk'; simpa using this)
      exact h.news.all _ k ⟨s, hall s (by rw [(find_mem hok).2 hk2]; rfl), h1⟩ hk
end
end Go.Proofs.YtcgpmnlondnbhaaGreatDoor

namespace Go.Proofs.YtcgpmnlondnbhaaGreatDoor
open Go Go.RowKit Txt Sp

section
variable {B Dm : Nat} {t : Sp.Tree} {φ μ : Nat → Nat}

/-- Ahead of the first round. -/
theorem copy_start {w W w0 : World} (hok : t.Ok) {p : List ByteArray} {i : Nat} (hp : t.idOf p = some i) (hd : t.isDir i = true) {S : List Nat} {ψ ν : Nat → Nat} (hD : PMapAt w Dm (pairs φ ψ S)) (hS : ∀ j ∈ S, t.has j) (hi : i ∉ S)
    (hst : Started w t φ Dm S ψ i W) {l : List (ByteArray × Nat)} {cnt : Nat} (hrg : Ranging w0 (μ i) (w.heap.size + 2) l (fun s => (getM l s).isSome) cnt)
    (hg : ((W.alloc (.map #[] 0)).setCell ⟨w.heap.size, 2, none⟩ (.map (some (w.heap.size + 1)))).grownBy w0 none) (hz : w0.heap.size = w.heap.size + 3) :
    CopyRel w t φ μ Dm p i l S ψ ν w0 (fun _ => false) cnt (S ++ [i]) (upd ψ i w.heap.size) (upd ν i (w.heap.size + 1)) [] := by
  have hDw := hD.lt
  have hth := there_idOf hok hp
  rw [hd] at hth
  have hem := hok.empty _ _ hth
  have hb := (Below.refl W.heap.size W).alloc (Nat.le_refl _) (.map #[] 0)
  have hsz := hst.size
  have hz1 : ((W.alloc (.map #[] 0)).setCell ⟨w.heap.size, 2, none⟩ (.map (some (w.heap.size + 1)))).heap.size = w.heap.size + 2 := by
    rw [size_setCell]
    show (W.heap.push _).size = _
    rw [Array.size_push, hsz]
  have far : ∀ k, k < W.heap.size → k ≠ w.heap.size → w0.heap[k]? = W.heap[k]? := fun k hk hn => by
    rw [hg.block k (by rw [hz1]; omega) (by simp), heap_setCell_ne _ hn]
    exact hb.block k hk
  have hthing : w0.heap[w.heap.size]? = some (thingO (ofL []) (t.links i) (some (w.heap.size + 1))) := by
    have h1 := heap_below hb _ _ hst.thing
    rw [hem] at h1
    rw [hg.block _ (by rw [hz1]; omega) (by simp), heap_setCell_at h1]
    rfl
  have hown : w0.heap[w.heap.size + 1]? = some (.map #[] 0) := by
    rw [hg.block _ (by rw [hz1]; omega) (by simp), heap_setCell_ne _ (by omega)]
    exact alloc_at hsz _
  have hne : ∀ j ∈ S, j ≠ i := fun j hj e => hi (by rw [← e]; exact hj)
  refine ⟨hrg.congr (fun s => by simp), hst.map.same (fun o ho => by rw [far _ (by omega) (by omega)]; exact ho), hthing, ⟨_, hown, IsMap.new⟩, fun s => rfl, fun j hj => ⟨upd_ne (hne j hj), upd_ne (hne j hj)⟩, ⟨by simp, upd_at _ _ _, upd_at _ _ _⟩, ?_, ?_, by omega⟩
  · refine ⟨fun j hj => ?_, fun _ h => h, fun _ h1 h2 => absurd h1 h2, fun _ h1 h2 => absurd h1 h2, fun _ h1 h2 => absurd h1 h2, fun _ h1 _ _ h2 => absurd h1 h2, fun _ h1 _ _ h2 => absurd h1 h2, fun q j hq _ => ?_⟩
    · rcases List.mem_append.1 hj with h | h
      · exact hS j h
      · rw [List.mem_singleton.1 h]; exact has_idOf hok hp
    · obtain ⟨s, hs, _⟩ := hq
      cases hs
  · refine ⟨hg.os.trans hst.turn.os, hg.tape.trans hst.turn.tape, hg.output.trans hst.turn.output, by omega, fun k hk hn => ?_⟩
    rw [far k (by omega) (by omega)]
    exact hst.turn.block k hk hn

/-- No directory below the next name has been copied. -/
theorem CopyRel.fresh {w wr : World} {p : List ByteArray} {i : Nat} {l lk : List (ByteArray × Nat)} {S S2 : List Nat} {ψ ν ψ2 ν2 : Nat → Nat} {dn : ByteArray → Bool} {cnt : Nat} (hok : t.Ok) (hp : t.idOf p = some i)
    (h : CopyRel w t φ μ Dm p i l S ψ ν wr dn cnt S2 ψ2 ν2 lk) (hfr : ∀ q j, p <+: q → t.idOf q = some j → t.isDir j = true → j ∉ S) {s : ByteArray} (hs : dn s = false) : ∀ q j, p ++ [s] <+: q → t.idOf q = some j → t.isDir j = true → j ∉ S2 := by
  intro q j hq hj hd hm
  by_cases h1 : j ∈ S
  · exact hfr q j ((List.prefix_append p [s]).trans hq) hj hd h1
  by_cases h2 : j = i
  · subst h2
    have := dir_path hok hj hp hd
    subst this
    have := hq.length_le
    rw [List.length_append, List.length_singleton] at this
    omega
  obtain ⟨q', ⟨s', hs', hq'⟩, hj'⟩ := h.news.at' j hm (fun hc => (List.mem_append.1 hc).elim h1 (fun h3 => h2 (List.mem_singleton.1 h3)))
  have := dir_path hok hj hj' hd
  subst this
  obtain ⟨r, hr⟩ := hq
  obtain ⟨r', hr'⟩ := hq'
  rw [← hr] at hr'
  rw [List.append_assoc, List.append_assoc] at hr'
  have := List.append_cancel_left hr'
  cases this
  rw [hs] at hs'
  cases hs'

set_option maxHeartbeats 4000000
set_option maxRecDepth 20000 in
theorem copied_any (hok : t.Ok) (hfew : t.names.length ≤ 1000000) (hDm : ∀ k, Rep.dom B t φ μ k → k ≠ Dm) : ∀ (n : Nat) (p : List ByteArray) (i : Nat) (w : World) (S : List Nat) (ψ ν : Nat → Nat), (belowL t p).length < n → Rep w B t φ μ → t.idOf p = some i → PMapAt w Dm (pairs φ ψ S) → (∀ j ∈ S, t.has j) →
    (∀ q j, p <+: q → t.idOf q = some j → t.isDir j = true → j ∉ S) → Calls Tryz.prog 27 #[ptr (φ i), .map (some Dm)] w (CopyPost w t φ Dm S ψ ν p i) := by
  intro n
  induction n with
  | zero => intro p i w S ψ ν hn; omega
  | succ n ih =>
    intro p i w S ψ ν hn hR hp hD hS hfr
    cases hd : t.isDir i with
    | false =>
      by_cases hi : i ∈ S
      · exact copied_seen hR hok hp hD hS hi hd
      · exact copied_file hR hok hp hD hS hi hd hDm
    | true =>
      have hi : i ∉ S := hfr p i (List.prefix_refl _) hp hd
      have hih := has_idOf hok hp
      have hlk := run_lookup_thing hD (hR.isThing hok hih) (pairs_things hR hok hS ψ)
      rw [getP_pairs hR.inj hS hih, if_neg hi] at hlk
      have hth := there_idOf hok hp
      rw [hd] at hth
      have hem := hok.empty _ _ hth
      obtain ⟨hblk, l, hl, hget⟩ := hR.dir i p hp hd
      have hkeys := hR.keys hok hp hd hl
      have hnames : ∀ x ∈ l, nameB x.1 = true := fun x hx => by
        have h1 : x.1 ∈ t.kidsL p := hkeys.mem_iff.1 (List.mem_map.2 ⟨x, hx, rfl⟩)
        obtain ⟨j, hj⟩ := kidsL_mem.1 h1
        exact hok.good _ _ hj _ (by simp)
      have hml : ∀ x ∈ l, x.1.size ≤ maxLen := fun x hx => Nat.le_trans (nameB_size (hnames x hx)) (by decide)
      have hll : l.length ≤ 1000000 := by
        have := hkeys.length_eq
        rw [List.length_map] at this
        have h2 := kids_few t p
        omega
      have c0 : w.cell? ⟨φ i, 0, none⟩ = some (.string (ofL [])) := cell_of_heap hblk rfl
      have c1 : w.cell? ⟨φ i, 1, none⟩ = some (.int .i64 (t.links i)) := cell_of_heap hblk rfl
      obtain ⟨o', hrun, hst⟩ := started hR hok hih hD hS hi (o := thingO (ofL []) (t.links i) none) (by rw [hem])
      obtain ⟨W, hW⟩ : ∃ W, ChangeMaps.setBlock (w.alloc (thingO (ofL []) (t.links i) none)).drew Dm o' = W := ⟨_, rfl⟩
      rw [hW] at hrun hst
      have hblkW := hst.turn.heap hblk (hDm _ (dom_thing hih))
      have hlt := hR.lt_thing hok hih
      have hDlt := hD.lt
      have hmlt := hl.lt
      have hmD : μ i ≠ Dm := hDm _ (dom_map hih hd)
      have hmW : MapAt W (μ i) l := hl.same (fun o ho => hst.turn.heap ho hmD)
      have c2 : W.cell? ⟨φ i, 2, none⟩ = some (.map (some (μ i))) := cell_of_heap hblkW rfl
      have g2 : W.cell? ⟨w.heap.size, 2, none⟩ = some (.map none) := cell_of_heap hst.thing rfl
      have g3 : W.frozen? ⟨w.heap.size, 2, none⟩ = false := free_of_heap hst.thing
      have hsz := hst.size
      obtain ⟨W1, hW1⟩ : ∃ W1, (W.alloc (.map #[] 0)).setCell ⟨w.heap.size, 2, none⟩ (.map (some (w.heap.size + 1))) = W1 := ⟨_, rfl⟩
      have hb := (Below.refl W.heap.size W).alloc (Nat.le_refl _) (.map #[] 0)
      have keepW : ∀ k o, k ≠ w.heap.size → W.heap[k]? = some o → W1.heap[k]? = some o := fun k o hk ho => by
        rw [← hW1, heap_setCell_ne _ hk]
        exact heap_below hb _ _ ho
      have c3 : W1.cell? ⟨φ i, 2, none⟩ = some (.map (some (μ i))) := cell_of_heap (keepW _ _ (by omega) hblkW) rfl
      have hl1 : MapAt W1 (μ i) l := hmW.same (fun o ho => keepW _ _ (by omega) ho)
      have hz1 : W1.heap.size = w.heap.size + 2 := by
        rw [← hW1, size_setCell]
        show (W.heap.push _).size = _
        rw [Array.size_push, hsz]
      have HST := Lib.hid (fun (w0 : World) (cnt : Nat) => copy_start (μ := μ) (ν := ν) (w0 := w0) (l := l) (cnt := cnt) hok hp hd hD hS hi hst)
      rw [hW1] at HST
      have HR := Lib.hid hR
      have HL := Lib.hid hl
      have HG := Lib.hid hget
      have HP := Lib.hid hp
      have HIH := Lib.hid ih
      have HOK := Lib.hid hok
      have HMlt := Lib.hid hmlt
      have HFr := Lib.hid hfr
      have HDm := Lib.hid hDm
      have HDlt := Lib.hid hDlt
      have HmD := Lib.hid hmD
      have HDir := Lib.hid hd
      have HI := Lib.hid hi
      have HN := Lib.hid hn
      have HZ1 := Lib.hid hz1
      have p2 := neq_none
      have m2 := fun (r : Option Nat) (w : World) => run_neq_map_nil (P := Tryz.prog) w 55 _ _ r ht_map
      have hmm := @run_makeMap Tryz.prog
      clear hR hok hp hD hS hi hd hDm hih hth hem hblk hl hget hkeys hnames hst hW hblkW hDlt hmlt hmD hmW hb keepW hfr ih hn hz1 hlt
      unfold thingO at hrun
      simp only [ptrO] at hlk
      unfold ptr at hlk hrun ⊢
      go_enter Tryz.func27, Tryz.ntmps27
      go_wp2
      go_still_tail 9, (by kernel_rfl)
      change wpList _ _ _ _ _ w.drew
      go_wp2_with (first
        | (at_range; refine wpList_range_dir rfl _ rfl rfl hl1 hml hll ?_; intro w0 cnt0 hrg0 hg0 hs0')
        | go_in)
      rw [HZ1.out] at hrg0 hs0' ⊢
      have HR0 := Lib.hid (HST.out w0 cnt0 hrg0 hg0 hs0')
      clear hrg0 hg0 hs0' HST hl1 c0 c1 c2 c3 g2 g3 hrun hlk hsz hW1 HZ1 hmm m2 p2
      go_frame
      go_loopw [] (fun wr => ∃ (dn : ByteArray → Bool) (cnt : Nat) (S2 : List Nat) (ψ2 ν2 : Nat → Nat) (lk : List (ByteArray × Nat)), Hid (CopyRel w t φ μ Dm p i l S ψ ν wr dn cnt S2 ψ2 ν2 lk)) (fun wr => wr.rangeLeft (μ i) (w.heap.size + 2))
      case atStart => exact ⟨_, _, _, _, _, _, HR0⟩
      case round =>
        obtain ⟨dn, cnt, S2, ψ2, ν2, lk, HRel⟩ := hrel
        have hlr : MapAt wr (μ i) l := HL.out.same (fun o ho => HRel.out.turn.heap ho HmD.out)
        go_wp2_with (first
          | (at_next; refine wpList_next_dir rfl _ rfl rfl hlr hml hll HRel.out.rg ?_ ?_)
          | go_in)
        · intro hdone
          clear hlr
          go_wp2
          go_ret
          refine HRel.out.done HOK.out HP.out HDir.out HI.out (fun s hs => ?_)
          have h1 := hdone s
          rw [HG.out s, Option.isSome_map] at h1
          simpa using h1 hs
        · intro s c w1 cnt1 _ hsd hgc hrg1 hlt1 hg1 hs1 hen
          obtain ⟨j, hj, hjc⟩ : ∃ j, t.find (p ++ [s]) = some j ∧ φ j = c := by
            rw [HG.out s] at hgc
            exact Option.map_eq_some_iff.1 hgc
          subst hjc
          have hrec := HRel.out
          have hpast := hrec.past
          have hDl := HDlt.out
          have hT1 : Turn (fun k => k = Dm) w w1 := ⟨hg1.os.trans hrec.turn.os, hg1.tape.trans hrec.turn.tape, hg1.output.trans hrec.turn.output, by omega, fun k hk hn => (hg1.block k (by omega) (by simp; omega)).trans (hrec.turn.block k hk hn)⟩
          have hR1 : Rep w1.drew B t φ μ := (HR.out.turn HOK.out hT1 HDm.out).same (fun _ _ h => h)
          have hmap1 : PMapAt w1.drew Dm (pairs φ ψ2 S2) := hrec.map.same (fun o ho => by
            show w1.heap[Dm]? = some o
            rw [hg1.block _ (by omega) (by simp; omega)]
            exact ho)
          have hbc := belowL_child HOK.out hj
          have hn := HN.out
          have hcall := HIH.out (p ++ [s]) j w1.drew S2 ψ2 ν2 (by omega) hR1 (find_idOf HOK.out hj) hmap1 hrec.news.has (hrec.fresh HOK.out HP.out HFr.out hsd)
          have th1 : w1.heap[w.heap.size]? = some (thingO (ofL []) (t.links i) (some (w.heap.size + 1))) := by
            rw [hg1.block _ (by omega) (by simp)]
            exact hrec.thing
          have own1 : MapAt w1 (w.heap.size + 1) lk := hrec.own.same (fun o ho => by
            rw [hg1.block _ (by omega) (by simp)]
            exact ho)
          have c6 : w1.cell? ⟨w.heap.size, 2, none⟩ = some (.map (some (w.heap.size + 1))) := cell_of_heap th1 rfl
          have HCall := Lib.hid hcall
          have TH1 := Lib.hid th1
          have OWN1 := Lib.hid own1
          have HDl2 : Hid (w.heap.size ≠ Dm ∧ w.heap.size + 1 ≠ Dm) := ⟨by omega, by omega⟩
          have HJ := Lib.hid hj
          have HSD := Lib.hid hsd
          have HRG := Lib.hid hrg1
          have HLT := Lib.hid hlt1
          have HG1 := Lib.hid hg1
          have HS1 := Lib.hid hs1
          clear hcall th1 own1 hT1 hR1 hmap1 hbc hn hDl hpast hrec hj hsd hrg1 hlt1 hg1 hs1 hgc hlr
          unfold ptr at HCall hen
          unfold ptr
          go_wp2
          go_region_held3 (fun w' => w'.cell? ⟨w.heap.size, 2, none⟩ = some (.map (some (w.heap.size + 1))))
            (first | exact c6 | exact cell_of_heap (hT3.out.heap TH1.out HDl2.out.1) rfl | exact cell_of_heap ((heap_setBlock_ne o2 (Nat.ne_of_lt (Nat.lt_succ_self w.heap.size))).trans (hT3.out.heap TH1.out HDl2.out.1)) rfl)
            (first | (go_at_call 27; refine HCall.out.mono ?_; rintro e w2 ⟨S3, ψ3, ν3, rfl, hmap3, hold3, hj3, hnews3, hT3⟩; replace hT3 := Lib.hid hT3; replace hmap3 := Lib.hid hmap3; replace hold3 := Lib.hid hold3; replace hnews3 := Lib.hid hnews3; clear hj3; obtain ⟨o2, hrun2, ho2⟩ := run_update_ptr (P := Tryz.prog) (w := w2) (T := 55) (K := 9) (E := 54) (m := w.heap.size + 1) (l := lk) ht_map Tryz.underlying9 (OWN1.out.same (fun o ho => hT3.out.heap ho HDl2.out.2)) s (ψ3 j); replace ho2 := Lib.hid ho2; unfold ptr at hrun2 ⊢))
          have hnew := HRel.out.step HOK.out HDlt.out HMlt.out HmD.out HJ.out HSD.out HRG.out HG1.out HS1.out hmap3.out hold3.out hnews3.out ⟨hT3.out.os, hT3.out.tape, hT3.out.output, hT3.out.size, hT3.out.block⟩ (w3 := ChangeMaps.setBlock w2 (w.heap.size + 1) o2)
            (fun o ho => by rw [heap_setBlock_ne _ (Ne.symm HDl2.out.2)]; exact ho) (fun k hk => heap_setBlock_ne _ hk) (size_setBlock _ _ _) rfl rfl rfl (heap_setBlock_at o2 (by
              have h1 := (OWN1.out.same (fun o ho => hT3.out.heap ho HDl2.out.2)).lt
              exact h1)) ho2.out
          have HNew := Lib.hid hnew
          clear hnew
          go_wp2
          go_roundw
          case rel => exact ⟨_, _, _, _, _, _, HNew⟩
          case measure => rw [HNew.out.rg.left_eq, HRel.out.rg.left_eq]; exact HLT.out
end
end Go.Proofs.YtcgpmnlondnbhaaGreatDoor

namespace Go.Proofs.YtcgpmnlondnbhaaGreatDoor
open Go Go.RowKit Txt Sp

section
set_option maxHeartbeats 1000000
theorem fork_end {w W w2 : World} {B : Nat} {t : Sp.Tree} (hok : t.Ok) {S' : List Nat} {ψ ν : Nat → Nat} (hb : Below w.heap.size w W) (hz : W.heap.size = w.heap.size + 1) (hN : News W.heap.size w2 t [] S' ψ ν (fun q => [] <+: q)) (hT : Turn (fun k => k = w.heap.size) W w2) (hB : B = w2.heap.size) :
    ∃ φ' μ', Rep (w2.alloc (treeO (ψ 0))) B t φ' μ' ∧ Below w.heap.size w (w2.alloc (treeO (ψ 0))) ∧ ∀ k, Rep.dom B t φ' μ' k → w.heap.size ≤ k := by
  subst hB
  have h1 := hT.size
  have hb2 : Below w.heap.size w w2 := hb.trans (hT.below (n := w.heap.size) (fun k hk => by omega) (by omega))
  have hb3 := (Below.refl w2.heap.size w2).alloc (Nat.le_refl _) (treeO (ψ 0))
  have hno : ∀ j : Nat, j ∉ ([] : List Nat) := fun j hj => by cases hj
  have hall : ∀ j, t.has j → j ∈ S' := fun j hj => by
    obtain ⟨p, hp⟩ := idOf_has hok hj
    exact hN.all p j List.nil_prefix hp
  have hN3 : News W.heap.size (w2.alloc (treeO (ψ 0))) t [] S' ψ ν (fun q => [] <+: q) :=
    ⟨hN.has, hN.sub, hN.at', fun j hj hn => (hN.whole j hj hn).kept rfl rfl (fun _ _ _ _ _ _ => rfl) (fun o ho => heap_below hb3 _ _ ho) (fun _ o ho => heap_below hb3 _ _ ho), hN.low, hN.inj, hN.injm, hN.all⟩
  refine ⟨ψ, ν, copied_rep hok hN3 (heap_alloc_new w2 _), hb2.trans (hb3.mono hb2.size), ?_⟩
  rintro k (rfl | ⟨i, hi, rfl | ⟨hd, rfl⟩⟩)
  · omega
  · have := (hN.low i (hall i hi) (hno i)).1
    omega
  · have := (hN.low i (hall i hi) (hno i)).2 hd
    omega

theorem fork_any {w : World} {B : Nat} {t : Sp.Tree} {φ μ : Nat → Nat} (hR : Rep w B t φ μ) (hok : t.Ok) (hfew : t.names.length ≤ 1000000) :
    Calls Tryz.prog 9 #[ptr B] w fun e w' => ∃ B' φ' μ', e = .returned (ptr B') ∧ Rep w' B' t φ' μ' ∧ Below w.heap.size w w' ∧ ∀ k, Rep.dom B' t φ' μ' k → w.heap.size ≤ k := by
  have hmm := @run_makeMap Tryz.prog
  have c0 := hR.rootCell
  have hb := (Below.refl w.heap.size w).alloc (Nat.le_refl _) (.map #[] 0)
  have hcall := copied_any (Dm := w.heap.size) (B := B) (φ := φ) (μ := μ) hok hfew (fun k hk => by have := hR.dom_lt hok hk; omega) ((belowL t []).length + 1) [] 0 (w.alloc (.map #[] 0)) [] φ μ (by omega) (hR.below hb) idOf_nil
    ⟨_, heap_alloc_new w _, #[], 0, rfl, rfl⟩ (fun j hj => by cases hj) (fun _ j _ _ _ hj => by cases hj)
  have HCall := Lib.hid hcall
  have HB := Lib.hid hb
  have HOK := Lib.hid hok
  clear hR hok hcall hb
  unfold ptr at c0 HCall ⊢
  go_enter Tryz.func9, Tryz.ntmps9
  go_wp2_with fail
  refine HCall.out.mono ?_
  rintro e w2 ⟨S', ψ', ν', rfl, -, -, -, hN, hT⟩
  have HE := Lib.hid (fork_end HOK.out HB.out (by simp) hN hT rfl)
  clear hN hT HCall
  unfold ptr
  go_wp2
  go_ret
  obtain ⟨φ', μ', h1, h2, h3⟩ := HE.out
  exact ⟨_, φ', μ', rfl, h1, h2, h3⟩

/-- Fork, of a tree that lives. -/
theorem fork_live {w0 w : World} {B : Nat} {t : Sp.Tree} {k : Nat} {D : Nat → Prop} (h : Live w0 w B t k D) (hk : k ≤ 100000) :
    Calls Tryz.prog 9 #[ptr B] w fun e w' => ∃ B' D', e = .returned (ptr B') ∧ Live w0 w' B' t k D' ∧ Below w.heap.size w w' ∧ ∀ j, D' j → w.heap.size ≤ j := by
  obtain ⟨φ, μ, hR, hD⟩ := h.rep
  refine (fork_any hR h.ok (Nat.le_trans h.few (by omega))).mono ?_
  rintro e w' ⟨B', φ', μ', rfl, hR', hb, hd⟩
  exact ⟨B', Rep.dom B' t φ' μ', rfl, ⟨h.ok, h.few, h.low.trans (hb.mono h.low.size), ⟨φ', μ', hR', fun _ h => h⟩, fun j hj => ⟨Nat.le_trans h.low.size (hd j hj), hR'.dom_lt h.ok hj⟩, h.max0⟩, hb, hd⟩
end
end Go.Proofs.YtcgpmnlondnbhaaGreatDoor
