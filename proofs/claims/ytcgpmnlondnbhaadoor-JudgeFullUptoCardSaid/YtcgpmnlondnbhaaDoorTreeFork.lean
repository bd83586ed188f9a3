/-
  The tree's walks: copied.
-/
import Derived.Test.YtcgpmnlondnbhaaDoorTreeCopy
import Derived.Test.YtcgpmnlondnbhaaDoorPlainA
import Derived.StillTailTactics
import Derived.Laws.IdiomRangeMap
namespace Go.Proofs.YtcgpmnlondnbhaaDoor
open Go Go.RowKit Txt Sp

theorem neq_some (w : World) (a : Addr) : (binOp .neq 63 (.pointer (some a)) (.pointer none)).run Tryd.prog w = .ok (.bool true) w := by
  have h : ∀ d : Nat, (Op.equalIn (d + 1) 63 (.pointer (some a)) (.pointer none)).run Tryd.prog w = .ok false w := fun d => by
    simp [Op.equalIn, run_underlying pt_thing]
  simp only [binOp]
  simp [Op.equal, Op.maxDepth, h 9999]
theorem neq_none (w : World) : (binOp .neq 63 (.pointer none) (.pointer none)).run Tryd.prog w = .ok (.bool false) w := by
  have h : ∀ d : Nat, (Op.equalIn (d + 1) 63 (.pointer none) (.pointer none)).run Tryd.prog w = .ok true w := fun d => by
    simp [Op.equalIn, run_underlying pt_thing]
  simp only [binOp]
  simp [Op.equal, Op.maxDepth, h 9999]

section
set_option maxHeartbeats 4000000
variable {B Dm : Nat} {t : Sp.Tree} {φ μ : Nat → Nat}

theorem Rep.isThing {w : World} (hR : Rep w B t φ μ) (hok : t.Ok) {i : Nat} (h : t.has i) : IsThing w (φ i) :=
  let ⟨d, m, ht⟩ := hR.thing hok h
  ⟨d, _, m, ht⟩
theorem pairs_things {w : World} (hR : Rep w B t φ μ) (hok : t.Ok) {S : List Nat} (hS : ∀ j ∈ S, t.has j) (ψ : Nat → Nat) : ∀ x ∈ pairs φ ψ S, IsThing w x.1 := by
  intro x hx
  obtain ⟨j, hj, rfl⟩ := List.mem_map.1 hx
  exact hR.isThing hok (hS j hj)

/-- A file that has been copied by another name. -/
theorem copied_seen {w : World} (hR : Rep w B t φ μ) (hok : t.Ok) {p : List ByteArray} {i : Nat} (hp : t.idOf p = some i) {S : List Nat} {ψ ν : Nat → Nat} (hD : PMapAt w Dm (pairs φ ψ S)) (hS : ∀ j ∈ S, t.has j)
    (hi : i ∈ S) (hd : t.isDir i = false) : Calls Tryd.prog 37 #[ptr (φ i), .map (some Dm)] w (CopyPost w t φ Dm S ψ ν p i) := by
  have hlk := run_lookup_thing hD (hR.isThing hok (has_idOf hok hp)) (pairs_things hR hok hS ψ)
  rw [getP_pairs hR.inj hS (has_idOf hok hp), if_pos hi] at hlk
  have hmem : (p, i) ∈ t.names := by
    rcases idOf_mem hok hp with ⟨rfl, rfl⟩ | h
    · obtain ⟨d, hr⟩ := hok.root
      rw [isDir_of hok hr] at hd
      cases hd
    · exact h
  have HN : Hid (News w.heap.size w t S S ψ ν (fun q => p <+: q)) := ⟨hS, fun _ h => h, fun _ h1 h2 => absurd h1 h2, fun _ h1 h2 => absurd h1 h2, fun _ h1 h2 => absurd h1 h2, fun _ h1 _ _ h2 => absurd h1 h2, fun _ h1 _ _ h2 => absurd h1 h2, fun q j hq hj => by
    obtain ⟨r, rfl⟩ := hq
    by_cases h0 : p ++ r = []
    · exact absurd (List.append_eq_nil_iff.1 h0).1 (hok.ne _ _ hmem)
    · rw [idOf_find h0] at hj
      have := below_file hok hmem hd ((find_mem hok).1 hj)
      subst this
      rw [List.append_nil] at hj
      have h2 := (find_mem hok).2 hmem
      rw [h2] at hj
      cases hj
      exact hi⟩
  have HD := Lib.hid hD
  have HI := Lib.hid hi
  have p1 := neq_some
  clear hR hok hp hD hS hi hd hmem
  simp only [ptrO] at hlk
  unfold ptr at hlk ⊢
  go_enter Tryd.func37, Tryd.ntmps37
  go_wp2
  go_ret
  exact ⟨S, ψ, ν, rfl, HD.out, fun _ _ => ⟨rfl, rfl⟩, HI.out, HN.out, Turn.refl _ _⟩


/-- Where copied stands once the new thing is there, and is told. -/
structure Started (w : World) (t : Sp.Tree) (φ : Nat → Nat) (Dm : Nat) (S : List Nat) (ψ : Nat → Nat) (i : Nat) (W : World) : Prop where
  map : PMapAt W Dm (pairs φ (upd ψ i w.heap.size) (S ++ [i]))
  thing : W.heap[w.heap.size]? = some (thingO (t.dataOf i) (t.links i) none)
  turn : Turn (fun k => k = Dm) w W
  size : W.heap.size = w.heap.size + 1
theorem started {w : World} (hR : Rep w B t φ μ) (hok : t.Ok) {i : Nat} (hi : t.has i) {S : List Nat} {ψ : Nat → Nat} (hD : PMapAt w Dm (pairs φ ψ S)) (hS : ∀ j ∈ S, t.has j) (hn : i ∉ S) {o : Obj} (ho : o = thingO (t.dataOf i) (t.links i) none) :
    ∃ o', (Instr.mapUpdate 83 (.map (some Dm)) (ptr (φ i)) (ptr w.heap.size)).run Tryd.prog (w.alloc o).drew = .ok () (ChangeMaps.setBlock (w.alloc o).drew Dm o') ∧ Started w t φ Dm S ψ i (ChangeMaps.setBlock (w.alloc o).drew Dm o') := by
  subst ho
  have hb := (Below.refl w.heap.size w).alloc (Nat.le_refl _) (thingO (t.dataOf i) (t.links i) none)
  have hR1 : Rep (w.alloc (thingO (t.dataOf i) (t.links i) none)).drew B t φ μ := (hR.below hb).same (fun _ _ h => h)
  have hD1 : PMapAt (w.alloc (thingO (t.dataOf i) (t.links i) none)).drew Dm (pairs φ ψ S) := (hD.same (heap_below hb _)).same (fun _ h => h)
  have hg := getP_pairs hR.inj (ψ := ψ) hS hi
  rw [if_neg hn] at hg
  obtain ⟨o', hrun, ho'⟩ := run_update_thing hD1 (hR1.isThing hok hi) (pairs_things hR1 hok hS ψ) hg w.heap.size
  have hlt : Dm < (w.alloc (thingO (t.dataOf i) (t.links i) none)).drew.heap.size := hD1.lt
  have hne : Dm ≠ w.heap.size := Nat.ne_of_lt hD.lt
  have hz : (w.alloc (thingO (t.dataOf i) (t.links i) none)).drew.heap.size = w.heap.size + 1 := by
    show (w.heap.push _).size = _
    exact Array.size_push _
  refine ⟨o', hrun, ⟨⟨o', heap_setBlock_at _ hlt, ?_⟩, ?_, ⟨rfl, rfl, rfl, by rw [size_setBlock, hz]; omega, fun k hk hkn => ?_⟩, by rw [size_setBlock, hz]⟩⟩
  · have : pairs φ (upd ψ i w.heap.size) (S ++ [i]) = pairs φ ψ S ++ [(φ i, w.heap.size)] := by
      have h1 : S.map (fun j => (φ j, upd ψ i w.heap.size j)) = S.map (fun j => (φ j, ψ j)) := List.map_congr_left (fun j hj => by rw [upd_ne (fun e => hn (by rw [← e]; exact hj))])
      unfold pairs
      rw [List.map_append, List.map_cons, List.map_nil, upd_at, h1]
    rw [this]
    exact ho'
  · rw [heap_setBlock_ne _ (Ne.symm hne)]
    exact heap_alloc_new w _
  · rw [heap_setBlock_ne _ hkn]
    exact hb.block k hk

set_option maxRecDepth 20000 in
/-- A file that has not been copied. -/
theorem copied_file {w : World} (hR : Rep w B t φ μ) (hok : t.Ok) {p : List ByteArray} {i : Nat} (hp : t.idOf p = some i) {S : List Nat} {ψ ν : Nat → Nat} (hD : PMapAt w Dm (pairs φ ψ S)) (hS : ∀ j ∈ S, t.has j)
    (hi : i ∉ S) (hd : t.isDir i = false) (hDm : ∀ k, Rep.dom B t φ μ k → k ≠ Dm) : Calls Tryd.prog 37 #[ptr (φ i), .map (some Dm)] w (CopyPost w t φ Dm S ψ ν p i) := by
  have hih := has_idOf hok hp
  have hlk := run_lookup_thing hD (hR.isThing hok hih) (pairs_things hR hok hS ψ)
  rw [getP_pairs hR.inj hS hih, if_neg hi] at hlk
  have hmem : (p, i) ∈ t.names := by
    rcases idOf_mem hok hp with ⟨rfl, rfl⟩ | h
    · obtain ⟨d, hr⟩ := hok.root
      rw [isDir_of hok hr] at hd
      cases hd
    · exact h
  have hth := there_idOf hok hp
  rw [hd] at hth
  have hfile := hR.file i _ hth
  have c0 : w.cell? ⟨φ i, 0, none⟩ = some (.string (t.dataOf i)) := cell_of_heap hfile rfl
  have c1 : w.cell? ⟨φ i, 1, none⟩ = some (.int .i64 (t.links i)) := cell_of_heap hfile rfl
  obtain ⟨o', hrun, hst⟩ := started hR hok hih hD hS hi rfl
  obtain ⟨W, hW⟩ : ∃ W, ChangeMaps.setBlock (w.alloc (thingO (t.dataOf i) (t.links i) none)).drew Dm o' = W := ⟨_, rfl⟩
  rw [hW] at hrun hst
  have c2 : W.cell? ⟨φ i, 2, none⟩ = some (.map none) := cell_of_heap (hst.turn.heap hfile (hDm _ (dom_thing hih))) rfl
  have hne : ∀ j ∈ S, j ≠ i := fun j hj e => hi (by rw [← e]; exact hj)
  have fin : CopyPost w t φ Dm S ψ ν p i (.returned (ptr w.heap.size)) W := by
    refine ⟨S ++ [i], upd ψ i w.heap.size, ν, by rw [upd_at], hst.map, fun j hj => ⟨upd_ne (hne j hj), rfl⟩, by simp, ?_, hst.turn⟩
    have hnew : ∀ j ∈ S ++ [i], j ∉ S → j = i := fun j hj hn => by
      rcases List.mem_append.1 hj with h | h
      · exact absurd h hn
      · exact List.mem_singleton.1 h
    refine ⟨fun j hj => ?_, fun j hj => List.mem_append_left _ hj, fun j hj hn => ?_, fun j hj hn => ?_, fun j hj hn => ?_, fun a ha b hb hna hnb _ => ?_, fun a ha b hb hna hnb _ _ _ => ?_, fun q j hq hj => ?_⟩
    · rcases List.mem_append.1 hj with h | h
      · exact hS j h
      · rw [List.mem_singleton.1 h]; exact hih
    · rw [hnew j hj hn]; exact ⟨p, List.prefix_refl _, hp⟩
    · rw [hnew j hj hn]
      refine ⟨?_, fun h => by rw [hd] at h; cases h⟩
      rw [upd_at, hd, if_neg (by simp)]
      exact hst.thing
    · rw [hnew j hj hn, upd_at]
      exact ⟨Nat.le_refl _, fun h => by rw [hd] at h; cases h⟩
    · rw [hnew a ha hna, hnew b hb hnb]
    · rw [hnew a ha hna, hnew b hb hnb]
    · obtain ⟨r, rfl⟩ := hq
      by_cases h0 : p ++ r = []
      · exact absurd (List.append_eq_nil_iff.1 h0).1 (hok.ne _ _ hmem)
      · rw [idOf_find h0] at hj
        have := below_file hok hmem hd ((find_mem hok).1 hj)
        subst this
        rw [List.append_nil, (find_mem hok).2 hmem] at hj
        cases hj
        simp
  have HF := Lib.hid fin
  have hlt := hR.lt_thing hok hih
  have p2 := neq_none
  have m2 := fun (r : Option Nat) (w : World) => run_neq_map_nil (P := Tryd.prog) w 64 _ _ r ht_map
  clear hR hok hp hD hS hi hd hDm hih hmem hth hfile hst hW hne fin
  unfold thingO at hrun
  simp only [ptrO] at hlk
  unfold ptr at hlk hrun HF ⊢
  go_enter Tryd.func37, Tryd.ntmps37
  go_wp2
  go_still_tail 9, (by kernel_rfl)
  change wpList _ _ _ _ _ w.drew
  go_wp2
  go_ret
  exact HF.out
end
end Go.Proofs.YtcgpmnlondnbhaaDoor
