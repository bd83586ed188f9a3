/-
  slices.Sorted(maps.Keys(m)) of a map whose keys are ints: its keys, rising.
-/
import Derived.Test.YtgofmnhfajmbfaaGreatDoorIterI
import Derived.Test.YtgofmnhfajmbfaaGreatDoorShelf
import Derived.Test.YtgofmnhfajmbfaaGreatDoorSidA
import Derived.Test.YtgofmnhfajmbfaaGreatDoorGeomA
namespace Go.Proofs.YtgofmnhfajmbfaaGreatDoor
open Go Go.RowKit Go.Maps Go.Sort Go.Shelf Go.WideMaps Go.WideShapes

def keyR : Value → Option (DataW Unit × List MemPlace) := fun _ => some (.nil, [])
theorem ients_data {α : Type} {enc : α → Value} {P : Program} {k : TypeId} (hks : P.underlying k = some (.int .i64)) {es : List MapEntry} {l : List (Int × α)} (h : es.map (fun e => (e.key, e.val)) = l.map (IM.encE enc)) (hs : ∀ x ∈ l, (Lit.int .i64 x.1).wf = true) :
    (∀ x ∈ es, ∃ y, WideElems.rd P k keyR x = some y) ∧ (es.map (WideElems.rg P k keyR)).map (fun p => Go.intOf p.1) = l.map (·.1) := by
  induction es generalizing l with
  | nil =>
    cases l with
    | nil => exact ⟨fun x hx => absurd hx (by simp), rfl⟩
    | cons y r => simp at h
  | cons e es ih =>
    cases l with
    | nil => simp at h
    | cons y r =>
      rw [List.map_cons, List.map_cons] at h
      injection h with h1 h2
      obtain ⟨g1, g2⟩ := ih h2 (fun x hx => hs x (List.mem_cons_of_mem _ hx))
      have hkey : e.key = .int .i64 y.1 := congrArg (·.1) h1
      have hrd : WideElems.rd P k keyR e = some (.int .i64 y.1, .nil) := by
        unfold WideElems.rd
        rw [hkey, keyOf_int_mk hks (hs y (by simp))]
        rfl
      refine ⟨?_, ?_⟩
      · intro x hx
        rcases List.mem_cons.1 hx with rfl | hx
        · exact ⟨_, hrd⟩
        · exact g1 x hx
      · rw [List.map_cons, List.map_cons, List.map_cons, WideElems.rg_of hrd, g2]
        rfl
theorem owns_ints {α : Type} {enc : α → Value} {P : Program} {k : TypeId} (hks : P.underlying k = some (.int .i64)) {w : World} {m : Nat} {l : List (Int × α)} (hm : IM.MapAt enc w m l) (hs : ∀ x ∈ l, (Lit.int .i64 x.1).wf = true) (hl : l.length ≤ 1000000) :
    ∃ D : DataW Unit, w.ownsMap P k keyR m l.length D ∧ (intKeys D).Perm (l.map (·.1)) ∧ Maps.size D = l.length := by
  obtain ⟨o, ho, es, clock, rfl, hst, hen⟩ := hm
  have hsz := IM.ents_len hen
  obtain ⟨h1, h2⟩ := ients_data hks hen hs
  refine ⟨_, ⟨es, clock, ho, ⟨by rw [hsz]; exact Nat.le_trans hl (by decide), hst, h1⟩, Nat.le_of_eq hsz, rfl⟩, ?_, ?_⟩
  · show (((es.toList.map (WideElems.rg P k keyR)).foldr DataW.insert []).map fun p => Go.intOf p.1).Perm _
    rw [← h2]
    exact (sorted_perm _).map _
  · show ((es.toList.map (WideElems.rg P k keyR)).foldr DataW.insert []).length = _
    rw [(sorted_perm _).length_eq, List.length_map, Array.length_toList, hsz]
theorem isort_in (m : Nat) : AnyZI.SortsIn Tryz.prog Tryz.sorted133_ren Fence.wide m :=
  ⟨fun blk off cap ss W hH hblk hsz => callsIn_wide.2 (Tryz.slices_Sort_int blk off cap ss W hH hblk hsz),
   fun p cap W => callsIn_wide.2 (Tryz.slices_Sort_int_none p cap W)⟩
/-- maps.Keys: a function value over one new block, which holds the map. -/
theorem ikeys_any (mb : Option Nat) (W : World) : Calls Tryz.prog 134 #[.map mb] W fun e w' => e = .returned (.func (.func 198) #[] #[.pointer (some ⟨W.heap.size, 0, none⟩)]) ∧ w' = W.alloc (.cells #[.map mb] 138) :=
  callsIn_wide.1 (AnyZI.keys_in Tryz.keys134 Fence.wide 5 trivial rfl mb W)
set_option maxHeartbeats 1000000 in
theorem isorted_raw (b nn : Nat) (D0 : DataW Unit) (R : Value → Option (DataW Unit × List MemPlace)) (w : World) (hown : w.ownsMap Tryz.prog 3 R b nn D0) (hmax : Maps.size D0 ≤ maxLen) (hbytes : Maps.size D0 * 8 ≤ 140737488355328) :
    Calls Tryz.prog 133 #[.func (.func 198) #[] #[.pointer (some ⟨w.heap.size, 0, none⟩)]] (w.alloc (.cells #[.map (some b)] 138)) fun e w' => ∃ (v : Value) (ss : List Int), e = .returned v ∧ ss.Perm (intKeys D0) ∧
      w'.ownsRow (w.alloc (.cells #[.map (some b)] 138)).heap.size 3 1 v ss.length ((ss.mergeSort (fun x y => decide (x ≤ y))).map encZ) ∧ (v = .slice none 0 0 ↔ ss = []) ∧ Below (w.alloc (.cells #[.map (some b)] 138)).heap.size (w.alloc (.cells #[.map (some b)] 138)) w' := by
  have hbl := hown.lt
  have hseq : SeqGives Fence.wide 2 Tryz.prog 198 #[.pointer (some ⟨w.heap.size, 0, none⟩)] encZ (fun ss => ss.Perm (intKeys D0)) (Maps.size D0) (w.alloc (.cells #[.map (some b)] 138)) :=
    AnyZI.keys_gives (ρ := Tryz.keys134_ren) { Tryz.keys134 with } Fence.wide _ trivial rfl (by omega) w.heap.size b nn D0 _ (by simp) (by simp) (by
      obtain ⟨es, clock, hb, Ft, hs, hD⟩ := hown
      exact ⟨es, clock, (Below.heap_alloc _ _ b hbl).trans hb, Ft, hs, hD⟩)
  exact callsIn_wide.1 (AnyZI.sorted_in Tryz.sorted133 Fence.wide 5 trivial trivial trivial trivial rfl (by omega) (isort_in _) (enters_of Tryz.func193 (by kernel_rfl) rfl) 198 #[.pointer (some ⟨w.heap.size, 0, none⟩)] trivial (enters_of Tryz.func198 (by kernel_rfl) rfl) _ _ hmax hbytes _ hseq)
/-- The keys of a map, rising: a row of the call's own. -/
theorem isorted_any {α : Type} {enc : α → Value} {w : World} {m : Nat} {l : List (Int × α)} (hm : IM.MapAt enc w m l) (hs : ∀ x ∈ l, (Lit.int .i64 x.1).wf = true) (hl : l.length ≤ 1000000) :
    Calls Tryz.prog 133 #[.func (.func 198) #[] #[.pointer (some ⟨w.heap.size, 0, none⟩)]] (w.alloc (.cells #[.map (some m)] 138)) fun e w' => ∃ v, e = .returned v ∧ OwnR 3 1 (fun n : Int => [Value.int .i64 n]) (w.heap.size + 1) w' v ((l.map (·.1)).mergeSort (fun x y => decide (x ≤ y))) ∧
      Below (w.alloc (.cells #[.map (some m)] 138)).heap.size (w.alloc (.cells #[.map (some m)] 138)) w' := by
  obtain ⟨D, h1, h2, h3⟩ := owns_ints Tryz.underlying3 hm hs hl
  refine (isorted_raw m l.length D keyR w h1 (by rw [h3]; exact Nat.le_trans hl (by decide)) (by rw [h3]; omega)).mono ?_
  rintro e w' ⟨v, ss, rfl, hp, ho, _, hb⟩
  have hp2 : ss.Perm (l.map (·.1)) := hp.trans h2
  have he : ss.mergeSort (fun x y => decide (x ≤ y)) = (l.map (·.1)).mergeSort (fun x y => decide (x ≤ y)) := by
    refine List.Perm.eq_of_pairwise (le := fun a b => a ≤ b) (fun a b _ _ h1 h2 => Int.le_antisymm h1 h2) ?_ ?_ ?_
    · exact (List.pairwise_mergeSort (le := fun x y : Int => decide (x ≤ y)) (fun a b c h1 h2 => decide_eq_true (Int.le_trans (of_decide_eq_true h1) (of_decide_eq_true h2))) (fun a b => by rcases Int.le_total a b with h | h <;> simp [h]) ss).imp of_decide_eq_true
    · exact (List.pairwise_mergeSort (le := fun x y : Int => decide (x ≤ y)) (fun a b c h1 h2 => decide_eq_true (Int.le_trans (of_decide_eq_true h1) (of_decide_eq_true h2))) (fun a b => by rcases Int.le_total a b with h | h <;> simp [h]) _).imp of_decide_eq_true
    · exact (List.mergeSort_perm _ _).trans (hp2.trans (List.mergeSort_perm _ _).symm)
  have hlen : ss.length = ((l.map (·.1)).mergeSort (fun x y => decide (x ≤ y))).length := by rw [hp2.length_eq, List.length_mergeSort]
  rw [he, hlen] at ho
  have hsz : (w.alloc (.cells #[.map (some m)] 138)).heap.size = w.heap.size + 1 := by simp
  rw [hsz] at ho
  refine ⟨v, rfl, ?_, hb⟩
  unfold OwnR
  have hf : ∀ L : List Int, L.flatMap (fun n : Int => [Value.int .i64 n]) = L.map encZ := fun L => by
    induction L with
    | nil => rfl
    | cons x r ih => rw [List.flatMap_cons, ih]; rfl
  rw [hf]
  exact ho
end Go.Proofs.YtgofmnhfajmbfaaGreatDoor
