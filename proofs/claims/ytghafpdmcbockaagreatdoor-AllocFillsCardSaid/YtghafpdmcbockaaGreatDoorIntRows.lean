/-
  Rows of numbers of one's own: one behind the other, sorted.
-/
import Derived.Test.YtghafpdmcbockaaGreatDoorSideRep
import Derived.Test.YtghafpdmcbockaaGreatDoorAppendSrc
import Derived.Test.YtghafpdmcbockaaGreatDoorShelf
import Derived.Test.YtghafpdmcbockaaGreatDoorMapsA
import Derived.Maps.AppendAt
namespace Go.Proofs.YtghafpdmcbockaaGreatDoor
open Go Go.RowKit Txt Sp

section
variable {P : Program} (w : World)
theorem run_append_rows (t ty : TypeId) (base base' : Nat) (e : TypeId) (i : TypeInfo) (z : Value) (size bytes : Nat) (ht : P.underlying t = some (.slice e)) (hi : P.info? e = some i) (hz : i.zero = some z)
    (hsize : i.size = size) (hby : i.bytes = bytes) (hzs : z.cells.size = size) (hsz : 0 < size) (v u : Value) (n m : Nat) (xs ys : List Value) (hown : w.ownsRow base e size v n xs) (hsrc : w.ownsRow base' e size u m ys)
    (h1 : ∀ u ∈ ys, u.oneCell' = true) (h63 : n + m ≤ maxLen) (hbytes : (n + m) * bytes ≤ 140737488355328) (hbase : base ≤ w.heap.size) :
    ∃ v' w', (Builtin.append_ #[t, t] ty #[v, u]).run P w = .ok v' w' ∧ w'.ownsRow base e size v' (n + m) (xs ++ ys) ∧ w.grownBy w' v.ownBlock := by
  obtain ⟨hy, ⟨rfl, rfl⟩ | ⟨g, cap, cur, rfl, hg, hh, hnc, hm, hcs, htk⟩⟩ := hsrc
  · obtain rfl : ys = [] := List.eq_nil_of_length_eq_zero (by simpa using hy)
    rw [List.append_nil, Nat.add_zero]
    exact ⟨v, w, run_append_owned_none (P := P) (w := w) base t ty e i size ht hi v n xs hown, hown, ⟨rfl, rfl, rfl, Nat.le_refl _, fun _ _ _ => rfl⟩⟩
  · obtain ⟨v', w', hr, h2, h3, _⟩ := run_append_own_at (P := P) w base t ty e i z size bytes ht hi hz hsize hby hzs hsz v n xs hown ⟨g, 0, none⟩ m cap ys hy (fun j x hx => by
      rw [show (⟨g, 0, none⟩ : Addr).add j = ⟨g, j, none⟩ by unfold Addr.add; split <;> simp_all]
      rw [← htk] at hx
      have hj := (List.getElem?_eq_some_iff.1 hx).1
      rw [List.length_take] at hj
      rw [List.getElem?_take_of_lt (by omega)] at hx
      refine cellOf hh ?_
      simpa using hx) h1 h63 hbytes hbase
    exact ⟨v', w', hr, h2, h3⟩
theorem wpList_append_rows {ops : Array Oper} {rest : List Oper} {o : Oper} {a : Act} {Q : Exit → Act → World → Prop} (hgd : o.guard = none) (s x : Operand) (t : TypeId)
    (ho : o.op = .call { callee := .builtin .append, args := #[s, x], argTypes := #[t, t] })
    (base base' : Nat) (e : TypeId) (i : TypeInfo) (z : Value) (size bytes : Nat) (ht : P.underlying t = some (.slice e)) (hi : P.info? e = some i) (hz : i.zero = some z)
    (hsize : i.size = size) (hby : i.bytes = bytes) (hzs : z.cells.size = size) (hsz : 0 < size) (v u : Value) (n m : Nat) (xs ys : List Value) (hs : a.eval s = v) (hown : w.ownsRow base e size v n xs) (hx : a.eval x = u) (hsrc : w.ownsRow base' e size u m ys)
    (h1 : ∀ u ∈ ys, u.oneCell' = true) (h63 : n + m ≤ maxLen) (hbytes : (n + m) * bytes ≤ 140737488355328) (hbase : base ≤ w.heap.size)
    (h : ∀ v' w', w'.ownsRow base e size v' (n + m) (xs ++ ys) → w.grownBy w' v.ownBlock → wpList P ops Q rest (a.put o.dst v') w') :
    wpList P ops Q (o :: rest) a w := by
  refine wpList_plain hgd fun K hK => ?_
  obtain ⟨v', w', hr, h2, h3⟩ := run_append_rows (P := P) w t o.type base base' e i z size bytes ht hi hz hsize hby hzs hsz v u n m xs ys hown hsrc h1 h63 hbytes hbase
  unfold Oper.wp execOp
  simp only [ho, resolve, invoke, builtin, Sem.run_bind, Sem.run_pure, Result.andThen_ok, List.map_toArray, List.map_cons, List.map_nil, hs, hx, hr]
  exact hK _ _ (h v' w' h2 h3)
end
theorem intC_map (l : List Int) : l.flatMap intC = l.map (Value.int .i64) := by
  induction l with
  | nil => rfl
  | cons x r ih => rw [List.flatMap_cons, ih]; rfl
/-- slices.Sort of a row of numbers of one's own. -/
theorem sortInts_any {w : World} {base : Nat} {v : Value} {l : List Int} (h : OwnR 3 1 intC base w v l) (hll : l.length ≤ 1000000) :
    Calls Tryz.prog 180 #[v] w fun e w' => e = .returned (.tuple #[]) ∧ OwnR 3 1 intC base w' v (l.mergeSort fun x y => decide (x ≤ y)) ∧ Turn (fun k => v.ownBlock = some k) w w' := by
  have h0 := h
  obtain ⟨hx, ⟨rfl, h1⟩ | ⟨g, cap, cur, rfl, hg, hh, hnc, hm, hcs, htk⟩⟩ := h
  · obtain rfl : l = [] := List.eq_nil_of_length_eq_zero h1
    refine (Tryz.slices_Sort_int_none none 0 w).mono ?_
    rintro e w' ⟨rfl, rfl⟩
    exact ⟨rfl, by simpa using h0, Turn.refl _ _⟩
  · rw [intC_map] at htk
    have hcell : ∀ j (hj : j < l.length), cur[j]? = some (.int .i64 l[j]) := fun j hj => by
      have h2 : (cur.toList.take (l.length * 1))[j]? = some (.int .i64 l[j]) := by rw [htk, List.getElem?_map, List.getElem?_eq_getElem hj]; rfl
      rw [List.getElem?_take_of_lt (by omega)] at h2
      simpa using h2
    refine (Tryz.slices_Sort_int g 0 cap l w (fun j hj => ?_) (Array.getElem?_eq_some_iff.1 hh).1 (by omega)).mono ?_
    · have hj' : j < l.length := by simpa using hj
      rw [Nat.zero_add]
      refine ⟨?_, freeOf hh⟩
      rw [cellOf hh (hcell j hj')]
      simp [hj']
    · rintro e w' ⟨rfl, n, os, rfl⟩
      obtain ⟨M, hM⟩ : ∃ M, (l.mergeSort fun x y => decide (x ≤ y)) = M := ⟨_, rfl⟩
      have hML : M.length = l.length := by rw [← hM, List.length_mergeSort]
      rw [hM]
      have hgs := (Array.getElem?_eq_some_iff.1 hh).1
      have hat : (Sort.grow (Sort.putRow (Value.int .i64) (Sort.ahead w n) g 0 M.toArray) os).heap[g]? = some (.cells (Sort.putCells (Value.int .i64) 0 M.toArray cur) 3 (0, 0)) := by
        unfold Sort.grow Sort.putRow Sort.mapBlock Sort.ahead
        simp only
        rw [Array.getElem?_append_left (by simpa using hgs), Array.getElem?_modify, if_pos rfl, hh]
        rfl
      refine ⟨rfl, ⟨by rw [intC_map, List.length_map, Nat.mul_one], Or.inr ⟨g, cap, _, by rw [hML], hg, hat, by omega, hm, by simp [Sort.putCells, hcs], ?_⟩⟩, ⟨rfl, rfl, rfl, by unfold Sort.grow Sort.putRow Sort.mapBlock Sort.ahead; simp, fun k hk hne => ?_⟩⟩
      · rw [intC_map]
        apply List.ext_getElem?
        intro j
        by_cases hj : j < M.length
        · have hjc : j < cur.size := by omega
          rw [List.getElem?_take_of_lt (by omega), List.getElem?_map, List.getElem?_eq_getElem hj]
          simp [Sort.putCells, hjc, hj]
        · rw [List.getElem?_eq_none (by rw [List.length_take]; omega), List.getElem?_eq_none (by rw [List.length_map]; omega)]
      · have hkg : g ≠ k := fun e => hne (by rw [e]; rfl)
        unfold Sort.grow Sort.putRow Sort.mapBlock Sort.ahead
        simp only
        rw [Array.getElem?_append_left (by simpa using hk), Array.getElem?_modify, if_neg hkg]
end Go.Proofs.YtghafpdmcbockaaGreatDoor
