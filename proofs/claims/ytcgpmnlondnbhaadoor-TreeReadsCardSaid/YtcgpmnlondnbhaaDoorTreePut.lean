/-
  The tree's walks: put, away.
-/
import Derived.Test.YtcgpmnlondnbhaaDoorTreeWalk
import Derived.StillTailTactics
import Derived.RegionTactic
namespace Go.Proofs.YtcgpmnlondnbhaaDoor
open Go Go.RowKit Txt Sp

theorem heap_setCell_at {w : World} {b k : Nat} {cs : Array Value} {e : TypeId} {fr : Nat × Nat} (h : w.heap[b]? = some (.cells cs e fr)) (v : Value) : (w.setCell ⟨b, k, none⟩ v).heap[b]? = some (.cells (cs.setIfInBounds k v) e fr) := by
  simp [World.setCell, Array.getElem?_modify, h]
theorem heap_setCell_ne {w : World} {b k j : Nat} (v : Value) (h : j ≠ b) : (w.setCell ⟨b, k, none⟩ v).heap[j]? = w.heap[j]? := Below.heap_setCell _ _ _ _ h
theorem size_setCell (w : World) (a : Addr) (v : Value) : (w.setCell a v).heap.size = w.heap.size := by simp [World.setCell]
theorem heap_setBlock_at {w : World} {m : Nat} (o : Obj) (h : m < w.heap.size) : (ChangeMaps.setBlock w m o).heap[m]? = some o := by simp [ChangeMaps.setBlock, h]
theorem heap_setBlock_ne {w : World} {m k : Nat} (o : Obj) (h : k ≠ m) : (ChangeMaps.setBlock w m o).heap[k]? = w.heap[k]? := by simp [ChangeMaps.setBlock, Ne.symm h]
theorem size_setBlock (w : World) (m : Nat) (o : Obj) : (ChangeMaps.setBlock w m o).heap.size = w.heap.size := by simp [ChangeMaps.setBlock]
theorem MapAt.lt {w : World} {m : Nat} {l : List (ByteArray × Nat)} (h : MapAt w m l) : m < w.heap.size := let ⟨_, ho, _⟩ := h; (Array.getElem?_eq_some_iff.1 ho).1
theorem MapAt.ne_cells {w : World} {m b : Nat} {l : List (ByteArray × Nat)} {cs : Array Value} {e : TypeId} {fr : Nat × Nat} (h : MapAt w m l) (hb : w.heap[b]? = some (.cells cs e fr)) : m ≠ b := by
  obtain ⟨o, ho, es, c, rfl, _⟩ := h
  intro e
  rw [e, hb] at ho
  cases ho

/-- A thing's links, turned by one store; a block more; a map turned. -/
theorem turned_links {w : World} {b m : Nat} {xd : ByteArray} {n n' : Nat} {xm : Option Nat} {l : List (ByteArray × Nat)} (hm : MapAt w m l) (hb : w.heap[b]? = some (thingO xd n xm)) (o o' : Obj) (v : Value) (hv : v = .int .i64 n') :
    (ChangeMaps.setBlock ((w.setCell ⟨b, 1, none⟩ v).alloc o).drew m o').heap[m]? = some o' ∧ (ChangeMaps.setBlock ((w.setCell ⟨b, 1, none⟩ v).alloc o).drew m o').heap[b]? = some (thingO xd n' xm) ∧
    Turn (fun k => k = m ∨ k = b) w (ChangeMaps.setBlock ((w.setCell ⟨b, 1, none⟩ v).alloc o).drew m o') := by
  subst hv
  have hlt : b < w.heap.size := (Array.getElem?_eq_some_iff.1 hb).1
  have hml := hm.lt
  have hne := hm.ne_cells hb
  have hsz : ((w.setCell ⟨b, 1, none⟩ (.int .i64 n')).alloc o).drew.heap.size = w.heap.size + 1 := by
    show ((w.setCell ⟨b, 1, none⟩ (.int .i64 n')).heap.push o).size = _
    rw [Array.size_push, size_setCell]
  have hold : ∀ k, k < w.heap.size → ((w.setCell ⟨b, 1, none⟩ (.int .i64 n')).alloc o).drew.heap[k]? = (w.setCell ⟨b, 1, none⟩ (.int .i64 n')).heap[k]? := fun k hk => Below.heap_alloc _ _ _ (by rw [size_setCell]; exact hk)
  refine ⟨heap_setBlock_at _ (by rw [hsz]; omega), ?_, ⟨rfl, rfl, rfl, by rw [size_setBlock, hsz]; omega, fun k hk hn => ?_⟩⟩
  · rw [heap_setBlock_ne _ (Ne.symm hne), hold _ hlt, heap_setCell_at hb]
    rfl
  · rw [heap_setBlock_ne _ (fun e => hn (Or.inl e)), hold _ hk, heap_setCell_ne _ (fun e => hn (Or.inr e))]

section
set_option maxHeartbeats 1000000
theorem put_any {w : World} {d m b : Nat} {dd xd s : ByteArray} {dn n : Nat} {xm : Option Nat} {l : List (ByteArray × Nat)} (hdir : w.heap[d]? = some (thingO dd dn (some m))) (hm : MapAt w m l) (hb : w.heap[b]? = some (thingO xd n xm)) (hn : n ≤ 1000000) :
    Calls Tryd.prog 42 #[.agg #[ptr d, .string s], ptr b] w fun e w' => e = .returned (.tuple #[]) ∧ (∃ o', IsMap o' (setM l s b) ∧ w'.heap[m]? = some o') ∧ w'.heap[b]? = some (thingO xd (n + 1) xm) ∧ Turn (fun k => k = m ∨ k = b) w w' := by
  have c1 : w.cell? ⟨b, 1, none⟩ = some (.int .i64 n) := cell_of_heap hb rfl
  have f1 : w.frozen? ⟨b, 1, none⟩ = false := free_of_heap hb
  have c2 : w.cell? ⟨d, 2, none⟩ = some (.map (some m)) := cell_of_heap hdir rfl
  have hlt : b < w.heap.size := (Array.getElem?_eq_some_iff.1 hb).1
  have hlt2 : d < w.heap.size := (Array.getElem?_eq_some_iff.1 hdir).1
  unfold ptr
  go_enter Tryd.func42, Tryd.ntmps42
  go_wp2
  generalize hW : (w.setCell ⟨b, 1, none⟩ (.int .i64 ((n : Int) + 1))).alloc (.cells #[.pointer (some ⟨d, 0, none⟩), .string s] 88) = W
  have k0 : W.cell? ⟨w.heap.size, 0, none⟩ = some (.pointer (some ⟨d, 0, none⟩)) := by
    rw [← hW, World.cell?_alloc_at _ _ _ _ (by simp)]; rfl
  have k1 : W.cell? ⟨w.heap.size, 1, none⟩ = some (.string s) := by
    rw [← hW, World.cell?_alloc_at _ _ _ _ (by simp)]; rfl
  have hold : ∀ k, k < w.heap.size → W.heap[k]? = (w.setCell ⟨b, 1, none⟩ (.int .i64 ((n : Int) + 1))).heap[k]? := fun k hk => by
    rw [← hW]; exact Below.heap_alloc _ _ _ (by rw [size_setCell]; exact hk)
  have hWm : MapAt W m l := hm.same (fun o ho => by rw [hold _ hm.lt, heap_setCell_ne _ (hm.ne_cells hb)]; exact ho)
  have k2 : W.cell? ⟨d, 2, none⟩ = some (.map (some m)) := by
    by_cases hdb : d = b
    · subst hdb
      refine cell_of_heap (cs := #[.string dd, .int .i64 ((n : Int) + 1), .map (some m)]) (e := 66) (fr := (0, 0)) ?_ rfl
      rw [hold _ hlt, heap_setCell_at hdir]
      rfl
    · refine cell_of_heap (cs := #[.string dd, .int .i64 dn, .map (some m)]) (e := 66) (fr := (0, 0)) ?_ rfl
      rw [hold _ hlt2, heap_setCell_ne _ hdb]
      exact hdir
  have HT := Lib.hid (turned_links (n' := n + 1) hm hb (.cells #[.pointer (some ⟨d, 0, none⟩), .string s] 88))
  obtain ⟨o', hrun, ho'⟩ := run_update_ptr (P := Tryd.prog) (w := W.drew) (T := 64) (K := 9) (E := 63) (m := m) (l := l) ht_map Tryd.underlying9 (show MapAt W.drew m l from hWm) s b
  unfold ptr at hrun
  have HW := Lib.hid hW
  clear hW c1 f1 c2 hWm hdir hm hb hold
  go_region
  all_goals go_end0
  have h := HT.out o' (.int .i64 ((n : Int) + 1)) rfl
  rw [HW.out] at h
  exact ⟨rfl, ⟨o', ho', h.1⟩, h.2.1, h.2.2⟩

/-- is, of memory alone. -/
theorem is_heap {w : World} {d m : Nat} {dd : ByteArray} {dn : Nat} {l : List (ByteArray × Nat)} (hdir : w.heap[d]? = some (thingO dd dn (some m))) (hm : MapAt w m l) (s : ByteArray) :
    Calls Tryd.prog 41 #[.agg #[ptr d, .string s]] w fun e w' => e = .returned (ptrO (getM l s)) ∧ ∃ n, w' = (w.alloc (.cells #[ptr d, .string s] 88)).drewN n := by
  have hb := (Below.refl w.heap.size w).alloc (Nat.le_refl _) (.cells #[ptr d, .string s] 88)
  have c2 : (w.alloc (.cells #[ptr d, .string s] 88)).cell? ⟨d, 2, none⟩ = some (.map (some m)) := cell_of_heap (heap_below hb _ _ hdir) rfl
  have hm1 : MapAt (w.alloc (.cells #[ptr d, .string s] 88)) m l := hm.same (heap_below hb _)
  have hl := fun n => run_lookup_ptr (P := Tryd.prog) (w := (w.alloc (.cells #[ptr d, .string s] 88)).drewN n) (T := 64) (K := 9) (E := 63) (m := m) (l := l) ht_map Tryd.underlying9 (zero_ptr _) (show MapAt ((w.alloc (.cells #[ptr d, .string s] 88)).drewN n) m l from hm1) s
  obtain ⟨r, hr⟩ : ∃ r, getM l s = r := ⟨_, rfl⟩
  rw [hr] at hl ⊢
  clear hdir hm hm1 hb hr
  unfold ptr at c2 hl ⊢
  go_enter Tryd.func41, Tryd.ntmps41
  go_wp2
  go_quiet (fail)
  go_wp2
  go_ret
  exact ⟨rfl, _, rfl⟩

theorem away_any {w : World} {d m b : Nat} {dd xd s : ByteArray} {dn n : Nat} {xm : Option Nat} {l : List (ByteArray × Nat)} (hdir : w.heap[d]? = some (thingO dd dn (some m))) (hm : MapAt w m l) (hg : getM l s = some b) (hb : w.heap[b]? = some (thingO xd n xm)) (hn : n ≤ 1000000) (hn1 : 1 ≤ n) :
    Calls Tryd.prog 44 #[.agg #[ptr d, .string s]] w fun e w' => e = .returned (.tuple #[]) ∧ (∃ o', IsMap o' (delM l s) ∧ w'.heap[m]? = some o') ∧ w'.heap[b]? = some (thingO xd (n - 1) xm) ∧ Turn (fun k => k = m ∨ k = b) w w' := by
  have hlt : b < w.heap.size := (Array.getElem?_eq_some_iff.1 hb).1
  have hlt2 : d < w.heap.size := (Array.getElem?_eq_some_iff.1 hdir).1
  have hb0 := (Below.refl w.heap.size w).alloc (Nat.le_refl _) (.cells #[ptr d, .string s] 88)
  have HD := Lib.hid (heap_below hb0 _ _ hdir)
  have HM : Hid (MapAt (w.alloc (.cells #[ptr d, .string s] 88)) m l) := hm.same (heap_below hb0 _)
  have HG := Lib.hid hg
  have HB := Lib.hid hb
  have HD0 := Lib.hid hdir
  have HM0 := Lib.hid hm
  clear hdir hm hg hb hb0
  unfold ptr at HD HM ⊢
  go_enter Tryd.func44, Tryd.ntmps44
  go_wp2_with fail
  refine (is_heap HD.out HM.out s).mono ?_
  rintro e w1 ⟨rfl, q, hw1⟩
  have B1 : Below (w.alloc (.cells #[.pointer (some ⟨d, 0, none⟩), .string s] 88)).heap.size (w.alloc (.cells #[.pointer (some ⟨d, 0, none⟩), .string s] 88)) w1 := by
    rw [hw1]
    exact below_drewN ((Below.refl _ _).alloc (Nat.le_refl _) _) _
  have B0 := (Below.refl w.heap.size w).alloc (Nat.le_refl _) (.cells #[.pointer (some ⟨d, 0, none⟩), .string s] 88)
  have B2 := Lib.hid (below_next B0 B1)
  have hb := heap_below B2.out _ _ HB.out
  have hd := heap_below B2.out _ _ HD0.out
  have hm : MapAt w1 m l := (HM0.out).same (heap_below B2.out _)
  have hp : w1.heap[w.heap.size]? = some (.cells #[.pointer (some ⟨d, 0, none⟩), .string s] 88 (0, 0)) := heap_below B1 _ _ (heap_alloc_new w _)
  have c1 : w1.cell? ⟨b, 1, none⟩ = some (.int .i64 n) := cell_of_heap hb rfl
  have f1 : w1.frozen? ⟨b, 1, none⟩ = false := free_of_heap hb
  have HW1 := Lib.hid hw1
  have Hb := Lib.hid hb
  have Hd := Lib.hid hd
  have Hm := Lib.hid hm
  have Hp := Lib.hid hp
  clear hw1 B1 B0 hb hd hm hp HD HM HB HD0 HM0
  rw [HG.out]
  unfold ptrO ptr
  go_wp2
  generalize hW : w1.setCell ⟨b, 1, none⟩ (.int .i64 ((n : Int) - 1)) = W
  have hWm : MapAt W m l := Hm.out.same (fun o ho => by rw [← hW, heap_setCell_ne _ (Hm.out.ne_cells Hb.out)]; exact ho)
  have hpb : w.heap.size ≠ b := by omega
  have hWp : W.heap[w.heap.size]? = some (.cells #[.pointer (some ⟨d, 0, none⟩), .string s] 88 (0, 0)) := by rw [← hW, heap_setCell_ne _ hpb]; exact Hp.out
  have k0 : W.cell? ⟨w.heap.size, 0, none⟩ = some (.pointer (some ⟨d, 0, none⟩)) := cell_of_heap hWp rfl
  have k1 : W.cell? ⟨w.heap.size, 1, none⟩ = some (.string s) := cell_of_heap hWp rfl
  have k2 : W.cell? ⟨d, 2, none⟩ = some (.map (some m)) := by
    by_cases hdb : d = b
    · subst hdb
      refine cell_of_heap (cs := #[.string dd, .int .i64 ((n : Int) - 1), .map (some m)]) (e := 66) (fr := (0, 0)) ?_ rfl
      rw [← hW, heap_setCell_at Hd.out]
      rfl
    · refine cell_of_heap (cs := #[.string dd, .int .i64 dn, .map (some m)]) (e := 66) (fr := (0, 0)) ?_ rfl
      rw [← hW, heap_setCell_ne _ hdb]
      exact Hd.out
  obtain ⟨o', hrun, ho'⟩ := run_delete_ptr (P := Tryd.prog) (w := W.drew) (T := 64) (K := 9) (E := 63) (m := m) (l := l) (ty := 0) ht_map Tryd.underlying9 (show MapAt W.drew m l from hWm) s
  have hfin : (ChangeMaps.setBlock W.drew m o').heap[m]? = some o' ∧ (ChangeMaps.setBlock W.drew m o').heap[b]? = some (thingO xd (n - 1) xm) ∧ Turn (fun k => k = m ∨ k = b) w1 (ChangeMaps.setBlock W.drew m o') := by
    have hne := Hm.out.ne_cells Hb.out
    have hml := Hm.out.lt
    have hsz : W.heap.size = w1.heap.size := by rw [← hW, size_setCell]
    refine ⟨heap_setBlock_at _ (by show m < W.heap.size; omega), ?_, ⟨by rw [← hW]; rfl, by rw [← hW]; rfl, by rw [← hW]; rfl, by rw [size_setBlock]; show _ ≤ W.heap.size; omega, fun k hk hn => ?_⟩⟩
    · rw [heap_setBlock_ne _ (Ne.symm hne)]
      show W.heap[b]? = _
      rw [← hW, heap_setCell_at Hb.out, show ((n : Int) - 1) = ((n - 1 : Nat) : Int) by omega]
      rfl
    · rw [heap_setBlock_ne _ (fun e => hn (Or.inl e))]
      show W.heap[k]? = _
      rw [← hW, heap_setCell_ne _ (fun e => hn (Or.inr e))]
  have HF := Lib.hid hfin
  have HW := Lib.hid hW
  clear hW c1 f1 hWm hWp hfin
  go_region
  all_goals go_end0
  exact ⟨rfl, ⟨o', ho', HF.out.1⟩, HF.out.2.1, (Turn.of_below B2.out).trans HF.out.2.2 (fun _ _ h => h) (fun _ _ h => h)⟩
end
end Go.Proofs.YtcgpmnlondnbhaaDoor
