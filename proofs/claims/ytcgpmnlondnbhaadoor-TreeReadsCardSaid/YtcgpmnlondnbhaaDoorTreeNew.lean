/-
  The tree's walks: New.
-/
import Derived.Test.YtcgpmnlondnbhaaDoorTreeList
namespace Go.Proofs.YtcgpmnlondnbhaaDoor
open Go Go.RowKit Txt Sp

theorem alloc_at {w : World} {n : Nat} (h : w.heap.size = n) (o : Obj) : (w.alloc o).heap[n]? = some o := by
  rw [← h]; exact heap_alloc_new w o
theorem new_has {i : Nat} (h : Sp.new.has i) : i = 0 := by
  obtain ⟨b, d, h⟩ := h
  cases List.mem_singleton.1 h
  rfl
theorem new_rep {w : World} {n : Nat} (h1 : w.heap[n + 1 + 1]? = some (treeO (n + 1))) (h2 : w.heap[n + 1]? = some (thingO (ofL []) 0 (some n))) (h3 : w.heap[n]? = some (.map #[] 0)) : Rep w (n + 1 + 1) Sp.new (fun _ => n + 1) (fun _ => n) where
  root := h1
  file i d h := by cases List.mem_singleton.1 h
  dir i p hp hd := by
    have hz : i = 0 := by
      unfold Sp.Tree.idOf at hp
      split at hp
      · exact (Option.some.inj hp).symm
      · cases hp
    subst hz
    exact ⟨h2, [], ⟨_, h3, IsMap.new⟩, fun s => rfl⟩
  inj i j hi hj _ := by rw [new_has hi, new_has hj]
  injm i j hi hj _ _ _ := by rw [new_has hi, new_has hj]

section
set_option maxHeartbeats 1000000
theorem new_any (w : World) : Calls Tryd.prog 11 #[] w fun e w' => ∃ B φ μ, e = .returned (ptr B) ∧ Rep w' B Sp.new φ μ ∧ Below w.heap.size w w' ∧ ∀ k, Rep.dom B Sp.new φ μ k → w.heap.size ≤ k := by
  have hmm := @run_makeMap Tryd.prog
  go_enter Tryd.func11, Tryd.ntmps11
  go_wp2
  go_ret
  have hb := (((Below.refl w.heap.size w).alloc (Nat.le_refl _) (.map #[] 0)).alloc (by simp) (.cells #[.string ⟨#[]⟩, .int .i64 0, .map (some w.heap.size)] 66)).alloc (by simp; omega) (.cells #[.pointer (some ⟨w.heap.size + 1, 0, none⟩)] 68)
  refine ⟨w.heap.size + 1 + 1, fun _ => w.heap.size + 1, fun _ => w.heap.size, rfl, new_rep ?_ ?_ ?_, hb, ?_⟩
  · exact alloc_at (by simp) _
  · exact heap_below ((Below.refl _ _).alloc (Nat.le_refl _) _) _ _ (alloc_at (by simp) _)
  · exact heap_below ((Below.refl _ _).alloc (Nat.le_refl _) _) _ _ (heap_below ((Below.refl _ _).alloc (Nat.le_refl _) _) _ _ (alloc_at rfl _))
  · rintro k (rfl | ⟨i, _, rfl | ⟨_, rfl⟩⟩)
    · omega
    · exact Nat.le_succ _
    · exact Nat.le_refl _
end
end Go.Proofs.YtcgpmnlondnbhaaDoor
