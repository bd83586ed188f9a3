/-
  The reference's tree turned: what a store into its cells leaves. No walk in this text.
-/
import Derived.Test.YtcgpmnlondnbhaaGreatDoorRefKids
namespace Go.Proofs.YtcgpmnlondnbhaaGreatDoor
open Go Go.RowKit Txt Sp

theorem below_al {w W : World} (h : Below w.heap.size w W) (o : Obj) : Below w.heap.size w (W.alloc o) := h.alloc h.size o
theorem below_dr {w W : World} (h : Below w.heap.size w W) : Below w.heap.size w W.drew := below_drewN h 1

/-- A row as the source of an append. -/
theorem row_src {w : World} {base size : Nat} {e : TypeId} {v : Value} {n : Nat} {xs : List Value} (h : w.ownsRow base e size v n xs) : ∃ ad cap, v = .slice ad n cap ∧ (ad = none → n = 0 ∧ cap = 0) ∧ n ≤ cap ∧ cap ≤ maxLen ∧ xs.length = n * size ∧ (∀ a, ad = some a → ∃ g, a = ⟨g, 0, none⟩ ∧ g < w.heap.size) ∧ ∀ a, ad = some a → ∀ j u, xs[j]? = some u → w.cell? (a.add j) = some u := by
  have hl := h.1
  have hc := @World.ownsRow.cells w base e size v n xs h
  have hlt := h.lt
  rcases h.2 with ⟨rfl, rfl⟩ | ⟨g, cap, cur, rfl, _, _, h1, h2, _⟩
  · exact ⟨none, 0, rfl, fun _ => ⟨rfl, rfl⟩, Nat.le_refl _, Nat.zero_le _, hl, (fun _ h => by cases h), (fun _ h => by cases h)⟩
  · refine ⟨_, cap, rfl, (fun h => by cases h), h1, h2, hl, fun a ha => ?_, fun a ha => ?_⟩
    · cases ha
      exact ⟨g, rfl, (hlt g rfl).2⟩
    · cases ha
      exact hc rfl

section
variable {base : Nat} {w w' : World} {D : Nat → Prop} {r : Nat} {t t' : Sp.Tree} {vT vN vT' vN' : Value}
theorem RefAt.turned (h : RefAt base w D r t vT vN) (hT : Turn (fun j => j = r) w w') (hobj : w'.heap[r]? = some (refO vT' vN' t'.many)) (h1 : (vT' = vT ∧ t'.things = t.things) ∨ ThingsAt w.heap.size w' vT' t'.things) (h2 : (vN' = vN ∧ t'.names = t.names) ∨ NamesAt w.heap.size w' vN' t'.names) : RefAt base w' D r t' vT' vN' := by
  have hs := Nat.le_trans h.low (Nat.le_of_lt h.lt)
  refine ⟨hobj, ?_, ?_, h.low, ⟨h.apart.1, fun g hg hj => ?_, fun g hg hj => ?_⟩, fun j hj => Nat.lt_of_lt_of_le (h.lim j hj) hT.size⟩
  · rcases h1 with ⟨rfl, e⟩ | h1
    · rw [e]
      exact row_keep h.things (fun k o hk ho => hT.heap ho (row_not h.things h.obj (by decide) k hk))
    · exact row_mono h1 hs
  · rcases h2 with ⟨rfl, e⟩ | h2
    · rw [e]
      exact row_keep h.names (fun k o hk ho => hT.heap ho (row_not h.names h.obj (by decide) k hk))
    · exact row_mono h2 hs
  · rcases h1 with ⟨rfl, e⟩ | h1
    · exact h.apart.2.1 g hg hj
    · have := (h1.lt g hg).1
      have := h.lim g hj
      omega
  · rcases h2 with ⟨rfl, e⟩ | h2
    · exact h.apart.2.2 g hg hj
    · have := (h2.lt g hg).1
      have := h.lim g hj
      omega
theorem turn_store {W : World} (hb : Below w.heap.size w W) (r i : Nat) (v : Value) : Turn (fun j => j = r) w (W.setCell ⟨r, i, none⟩ v) :=
  ⟨hb.os, hb.tape, hb.output, by rw [size_setCell]; exact hb.size, fun k hk hn => by
    have h1 : (W.setCell ⟨r, i, none⟩ v).heap[k]? = W.heap[k]? := by
      cases ho : W.heap[k]? with
      | none => exact absurd (Array.getElem?_eq_none_iff.1 ho) (by have := hb.size; omega)
      | some o => rw [heap_setCell_ne _ hn]; exact ho
    rw [h1]
    exact hb.block k hk⟩
/-- New names are laid down. -/
theorem RefAt.setN (h : RefAt base w D r t vT vN) {W : World} (hb : Below w.heap.size w W) {v : Value} {names : List (List ByteArray × Nat)} (hown : NamesAt w.heap.size W v names) :
    RefAt base (W.setCell ⟨r, 1, none⟩ v) D r { t with names := names } vT v ∧ Turn (fun j => j = r) w (W.setCell ⟨r, 1, none⟩ v) := by
  have hT := turn_store hb r 1 v
  have ho := heap_below hb _ _ h.obj
  refine ⟨h.turned hT ?_ (Or.inl ⟨rfl, rfl⟩) (Or.inr ?_), hT⟩
  · rw [heap_setCell_at ho]; rfl
  · exact row_keep hown (fun k o hk hk2 => by
      rw [heap_setCell_ne _ (fun e => by have := (hown.lt k hk).1; have := h.lt; omega)]; exact hk2)
/-- New things are laid down. -/
theorem RefAt.setT (h : RefAt base w D r t vT vN) {W : World} (hb : Below w.heap.size w W) {v : Value} {things : List (Nat × Bool × ByteArray)} (hown : ThingsAt w.heap.size W v things) :
    RefAt base (W.setCell ⟨r, 0, none⟩ v) D r { t with things := things } v vN ∧ Turn (fun j => j = r) w (W.setCell ⟨r, 0, none⟩ v) := by
  have hT := turn_store hb r 0 v
  have ho := heap_below hb _ _ h.obj
  refine ⟨h.turned hT ?_ (Or.inr ?_) (Or.inl ⟨rfl, rfl⟩), hT⟩
  · rw [heap_setCell_at ho]; rfl
  · exact row_keep hown (fun k o hk hk2 => by
      rw [heap_setCell_ne _ (fun e => by have := (hown.lt k hk).1; have := h.lt; omega)]; exact hk2)
/-- One number more is given. -/
theorem RefAt.setM (h : RefAt base w D r t vT vN) {W : World} (hb : Below w.heap.size w W) (m : Nat) :
    RefAt base (W.setCell ⟨r, 2, none⟩ (.int .i64 (m : Int))) D r { t with many := m } vT vN ∧ Turn (fun j => j = r) w (W.setCell ⟨r, 2, none⟩ (.int .i64 (m : Int))) := by
  have hT := turn_store hb r 2 (.int .i64 (m : Int))
  have ho := heap_below hb _ _ h.obj
  refine ⟨h.turned hT ?_ (Or.inl ⟨rfl, rfl⟩) (Or.inl ⟨rfl, rfl⟩), hT⟩
  rw [heap_setCell_at ho]; rfl
end
end Go.Proofs.YtcgpmnlondnbhaaGreatDoor
