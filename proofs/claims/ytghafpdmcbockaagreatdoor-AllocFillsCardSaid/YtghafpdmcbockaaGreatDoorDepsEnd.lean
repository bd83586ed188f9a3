/-
  Layer 12: the worlds of Add's end.
-/
import Derived.Test.YtghafpdmcbockaaGreatDoorIntRows
import Derived.Test.YtghafpdmcbockaaGreatDoorDiskNew
namespace Go.Proofs.YtghafpdmcbockaaGreatDoor
open Go Go.RowKit Txt Sp

theorem infoChange : (Tryz.prog.info? 190).map (fun i => (i.zero, i.size, i.bytes)) = some (some (.agg #[.int .i64 0, .int .i64 0, .int .i64 0, .string ByteArray.empty, .slice none 0 0, .int .i64 0]), 6, 72) := by kernel_rfl
/-- A field of the changes is written. -/
theorem DepsAt.field {w : World} {base B : Nat} {d : Sp.Deps} {D : Nat → Prop} (h : DepsAt w base B d D) (last : Nat) : DepsAt (w.setCell ⟨B, 1, none⟩ (.int .i64 (last : Int))) base B ⟨d.l, last⟩ D := by
  obtain ⟨⟨v, ps, h1, h2, h3, h4, h5⟩, ho, hl⟩ := h
  have hT : Turn (fun j => j = B) w (w.setCell ⟨B, 1, none⟩ (.int .i64 (last : Int))) := setCell_turn
  have ne : ∀ {e : TypeId} {sz : Nat} {α : Type} {f : α → List Value} {u : Value} {l : List α}, e ≠ 188 → OwnR e sz f base w u l → ∀ k, u.ownBlock = some k → k ≠ B := by
    intro e sz α f u l he hu k hk hkB
    subst hkB
    obtain ⟨_, ⟨rfl, _⟩ | ⟨g, cap, cur, rfl, hg, hh, _⟩⟩ := hu
    · cases hk
    · cases hk
      unfold depsO at h1
      rw [h1] at hh
      cases hh
      exact he rfl
  refine ⟨⟨v, ps, ?_, h2, h3.turn hT (ne (by decide) h3), h4, fun x hx => ⟨(h5 x hx).1.turn hT (ne (by decide) (h5 x hx).1), (h5 x hx).2⟩⟩, ho, hl⟩
  have := setHeap_at (k := 1) h1 (.int .i64 (last : Int))
  exact this
/-- A change more. -/
theorem DepsAt.more {w w8 w9 : World} {base B : Nat} {d : Sp.Deps} {D : Nat → Prop} {v' u : Value} {ps : List (Chg × Value)} (h1 : w.heap[B]? = some (depsO v' d.last)) (h2 : ps.map Prod.fst = d.l) (h3 : OwnR 190 6 chgC base w v' ps) (h4 : ∀ k, v'.ownBlock = some k → D k)
    (h5 : ∀ x ∈ ps, OwnR 3 1 intC base w x.2 x.1.ahead ∧ ∀ k, x.2.ownBlock = some k → D k) (ho : D B) (hl : base ≤ B) (hb : Below w.heap.size w w8) {n g cap : Nat} (hn : n = d.l.length) {c : Chg} (hu : OwnR 3 1 intC base w u c.ahead)
    (hg : w8.grownBy w9 v'.ownBlock) (hrow : w9.ownsRow base 190 6 (.slice (some ⟨g, 0, none⟩) (n + 1) cap) (n + 1) (ps.flatMap chgC ++ chgC (c, u))) :
    DepsAt (w9.setCell ⟨B, 0, none⟩ (.slice (some ⟨g, 0, none⟩) (n + 1) cap)) base B ⟨d.l ++ [c], d.last⟩ (fun j => D j ∨ j = g ∨ u.ownBlock = some j) ∧
      w9.cell? ⟨B, 0, none⟩ = some v' ∧ w9.cell? ⟨B, 1, none⟩ = some (.int .i64 (d.last : Int)) ∧ w9.frozen? ⟨B, 0, none⟩ = false ∧
      Turn (fun j => j = B ∨ v'.ownBlock = some j) w (w9.setCell ⟨B, 0, none⟩ (.slice (some ⟨g, 0, none⟩) (n + 1) cap)) ∧
      (∀ j, v'.ownBlock = some j → D j ∧ ∃ cs, w.heap[j]? = some (.cells cs 190 (0, 0))) ∧ g < w9.heap.size := by
  have hBw : B < w.heap.size := (Array.getElem?_eq_some_iff.1 h1).1
  have hown2 : ∀ j, v'.ownBlock = some j → ∃ cs, w.heap[j]? = some (.cells cs 190 (0, 0)) := by
    intro j hj
    obtain ⟨_, ⟨rfl, _⟩ | ⟨g', cap', cur, rfl, hg', hh, _⟩⟩ := h3
    · cases hj
    · cases hj
      exact ⟨cur, hh⟩
  have hBv : v'.ownBlock ≠ some B := fun e => by
    obtain ⟨cs, hcs⟩ := hown2 B e
    rw [h1] at hcs
    unfold depsO at hcs
    cases hcs
  have h18 := heapOld hb h1
  have h19 : w9.heap[B]? = some (depsO v' d.last) := (hg.block B (Nat.lt_of_lt_of_le hBw hb.size) (fun e => hBv e.symm)).trans h18
  have hBg : B ≠ g := fun e => by
    obtain ⟨_, ⟨hh, _⟩ | ⟨g', cap', cur, hh, _, h9, _⟩⟩ := hrow
    · cases hh
    · cases hh
      rw [← e, h19] at h9
      unfold depsO at h9
      cases h9
  have hT1 : Turn (fun j => v'.ownBlock = some j) w w9 :=
    ⟨hg.os.trans hb.os, hg.tape.trans hb.tape, hg.output.trans hb.output, Nat.le_trans hb.size hg.size, fun k hk hne => (hg.block k (Nat.lt_of_lt_of_le hk hb.size) (fun e => hne e.symm)).trans (hb.block k hk)⟩
  have hT2 : Turn (fun j => j = B) w9 (w9.setCell ⟨B, 0, none⟩ (.slice (some ⟨g, 0, none⟩) (n + 1) cap)) := setCell_turn
  have hT : Turn (fun j => j = B ∨ v'.ownBlock = some j) w (w9.setCell ⟨B, 0, none⟩ (.slice (some ⟨g, 0, none⟩) (n + 1) cap)) := hT1.trans hT2 (fun k _ e => Or.inr e) (fun k _ e => Or.inl e)
  have hint : ∀ {u : Value} {l : List Int}, OwnR 3 1 intC base w u l → OwnR 3 1 intC base (w9.setCell ⟨B, 0, none⟩ (.slice (some ⟨g, 0, none⟩) (n + 1) cap)) u l := by
    intro u l hu
    refine hu.turn hT (fun k hk hK => ?_)
    obtain ⟨_, ⟨rfl, _⟩ | ⟨g', cap', cur, rfl, _, hh, _⟩⟩ := hu
    · cases hk
    · cases hk
      rcases hK with e | e
      · have e : g' = B := e
        rw [e, h1] at hh
        unfold depsO at hh
        cases hh
      · obtain ⟨cs, hcs⟩ := hown2 _ e
        have hcs : w.heap[g']? = _ := hcs
        rw [hcs] at hh
        cases hh
  have hlen : ps.length = n := by rw [hn, ← h2, List.length_map]
  refine ⟨⟨⟨_, ps ++ [(c, u)], setHeap_at (k := 0) h19 _, by rw [List.map_append, h2]; rfl, ?_, fun k hk => ?_, fun x hx => ?_⟩, Or.inl ho, hl⟩, cellOf (k := 0) h19 rfl, cellOf (k := 1) h19 rfl, freeOf h19, hT, fun j hj => ⟨h4 j hj, hown2 j hj⟩, ?_⟩
  · have h10 : OwnR 190 6 chgC base w9 (.slice (some ⟨g, 0, none⟩) (n + 1) cap) (ps ++ [(c, u)]) := OwnR.snoc (f := chgC) hrow rfl (by rw [hlen])
    exact h10.turn hT2 (fun k hk e => by cases hk; exact hBg e.symm)
  · cases hk
    exact Or.inr (Or.inl rfl)
  · rcases List.mem_append.1 hx with hx | hx
    · exact ⟨hint (h5 x hx).1, fun k hk => Or.inl ((h5 x hx).2 k hk)⟩
    · rw [List.mem_singleton.1 hx]
      exact ⟨hint hu, fun k hk => Or.inr (Or.inr hk)⟩
  · obtain ⟨_, ⟨hh, _⟩ | ⟨g', cap', cur, hh, _, h9, _⟩⟩ := hrow
    · cases hh
    · cases hh
      exact (Array.getElem?_eq_some_iff.1 h9).1
end Go.Proofs.YtghafpdmcbockaaGreatDoor
