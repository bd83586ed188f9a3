/-
  Slices of writes among the arguments: what they hold, and what they read as.
-/
import Derived.Test.YtcgpmnlondnbhaaDoorOpens
namespace Go.Proofs.YtcgpmnlondnbhaaDoor
open Go Go.Joins Go.ChangeShapes Go.WideShapes Go.RowKit Go.Deep

/-- The slice v holds the writes l. -/
def Writes (w : World) (v : Value) (l : List (Int × ByteArray)) : Prop :=
  ∃ (ad : Option Addr) (cap : Nat), v = .slice ad l.length cap ∧ l.length ≤ cap ∧ cap ≤ maxLen ∧
    (0 < l.length → ∃ b off, ad = some ⟨b, off, none⟩ ∧ b < w.heap.size ∧ ∀ j x, l[j]? = some x → w.cell? ⟨b, off + j * 2, none⟩ = some (.int .i64 x.1) ∧ w.cell? ⟨b, off + j * 2 + 1, none⟩ = some (.string x.2))
def rdWrite (W : World) (b off : Nat) : Int × ByteArray := (rdInt (W.cell? ⟨b, off, none⟩), rdStr (W.cell? ⟨b, off + 1, none⟩))

set_option maxRecDepth 100000 in
/-- A slice of writes among the arguments. -/
theorem open_writes {H : Type} {enc : TypeId × Value → H} {W : World} {base : Nat} {v : Value} {d : DataW H} {ps : List MemPlace} (hval : Value.okWide Tryd.prog W .any base 22 v)
    (h : DataW.Trod enc Tryd.prog W 0 (fun _ => true) true 22 v d ps) (hlt : ∀ x ∈ ps, x.block < W.heap.size) :
    ∃ l : List (Int × ByteArray), Writes W v l ∧ ∀ x ∈ l, (Lit.int .i64 x.1).wf = true ∧ x.2.size ≤ maxLen := by
  obtain ⟨a0, len, cap, rfl⟩ := okWide_slice Tryd.underlying22 hval
  obtain ⟨fuel, hf⟩ := h
  rcases open_slice_fields Tryd.underlying22 Tryd.underlying36 (by kernel_rfl) (by kernel_rfl) hf with ⟨hcs, hx⟩ | ⟨a, len', cap', m, D, Pl, hcs, _, hl, hm, hmm, hx, hi⟩
  · simp [Value.cells] at hcs
    obtain ⟨rfl, rfl, rfl⟩ := hcs
    exact ⟨[], ⟨none, 0, rfl, Nat.le_refl _, Nat.zero_le _, fun h => absurd h (by simp)⟩, by simp⟩
  · simp [Value.cells] at hcs
    obtain ⟨rfl, rfl, rfl⟩ := hcs
    simp only [Prod.mk.injEq] at hx
    obtain ⟨rfl, rfl⟩ := hx
    simp only [if_true] at hmm
    have key : ∀ i, i < m → ∃ b off x, a = ⟨b, off, none⟩ ∧ x = rdWrite W b (off + i * 2) ∧ ((Lit.int .i64 x.1).wf = true ∧ x.2.size ≤ maxLen) ∧ W.cell? ⟨b, off + i * 2, none⟩ = some (.int .i64 x.1) ∧ W.cell? ⟨b, off + i * 2 + 1, none⟩ = some (.string x.2) := by
      intro i hic
      obtain ⟨ys, n, _, _, _, hfld⟩ := hi i hic
      obtain ⟨w0, y0, c0, g0, t0⟩ := hfld 0 _ rfl
      obtain ⟨w1, y1, c1, g1, t1⟩ := hfld 1 _ rfl
      obtain ⟨n0, e0, rfl, f0⟩ := DataW.trod_int Tryd.underlying3 t0
      obtain ⟨s1, e1, rfl, f1⟩ := DataW.trod_string Tryd.underlying9 t1
      cases e0; cases e1
      obtain ⟨b, off, spot⟩ := a
      have hspot : spot = none := by
        obtain ⟨ys', n', _, _, _, hfld'⟩ := hi 0 (by omega)
        obtain ⟨_, _, c0', _, _⟩ := hfld' 0 _ rfl
        simpa [Addr.add] using World.cell?_spot c0'
      subst hspot
      rw [add_plain] at c0 c1
      have c0 : W.cell? ⟨b, off + i * 2, none⟩ = _ := c0
      have c1 : W.cell? ⟨b, off + i * 2 + 1, none⟩ = _ := c1
      exact ⟨b, off, (n0, s1), rfl, by unfold rdWrite; rw [c0, c1]; rfl, ⟨f0, f1⟩, c0, c1⟩
    obtain ⟨b, off, spot⟩ := a
    refine ⟨(List.range len).map (fun i => rdWrite W b (off + i * 2)), ⟨some ⟨b, off, spot⟩, cap, by simp, by simpa using hl, hm, fun hp => ?_⟩, ?_⟩
    · have hpos : 0 < len := by simpa using hp
      obtain ⟨b', off', o, e, _⟩ := key 0 (by omega)
      cases e
      refine ⟨b, off, rfl, hlt (.cell b off) (List.mem_append_left _ (MemPlace.mem_row.2 ⟨0, by show 0 < m * 2; omega, by simp⟩)), fun j x hx => ?_⟩
      rw [List.getElem?_map, Option.map_eq_some_iff] at hx
      obtain ⟨j', hj', rfl⟩ := hx
      have hjj := List.getElem?_eq_some_iff.1 hj'
      have hj2 : j < len := by simpa using hjj.1
      have : j' = j := by simpa using hjj.2.symm
      subst this
      obtain ⟨b2, off2, x2, e2, rfl, _, h1, h2⟩ := key j' (by omega)
      cases e2
      exact ⟨h1, h2⟩
    · intro x hx
      obtain ⟨i, hi', rfl⟩ := List.mem_map.1 hx
      obtain ⟨b2, off2, x2, e2, rfl, hin, _⟩ := key i (by have := List.mem_range.1 hi'; omega)
      cases e2
      exact hin
end Go.Proofs.YtcgpmnlondnbhaaDoor
