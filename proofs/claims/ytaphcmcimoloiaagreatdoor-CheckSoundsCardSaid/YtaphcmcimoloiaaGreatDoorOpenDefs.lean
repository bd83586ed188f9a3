/-
  A slice of defects among the arguments: what it holds, and what it reads as.
-/
import Derived.Test.YtaphcmcimoloiaaGreatDoorFrame
import Derived.Test.YtaphcmcimoloiaaGreatDoorDefKeys
import Derived.Deep.Slices
import Derived.Deep.Fields
import Derived.ChangeSame
import Derived.Lib.SmallJoins
namespace Go.Proofs.YtaphcmcimoloiaaGreatDoor
open Go Go.Joins Go.ChangeShapes Go.WideShapes Go.RowKit Go.Deep
section
variable {H : Type} {enc : TypeId × Value → H} {P : Program} {w : World} {base : Nat} {spare : Nat → Bool} {held : Bool}
theorem open_slice_flds {t e : TypeId} {fs : Array Field} {fuel : Nat} {cs : List Value} {x : DataW H × List MemPlace} (ht : P.underlying t = some (.slice e)) (he : P.underlying e = some (.struct fs))
    (hone : oneCellFields P fs = true) (hC : P.cellsOf e = fs.size) (h : DataW.trod enc P w base spare held fuel t cs = some x) :
    (cs = [.slice none 0 0] ∧ x = (.nil, [])) ∨
    ∃ (a : Addr) (len cap m : Nat) (D : Nat → DataW H) (Pl : Nat → List MemPlace), cs = [.slice (some a) len cap] ∧ base ≤ a.block ∧ len ≤ cap ∧ cap ≤ maxLen ∧ m = (if spare a.block then cap else len) ∧
      x = (.slice ((List.range len).map D) ((List.range (m - len)).map fun j => D (len + j)), MemPlace.row a (m * fs.size) ++ (List.range m).flatMap Pl) ∧
      ∀ i, i < m → ∃ (ys : List (DataW H × List MemPlace)) (n : Nat), D i = .agg (ys.map (·.1)) ∧ Pl i = ys.flatMap (·.2) ∧ ys.length = fs.size ∧
        ∀ (j : Nat) (f : Field), fs[j]? = some f → ∃ (v : Value) (y : DataW H × List MemPlace), w.cell? (a.add (i * fs.size + j)) = some v ∧ ys[j]? = some y ∧ DataW.trod enc P w base spare held n f.type [v] = some y := by
  rcases open_slice ht h with h0 | ⟨a, len, cap, m, n, D, Pl, hcs, hb, hl, hm, hmm, hx, hi⟩
  · exact .inl h0
  · refine .inr ⟨a, len, cap, m, D, Pl, hcs, hb, hl, hm, hmm, by rw [hC] at hx; exact hx, fun i him => ?_⟩
    obtain ⟨cs', hc, ht'⟩ := hi i him
    rw [hC] at hc
    obtain ⟨ys, n', hn', hy, hlen, hyl, hf⟩ := DataW.trod_struct he ht'
    obtain ⟨_, hcl, hat⟩ := World.cells?_some hc
    simp only [Prod.mk.injEq] at hy
    refine ⟨ys, n', hy.1, hy.2, hyl, fun j f hj => ?_⟩
    obtain ⟨ho, hk⟩ := hone_of hone j f hj
    have hjl : j < fs.size := (Array.getElem?_eq_some_iff.1 hj).1
    have hcell := hat j hjl
    have hv : cs'[j]? = some (cs'[j]'(by omega)) := List.getElem?_eq_getElem (by omega)
    have h1 := hf j f hj
    rw [ho, hk] at h1
    have hone' : (cs'.drop j).take 1 = [cs'[j]'(by omega)] := by
      rw [List.drop_eq_getElem_cons (by omega)]
      rfl
    rw [hone'] at h1
    have hys : ys[j]? = some (ys[j]'(by omega)) := List.getElem?_eq_getElem (by omega)
    refine ⟨_, _, ?_, hys, h1.trans hys⟩
    rw [← Go.Deep.add_add, hcell, hv]
end
def defD {H : Type} (x : Int × Int) : DataW H := .agg [.lit (.int .i64 x.1), .lit (.int .i64 x.2)]
def rdI : Option Value → Int
  | some (.int _ n) => n
  | _ => 0
def rdDef (W : World) (b off : Nat) : Int × Int := (rdI (W.cell? ⟨b, off, none⟩), rdI (W.cell? ⟨b, off + 1, none⟩))
theorem add_pl (b o j : Nat) : (⟨b, o, none⟩ : Addr).add j = ⟨b, o + j, none⟩ := by unfold Addr.add; split <;> simp_all
set_option maxRecDepth 100000 in
theorem open_defs {H : Type} {enc : TypeId × Value → H} {W : World} {base : Nat} {v : Value} {d : DataW H} {ps : List MemPlace} (hval : Value.okWide Tryz.prog W .any base 22 v)
    (h : DataW.Trod enc Tryz.prog W 0 (fun _ => true) true 22 v d ps) (hlt : ∀ x ∈ ps, x.block < W.heap.size) :
    ∃ l : List (Int × Int), RowAt W v 2 (l.map defC) ∧ (v = .slice none 0 0 ∨ ∃ a n cap, v = .slice (some a) n cap) ∧ ((d = .nil ∧ l = []) ∨ ∃ sp, d = .slice (l.map defD) sp) := by
  obtain ⟨a0, len, cap, rfl⟩ := okWide_slice Tryz.underlying22 hval
  obtain ⟨fuel, hf⟩ := h
  rcases open_slice_flds Tryz.underlying22 Tryz.underlying107 (by kernel_rfl) (by kernel_rfl) hf with ⟨hcs, hx⟩ | ⟨a, len', cap', m, D, Pl, hcs, _, hl, hm, hmm, hx, hi⟩
  · simp [Value.cells] at hcs
    obtain ⟨rfl, rfl, rfl⟩ := hcs
    simp only [Prod.mk.injEq] at hx
    exact ⟨[], RowAt.void W 2, Or.inl rfl, Or.inl ⟨hx.1, rfl⟩⟩
  · simp [Value.cells] at hcs
    obtain ⟨rfl, rfl, rfl⟩ := hcs
    simp only [Prod.mk.injEq] at hx
    obtain ⟨rfl, rfl⟩ := hx
    simp only [if_true] at hmm
    have key : ∀ i, i < m → ∃ b off x, a = ⟨b, off, none⟩ ∧ x = rdDef W b (off + i * 2) ∧ D i = defD x ∧ W.cell? ⟨b, off + i * 2, none⟩ = some (.int .i64 x.1) ∧ W.cell? ⟨b, off + i * 2 + 1, none⟩ = some (.int .i64 x.2) := by
      intro i hic
      obtain ⟨ys, n, hD, _, hyl, hfld⟩ := hi i hic
      obtain ⟨w0, y0, c0, g0, t0⟩ := hfld 0 _ rfl
      obtain ⟨w1, y1, c1, g1, t1⟩ := hfld 1 _ rfl
      obtain ⟨n0, e0, rfl, f0⟩ := DataW.trod_int Tryz.underlying3 t0
      obtain ⟨n1, e1, rfl, f1⟩ := DataW.trod_int Tryz.underlying3 t1
      cases e0; cases e1
      obtain ⟨b, off, spot⟩ := a
      have hspot : spot = none := by
        obtain ⟨ys', n', _, _, _, hfld'⟩ := hi 0 (by omega)
        obtain ⟨_, _, c0', _, _⟩ := hfld' 0 _ rfl
        simpa [Addr.add] using World.cell?_spot c0'
      subst hspot
      rw [add_pl] at c0 c1
      have c0 : W.cell? ⟨b, off + i * 2, none⟩ = _ := c0
      have c1 : W.cell? ⟨b, off + i * 2 + 1, none⟩ = _ := c1
      have hys : ys = [(.lit (.int .i64 n0), []), (.lit (.int .i64 n1), [])] := by
        apply List.ext_getElem?
        intro k
        match k with
        | 0 => exact g0
        | 1 => exact g1
        | k + 2 =>
          rw [List.getElem?_eq_none (by rw [hyl]; show 2 ≤ k + 2; omega)]
          rfl
      exact ⟨b, off, (n0, n1), rfl, by unfold rdDef; rw [c0, c1]; rfl, by rw [hD, hys]; rfl, c0, c1⟩
    obtain ⟨b, off, spot⟩ := a
    refine ⟨(List.range len).map (fun i => rdDef W b (off + i * 2)), ⟨some ⟨b, off, spot⟩, cap, by simp, by simpa using hl, hm, fun hp => ?_⟩, Or.inr ⟨_, _, _, rfl⟩, Or.inr ⟨(List.range (m - len)).map fun j => D (len + j), ?_⟩⟩
    · have hpos : 0 < len := by simpa using hp
      obtain ⟨b', off', o, e, _⟩ := key 0 (by omega)
      cases e
      refine ⟨b, off, rfl, hlt (.cell b off) (List.mem_append_left _ (MemPlace.mem_row.2 ⟨0, by show 0 < m * 2; omega, by simp⟩)), fun j x hx i y hy => ?_⟩
      rw [List.map_map, List.getElem?_map, Option.map_eq_some_iff] at hx
      obtain ⟨j', hj', rfl⟩ := hx
      have hjj := List.getElem?_eq_some_iff.1 hj'
      have hj2 : j < len := by simpa using hjj.1
      have : j' = j := by simpa using hjj.2.symm
      subst this
      obtain ⟨b2, off2, x2, e2, rfl, _, h1, h2⟩ := key j' (by omega)
      cases e2
      match i, hy with
      | 0, hy => rw [Nat.add_zero, h1, ← hy]; rfl
      | 1, hy => rw [h2, ← hy]; rfl
      | i + 2, hy => simp [defC] at hy
    · congr 1
      rw [List.map_map]
      refine List.map_congr_left (fun i hi' => ?_)
      obtain ⟨b2, off2, x2, e2, rfl, hD, _⟩ := key i (by have := List.mem_range.1 hi'; omega)
      cases e2
      exact hD
end Go.Proofs.YtaphcmcimoloiaaGreatDoor
