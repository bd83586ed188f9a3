/-
  Slices of operations, and operations, among the arguments: what they hold, and what they read as.
-/
import Derived.Test.YtcgpmnlondnbhaaGreatDoorFrame
import Derived.Test.YtcgpmnlondnbhaaGreatDoorTreeB
import Derived.Deep.Slices
import Derived.Deep.Fields
import Derived.ChangeSame
import Derived.Lib.SmallJoins
namespace Go.Proofs.YtcgpmnlondnbhaaGreatDoor
open Go Go.Joins Go.ChangeShapes Go.WideShapes Go.RowKit Go.Deep
section
variable {H : Type} {enc : TypeId × Value → H} {P : Program} {w : World} {base : Nat} {spare : Nat → Bool} {held : Bool}
theorem open_slice_fields {t e : TypeId} {fs : Array Field} {fuel : Nat} {cs : List Value} {x : DataW H × List MemPlace} (ht : P.underlying t = some (.slice e)) (he : P.underlying e = some (.struct fs))
    (hone : oneCellFields P fs = true) (hC : P.cellsOf e = fs.size) (h : DataW.trod enc P w base spare held fuel t cs = some x) :
    (cs = [.slice none 0 0] ∧ x = (.nil, [])) ∨
    ∃ (a : Addr) (len cap m : Nat) (D : Nat → DataW H) (Pl : Nat → List MemPlace), cs = [.slice (some a) len cap] ∧ base ≤ a.block ∧ len ≤ cap ∧ cap ≤ maxLen ∧ m = (if spare a.block then cap else len) ∧
      x = (.slice ((List.range len).map D) ((List.range (m - len)).map fun j => D (len + j)), MemPlace.row a (m * fs.size) ++ (List.range m).flatMap Pl) ∧
      ∀ i, i < m → ∃ (ys : List (DataW H × List MemPlace)) (n : Nat), D i = .agg (ys.map (·.1)) ∧ Pl i = ys.flatMap (·.2) ∧ ys.length = fs.size ∧
        ∀ (j : Nat) (f : Field), fs[j]? = some f → ∃ (v : Value) (y : DataW H × List MemPlace), w.cell? (a.add (i * fs.size + j)) = some v ∧ ys[j]? = some y ∧ DataW.trod enc P w base spare held n f.type [v] = some y := by
  rcases open_slice ht h with h0 | ⟨a, len, cap, m, n, D, Pl, hcs, hb, hl, hm, hmm, hx, hi⟩
  · exact .inl h0
  · refine .inr ⟨a, len, cap, m, D, Pl, hcs, hb, hl, hm, hmm, by rw [hC] at hx; exact hx, fun i him => ?_⟩
    obtain ⟨cs', hc, ht'⟩ := hi i him
    rw [hC] at hc
    obtain ⟨ys, n', hn', hy, hlen, hyl, hf⟩ := DataW.trod_struct he ht'
    obtain ⟨_, hcl, hat⟩ := World.cells?_some hc
    simp only [Prod.mk.injEq] at hy
    refine ⟨ys, n', hy.1, hy.2, hyl, fun j f hj => ?_⟩
    obtain ⟨ho, hk⟩ := hone_of hone j f hj
    have hjl : j < fs.size := (Array.getElem?_eq_some_iff.1 hj).1
    have hcell := hat j hjl
    have hv : cs'[j]? = some (cs'[j]'(by omega)) := List.getElem?_eq_getElem (by omega)
    have h1 := hf j f hj
    rw [ho, hk] at h1
    have hone' : (cs'.drop j).take 1 = [cs'[j]'(by omega)] := by
      rw [List.drop_eq_getElem_cons (by omega)]
      rfl
    rw [hone'] at h1
    have hys : ys[j]? = some (ys[j]'(by omega)) := List.getElem?_eq_getElem (by omega)
    refine ⟨_, _, ?_, hys, h1.trans hys⟩
    rw [← Go.Deep.add_add, hcell, hv]
end

section
variable {H : Type} {enc : TypeId × Value → H} {P : Program} {w : World} {base : Nat} {spare : Nat → Bool} {held : Bool}
theorem open_agg6 {r : Reach} {b0 : Nat} {t : TypeId} {f0 f1 f2 f3 f4 f5 : Field} {v : Value} {d : DataW H} {p : List MemPlace} (hs : P.underlying t = some (.struct #[f0, f1, f2, f3, f4, f5])) (hone : oneCellFields P #[f0, f1, f2, f3, f4, f5] = true) (hC : P.cellsOf t = 6)
    (hv : Value.okWide P w r b0 t v) (h : DataW.Trod enc P w base spare held t v d p) :
    ∃ (v0 v1 v2 v3 v4 v5 : Value) (y0 y1 y2 y3 y4 y5 : DataW H × List MemPlace) (n : Nat), v = .agg #[v0, v1, v2, v3, v4, v5] ∧ d = .agg [y0.1, y1.1, y2.1, y3.1, y4.1, y5.1] ∧ p = y0.2 ++ (y1.2 ++ (y2.2 ++ (y3.2 ++ (y4.2 ++ y5.2)))) ∧
      DataW.trod enc P w base spare held n f0.type [v0] = some y0 ∧ DataW.trod enc P w base spare held n f1.type [v1] = some y1 ∧ DataW.trod enc P w base spare held n f2.type [v2] = some y2 ∧ DataW.trod enc P w base spare held n f3.type [v3] = some y3 ∧ DataW.trod enc P w base spare held n f4.type [v4] = some y4 ∧ DataW.trod enc P w base spare held n f5.type [v5] = some y5 := by
  obtain ⟨cs, rfl, hsz⟩ := okWide_struct hs hv
  obtain ⟨l⟩ := cs
  match l, hsz.trans hC with
  | [c0, c1, c2, c3, c4, c5], _ =>
    obtain ⟨fuel, hf⟩ := h
    obtain ⟨xs, n, _, hx, _, hlen, hg⟩ := DataW.trod_struct hs hf
    obtain ⟨o0, k0⟩ := hone_of hone 0 f0 rfl
    obtain ⟨o1, k1⟩ := hone_of hone 1 f1 rfl
    obtain ⟨o2, k2⟩ := hone_of hone 2 f2 rfl
    obtain ⟨o3, k3⟩ := hone_of hone 3 f3 rfl
    obtain ⟨o4, k4⟩ := hone_of hone 4 f4 rfl
    obtain ⟨o5, k5⟩ := hone_of hone 5 f5 rfl
    match xs, hlen with
    | [y0, y1, y2, y3, y4, y5], _ =>
      simp only [Prod.mk.injEq] at hx
      exact ⟨c0, c1, c2, c3, c4, c5, y0, y1, y2, y3, y4, y5, n, rfl, by simpa using hx.1, by simpa using hx.2, by simpa [Value.cells, o0, k0] using hg 0 f0 rfl, by simpa [Value.cells, o1, k1] using hg 1 f1 rfl, by simpa [Value.cells, o2, k2] using hg 2 f2 rfl, by simpa [Value.cells, o3, k3] using hg 3 f3 rfl, by simpa [Value.cells, o4, k4] using hg 4 f4 rfl, by simpa [Value.cells, o5, k5] using hg 5 f5 rfl⟩
end

def opA (o : Sp.Op) : Array Value := #[.int .i64 o.kind, .string o.path, .string o.to, .int .i64 o.off, .int .i64 o.len, .string o.data]
theorem opV_eq (o : Sp.Op) : opV o = .agg (opA o) := rfl
def opD {H : Type} (o : Sp.Op) : DataW H := .agg [.lit (.int .i64 o.kind), .lit (.string o.path.data.toList), .lit (.string o.to.data.toList), .lit (.int .i64 o.off), .lit (.int .i64 o.len), .lit (.string o.data.data.toList)]
/-- An operation whose numbers are ints and whose texts are texts. -/
structure OpIn (o : Sp.Op) : Prop where
  kind : (Lit.int .i64 o.kind).wf = true
  path : o.path.size ≤ maxLen
  dest : o.to.size ≤ maxLen
  off : (Lit.int .i64 o.off).wf = true
  len : (Lit.int .i64 o.len).wf = true
  data : o.data.size ≤ maxLen
/-- The slice v holds the operations l. -/
def Ops (w : World) (v : Value) (l : List Sp.Op) : Prop :=
  ∃ (ad : Option Addr) (cap : Nat), v = .slice ad l.length cap ∧ l.length ≤ cap ∧ cap ≤ maxLen ∧
    (0 < l.length → ∃ b off, ad = some ⟨b, off, none⟩ ∧ b < w.heap.size ∧ ∀ j o, l[j]? = some o → ∀ i x, (opA o)[i]? = some x → w.cell? ⟨b, off + (j * 6 + i), none⟩ = some x)
theorem Ops.below {w w' : World} {v : Value} {l : List Sp.Op} (h : Ops w v l) (hb : Below w.heap.size w w') : Ops w' v l := by
  obtain ⟨ad, cap, hv, h1, h2, h3⟩ := h
  refine ⟨ad, cap, hv, h1, h2, fun hp => ?_⟩
  obtain ⟨b, off, e, hlt, hc⟩ := h3 hp
  have := hb.size
  exact ⟨b, off, e, by omega, fun j o ho i x hx => (hb.cell (p := ⟨b, off + (j * 6 + i), none⟩) hlt).trans (hc j o ho i x hx)⟩

def rdInt : Option Value → Int
  | some (.int _ n) => n
  | _ => 0
def rdStr : Option Value → ByteArray
  | some (.string s) => s
  | _ => ⟨#[]⟩
def rdOp (W : World) (b off : Nat) : Sp.Op :=
  ⟨rdInt (W.cell? ⟨b, off, none⟩), rdStr (W.cell? ⟨b, off + 1, none⟩), rdStr (W.cell? ⟨b, off + 2, none⟩), rdInt (W.cell? ⟨b, off + 3, none⟩), rdInt (W.cell? ⟨b, off + 4, none⟩), rdStr (W.cell? ⟨b, off + 5, none⟩)⟩

set_option maxRecDepth 100000 in
/-- A slice of operations among the arguments. -/
theorem open_ops {H : Type} {enc : TypeId × Value → H} {W : World} {base : Nat} {v : Value} {d : DataW H} {ps : List MemPlace} (hval : Value.okWide Tryz.prog W .any base 22 v)
    (h : DataW.Trod enc Tryz.prog W 0 (fun _ => true) true 22 v d ps) (hlt : ∀ x ∈ ps, x.block < W.heap.size) :
    ∃ l : List Sp.Op, Ops W v l ∧ (∀ o ∈ l, OpIn o) ∧ ((d = .nil ∧ l = []) ∨ ∃ sp, d = .slice (l.map opD) sp) := by
  obtain ⟨a0, len, cap, rfl⟩ := okWide_slice Tryz.underlying22 hval
  obtain ⟨fuel, hf⟩ := h
  rcases open_slice_fields Tryz.underlying22 Tryz.underlying35 (by kernel_rfl) (by kernel_rfl) hf with ⟨hcs, hx⟩ | ⟨a, len', cap', m, D, Pl, hcs, _, hl, hm, hmm, hx, hi⟩
  · simp [Value.cells] at hcs
    obtain ⟨rfl, rfl, rfl⟩ := hcs
    simp only [Prod.mk.injEq] at hx
    exact ⟨[], ⟨none, 0, rfl, Nat.le_refl _, Nat.zero_le _, fun h => absurd h (by simp)⟩, by simp, Or.inl ⟨hx.1, rfl⟩⟩
  · simp [Value.cells] at hcs
    obtain ⟨rfl, rfl, rfl⟩ := hcs
    simp only [Prod.mk.injEq] at hx
    obtain ⟨rfl, rfl⟩ := hx
    simp only [if_true] at hmm
    have key : ∀ i, i < m → ∃ b off o, a = ⟨b, off, none⟩ ∧ o = rdOp W b (off + i * 6) ∧ D i = opD o ∧ OpIn o ∧ ∀ k x, (opA o)[k]? = some x → W.cell? ⟨b, off + (i * 6 + k), none⟩ = some x := by
      intro i hic
      obtain ⟨ys, n, hD, hP, hyl, hfld⟩ := hi i hic
      obtain ⟨w0, y0, c0, g0, t0⟩ := hfld 0 _ rfl
      obtain ⟨w1, y1, c1, g1, t1⟩ := hfld 1 _ rfl
      obtain ⟨w2, y2, c2, g2, t2⟩ := hfld 2 _ rfl
      obtain ⟨w3, y3, c3, g3, t3⟩ := hfld 3 _ rfl
      obtain ⟨w4, y4, c4, g4, t4⟩ := hfld 4 _ rfl
      obtain ⟨w5, y5, c5, g5, t5⟩ := hfld 5 _ rfl
      obtain ⟨n0, e0, rfl, f0⟩ := DataW.trod_int Tryz.underlying3 t0
      obtain ⟨s1, e1, rfl, f1⟩ := DataW.trod_string Tryz.underlying9 t1
      obtain ⟨s2, e2, rfl, f2⟩ := DataW.trod_string Tryz.underlying9 t2
      obtain ⟨n3, e3, rfl, f3⟩ := DataW.trod_int Tryz.underlying3 t3
      obtain ⟨n4, e4, rfl, f4⟩ := DataW.trod_int Tryz.underlying3 t4
      obtain ⟨s5, e5, rfl, f5⟩ := DataW.trod_string Tryz.underlying9 t5
      cases e0; cases e1; cases e2; cases e3; cases e4; cases e5
      obtain ⟨b, off, spot⟩ := a
      have hspot : spot = none := by
        obtain ⟨ys', n', _, _, _, hfld'⟩ := hi 0 (by omega)
        obtain ⟨_, _, c0', _, _⟩ := hfld' 0 _ rfl
        simpa [Addr.add] using World.cell?_spot c0'
      subst hspot
      rw [add_plain] at c0 c1 c2 c3 c4 c5
      have hys : ys = [(.lit (.int .i64 n0), []), (.lit (.string s1.data.toList), []), (.lit (.string s2.data.toList), []), (.lit (.int .i64 n3), []), (.lit (.int .i64 n4), []), (.lit (.string s5.data.toList), [])] := by
        apply List.ext_getElem?
        intro k
        match k with
        | 0 => exact g0
        | 1 => exact g1
        | 2 => exact g2
        | 3 => exact g3
        | 4 => exact g4
        | 5 => exact g5
        | k + 6 =>
          rw [List.getElem?_eq_none (by rw [hyl]; show 6 ≤ k + 6; omega)]
          rfl
      change W.cell? ⟨b, off + (i * 6 + 0), none⟩ = _ at c0
      change W.cell? ⟨b, off + (i * 6 + 1), none⟩ = _ at c1
      change W.cell? ⟨b, off + (i * 6 + 2), none⟩ = _ at c2
      change W.cell? ⟨b, off + (i * 6 + 3), none⟩ = _ at c3
      change W.cell? ⟨b, off + (i * 6 + 4), none⟩ = _ at c4
      change W.cell? ⟨b, off + (i * 6 + 5), none⟩ = _ at c5
      refine ⟨b, off, ⟨n0, s1, s2, n3, n4, s5⟩, rfl, ?_, by rw [hD, hys]; rfl, ⟨f0, f1, f2, f3, f4, f5⟩, ?_⟩
      · unfold rdOp
        rw [Nat.add_assoc off, Nat.add_assoc off, Nat.add_assoc off, Nat.add_assoc off, Nat.add_assoc off, c1, c2, c3, c4, c5, show off + i * 6 = off + (i * 6 + 0) from rfl, c0]
        rfl
      · intro k x hx
        match k, hx with
        | 0, hx => rw [c0, ← hx]; rfl
        | 1, hx => rw [c1, ← hx]; rfl
        | 2, hx => rw [c2, ← hx]; rfl
        | 3, hx => rw [c3, ← hx]; rfl
        | 4, hx => rw [c4, ← hx]; rfl
        | 5, hx => rw [c5, ← hx]; rfl
        | k + 6, hx => simp [opA] at hx
    obtain ⟨b, off, spot⟩ := a
    refine ⟨(List.range len).map (fun i => rdOp W b (off + i * 6)), ⟨some ⟨b, off, spot⟩, cap, by simp, by simpa using hl, hm, fun hp => ?_⟩, ?_, Or.inr ⟨(List.range (m - len)).map fun j => D (len + j), ?_⟩⟩
    · have hpos : 0 < len := by simpa using hp
      obtain ⟨b', off', o, e, _⟩ := key 0 (by omega)
      cases e
      refine ⟨b, off, rfl, hlt (.cell b off) (List.mem_append_left _ (MemPlace.mem_row.2 ⟨0, by show 0 < m * 6; omega, by simp⟩)), fun j o ho i x hx => ?_⟩
      rw [List.getElem?_map, Option.map_eq_some_iff] at ho
      obtain ⟨j', hj', rfl⟩ := ho
      have hjj := List.getElem?_eq_some_iff.1 hj'
      have hj2 : j < len := by simpa using hjj.1
      have : j' = j := by simpa using hjj.2.symm
      subst this
      obtain ⟨b2, off2, o2, e2, rfl, _, _, hc⟩ := key j' (by omega)
      cases e2
      exact hc i x hx
    · intro o ho
      obtain ⟨i, hi', rfl⟩ := List.mem_map.1 ho
      obtain ⟨b2, off2, o2, e2, rfl, _, hin, _⟩ := key i (by have := List.mem_range.1 hi'; omega)
      cases e2
      exact hin
    · congr 1
      rw [List.map_map]
      refine List.map_congr_left (fun i hi' => ?_)
      obtain ⟨b2, off2, o2, e2, rfl, hD, _, _⟩ := key i (by have := List.mem_range.1 hi'; omega)
      cases e2
      exact hD

set_option maxRecDepth 100000 in
/-- An operation among the arguments. -/
theorem open_op {H : Type} {enc : TypeId × Value → H} {W : World} {base : Nat} {v : Value} {d : DataW H} {ps : List MemPlace} (hval : Value.okWide Tryz.prog W .any base 35 v)
    (h : DataW.Trod enc Tryz.prog W 0 (fun _ => true) true 35 v d ps) : ∃ o : Sp.Op, v = opV o ∧ OpIn o ∧ d = opD o ∧ ps = [] := by
  obtain ⟨v0, v1, v2, v3, v4, v5, y0, y1, y2, y3, y4, y5, n, rfl, rfl, rfl, t0, t1, t2, t3, t4, t5⟩ := open_agg6 Tryz.underlying35 (by kernel_rfl) (by kernel_rfl) hval h
  obtain ⟨n0, e0, rfl, f0⟩ := DataW.trod_int Tryz.underlying3 t0
  obtain ⟨s1, e1, rfl, f1⟩ := DataW.trod_string Tryz.underlying9 t1
  obtain ⟨s2, e2, rfl, f2⟩ := DataW.trod_string Tryz.underlying9 t2
  obtain ⟨n3, e3, rfl, f3⟩ := DataW.trod_int Tryz.underlying3 t3
  obtain ⟨n4, e4, rfl, f4⟩ := DataW.trod_int Tryz.underlying3 t4
  obtain ⟨s5, e5, rfl, f5⟩ := DataW.trod_string Tryz.underlying9 t5
  cases e0; cases e1; cases e2; cases e3; cases e4; cases e5
  exact ⟨⟨n0, s1, s2, n3, n4, s5⟩, rfl, ⟨f0, f1, f2, f3, f4, f5⟩, rfl, rfl⟩

/-- Bulk: of a part no more than of the whole. -/
theorem bulk_mem {H : Type} {d : DataW H} : ∀ {ds : List (DataW H)}, d ∈ ds → Rows.uptoBulk d ≤ Rows.uptoBulkAll ds
  | [], h => by cases h
  | x :: r, h => by
    rw [Rows.uptoBulkAll]
    rcases List.mem_cons.1 h with rfl | h
    · omega
    · have := bulk_mem h; omega
theorem bulk_op {H : Type} (o : Sp.Op) : o.path.size ≤ Rows.uptoBulk (opD (H := H) o) ∧ o.to.size ≤ Rows.uptoBulk (opD (H := H) o) ∧ o.data.size ≤ Rows.uptoBulk (opD (H := H) o) := by
  have h : ∀ s : ByteArray, s.data.toList.length = s.size := fun s => Array.length_toList
  have h1 := h o.path
  have h2 := h o.to
  have h3 := h o.data
  simp only [opD, Rows.uptoBulk, Rows.uptoBulkAll]
  omega
theorem OpIn.ok {o : Sp.Op} (h : OpIn o) (h1 : o.path.size ≤ 1048576) (h2 : o.to.size ≤ 1048576) : OpOk o :=
  ⟨by omega, by omega, Nat.le_trans h.data (by decide), bounds_i64 h.off, bounds_i64 h.len, bounds_i64 h.kind⟩
end Go.Proofs.YtcgpmnlondnbhaaGreatDoor
