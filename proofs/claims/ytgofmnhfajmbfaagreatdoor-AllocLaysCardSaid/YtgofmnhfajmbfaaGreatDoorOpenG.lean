/-
  The frame of a law's proof, whatever its parameters: the call answers true, and has turned nothing that was there; so each argument reads as it read. And a world in which the listed tables lie.
-/
import Derived.Test.YtgofmnhfajmbfaaGreatDoorCards
import Derived.Test.YtgofmnhfajmbfaaGreatDoorNamesA
import Derived.Test.YtgofmnhfajmbfaaGreatDoorTie
import Derived.WalkKit
import Derived.ProofKit
import Derived.OpenShut
import Derived.Deep.DeepHandedRow
import Derived.Lib.LaidTab
import Derived.SizedLaws
import Derived.Test.YtgofmnhfajmbfaaGreatDoorGeomA
import Derived.Deep.Fields
import Derived.ChangeSame
namespace Go.Proofs.YtgofmnhfajmbfaaGreatDoor.frame
open Go.ChangeShapes Go.WideShapes Go.ChangeAt Go.RowKit

theorem own : ownKnob Tryz.prog.godebug = none := by kernel_rfl
theorem laidOut : laidOutB Tryz.prog = true := by kernel_rfl

/-- Every type of a list reads as data. -/
noncomputable def readsB (P : Program) (ts : List TypeId) : Bool := ts.all fun t => P.readableRec t && decide (t < P.types.size)

section
variable {P : Program} {H : Type} {enc : TypeId × Value → H}
theorem trodAll_stays (hl : laidOutB P = true) {W W' : World} (hb : Below W.heap.size W W') : ∀ {ts : List TypeId} {vs : List Value} {ds : List (DataW H)} {ps : List MemPlace}, readsB P ts = true →
    DataW.TrodAll enc P W 0 (fun _ => true) true ts vs ds ps → (∀ x ∈ ps, x.block < W.heap.size) → DataW.TrodAll enc P W' 0 (fun b => decide (b < W.heap.size)) true ts vs ds ps
  | [], _, _, _, _, h, _ => by
    obtain ⟨rfl, rfl, rfl⟩ := trodAll_nil h
    exact trodAll_mk0
  | t :: ts, _, _, _, hr, h, hlt => by
    obtain ⟨v, vs, d, ds, p, q, rfl, rfl, rfl, h0, r0⟩ := trodAll_cons h
    unfold readsB at hr
    rw [List.all_cons, Bool.and_eq_true, Bool.and_eq_true, decide_eq_true_eq] at hr
    exact trodAll_cons_mk (Below.trod hl hr.1.1 hr.1.2 h0 hb (fun x hx => hlt x (List.mem_append_left _ hx))) (trodAll_stays hl hb hr.2 r0 (fun x hx => hlt x (List.mem_append_right _ hx)))

/-- What is said of a law's call. -/
theorem post_true (hl : laidOutB P = true) {tb : TypeId} (htb : P.underlying tb = some .bool) {f : Func} {s : ChangeSpec} {W W' : World} {args : Array Value} {ds gs : List (DataW H)} {before : List MemPlace} (hts : readsB P f.params.toList = true) (hres : f.resultTypes = #[tb])
    (hv : s.vars = []) (hW : DataW.Whole enc P f.params.toList s.vars false W args.toList ds gs before) (hfn : s.fn H (ds ++ gs) = { results := [.lit (.bool true)], args := ds }) (hb : Below W.heap.size W W') :
    s.post enc P f false true false false W args (.bool true) W' := by
  have hW' := hW
  obtain ⟨p, q, hA, hV, rfl, hfz, hnd⟩ := hW
  rw [hv] at hV
  obtain ⟨rfl, rfl⟩ := trodVars_none hV
  have hlt : ∀ x ∈ p, x.block < W.heap.size := fun x hx => by simpa using hW'.lt x (List.mem_append_left _ hx)
  refine ⟨_, _, _, [], p, [], hW', ?_, ?_, ?_, hb.frame _, fun h => by cases h⟩
  · rw [hfn, hres]
    exact trodAll_mk1 (shut_bool htb _)
  · rw [hfn]
    exact trodAll_stays hl hb hts hA hlt
  · rw [hv, hfn]
    rfl
end

set_option maxRecDepth 100000 in
/-- A slice of texts among the arguments. -/
theorem open_texts {H : Type} {enc : TypeId × Value → H} {W : World} {base : Nat} {v : Value} {d : DataW H} {ps : List MemPlace} (hval : Value.okWide Tryz.prog W .any base 24 v)
    (h : DataW.Trod enc Tryz.prog W 0 (fun _ => true) true 24 v d ps) (hlt : ∀ x ∈ ps, x.block < W.heap.size) :
    ∃ l : List ByteArray, Texts W v l ∧ (∀ s ∈ l, s.size ≤ maxLen) ∧ ((d = .nil ∧ l = []) ∨ ∃ sp, d = .slice (strs l) sp) ∧ (v = .slice none 0 0 ∨ ∃ a n c, v = .slice (some a) n c) := by
  obtain ⟨a0, len, cap, rfl⟩ := okWide_slice Tryz.underlying24 hval
  obtain ⟨fuel, hf⟩ := h
  rcases open_strings Tryz.underlying24 Tryz.underlying9 (show Tryz.prog.cellsOf 9 = 1 by kernel_rfl) hf with ⟨hcs, hx⟩ | ⟨a, len', cap', ss, hcs, _, hl, hm, hz, hx, hcell, hsz⟩
  · simp [Value.cells] at hcs
    obtain ⟨rfl, rfl, rfl⟩ := hcs
    simp only [Prod.mk.injEq] at hx
    exact ⟨[], Texts.void W, by simp, Or.inl ⟨hx.1, rfl⟩, Or.inl rfl⟩
  · simp [Value.cells] at hcs
    obtain ⟨rfl, rfl, rfl⟩ := hcs
    simp only [Prod.mk.injEq] at hx
    obtain ⟨rfl, rfl⟩ := hx
    simp only [if_true] at hz
    have hlen : (ss.take len).length = len := by rw [List.length_take]; omega
    refine ⟨ss.take len, ⟨some a, cap, by rw [hlen], by omega, hm, fun hp => ?_⟩, fun s hs => hsz s (List.mem_of_mem_take hs), Or.inr ⟨_, rfl⟩, Or.inr ⟨_, _, _, rfl⟩⟩
    have hpos : 0 < ss.length := by omega
    obtain ⟨b, off, spot⟩ := a
    have hspot : spot = none := by simpa [Addr.add] using World.cell?_spot (hcell 0 hpos)
    subst hspot
    refine ⟨b, off, rfl, hlt (.cell b off) (MemPlace.mem_row.2 ⟨0, by omega, by simp⟩), fun j x hx => ?_⟩
    rw [List.getElem?_take] at hx
    split at hx
    · have hj := (List.getElem?_eq_some_iff.1 hx).1
      have := hcell j hj
      rw [add_plain] at this
      rw [this]
      simp [List.getD, hx]
    · cases hx

/-- A flat table's cells. -/
def flatCells : Nat → DataW Unit → List Value
  | 0, _ => []
  | _ + 1, .lit (.int k z) => [.int k z]
  | _ + 1, .lit (.bool b) => [.bool b]
  | n + 1, .agg parts => parts.flatMap (flatCells n)
  | _, _ => []
def layTable (h : Array Obj) (x : Nat × DataW Unit) : Array Obj :=
  h.modify x.1 fun
    | .cells _ t frozen => .cells (flatCells 5 x.2).toArray t frozen
    | o => o
/-- A world for the witness: the settled one, the listed tables holding what their initialisers lay. -/
noncomputable def laidWorld (tabs : List (Nat × DataW Unit)) (os : Os) : World :=
  { World.holding Tryz.prog os ⟨#[], #[], []⟩ with heap := tabs.foldl layTable (World.holding Tryz.prog os ⟨#[], #[], []⟩).heap }

end Go.Proofs.YtgofmnhfajmbfaaGreatDoor.frame
namespace Go.Proofs.YtgofmnhfajmbfaaGreatDoor
open Go Go.ChangeShapes Go.WideShapes Go.RowKit Go.Deep

section
variable {H : Type} {enc : TypeId × Value → H} {P : Program} {w : World} {base : Nat} {spare : Nat → Bool} {held : Bool}
theorem open_agg3 {r : _root_.Go.Reach} {b0 : Nat} {t : TypeId} {f0 f1 f2 : Field} {v : Value} {d : DataW H} {p : List MemPlace} (hs : P.underlying t = some (.struct #[f0, f1, f2])) (hone : oneCellFields P #[f0, f1, f2] = true) (hC : P.cellsOf t = 3)
    (hv : Value.okWide P w r b0 t v) (h : DataW.Trod enc P w base spare held t v d p) :
    ∃ (v0 v1 v2 : Value) (y0 y1 y2 : DataW H × List MemPlace) (n : Nat), v = .agg #[v0, v1, v2] ∧ d = .agg [y0.1, y1.1, y2.1] ∧ p = y0.2 ++ (y1.2 ++ y2.2) ∧
      DataW.trod enc P w base spare held n f0.type [v0] = some y0 ∧ DataW.trod enc P w base spare held n f1.type [v1] = some y1 ∧ DataW.trod enc P w base spare held n f2.type [v2] = some y2 := by
  obtain ⟨cs, rfl, hsz⟩ := okWide_struct hs hv
  obtain ⟨l⟩ := cs
  match l, hsz.trans hC with
  | [c0, c1, c2], _ =>
    obtain ⟨fuel, hf⟩ := h
    obtain ⟨xs, n, _, hx, _, hlen, hg⟩ := DataW.trod_struct hs hf
    obtain ⟨o0, k0⟩ := hone_of hone 0 f0 rfl
    obtain ⟨o1, k1⟩ := hone_of hone 1 f1 rfl
    obtain ⟨o2, k2⟩ := hone_of hone 2 f2 rfl
    match xs, hlen with
    | [y0, y1, y2], _ =>
      simp only [Prod.mk.injEq] at hx
      exact ⟨c0, c1, c2, y0, y1, y2, n, rfl, by simpa using hx.1, by simpa using hx.2, by simpa [Value.cells, o0, k0] using hg 0 f0 rfl, by simpa [Value.cells, o1, k1] using hg 1 f1 rfl, by simpa [Value.cells, o2, k2] using hg 2 f2 rfl⟩
end
def geomD {H : Type} (g : Sp.Geom) : DataW H := .agg [.lit (.int .i64 g.groups), .lit (.int .i64 g.inodes), .lit (.int .i64 g.blocks)]
set_option maxRecDepth 100000 in
theorem open_geom {H : Type} {enc : TypeId × Value → H} {W : World} {base : Nat} {v : Value} {d : DataW H} {ps : List MemPlace} (hval : Value.okWide Tryz.prog W .any base 23 v)
    (h : DataW.Trod enc Tryz.prog W 0 (fun _ => true) true 23 v d ps) : ∃ g : Sp.Geom, v = gV g ∧ d = geomD g ∧ ps = [] := by
  obtain ⟨v0, v1, v2, y0, y1, y2, n, rfl, rfl, rfl, t0, t1, t2⟩ := open_agg3 Tryz.underlying23 (by kernel_rfl) (by kernel_rfl) hval h
  obtain ⟨n0, e0, rfl, f0⟩ := DataW.trod_int Tryz.underlying3 t0
  obtain ⟨n1, e1, rfl, f1⟩ := DataW.trod_int Tryz.underlying3 t1
  obtain ⟨n2, e2, rfl, f2⟩ := DataW.trod_int Tryz.underlying3 t2
  cases e0
  cases e1
  cases e2
  exact ⟨⟨n0, n1, n2⟩, rfl, rfl, rfl⟩
end Go.Proofs.YtgofmnhfajmbfaaGreatDoor
