/-
  A log among the arguments: what it holds, and what it reads as.
-/
import Derived.Test.YtcgpmnlondnbhaaDoorOpens
import Derived.Test.YtcgpmnlondnbhaaDoorLogSrc
namespace Go.Proofs.YtcgpmnlondnbhaaDoor
open Go Go.Joins Go.ChangeShapes Go.WideShapes Go.RowKit Go.Deep

/-- A slice of texts that is read. -/
def NamesD {H : Type} (nd : DataW H) (l : List ByteArray) : Prop := (nd = .nil ∧ l = []) ∨ ∃ sp, nd = .slice (strs l) sp
def didD {H : Type} (x : Sp.Did) (nd : DataW H) : DataW H := .agg [.lit (.int .i64 x.node), .lit (.int .i64 x.task), .lit (.int .i64 x.frm), .lit (.int .i64 x.till), opD x.o, .agg [.lit (.int .i64 x.a.code), .lit (.int .i64 x.a.kind), .lit (.int .i64 x.a.links), .lit (.int .i64 x.a.size), .lit (.string x.a.data.data.toList), nd]]

section
variable {H : Type} {enc : TypeId × Value → H} {W : World}
set_option maxRecDepth 100000 in
theorem names_read {fuel : Nat} {cs : List Value} {d : DataW H} {ps : List MemPlace} (h : DataW.trod enc Tryd.prog W 0 (fun _ => true) true fuel 27 cs = some (d, ps)) (hlt : ∀ x ∈ ps, x.block < W.heap.size) :
    ∃ (l : List ByteArray) (ad : Option Addr) (cap : Nat), cs = [.slice ad l.length cap] ∧ Texts W (.slice ad l.length cap) l ∧ (ad = none → l.length = 0 ∧ cap = 0) ∧ NamesD d l := by
  rcases open_strings Tryd.underlying27 Tryd.underlying9 (show Tryd.prog.cellsOf 9 = 1 by kernel_rfl) h with ⟨hcs, hx⟩ | ⟨a, len, cap, ss, hcs, _, hl, hm, hz, hx, hcell, hsz⟩
  · simp only [Prod.mk.injEq] at hx
    exact ⟨[], none, 0, hcs, Texts.void W, fun _ => ⟨rfl, rfl⟩, Or.inl ⟨hx.1, rfl⟩⟩
  · simp only [Prod.mk.injEq] at hx
    obtain ⟨rfl, rfl⟩ := hx
    simp only [if_true] at hz
    have hlen : (ss.take len).length = len := by rw [List.length_take]; omega
    refine ⟨ss.take len, some a, cap, by rw [hlen]; exact hcs, ⟨some a, cap, rfl, by omega, hm, fun hp => ?_⟩, (fun h => by cases h), Or.inr ⟨_, rfl⟩⟩
    have hpos : 0 < ss.length := by omega
    obtain ⟨b, off, spot⟩ := a
    have hspot : spot = none := by simpa [Addr.add] using World.cell?_spot (hcell 0 hpos)
    subst hspot
    refine ⟨b, off, rfl, hlt (.cell b off) (MemPlace.mem_row.2 ⟨0, by omega, by simp⟩), fun j x hx => ?_⟩
    rw [List.getElem?_take] at hx
    split at hx
    · have hj := (List.getElem?_eq_some_iff.1 hx).1
      have := hcell j hj
      rw [add_plain] at this
      rw [this]
      simp [List.getD, hx]
    · cases hx

set_option maxRecDepth 100000 in
theorem op_read {fuel : Nat} {c0 c1 c2 c3 c4 c5 : Value} {x : DataW H × List MemPlace} (h : DataW.trod enc Tryd.prog W 0 (fun _ => true) true fuel 32 [c0, c1, c2, c3, c4, c5] = some x) :
    ∃ o : Sp.Op, [c0, c1, c2, c3, c4, c5] = (opA o).toList ∧ x = (opD o, []) ∧ OpIn o := by
  obtain ⟨xs, n, rfl, hx, _, hxl, hf⟩ := DataW.trod_struct Tryd.underlying32 h
  match xs, hxl with
  | [x0, x1, x2, x3, x4, x5], _ =>
    have e1 : Tryd.prog.cellsOf 3 = 1 := by kernel_rfl
    have e2 : Tryd.prog.cellsOf 9 = 1 := by kernel_rfl
    have t0 : DataW.trod enc Tryd.prog W 0 (fun _ => true) true n 3 (List.take (Tryd.prog.cellsOf 3) (List.drop 0 [c0, c1, c2, c3, c4, c5])) = some x0 := hf 0 _ rfl
    have t1 : DataW.trod enc Tryd.prog W 0 (fun _ => true) true n 9 (List.take (Tryd.prog.cellsOf 9) (List.drop 1 [c0, c1, c2, c3, c4, c5])) = some x1 := hf 1 _ rfl
    have t2 : DataW.trod enc Tryd.prog W 0 (fun _ => true) true n 9 (List.take (Tryd.prog.cellsOf 9) (List.drop 2 [c0, c1, c2, c3, c4, c5])) = some x2 := hf 2 _ rfl
    have t3 : DataW.trod enc Tryd.prog W 0 (fun _ => true) true n 3 (List.take (Tryd.prog.cellsOf 3) (List.drop 3 [c0, c1, c2, c3, c4, c5])) = some x3 := hf 3 _ rfl
    have t4 : DataW.trod enc Tryd.prog W 0 (fun _ => true) true n 3 (List.take (Tryd.prog.cellsOf 3) (List.drop 4 [c0, c1, c2, c3, c4, c5])) = some x4 := hf 4 _ rfl
    have t5 : DataW.trod enc Tryd.prog W 0 (fun _ => true) true n 9 (List.take (Tryd.prog.cellsOf 9) (List.drop 5 [c0, c1, c2, c3, c4, c5])) = some x5 := hf 5 _ rfl
    rw [e1] at t0 t3 t4
    rw [e2] at t1 t2 t5
    obtain ⟨n0, h0, rfl, f0⟩ := DataW.trod_int Tryd.underlying3 t0
    obtain ⟨s1, h1, rfl, f1⟩ := DataW.trod_string Tryd.underlying9 t1
    obtain ⟨s2, h2, rfl, f2⟩ := DataW.trod_string Tryd.underlying9 t2
    obtain ⟨n3, h3, rfl, f3⟩ := DataW.trod_int Tryd.underlying3 t3
    obtain ⟨n4, h4, rfl, f4⟩ := DataW.trod_int Tryd.underlying3 t4
    obtain ⟨s5, h5, rfl, f5⟩ := DataW.trod_string Tryd.underlying9 t5
    cases h0; cases h1; cases h2; cases h3; cases h4; cases h5
    exact ⟨⟨n0, s1, s2, n3, n4, s5⟩, rfl, hx, ⟨f0, f1, f2, f3, f4, f5⟩⟩

set_option maxRecDepth 100000 in
theorem did_read {fuel : Nat} {cs : List Value} {d : DataW H} {ps : List MemPlace} (h : DataW.trod enc Tryd.prog W 0 (fun _ => true) true fuel 56 cs = some (d, ps)) (hlt : ∀ x ∈ ps, x.block < W.heap.size) :
    ∃ (x : Sp.Did) (ad : Option Addr) (cap : Nat) (nd : DataW H), cs = (didA x (.slice ad x.a.names.length cap)).toList ∧ d = didD x nd ∧ Texts W (.slice ad x.a.names.length cap) x.a.names ∧ (ad = none → x.a.names.length = 0 ∧ cap = 0) ∧ NamesD nd x.a.names ∧ OpIn x.o := by
  obtain ⟨xs, n, rfl, hx, hcl, hxl, hf⟩ := DataW.trod_struct Tryd.underlying56 h
  rw [show Tryd.prog.cellsOf 56 = 16 by kernel_rfl] at hcl
  match xs, hxl, cs, hcl with
  | [x0, x1, x2, x3, x4, x5], _, [c0, c1, c2, c3, c4, c5, c6, c7, c8, c9, c10, c11, c12, c13, c14, c15], _ =>
    have e1 : Tryd.prog.cellsOf 3 = 1 := by kernel_rfl
    have e2 : Tryd.prog.cellsOf 9 = 1 := by kernel_rfl
    have e3 : Tryd.prog.cellsOf 32 = 6 := by kernel_rfl
    have e4 : Tryd.prog.cellsOf 29 = 6 := by kernel_rfl
    have e5 : Tryd.prog.cellsOf 27 = 1 := by kernel_rfl
    have e6 : Tryd.prog.cellsOf 26 = 1 := by kernel_rfl
    have t0 : DataW.trod enc Tryd.prog W 0 (fun _ => true) true n 3 (List.take (Tryd.prog.cellsOf 3) (List.drop 0 [c0, c1, c2, c3, c4, c5, c6, c7, c8, c9, c10, c11, c12, c13, c14, c15])) = some x0 := hf 0 _ rfl
    have t1 : DataW.trod enc Tryd.prog W 0 (fun _ => true) true n 3 (List.take (Tryd.prog.cellsOf 3) (List.drop 1 [c0, c1, c2, c3, c4, c5, c6, c7, c8, c9, c10, c11, c12, c13, c14, c15])) = some x1 := hf 1 _ rfl
    have t2 : DataW.trod enc Tryd.prog W 0 (fun _ => true) true n 3 (List.take (Tryd.prog.cellsOf 3) (List.drop 2 [c0, c1, c2, c3, c4, c5, c6, c7, c8, c9, c10, c11, c12, c13, c14, c15])) = some x2 := hf 2 _ rfl
    have t3 : DataW.trod enc Tryd.prog W 0 (fun _ => true) true n 3 (List.take (Tryd.prog.cellsOf 3) (List.drop 3 [c0, c1, c2, c3, c4, c5, c6, c7, c8, c9, c10, c11, c12, c13, c14, c15])) = some x3 := hf 3 _ rfl
    have t4 : DataW.trod enc Tryd.prog W 0 (fun _ => true) true n 32 (List.take (Tryd.prog.cellsOf 32) (List.drop 4 [c0, c1, c2, c3, c4, c5, c6, c7, c8, c9, c10, c11, c12, c13, c14, c15])) = some x4 := hf 4 _ rfl
    have t5 : DataW.trod enc Tryd.prog W 0 (fun _ => true) true n 29 (List.take (Tryd.prog.cellsOf 29) (List.drop 10 [c0, c1, c2, c3, c4, c5, c6, c7, c8, c9, c10, c11, c12, c13, c14, c15])) = some x5 := hf 5 _ rfl
    rw [e1] at t0 t1 t2 t3
    rw [e3] at t4
    rw [e4] at t5
    obtain ⟨n0, h0, rfl, f0⟩ := DataW.trod_int Tryd.underlying3 t0
    obtain ⟨n1, h1, rfl, f1⟩ := DataW.trod_int Tryd.underlying3 t1
    obtain ⟨n2, h2, rfl, f2⟩ := DataW.trod_int Tryd.underlying3 t2
    obtain ⟨n3, h3, rfl, f3⟩ := DataW.trod_int Tryd.underlying3 t3
    obtain ⟨o, h4, rfl, f4⟩ := op_read t4
    obtain ⟨ys, m, hm, hy, _, hyl, hg⟩ := DataW.trod_struct Tryd.underlying29 t5
    match ys, hyl with
    | [y0, y1, y2, y3, y4, y5], _ =>
      have u0 : DataW.trod enc Tryd.prog W 0 (fun _ => true) true m 26 (List.take (Tryd.prog.cellsOf 26) (List.drop 0 [c10, c11, c12, c13, c14, c15])) = some y0 := hg 0 _ rfl
      have u1 : DataW.trod enc Tryd.prog W 0 (fun _ => true) true m 3 (List.take (Tryd.prog.cellsOf 3) (List.drop 1 [c10, c11, c12, c13, c14, c15])) = some y1 := hg 1 _ rfl
      have u2 : DataW.trod enc Tryd.prog W 0 (fun _ => true) true m 3 (List.take (Tryd.prog.cellsOf 3) (List.drop 2 [c10, c11, c12, c13, c14, c15])) = some y2 := hg 2 _ rfl
      have u3 : DataW.trod enc Tryd.prog W 0 (fun _ => true) true m 3 (List.take (Tryd.prog.cellsOf 3) (List.drop 3 [c10, c11, c12, c13, c14, c15])) = some y3 := hg 3 _ rfl
      have u4 : DataW.trod enc Tryd.prog W 0 (fun _ => true) true m 9 (List.take (Tryd.prog.cellsOf 9) (List.drop 4 [c10, c11, c12, c13, c14, c15])) = some y4 := hg 4 _ rfl
      have u5 : DataW.trod enc Tryd.prog W 0 (fun _ => true) true m 27 (List.take (Tryd.prog.cellsOf 27) (List.drop 5 [c10, c11, c12, c13, c14, c15])) = some y5 := hg 5 _ rfl
      rw [e6] at u0
      rw [e1] at u1 u2 u3
      rw [e2] at u4
      rw [e5] at u5
      obtain ⟨m0, k0, rfl, g0⟩ := DataW.trod_int Tryd.underlying26 u0
      obtain ⟨m1, k1, rfl, g1⟩ := DataW.trod_int Tryd.underlying3 u1
      obtain ⟨m2, k2, rfl, g2⟩ := DataW.trod_int Tryd.underlying3 u2
      obtain ⟨m3, k3, rfl, g3⟩ := DataW.trod_int Tryd.underlying3 u3
      obtain ⟨s4, k4, rfl, g4⟩ := DataW.trod_string Tryd.underlying9 u4
      obtain ⟨d5, p5⟩ := y5
      subst hy
      simp only [Prod.mk.injEq] at hx
      obtain ⟨rfl, rfl⟩ := hx
      obtain ⟨l, ad, cap, k5, ht, hn, hd⟩ := names_read u5 (fun x hx => hlt x (by simp [hx]))
      cases h0; cases h1; cases h2; cases h3; cases k0; cases k1; cases k2; cases k3; cases k4; cases k5
      simp only [opA] at h4
      cases h4
      exact ⟨⟨n0, n1, n2, n3, o, ⟨m0, m1, m2, m3, s4, l⟩⟩, ad, cap, d5, rfl, rfl, ht, hn, hd, f4⟩

/-- What a log reads as. -/
def LogD (d : DataW H) (L : List Sp.Did) : Prop := (d = .nil ∧ L = []) ∨ ∃ (nds : List (DataW H)) (sp : List (DataW H)), nds.length = L.length ∧ d = .slice nds sp ∧ ∀ (k : Nat) (x : Sp.Did), L[k]? = some x → ∃ nd, nds[k]? = some (didD x nd) ∧ NamesD nd x.a.names

set_option maxRecDepth 100000 in
/-- A log among the arguments. -/
theorem open_dids {base : Nat} {v : Value} {d : DataW H} {ps : List MemPlace} (hval : Value.okWide Tryd.prog W .any base 50 v)
    (h : DataW.Trod enc Tryd.prog W 0 (fun _ => true) true 50 v d ps) (hlt : ∀ x ∈ ps, x.block < W.heap.size) :
    ∃ L : List Sp.Did, Src W v L ∧ (∀ x ∈ L, OpIn x.o) ∧ LogD d L := by
  obtain ⟨a0, len, cap, rfl⟩ := okWide_slice Tryd.underlying50 hval
  obtain ⟨fuel, hf⟩ := h
  rcases open_slice Tryd.underlying50 hf with ⟨hcs, hx⟩ | ⟨a, len', cap', m, n, D, Pl, hcs, _, hl, hm, hmm, hx, hi⟩
  · simp [Value.cells] at hcs
    obtain ⟨rfl, rfl, rfl⟩ := hcs
    simp only [Prod.mk.injEq] at hx
    exact ⟨[], ⟨none, 0, rfl, fun _ => ⟨rfl, rfl⟩, Nat.le_refl _, Nat.zero_le _, fun h => absurd h (by simp)⟩, by simp, Or.inl ⟨hx.1, rfl⟩⟩
  · simp [Value.cells] at hcs
    obtain ⟨rfl, rfl, rfl⟩ := hcs
    simp only [Prod.mk.injEq] at hx
    obtain ⟨rfl, rfl⟩ := hx
    simp only [if_true] at hmm
    have e16 : Tryd.prog.cellsOf 56 = 16 := by kernel_rfl
    rw [e16] at hi hlt
    have : Inhabited Sp.Did := ⟨⟨0, 0, 0, 0, ⟨0, ⟨#[]⟩, ⟨#[]⟩, 0, 0, ⟨#[]⟩⟩, {}⟩⟩
    have hspot : 0 < m → a.spot = none := fun h0 => by
      obtain ⟨cs', hc, _⟩ := hi 0 h0
      obtain ⟨_, hcl, hat⟩ := World.cells?_some hc
      have h1 := hat 0 (by omega)
      simpa [Addr.add] using World.cell?_spot (h1.trans (List.getElem?_eq_getElem (by rw [hcl]; omega)))
    obtain ⟨b, off, spot⟩ := a
    obtain ⟨X, hX⟩ := choose_lt (α := Sp.Did) (n := len) (p := fun i x => spot = none ∧ SrcAt W b (off + i * 16) x ∧ OpIn x.o ∧ ∃ nd, D i = didD x nd ∧ NamesD nd x.a.names) (fun i hil => by
      obtain ⟨cs', hc, ht⟩ := hi i (by omega)
      obtain ⟨x, ad, c, nd, rfl, hd, htx, hn, hnd, ho⟩ := did_read ht (fun p hp => hlt p (List.mem_append_right _ (List.mem_flatMap.2 ⟨i, List.mem_range.2 (by omega), hp⟩)))
      obtain ⟨_, hcl, hat⟩ := World.cells?_some hc
      have hspot : spot = none := hspot (by omega)
      subst hspot
      refine ⟨x, rfl, ⟨ad, c, htx, hn, fun k y hy => ?_⟩, ho, nd, hd, hnd⟩
      have hk : k < 16 := (Array.getElem?_eq_some_iff.1 hy).1
      have h2 := hat k hk
      rw [add_plain, add_plain] at h2
      rw [h2]
      simpa using hy)
    refine ⟨(List.range len).map X, ⟨some ⟨b, off, spot⟩, cap, by simp, (fun h => by cases h), by simpa using hl, hm, fun hp => ?_⟩, fun x hx => ?_, Or.inr ⟨_, _, by simp, rfl, fun k x hx => ?_⟩⟩
    · have hpos : 0 < len := by simpa using hp
      obtain ⟨rfl, _⟩ := hX 0 hpos
      refine ⟨b, off, rfl, hlt (.cell b off) (List.mem_append_left _ (MemPlace.mem_row.2 ⟨0, by show 0 < m * 16; omega, by simp⟩)), fun k x hx => ?_⟩
      rw [List.getElem?_map, Option.map_eq_some_iff] at hx
      obtain ⟨j, hj, rfl⟩ := hx
      have hjj := List.getElem?_eq_some_iff.1 hj
      have hkl : k < len := by simpa using hjj.1
      have : j = k := by simpa using hjj.2.symm
      subst this
      obtain ⟨_, h1, _⟩ := hX j hkl
      exact h1
    · obtain ⟨i, hi', rfl⟩ := List.mem_map.1 hx
      obtain ⟨_, _, h2, _⟩ := hX i (List.mem_range.1 hi')
      exact h2
    · rw [List.getElem?_map, Option.map_eq_some_iff] at hx
      obtain ⟨j, hj, rfl⟩ := hx
      have hjj := List.getElem?_eq_some_iff.1 hj
      have hkl : k < len := by simpa using hjj.1
      have : j = k := by simpa using hjj.2.symm
      subst this
      obtain ⟨_, _, _, nd, hd, hn⟩ := hX j hkl
      exact ⟨nd, by rw [List.getElem?_map, List.getElem?_range hkl, Option.map_some, hd], hn⟩

theorem bulk_pos (d : DataW H) : 1 ≤ Rows.uptoBulk d := by
  cases d with
  | lit l => cases l <;> simp only [Rows.uptoBulk] <;> omega
  | _ => simp only [Rows.uptoBulk] <;> omega
theorem bulk_length : ∀ ds : List (DataW H), ds.length ≤ Rows.uptoBulkAll ds
  | [] => Nat.zero_le _
  | d :: r => by
    have h1 := bulk_length r
    have h2 := bulk_pos d
    rw [List.length_cons, Rows.uptoBulkAll]
    omega
theorem bulk_names {nd : DataW H} {l : List ByteArray} (h : NamesD nd l) : l.length ≤ Rows.uptoBulk nd := by
  rcases h with ⟨rfl, rfl⟩ | ⟨sp, rfl⟩
  · exact Nat.zero_le _
  · have := bulk_length (strs (H := H) l)
    simp only [Rows.uptoBulk]
    simp only [strs, List.length_map] at this
    unfold strs
    omega
theorem bulk_did (x : Sp.Did) {nd : DataW H} (h : NamesD nd x.a.names) : x.o.path.size ≤ Rows.uptoBulk (didD x nd) ∧ x.o.to.size ≤ Rows.uptoBulk (didD x nd) ∧ x.a.names.length ≤ Rows.uptoBulk (didD x nd) := by
  have h1 := bulk_op (H := H) x.o
  have h2 := bulk_names h
  simp only [didD, Rows.uptoBulk, Rows.uptoBulkAll]
  omega
/-- How much a log reads. -/
theorem bulk_dids {d : DataW H} {L : List Sp.Did} (h : LogD d L) (hb : Rows.uptoBulk d ≤ 1048576) : L.length ≤ 1048576 ∧ ∀ x ∈ L, x.o.path.size ≤ 1048576 ∧ x.o.to.size ≤ 1048576 ∧ x.a.names.length ≤ 1048576 := by
  rcases h with ⟨rfl, rfl⟩ | ⟨nds, sp, hl, rfl, hk⟩
  · exact ⟨Nat.zero_le _, fun x hx => by cases hx⟩
  · simp only [Rows.uptoBulk] at hb
    have h1 := bulk_length nds
    refine ⟨by omega, fun x hx => ?_⟩
    obtain ⟨k, hk'⟩ := List.getElem?_of_mem hx
    obtain ⟨nd, hd, hn⟩ := hk k x hk'
    have h2 := bulk_mem (List.mem_of_getElem? hd)
    have h3 := bulk_did x hn
    exact ⟨by omega, by omega, by omega⟩
end
end Go.Proofs.YtcgpmnlondnbhaaDoor
