/-
  SidA: Turn, IntMap, OwnRows, SideRep, Disk, DiskNew.
-/
import Derived.Test.YtgofmnhfajmbfaaGreatDoorNamesA
import Derived.Test.YtgofmnhfajmbfaaGreatDoorPlainA
import Derived.WalkKit
import Derived.ChangeMaps4
import Derived.Lib.Hide
import Derived.Test.YtgofmnhfajmbfaaGreatDoorMapsA
import Derived.Deep.AppendLies
import Derived.Test.YtgofmnhfajmbfaaGreatDoorSpC
import Derived.Laws.OwnMore
import Derived.Test.YtgofmnhfajmbfaaGreatDoorMapsB
import Derived.Test.YtgofmnhfajmbfaaGreatDoorSuperA
import Derived.Deep.RegionLaw
namespace Go.Proofs.YtgofmnhfajmbfaaGreatDoor
open Go Go.RowKit Txt

theorem heap_below {w w' : World} (hb : Below w.heap.size w w') : ∀ (k : Nat) (o : Obj), w.heap[k]? = some o → w'.heap[k]? = some o := fun k o h => by
  rw [hb.block k (Array.getElem?_eq_some_iff.1 h).1]; exact h

/-- Nothing below a world's end has turned but at places of K. -/
structure Turn (K : Nat → Prop) (w w' : World) : Prop where
  os : w'.os = w.os
  tape : w'.tape = w.tape
  output : w'.output = w.output
  size : w.heap.size ≤ w'.heap.size
  block : ∀ k, k < w.heap.size → ¬ K k → w'.heap[k]? = w.heap[k]?
theorem Turn.of_below {K : Nat → Prop} {w w' : World} (h : Below w.heap.size w w') : Turn K w w' := ⟨h.os, h.tape, h.output, h.size, fun k hk _ => h.block k hk⟩
theorem Turn.refl (K : Nat → Prop) (w : World) : Turn K w w := Turn.of_below (Below.refl _ _)
theorem Turn.trans {K K1 K2 : Nat → Prop} {a b c : World} (h : Turn K1 a b) (g : Turn K2 b c) (h1 : ∀ k, k < a.heap.size → K1 k → K k) (h2 : ∀ k, k < a.heap.size → K2 k → K k) : Turn K a c :=
  ⟨g.os.trans h.os, g.tape.trans h.tape, g.output.trans h.output, Nat.le_trans h.size g.size, fun k hk hn => (g.block k (Nat.lt_of_lt_of_le hk h.size) (fun e => hn (h2 k hk e))).trans (h.block k hk (fun e => hn (h1 k hk e)))⟩
theorem Turn.mono {K K' : Nat → Prop} {a b : World} (h : Turn K a b) (hk : ∀ k, k < a.heap.size → K k → K' k) : Turn K' a b :=
  ⟨h.os, h.tape, h.output, h.size, fun k hk' hn => h.block k hk' (fun e => hn (hk k hk' e))⟩
theorem Turn.below {K : Nat → Prop} {a b : World} {n : Nat} (h : Turn K a b) (hk : ∀ k, K k → n ≤ k) (hn : n ≤ a.heap.size) : Below n a b :=
  ⟨h.os, h.tape, h.output, h.size, fun k hk' => h.block k (by omega) (fun e => by have := hk k e; omega)⟩
theorem Turn.heap {K : Nat → Prop} {a b : World} (h : Turn K a b) {k : Nat} {o : Obj} (ho : a.heap[k]? = some o) (hk : ¬ K k) : b.heap[k]? = some o := by
  rw [h.block k (Array.getElem?_eq_some_iff.1 ho).1 hk]; exact ho

theorem bcell {a b : World} (h : Below a.heap.size a b) : (∀ k o, k < a.heap.size → b.cell? ⟨k, o, none⟩ = a.cell? ⟨k, o, none⟩) ∧ (∀ k o, k < a.heap.size → b.frozen? ⟨k, o, none⟩ = a.frozen? ⟨k, o, none⟩) :=
  ⟨fun k o hk => h.cell (p := ⟨k, o, none⟩) hk, fun k o hk => h.frozen (p := ⟨k, o, none⟩) hk⟩

/-- A block that is none of the tree's. -/
def Apart (D : Nat → Prop) (w : World) (n : Nat) (o : Obj) : Prop := w.heap[n]? = some o ∧ ¬ D n
theorem Apart.turn {D D' : Nat → Prop} {w w' : World} {n : Nat} {o : Obj} (h : Apart D w n o) (hT : Turn D w w') (hd : ∀ j, D' j → D j ∨ w.heap.size ≤ j) : Apart D' w' n o :=
  ⟨hT.heap h.1 h.2, fun hn => (hd n hn).elim h.2 (fun hle => by have := (Array.getElem?_eq_some_iff.1 h.1).1; omega)⟩
theorem Apart.below {D : Nat → Prop} {w w' : World} {n : Nat} {o : Obj} (h : Apart D w n o) (hb : Below w.heap.size w w') : Apart D w' n o := ⟨heap_below hb _ _ h.1, h.2⟩
end Go.Proofs.YtgofmnhfajmbfaaGreatDoor

namespace Go.Proofs.YtgofmnhfajmbfaaGreatDoor.IM
open Go Go.RowKit Txt

section
variable {α : Type}
/-- What a list of entries has at a key. -/
def getM (l : List (Int × α)) (s : Int) : Option α := (l.find? (fun x => decide (x.1 = s))).map (·.2)
def setM (l : List (Int × α)) (s : Int) (b : α) : List (Int × α) := if (getM l s).isSome then l.map (fun x => if x.1 = s then (s, b) else x) else l ++ [(s, b)]
def delM (l : List (Int × α)) (s : Int) : List (Int × α) := l.filter (fun x => decide (x.1 ≠ s))
def encE (enc : α → Value) (x : Int × α) : Value × Value := (.int .i64 x.1, enc x.2)
/-- An object is a map with these entries. -/
def IsMap (enc : α → Value) (o : Obj) (l : List (Int × α)) : Prop :=
  ∃ es clock, o = .map es clock ∧ MapKept.Stamped es clock ∧ es.toList.map (fun e => (e.key, e.val)) = l.map (encE enc)
def MapAt (enc : α → Value) (w : World) (m : Nat) (l : List (Int × α)) : Prop := ∃ o, w.heap[m]? = some o ∧ IsMap enc o l
theorem IsMap.new {enc : α → Value} : IsMap enc (.map #[] 0) [] := ⟨#[], 0, rfl, MapKept.stamped_empty 0, rfl⟩
end

section
variable {α : Type} {enc : α → Value} {es : Array MapEntry} {l : List (Int × α)}
theorem ents_key (h : es.toList.map (fun e => (e.key, e.val)) = l.map (encE enc)) : ∀ x ∈ es.toList, MapKept.IsKey (.int .i64) x.key := by
  intro x hx
  have : (x.key, x.val) ∈ l.map (encE enc) := by rw [← h]; exact List.mem_map.2 ⟨x, hx, rfl⟩
  obtain ⟨y, _, e⟩ := List.mem_map.1 this
  have := (Prod.mk.inj e).1
  rw [← this]
  rfl
theorem ents_len (h : es.toList.map (fun e => (e.key, e.val)) = l.map (encE enc)) : es.size = l.length := by
  have := congrArg List.length h
  simpa using this
theorem ents_at (h : es.toList.map (fun e => (e.key, e.val)) = l.map (encE enc)) {j : Nat} {e : MapEntry} (he : es.toList[j]? = some e) : ∃ x, l[j]? = some x ∧ e.key = .int .i64 x.1 ∧ e.val = enc x.2 := by
  have h1 : (es.toList.map (fun e => (e.key, e.val)))[j]? = some (e.key, e.val) := by rw [List.getElem?_map, he]; rfl
  rw [h, List.getElem?_map] at h1
  obtain ⟨x, hx, e1⟩ := Option.map_eq_some_iff.1 h1
  exact ⟨x, hx, (Prod.mk.inj e1).1.symm, (Prod.mk.inj e1).2.symm⟩
theorem ents_keys (h : es.toList.map (fun e => (e.key, e.val)) = l.map (encE enc)) : es.toList.map (·.key) = l.map (fun x => Value.int .i64 x.1) := by
  have := congrArg (List.map Prod.fst) h
  rw [List.map_map, List.map_map] at this
  exact this
theorem nodup_of_map {β γ : Type} (f : β → γ) : ∀ {l : List β}, (l.map f).Nodup → l.Nodup
  | [], _ => by simp
  | x :: r, h => by
    rw [List.map_cons, List.nodup_cons] at h
    rw [List.nodup_cons]
    exact ⟨fun hm => h.1 (List.mem_map.2 ⟨x, hm, rfl⟩), nodup_of_map f h.2⟩
theorem keys_nodup (h : es.toList.map (fun e => (e.key, e.val)) = l.map (encE enc)) {clock : Nat} (hs : MapKept.Stamped es clock) : (l.map (·.1)).Nodup := by
  have h1 := hs.2.2
  rw [ents_keys h] at h1
  have : l.map (fun x => Value.int .i64 x.1) = (l.map (·.1)).map (Value.int .i64) := by rw [List.map_map]; rfl
  rw [this] at h1
  exact nodup_of_map _ h1
theorem getM_at (hn : (l.map (·.1)).Nodup) {j : Nat} {x : Int × α} (hx : l[j]? = some x) : getM l x.1 = some x.2 := by
  induction l generalizing j with
  | nil => simp at hx
  | cons y r ih =>
    rw [List.map_cons, List.nodup_cons] at hn
    unfold getM
    rw [List.find?_cons]
    cases j with
    | zero =>
      simp at hx
      subst hx
      simp
    | succ j =>
      have hxr : r[j]? = some x := by simpa using hx
      have hne : y.1 ≠ x.1 := fun e => hn.1 (by rw [e]; exact List.mem_map.2 ⟨x, List.mem_of_getElem? hxr, rfl⟩)
      rw [decide_eq_false hne]
      exact ih hn.2 hxr
theorem getM_none {s : Int} (h : ∀ x ∈ l, x.1 ≠ s) : getM l s = none := by
  unfold getM
  rw [List.find?_eq_none.2 (fun x hx => by simp [h x hx])]
  rfl
/-- An entry is where its key is, or there is none. -/
theorem find_at (h : es.toList.map (fun e => (e.key, e.val)) = l.map (encE enc)) {s : Int} (h2 : ∀ x ∈ es.toList, x.key ≠ .int .i64 s) : ∀ x ∈ l, x.1 ≠ s := fun x hx e => by
  obtain ⟨j, hj⟩ := List.getElem?_of_mem hx
  have h4 : (es.toList.map (·.key))[j]? = some (.int .i64 s) := by rw [ents_keys h, List.getElem?_map, hj, ← e]; rfl
  rw [List.getElem?_map] at h4
  obtain ⟨y, hy, e2⟩ := Option.map_eq_some_iff.1 h4
  exact h2 y (List.mem_of_getElem? hy) e2
end

section
variable {α : Type} {enc : α → Value} {P : Program} {w : World} {T K E : TypeId} {m : Nat} {l : List (Int × α)}
theorem run_lookup (ht : P.underlying T = some (.map K E)) (hk : P.underlying K = some (.int .i64)) {z : Value} (hz : (zeroValue E).run P w = .ok z w) (h : MapAt enc w m l) (s : Int) :
    (Instr.lookup T (.map (some m)) (.int .i64 s) false).run P w = .ok ((getM l s).elim z enc) w := by
  obtain ⟨o, hb, es, clock, rfl, hst, hen⟩ := h
  have hkey : MapKept.IsKey (.int .i64) (.int .i64 s) := rfl
  have hn := keys_nodup hen hst
  rcases MapKept.findNow_spec hkey es.toList 0 (ents_key hen) with ⟨h1, h2⟩ | ⟨j, e0, h1, h2, h3⟩
  · rw [getM_none (find_at hen h2)]
    simp [Instr.lookup, run_underlying ht, MapKept.run_getObj_map hb, MapKept.run_checkKey hk hkey, MapKept.run_findKey hk h1, hz, Result.andThen]
  · obtain ⟨x, hx, e1, e2⟩ := ents_at hen h2
    rw [h3] at e1
    have es1 : s = x.1 := by injection e1
    have := getM_at hn hx
    rw [← es1] at this
    rw [this]
    simp [Instr.lookup, run_underlying ht, MapKept.run_getObj_map hb, MapKept.run_checkKey hk hkey, MapKept.run_findKey hk h1, Result.andThen, e2]
theorem run_lookup2 (ht : P.underlying T = some (.map K E)) (hk : P.underlying K = some (.int .i64)) {z : Value} (hz : (zeroValue E).run P w = .ok z w) (h : MapAt enc w m l) (s : Int) :
    (Instr.lookup T (.map (some m)) (.int .i64 s) true).run P w = .ok (.tuple #[(getM l s).elim z enc, .bool (getM l s).isSome]) w := by
  obtain ⟨o, hb, es, clock, rfl, hst, hen⟩ := h
  have hkey : MapKept.IsKey (.int .i64) (.int .i64 s) := rfl
  have hn := keys_nodup hen hst
  rcases MapKept.findNow_spec hkey es.toList 0 (ents_key hen) with ⟨h1, h2⟩ | ⟨j, e0, h1, h2, h3⟩
  · rw [getM_none (find_at hen h2)]
    simp [Instr.lookup, run_underlying ht, MapKept.run_getObj_map hb, MapKept.run_checkKey hk hkey, MapKept.run_findKey hk h1, hz, Result.andThen]
  · obtain ⟨x, hx, e1, e2⟩ := ents_at hen h2
    rw [h3] at e1
    have es1 : s = x.1 := by injection e1
    have := getM_at hn hx
    rw [← es1] at this
    rw [this]
    simp [Instr.lookup, run_underlying ht, MapKept.run_getObj_map hb, MapKept.run_checkKey hk hkey, MapKept.run_findKey hk h1, Result.andThen, e2]

theorem list_set_ents {j : Nat} {es : List MapEntry} {l : List (Int × α)} (h : es.map (fun e => (e.key, e.val)) = l.map (encE enc)) {x : Int × α} (hx : l[j]? = some x) (hn : (l.map (·.1)).Nodup) (e' : MapEntry) {s : Int} {b : α} (hs : s = x.1) (h1 : e'.key = .int .i64 s) (h2 : e'.val = enc b) :
    (es.set j e').map (fun e => (e.key, e.val)) = (l.map (fun y => if y.1 = s then (s, b) else y)).map (encE enc) := by
  rw [List.map_set, h, h1, h2]
  apply List.ext_getElem?
  intro i
  rw [List.getElem?_set, List.getElem?_map, List.getElem?_map, List.getElem?_map]
  by_cases hij : j = i
  · subst hij
    have hl := (List.getElem?_eq_some_iff.1 hx).1
    rw [if_pos rfl, if_pos (by simpa using hl), hx]
    simp [hs, encE]
  · rw [if_neg hij]
    cases hy : l[i]? with
    | none => rfl
    | some y =>
      have hne : y.1 ≠ s := by
        intro e
        have a1 : (l.map (·.1))[j]? = some s := by rw [List.getElem?_map, hx, hs]; rfl
        have a2 : (l.map (·.1))[i]? = some s := by rw [List.getElem?_map, hy, ← e]; rfl
        exact hij ((List.getElem?_inj (List.getElem?_eq_some_iff.1 a1).1 hn).1 (a1.trans a2.symm))
      simp [hne]

theorem run_update (ht : P.underlying T = some (.map K E)) (hk : P.underlying K = some (.int .i64)) (h : MapAt enc w m l) (s : Int) (b : α) :
    ∃ o', (Instr.mapUpdate T (.map (some m)) (.int .i64 s) (enc b)).run P w = .ok () (ChangeMaps.setBlock w m o') ∧ IsMap enc o' (setM l s b) := by
  obtain ⟨o, hb, es, clock, rfl, hst, hen⟩ := h
  have hkey : MapKept.IsKey (.int .i64) (.int .i64 s) := rfl
  have hn := keys_nodup hen hst
  rcases MapKept.findNow_spec hkey es.toList 0 (ents_key hen) with ⟨h1, h2⟩ | ⟨j, e0, h1, h2, h3⟩
  · refine ⟨.map (es.push ⟨.int .i64 s, enc b, clock⟩) (clock + 1), ?_, _, _, rfl, MapKept.stamped_push hst h2, ?_⟩
    · simp [Instr.mapUpdate, run_underlying ht, MapKept.run_getObj_map hb, MapKept.run_checkKey hk hkey, MapKept.run_findKey hk h1, MapKept.run_setObj_map _ hb, Result.andThen, ChangeMaps.setBlock]
    · unfold setM
      rw [getM_none (find_at hen h2)]
      simp [hen, encE]
  · obtain ⟨x, hx, e1, e2⟩ := ents_at hen h2
    rw [h3] at e1
    have es1 : s = x.1 := by injection e1
    have hget := getM_at hn hx
    rw [← es1] at hget
    have hj : es[j]? = some e0 := by simpa using h2
    have hkeyf : ∀ e', es[j]? = some e' → ({ e' with key := .int .i64 s, val := enc b } : MapEntry).key = e'.key := fun e' he' => by rw [hj] at he'; cases he'; exact h3.symm
    refine ⟨.map (es.modify j (fun e' => { e' with key := .int .i64 s, val := enc b })) clock, ?_, _, _, rfl, MapKept.stamped_modify hst _ _ (fun _ _ => rfl) (fun e' _ he' => hkeyf e' he'), ?_⟩
    · simp [Instr.mapUpdate, run_underlying ht, MapKept.run_getObj_map hb, MapKept.run_checkKey hk hkey, MapKept.run_findKey hk h1, hj, h3, MapKept.run_keyThatStays hkey, MapKept.run_setObj_map _ hb, Result.andThen, ChangeMaps.setBlock]
    · unfold setM
      rw [hget]
      simp only [Option.isSome_some, if_true]
      rw [Array.toList_modify, ChangeMaps.modify_eq_set _ _ _ _ h2]
      exact list_set_ents hen hx hn _ es1 rfl rfl

theorem delM_erase {l : List (Int × α)} (hn : (l.map (·.1)).Nodup) {j : Nat} {x : Int × α} (hx : l[j]? = some x) : delM l x.1 = l.eraseIdx j := by
  induction l generalizing j with
  | nil => simp at hx
  | cons y r ih =>
    rw [List.map_cons, List.nodup_cons] at hn
    unfold delM
    cases j with
    | zero =>
      simp at hx
      subst hx
      rw [List.filter_cons, if_neg (by simp), List.eraseIdx_cons_zero]
      exact List.filter_eq_self.2 (fun z hz => by
        have : z.1 ≠ y.1 := fun e => hn.1 (by rw [← e]; exact List.mem_map.2 ⟨z, hz, rfl⟩)
        simp [this])
    | succ j =>
      have hxr : r[j]? = some x := by simpa using hx
      have hne : y.1 ≠ x.1 := fun e => hn.1 (by rw [e]; exact List.mem_map.2 ⟨x, List.mem_of_getElem? hxr, rfl⟩)
      rw [List.filter_cons, if_pos (by simp [hne]), List.eraseIdx_cons_succ]
      congr 1
      exact ih hn.2 hxr
theorem delM_none {l : List (Int × α)} {s : Int} (h : ∀ x ∈ l, x.1 ≠ s) : delM l s = l := List.filter_eq_self.2 (fun z hz => by simp [h z hz])
theorem run_delete {ty : TypeId} (ht : P.underlying T = some (.map K E)) (hk : P.underlying K = some (.int .i64)) (h : MapAt enc w m l) (s : Int) :
    ∃ o', (Builtin.delete_ #[T, K] ty #[.map (some m), .int .i64 s]).run P w = .ok (.tuple #[]) (ChangeMaps.setBlock w m o') ∧ IsMap enc o' (delM l s) := by
  obtain ⟨o, hb, es, clock, rfl, hst, hen⟩ := h
  have hkey : MapKept.IsKey (.int .i64) (.int .i64 s) := rfl
  have hn := keys_nodup hen hst
  rcases MapKept.findNow_spec hkey es.toList 0 (ents_key hen) with ⟨h1, h2⟩ | ⟨j, e0, h1, h2, h3⟩
  · refine ⟨.map es clock, ?_, es, clock, rfl, hst, by rw [delM_none (find_at hen h2)]; exact hen⟩
    simp [Builtin.delete_, run_underlying ht, MapKept.run_getObj_map hb, MapKept.run_checkKey hk hkey, MapKept.run_findKey hk h1, MapKept.run_setObj_map _ hb, Result.andThen, ChangeMaps.setBlock]
  · obtain ⟨x, hx, e1, e2⟩ := ents_at hen h2
    rw [h3] at e1
    have es1 : s = x.1 := by injection e1
    have hjs : j < es.size := by have := (List.getElem?_eq_some_iff.1 h2).1; simpa using this
    have hsub : (es.eraseIdxIfInBounds j).toList = es.toList.eraseIdx j := by
      unfold Array.eraseIdxIfInBounds
      rw [dif_pos hjs]
      simp
    refine ⟨.map (es.eraseIdxIfInBounds j) clock, ?_, _, _, rfl, MapKept.stamped_erase hst j, ?_⟩
    · simp [Builtin.delete_, run_underlying ht, MapKept.run_getObj_map hb, MapKept.run_checkKey hk hkey, MapKept.run_findKey hk h1, MapKept.run_setObj_map _ hb, Result.andThen, ChangeMaps.setBlock]
    · rw [hsub, es1, delM_erase hn hx, ChangeMaps.map_eraseIdx, hen, ChangeMaps.map_eraseIdx]
theorem run_len {ty : TypeId} (h0 : P.underlying T = some (.map (P.mapKeyOf T) (P.mapElemOf T))) (h : MapAt enc w m l) : (Builtin.len_ #[T] ty #[.map (some m)]).run P w = .ok (.int .i64 l.length) w := by
  obtain ⟨o, hb, es, clock, rfl, hst, hen⟩ := h
  rw [run_len_map w T ty m es clock h0 hb, ents_len hen]
  rfl
theorem MapAt.lt (h : MapAt enc w m l) : m < w.heap.size := by
  obtain ⟨o, h, _⟩ := h
  exact (Array.getElem?_eq_some_iff.1 h).1
theorem MapAt.old {w' : World} (h : MapAt enc w m l) (hs : w'.heap[m]? = w.heap[m]?) : MapAt enc w' m l := by
  obtain ⟨o, h, h2⟩ := h
  exact ⟨o, hs.trans h, h2⟩
theorem MapAt.nodup (h : MapAt enc w m l) : (l.map (·.1)).Nodup := by
  obtain ⟨o, h, es, clock, _, hst, hen⟩ := h
  exact keys_nodup hen hst
theorem heap_setBlock_at {o : Obj} (h : m < w.heap.size) : (ChangeMaps.setBlock w m o).heap[m]? = some o := by simp [ChangeMaps.setBlock, h]
theorem heap_setBlock_ne {o : Obj} {k : Nat} (h : k ≠ m) : (ChangeMaps.setBlock w m o).heap[k]? = w.heap[k]? := by simp [ChangeMaps.setBlock, Ne.symm h]
theorem size_setBlock (w : World) (m : Nat) (o : Obj) : (ChangeMaps.setBlock w m o).heap.size = w.heap.size := by simp [ChangeMaps.setBlock]
end
section
variable {α : Type}
theorem getM_set (l : List (Int × α)) (s : Int) (b : α) (r : Int) : getM (setM l s b) r = if r = s then some b else getM l r := by
  unfold setM
  cases hs : getM l s with
  | none =>
    simp only [Option.isSome_none, Bool.false_eq_true, if_false]
    unfold getM at hs ⊢
    rw [List.find?_append]
    by_cases h : r = s
    · subst h
      rw [if_pos rfl]
      cases hf : l.find? (fun x => decide (x.1 = r)) with
      | none => simp
      | some y => rw [hf] at hs; cases hs
    · rw [if_neg h]
      cases hf : l.find? (fun x => decide (x.1 = r)) with
      | none => simp [Ne.symm h]
      | some y => simp
  | some c =>
    simp only [Option.isSome_some, if_true]
    obtain ⟨y, hy, rfl⟩ := Option.map_eq_some_iff.1 hs
    have hy1 : y.1 = s := of_decide_eq_true (List.find?_some (p := fun x : Int × α => decide (x.1 = s)) hy)
    unfold getM
    rw [List.find?_map]
    by_cases h : r = s
    · subst h
      rw [if_pos rfl]
      have e : ((fun x : Int × α => decide (x.1 = r)) ∘ fun x => if x.1 = r then (r, b) else x) = fun x => decide (x.1 = r) := by
        funext x
        simp only [Function.comp_apply]
        by_cases hx : x.1 = r <;> simp [hx]
      rw [e, hy]
      simp [hy1]
    · rw [if_neg h]
      have e : ((fun x : Int × α => decide (x.1 = r)) ∘ fun x => if x.1 = s then (s, b) else x) = fun x => decide (x.1 = r) := by
        funext x
        simp only [Function.comp_apply]
        by_cases hx : x.1 = s
        · simp [hx]
        · simp [hx]
      rw [e]
      cases hf : l.find? (fun x => decide (x.1 = r)) with
      | none => rfl
      | some z =>
        have hz1 : z.1 = r := of_decide_eq_true (List.find?_some (p := fun x : Int × α => decide (x.1 = r)) hf)
        have : z.1 ≠ s := by rw [hz1]; exact h
        simp [this]
theorem getM_del (l : List (Int × α)) (s r : Int) : getM (delM l s) r = if r = s then none else getM l r := by
  unfold getM delM
  rw [List.find?_filter]
  by_cases h : r = s
  · subst h
    rw [if_pos rfl, List.find?_eq_none.2 (fun x _ => by simp)]
    rfl
  · rw [if_neg h]
    congr 2
    funext x
    by_cases hx : x.1 = r
    · simp [hx, h]
    · simp [hx]
theorem length_setM {l : List (Int × α)} {s : Int} {b : α} : (setM l s b).length = if (getM l s).isSome then l.length else l.length + 1 := by
  unfold setM
  split <;> simp
theorem length_delM {l : List (Int × α)} (hn : (l.map (·.1)).Nodup) {s : Int} : (delM l s).length + (if (getM l s).isSome then 1 else 0) = l.length := by
  cases hs : getM l s with
  | none =>
    have : ∀ x ∈ l, x.1 ≠ s := fun x hx e => by
      obtain ⟨j, hj⟩ := List.getElem?_of_mem hx
      have := getM_at hn hj
      rw [e, hs] at this
      cases this
    rw [delM_none this]
    simp
  | some c =>
    obtain ⟨y, hy, rfl⟩ := Option.map_eq_some_iff.1 hs
    have hy1 : y.1 = s := of_decide_eq_true (List.find?_some (p := fun x : Int × α => decide (x.1 = s)) hy)
    obtain ⟨j, hj⟩ := List.getElem?_of_mem (List.mem_of_find?_eq_some hy)
    have hlt := (List.getElem?_eq_some_iff.1 hj).1
    rw [← hy1, delM_erase hn hj, List.length_eraseIdx_of_lt hlt]
    simp
    omega
theorem nodup_set {l : List (Int × α)} (hn : (l.map (·.1)).Nodup) (s : Int) (b : α) : ((setM l s b).map (·.1)).Nodup := by
  unfold setM
  split
  · rw [List.map_map, show ((fun x : Int × α => x.1) ∘ fun x => if x.1 = s then (s, b) else x) = fun x => x.1 from by
      funext x
      simp only [Function.comp_apply]
      by_cases h : x.1 = s <;> simp [h]]
    exact hn
  · rename_i h
    rw [List.map_append, List.nodup_append]
    refine ⟨hn, by simp, fun x hx y hy e => ?_⟩
    obtain ⟨z, hz, rfl⟩ := List.mem_map.1 hx
    rw [List.map_singleton, List.mem_singleton] at hy
    obtain ⟨j, hj⟩ := List.getElem?_of_mem hz
    have := getM_at hn hj
    rw [e, hy] at this
    exact h (by rw [this]; rfl)
theorem nodup_del {l : List (Int × α)} (hn : (l.map (·.1)).Nodup) (s : Int) : ((delM l s).map (·.1)).Nodup := List.Sublist.nodup ((List.filter_sublist).map _) hn
end
end Go.Proofs.YtgofmnhfajmbfaaGreatDoor.IM

namespace Go.Proofs.YtgofmnhfajmbfaaGreatDoor
open Go Go.RowKit Txt Sp

/-- The slice v holds the values of l, each told by f in so many cells, in a block of its own from base on. -/
def OwnR {α : Type} (e : TypeId) (size : Nat) (f : α → List Value) (base : Nat) (w : World) (v : Value) (l : List α) : Prop := w.ownsRow base e size v l.length (l.flatMap f)
def textC (s : ByteArray) : List Value := [.string s]
section
variable {α : Type} {e : TypeId} {size : Nat} {f : α → List Value}
theorem OwnR.void (base : Nat) (w : World) : OwnR e size f base w (.slice none 0 0) [] := ⟨by simp, Or.inl ⟨rfl, rfl⟩⟩
theorem OwnR.below {n : Nat} {w w' : World} {v : Value} {l : List α} (h : OwnR e size f n w v l) (hb : Below w.heap.size w w') : OwnR e size f n w' v l := by
  obtain ⟨h1, h2⟩ := h
  refine ⟨h1, h2.imp_right ?_⟩
  rintro ⟨g, cap, cur, hv, hg, hh, h3⟩
  exact ⟨g, cap, cur, hv, hg, heapOld hb hh, h3⟩
theorem OwnR.form {n : Nat} {w : World} {v : Value} {l : List α} (h : OwnR e size f n w v l) : ∃ ad cap, v = .slice ad l.length cap := by
  obtain ⟨_, ⟨rfl, h0⟩ | ⟨g, cap, cur, rfl, _⟩⟩ := h
  · exact ⟨none, 0, by rw [h0]⟩
  · exact ⟨_, _, rfl⟩
theorem OwnR.mono {n m : Nat} {w : World} {v : Value} {l : List α} (h : OwnR e size f n w v l) (hm : m ≤ n) : OwnR e size f m w v l := by
  obtain ⟨h1, h2⟩ := h
  refine ⟨h1, h2.imp_right ?_⟩
  rintro ⟨g, cap, cur, hv, hg, h3⟩
  exact ⟨g, cap, cur, hv, by omega, h3⟩
/-- A block as it was made holds a row. -/
theorem OwnR.block {base b : Nat} {w : World} {l : List α} {cs : Array Value} (h : w.heap[b]? = some (.cells cs e (0, 0))) (hc : cs.toList = l.flatMap f) (hl : cs.size = l.length * size) (hb : base ≤ b) (hm : l.length ≤ maxLen) : OwnR e size f base w (.slice (some ⟨b, 0, none⟩) l.length l.length) l := by
  refine ⟨by rw [← hc, Array.length_toList, hl], Or.inr ⟨b, l.length, cs, rfl, hb, h, Nat.le_refl _, hm, hl, ?_⟩⟩
  rw [← hc, List.take_of_length_le (by rw [Array.length_toList, hl]; exact Nat.le_refl _)]
theorem OwnR.snoc {base : Nat} {w : World} {l : List α} {v : Value} {x : α} {cs : List Value} {n : Nat} (h : w.ownsRow base e size v n (l.flatMap f ++ cs)) (hx : f x = cs) (hn : n = l.length + 1) : OwnR e size f base w v (l ++ [x]) := by
  subst hn
  unfold OwnR
  rw [List.length_append, List.flatMap_append, List.flatMap_cons, List.flatMap_nil, List.append_nil, hx]
  exact h
theorem OwnR.row {base : Nat} {w : World} {l : List α} {v : Value} (hf : ∀ x ∈ l, (f x).length = size) (h : OwnR e size f base w v l) : RowAt w v size (l.map f) :=
  RowAt.own (base := base) (e := e) (fun x hx => by
    obtain ⟨y, hy, rfl⟩ := List.mem_map.1 hx
    exact hf y hy) (by
    rw [List.length_map, List.flatten_eq_flatMap, List.flatMap_map]
    exact h)
end
end Go.Proofs.YtgofmnhfajmbfaaGreatDoor

namespace Go.Proofs.YtgofmnhfajmbfaaGreatDoor
open Go Go.RowKit Txt Sp

def pt (b : Nat) : Value := .pointer (some ⟨b, 0, none⟩)
def intC (n : Int) : List Value := [.int .i64 n]
def chgC (x : Chg × Value) : List Value := [.int .i64 x.1.num, .int .i64 x.1.at_, .int .i64 x.1.off, .string x.1.bytes, x.2, .int .i64 x.1.state]
def wrV (x : Wr) : Value := .agg #[.int .i64 x.node, .int .i64 x.epoch, .int .i64 x.at_, .string x.s]
def intV (n : Int) : Value := .int .i64 n
def softO (c d : Nat) (node epoch : Int) (fm : Nat) : Obj := .cells #[pt c, pt d, .int .i64 node, .int .i64 epoch, .map (some fm)] 117 (0, 0)
def depsO (v : Value) (last : Nat) : Obj := .cells #[v, .int .i64 (last : Int)] 207 (0, 0)
def diskO (v : Value) (wm : Nat) (last : Nat) : Obj := .cells #[v, .map (some wm), .int .i64 (last : Int)] 198 (0, 0)

section
variable {α : Type} {e : TypeId} {size : Nat} {f : α → List Value} {base : Nat} {w w' : World} {v : Value} {l : List α} {D D' : Nat → Prop}
/-- A row of one's own outlives what turns elsewhere. -/
theorem OwnR.turn (h : OwnR e size f base w v l) (hT : Turn D w w') (hd : ∀ k, v.ownBlock = some k → ¬ D k) : OwnR e size f base w' v l := by
  obtain ⟨h1, h2⟩ := h
  refine ⟨h1, h2.imp_right ?_⟩
  rintro ⟨g, cap, cur, rfl, hg, hh, h3⟩
  exact ⟨g, cap, cur, rfl, hg, hT.heap hh (hd g rfl), h3⟩
theorem OwnR.lt (h : OwnR e size f base w v l) : ∀ k, v.ownBlock = some k → base ≤ k ∧ k < w.heap.size := by
  rintro k hk
  obtain ⟨_, ⟨rfl, _⟩ | ⟨g, cap, cur, rfl, hg, hh, _⟩⟩ := h
  · cases hk
  · cases hk
    exact ⟨hg, (Array.getElem?_eq_some_iff.1 hh).1⟩
end

/-- A disk at the block B; D: what it takes up. -/
structure DiskAt (w : World) (base B : Nat) (d : Sp.Disk) (D : Nat → Prop) : Prop where
  rep : ∃ v wm, w.heap[B]? = some (diskO v wm d.last) ∧ OwnR 9 1 textC base w v d.l ∧ IM.MapAt wrV w wm d.waits ∧ base ≤ wm ∧ D wm ∧ (∀ k, v.ownBlock = some k → D k)
  own : D B
  low : base ≤ B
/-- Changes at the block B. What they wait for may lie below base, where nothing of one's own turns: a fork has it in common. -/
structure DepsAt (w : World) (base B : Nat) (d : Sp.Deps) (D : Nat → Prop) : Prop where
  rep : ∃ v ps, w.heap[B]? = some (depsO v d.last) ∧ ps.map Prod.fst = d.l ∧ OwnR 209 6 chgC base w v ps ∧ (∀ k, v.ownBlock = some k → D k) ∧
    ∀ x ∈ ps, OwnR 3 1 intC 0 w x.2 x.1.ahead ∧ ∀ k, x.2.ownBlock = some k → D k ∨ k < base
  own : D B
  low : base ≤ B
/-- A side at the block B, of the disk at the block Bd. -/
structure SideAt (w : World) (base B Bd : Nat) (S : Sp.Side) (D : Nat → Prop) : Prop where
  rep : ∃ Bc fm Dd, w.heap[B]? = some (softO Bc Bd S.node S.epoch fm) ∧ DepsAt w base Bc S.deps D ∧ IM.MapAt intV w fm S.fly ∧ base ≤ fm ∧ D fm ∧ ¬ Dd fm ∧ DiskAt w 0 Bd S.disk Dd ∧ ∀ k, Dd k → D k ∨ k < base
  own : D B
  low : base ≤ B
section
variable {w w' : World} {base B Bd : Nat} {D D' K : Nat → Prop}
theorem DiskAt.turn {d : Sp.Disk} (h : DiskAt w base B d D) (hT : Turn K w w') (hk : ∀ k, D k → ¬ K k) : DiskAt w' base B d D := by
  obtain ⟨⟨v, wm, h1, h2, ⟨o, h3, h3'⟩, h4, h5, h6⟩, ho, hl⟩ := h
  exact ⟨⟨v, wm, hT.heap h1 (hk _ ho), h2.turn hT (fun k hv => hk k (h6 k hv)), ⟨o, hT.heap h3 (hk _ h5), h3'⟩, h4, h5, h6⟩, ho, hl⟩
theorem DepsAt.turn {d : Sp.Deps} (h : DepsAt w base B d D) (hT : Turn K w w') (hk : ∀ k, D k → ¬ K k) (hKb : ∀ k, K k → base ≤ k) : DepsAt w' base B d D := by
  obtain ⟨⟨v, ps, h1, h2, h3, h4, h5⟩, ho, hl⟩ := h
  exact ⟨⟨v, ps, hT.heap h1 (hk _ ho), h2, h3.turn hT (fun k hv => hk k (h4 k hv)), h4, fun x hx => ⟨(h5 x hx).1.turn hT (fun k hv hK => ((h5 x hx).2 k hv).elim (fun hd => hk k hd hK) (fun hlt => by have := hKb k hK; omega)), (h5 x hx).2⟩⟩, ho, hl⟩
theorem SideAt.turn {S : Sp.Side} (h : SideAt w base B Bd S D) (hT : Turn K w w') (hk : ∀ k, D k → ¬ K k) (hKb : ∀ k, K k → base ≤ k) : SideAt w' base B Bd S D := by
  obtain ⟨⟨Bc, fm, Dd, h1, h2, ⟨o, h3, h3'⟩, h4, h5, h6, hd, hd'⟩, ho, hl⟩ := h
  exact ⟨⟨Bc, fm, Dd, hT.heap h1 (hk _ ho), h2.turn hT hk hKb, ⟨o, hT.heap h3 (hk _ h5), h3'⟩, h4, h5, h6, hd.turn hT (fun k hv hK => (hd' k hv).elim (fun hd => hk k hd hK) (fun hlt => by have := hKb k hK; omega)), hd'⟩, ho, hl⟩
theorem SideAt.baseLe {S : Sp.Side} (h : SideAt w base B Bd S D) : base ≤ w.heap.size := by
  obtain ⟨⟨Bc, fm, Dd, h1, _⟩, _, hl⟩ := h
  exact Nat.le_trans hl (Nat.le_of_lt (Array.getElem?_eq_some_iff.1 h1).1)
theorem DiskAt.below {d : Sp.Disk} (h : DiskAt w base B d D) (hb : Below w.heap.size w w') : DiskAt w' base B d D := h.turn (K := fun _ => False) (Turn.of_below hb) (fun _ _ h => h)
theorem DepsAt.below {d : Sp.Deps} (h : DepsAt w base B d D) (hb : Below w.heap.size w w') : DepsAt w' base B d D := h.turn (K := fun _ => False) (Turn.of_below hb) (fun _ _ h => h) (fun _ h => h.elim)
theorem SideAt.below {S : Sp.Side} (h : SideAt w base B Bd S D) (hb : Below w.heap.size w w') : SideAt w' base B Bd S D := h.turn (K := fun _ => False) (Turn.of_below hb) (fun _ _ h => h) (fun _ h => h.elim)
theorem DiskAt.mono {d : Sp.Disk} (h : DiskAt w base B d D) (hd : ∀ k, D k → D' k) : DiskAt w base B d D' := by
  obtain ⟨⟨v, wm, h1, h2, h3, h4, h5, h6⟩, ho, hl⟩ := h
  exact ⟨⟨v, wm, h1, h2, h3, h4, hd _ h5, fun k hk => hd k (h6 k hk)⟩, hd _ ho, hl⟩
theorem DiskAt.lower {d : Sp.Disk} (h : DiskAt w base B d D) : DiskAt w 0 B d D := by
  obtain ⟨⟨v, wm, h1, h2, h3, h4, h5, h6⟩, ho, hl⟩ := h
  exact ⟨⟨v, wm, h1, h2.mono (Nat.zero_le _), h3, Nat.zero_le _, h5, h6⟩, ho, Nat.zero_le _⟩
theorem DepsAt.mono {d : Sp.Deps} (h : DepsAt w base B d D) (hd : ∀ k, D k → D' k) : DepsAt w base B d D' := by
  obtain ⟨⟨v, ps, h1, h2, h3, h4, h5⟩, ho, hl⟩ := h
  exact ⟨⟨v, ps, h1, h2, h3, fun k hk => hd k (h4 k hk), fun x hx => ⟨(h5 x hx).1, fun k hk => ((h5 x hx).2 k hk).imp_left (hd k)⟩⟩, hd _ ho, hl⟩
end
end Go.Proofs.YtgofmnhfajmbfaaGreatDoor

namespace Go.Proofs.YtgofmnhfajmbfaaGreatDoor
open Go Go.RowKit Txt Sp

theorem textC_map (l : List ByteArray) : l.flatMap textC = l.map Value.string := by
  induction l with
  | nil => rfl
  | cons x r ih => rw [List.flatMap_cons, ih]; rfl
theorem own_texts {base : Nat} {w : World} {v : Value} {l : List ByteArray} (h : OwnR 9 1 textC base w v l) : OwnTexts base w v l := by
  unfold OwnR at h
  rw [textC_map] at h
  exact ⟨_, h⟩
/-- A disk, opened: its row's length and cells. -/
theorem DiskAt.open {w : World} {base B : Nat} {d : Sp.Disk} {D : Nat → Prop} (h : DiskAt w base B d D) : ∃ (ad : Option Addr) (n cap : Nat), w.cell? ⟨B, 0, none⟩ = some (.slice ad n cap) ∧ Hid (n = d.l.length) ∧ n ≤ 9223372036854775807 ∧
    Hid (∀ j, j < n → ∃ b off x, ad = some ⟨b, off, none⟩ ∧ b < w.heap.size ∧ d.l[j]? = some x ∧ w.cell? ⟨b, off + j, none⟩ = some (.string x)) := by
  obtain ⟨⟨v, wm, h1, h2, _⟩, _, _⟩ := h
  obtain ⟨ad, n, cap, rfl, a1, a2, a3⟩ := texts_facts (own_texts h2).texts
  exact ⟨ad, n, cap, cellOf (k := 0) h1 rfl, a1, a2, a3⟩
theorem diskSize_any {w : World} {base B : Nat} {d : Sp.Disk} {D : Nat → Prop} (h : DiskAt w base B d D) :
    Calls Tryz.prog 54 #[pt B] w fun e w' => e = .returned (.int .i64 (d.l.length : Int)) ∧ w' = w := by
  obtain ⟨ad, n, cap, c0, HN, hn, -⟩ := h.open
  have hn2 := HN.out
  rw [← hn2]
  clear hn2
  unfold pt
  go_enter Tryz.func54, Tryz.ntmps54
  go_wp2
  go_ret
  exact ⟨rfl, rfl⟩
section
set_option maxRecDepth 20000 in
theorem diskRead_any {w : World} {base B : Nat} {d : Sp.Disk} {D : Nat → Prop} (h : DiskAt w base B d D) (i : Int) :
    Calls Tryz.prog 94 #[pt B, .int .i64 i] w fun e w' => e = .returned (.tuple #[.string (d.read i), .int .i64 (d.readC i)]) ∧ w' = w := by
  obtain ⟨ad, n, cap, c0, HN, hn, HF⟩ := h.open
  have hnl := HN.out
  have hh : d.has i ↔ 0 ≤ i ∧ i < (n : Int) := by rw [hnl]; exact Iff.rfl
  unfold Sp.Disk.read Sp.Disk.readC
  unfold pt
  by_cases h0 : i < 0
  · have q0 : decide (i < 0) = true := decide_eq_true h0
    rw [if_neg (fun h => by have := hh.1 h; omega), if_neg (fun h => by have := hh.1 h; omega)]
    clear hnl h hh
    go_enter Tryz.func94, Tryz.ntmps94
    go_wp2
    go_ret2
    exact ⟨rfl, rfl⟩
  have q0 : decide (i < 0) = false := decide_eq_false h0
  by_cases h1 : (n : Int) ≤ i
  · have q1 : decide (i ≥ (n : Int)) = true := decide_eq_true h1
    rw [if_neg (fun h => by have := hh.1 h; omega), if_neg (fun h => by have := hh.1 h; omega)]
    clear hnl h hh
    go_enter Tryz.func94, Tryz.ntmps94
    go_wp2
    go_ret2
    exact ⟨rfl, rfl⟩
  have q1 : decide (i ≥ (n : Int)) = false := decide_eq_false h1
  rw [if_pos (hh.2 (by omega)), if_pos (hh.2 (by omega))]
  obtain ⟨k, rfl⟩ : ∃ k : Nat, i = (k : Int) := ⟨i.toNat, by omega⟩
  have hk : k < n := by omega
  obtain ⟨b, o, x, rfl, hb, hx, hc⟩ := HF.out k hk
  have hg : d.get (k : Int) = x := by
    unfold Sp.Disk.get
    rw [Int.toNat_natCast, List.getD_eq_getElem?_getD, hx]
    rfl
  rw [hg]
  clear hg hx hb hnl h h0 hh
  go_enter Tryz.func94, Tryz.ntmps94
  go_wp2
  go_ret2
  exact ⟨rfl, rfl⟩
/-- Places that rows of a type take up. -/
def OfType (e : TypeId) (w : World) (K : Nat → Prop) : Prop := ∀ k, K k → ∃ cs fr, w.heap[k]? = some (.cells cs e fr)
theorem OfType.not {e e' : TypeId} {w : World} {K : Nat → Prop} (h : OfType e w K) {k : Nat} {cs : Array Value} {fr : Nat × Nat} (hk : w.heap[k]? = some (.cells cs e' fr)) (hne : e' ≠ e) : ¬ K k := fun hK => by
  obtain ⟨cs', fr', h'⟩ := h k hK
  rw [hk] at h'
  cases h'
  exact hne rfl
theorem OfType.notMap {e : TypeId} {w : World} {K : Nat → Prop} (h : OfType e w K) {α : Type} {enc : α → Value} {k : Nat} {l : List (Int × α)} (hm : IM.MapAt enc w k l) : ¬ K k := fun hK => by
  obtain ⟨cs', fr', h'⟩ := h k hK
  obtain ⟨o, ho, es, cl, rfl, _⟩ := hm
  rw [ho] at h'
  cases h'
theorem diskWrong_any {w : World} {base B : Nat} {d : Sp.Disk} {D : Nat → Prop} (h : DiskAt w base B d D) (i : Int) (s : ByteArray) :
    Calls Tryz.prog 126 #[pt B, .int .i64 i, .string s] w fun e w' => e = .returned (.int .i64 (d.layC i s)) ∧ w' = w := by
  obtain ⟨ad, n, cap, c0, HN, hn, HF⟩ := h.open
  have hnl := HN.out
  have hh : d.has i ↔ 0 ≤ i ∧ i < (n : Int) := by rw [hnl]; exact Iff.rfl
  unfold Sp.Disk.layC
  unfold pt
  by_cases h0 : i < 0
  · have q0 : decide (i < 0) = true := decide_eq_true h0
    rw [if_neg (fun h => by have := hh.1 h; omega)]
    clear hnl h hh
    go_enter Tryz.func126, Tryz.ntmps126
    go_wp2
    go_ret
    exact ⟨rfl, rfl⟩
  have q0 : decide (i < 0) = false := decide_eq_false h0
  by_cases h1 : (n : Int) ≤ i
  · have q1 : decide (i ≥ (n : Int)) = true := decide_eq_true h1
    rw [if_neg (fun h => by have := hh.1 h; omega)]
    clear hnl h hh
    go_enter Tryz.func126, Tryz.ntmps126
    go_wp2
    go_ret
    exact ⟨rfl, rfl⟩
  have q1 : decide (i ≥ (n : Int)) = false := decide_eq_false h1
  rw [if_pos (hh.2 (by omega))]
  by_cases h2 : s.size = 64
  · have q2 : ((s.size : Int) != 64) = false := bne_eq_false_iff_eq.2 (by omega)
    rw [if_pos h2]
    clear hnl h hh h2
    go_enter Tryz.func126, Tryz.ntmps126
    go_wp2
    go_ret
    exact ⟨rfl, rfl⟩
  · have q2 : ((s.size : Int) != 64) = true := bne_iff_ne.2 (by omega)
    rw [if_neg h2]
    clear hnl h hh h2
    go_enter Tryz.func126, Tryz.ntmps126
    go_wp2
    go_ret
    exact ⟨rfl, rfl⟩
theorem lay_stored {w : World} {base B : Nat} {d : Sp.Disk} {D : Nat → Prop} (h : DiskAt w base B d D) {k : Nat} (hk : k < d.l.length) (s : ByteArray) :
    ∃ g cap, w.cell? ⟨B, 0, none⟩ = some (.slice (some ⟨g, 0, none⟩) d.l.length cap) ∧ (w.cell? ⟨g, k, none⟩).isSome ∧ w.frozen? ⟨g, k, none⟩ = false ∧ D g ∧ base ≤ g ∧ OfType 9 w (fun j => j = g) ∧
      DiskAt (w.setCell ⟨g, k, none⟩ (.string s)) base B { d with l := d.l.set k s } D ∧ Turn (fun j => j = g) w (w.setCell ⟨g, k, none⟩ (.string s)) := by
  obtain ⟨⟨v, wm, h1, h2, ⟨o, h3, h3'⟩, h4, h5, h6⟩, ho, hl⟩ := h
  have h2' := h2
  obtain ⟨hx, ⟨rfl, h0⟩ | ⟨g, cap, cur, rfl, hg, hh, hnc, hm, hcs, ht⟩⟩ := h2'
  · omega
  have hkc : k < cur.size := by omega
  have hty : OfType 9 w (fun j => j = g) := by rintro j rfl; exact ⟨_, _, hh⟩
  have hBg : B ≠ g := fun e => by rw [e, hh] at h1; cases h1
  have hwg : wm ≠ g := fun e => by rw [e, hh] at h3; cases h3; obtain ⟨es, cl, e2, _⟩ := h3'; cases e2
  have hT : Turn (fun j => j = g) w (w.setCell ⟨g, k, none⟩ (.string s)) := by
    refine ⟨rfl, rfl, rfl, by rw [World.size_setCell]; exact Nat.le_refl _, fun j hj hne => ?_⟩
    simp [World.setCell, Array.getElem?_modify, Ne.symm hne]
  have hst := (World.ownsRow.stored h2 k (.string s)).1
  refine ⟨g, cap, cellOf (k := 0) h1 rfl, ?_, freeOf hh, h6 g rfl, hg, hty, ⟨⟨_, wm, hT.heap h1 hBg, ?_, ⟨o, hT.heap h3 hwg, h3'⟩, h4, h5, h6⟩, ho, hl⟩, hT⟩
  · rw [World.cell?]
    simp [hh, hkc]
  · unfold OwnR
    rw [textC_map, List.map_set, ← textC_map]
    simpa using hst
theorem diskLay_any {w : World} {base B : Nat} {d : Sp.Disk} {D : Nat → Prop} (h : DiskAt w base B d D) (i : Int) (s : ByteArray) :
    Calls Tryz.prog 55 #[pt B, .int .i64 i, .string s] w fun e w' => e = .returned (.int .i64 (d.layC i s)) ∧ DiskAt w' base B (d.lay i s) D ∧ ∃ K, (∀ j, K j → D j) ∧ OfType 9 w K ∧ Turn K w w' := by
  have hwr := fun W : World => fun (hW : DiskAt W base B d D) => diskWrong_any hW i s
  by_cases hc : d.layC i s = 0
  · have hh : d.has i := by
      unfold Sp.Disk.layC at hc
      by_cases h : d.has i
      · exact h
      · rw [if_neg h] at hc; exact absurd hc (by decide)
    obtain ⟨k, rfl⟩ : ∃ k : Nat, i = (k : Int) := ⟨i.toNat, by unfold Sp.Disk.has at hh; omega⟩
    have hk : k < d.l.length := by unfold Sp.Disk.has at hh; omega
    obtain ⟨g, cap, c0, hs, hf, hD, hb, hty, hd, hT⟩ := lay_stored h hk s
    have hl : d.lay (k : Int) s = { d with l := d.l.set k s } := by unfold Sp.Disk.lay; rw [if_pos hc, Int.toNat_natCast]
    rw [hl, hc]
    have hw := hwr w h
    rw [hc] at hw
    obtain ⟨n, hn⟩ : ∃ n, d.l.length = n := ⟨_, rfl⟩
    rw [hn] at c0 hk
    obtain ⟨x, hx⟩ := Option.isSome_iff_exists.1 hs
    have HF := Lib.hid (show DiskAt (w.setCell ⟨g, k, none⟩ (.string s)) base B { d with l := d.l.set k s } D ∧ ∃ K, (∀ j, K j → D j) ∧ OfType 9 w K ∧ Turn K w (w.setCell ⟨g, k, none⟩ (.string s)) from ⟨hd, fun j => j = g, fun j e => e ▸ hD, hty, hT⟩)
    have HW := Lib.hid hw
    unfold pt at HW ⊢
    clear hwr hw hd hT hty hb hD hs hl hh hc hn h
    go_enter Tryz.func55, Tryz.ntmps55
    go_wp2_with fail
    refine HW.out.mono ?_
    rintro e w1 ⟨rfl, hw1⟩
    subst hw1
    go_wp2
    go_ret
    exact ⟨rfl, HF.out⟩
  · have hl : d.lay i s = d := by unfold Sp.Disk.lay; rw [if_neg hc]
    rw [hl]
    have hw := hwr w h
    obtain ⟨c, hcc⟩ : ∃ c, d.layC i s = c := ⟨_, rfl⟩
    rw [hcc] at hw hc ⊢
    have HF := Lib.hid (show DiskAt w base B d D ∧ ∃ K, (∀ j, K j → D j) ∧ OfType 9 w K ∧ Turn K w w from ⟨h, fun _ => False, fun _ h => h.elim, fun _ h => h.elim, Turn.refl _ _⟩)
    have q1 : (c == 0) = false := beq_eq_false_iff_ne.2 hc
    have HW := Lib.hid hw
    unfold pt at HW ⊢
    clear hwr hw hcc h hl
    go_enter Tryz.func55, Tryz.ntmps55
    go_wp2_with fail
    refine HW.out.mono ?_
    rintro e w1 ⟨rfl, hw1⟩
    subst hw1
    go_wp2
    go_ret
    exact ⟨rfl, HF.out⟩
end
end Go.Proofs.YtgofmnhfajmbfaaGreatDoor

namespace Go.Proofs.YtgofmnhfajmbfaaGreatDoor
open Go Go.RowKit Txt Sp

theorem setCell_turn {w : World} {b k : Nat} {v : Value} : Turn (fun j => j = b) w (w.setCell ⟨b, k, none⟩ v) :=
  ⟨rfl, rfl, rfl, by rw [World.size_setCell]; exact Nat.le_refl _, fun j hj hne => by simp [World.setCell, Array.getElem?_modify, Ne.symm hne]⟩
/-- Where a sector of a disk stands, in each world behind. -/
theorem lay_stands {w : World} {base B : Nat} {d : Sp.Disk} {D : Nat → Prop} (h : DiskAt w base B d D) {k : Nat} (hk : k < d.l.length) (s : ByteArray) : ∃ g cap, ∀ W, Below w.heap.size w W →
    W.cell? ⟨B, 0, none⟩ = some (.slice (some ⟨g, 0, none⟩) d.l.length cap) ∧ (∃ x, W.cell? ⟨g, k, none⟩ = some x) ∧ W.frozen? ⟨g, k, none⟩ = false ∧ DiskAt (W.setCell ⟨g, k, none⟩ (.string s)) base B { d with l := d.l.set k s } D ∧ Turn (fun j => j = g) W (W.setCell ⟨g, k, none⟩ (.string s)) ∧ D g := by
  obtain ⟨g, cap, c0, _⟩ := lay_stored h hk s
  refine ⟨g, cap, fun W hW => ?_⟩
  obtain ⟨g', cap', c0', h1, h2, h3, h4, h5, h6, h7⟩ := lay_stored (h.below hW) hk s
  have hlt : B < w.heap.size := by
    obtain ⟨⟨v, wm, h1, _⟩, _, _⟩ := h
    exact (Array.getElem?_eq_some_iff.1 h1).1
  have he := (hW.cell (p := ⟨B, 0, none⟩) hlt).trans c0
  rw [c0'] at he
  cases he
  exact ⟨c0', Option.isSome_iff_exists.1 h1, h2, h6, h7, h3⟩
section
set_option maxHeartbeats 2000000
set_option maxRecDepth 20000 in
theorem diskNew_no (w : World) (n : Int) (h : ¬ (2 ≤ n ∧ n ≤ 2048)) : Calls Tryz.prog 59 #[.int .i64 n] w fun e w' => e = .returned (.tuple #[.pointer none, .int .i64 1]) ∧ w' = w := by
  by_cases h1 : n < 2
  · have q1 : decide (n < 2) = true := decide_eq_true h1
    clear h
    go_enter Tryz.func59, Tryz.ntmps59
    go_wp2
    go_ret2
    exact ⟨rfl, rfl⟩
  · have q1 : decide (n < 2) = false := decide_eq_false h1
    have q2 : decide (n > 2048) = true := decide_eq_true (by omega)
    clear h
    go_enter Tryz.func59, Tryz.ntmps59
    go_wp2
    go_ret2
    exact ⟨rfl, rfl⟩
set_option maxRecDepth 20000 in
theorem diskNew_any (w : World) (n : Nat) (h2 : 2 ≤ n) (hn : n ≤ 2048) : Calls Tryz.prog 59 #[.int .i64 (n : Int)] w fun e w' =>
    ∃ B D, e = .returned (.tuple #[pt B, .int .i64 0]) ∧ DiskAt w' w.heap.size B (newDisk n) D ∧ Below w.heap.size w w' ∧ ∀ j, D j → w.heap.size ≤ j ∧ j < w'.heap.size := by
  have q1 : decide ((n : Int) < 2) = false := decide_eq_false (by omega)
  have q2 : decide ((n : Int) > 2048) = false := decide_eq_false (by omega)
  have hmm := @run_makeMap Tryz.prog
  have hbl := fun W : World => fblank_any W
  have hfe := fun W : World => show Calls Tryz.prog 37 #[.agg #[.int .i64 0, .int .i64 0]] W (fun e w' => e = .returned (.tuple #[.string (wallB 0 0), .int .i64 0]) ∧ Below W.heap.size W w') from sfence_any W 0 0 (by decide) (by decide)
  obtain ⟨BK, hBK⟩ : ∃ b, Sp.blank = b := ⟨_, rfl⟩
  simp only [hBK] at hbl
  obtain ⟨FE, hFE⟩ : ∃ b, wallB 0 0 = b := ⟨_, rfl⟩
  simp only [hFE] at hfe
  have HEnd : Hid (newDisk n = ⟨(List.replicate n BK).set 1 FE, [], 0⟩) := by show _ = _; unfold newDisk; rw [hBK, hFE]
  obtain ⟨ia, ib, ic, id, ie⟩ := info_parts Tryz.infoText
  obtain ⟨W1, hW1⟩ : ∃ W, (w.alloc (.map #[] 0)).alloc (.cells #[.slice none 0 0, .map (some w.heap.size), .int .i64 0] 198) = W := ⟨_, rfl⟩
  have HB1 : Hid (Below w.heap.size w W1) := by rw [← hW1]; exact bl1 (bl1 (Below.refl _ _) _) _
  have HM1 : Hid (W1.heap[w.heap.size]? = some (.map #[] 0)) := by
    rw [← hW1]
    exact heapOld (bl1 (Below.refl _ _) _) (heap_alloc_new w _)
  have HD1 : Hid (W1.heap[w.heap.size + 1]? = some (diskO (.slice none 0 0) w.heap.size 0)) := by
    rw [← hW1]
    have := heap_alloc_new (w.alloc (.map #[] 0)) (.cells #[.slice none 0 0, .map (some w.heap.size), .int .i64 0] 198)
    rw [show (w.alloc (.map #[] 0)).heap.size = w.heap.size + 1 by simp] at this
    exact this
  have HS1 : Hid (w.heap.size + 2 ≤ W1.heap.size) := by rw [← hW1]; show w.heap.size + 2 ≤ _; simp
  have HBL := Lib.hid hbl
  have HFE := Lib.hid hfe
  clear hbl hfe
  clear hBK hFE
  go_enter Tryz.func59, Tryz.ntmps59
  go_wp2_with fail
  clear hW1
  obtain ⟨BW, hBW⟩ : ∃ b, w.heap.size = b := ⟨_, rfl⟩
  rw [hBW] at HM1 HD1 HS1
  go_loopw [15] (fun i wr => ∃ (k : Nat) (v : Value), k ≤ n ∧ i = .int .i64 (k : Int) ∧ Hid (wr.heap[w.heap.size + 1]? = some (diskO v w.heap.size 0)) ∧ Hid (OwnR 9 1 textC (w.heap.size + 2) wr v (List.replicate k BK)) ∧ Hid (wr.heap[w.heap.size]? = some (.map #[] 0)) ∧ Hid (Below w.heap.size w wr) ∧ Hid (w.heap.size + 2 ≤ wr.heap.size)) (fun i _ => n - (intOf i).toNat)
  case atStart => rw [hBW]; exact ⟨0, _, Nat.zero_le _, rfl, HD1, OwnR.void _ _, HM1, by rw [← hBW]; exact HB1, HS1⟩
  case round =>
    obtain ⟨k, v, hk, rfl, HD, HO, HM, HB, HS⟩ := hrel
    clear hBW HM1 HD1 HS1 HB1
    by_cases hlt : k < n
    · have c0 := cellOf (k := 0) HD.out rfl
      obtain ⟨vad, vcap, hvf⟩ := HO.out.form
      rw [List.length_replicate] at hvf
      have HV := Lib.hid hvf
      clear hvf
      go_upto_region 6 with fail
      go_region_law (first
        | (refine step_append_lies _ (by rfl) _ _ _ (by rfl) (w.heap.size + 2) 9 ia _ 1 16 Tryz.underlying24 ib ic id ie rfl (by decide) v k ((List.replicate k BK).flatMap textC) (by rfl) (by have h := OwnR.below HO.out (HB2.out); unfold OwnR at h; rw [List.length_replicate] at h; exact h.alloc _) ⟨w2.heap.size, 0, none⟩ 1 1 [.string BK] (by rfl) (by rfl) (World.news_of_block (cs := #[.string BK]) (t := 9) (fr := (0, 0)) (heapNew w2 _)) (by simp [Value.oneCell']) (by decide) ?a1 ?a2 ?a3 (w2.heap.size + 1) (by simp) ?_
           case a1 => unfold maxLen; omega
           case a2 => omega
           case a3 => have := HB2.out.size; have := HS.out; simp; omega
           intro g4 cap4 w4 hown4 hgrow4 hat4 hlt4
           have HO4 := Lib.hid hown4
           have HG4 := Lib.hid hgrow4
           have HD4 : Hid (w4.heap[w.heap.size + 1]? = some (diskO v w.heap.size 0)) := (hgrow4.block (w.heap.size + 1) (by have := HB2.out.size; have := HS.out; simp; omega) (fun e => by have := (OwnR.lt HO.out _ e.symm).1; omega)).trans (heapOld (bl1 HB2.out _) HD.out)
           have HM4 : Hid (w4.heap[w.heap.size]? = some (.map #[] 0)) := (hgrow4.block w.heap.size (by have := HB2.out.size; have := HS.out; simp; omega) (fun e => by have := (OwnR.lt HO.out _ e.symm).1; omega)).trans (heapOld (bl1 HB2.out _) HM.out)
           have HB4 : Hid (Below w.heap.size w w4) := Below.grown (bl1 (blN HB.out HB2.out) _) hgrow4 (bl1 (blN HB.out HB2.out) _).size (fun q hq => by have := (OwnR.lt HO.out _ hq).1; omega)
           have HL4 := Lib.hid hlt4
           have c4 := cellOf (k := 0) HD4.out rfl
           have f4 : w4.frozen? ⟨w.heap.size + 1, 0, none⟩ = false := freeOf HD4.out
           clear hown4 hgrow4 hat4 hlt4)
        | (go_simp
           go_at_call 35
           with_reducible refine (HBL.out _).mono ?_
           rintro e w2 ⟨rfl, hb2⟩
           have HB2 : Hid (Below wr.heap.size wr w2) := blN (blD (Below.refl _ _)) hb2
           have c2 := cellOf (k := 0) (heapOld HB2.out HD.out) rfl
           have c3 : (w2.alloc (.cells #[.string BK] 9)).cell? ⟨w.heap.size + 1, 0, none⟩ = some v := cellOf (k := 0) (heapOld (bl1 HB2.out _) HD.out) rfl
           clear hb2))
      all_goals
        have HDs : Hid ((w4.setCell ⟨w.heap.size + 1, 0, none⟩ (.slice (some ⟨g4, 0, none⟩) (k + 1) cap4)).heap[w.heap.size + 1]? = some (diskO (.slice (some ⟨g4, 0, none⟩) (k + 1) cap4) w.heap.size 0)) := setHeap_at (k := 0) HD4.out _
        have HT : Hid (Turn (fun j => j = w.heap.size + 1) w4 (w4.setCell ⟨w.heap.size + 1, 0, none⟩ (.slice (some ⟨g4, 0, none⟩) (k + 1) cap4))) := setCell_turn
        have HOs : Hid (OwnR 9 1 textC (w.heap.size + 2) (w4.setCell ⟨w.heap.size + 1, 0, none⟩ (.slice (some ⟨g4, 0, none⟩) (k + 1) cap4)) (.slice (some ⟨g4, 0, none⟩) (k + 1) cap4) (List.replicate (k + 1) BK)) := by
          have h := OwnR.snoc (f := textC) (x := BK) HO4.out rfl (by rw [List.length_replicate])
          rw [show List.replicate k BK ++ [BK] = List.replicate (k + 1) BK from (List.replicate_succ' ..).symm] at h
          exact h.turn HT.out (fun q hq e => by have := (h.lt q hq).1; omega)
        have HMs : Hid ((w4.setCell ⟨w.heap.size + 1, 0, none⟩ (.slice (some ⟨g4, 0, none⟩) (k + 1) cap4)).heap[w.heap.size]? = some (.map #[] 0)) := HT.out.heap HM4.out (by omega)
        have HBs : Hid (Below w.heap.size w (w4.setCell ⟨w.heap.size + 1, 0, none⟩ (.slice (some ⟨g4, 0, none⟩) (k + 1) cap4))) := HB4.out.trans (HT.out.below (fun j e => by omega) HB4.out.size)
        have HSs : Hid (w.heap.size + 2 ≤ (w4.setCell ⟨w.heap.size + 1, 0, none⟩ (.slice (some ⟨g4, 0, none⟩) (k + 1) cap4)).heap.size) := by
          show _ ≤ _
          rw [World.size_setCell]
          have := HL4.out
          have h := (OwnR.lt HOs.out g4 rfl).1
          omega
        clear c0 c2 c3 c4 f4
        go_wp2
        go_roundw
        case rel => exact ⟨k + 1, _, by omega, by go_num, HDs, HOs, HMs, HBs, HSs⟩
        case measure => simp [intOf]; omega
    · obtain rfl : k = n := by omega
      have hDA : DiskAt wr w.heap.size (w.heap.size + 1) ⟨List.replicate k BK, [], 0⟩ (fun j => w.heap.size ≤ j ∧ j < wr.heap.size) :=
        ⟨⟨v, w.heap.size, HD.out, HO.out.mono (by omega), ⟨_, HM.out, IM.IsMap.new⟩, Nat.le_refl _, ⟨Nat.le_refl _, by have := HS.out; omega⟩, fun j hj => by have := OwnR.lt HO.out j hj; omega⟩, ⟨by omega, by have := HS.out; omega⟩, by omega⟩
      obtain ⟨g, cap, hst⟩ := lay_stands hDA (k := 1) (by rw [List.length_replicate]; omega) FE
      rw [List.length_replicate] at hst
      have hi1 : (1 : Int) < (k : Int) := by omega
      have hi2 : 1 < k := by omega
      have c0 := (hst wr (Below.refl _ _)).1
      have HSt := Lib.hid hst
      clear hst hDA
      go_wp2_with fail
      go_region_law (first
        | (go_simp
           go_at_call 37
           with_reducible refine (HFE.out _).mono ?_
           rintro e w2 ⟨rfl, hb2⟩
           have HB2 : Hid (Below wr.heap.size wr w2) := blN (blD (Below.refl _ _)) hb2
           obtain ⟨c2, ⟨x2, cx2⟩, f2, hd2, hT2, hg2⟩ := HSt.out w2 HB2.out
           have HD2 := Lib.hid hd2
           have HT2 := Lib.hid hT2
           have HG2 := Lib.hid hg2
           clear hb2 hd2 hT2 hg2))
      all_goals
        have HBs : Hid (Below w.heap.size w (w2.setCell ⟨g, 1, none⟩ (.string FE))) := (blN HB.out HB2.out).trans (HT2.out.below (fun j e => by have := HG2.out; omega) (blN HB.out HB2.out).size)
        clear c0 c2 cx2 f2
        go_wp2
        go_ret2
        refine ⟨_, _, rfl, by rw [HEnd.out]; exact HD2.out, HBs.out, fun j (hj : w.heap.size ≤ j ∧ j < wr.heap.size) => ⟨hj.1, by have := HB2.out.size; rw [World.size_setCell]; omega⟩⟩
end
end Go.Proofs.YtgofmnhfajmbfaaGreatDoor
