/-
  Maps from texts to pointers, entry by entry: what a look-up, a store, a deletion and len do. Over any program.
-/
import Derived.Test.YtcgpmnlondnbhaaDoorTxt
import Derived.WalkKit
import Derived.ChangeMaps4
import Derived.Lib.Hide
namespace Go.Proofs.YtcgpmnlondnbhaaDoor
open Go Go.RowKit

def ptr (b : Nat) : Value := .pointer (some ⟨b, 0, none⟩)
def ptrO : Option Nat → Value
  | none => .pointer none
  | some b => ptr b

theorem nodup_of_map {α β : Type} (f : α → β) : ∀ {l : List α}, (l.map f).Nodup → l.Nodup
  | [], _ => by simp
  | x :: r, h => by
    rw [List.map_cons, List.nodup_cons] at h
    rw [List.nodup_cons]
    exact ⟨fun hm => h.1 (List.mem_map.2 ⟨x, hm, rfl⟩), nodup_of_map f h.2⟩

/-- What a list of entries has at a key. -/
def getM (l : List (ByteArray × Nat)) (s : ByteArray) : Option Nat := (l.find? (fun x => decide (x.1 = s))).map (·.2)
def setM (l : List (ByteArray × Nat)) (s : ByteArray) (b : Nat) : List (ByteArray × Nat) := if (getM l s).isSome then l.map (fun x => if x.1 = s then (s, b) else x) else l ++ [(s, b)]
def delM (l : List (ByteArray × Nat)) (s : ByteArray) : List (ByteArray × Nat) := l.filter (fun x => decide (x.1 ≠ s))

def encE (x : ByteArray × Nat) : Value × Value := (.string x.1, ptr x.2)
/-- An object is a map with these entries. -/
def IsMap (o : Obj) (l : List (ByteArray × Nat)) : Prop :=
  ∃ es clock, o = .map es clock ∧ MapKept.Stamped es clock ∧ es.toList.map (fun e => (e.key, e.val)) = l.map encE
def MapAt (w : World) (m : Nat) (l : List (ByteArray × Nat)) : Prop := ∃ o, w.heap[m]? = some o ∧ IsMap o l

theorem IsMap.new : IsMap (.map #[] 0) [] := ⟨#[], 0, rfl, MapKept.stamped_empty 0, rfl⟩

section
variable {es : Array MapEntry} {l : List (ByteArray × Nat)}
theorem ents_key (h : es.toList.map (fun e => (e.key, e.val)) = l.map encE) : ∀ x ∈ es.toList, MapKept.IsKey .string x.key := by
  intro x hx
  have : (x.key, x.val) ∈ l.map encE := by rw [← h]; exact List.mem_map.2 ⟨x, hx, rfl⟩
  obtain ⟨y, _, e⟩ := List.mem_map.1 this
  have := (Prod.mk.inj e).1
  rw [← this]
  trivial
theorem ents_len (h : es.toList.map (fun e => (e.key, e.val)) = l.map encE) : es.size = l.length := by
  have := congrArg List.length h
  simpa using this
theorem ents_at (h : es.toList.map (fun e => (e.key, e.val)) = l.map encE) {j : Nat} {e : MapEntry} (he : es.toList[j]? = some e) : ∃ x, l[j]? = some x ∧ e.key = .string x.1 ∧ e.val = ptr x.2 := by
  have h1 : (es.toList.map (fun e => (e.key, e.val)))[j]? = some (e.key, e.val) := by rw [List.getElem?_map, he]; rfl
  rw [h, List.getElem?_map] at h1
  obtain ⟨x, hx, e1⟩ := Option.map_eq_some_iff.1 h1
  exact ⟨x, hx, (Prod.mk.inj e1).1.symm, (Prod.mk.inj e1).2.symm⟩
theorem ents_keys (h : es.toList.map (fun e => (e.key, e.val)) = l.map encE) : es.toList.map (·.key) = l.map (fun x => Value.string x.1) := by
  have := congrArg (List.map Prod.fst) h
  rw [List.map_map, List.map_map] at this
  exact this
theorem keys_nodup (h : es.toList.map (fun e => (e.key, e.val)) = l.map encE) {clock : Nat} (hs : MapKept.Stamped es clock) : (l.map (·.1)).Nodup := by
  have h1 := hs.2.2
  rw [ents_keys h] at h1
  have : l.map (fun x => Value.string x.1) = (l.map (·.1)).map Value.string := by rw [List.map_map]; rfl
  rw [this] at h1
  exact nodup_of_map _ h1
theorem getM_at (hn : (l.map (·.1)).Nodup) {j : Nat} {x : ByteArray × Nat} (hx : l[j]? = some x) : getM l x.1 = some x.2 := by
  induction l generalizing j with
  | nil => simp at hx
  | cons y r ih =>
    rw [List.map_cons, List.nodup_cons] at hn
    unfold getM
    rw [List.find?_cons]
    cases j with
    | zero =>
      simp at hx
      subst hx
      simp
    | succ j =>
      have hxr : r[j]? = some x := by simpa using hx
      have hne : y.1 ≠ x.1 := fun e => hn.1 (by rw [e]; exact List.mem_map.2 ⟨x, List.mem_of_getElem? hxr, rfl⟩)
      rw [decide_eq_false hne]
      exact ih hn.2 hxr
theorem getM_none {s : ByteArray} (h : ∀ x ∈ l, x.1 ≠ s) : getM l s = none := by
  unfold getM
  rw [List.find?_eq_none.2 (fun x hx => by simp [h x hx])]
  rfl
end

section
variable {P : Program} {w : World} {T K E : TypeId} {m : Nat} {l : List (ByteArray × Nat)}

theorem run_lookup_ptr (ht : P.underlying T = some (.map K E)) (hk : P.underlying K = some .string) (hz : (zeroValue E).run P w = .ok (.pointer none) w) (h : MapAt w m l) (s : ByteArray) :
    (Instr.lookup T (.map (some m)) (.string s) false).run P w = .ok (ptrO (getM l s)) w := by
  obtain ⟨o, hb, es, clock, rfl, hst, hen⟩ := h
  have hkey : MapKept.IsKey .string (.string s) := trivial
  have hn := keys_nodup hen hst
  rcases MapKept.findNow_spec hkey es.toList 0 (ents_key hen) with ⟨h1, h2⟩ | ⟨j, e0, h1, h2, h3⟩
  · have : getM l s = none := getM_none (fun x hx e => by
      obtain ⟨j, hj⟩ := List.getElem?_of_mem hx
      have h4 : (es.toList.map (·.key))[j]? = some (.string s) := by rw [ents_keys hen, List.getElem?_map, hj, ← e]; rfl
      rw [List.getElem?_map] at h4
      obtain ⟨y, hy, e2⟩ := Option.map_eq_some_iff.1 h4
      exact h2 y (List.mem_of_getElem? hy) e2)
    rw [this]
    simp [Instr.lookup, run_underlying ht, MapKept.run_getObj_map hb, MapKept.run_checkKey hk hkey, MapKept.run_findKey hk h1, hz, Result.andThen, ptrO]
  · obtain ⟨x, hx, e1, e2⟩ := ents_at hen h2
    rw [h3] at e1
    have es1 : s = x.1 := by injection e1
    have := getM_at hn hx
    rw [← es1] at this
    rw [this]
    simp [Instr.lookup, run_underlying ht, MapKept.run_getObj_map hb, MapKept.run_checkKey hk hkey, MapKept.run_findKey hk h1, Result.andThen, ptrO, e2]

theorem list_set_ents {j : Nat} {es : List MapEntry} {l : List (ByteArray × Nat)} (h : es.map (fun e => (e.key, e.val)) = l.map encE) {x : ByteArray × Nat} (hx : l[j]? = some x) (hn : (l.map (·.1)).Nodup) (e' : MapEntry) {s : ByteArray} {b : Nat} (hs : s = x.1) (h1 : e'.key = .string s) (h2 : e'.val = ptr b) :
    (es.set j e').map (fun e => (e.key, e.val)) = (l.map (fun y => if y.1 = s then (s, b) else y)).map encE := by
  rw [List.map_set, h, h1, h2]
  apply List.ext_getElem?
  intro i
  rw [List.getElem?_set, List.getElem?_map, List.getElem?_map, List.getElem?_map]
  by_cases hij : j = i
  · subst hij
    have hl := (List.getElem?_eq_some_iff.1 hx).1
    rw [if_pos rfl, if_pos (by simpa using hl), hx]
    simp [hs, encE]
  · rw [if_neg hij]
    cases hy : l[i]? with
    | none => rfl
    | some y =>
      have hne : y.1 ≠ s := by
        intro e
        have a1 : (l.map (·.1))[j]? = some s := by rw [List.getElem?_map, hx, hs]; rfl
        have a2 : (l.map (·.1))[i]? = some s := by rw [List.getElem?_map, hy, ← e]; rfl
        exact hij ((List.getElem?_inj (List.getElem?_eq_some_iff.1 a1).1 hn).1 (a1.trans a2.symm))
      simp [hne]

theorem run_update_ptr (ht : P.underlying T = some (.map K E)) (hk : P.underlying K = some .string) (h : MapAt w m l) (s : ByteArray) (b : Nat) :
    ∃ o', (Instr.mapUpdate T (.map (some m)) (.string s) (ptr b)).run P w = .ok () (ChangeMaps.setBlock w m o') ∧ IsMap o' (setM l s b) := by
  obtain ⟨o, hb, es, clock, rfl, hst, hen⟩ := h
  have hkey : MapKept.IsKey .string (.string s) := trivial
  have hn := keys_nodup hen hst
  rcases MapKept.findNow_spec hkey es.toList 0 (ents_key hen) with ⟨h1, h2⟩ | ⟨j, e0, h1, h2, h3⟩
  · have hnone : getM l s = none := getM_none (fun x hx e => by
      obtain ⟨j, hj⟩ := List.getElem?_of_mem hx
      have h4 : (es.toList.map (·.key))[j]? = some (.string s) := by rw [ents_keys hen, List.getElem?_map, hj, ← e]; rfl
      rw [List.getElem?_map] at h4
      obtain ⟨y, hy, e2⟩ := Option.map_eq_some_iff.1 h4
      exact h2 y (List.mem_of_getElem? hy) e2)
    refine ⟨.map (es.push ⟨.string s, ptr b, clock⟩) (clock + 1), ?_, _, _, rfl, MapKept.stamped_push hst h2, ?_⟩
    · simp [Instr.mapUpdate, run_underlying ht, MapKept.run_getObj_map hb, MapKept.run_checkKey hk hkey, MapKept.run_findKey hk h1, MapKept.run_setObj_map _ hb, Result.andThen, ChangeMaps.setBlock]
    · unfold setM
      rw [hnone]
      simp [hen, encE]
  · obtain ⟨x, hx, e1, e2⟩ := ents_at hen h2
    rw [h3] at e1
    have es1 : s = x.1 := by injection e1
    have hget := getM_at hn hx
    rw [← es1] at hget
    have hj : es[j]? = some e0 := by simpa using h2
    have hkeyf : ∀ e', es[j]? = some e' → ({ e' with key := .string s, val := ptr b } : MapEntry).key = e'.key := fun e' he' => by rw [hj] at he'; cases he'; exact h3.symm
    refine ⟨.map (es.modify j (fun e' => { e' with key := .string s, val := ptr b })) clock, ?_, _, _, rfl, MapKept.stamped_modify hst _ _ (fun _ _ => rfl) (fun e' _ he' => hkeyf e' he'), ?_⟩
    · simp [Instr.mapUpdate, run_underlying ht, MapKept.run_getObj_map hb, MapKept.run_checkKey hk hkey, MapKept.run_findKey hk h1, hj, h3, MapKept.run_keyThatStays hkey, MapKept.run_setObj_map _ hb, Result.andThen, ChangeMaps.setBlock]
    · unfold setM
      rw [hget]
      simp only [Option.isSome_some, if_true]
      rw [Array.toList_modify, ChangeMaps.modify_eq_set _ _ _ _ h2]
      exact list_set_ents hen hx hn _ es1 rfl rfl

theorem delM_erase {l : List (ByteArray × Nat)} (hn : (l.map (·.1)).Nodup) {j : Nat} {x : ByteArray × Nat} (hx : l[j]? = some x) : delM l x.1 = l.eraseIdx j := by
  induction l generalizing j with
  | nil => simp at hx
  | cons y r ih =>
    rw [List.map_cons, List.nodup_cons] at hn
    unfold delM
    cases j with
    | zero =>
      simp at hx
      subst hx
      rw [List.filter_cons, if_neg (by simp), List.eraseIdx_cons_zero]
      exact List.filter_eq_self.2 (fun z hz => by
        have : z.1 ≠ y.1 := fun e => hn.1 (by rw [← e]; exact List.mem_map.2 ⟨z, hz, rfl⟩)
        simp [this])
    | succ j =>
      have hxr : r[j]? = some x := by simpa using hx
      have hne : y.1 ≠ x.1 := fun e => hn.1 (by rw [e]; exact List.mem_map.2 ⟨x, List.mem_of_getElem? hxr, rfl⟩)
      rw [List.filter_cons, if_pos (by simp [hne]), List.eraseIdx_cons_succ]
      congr 1
      exact ih hn.2 hxr
theorem delM_none {l : List (ByteArray × Nat)} {s : ByteArray} (h : ∀ x ∈ l, x.1 ≠ s) : delM l s = l := List.filter_eq_self.2 (fun z hz => by simp [h z hz])

theorem run_delete_ptr {ty : TypeId} (ht : P.underlying T = some (.map K E)) (hk : P.underlying K = some .string) (h : MapAt w m l) (s : ByteArray) :
    ∃ o', (Builtin.delete_ #[T, K] ty #[.map (some m), .string s]).run P w = .ok (.tuple #[]) (ChangeMaps.setBlock w m o') ∧ IsMap o' (delM l s) := by
  obtain ⟨o, hb, es, clock, rfl, hst, hen⟩ := h
  have hkey : MapKept.IsKey .string (.string s) := trivial
  have hn := keys_nodup hen hst
  rcases MapKept.findNow_spec hkey es.toList 0 (ents_key hen) with ⟨h1, h2⟩ | ⟨j, e0, h1, h2, h3⟩
  · have hnone : delM l s = l := delM_none (fun x hx e => by
      obtain ⟨j, hj⟩ := List.getElem?_of_mem hx
      have h4 : (es.toList.map (·.key))[j]? = some (.string s) := by rw [ents_keys hen, List.getElem?_map, hj, ← e]; rfl
      rw [List.getElem?_map] at h4
      obtain ⟨y, hy, e2⟩ := Option.map_eq_some_iff.1 h4
      exact h2 y (List.mem_of_getElem? hy) e2)
    refine ⟨.map es clock, ?_, es, clock, rfl, hst, by rw [hnone]; exact hen⟩
    simp [Builtin.delete_, run_underlying ht, MapKept.run_getObj_map hb, MapKept.run_checkKey hk hkey, MapKept.run_findKey hk h1, MapKept.run_setObj_map _ hb, Result.andThen, ChangeMaps.setBlock]
  · obtain ⟨x, hx, e1, e2⟩ := ents_at hen h2
    rw [h3] at e1
    have es1 : s = x.1 := by injection e1
    have hjl : j < es.toList.length := (List.getElem?_eq_some_iff.1 h2).1
    have hjs : j < es.size := by simpa using hjl
    have hsub : (es.eraseIdxIfInBounds j).toList = es.toList.eraseIdx j := by
      unfold Array.eraseIdxIfInBounds
      rw [dif_pos hjs]
      simp
    refine ⟨.map (es.eraseIdxIfInBounds j) clock, ?_, _, _, rfl, MapKept.stamped_erase hst j, ?_⟩
    · simp [Builtin.delete_, run_underlying ht, MapKept.run_getObj_map hb, MapKept.run_checkKey hk hkey, MapKept.run_findKey hk h1, MapKept.run_setObj_map _ hb, Result.andThen, ChangeMaps.setBlock]
    · rw [hsub, es1, delM_erase hn hx, ChangeMaps.map_eraseIdx, hen, ChangeMaps.map_eraseIdx]

theorem run_len_ptr {ty : TypeId} (h0 : P.underlying T = some (.map (P.mapKeyOf T) (P.mapElemOf T))) (h : MapAt w m l) : (Builtin.len_ #[T] ty #[.map (some m)]).run P w = .ok (.int .i64 l.length) w := by
  obtain ⟨o, hb, es, clock, rfl, hst, hen⟩ := h
  rw [run_len_map w T ty m es clock h0 hb, ents_len hen]
  rfl
end
end Go.Proofs.YtcgpmnlondnbhaaDoor
