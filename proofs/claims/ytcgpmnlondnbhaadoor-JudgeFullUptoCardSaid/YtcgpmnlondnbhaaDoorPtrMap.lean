/-
  A map keyed by pointers to things: looked up, grown. 
-/
import Derived.Test.YtcgpmnlondnbhaaDoorTreeB
namespace Go.Proofs.YtcgpmnlondnbhaaDoor
open Go Go.RowKit Txt Sp

def encP (x : Nat × Nat) : Value × Value := (ptr x.1, ptr x.2)
/-- An object is a map from things to things with these entries. -/
def IsPMap (o : Obj) (l : List (Nat × Nat)) : Prop := ∃ es clock, o = .map es clock ∧ es.toList.map (fun e => (e.key, e.val)) = l.map encP
def PMapAt (w : World) (m : Nat) (l : List (Nat × Nat)) : Prop := ∃ o, w.heap[m]? = some o ∧ IsPMap o l
def getP (l : List (Nat × Nat)) (a : Nat) : Option Nat := (l.find? (fun x => decide (x.1 = a))).map (·.2)
theorem PMapAt.same {w w' : World} {m : Nat} {l : List (Nat × Nat)} (h : PMapAt w m l) (hs : ∀ o, w.heap[m]? = some o → w'.heap[m]? = some o) : PMapAt w' m l :=
  let ⟨o, ho, hm⟩ := h
  ⟨o, hs o ho, hm⟩
theorem PMapAt.lt {w : World} {m : Nat} {l : List (Nat × Nat)} (h : PMapAt w m l) : m < w.heap.size := let ⟨_, ho, _⟩ := h; (Array.getElem?_eq_some_iff.1 ho).1
theorem PMapAt.ne_cells {w : World} {m b : Nat} {l : List (Nat × Nat)} {cs : Array Value} {e : TypeId} {fr : Nat × Nat} (h : PMapAt w m l) (hb : w.heap[b]? = some (.cells cs e fr)) : m ≠ b := by
  obtain ⟨o, ho, es, c, rfl, _⟩ := h
  intro e
  rw [e, hb] at ho
  cases ho
theorem getP_snoc (l : List (Nat × Nat)) (a b c : Nat) (h : getP l a = none) : getP (l ++ [(a, b)]) c = if c = a then some b else getP l c := by
  unfold getP at h ⊢
  rw [Option.map_eq_none_iff] at h
  rw [List.find?_append]
  by_cases hc : c = a
  · subst hc
    rw [h, if_pos rfl]
    simp
  · rw [if_neg hc]
    cases l.find? (fun x => decide (x.1 = c)) with
    | none => simp [Ne.symm hc]
    | some y => simp

/-- A thing lies at a block. -/
def IsThing (w : World) (a : Nat) : Prop := ∃ d n m, w.heap[a]? = some (thingO d n m)
theorem IsThing.same {w w' : World} {a : Nat} (h : IsThing w a) (hs : ∀ o, w.heap[a]? = some o → w'.heap[a]? = some o) : IsThing w' a := let ⟨d, n, m, ho⟩ := h; ⟨d, n, m, hs _ ho⟩

theorem equal_thing {w : World} {a b : Nat} (ha : IsThing w a) (hb : IsThing w b) : (Op.equal 63 (ptr a) (ptr b)).run Tryd.prog w = .ok (decide (a = b)) w := by
  obtain ⟨j, hj, h0⟩ := info_thing
  obtain ⟨da, na, ma, ha⟩ := ha
  obtain ⟨db, nb, mb, hb⟩ := hb
  unfold thingO at ha hb
  by_cases h : a = b
  · subst h
    have h : ∀ d : Nat, (Op.equalIn (d + 1) 63 (ptr a) (ptr a)).run Tryd.prog w = .ok true w := fun d => by
      simp [ptr, Op.equalIn, run_underlying pt_thing, sizeOf, typeInfo, hj, run_sameAddr_same]
    simp [Op.equal, Op.maxDepth, h 9999]
  · have hne : (⟨a, 0, none⟩ : Addr) ≠ ⟨b, 0, none⟩ := fun e => h (congrArg Addr.block e)
    have h2 : ∀ d : Nat, (Op.equalIn (d + 1) 63 (ptr a) (ptr b)).run Tryd.prog w = .ok false w := fun d => by
      simp [ptr, Op.equalIn, run_underlying pt_thing, sizeOf, typeInfo, hj, h0, run_sameAddr_other w hne ha hb]
    simp [Op.equal, Op.maxDepth, h2 9999, h]

theorem asking {w : World} {a : Nat} (ha : IsThing w a) : ∀ (es : List MapEntry) (l : List (Nat × Nat)) (i : Nat), es.map (fun e => (e.key, e.val)) = l.map encP → (∀ x ∈ l, IsThing w x.1) →
    ∃ r, (Instr.findAsking 63 (ptr a) es i).run Tryd.prog w = .ok r w ∧ r.map (·.2) = (getP l a).map ptr
  | [], l, i, he, _ => by
    cases l with
    | nil => exact ⟨none, by simp [Instr.findAsking], rfl⟩
    | cons y r => simp at he
  | e :: es, [], i, he, _ => by simp at he
  | e :: es, y :: l, i, he, hl => by
    rw [List.map_cons, List.map_cons] at he
    injection he with h1 h2
    have hk : e.key = ptr y.1 := congrArg (·.1) h1
    have hv : e.val = ptr y.2 := congrArg (·.2) h1
    have heq := equal_thing ha (hl y (by simp))
    by_cases h : a = y.1
    · rw [decide_eq_true h] at heq
      refine ⟨some (i, e.val), by simp [Instr.findAsking, hk, heq, Result.andThen], ?_⟩
      unfold getP
      rw [List.find?_cons, decide_eq_true h.symm, hv]
      rfl
    · rw [decide_eq_false h] at heq
      obtain ⟨r, hr, hg⟩ := asking ha es l (i + 1) h2 (fun x hx => hl x (List.mem_cons_of_mem _ hx))
      refine ⟨r, by simp [Instr.findAsking, hk, heq, Result.andThen, hr], ?_⟩
      rw [hg]
      unfold getP
      rw [List.find?_cons, decide_eq_false (Ne.symm h)]

theorem now_none (k : Value) : ∀ (es : List MapEntry) (i : Nat) (d : TypeDesc), (∀ x, Instr.sameNow d k x = none) → es ≠ [] → Instr.findNow d k es i = none
  | [], _, _, _, h => absurd rfl h
  | e :: es, i, d, hd, _ => by unfold Instr.findNow; rw [hd]

theorem find_thing {w : World} {a : Nat} (ha : IsThing w a) {es : List MapEntry} {l : List (Nat × Nat)} (he : es.map (fun e => (e.key, e.val)) = l.map encP) (hl : ∀ x ∈ l, IsThing w x.1) :
    ∃ r, (Instr.findKey 63 (ptr a) es).run Tryd.prog w = .ok r w ∧ r.map (·.2) = (getP l a).map ptr := by
  cases es with
  | nil =>
    cases l with
    | nil => exact ⟨none, by simp [Instr.findKey, run_underlying pt_thing, Instr.findNow, Result.andThen], rfl⟩
    | cons y r => simp at he
  | cons e es =>
    obtain ⟨r, hr, hg⟩ := asking ha (e :: es) l 0 he hl
    refine ⟨r, ?_, hg⟩
    have hn := now_none (ptr a) (e :: es) 0 (.pointer 66) (fun x => by unfold Instr.sameNow ptr; rfl) (by simp)
    simp [Instr.findKey, run_underlying pt_thing, hn, Result.andThen, hr]

theorem ht_pmap : Tryd.prog.underlying 83 = some (.map 63 63) := by kernel_rfl
theorem check_thing (w : World) (e : Bool) (n a : Nat) : (Instr.checkKey e (n + 1) 63 (ptr a)).run Tryd.prog w = .ok () w := by
  unfold Instr.checkKey ptr
  simp [run_underlying pt_thing, Result.andThen]

theorem run_lookup_thing {w : World} {m a : Nat} {l : List (Nat × Nat)} (h : PMapAt w m l) (ha : IsThing w a) (hl : ∀ x ∈ l, IsThing w x.1) :
    (Instr.lookup 83 (.map (some m)) (ptr a) false).run Tryd.prog w = .ok (ptrO (getP l a)) w := by
  obtain ⟨o, hb, es, clock, rfl, hen⟩ := h
  obtain ⟨r, hr, hg⟩ := find_thing ha hen hl
  cases hp : getP l a with
  | none =>
    rw [hp] at hg
    cases r with
    | some y => cases hg
    | none => simp [Instr.lookup, run_underlying ht_pmap, MapKept.run_getObj_map hb, check_thing, hr, Result.andThen, ptrO]
  | some c =>
    rw [hp] at hg
    cases r with
    | none => cases hg
    | some y =>
      obtain ⟨i, v⟩ := y
      have hv : v = ptr c := by simpa using hg
      subst hv
      simp [Instr.lookup, run_underlying ht_pmap, MapKept.run_getObj_map hb, check_thing, hr, Result.andThen, ptrO]

theorem run_update_thing {w : World} {m a : Nat} {l : List (Nat × Nat)} (h : PMapAt w m l) (ha : IsThing w a) (hl : ∀ x ∈ l, IsThing w x.1) (hp : getP l a = none) (b : Nat) :
    ∃ o', (Instr.mapUpdate 83 (.map (some m)) (ptr a) (ptr b)).run Tryd.prog w = .ok () (ChangeMaps.setBlock w m o') ∧ IsPMap o' (l ++ [(a, b)]) := by
  obtain ⟨o, hb, es, clock, rfl, hen⟩ := h
  obtain ⟨r, hr, hg⟩ := find_thing ha hen hl
  rw [hp] at hg
  cases r with
  | some y => cases hg
  | none =>
    refine ⟨.map (es.push { key := ptr a, val := ptr b, born := clock }) (clock + 1), ?_, _, _, rfl, ?_⟩
    · simp [Instr.mapUpdate, run_underlying ht_pmap, MapKept.run_getObj_map hb, check_thing, hr, MapKept.run_setObj_map _ hb, Result.andThen, ChangeMaps.setBlock]
    · rw [Array.toList_push, List.map_append, List.map_append, hen]
      rfl
end Go.Proofs.YtcgpmnlondnbhaaDoor
