/-
  PathA: RangeAt, PtrMap, TreePaths, TreeAll.
-/
import Derived.Test.YtcgpmnlondnbhaaGreatDoorTreeC
import Derived.Test.YtcgpmnlondnbhaaGreatDoorTreeA
import Derived.Maps.RangeWalk
import Derived.Sort.KeysCollected
import Derived.Test.YtcgpmnlondnbhaaGreatDoorTreeB
import Derived.Test.YtcgpmnlondnbhaaGreatDoorPlainA
import Derived.Maps.AppendAt
import Derived.Laws.IdiomRangeMap
import Derived.Sort.OwnSorted
namespace Go.Proofs.YtcgpmnlondnbhaaGreatDoor
open Go Go.RowKit Go.Maps Go.WideMaps Go.WideShapes Go.WideElems

def ptrR : Value → Option (DataW Unit × List MemPlace)
  | .pointer (some ⟨b, 0, none⟩) => some (.lit (.int .i64 (b : Int)), [])
  | _ => none
theorem ptrR_inv (v : Value) (y : DataW Unit × List MemPlace) (h : ptrR v = some y) : ∃ c, v = ptr c := by
  unfold ptrR at h
  split at h
  · exact ⟨_, rfl⟩
  · cases h
theorem ptrR_mk (c : Nat) : ptrR (ptr c) = some (.lit (.int .i64 (c : Int)), []) := rfl
def entD (x : ByteArray × Nat) : Lit × DataW Unit := (.string x.1.data.toList, .lit (.int .i64 (x.2 : Int)))
def dirD (l : List (ByteArray × Nat)) : DataW Unit := .map ((l.map entD).foldr DataW.insert [])

theorem ents_ptr {P : Program} {k : TypeId} (hks : P.underlying k = some .string) {es : List MapEntry} {l : List (ByteArray × Nat)} (h : es.map (fun e => (e.key, e.val)) = l.map encE) (hs : ∀ x ∈ l, x.1.size ≤ maxLen) :
    (∀ x ∈ es, ∃ y, WideElems.rd P k ptrR x = some y) ∧ es.map (WideElems.rg P k ptrR) = l.map entD := by
  induction es generalizing l with
  | nil =>
    cases l with
    | nil => exact ⟨fun x hx => absurd hx (by simp), rfl⟩
    | cons y r => simp at h
  | cons e es ih =>
    cases l with
    | nil => simp at h
    | cons y r =>
      rw [List.map_cons, List.map_cons] at h
      injection h with h1 h2
      obtain ⟨g1, g2⟩ := ih h2 (fun x hx => hs x (List.mem_cons_of_mem _ hx))
      have hkey : e.key = .string y.1 := congrArg (·.1) h1
      have hval : e.val = ptr y.2 := congrArg (·.2) h1
      have hrd : WideElems.rd P k ptrR e = some (entD y) := by
        unfold WideElems.rd
        rw [hkey, hval, keyOf_string_mk hks (hs y (by simp))]
        rfl
      refine ⟨?_, ?_⟩
      · intro x hx
        rcases List.mem_cons.1 hx with rfl | hx
        · exact ⟨_, hrd⟩
        · exact g1 x hx
      · rw [List.map_cons, List.map_cons, WideElems.rg_of hrd, g2]

section
variable {P : Program} {k : TypeId} {w : World} {m : Nat} {l : List (ByteArray × Nat)}
theorem owns_ptr (hks : P.underlying k = some .string) (hm : MapAt w m l) (hs : ∀ x ∈ l, x.1.size ≤ maxLen) (hl : l.length ≤ 1000000) : w.ownsMap P k ptrR m l.length (dirD l) := by
  obtain ⟨o, ho, es, clock, rfl, hst, hen⟩ := hm
  have hsz := ents_len hen
  obtain ⟨h1, h2⟩ := ents_ptr hks hen hs
  exact ⟨es, clock, ho, ⟨by rw [hsz]; exact Nat.le_trans hl (by decide), hst, h1⟩, Nat.le_of_eq hsz, by unfold dirD; rw [← h2]⟩
theorem dir_rising (hks : P.underlying k = some .string) (hm : MapAt w m l) (hs : ∀ x ∈ l, x.1.size ≤ maxLen) (hl : l.length ≤ 1000000) : DataW.rising ((l.map entD).foldr DataW.insert []) = true := by
  obtain ⟨es, clock, ho, F, _, hD⟩ := owns_ptr hks hm hs hl
  have := Maps.fit_rising (string_keyed hks) F
  unfold dirD at hD
  injection hD with hD
  rw [hD]
  exact this
theorem dirD_at (hris : DataW.rising ((l.map entD).foldr DataW.insert []) = true) (hn : (l.map (·.1)).Nodup) {s : ByteArray} {c : Nat} (hk : WideAt.IsKeyLit (.string s.data.toList)) (h : ∀ zd, (dirD l).atKey (.string s.data.toList) zd = .lit (.int .i64 (c : Int))) :
    getM l s = some c := by
  obtain ⟨h1, h2⟩ := atKey_sorted (l.map entD) hris (.string s.data.toList) hk
  by_cases he : ∃ x ∈ l, x.1 = s
  · obtain ⟨x, hx, rfl⟩ := he
    have h3 := h2 (entD x) (List.mem_map.2 ⟨x, hx, rfl⟩) rfl .nil
    have h4 := (h .nil).symm.trans h3
    have hc : (c : Int) = (x.2 : Int) := by
      unfold entD at h4
      injection h4 with h4
      injection h4
    obtain ⟨j, hj⟩ := List.getElem?_of_mem hx
    rw [getM_at hn hj]
    congr 1
    omega
  · have h3 := h1 (fun p hp e => by
      obtain ⟨x, hx, rfl⟩ := List.mem_map.1 hp
      exact he ⟨x, hx, Txt.ext (by unfold entD at e; injection e)⟩) .nil
    have h4 := (h .nil).symm.trans h3
    cases h4
theorem dirD_has (s : ByteArray) : Maps.has (dirD l) (.string s.data.toList) = true ↔ (getM l s).isSome := by
  rw [getM_mem]
  unfold dirD Maps.has
  rw [List.any_eq_true]
  constructor
  · rintro ⟨p, hp, hk⟩
    obtain ⟨x, hx, rfl⟩ := List.mem_map.1 (mem_sorted.1 hp)
    have := WideAt.sameKey_eq hk
    refine List.mem_map.2 ⟨x, hx, Txt.ext ?_⟩
    unfold entD at this
    injection this
  · intro hs
    obtain ⟨x, hx, rfl⟩ := List.mem_map.1 hs
    exact ⟨entD x, mem_sorted.2 (List.mem_map.2 ⟨x, hx, rfl⟩), by unfold entD; simp [Lit.sameKey]⟩
end

/-- A range over a directory's map under way: which names are still to come. -/
def Ranging (w : World) (b r : Nat) (l : List (ByteArray × Nat)) (left : ByteArray → Prop) (cnt : Nat) : Prop :=
  ∃ lf : Lit → Bool, w.ranges Tryz.prog 9 ptrR b r l.length (dirD l) lf cnt ∧ ∀ s : ByteArray, lf (.string s.data.toList) = true ↔ left s
theorem Ranging.kept {w w' : World} {b r : Nat} {l : List (ByteArray × Nat)} {left : ByteArray → Prop} {cnt : Nat} {row : Option Nat} (h : Ranging w b r l left cnt) (hg : w.grownBy w' row) (hb : some b ≠ row) (hr : some r ≠ row) : Ranging w' b r l left cnt :=
  let ⟨lf, h1, h2⟩ := h
  ⟨lf, h1.kept hg hb hr, h2⟩
theorem Ranging.lt {w : World} {b r : Nat} {l : List (ByteArray × Nat)} {left : ByteArray → Prop} {cnt : Nat} (h : Ranging w b r l left cnt) : r < w.heap.size := let ⟨_, h1, _⟩ := h; h1.lt
theorem Ranging.left_eq {w : World} {b r : Nat} {l : List (ByteArray × Nat)} {left : ByteArray → Prop} {cnt : Nat} (h : Ranging w b r l left cnt) : w.rangeLeft b r = cnt := let ⟨_, h1, _⟩ := h; h1.left_eq

theorem law_dir : Keyed Tryz.prog 9 := string_keyed Tryz.underlying9

section
variable {w : World} {ops : Array Oper} {rest : List Oper} {o : Oper} {a : Act} {Q : Exit → Act → World → Prop}
theorem wpList_range_dir (hg : o.guard = none) (m : Operand) (hop : o.op = Op.range 55 m) {b : Nat} {l : List (ByteArray × Nat)} (hm : a.eval m = .map (some b)) (hl : MapAt w b l) (hs : ∀ x ∈ l, x.1.size ≤ maxLen) (hlen : l.length ≤ 1000000)
    (hK : ∀ w' cnt, Ranging w' b w.heap.size l (fun s => (getM l s).isSome) cnt → w.grownBy w' none → w'.heap.size = w.heap.size + 1 → wpList Tryz.prog ops Q rest (a.put o.dst (.pointer (some ⟨w.heap.size, 0, none⟩))) w') :
    wpList Tryz.prog ops Q (o :: rest) a w :=
  wpList_range_own w hg m _ hop 9 54 law_dir ht_map ptrR b l.length (dirD l) hm (owns_ptr Tryz.underlying9 hl hs hlen) (fun w' h1 h2 h3 => hK w' _ ⟨_, h1, fun s => dirD_has s⟩ h2 h3)

theorem wpList_next_dir (hg : o.guard = none) (it : Operand) (hop : o.op = Op.next it false) {b r : Nat} {l : List (ByteArray × Nat)} {left : ByteArray → Prop} {cnt : Nat} (hit : a.eval it = .pointer (some ⟨r, 0, none⟩)) (hl : MapAt w b l) (hs : ∀ x ∈ l, x.1.size ≤ maxLen) (hlen : l.length ≤ 1000000)
    (h : Ranging w b r l left cnt) (hDone : (∀ s, ¬ left s) → wpList Tryz.prog ops Q rest (a.put o.dst (.tuple #[.bool false])) w)
    (hMore : ∀ (s : ByteArray) (c : Nat) (w' : World) (cnt' : Nat), left s → getM l s = some c → Ranging w' b r l (fun z => left z ∧ z ≠ s) cnt' → cnt' < cnt → w.grownBy w' (some r) → w'.heap.size = w.heap.size →
      (Instr.entry (.pointer (some ⟨r, 0, none⟩))).run Tryz.prog w' = .ok (.tuple #[.string s, ptr c]) w' → wpList Tryz.prog ops Q rest (a.put o.dst (.tuple #[.bool true, .string s, ptr c])) w') :
    wpList Tryz.prog ops Q (o :: rest) a w := by
  obtain ⟨lf, hrg, hlf⟩ := h
  have hn := hl.nodup
  have hris := dir_rising Tryz.underlying9 hl hs hlen
  refine wpList_next_ranges w hg it hop 9 law_dir ptrR Value.string ptr (fun key kl hk => ?_) ptrR_inv b r l.length (dirD l) lf cnt hit hrg (fun _ h0 => hDone (fun s hs => by have := (hlf s).2 hs; rw [h0] at this; cases this)) ?_
  · obtain ⟨x, rfl, _⟩ := Maps.keyOf_str Tryz.underlying9 hk
    exact ⟨_, rfl⟩
  · intro s c kl y w' cnt' hkey hlk hR hat hrg' hlt hgr hsz hen
    obtain ⟨x, hx, rfl, hxl⟩ := Maps.keyOf_str Tryz.underlying9 hkey
    have hxs : x = s.data.toList := by
      have h2 : s = (⟨x.toArray⟩ : ByteArray) := Value.string.inj hx
      simp [h2]
    subst hxs
    rw [ptrR_mk] at hR
    cases hR
    have hkl : WideAt.IsKeyLit (.string s.data.toList) := law_dir.key hkey
    refine hMore s c w' cnt' ((hlf s).1 hlk) (dirD_at hris hn hkl hat) ⟨_, hrg', fun z => ?_⟩ hlt hgr hsz hen
    rw [Bool.and_eq_true, hlf, Bool.not_eq_true', ← Bool.not_eq_true]
    refine and_congr_right (fun _ => not_congr ?_)
    constructor
    · intro e
      have := WideAt.sameKey_eq e
      exact Txt.ext (by injection this)
    · rintro rfl
      exact WideAt.sameKey_self hkl
end
end Go.Proofs.YtcgpmnlondnbhaaGreatDoor

namespace Go.Proofs.YtcgpmnlondnbhaaGreatDoor
open Go Go.RowKit Txt Sp

def encP (x : Nat × Nat) : Value × Value := (ptr x.1, ptr x.2)
/-- An object is a map from things to things with these entries. -/
def IsPMap (o : Obj) (l : List (Nat × Nat)) : Prop := ∃ es clock, o = .map es clock ∧ es.toList.map (fun e => (e.key, e.val)) = l.map encP
def PMapAt (w : World) (m : Nat) (l : List (Nat × Nat)) : Prop := ∃ o, w.heap[m]? = some o ∧ IsPMap o l
def getP (l : List (Nat × Nat)) (a : Nat) : Option Nat := (l.find? (fun x => decide (x.1 = a))).map (·.2)
theorem PMapAt.same {w w' : World} {m : Nat} {l : List (Nat × Nat)} (h : PMapAt w m l) (hs : ∀ o, w.heap[m]? = some o → w'.heap[m]? = some o) : PMapAt w' m l :=
  let ⟨o, ho, hm⟩ := h
  ⟨o, hs o ho, hm⟩
theorem PMapAt.lt {w : World} {m : Nat} {l : List (Nat × Nat)} (h : PMapAt w m l) : m < w.heap.size := let ⟨_, ho, _⟩ := h; (Array.getElem?_eq_some_iff.1 ho).1
theorem PMapAt.ne_cells {w : World} {m b : Nat} {l : List (Nat × Nat)} {cs : Array Value} {e : TypeId} {fr : Nat × Nat} (h : PMapAt w m l) (hb : w.heap[b]? = some (.cells cs e fr)) : m ≠ b := by
  obtain ⟨o, ho, es, c, rfl, _⟩ := h
  intro e
  rw [e, hb] at ho
  cases ho
theorem getP_snoc (l : List (Nat × Nat)) (a b c : Nat) (h : getP l a = none) : getP (l ++ [(a, b)]) c = if c = a then some b else getP l c := by
  unfold getP at h ⊢
  rw [Option.map_eq_none_iff] at h
  rw [List.find?_append]
  by_cases hc : c = a
  · subst hc
    rw [h, if_pos rfl]
    simp
  · rw [if_neg hc]
    cases l.find? (fun x => decide (x.1 = c)) with
    | none => simp [Ne.symm hc]
    | some y => simp

/-- A thing lies at a block. -/
def IsThing (w : World) (a : Nat) : Prop := ∃ d n m, w.heap[a]? = some (thingO d n m)
theorem IsThing.same {w w' : World} {a : Nat} (h : IsThing w a) (hs : ∀ o, w.heap[a]? = some o → w'.heap[a]? = some o) : IsThing w' a := let ⟨d, n, m, ho⟩ := h; ⟨d, n, m, hs _ ho⟩

theorem equal_thing {w : World} {a b : Nat} (ha : IsThing w a) (hb : IsThing w b) : (Op.equal 54 (ptr a) (ptr b)).run Tryz.prog w = .ok (decide (a = b)) w := by
  obtain ⟨j, hj, h0⟩ := info_thing
  obtain ⟨da, na, ma, ha⟩ := ha
  obtain ⟨db, nb, mb, hb⟩ := hb
  unfold thingO at ha hb
  by_cases h : a = b
  · subst h
    have h : ∀ d : Nat, (Op.equalIn (d + 1) 54 (ptr a) (ptr a)).run Tryz.prog w = .ok true w := fun d => by
      simp [ptr, Op.equalIn, run_underlying pt_thing, sizeOf, typeInfo, hj, run_sameAddr_same]
    simp [Op.equal, Op.maxDepth, h 9999]
  · have hne : (⟨a, 0, none⟩ : Addr) ≠ ⟨b, 0, none⟩ := fun e => h (congrArg Addr.block e)
    have h2 : ∀ d : Nat, (Op.equalIn (d + 1) 54 (ptr a) (ptr b)).run Tryz.prog w = .ok false w := fun d => by
      simp [ptr, Op.equalIn, run_underlying pt_thing, sizeOf, typeInfo, hj, h0, run_sameAddr_other w hne ha hb]
    simp [Op.equal, Op.maxDepth, h2 9999, h]

theorem asking {w : World} {a : Nat} (ha : IsThing w a) : ∀ (es : List MapEntry) (l : List (Nat × Nat)) (i : Nat), es.map (fun e => (e.key, e.val)) = l.map encP → (∀ x ∈ l, IsThing w x.1) →
    ∃ r, (Instr.findAsking 54 (ptr a) es i).run Tryz.prog w = .ok r w ∧ r.map (·.2) = (getP l a).map ptr
  | [], l, i, he, _ => by
    cases l with
    | nil => exact ⟨none, by simp [Instr.findAsking], rfl⟩
    | cons y r => simp at he
  | e :: es, [], i, he, _ => by simp at he
  | e :: es, y :: l, i, he, hl => by
    rw [List.map_cons, List.map_cons] at he
    injection he with h1 h2
    have hk : e.key = ptr y.1 := congrArg (·.1) h1
    have hv : e.val = ptr y.2 := congrArg (·.2) h1
    have heq := equal_thing ha (hl y (by simp))
    by_cases h : a = y.1
    · rw [decide_eq_true h] at heq
      refine ⟨some (i, e.val), by simp [Instr.findAsking, hk, heq, Result.andThen], ?_⟩
      unfold getP
      rw [List.find?_cons, decide_eq_true h.symm, hv]
      rfl
    · rw [decide_eq_false h] at heq
      obtain ⟨r, hr, hg⟩ := asking ha es l (i + 1) h2 (fun x hx => hl x (List.mem_cons_of_mem _ hx))
      refine ⟨r, by simp [Instr.findAsking, hk, heq, Result.andThen, hr], ?_⟩
      rw [hg]
      unfold getP
      rw [List.find?_cons, decide_eq_false (Ne.symm h)]

theorem now_none (k : Value) : ∀ (es : List MapEntry) (i : Nat) (d : TypeDesc), (∀ x, Instr.sameNow d k x = none) → es ≠ [] → Instr.findNow d k es i = none
  | [], _, _, _, h => absurd rfl h
  | e :: es, i, d, hd, _ => by unfold Instr.findNow; rw [hd]

theorem find_thing {w : World} {a : Nat} (ha : IsThing w a) {es : List MapEntry} {l : List (Nat × Nat)} (he : es.map (fun e => (e.key, e.val)) = l.map encP) (hl : ∀ x ∈ l, IsThing w x.1) :
    ∃ r, (Instr.findKey 54 (ptr a) es).run Tryz.prog w = .ok r w ∧ r.map (·.2) = (getP l a).map ptr := by
  cases es with
  | nil =>
    cases l with
    | nil => exact ⟨none, by simp [Instr.findKey, run_underlying pt_thing, Instr.findNow, Result.andThen], rfl⟩
    | cons y r => simp at he
  | cons e es =>
    obtain ⟨r, hr, hg⟩ := asking ha (e :: es) l 0 he hl
    refine ⟨r, ?_, hg⟩
    have hn := now_none (ptr a) (e :: es) 0 (.pointer 57) (fun x => by unfold Instr.sameNow ptr; rfl) (by simp)
    simp [Instr.findKey, run_underlying pt_thing, hn, Result.andThen, hr]

theorem ht_pmap : Tryz.prog.underlying 67 = some (.map 54 54) := by kernel_rfl
theorem check_thing (w : World) (e : Bool) (n a : Nat) : (Instr.checkKey e (n + 1) 54 (ptr a)).run Tryz.prog w = .ok () w := by
  unfold Instr.checkKey ptr
  simp [run_underlying pt_thing, Result.andThen]

theorem run_lookup_thing {w : World} {m a : Nat} {l : List (Nat × Nat)} (h : PMapAt w m l) (ha : IsThing w a) (hl : ∀ x ∈ l, IsThing w x.1) :
    (Instr.lookup 67 (.map (some m)) (ptr a) false).run Tryz.prog w = .ok (ptrO (getP l a)) w := by
  obtain ⟨o, hb, es, clock, rfl, hen⟩ := h
  obtain ⟨r, hr, hg⟩ := find_thing ha hen hl
  cases hp : getP l a with
  | none =>
    rw [hp] at hg
    cases r with
    | some y => cases hg
    | none => simp [Instr.lookup, run_underlying ht_pmap, MapKept.run_getObj_map hb, check_thing, hr, Result.andThen, ptrO]
  | some c =>
    rw [hp] at hg
    cases r with
    | none => cases hg
    | some y =>
      obtain ⟨i, v⟩ := y
      have hv : v = ptr c := by simpa using hg
      subst hv
      simp [Instr.lookup, run_underlying ht_pmap, MapKept.run_getObj_map hb, check_thing, hr, Result.andThen, ptrO]

theorem run_update_thing {w : World} {m a : Nat} {l : List (Nat × Nat)} (h : PMapAt w m l) (ha : IsThing w a) (hl : ∀ x ∈ l, IsThing w x.1) (hp : getP l a = none) (b : Nat) :
    ∃ o', (Instr.mapUpdate 67 (.map (some m)) (ptr a) (ptr b)).run Tryz.prog w = .ok () (ChangeMaps.setBlock w m o') ∧ IsPMap o' (l ++ [(a, b)]) := by
  obtain ⟨o, hb, es, clock, rfl, hen⟩ := h
  obtain ⟨r, hr, hg⟩ := find_thing ha hen hl
  rw [hp] at hg
  cases r with
  | some y => cases hg
  | none =>
    refine ⟨.map (es.push { key := ptr a, val := ptr b, born := clock }) (clock + 1), ?_, _, _, rfl, ?_⟩
    · simp [Instr.mapUpdate, run_underlying ht_pmap, MapKept.run_getObj_map hb, check_thing, hr, MapKept.run_setObj_map _ hb, Result.andThen, ChangeMaps.setBlock]
    · rw [Array.toList_push, List.map_append, List.map_append, hen]
      rfl
end Go.Proofs.YtcgpmnlondnbhaaGreatDoor

namespace Go.Proofs.YtcgpmnlondnbhaaGreatDoor
open Go Go.RowKit Txt Sp

/-- Behind paths: all paths at a thing and below it, in some order, in a slice of its own. -/
def PathsPost (w : World) (t : Sp.Tree) (p : List ByteArray) (i : Nat) (e : Ending) (w' : World) : Prop :=
  ∃ g cap L, e = .returned (.slice (some ⟨g, 0, none⟩) (List.length L) cap) ∧ w'.ownsRow w.heap.size 9 1 (.slice (some ⟨g, 0, none⟩) L.length cap) L.length (L.map Value.string) ∧ L.Perm (((p, i) :: belowL t p).map (shown t)) ∧ Below w.heap.size w w'

theorem add_empty (s : ByteArray) : s ++ (⟨#[]⟩ : ByteArray) = s := Txt.ext (by simp)
theorem owns_one (w : World) (s : ByteArray) : (w.alloc (.cells #[.string s] 9)).ownsRow w.heap.size 9 1 (.slice (some ⟨w.heap.size, 0, none⟩) 1 1) 1 [.string s] :=
  ⟨rfl, Or.inr ⟨w.heap.size, 1, _, rfl, Nat.le_refl _, heap_alloc_new w _, Nat.le_refl _, by decide, rfl, rfl⟩⟩

section
set_option maxHeartbeats 4000000
variable {B : Nat} {t : Sp.Tree} {φ μ : Nat → Nat}

theorem paths_file {w : World} (hR : Rep w B t φ μ) (hok : t.Ok) {p : List ByteArray} {i : Nat} (hp : t.idOf p = some i) (hd : t.isDir i = false) :
    Calls Tryz.prog 41 #[.string (shown t (p, i)), ptr (φ i)] w (PathsPost w t p i) := by
  have hmem : (p, i) ∈ t.names := by
    rcases idOf_mem hok hp with ⟨rfl, rfl⟩ | h
    · obtain ⟨d, hr⟩ := hok.root
      rw [isDir_of hok hr] at hd
      cases hd
    · exact h
  have HE : Hid (belowL t p = []) := belowL_file hok hmem hd
  have c2 := hR.fileCell hok hp hd
  have hlt := hR.lt_thing hok (has_idOf hok hp)
  obtain ⟨s, hs⟩ : ∃ s, shown t (p, i) = s := ⟨_, rfl⟩
  have HS := Lib.hid hs
  have e1 : (w.alloc (.cells #[.string s] 9)).heap.size = w.heap.size + 1 := by simp
  have hrg := run_range_nilMap (P := Tryz.prog) (w.alloc (.cells #[.string s] 9)) 55 _ _ ht_map
  have hnx : ∀ ty, (Instr.next (.pointer (some ⟨(w.alloc (.cells #[.string s] 9)).heap.size, 0, none⟩)) false ty).run Tryz.prog ((w.alloc (.cells #[.string s] 9)).alloc (.mapIter none 0 #[] 0)) = _ := fun ty => run_next_nilMap _ ty 0 0 #[]
  rw [e1] at hrg hnx
  rw [hs]
  clear hR hok hp hd hmem hs e1
  unfold ptr
  go_enter Tryz.func41, Tryz.ntmps41
  go_wp2
  refine wp_loop_rounds 1 ?_
  rw [rounds_succ]
  go_wp2
  go_ret
  have hb := (Below.refl w.heap.size w).alloc (Nat.le_refl _) (.cells #[.string s] 9)
  refine ⟨w.heap.size, 1, [s], rfl, (owns_one w s).alloc _, ?_, hb.alloc hb.size _⟩
  rw [HE.out, List.map_cons, List.map_nil, HS.out]
theorem owns_same {w w' : World} {base : Nat} {e : TypeId} {v : Value} {n : Nat} {xs : List Value} (h : w.ownsRow base e 1 v n xs) (hs : ∀ k o, v.ownBlock = some k → w.heap[k]? = some o → w'.heap[k]? = some o) : w'.ownsRow base e 1 v n xs := by
  refine ⟨h.1, h.2.imp_right ?_⟩
  rintro ⟨g, cap, cur, rfl, hb, hh, h3⟩
  exact ⟨g, cap, cur, rfl, hb, hs g _ rfl hh, h3⟩
theorem grown_of_below {w w' : World} (hb : Below w.heap.size w w') : w.grownBy w' none := ⟨hb.os, hb.tape, hb.output, hb.size, fun k hk _ => hb.block k hk⟩
theorem Ranging.congr {w : World} {b r : Nat} {l : List (ByteArray × Nat)} {left left' : ByteArray → Prop} {cnt : Nat} (h : Ranging w b r l left cnt) (hc : ∀ s, left s ↔ left' s) : Ranging w b r l left' cnt :=
  let ⟨lf, h1, h2⟩ := h
  ⟨lf, h1, fun s => (h2 s).trans (hc s)⟩

/-- What holds of the range behind some rounds. -/
structure PathsRel (w : World) (t : Sp.Tree) (p : List ByteArray) (i m r : Nat) (l : List (ByteArray × Nat)) (out : Value) (wr : World) (dn : ByteArray → Bool) (cnt : Nat) (L : List ByteArray) (g cap : Nat) : Prop where
  rg : Ranging wr m r l (fun s => (getM l s).isSome = true ∧ dn s = false) cnt
  is : out = .slice (some ⟨g, 0, none⟩) L.length cap
  apart : g ≠ r
  past : w.heap.size < r
  own : wr.ownsRow w.heap.size 9 1 out L.length (L.map Value.string)
  perm : L.Perm (((p, i) :: doneL t p dn).map (shown t))
  low : Below w.heap.size w wr

/-- One round more. -/
theorem PathsRel.step {w wr w1 w2 w3 : World} {p : List ByteArray} {i m r : Nat} {l : List (ByteArray × Nat)} {dn : ByteArray → Bool} {cnt cnt1 g cap : Nat} {L : List ByteArray} (hok : t.Ok) (h : PathsRel w t p i m r l (.slice (some ⟨g, 0, none⟩) L.length cap) wr dn cnt L g cap) (hm : m < w.heap.size)
    {s : ByteArray} {j : Nat} (hj : t.find (p ++ [s]) = some j) (hs : dn s = false) (hrg : Ranging w1 m r l (fun z => ((getM l z).isSome = true ∧ dn z = false) ∧ z ≠ s) cnt1) (hg1 : wr.grownBy w1 (some r)) (hsz : w1.heap.size = wr.heap.size)
    {L2 : List ByteArray} (hperm : L2.Perm (((p ++ [s], j) :: belowL t (p ++ [s])).map (shown t))) (hb2 : Below w1.heap.size w1 w2)
    {v' : Value} (hown : w3.ownsRow w.heap.size 9 1 v' (L.length + L2.length) (L.map Value.string ++ L2.map Value.string)) (hgrow : w2.grownBy w3 (some g)) (hloc : v'.ownBlock = some g ∨ v'.ownBlock = some w2.heap.size) (hpos : 0 < L.length) :
    ∃ g' cap', PathsRel w t p i m r l v' w3 (fun z => dn z || decide (z = s)) cnt1 (L ++ L2) g' cap' := by
  have hrlt := h.rg.lt
  have hpast := h.past
  have hgb : w.heap.size ≤ g := (h.own.lt g rfl).1
  obtain ⟨g', cap', rfl⟩ : ∃ g' cap', v' = .slice (some ⟨g', 0, none⟩) (L ++ L2).length cap' := by
    rcases hown.2 with ⟨_, h0⟩ | ⟨g', cap', _, hv, _⟩
    · omega
    · exact ⟨g', cap', by rw [hv, List.length_append]⟩
  have hr2 := ((hrg.kept (grown_of_below hb2) (by simp) (by simp)).kept hgrow (by simp; omega) (by simp [Ne.symm h.apart]))
  refine ⟨g', cap', ⟨hr2.congr (fun z => ?_), rfl, ?_, h.past, by have h' := hown; rw [← List.length_append, ← List.map_append] at h'; exact h', ?_, ?_⟩⟩
  · rw [and_assoc, Bool.or_eq_false_iff, decide_eq_false_iff_not]
  · rcases hloc with e | e
    · have : g' = g := by simpa [Value.ownBlock] using e
      rw [this]; exact h.apart
    · have : g' = w2.heap.size := by simpa [Value.ownBlock] using e
      have h2 := hb2.size
      omega
  · refine (h.perm.append hperm).trans ?_
    rw [← List.map_append, List.cons_append]
    exact (((doneL_step hok hj hs).symm).cons (p, i)).map _
  · have h1 : Below w.heap.size w w1 := h.low.trans ⟨hg1.os, hg1.tape, hg1.output, hg1.size, fun k hk => hg1.block k (by have := h.low.size; omega) (by have := h.past; simp; omega)⟩
    have h2 : Below w.heap.size w w2 := h1.trans (hb2.mono h1.size)
    exact h2.trans ⟨hgrow.os, hgrow.tape, hgrow.output, hgrow.size, fun k hk => hgrow.block k (by have := h2.size; omega) (by simp; omega)⟩

theorem PathsRel.len {w wr : World} {p : List ByteArray} {i m r : Nat} {l : List (ByteArray × Nat)} {out : Value} {dn : ByteArray → Bool} {cnt g cap : Nat} {L : List ByteArray} (h : PathsRel w t p i m r l out wr dn cnt L g cap) : 0 < L.length ∧ L.length ≤ t.names.length + 1 := by
  have := h.perm.length_eq
  rw [List.length_map, List.length_cons] at this
  have h2 : (doneL t p dn).length ≤ t.names.length := List.length_filter_le _ _
  omega
theorem belowL_len (p : List ByteArray) : (belowL t p).length ≤ t.names.length := List.length_filter_le _ _


theorem paths_any (hok : t.Ok) (hfew : t.names.length ≤ 1000000) : ∀ (n : Nat) (p : List ByteArray) (i : Nat) (w : World), (belowL t p).length < n → Rep w B t φ μ → t.idOf p = some i → p.length + (belowL t p).length ≤ 1000000 →
    Calls Tryz.prog 41 #[.string (shown t (p, i)), ptr (φ i)] w (PathsPost w t p i) := by
  intro n
  induction n with
  | zero => intro p i w hn; omega
  | succ n ih =>
    intro p i w hn hR hp hlen
    cases hd : t.isDir i with
    | false => exact paths_file hR hok hp hd
    | true =>
      have c2 := hR.dirCell hp hd
      obtain ⟨_, l, hl, hget⟩ := hR.dir i p hp hd
      have hkeys := hR.keys hok hp hd hl
      have hnames : ∀ x ∈ l, nameB x.1 = true := fun x hx => by
        have h1 : x.1 ∈ t.kidsL p := hkeys.mem_iff.1 (List.mem_map.2 ⟨x, hx, rfl⟩)
        obtain ⟨j, hj⟩ := kidsL_mem.1 h1
        exact hok.good _ _ hj _ (by simp)
      have hml : ∀ x ∈ l, x.1.size ≤ maxLen := fun x hx => Nat.le_trans (nameB_size (hnames x hx)) (by decide)
      have hll : l.length ≤ 1000000 := by
        have := hkeys.length_eq
        rw [List.length_map] at this
        have h2 := kids_few t p
        omega
      have hlt := hR.lt_thing hok (has_idOf hok hp)
      have hmlt := hl.lt
      have hs0s : (shown t (p, i)).size ≤ 14 * p.length + 1 := shown_size (idOf_good hok hp)
      have m2 := fun (r : Option Nat) (w : World) => run_neq_map_nil (P := Tryz.prog) w 55 _ _ r ht_map
      obtain ⟨i0, hi, hz0, hz1, hz2⟩ := info_parts Tryz.infoText
      have HCh : Hid (∀ s j, t.find (p ++ [s]) = some j → shown t (p, i) ++ (s ++ slash t j) = shown t (p ++ [s], j)) := fun s j _ => shown_child hd
      obtain ⟨s0, hs0⟩ : ∃ s, shown t (p, i) = s := ⟨_, rfl⟩
      have hb1 := (Below.refl w.heap.size w).alloc (Nat.le_refl _) (.cells #[.string s0] 9)
      have hl1 : MapAt (w.alloc (.cells #[.string s0] 9)) (μ i) l := hl.same (heap_below hb1 _)
      have hown1 := owns_one w s0
      rw [hs0] at hs0s HCh ⊢
      unfold ptr
      have HR := Lib.hid hR
      have HL := Lib.hid hl
      have HG := Lib.hid hget
      have HP := Lib.hid hp
      have HS0 := Lib.hid hs0
      have HIH := Lib.hid ih
      have HOK := Lib.hid hok
      have HMlt := Lib.hid hmlt
      clear hR hl hget hkeys hp hs0 ih hok hnames
      go_enter Tryz.func41, Tryz.ntmps41
      go_wp2_with (first
        | (at_range; refine wpList_range_dir rfl _ rfl rfl hl1 hml hll ?_; intro w0 cnt0 hrg0 hg0 hs0')
        | go_in)
      have e1 : (w.alloc (.cells #[.string s0] 9)).heap.size = w.heap.size + 1 := by simp
      have e2 := hg0.block
      rw [e1] at e2
      generalize (w.alloc (.cells #[.string s0] 9)).heap.size = r at hrg0 e1 ⊢
      have hr0 : PathsRel w t p i (μ i) r l (.slice (some ⟨w.heap.size, 0, none⟩) 1 1) w0 (fun _ => false) cnt0 [s0] w.heap.size 1 := by
        have hgb : Below w.heap.size w w0 := hb1.trans ⟨hg0.os, hg0.tape, hg0.output, hg0.size, fun k hk => e2 k (by omega) (by simp)⟩
        refine ⟨hrg0.congr (fun s => by simp), rfl, by omega, by omega, owns_same hown1 (fun k o hk ho => ?_), ?_, hgb⟩
        · rw [hg0.block k (Array.getElem?_eq_some_iff.1 ho).1 (by simp)]; exact ho
        · rw [doneL_none, List.map_cons, List.map_nil, HS0.out]
      have HR0 := Lib.hid hr0
      clear hr0 hrg0 hg0 hs0' hown1 hl1 hb1 e1 e2
      go_frame
      go_loopw [5] (fun out wr => ∃ (dn : ByteArray → Bool) (cnt : Nat) (L : List ByteArray) (g cap : Nat), Hid (PathsRel w t p i (μ i) r l out wr dn cnt L g cap)) (fun _ wr => wr.rangeLeft (μ i) r)
      case atStart => exact ⟨_, _, _, _, _, HR0⟩
      case round =>
        obtain ⟨dn, cnt, L, g, cap, HRel⟩ := hrel
        obtain rfl := HRel.out.is
        have hlr := HL.out.same (heap_below (HRel.out.low) _)
        go_wp2_with (first
          | (at_next; refine wpList_next_dir rfl _ rfl rfl hlr hml hll HRel.out.rg ?_ ?_)
          | go_in)
        · intro hdone
          clear hlr
          go_wp2
          go_ret
          refine ⟨g, cap, L, rfl, HRel.out.own, ?_, HRel.out.low⟩
          have hall : doneL t p dn = belowL t p := doneL_all HOK.out (fun s hs => by
            have h1 := hdone s
            rw [HG.out s, Option.isSome_map] at h1
            simpa using h1 hs)
          rw [← hall]
          exact HRel.out.perm
        · intro s c w1 cnt1 _ hsd hgc hrg1 hlt1 hg1 hs1 hen
          obtain ⟨j, hj, hjc⟩ : ∃ j, t.find (p ++ [s]) = some j ∧ φ j = c := by
            rw [HG.out s] at hgc
            exact Option.map_eq_some_iff.1 hgc
          subst hjc
          have hrec := HRel.out
          have hlow1 : Below w.heap.size w w1 := hrec.low.trans ⟨hg1.os, hg1.tape, hg1.output, hg1.size, fun k hk => hg1.block k (by have := hrec.low.size; omega) (by have := hrec.past; simp; omega)⟩
          have hR1 := HR.out.below hlow1
          have hidj : t.idOf (p ++ [s]) = some j := find_idOf HOK.out hj
          have hgood := nameB_size (HOK.out.good _ _ ((find_mem HOK.out).1 hj) s (by simp))
          have hch := HCh.out s j hj
          have hbc := belowL_child HOK.out hj
          have hown1 : w1.ownsRow w.heap.size 9 1 (.slice (some ⟨g, 0, none⟩) L.length cap) L.length (L.map Value.string) := hrec.own.kept hg1 (Or.inr (by have := hrec.apart; simp [Value.ownBlock]; omega))
          have hlens := hrec.len
          have hcall := HIH.out (p ++ [s]) j w1 (by omega) hR1 hidj (by simp; omega)
          rw [← hch] at hcall
          have HRg := Lib.hid hrg1
          have HG1 := Lib.hid hg1
          have HSz := Lib.hid hs1
          have HFj := Lib.hid hj
          have HCall := Lib.hid hcall
          have HOwn := Lib.hid hown1
          have HLow := Lib.hid hlow1
          have HLt := Lib.hid hlt1
          cases hdj : t.isDir j with
          | true =>
            have c3 := hR1.dirCell hidj hdj
            have hsl : slash t j = ⟨#[47]⟩ := by unfold slash; rw [hdj]; rfl
            rw [hsl] at HCall
            clear hrg1 hg1 hs1 hj hcall hown1 hlow1 hlt1 hrec hR1 hidj hch hdj hsl hbc hgc hlr
            unfold ptr at HCall hen
            unfold ptr
            go_wp2_with fail
            refine HCall.out.mono ?_
            rintro e w2 ⟨g2, cap2, L2, rfl, hown2, hperm2, hb2⟩
            have HOwn2 : Hid (w2.ownsRow w.heap.size 9 1 (.slice (some ⟨g, 0, none⟩) L.length cap) L.length (L.map Value.string)) := HOwn.out.kept (grown_of_below hb2) (Or.inr (by simp [Value.ownBlock]))
            have hcells := Lib.hid (hown2.cells (g := g2) rfl)
            have hl2 : Hid ((L2.map Value.string).length = L2.length * 1) := by
              show (L2.map Value.string).length = L2.length * 1
              simp
            have h1c : Hid (∀ u ∈ L2.map Value.string, u.oneCell' = true) := fun u hu => by
              obtain ⟨x, _, rfl⟩ := List.mem_map.1 hu
              rfl
            have hz2' : w.heap.size ≤ w2.heap.size := Nat.le_trans HLow.out.size hb2.size
            have hlen2 : L2.length ≤ t.names.length + 1 := by
              have h1 := hperm2.length_eq
              rw [List.length_map, List.length_cons] at h1
              have h2 := belowL_len (t := t) (p ++ [s])
              omega
            have hB1 : L.length + L2.length ≤ maxLen := by unfold maxLen; omega
            have hB2 : (L.length + L2.length) * 16 ≤ 140737488355328 := by omega
            have HPerm2 := Lib.hid hperm2
            have HB2 := Lib.hid hb2
            clear hperm2 hb2 hown2
            go_wp2_with (at_builtin; refine wpList_append_own_at _ rfl _ _ 30 rfl w.heap.size 9 i0 (.string ByteArray.empty) 1 16 Tryz.underlying30 hi hz0 hz1 hz2 rfl (by decide) _ _ _ rfl HOwn2.out ⟨g2, 0, none⟩ L2.length cap2 (L2.map Value.string) rfl hl2.out hcells.out h1c.out hB1 hB2 hz2' ?_)
            intro v' w3 hown3 hgrow _ hloc
            obtain ⟨g', cap', hnew⟩ := HRel.out.step HOK.out HMlt.out HFj.out hsd HRg.out HG1.out HSz.out HPerm2.out HB2.out hown3 hgrow hloc hlens.1
            have HNew := Lib.hid hnew
            clear hown3 hgrow hloc hnew hcells hl2 h1c
            go_wp2
            go_roundw
            case rel => exact ⟨_, _, _, _, _, HNew⟩
            case measure => rw [HNew.out.rg.left_eq, HRel.out.rg.left_eq]; exact HLt.out
          | false =>
            have c3 := hR1.fileCell HOK.out hidj hdj
            have hsl : s0 ++ (s ++ slash t j) = s0 ++ s := by
              have : slash t j = ⟨#[]⟩ := by unfold slash; rw [hdj]; rfl
              rw [this, add_empty]
            rw [hsl] at HCall
            clear hrg1 hg1 hs1 hj hcall hown1 hlow1 hlt1 hrec hR1 hidj hch hdj hsl hbc hgc hlr
            unfold ptr at HCall hen
            unfold ptr
            go_wp2_with fail
            refine HCall.out.mono ?_
            rintro e w2 ⟨g2, cap2, L2, rfl, hown2, hperm2, hb2⟩
            have HOwn2 : Hid (w2.ownsRow w.heap.size 9 1 (.slice (some ⟨g, 0, none⟩) L.length cap) L.length (L.map Value.string)) := HOwn.out.kept (grown_of_below hb2) (Or.inr (by simp [Value.ownBlock]))
            have hcells := Lib.hid (hown2.cells (g := g2) rfl)
            have hl2 : Hid ((L2.map Value.string).length = L2.length * 1) := by
              show (L2.map Value.string).length = L2.length * 1
              simp
            have h1c : Hid (∀ u ∈ L2.map Value.string, u.oneCell' = true) := fun u hu => by
              obtain ⟨x, _, rfl⟩ := List.mem_map.1 hu
              rfl
            have hz2' : w.heap.size ≤ w2.heap.size := Nat.le_trans HLow.out.size hb2.size
            have hlen2 : L2.length ≤ t.names.length + 1 := by
              have h1 := hperm2.length_eq
              rw [List.length_map, List.length_cons] at h1
              have h2 := belowL_len (t := t) (p ++ [s])
              omega
            have hB1 : L.length + L2.length ≤ maxLen := by unfold maxLen; omega
            have hB2 : (L.length + L2.length) * 16 ≤ 140737488355328 := by omega
            have HPerm2 := Lib.hid hperm2
            have HB2 := Lib.hid hb2
            clear hperm2 hb2 hown2
            go_wp2_with (at_builtin; refine wpList_append_own_at _ rfl _ _ 30 rfl w.heap.size 9 i0 (.string ByteArray.empty) 1 16 Tryz.underlying30 hi hz0 hz1 hz2 rfl (by decide) _ _ _ rfl HOwn2.out ⟨g2, 0, none⟩ L2.length cap2 (L2.map Value.string) rfl hl2.out hcells.out h1c.out hB1 hB2 hz2' ?_)
            intro v' w3 hown3 hgrow _ hloc
            obtain ⟨g', cap', hnew⟩ := HRel.out.step HOK.out HMlt.out HFj.out hsd HRg.out HG1.out HSz.out HPerm2.out HB2.out hown3 hgrow hloc hlens.1
            have HNew := Lib.hid hnew
            clear hown3 hgrow hloc hnew hcells hl2 h1c
            go_wp2
            go_roundw
            case rel => exact ⟨_, _, _, _, _, HNew⟩
            case measure => rw [HNew.out.rg.left_eq, HRel.out.rg.left_eq]; exact HLt.out
end
end Go.Proofs.YtcgpmnlondnbhaaGreatDoor

namespace Go.Proofs.YtcgpmnlondnbhaaGreatDoor
open Go Go.RowKit Txt Sp Go.Sort

section
set_option maxHeartbeats 1000000
theorem allPaths_any {w : World} {B : Nat} {t : Sp.Tree} {φ μ : Nat → Nat} (hR : Rep w B t φ μ) (hok : t.Ok) (hfew : t.names.length ≤ 500000) :
    Calls Tryz.prog 15 #[ptr B] w fun e w' => ∃ v, e = .returned v ∧ OwnTexts w.heap.size w' v t.paths ∧ RowKit.Below w.heap.size w w' := by
  have c0 := hR.rootCell
  have hroot : (⟨#[47]⟩ : ByteArray) = shown t ([], 0) := by
    have := paths_perm hok
    rw [List.map_cons, List.cons.injEq] at this
    exact this.1.symm
  have hcall := paths_any (B := B) hok (by omega) ((belowL t []).length + 1) [] 0 w (by omega) hR idOf_nil (by have := belowL_len (t := t) []; simp; omega)
  rw [← hroot] at hcall
  have HCall := Lib.hid hcall
  have HOK := Lib.hid hok
  clear hR hcall hroot hok
  unfold ptr at c0 HCall ⊢
  go_enter Tryz.func15, Tryz.ntmps15
  go_wp2_with fail
  refine HCall.out.mono ?_
  rintro e w1 ⟨g, cap, L, rfl, hown, hperm, hb⟩
  have hlen : L.length ≤ 1000000 := by
    have h1 := hperm.length_eq
    rw [List.length_map, List.length_cons] at h1
    have := belowL_len (t := t) []
    omega
  rcases hown.2 with ⟨hnil, _⟩ | ⟨g', cap', cur, hv, hbase, hgb, h1, h2, h3, h4⟩
  · cases hnil
  cases hv
  obtain ⟨ss, hss⟩ : ∃ ss, L.map (·.data.toList) = ss := ⟨_, rfl⟩
  have hmap : L.map Value.string = ss.map encStr := by
    rw [← hss, List.map_map]
    refine List.map_congr_left (fun x _ => ?_)
    show Value.string x = encStr x.data.toList
    unfold encStr
    congr 1
  have hlss : ss.length = L.length := by rw [← hss, List.length_map]
  have h4' := h4
  rw [hmap] at h4'
  have hH : Holds encStr w1 g 0 ss.toArray := holds_of_block hgb (by simpa [hlss] using h4')
  have hc := Go.Proofs.AnyM.slices_Sort_string Tryz.sort42 g 0 cap ss w1 hH (Array.getElem?_eq_some_iff.1 hgb).1 (by omega)
  rw [hlss] at hc
  have HC := Lib.hid hc
  have fin : ∀ (n : Nat) (os : Array Obj), ∃ v, Ending.returned (.slice (some ⟨g, 0, none⟩) L.length cap) = .returned v ∧
      OwnTexts w.heap.size (grow (putRow encStr (Sort.ahead w1 n) g 0 (ss.mergeSort fun x y => decide (x ≤ y)).toArray) os) v t.paths ∧ RowKit.Below w.heap.size w (grow (putRow encStr (Sort.ahead w1 n) g 0 (ss.mergeSort fun x y => decide (x ≤ y)).toArray) os) := by
    intro n os
    have ho := ownsRow_sorted (base := w.heap.size) (ss := ss) (os := os) (n := n) (ts := ss.mergeSort fun x y => decide (x ≤ y)) (by simp) hbase hgb (by rw [hlss]; exact h1) h2 h3
    have hg := grownBy_sorted (w := w1) (g := g) (n := n) (os := os) (ss.mergeSort fun x y => decide (x ≤ y)).toArray
    have hsort : (ss.mergeSort (fun x y => decide (x ≤ y))).map encStr = t.paths.map Value.string := by
      have hp2 : ss.Perm ((ofL [47] :: t.names.map (shown t)).map (·.data.toList)) := by
        rw [← hss, ← paths_perm HOK.out]
        exact hperm.map _
      rw [keys_sorted hp2]
      rfl
    have hlp : t.paths.length = ss.length := by
      have := congrArg List.length hsort
      simpa using this.symm
    rw [hsort, ← hlp] at ho
    refine ⟨_, rfl, ?_, hb.trans ⟨hg.os, hg.tape, hg.output, hg.size, fun k hk => hg.block k (by have := hb.size; omega) (by simp; omega)⟩⟩
    rw [← hlss, ← hlp]
    exact ⟨_, ho⟩
  have HF := Lib.hid fin
  clear hown hperm hb hgb h1 h2 h3 h4 h4' hss hmap hlss hH hc fin
  go_wp2_with fail
  refine HC.out.mono ?_
  rintro e w2 ⟨rfl, n, os, rfl⟩
  go_wp2
  go_ret
  exact HF.out n os
theorem paths_live {w0 w : World} {B : Nat} {t : Sp.Tree} {k : Nat} {D : Nat → Prop} (h : Live w0 w B t k D) (hk : k ≤ 100000) :
    Calls Tryz.prog 15 #[ptr B] w fun e w' => ∃ v, e = .returned v ∧ OwnTexts w.heap.size w' v t.paths ∧ RowKit.Below w.heap.size w w' := by
  obtain ⟨φ, μ, hR, _⟩ := h.rep
  exact allPaths_any hR h.ok (Nat.le_trans h.few (by omega))
end
end Go.Proofs.YtcgpmnlondnbhaaGreatDoor
