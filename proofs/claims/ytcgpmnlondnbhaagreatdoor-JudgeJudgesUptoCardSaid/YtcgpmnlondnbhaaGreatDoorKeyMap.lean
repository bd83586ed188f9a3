/-
  A map keyed by a struct of two numbers: looked up, grown.
-/
import Derived.Test.YtcgpmnlondnbhaaGreatDoorNamesA
namespace Go.Proofs.YtcgpmnlondnbhaaGreatDoor
open Go Go.RowKit

def keyV (x : Int × Int) : Value := .agg #[.int .i64 x.1, .int .i64 x.2]
def encK (x : Int × Int) : Value × Value := (keyV x, .bool true)
def IsKMap (o : Obj) (l : List (Int × Int)) : Prop := ∃ es clock, o = .map es clock ∧ es.toList.map (fun e => (e.key, e.val)) = l.map encK
def KMapAt (w : World) (m : Nat) (l : List (Int × Int)) : Prop := ∃ o, w.heap[m]? = some o ∧ IsKMap o l
theorem KMapAt.same {w w' : World} {m : Nat} {l : List (Int × Int)} (h : KMapAt w m l) (hs : ∀ o, w.heap[m]? = some o → w'.heap[m]? = some o) : KMapAt w' m l :=
  let ⟨o, ho, hm⟩ := h
  ⟨o, hs o ho, hm⟩
theorem KMapAt.lt {w : World} {m : Nat} {l : List (Int × Int)} (h : KMapAt w m l) : m < w.heap.size := let ⟨_, ho, _⟩ := h; (Array.getElem?_eq_some_iff.1 ho).1

theorem key_part0 (w : World) (x y : Int) : (part 3 #[.int .i64 x, .int .i64 y] 0).run Tryz.prog w = .ok (.int .i64 x) w := by kernel_rfl
theorem key_part1 (w : World) (x y : Int) : (part 3 #[.int .i64 x, .int .i64 y] 1).run Tryz.prog w = .ok (.int .i64 y) w := by kernel_rfl
set_option maxHeartbeats 2000000 in
theorem equal_key (w : World) (x y : Int × Int) : (Op.equal 84 (keyV x) (keyV y)).run Tryz.prog w = .ok (decide (x = y)) w := by
  obtain ⟨a, b⟩ := x
  obtain ⟨c, d⟩ := y
  have hu := Tryz.underlying84
  have hi := Tryz.underlying3
  have h : ∀ n : Nat, (Op.equalIn (n + 2) 84 (keyV (a, b)) (keyV (c, d))).run Tryz.prog w = .ok (decide ((a, b) = (c, d))) w := fun n => by
    unfold keyV
    have p0 := fun x y => key_part0 w x y
    have p1 := fun x y => key_part1 w x y
    by_cases h1 : a = c
    · by_cases h2 : b = d
      · simp [Op.equalIn, run_underlying hu, run_underlying hi, Result.andThen, p0, p1, h1, h2]
      · simp [Op.equalIn, run_underlying hu, run_underlying hi, Result.andThen, p0, p1, h1, h2]
    · simp [Op.equalIn, run_underlying hu, run_underlying hi, Result.andThen, p0, h1]
  simp [Op.equal, Op.maxDepth, h 9998]
theorem check_key (w : World) (e : Bool) (n : Nat) (x : Int × Int) : (Instr.checkKey e (n + 2) 84 (keyV x)).run Tryz.prog w = .ok () w := by
  have hu := Tryz.underlying84
  have hi := Tryz.underlying3
  have p0 := fun x y => key_part0 w x y
  have p1 := fun x y => key_part1 w x y
  unfold keyV
  simp [Instr.checkKey, run_underlying hu, run_underlying hi, Result.andThen, p0, p1]

theorem asking_key {w : World} (k : Int × Int) : ∀ (es : List MapEntry) (l : List (Int × Int)) (i : Nat), es.map (fun e => (e.key, e.val)) = l.map encK →
    ∃ r, (Instr.findAsking 84 (keyV k) es i).run Tryz.prog w = .ok r w ∧ r.map (·.2) = if k ∈ l then some (.bool true) else none
  | [], l, i, he => by
    cases l with
    | nil => exact ⟨none, by simp [Instr.findAsking], rfl⟩
    | cons y r => simp at he
  | e :: es, [], i, he => by simp at he
  | e :: es, y :: l, i, he => by
    rw [List.map_cons, List.map_cons] at he
    injection he with h1 h2
    have hk : e.key = keyV y := congrArg (·.1) h1
    have hv : e.val = .bool true := congrArg (·.2) h1
    have heq := equal_key w k y
    by_cases h : k = y
    · rw [decide_eq_true h] at heq
      refine ⟨some (i, e.val), by simp [Instr.findAsking, hk, heq, Result.andThen], ?_⟩
      rw [if_pos (by simp [h]), hv]
      rfl
    · rw [decide_eq_false h] at heq
      obtain ⟨r, hr, hg⟩ := asking_key (w := w) k es l (i + 1) h2
      refine ⟨r, by simp [Instr.findAsking, hk, heq, Result.andThen, hr], ?_⟩
      rw [hg]
      simp [h]

theorem find_key {w : World} (k : Int × Int) {es : List MapEntry} {l : List (Int × Int)} (he : es.map (fun e => (e.key, e.val)) = l.map encK) :
    ∃ r, (Instr.findKey 84 (keyV k) es).run Tryz.prog w = .ok r w ∧ r.map (·.2) = if k ∈ l then some (.bool true) else none := by
  have hu := Tryz.underlying84
  cases es with
  | nil =>
    cases l with
    | nil => exact ⟨none, by simp [Instr.findKey, run_underlying hu, Instr.findNow, Result.andThen], rfl⟩
    | cons y r => simp at he
  | cons e es =>
    obtain ⟨r, hr, hg⟩ := asking_key (w := w) k (e :: es) l 0 he
    refine ⟨r, ?_, hg⟩
    have hn : ∀ fs, Instr.findNow (.struct fs) (keyV k) (e :: es) 0 = none := fun fs => by
      unfold Instr.findNow
      have : Instr.sameNow (.struct fs) (keyV k) e.key = none := by unfold Instr.sameNow keyV; rfl
      rw [this]
    simp [Instr.findKey, run_underlying hu, hn, Result.andThen, hr]

theorem ht_kmap : Tryz.prog.underlying 82 = some (.map 84 4) := by kernel_rfl
theorem zero_bool (w : World) : (zeroValue 4).run Tryz.prog w = .ok (.bool false) w := by kernel_rfl
theorem run_lookup_key {w : World} {m : Nat} {l : List (Int × Int)} (h : KMapAt w m l) (k : Int × Int) :
    (Instr.lookup 82 (.map (some m)) (keyV k) false).run Tryz.prog w = .ok (.bool (decide (k ∈ l))) w := by
  obtain ⟨o, hb, es, clock, rfl, hen⟩ := h
  obtain ⟨r, hr, hg⟩ := find_key (w := w) k hen
  have hz := zero_bool w
  have hc := fun e => check_key w e 9998 k
  by_cases hm : k ∈ l
  · rw [if_pos hm] at hg
    cases r with
    | none => cases hg
    | some y =>
      obtain ⟨i, v⟩ := y
      have hv : v = .bool true := by simpa using hg
      subst hv
      simp [Instr.lookup, run_underlying ht_kmap, MapKept.run_getObj_map hb, hc, hr, Result.andThen, hm]
  · rw [if_neg hm] at hg
    cases r with
    | some y => cases hg
    | none => simp [Instr.lookup, run_underlying ht_kmap, MapKept.run_getObj_map hb, hc, hr, hz, Result.andThen, hm]

theorem run_update_key {w : World} {m : Nat} {l : List (Int × Int)} (h : KMapAt w m l) (k : Int × Int) (hk : k ∉ l) :
    ∃ o', (Instr.mapUpdate 82 (.map (some m)) (keyV k) (.bool true)).run Tryz.prog w = .ok () (ChangeMaps.setBlock w m o') ∧ IsKMap o' (l ++ [k]) := by
  obtain ⟨o, hb, es, clock, rfl, hen⟩ := h
  obtain ⟨r, hr, hg⟩ := find_key (w := w) k hen
  have hc := fun e => check_key w e 9998 k
  rw [if_neg hk] at hg
  cases r with
  | some y => cases hg
  | none =>
    refine ⟨.map (es.push { key := keyV k, val := .bool true, born := clock }) (clock + 1), ?_, _, _, rfl, ?_⟩
    · simp [Instr.mapUpdate, run_underlying ht_kmap, MapKept.run_getObj_map hb, hc, hr, MapKept.run_setObj_map _ hb, Result.andThen, ChangeMaps.setBlock]
    · rw [Array.toList_push, List.map_append, List.map_append, hen]
      rfl
end Go.Proofs.YtcgpmnlondnbhaaGreatDoor
