/-
  The chapter's example of layer 27.
-/
import Derived.Test.YtcgpmnlondnbhaaGreatDoorJudgePaths
import Derived.Deep.DeepCutAuto
namespace Go.Proofs.YtcgpmnlondnbhaaGreatDoor
open Go Go.RowKit Txt Sp

namespace Sp
def oneT : Tree := ⟨[([na], 1)], [(0, true, noText), (1, false, noText)], 1⟩
theorem one1 : Sp.new.step ⟨1, pa, noText, 0, 0, noText⟩ = (oneT, {}) := by
  have h : Sp.new.make pa false = (oneT, 0) := by rfl
  unfold Tree.step
  simp only
  rw [h]
  rfl
theorem one2 : oneT.step ⟨11, ⟨#[47]⟩, noText, 0, 0, noText⟩ = (oneT, { names := [na] }) := by
  have h : oneT.tell ⟨11, ⟨#[47]⟩, noText, 0, 0, noText⟩ = { names := [na] } := by
    have h1 : oneT.kids [] = [na] := by
      unfold Tree.kids
      rw [show oneT.kidsL [] = [na] from rfl]
      exact List.mergeSort_singleton _
    unfold Tree.tell
    rw [show full ⟨#[47]⟩ = [] from rfl, h1]
    rfl
  unfold Tree.step
  simp only
  rw [h]
  rfl
def didA1 : Did := ⟨0, 1, 1, 2, ⟨1, pa, noText, 0, 0, noText⟩, {}⟩
def didB1 (l : List ByteArray) : Did := ⟨0, 2, 3, 4, ⟨11, ⟨#[47]⟩, noText, 0, 0, noText⟩, { names := l }⟩
theorem check_two (l : List ByteArray) : checkN [didA1, didB1 l] = (0, 0) := by rfl
theorem play_one : playN Sp.new didA1 = (oneT, true) := by
  unfold playN
  rw [show didA1.o = ⟨1, pa, noText, 0, 0, noText⟩ from rfl, one1]
  rfl
theorem judge_two (l : List ByteArray) : judgeN [didA1, didB1 l] = if l = [na] then (0, 0, 0) else (2, 1, 0) := by
  unfold judgeN
  rw [check_two, if_pos rfl]
  have hp : (playN oneT (didB1 l)).2 = decide (l = [na]) := by
    unfold playN
    rw [show (didB1 l).o = ⟨11, ⟨#[47]⟩, noText, 0, 0, noText⟩ from rfl, one2, if_neg (fun h => absurd (show (0 : Int) = 109 from h.1) (by decide))]
    show decide (({ names := l } : Ans) = { names := [na] }) = _
    rw [decide_eq_decide]
    exact ⟨fun h => congrArg Ans.names h, fun h => by rw [h]⟩
  have h1 : judgeFrom 0 Sp.new (-1) [didA1, didB1 l] = judgeFrom 1 oneT 2 [didB1 l] := by
    unfold judgeFrom
    rw [if_neg (by decide), play_one]
    rfl
  have h2 : judgeFrom 1 oneT 2 [didB1 l] = if l = [na] then (0, 0) else (2, 1) := by
    unfold judgeFrom
    rw [if_neg (by show ¬ ((4 : Int) ≤ max 3 2); decide), hp]
    by_cases h : l = [na]
    · rw [if_pos h, if_pos (by simp [h])]; rfl
    · rw [if_neg h, if_neg (by simp [h])]; rfl
  rw [h1, h2]
  by_cases h : l = [na]
  · rw [if_pos h, if_pos h]
  · rw [if_neg h, if_neg h]
end Sp

def worksA : Array Value := #[.int .i64 0, .int .i64 1, .int .i64 1, .int .i64 2, .int .i64 1, .string ⟨#[47, 97]⟩, .string ⟨#[]⟩, .int .i64 0, .int .i64 0, .string ⟨#[]⟩, .int .i64 0, .int .i64 0, .int .i64 0, .int .i64 0, .string ⟨#[]⟩, .slice none 0 0]
def worksB (v : Value) : Array Value := #[.int .i64 0, .int .i64 2, .int .i64 3, .int .i64 4, .int .i64 11, .string ⟨#[47]⟩, .string ⟨#[]⟩, .int .i64 0, .int .i64 0, .string ⟨#[]⟩, .int .i64 0, .int .i64 0, .int .i64 0, .int .i64 0, .string ⟨#[]⟩, v]
def worksL (v : Value) : Array Value := #[.int .i64 0, .int .i64 1, .int .i64 1, .int .i64 2, .int .i64 1, .string ⟨#[47, 97]⟩, .string ⟨#[]⟩, .int .i64 0, .int .i64 0, .string ⟨#[]⟩, .int .i64 0, .int .i64 0, .int .i64 0, .int .i64 0, .string ⟨#[]⟩, .slice none 0 0, .int .i64 0, .int .i64 2, .int .i64 3, .int .i64 4, .int .i64 11, .string ⟨#[47]⟩, .string ⟨#[]⟩, .int .i64 0, .int .i64 0, .string ⟨#[]⟩, .int .i64 0, .int .i64 0, .int .i64 0, .int .i64 0, .string ⟨#[]⟩, v]
theorem dids_two {W : World} {g : Nat} {ad : Option Addr} {cap : Nat} {l : List ByteArray} (hg : W.heap[g]? = some (.cells (worksL (.slice ad l.length cap)) 81 (0, 0))) (ht : Texts W (.slice ad l.length cap) l) : Dids W (.slice (some ⟨g, 0, none⟩) 2 2) [Sp.didA1, Sp.didB1 l] := by
  have hc : ∀ i : Nat, W.cell? ⟨g, 0 + i, none⟩ = (worksL (.slice ad l.length cap))[i]? := fun i => by
    rw [Nat.zero_add]
    simp [World.cell?, hg]
  refine ⟨_, _, rfl, by simp, by decide, fun _ => ⟨g, 0, rfl, (Array.getElem?_eq_some_iff.1 hg).1, fun k x hx => ?_⟩⟩
  match k, hx with
  | 0, hx =>
    obtain rfl : Sp.didA1 = x := by simpa using hx
    refine ⟨none, 0, (OwnTexts.void 0 W).texts, fun i y hy => ?_⟩
    rw [Nat.zero_mul, Nat.add_zero, hc]
    have hi : i < 16 := (Array.getElem?_eq_some_iff.1 hy).1
    match i, hi with
    | 0, _ | 1, _ | 2, _ | 3, _ | 4, _ | 5, _ | 6, _ | 7, _ | 8, _ | 9, _ | 10, _ | 11, _ | 12, _ | 13, _ | 14, _ | 15, _ => exact hy
  | 1, hx =>
    obtain rfl : Sp.didB1 l = x := by simpa using hx
    refine ⟨ad, cap, ht, fun i y hy => ?_⟩
    rw [Nat.one_mul, Nat.zero_add, show (16 : Nat) + i = i + 16 from Nat.add_comm _ _, ← Nat.zero_add (i + 16), hc]
    have hi : i < 16 := (Array.getElem?_eq_some_iff.1 hy).1
    match i, hi with
    | 0, _ | 1, _ | 2, _ | 3, _ | 4, _ | 5, _ | 6, _ | 7, _ | 8, _ | 9, _ | 10, _ | 11, _ | 12, _ | 13, _ | 14, _ | 15, _ => exact hy
  | k + 2, hx => simp at hx
theorem two_ok (l : List ByteArray) : ∀ x ∈ [Sp.didA1, Sp.didB1 l], OpOk x.o := by
  intro x hx
  rcases List.mem_cons.1 hx with rfl | hx
  · exact small_ok (by decide) (by decide) (by decide) (by decide) (by decide) (by decide)
  · rcases List.mem_singleton.1 hx with rfl
    exact small_ok (show ByteArray.size ⟨#[47]⟩ ≤ _ by decide) (show ByteArray.size ⟨#[]⟩ ≤ _ by decide) (show ByteArray.size ⟨#[]⟩ ≤ _ by decide) (by show 0 ≤ (11 : Int) ∧ (11 : Int) ≤ 100; decide) (by show 0 ≤ (0 : Int) ∧ (0 : Int) ≤ 100000; decide) (by show 0 ≤ (0 : Int) ∧ (0 : Int) ≤ 100000; decide)

theorem judge_known {w : World} {v : Value} {l : List Sp.Did} {a b c : Int} (hj : judgeN l = (a, b, c)) (hl : Dids w v l) (hok : ∀ x ∈ l, OpOk x.o) (hm : MaxOk w) :
    Calls Tryz.prog 22 #[v] w fun e w' => e = .returned (.tuple #[.int .i64 a, .int .i64 b, .int .i64 c]) ∧ Below w.heap.size w w' := by
  refine (judgeJudge_any w hl hok hm).mono ?_
  rintro e w' ⟨rfl, hb⟩
  rw [hj]
  exact ⟨rfl, hb⟩
theorem two_yes : judgeN [Sp.didA1, Sp.didB1 [Sp.na]] = (0, 0, 0) := by rw [Sp.judge_two, if_pos rfl]
theorem two_no : judgeN [Sp.didA1, Sp.didB1 []] = (2, 1, 0) := by rw [Sp.judge_two, if_neg (by simp)]

/-- The worlds ahead of the first call. -/
theorem works_first (w : World) (hm : MaxOk w) : ∃ w1 w2 w3 w4 : World, w.alloc (.cells #[.int .i64 0, .int .i64 1, .int .i64 1, .int .i64 2, .int .i64 1, .string ⟨#[47, 97]⟩, .string ⟨#[]⟩, .int .i64 0, .int .i64 0, .string ⟨#[]⟩, .int .i64 0, .int .i64 0, .int .i64 0, .int .i64 0, .string ⟨#[]⟩, .slice none 0 0] 81) = w1 ∧ w1.alloc (.cells #[.string ⟨#[97]⟩] 9) = w2 ∧ w2.alloc (.cells #[.int .i64 0, .int .i64 2, .int .i64 3, .int .i64 4, .int .i64 11, .string ⟨#[47]⟩, .string ⟨#[]⟩, .int .i64 0, .int .i64 0, .string ⟨#[]⟩, .int .i64 0, .int .i64 0, .int .i64 0, .int .i64 0, .string ⟨#[]⟩, (.slice (some ⟨w.heap.size + 1, 0, none⟩) 1 1)] 81) = w3 ∧ w3.alloc (.cells #[.int .i64 0, .int .i64 1, .int .i64 1, .int .i64 2, .int .i64 1, .string ⟨#[47, 97]⟩, .string ⟨#[]⟩, .int .i64 0, .int .i64 0, .string ⟨#[]⟩, .int .i64 0, .int .i64 0, .int .i64 0, .int .i64 0, .string ⟨#[]⟩, .slice none 0 0, .int .i64 0, .int .i64 2, .int .i64 3, .int .i64 4, .int .i64 11, .string ⟨#[47]⟩, .string ⟨#[]⟩, .int .i64 0, .int .i64 0, .string ⟨#[]⟩, .int .i64 0, .int .i64 0, .int .i64 0, .int .i64 0, .string ⟨#[]⟩, (.slice (some ⟨w.heap.size + 1, 0, none⟩) 1 1)] 81) = w4 ∧
    w1.heap.size = w.heap.size + 1 ∧ w2.heap.size = w.heap.size + 1 + 1 ∧ w3.heap.size = w.heap.size + 1 + 1 + 1 ∧
    Hid (w3.heap[w.heap.size]? = some (.cells worksA 81 (0, 0))) ∧ Hid (w3.heap[w.heap.size + 1 + 1]? = some (.cells (worksB (.slice (some ⟨w.heap.size + 1, 0, none⟩) 1 1)) 81 (0, 0))) ∧
    Hid (Calls Tryz.prog 22 #[.slice (some ⟨w.heap.size + 1 + 1 + 1, 0, none⟩) 2 2] w4 fun e w' => e = .returned (.tuple #[.int .i64 0, .int .i64 0, .int .i64 0]) ∧
      Hid (Below w.heap.size w w' ∧ w'.heap[w.heap.size]? = some (.cells worksA 81 (0, 0)) ∧ w'.heap[w.heap.size + 1 + 1]? = some (.cells (worksB (.slice (some ⟨w.heap.size + 1, 0, none⟩) 1 1)) 81 (0, 0)))) := by
  obtain ⟨w1, h1⟩ : ∃ w1, w.alloc (.cells #[.int .i64 0, .int .i64 1, .int .i64 1, .int .i64 2, .int .i64 1, .string ⟨#[47, 97]⟩, .string ⟨#[]⟩, .int .i64 0, .int .i64 0, .string ⟨#[]⟩, .int .i64 0, .int .i64 0, .int .i64 0, .int .i64 0, .string ⟨#[]⟩, .slice none 0 0] 81) = w1 := ⟨_, rfl⟩
  have z1 : w1.heap.size = w.heap.size + 1 := by rw [← h1]; simp
  have b1 : Below w.heap.size w w1 := by rw [← h1]; exact (Below.refl _ _).alloc (Nat.le_refl _) _
  have e1 : w1.heap[w.heap.size]? = some (.cells worksA 81 (0, 0)) := by rw [← h1]; exact heap_alloc_new w _
  obtain ⟨w2, h2⟩ : ∃ w2, w1.alloc (.cells #[.string ⟨#[97]⟩] 9) = w2 := ⟨_, rfl⟩
  have z2 : w2.heap.size = w.heap.size + 1 + 1 := by rw [← h2, ← z1]; simp
  have b2 : Below w1.heap.size w1 w2 := by rw [← h2]; exact (Below.refl _ _).alloc (Nat.le_refl _) _
  have e2 : w2.heap[w.heap.size + 1]? = some (.cells #[.string ⟨#[97]⟩] 9 (0, 0)) := by rw [← h2]; exact alloc_at z1 _
  obtain ⟨w3, h3⟩ : ∃ w3, w2.alloc (.cells #[.int .i64 0, .int .i64 2, .int .i64 3, .int .i64 4, .int .i64 11, .string ⟨#[47]⟩, .string ⟨#[]⟩, .int .i64 0, .int .i64 0, .string ⟨#[]⟩, .int .i64 0, .int .i64 0, .int .i64 0, .int .i64 0, .string ⟨#[]⟩, (.slice (some ⟨w.heap.size + 1, 0, none⟩) 1 1)] 81) = w3 := ⟨_, rfl⟩
  have z3 : w3.heap.size = w.heap.size + 1 + 1 + 1 := by rw [← h3, ← z2]; simp
  have b3 : Below w2.heap.size w2 w3 := by rw [← h3]; exact (Below.refl _ _).alloc (Nat.le_refl _) _
  have e3 : w3.heap[w.heap.size + 1 + 1]? = some (.cells (worksB (.slice (some ⟨w.heap.size + 1, 0, none⟩) 1 1)) 81 (0, 0)) := by rw [← h3]; exact alloc_at z2 _
  obtain ⟨w4, h4⟩ : ∃ w4, w3.alloc (.cells #[.int .i64 0, .int .i64 1, .int .i64 1, .int .i64 2, .int .i64 1, .string ⟨#[47, 97]⟩, .string ⟨#[]⟩, .int .i64 0, .int .i64 0, .string ⟨#[]⟩, .int .i64 0, .int .i64 0, .int .i64 0, .int .i64 0, .string ⟨#[]⟩, .slice none 0 0, .int .i64 0, .int .i64 2, .int .i64 3, .int .i64 4, .int .i64 11, .string ⟨#[47]⟩, .string ⟨#[]⟩, .int .i64 0, .int .i64 0, .string ⟨#[]⟩, .int .i64 0, .int .i64 0, .int .i64 0, .int .i64 0, .string ⟨#[]⟩, (.slice (some ⟨w.heap.size + 1, 0, none⟩) 1 1)] 81) = w4 := ⟨_, rfl⟩
  have b4 : Below w3.heap.size w3 w4 := by rw [← h4]; exact (Below.refl _ _).alloc (Nat.le_refl _) _
  have e4 : w4.heap[w.heap.size + 1 + 1 + 1]? = some (.cells (worksL (.slice (some ⟨w.heap.size + 1, 0, none⟩) [Sp.na].length 1)) 81 (0, 0)) := by rw [← h4]; exact alloc_at z3 _
  have hn : w4.heap[w.heap.size + 1]? = some (.cells #[.string ⟨#[97]⟩] 9 (0, 0)) := heap_below b4 _ _ (heap_below b3 _ _ e2)
  have hA : w3.heap[w.heap.size]? = some (.cells worksA 81 (0, 0)) := heap_below b3 _ _ (heap_below b2 _ _ e1)
  have hB : Below w.heap.size w w4 := below_next (below_next (below_next b1 b2) b3) b4
  have hD : Dids w4 (.slice (some ⟨w.heap.size + 1 + 1 + 1, 0, none⟩) 2 2) [Sp.didA1, Sp.didB1 [Sp.na]] := by
    refine dids_two e4 ⟨_, _, rfl, by simp, by decide, fun _ => ⟨w.heap.size + 1, 0, rfl, (Array.getElem?_eq_some_iff.1 hn).1, fun j x hj => ?_⟩⟩
    match j, hj with
    | 0, hj =>
      obtain rfl : Sp.na = x := by simpa using hj
      exact cell_of_heap hn rfl
    | j + 1, hj => simp at hj
  refine ⟨w1, w2, w3, w4, h1, h2, h3, h4, z1, z2, z3, hA, e3, (judge_known two_yes hD (two_ok _) (hm.below hB)).mono ?_⟩
  rintro e w' ⟨rfl, hb⟩
  exact ⟨rfl, below_next hB hb, heap_below hb _ _ (heap_below b4 _ _ hA), heap_below hb _ _ (heap_below b4 _ _ e3)⟩
/-- The worlds ahead of the second call. -/
theorem works_second {w w1 : World} (hm : MaxOk w) (hb : Below w.heap.size w w1) (ha : w1.heap[w.heap.size]? = some (.cells worksA 81 (0, 0))) (hbb : w1.heap[w.heap.size + 1 + 1]? = some (.cells (worksB (.slice (some ⟨w.heap.size + 1, 0, none⟩) 1 1)) 81 (0, 0))) :
    ∃ w2 w3 : World, w1.setCell ⟨w.heap.size + 1 + 1, 15, none⟩ (.slice none 0 0) = w2 ∧ w2.alloc (.cells #[.int .i64 0, .int .i64 1, .int .i64 1, .int .i64 2, .int .i64 1, .string ⟨#[47, 97]⟩, .string ⟨#[]⟩, .int .i64 0, .int .i64 0, .string ⟨#[]⟩, .int .i64 0, .int .i64 0, .int .i64 0, .int .i64 0, .string ⟨#[]⟩, .slice none 0 0, .int .i64 0, .int .i64 2, .int .i64 3, .int .i64 4, .int .i64 11, .string ⟨#[47]⟩, .string ⟨#[]⟩, .int .i64 0, .int .i64 0, .string ⟨#[]⟩, .int .i64 0, .int .i64 0, .int .i64 0, .int .i64 0, .string ⟨#[]⟩, .slice none 0 0] 81) = w3 ∧
    (∀ k : Nat, w2.cell? ⟨w.heap.size, k, none⟩ = (#[.int .i64 0, .int .i64 1, .int .i64 1, .int .i64 2, .int .i64 1, .string ⟨#[47, 97]⟩, .string ⟨#[]⟩, .int .i64 0, .int .i64 0, .string ⟨#[]⟩, .int .i64 0, .int .i64 0, .int .i64 0, .int .i64 0, .string ⟨#[]⟩, .slice none 0 0] : Array Value)[k]?) ∧ (∀ k : Nat, w2.cell? ⟨w.heap.size + 1 + 1, k, none⟩ = (#[.int .i64 0, .int .i64 2, .int .i64 3, .int .i64 4, .int .i64 11, .string ⟨#[47]⟩, .string ⟨#[]⟩, .int .i64 0, .int .i64 0, .string ⟨#[]⟩, .int .i64 0, .int .i64 0, .int .i64 0, .int .i64 0, .string ⟨#[]⟩, .slice none 0 0] : Array Value)[k]?) ∧
    Hid (Calls Tryz.prog 22 #[.slice (some ⟨w2.heap.size, 0, none⟩) 2 2] w3 fun e w' => e = .returned (.tuple #[.int .i64 2, .int .i64 1, .int .i64 0]) ∧ Hid (Below w.heap.size w w')) := by
  obtain ⟨W2, hW2⟩ : ∃ W, w1.setCell ⟨w.heap.size + 1 + 1, 15, none⟩ (.slice none 0 0) = W := ⟨_, rfl⟩
  have HB2 : Below w.heap.size w W2 := by
    rw [← hW2]
    exact hb.setCell (by show w.heap.size ≤ w.heap.size + 1 + 1; omega) _
  have HA2 : W2.heap[w.heap.size]? = some (.cells worksA 81 (0, 0)) := by
    rw [← hW2, heap_setCell_ne _ (by omega)]
    exact ha
  have HBB2 : W2.heap[w.heap.size + 1 + 1]? = some (.cells (worksB (.slice none 0 0)) 81 (0, 0)) := by
    rw [← hW2]
    exact heap_setCell_at hbb _
  have hb3 := (Below.refl W2.heap.size W2).alloc (Nat.le_refl _) (.cells (worksL (.slice none 0 0)) 81)
  have HD3 : Dids (W2.alloc (.cells (worksL (.slice none 0 0)) 81)) (.slice (some ⟨W2.heap.size, 0, none⟩) 2 2) [Sp.didA1, Sp.didB1 []] := dids_two (ad := none) (cap := 0) (l := []) (heap_alloc_new W2 _) (OwnTexts.void 0 _).texts
  have HB3 := below_next HB2 hb3
  refine ⟨W2, W2.alloc (.cells (worksL (.slice none 0 0)) 81), hW2, rfl, fun k => ?_, fun k => ?_, (judge_known two_no HD3 (two_ok _) (hm.below HB3)).mono ?_⟩
  · unfold worksA at HA2
    simp [World.cell?, HA2]
  · unfold worksB at HBB2
    simp [World.cell?, HBB2]
  · rintro e w' ⟨rfl, hb⟩
    exact ⟨rfl, below_next HB3 hb⟩

def dropC : Nat → Code → Code
  | 0, c => c
  | n + 1, .seq _ b => dropC n b
  | _, c => c
noncomputable def worksRest : Code := dropC 4 (Tryz.f18.body.getD .skip)
def headC : Code → Code
  | .seq a _ => a
  | c => c
noncomputable def worksR4 : Code := headC worksRest
noncomputable def worksR5 : Code := dropC 1 worksRest
set_option maxHeartbeats 8000000 in
set_option maxRecDepth 20000 in
theorem works_rest {w w5 : World} (hm : MaxOk w) (HR : Hid (Below w.heap.size w w5 ∧ w5.heap[w.heap.size]? = some (.cells worksA 81 (0, 0)) ∧ w5.heap[w.heap.size + 1 + 1]? = some (.cells (worksB (.slice (some ⟨w.heap.size + 1, 0, none⟩) 1 1)) 81 (0, 0)))) (u0 u6 u7 u8 u9 u10 u11 u12 u13 u14 u15 u16 u17 u18 u19 u20 u21 u22 u23 u24 u25 u26 u27 u28 u29 u30 u31 u32 u33 u34 u35 u36 u37 u38 u39 u40 u41 u42 u43 u44 u45 u46 u47 u48 u49 u50 u51 u52 u53 u54 : Value) :
    ∀ K : Act → World → Prop, (∀ a w1, Code.wp Tryz.prog worksR5 (bodyPost Tryz.prog Tryz.f18 (fun e w' => e = .returned (.bool true) ∧ Below w.heap.size w w')) a w1 → K a w1) → Code.wp Tryz.prog worksR4 (Exit.then K (bodyPost Tryz.prog Tryz.f18 (fun e w' => e = .returned (.bool true) ∧ Below w.heap.size w w'))) ⟨#[u0, .pointer (some ⟨w.heap.size, 0, none⟩), .pointer (some ⟨w.heap.size + 1 + 1, 0, none⟩), .int .i64 0, .int .i64 0, .int .i64 0, u6, u7, u8, u9, u10, u11, u12, u13, u14, u15, u16, u17, u18, u19, u20, u21, u22, u23, u24, u25, u26, u27, u28, u29, u30, u31, u32, u33, u34, u35, u36, u37, u38, u39, u40, u41, u42, u43, u44, u45, u46, u47, u48, u49, u50, u51, u52, u53, u54], []⟩ w5 := by
  intro K hK
  conv => arg 2; whnf
  have c1 : w5.cell? ⟨w.heap.size + 1 + 1, 15, none⟩ = some (.slice (some ⟨w.heap.size + 1, 0, none⟩) 1 1) := cell_of_heap HR.out.2.2 rfl
  have f1 : w5.frozen? ⟨w.heap.size + 1 + 1, 15, none⟩ = false := free_of_heap HR.out.2.2
  obtain ⟨w6, w7, h6, h7, da, db, HCall2⟩ := works_second hm HR.out.1 HR.out.2.1 HR.out.2.2
  clear hm
  go_wp2_with fail
  try refine hK _ _ ?_
  conv => arg 2; whnf
  go_wp2_with fail
  refine HCall2.out.mono ?_
  rintro e w8 ⟨rfl, HE⟩
  clear h6 h7 da db c1 f1 HCall2 HR
  go_wp2
  go_ret
  exact ⟨rfl, HE.out⟩

section
set_option maxHeartbeats 8000000
set_option maxRecDepth 20000 in
theorem judgeWorks_any (w : World) (hm : MaxOk w) : Calls Tryz.prog 18 #[] w fun e w' => e = .returned (.bool true) ∧ Below w.heap.size w w' := by
  obtain ⟨w1, w2, w3, w4, h1, h2, h3, h4, z1, z2, z3, HA, HB, HCall⟩ := works_first w hm
  have HM := Lib.hid hm
  clear hm
  have ca : ∀ k : Nat, w3.cell? ⟨w.heap.size, k, none⟩ = (#[.int .i64 0, .int .i64 1, .int .i64 1, .int .i64 2, .int .i64 1, .string ⟨#[47, 97]⟩, .string ⟨#[]⟩, .int .i64 0, .int .i64 0, .string ⟨#[]⟩, .int .i64 0, .int .i64 0, .int .i64 0, .int .i64 0, .string ⟨#[]⟩, .slice none 0 0] : Array Value)[k]? := fun k => by
    have := HA.out
    unfold worksA at this
    simp [World.cell?, this]
  have cb : ∀ k : Nat, w3.cell? ⟨w.heap.size + 1 + 1, k, none⟩ = (#[.int .i64 0, .int .i64 2, .int .i64 3, .int .i64 4, .int .i64 11, .string ⟨#[47]⟩, .string ⟨#[]⟩, .int .i64 0, .int .i64 0, .string ⟨#[]⟩, .int .i64 0, .int .i64 0, .int .i64 0, .int .i64 0, .string ⟨#[]⟩, (.slice (some ⟨w.heap.size + 1, 0, none⟩) 1 1)] : Array Value)[k]? := fun k => by
    have := HB.out
    unfold worksB at this
    simp [World.cell?, this]
  subst h2
  subst h1
  clear z1 z2
  go_enter Tryz.func18, Tryz.ntmps18
  go_wp2_with fail
  refine HCall.out.mono ?_
  rintro e w5 ⟨rfl, HR⟩
  clear h3 h4 z3 HA HB HCall ca cb
  go_upto_region 4 with fail
  exact works_rest HM.out HR _ _ _ _ _ _ _ _ _ _ _ _ _ _ _ _ _ _ _ _ _ _ _ _ _ _ _ _ _ _ _ _ _ _ _ _ _ _ _ _ _ _ _ _ _ _ _ _ _ _ _ (by assumption)
end
end Go.Proofs.YtcgpmnlondnbhaaGreatDoor
