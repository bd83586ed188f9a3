/-
  LogA: SpFine, LogAt, LogSrc, JudgeMade, JudgeCopied, OpenDids.
-/
import Derived.Test.YtcgpmnlondnbhaaGreatDoorSpJudge
import Derived.Test.YtcgpmnlondnbhaaGreatDoorJudgeCheck
import Derived.Test.YtcgpmnlondnbhaaGreatDoorLinkA
import Derived.Test.YtcgpmnlondnbhaaGreatDoorJudgePaths
import Derived.Deep.RegionHeld3
import Derived.Deep.AppendLies
import Derived.IntWalk
import Derived.OwnWalk
import Derived.Laws.AppendOwnNone
import Derived.Test.YtcgpmnlondnbhaaGreatDoorOpens
namespace Go.Proofs.YtcgpmnlondnbhaaGreatDoor.Sp
open Go Txt

/-- The log of operations that a tree answers, from the place i on. -/
def logFrom : Nat → Tree → List Op → List Did
  | _, _, [] => []
  | i, t, o :: r => ⟨((i % 2 : Nat) : Int), (i : Int) + 1, (i : Int) + 1, (i : Int) + 2, o, (t.step o).2⟩ :: logFrom (i + 1) (t.step o).1 r
/-- One answer's code turned. -/
def turnAt : List Did → Nat → Int → List Did
  | [], _, _ => []
  | x :: r, 0, c => { x with a := { x.a with code := c } } :: r
  | x :: r, k + 1, c => x :: turnAt r k c

theorem logFrom_length : ∀ (l : List Op) (i : Nat) (t : Tree), (logFrom i t l).length = l.length
  | [], _, _ => rfl
  | o :: r, i, t => by
    unfold logFrom
    rw [List.length_cons, logFrom_length r, List.length_cons]
theorem turnAt_length : ∀ (l : List Did) (k : Nat) (c : Int), (turnAt l k c).length = l.length
  | [], _, _ => rfl
  | x :: r, 0, c => rfl
  | x :: r, k + 1, c => by
    unfold turnAt
    rw [List.length_cons, turnAt_length r, List.length_cons]
theorem logFrom_snoc : ∀ (l : List Op) (i : Nat) (t : Tree) (o : Op), logFrom i t (l ++ [o]) = logFrom i t l ++ [⟨(((i + l.length) % 2 : Nat) : Int), ((i + l.length : Nat) : Int) + 1, ((i + l.length : Nat) : Int) + 1, ((i + l.length : Nat) : Int) + 2, o, ((t.steps l).step o).2⟩]
  | [], i, t, o => rfl
  | p :: r, i, t, o => by
    rw [List.cons_append]
    unfold logFrom
    rw [logFrom_snoc r (i + 1) (t.step p).1 o, List.length_cons, List.cons_append, show i + 1 + r.length = i + (r.length + 1) by omega]
    rfl

theorem check_log : ∀ (l : List Op) (i : Nat) (t : Tree) (seen : List (Int × Int)), i + l.length ≤ 1000 → (∀ k ∈ seen, k.2 ≤ i) → checkFrom i seen (logFrom i t l) = (0, 0)
  | [], _, _, _, _, _ => rfl
  | o :: r, i, t, seen, hl, hs => by
    rw [List.length_cons] at hl
    unfold logFrom checkFrom
    rw [if_neg]
    · refine check_log r (i + 1) _ _ (by omega) (fun k hk => ?_)
      rcases List.mem_append.1 hk with h | h
      · have := hs k h
        show k.2 ≤ ((i + 1 : Nat) : Int)
        omega
      · rw [List.mem_singleton.1 h]
        show (i : Int) + 1 ≤ ((i + 1 : Nat) : Int)
        omega
    · rintro (h | h)
      · have := hs _ h
        have h2 : (i : Int) + 1 ≤ i := this
        omega
      · refine h ⟨?_, ?_, ?_, ?_, ?_, ?_, ?_, ?_⟩
        · show (0 : Int) ≤ ((i % 2 : Nat) : Int); omega
        · show ((i % 2 : Nat) : Int) < 2; omega
        · show (1 : Int) ≤ (i : Int) + 1; omega
        · show (i : Int) + 1 ≤ 1024; omega
        · show (1 : Int) ≤ (i : Int) + 1; omega
        · show (0 : Int) ≤ (i : Int) + 2; omega
        · show (i : Int) + 1 ≤ 1099511627776; omega
        · show (i : Int) + 2 ≤ 1099511627776; omega
theorem check_turned : ∀ (l : List Did) (i k : Nat) (c : Int) (seen : List (Int × Int)), checkFrom i seen (turnAt l k c) = checkFrom i seen l
  | [], _, _, _, _ => rfl
  | x :: r, i, 0, c, seen => rfl
  | x :: r, i, k + 1, c, seen => by
    unfold turnAt checkFrom
    rw [check_turned r]

theorem play_log {t : Tree} {x : Did} (h : x.a = (t.step x.o).2) : playN t x = ((t.step x.o).1, true) := by
  unfold playN
  rw [if_neg (fun hc => by rw [← h] at hc; have h1 := hc.1; rw [hc.2] at h1; exact absurd h1 (by decide)), decide_eq_true h]
theorem judge_log : ∀ (l : List Op) (i : Nat) (t : Tree) (last : Int), last ≤ (i : Int) + 1 → judgeFrom i t last (logFrom i t l) = (0, 0)
  | [], _, _, _, _ => rfl
  | o :: r, i, t, last, hl => by
    unfold logFrom judgeFrom
    rw [if_neg (by show ¬ ((i : Int) + 2 ≤ max ((i : Int) + 1) last); omega), play_log rfl, if_pos rfl]
    exact judge_log r (i + 1) _ _ (by show (i : Int) + 2 ≤ ((i + 1 : Nat) : Int) + 1; omega)
theorem plays_log : ∀ (l : List Op) (i : Nat) (t : Tree), plays t (logFrom i t l) = t.steps l
  | [], _, _ => rfl
  | o :: r, i, t => by
    unfold logFrom plays
    rw [List.foldl_cons, play_log rfl]
    exact plays_log r (i + 1) _
theorem judge_turned : ∀ (l : List Op) (i : Nat) (t : Tree) (last : Int) (k : Nat) (c : Int) (x : Did), last ≤ (i : Int) + 1 → (logFrom i t l)[k]? = some x → c ≠ x.a.code → c ≠ 109 → judgeFrom i t last (turnAt (logFrom i t l) k c) = (2, ((i + k : Nat) : Int))
  | [], _, _, _, _, _, _, _, hx, _, _ => by simp [logFrom] at hx
  | o :: r, i, t, last, 0, c, x, hl, hx, hc, h109 => by
    unfold logFrom at hx ⊢
    unfold turnAt judgeFrom
    have hx' := Option.some.inj hx
    subst hx'
    rw [if_neg (by show ¬ ((i : Int) + 2 ≤ max ((i : Int) + 1) last); omega), if_neg]
    · rfl
    · unfold playN
      rw [if_neg (fun h => h109 h.1), decide_eq_false]
      · simp
      · intro h
        exact hc (congrArg Ans.code h)
  | o :: r, i, t, last, k + 1, c, x, hl, hx, hc, h109 => by
    unfold logFrom at hx ⊢
    unfold turnAt judgeFrom
    rw [if_neg (by show ¬ ((i : Int) + 2 ≤ max ((i : Int) + 1) last); omega), play_log rfl, if_pos rfl]
    have := judge_turned r (i + 1) (t.step o).1 ((i : Int) + 2) k c x (by show (i : Int) + 2 ≤ ((i + 1 : Nat) : Int) + 1; omega) (by simpa using hx) hc h109
    rw [show i + 1 + k = i + (k + 1) by omega] at this
    exact this

/-- A log that a tree makes is fine. -/
theorem fine_log {l : List Op} (hl : l.length ≤ 40) : judgeN (logFrom 0 new l) = (0, 0, 0) := by
  have h1 : checkN (logFrom 0 new l) = (0, 0) := by
    unfold checkN
    rw [if_neg (by rw [logFrom_length]; omega)]
    exact check_log l 0 new [] (by omega) (fun k hk => by cases hk)
  unfold judgeN
  rw [h1, if_pos rfl, judge_log l 0 new (-1) (by decide)]
theorem fine_check {l : List Op} (hl : l.length ≤ 40) : checkN (logFrom 0 new l) = (0, 0) := by
  unfold checkN
  rw [if_neg (by rw [logFrom_length]; omega)]
  exact check_log l 0 new [] (by omega) (fun k hk => by cases hk)
theorem wrong_log {l : List Op} (hl : l.length ≤ 40) {k : Nat} {c : Int} {x : Did} (hx : (logFrom 0 new l)[k]? = some x) (hc : c ≠ x.a.code) (h109 : c ≠ 109) : judgeN (turnAt (logFrom 0 new l) k c) = (2, (k : Int), 0) := by
  have h1 : checkN (turnAt (logFrom 0 new l) k c) = (0, 0) := by
    have := fine_check hl
    unfold checkN at this ⊢
    rw [turnAt_length, check_turned]
    exact this
  unfold judgeN
  rw [h1, if_pos rfl, judge_turned l 0 new (-1) k c x (by decide) hx hc h109, Nat.zero_add]
end Go.Proofs.YtcgpmnlondnbhaaGreatDoor.Sp

namespace Go.Proofs.YtcgpmnlondnbhaaGreatDoor
open Go Go.RowKit Txt Sp

/-- The slice v holds the log L in a block of its own, its cells xs; each answer's names lie in a block of their own; none of these is one of D. -/
structure LogAt (base : Nat) (w : World) (D : Nat → Prop) (v : Value) (L : List Sp.Did) (xs : List Value) : Prop where
  own : w.ownsRow base 81 16 v L.length xs
  apart : ∀ g, v.ownBlock = some g → ¬ D g
  at' : ∀ (k : Nat) (x : Sp.Did), L[k]? = some x → ∃ ad cap, OwnTexts base w (.slice ad x.a.names.length cap) x.a.names ∧
    (∀ g, (Value.slice ad x.a.names.length cap).ownBlock = some g → ¬ D g ∧ v.ownBlock ≠ some g) ∧ ∀ (i : Nat) (y : Value), (didA x (.slice ad x.a.names.length cap))[i]? = some y → xs[k * 16 + i]? = some y

theorem OwnTexts.keep {n : Nat} {w w' : World} {v : Value} {l : List ByteArray} (h : OwnTexts n w v l) (hs : ∀ k o, v.ownBlock = some k → w.heap[k]? = some o → w'.heap[k]? = some o) : OwnTexts n w' v l :=
  let ⟨e, h⟩ := h
  ⟨e, owns_same h hs⟩

theorem owns_size {w w' : World} {base size : Nat} {e : TypeId} {v : Value} {n : Nat} {xs : List Value} (h : w.ownsRow base e size v n xs) (hs : ∀ k o, v.ownBlock = some k → w.heap[k]? = some o → w'.heap[k]? = some o) : w'.ownsRow base e size v n xs := by
  refine ⟨h.1, h.2.imp_right ?_⟩
  rintro ⟨g, cap, cur, rfl, hb, hh, h3⟩
  exact ⟨g, cap, cur, rfl, hb, hs g _ rfl hh, h3⟩

theorem LogAt.void (base : Nat) (w : World) (D : Nat → Prop) : LogAt base w D (.slice none 0 0) [] [] := ⟨⟨rfl, Or.inl ⟨rfl, rfl⟩⟩, (fun g hg => by cases hg), (fun k x hx => by simp at hx)⟩

section
variable {base : Nat} {w w' : World} {D D' : Nat → Prop} {v : Value} {L : List Sp.Did} {xs : List Value}
theorem LogAt.turn (h : LogAt base w D v L xs) (hT : Turn D w w') (hd : ∀ j, D' j → D j ∨ w.heap.size ≤ j) : LogAt base w' D' v L xs := by
  refine ⟨owns_size h.own (fun k o hk ho => hT.heap ho (h.apart k hk)), fun g hg hj => (hd g hj).elim (h.apart g hg) (fun hle => by have := (h.own.lt g hg).2; omega), fun k x hx => ?_⟩
  obtain ⟨ad, cap, h1, h2, h3⟩ := h.at' k x hx
  refine ⟨ad, cap, h1.keep (fun j o hj ho => hT.heap ho (h2 j hj).1), fun g hg => ⟨fun hj => (hd g hj).elim (h2 g hg).1 (fun hle => by have := (own_lt h1 g hg).2; omega), (h2 g hg).2⟩, h3⟩
theorem LogAt.below (h : LogAt base w D v L xs) (hb : Below w.heap.size w w') : LogAt base w' D v L xs := by
  refine ⟨owns_size h.own (fun k o _ ho => heap_below hb _ _ ho), h.apart, fun k x hx => ?_⟩
  obtain ⟨ad, cap, h1, h2, h3⟩ := h.at' k x hx
  exact ⟨ad, cap, h1.below hb, h2, h3⟩
theorem LogAt.dids (h : LogAt base w D v L xs) : Dids w v L := by
  obtain ⟨hlen, hown⟩ := h.own
  rcases hown with ⟨rfl, h0⟩ | ⟨g, cap, cur, rfl, hb, hg, h1, h2, h3, h4⟩
  · have hL : L = [] := List.length_eq_zero_iff.1 h0
    subst hL
    exact ⟨none, 0, rfl, Nat.le_refl _, Nat.zero_le _, fun h => by simp at h⟩
  · refine ⟨_, cap, rfl, h1, h2, fun _ => ⟨g, 0, rfl, (Array.getElem?_eq_some_iff.1 hg).1, fun k x hx => ?_⟩⟩
    obtain ⟨ad, c, t1, t2, t3⟩ := h.at' k x hx
    refine ⟨ad, c, t1.texts, fun i y hy => ?_⟩
    have h5 := t3 i y hy
    have h6 := (List.getElem?_eq_some_iff.1 h5).1
    rw [hlen] at h6
    rw [Nat.zero_add, h.own.cellAt _ h6]
    exact h5

/-- One answer more. -/
theorem LogAt.snoc (h : LogAt base w D v L xs) {x : Sp.Did} {ad : Option Addr} {cap : Nat} (hn : OwnTexts base w (.slice ad x.a.names.length cap) x.a.names) (hap : ∀ g, (Value.slice ad x.a.names.length cap).ownBlock = some g → ¬ D g ∧ v.ownBlock ≠ some g)
    {g c : Nat} (hown : w'.ownsRow base 81 16 (.slice (some ⟨g, 0, none⟩) (L.length + 1) c) (L.length + 1) (xs ++ (didA x (.slice ad x.a.names.length cap)).toList)) (hg : w.grownBy w' v.ownBlock) (hloc : v.ownBlock = some g ∨ g = w.heap.size) (hD : ∀ j, D j → j < w.heap.size) :
    LogAt base w' D (.slice (some ⟨g, 0, none⟩) (L.length + 1) c) (L ++ [x]) (xs ++ (didA x (.slice ad x.a.names.length cap)).toList) := by
  have hlen := h.own.1
  have keep : ∀ k o, v.ownBlock ≠ some k → w.heap[k]? = some o → w'.heap[k]? = some o := fun k o hk ho => by
    rw [hg.block k (Array.getElem?_eq_some_iff.1 ho).1 (Ne.symm hk)]
    exact ho
  have new : ∀ (k : Nat), k < w.heap.size → v.ownBlock ≠ some k → (Value.slice (some ⟨g, 0, none⟩) (L.length + 1) c).ownBlock ≠ some k := fun k hk hne e => by
    have e' : g = k := by simpa [Value.ownBlock] using e
    rcases hloc with h1 | h1
    · exact hne (by rw [h1, e'])
    · omega
  refine ⟨by rw [List.length_append, List.length_singleton]; exact hown, fun j hj => ?_, fun k y hy => ?_⟩
  · have e' : g = j := by simpa [Value.ownBlock] using hj
    subst e'
    rcases hloc with h1 | h1
    · exact h.apart g h1
    · intro hj
      have := hD g hj
      omega
  · by_cases hk : k < L.length
    · rw [List.getElem?_append_left hk] at hy
      obtain ⟨ad2, c2, t1, t2, t3⟩ := h.at' k y hy
      refine ⟨ad2, c2, t1.keep (fun j o hj ho => keep j o (t2 j hj).2 ho), fun j hj => ⟨(t2 j hj).1, new j (own_lt t1 j hj).2 (t2 j hj).2⟩, fun i z hz => ?_⟩
      have := t3 i z hz
      rw [List.getElem?_append_left (List.getElem?_eq_some_iff.1 this).1]
      exact this
    · have hk2 : k = L.length := by
        have := (List.getElem?_eq_some_iff.1 hy).1
        rw [List.length_append, List.length_singleton] at this
        omega
      subst hk2
      rw [List.getElem?_append_right (Nat.le_refl _), Nat.sub_self] at hy
      obtain rfl : x = y := by simpa using hy
      refine ⟨ad, cap, hn.keep (fun j o hj ho => keep j o (hap j hj).2 ho), fun j hj => ⟨(hap j hj).1, new j (own_lt hn j hj).2 (hap j hj).2⟩, fun i z hz => ?_⟩
      rw [List.getElem?_append_right (by omega), hlen, show L.length * 16 + i - L.length * 16 = i by omega]
      simpa using hz

/-- A tree beside a row that grows. -/
theorem Live.grown {w0 : World} {B k : Nat} {t : Sp.Tree} (h : Live w0 w B t k D) {row : Option Nat} (hg : w.grownBy w' row) (hr : ∀ g, row = some g → ¬ D g ∧ w0.heap.size ≤ g) : Live w0 w' B t k D := by
  obtain ⟨φ, μ, hR, hD⟩ := h.rep
  refine ⟨h.ok, h.few, h.low.trans ⟨hg.os, hg.tape, hg.output, hg.size, fun j hj => hg.block j (Nat.lt_of_lt_of_le hj h.low.size) (fun e => by have := (hr j e.symm).2; omega)⟩, ⟨φ, μ, hR.dom_same h.ok (fun j hj o ho => ?_), hD⟩, fun j hj => ⟨(h.from0 j hj).1, Nat.lt_of_lt_of_le (h.from0 j hj).2 hg.size⟩, h.max0⟩
  rw [hg.block j (Array.getElem?_eq_some_iff.1 ho).1 (fun e => (hr j e.symm).1 (hD j hj))]
  exact ho
end
end Go.Proofs.YtcgpmnlondnbhaaGreatDoor

namespace Go.Proofs.YtcgpmnlondnbhaaGreatDoor
open Go Go.RowKit Txt Sp

/-- An answer of a log lies at a place; nil names have no room. -/
def SrcAt (w : World) (b off : Nat) (x : Sp.Did) : Prop := ∃ ad cap, Texts w (.slice ad x.a.names.length cap) x.a.names ∧ (ad = none → x.a.names.length = 0 ∧ cap = 0) ∧ ∀ (i : Nat) (y : Value), (didA x (.slice ad x.a.names.length cap))[i]? = some y → w.cell? ⟨b, off + i, none⟩ = some y
/-- The slice v holds the log L; where it is nil it has no room. -/
def Src (w : World) (v : Value) (L : List Sp.Did) : Prop :=
  ∃ ad cap, v = .slice ad L.length cap ∧ (ad = none → L.length = 0 ∧ cap = 0) ∧ L.length ≤ cap ∧ cap ≤ maxLen ∧ (0 < L.length → ∃ b off, ad = some ⟨b, off, none⟩ ∧ b < w.heap.size ∧ ∀ (k : Nat) (x : Sp.Did), L[k]? = some x → SrcAt w b (off + k * 16) x)

/-- Cells as they are read. -/
def readCells (w : World) (b off n : Nat) : List Value := (List.range n).map (fun j => (w.cell? ⟨b, off + j, none⟩).getD (.bool false))
theorem readCells_length (w : World) (b off n : Nat) : (readCells w b off n).length = n := by unfold readCells; rw [List.length_map, List.length_range]
theorem readCells_at {w : World} {b off n j : Nat} (h : j < n) {y : Value} (hy : w.cell? ⟨b, off + j, none⟩ = some y) : (readCells w b off n)[j]? = some y := by
  unfold readCells
  rw [List.getElem?_map, List.getElem?_range h, Option.map_some, hy]
  rfl

theorem didA_one {x : Sp.Did} {ad : Option Addr} {m cap : Nat} {i : Nat} {y : Value} (h : (didA x (.slice ad m cap))[i]? = some y) : y.oneCell' = true := by
  have hi : i < 16 := (Array.getElem?_eq_some_iff.1 h).1
  match i, hi with
  | 0, _ | 1, _ | 2, _ | 3, _ | 4, _ | 5, _ | 6, _ | 7, _ | 8, _ | 9, _ | 10, _ | 11, _ | 12, _ | 13, _ | 14, _ | 15, _ =>
    have := Option.some.inj h
    subst this
    rfl
theorem didA_get (x : Sp.Did) (nv : Value) {i : Nat} (h : i < 16) : ∃ y, (didA x nv)[i]? = some y := ⟨(didA x nv)[i]'h, Array.getElem?_eq_getElem h⟩

section
variable {w : World} {b off : Nat} {L : List Sp.Did}
theorem src_cell (h : ∀ (k : Nat) (x : Sp.Did), L[k]? = some x → SrcAt w b (off + k * 16) x) {j : Nat} (hj : j < L.length * 16) : ∃ y, w.cell? ⟨b, off + j, none⟩ = some y ∧ y.oneCell' = true := by
  have hk : j / 16 < L.length := by omega
  obtain ⟨ad, cap, _, _, hc⟩ := h (j / 16) (L[j / 16]'hk) (List.getElem?_eq_getElem hk)
  obtain ⟨y, hy⟩ := didA_get (L[j / 16]'hk) (.slice ad (L[j / 16]'hk).a.names.length cap) (i := j % 16) (by omega)
  have := hc _ _ hy
  rw [show off + j / 16 * 16 + j % 16 = off + j by omega] at this
  exact ⟨y, this, didA_one hy⟩
theorem src_reads (h : ∀ (k : Nat) (x : Sp.Did), L[k]? = some x → SrcAt w b (off + k * 16) x) {j : Nat} {u : Value} (hu : (readCells w b off (L.length * 16))[j]? = some u) : w.cell? ⟨b, off + j, none⟩ = some u ∧ u.oneCell' = true := by
  have hj : j < L.length * 16 := by
    have := (List.getElem?_eq_some_iff.1 hu).1
    rwa [readCells_length] at this
  obtain ⟨y, hy, h1⟩ := src_cell h hj
  rw [readCells_at hj hy] at hu
  cases hu
  exact ⟨hy, h1⟩
end

/-- Behind k rounds: the answers' names below k lie in blocks of their own. -/
structure CopyLog (w wr : World) (g cap : Nat) (L : List Sp.Did) (k : Nat) (xs : List Value) : Prop where
  low : Below w.heap.size w wr
  own : wr.ownsRow w.heap.size 81 16 (.slice (some ⟨g, 0, none⟩) L.length cap) L.length xs
  done : ∀ (j : Nat) (x : Sp.Did), j < k → L[j]? = some x → ∃ ad c, OwnTexts w.heap.size wr (.slice ad x.a.names.length c) x.a.names ∧ (∀ e, (Value.slice ad x.a.names.length c).ownBlock = some e → e ≠ g) ∧ ∀ (i : Nat) (y : Value), (didA x (.slice ad x.a.names.length c))[i]? = some y → xs[j * 16 + i]? = some y
  rest : ∀ (j : Nat) (x : Sp.Did), k ≤ j → L[j]? = some x → ∃ ad c, Texts w (.slice ad x.a.names.length c) x.a.names ∧ (ad = none → x.a.names.length = 0 ∧ c = 0) ∧ ∀ (i : Nat) (y : Value), (didA x (.slice ad x.a.names.length c))[i]? = some y → xs[j * 16 + i]? = some y

theorem CopyLog.log {w wr : World} {g cap : Nat} {L : List Sp.Did} {k : Nat} {xs : List Value} (h : CopyLog w wr g cap L k xs) (hk : L.length ≤ k) : LogAt w.heap.size wr (fun _ => False) (.slice (some ⟨g, 0, none⟩) L.length cap) L xs :=
  ⟨h.own, fun _ _ hf => hf, fun j x hx => by
    obtain ⟨ad, c, h1, h2, h3⟩ := h.done j x (Nat.lt_of_lt_of_le (List.getElem?_eq_some_iff.1 hx).1 hk) hx
    refine ⟨ad, c, h1, fun e he => ⟨fun hf => hf, fun hg => h2 e he ?_⟩, h3⟩
    have : g = e := by simpa [Value.ownBlock] using hg
    exact this.symm⟩

theorem didA_names {x : Sp.Did} {v v' : Value} {i : Nat} (h : i ≠ 15) : (didA x v')[i]? = (didA x v)[i]? := by
  by_cases hi : i < 16
  · match i, hi, h with
    | 0, _, _ | 1, _, _ | 2, _, _ | 3, _, _ | 4, _, _ | 5, _, _ | 6, _, _ | 7, _, _ | 8, _, _ | 9, _, _ | 10, _, _ | 11, _, _ | 12, _, _ | 13, _, _ | 14, _, _ => rfl
    | n + 15, hi, h => exact absurd (by omega : n + 15 = 15) h
  · rw [Array.getElem?_eq_none (by show (didA x v').size ≤ i; show 16 ≤ i; omega), Array.getElem?_eq_none (by show 16 ≤ i; omega)]

/-- One round more: new names in a block of their own, and the cell told so. -/
theorem CopyLog.step {w wr w1 : World} {g cap : Nat} {L : List Sp.Did} {k : Nat} {xs : List Value} (h : CopyLog w wr g cap L k xs) {x : Sp.Did} (hx : L[k]? = some x) (hb : Below wr.heap.size wr w1)
    {ad : Option Addr} {c : Nat} (hn : OwnTexts wr.heap.size w1 (.slice ad x.a.names.length c) x.a.names) :
    CopyLog w (w1.setCell ⟨g, k * 16 + 15, none⟩ (.slice ad x.a.names.length c)) g cap L (k + 1) (xs.set (k * 16 + 15) (.slice ad x.a.names.length c)) := by
  have hg := h.own.lt g rfl
  have hlen := h.own.1
  have hkl := (List.getElem?_eq_some_iff.1 hx).1
  have own1 : w1.ownsRow w.heap.size 81 16 (.slice (some ⟨g, 0, none⟩) L.length cap) L.length xs := owns_size h.own (fun k o _ ho => heap_below hb _ _ ho)
  have keep : ∀ (e : Nat) (o : Obj), e ≠ g → w1.heap[e]? = some o → (w1.setCell ⟨g, k * 16 + 15, none⟩ (.slice ad x.a.names.length c)).heap[e]? = some o := fun e o he ho => by
    rw [heap_setCell_ne _ he]
    exact ho
  have other : ∀ (j i : Nat), i < 16 → (j ≠ k ∨ i ≠ 15) → (xs.set (k * 16 + 15) (.slice ad x.a.names.length c))[j * 16 + i]? = xs[j * 16 + i]? := fun j i hi hor => by
    rw [List.getElem?_set_ne (by omega)]
  refine ⟨?_, (own1.stored _ _).1, fun j y hj hy => ?_, fun j y hj hy => ?_⟩
  · exact (below_next h.low hb).setCell hg.1 _
  · by_cases hjk : j = k
    · subst hjk
      rw [hx] at hy
      cases hy
      refine ⟨ad, c, (hn.mono h.low.size).keep (fun e o he ho => keep e o (fun hh => by
        have := (own_lt hn e he).1
        omega) ho), fun e he hh => by
          have := (own_lt hn e he).1
          omega, fun i z hz => ?_⟩
      have hi : i < 16 := (Array.getElem?_eq_some_iff.1 hz).1
      by_cases h15 : i = 15
      · subst h15
        rw [List.getElem?_set_self (by rw [hlen]; omega)]
        exact hz
      · rw [other _ _ hi (Or.inr h15)]
        obtain ⟨ad0, c0, _, _, h3⟩ := h.rest j x (Nat.le_refl _) hx
        refine h3 i z ?_
        rw [← hz]
        exact didA_names h15
    · obtain ⟨ad0, c0, h1, h2, h3⟩ := h.done j y (by omega) hy
      refine ⟨ad0, c0, (h1.below hb).keep (fun e o he ho => keep e o (h2 e he) ho), h2, fun i z hz => ?_⟩
      rw [other _ _ (Array.getElem?_eq_some_iff.1 hz).1 (Or.inl hjk)]
      exact h3 i z hz
  · obtain ⟨ad0, c0, h1, h2, h3⟩ := h.rest j y (by omega) hy
    refine ⟨ad0, c0, h1, h2, fun i z hz => ?_⟩
    rw [other _ _ (Array.getElem?_eq_some_iff.1 hz).1 (Or.inl (by omega))]
    exact h3 i z hz
end Go.Proofs.YtcgpmnlondnbhaaGreatDoor

namespace Go.Proofs.YtcgpmnlondnbhaaGreatDoor
open Go Go.RowKit Txt Sp

def MadePost (l : List Sp.Op) (w : World) (e : Ending) (w' : World) : Prop :=
  ∃ v xs v2, e = .returned (.tuple #[v, v2]) ∧ LogAt w.heap.size w' (fun _ => False) v (logFrom 0 Sp.new (l.take 40)) xs ∧ OwnTexts w.heap.size w' v2 (Sp.new.steps (l.take 40)).paths ∧ Below w.heap.size w w'

theorem infoDid : (Tryz.prog.info? 81).map (fun i => (i.zero, i.size, i.bytes)) = some (some (.agg #[.int .i64 0, .int .i64 0, .int .i64 0, .int .i64 0, .int .i64 0, .string ⟨#[]⟩, .string ⟨#[]⟩, .int .i64 0, .int .i64 0, .string ⟨#[]⟩, .int .i64 0, .int .i64 0, .int .i64 0, .int .i64 0, .string ⟨#[]⟩, .slice none 0 0]), 16, 176) := by kernel_rfl

section
set_option maxHeartbeats 8000000
end
end Go.Proofs.YtcgpmnlondnbhaaGreatDoor

namespace Go.Proofs.YtcgpmnlondnbhaaGreatDoor
open Go Go.RowKit Txt Sp

theorem texts_cells {w : World} {b off : Nat} {l : List ByteArray} (hc : ∀ j x, l[j]? = some x → w.cell? ⟨b, off + j, none⟩ = some (.string x)) :
    ∀ j u, (l.map Value.string)[j]? = some u → w.cell? ((⟨b, off, none⟩ : Addr).add j) = some u := by
  intro j u hu
  rw [List.getElem?_map] at hu
  obtain ⟨x, hx, rfl⟩ := Option.map_eq_some_iff.1 hu
  have := hc j x hx
  unfold Addr.add
  split
  · rename_i h; subst h; exact this
  · exact this
theorem texts_one (l : List ByteArray) : ∀ u ∈ l.map Value.string, u.oneCell' = true := by
  intro u hu
  obtain ⟨x, _, rfl⟩ := List.mem_map.1 hu
  rfl
def CopiedPost (L : List Sp.Did) (w : World) (e : Ending) (w' : World) : Prop := ∃ g cap xs, e = .returned (.slice (some ⟨g, 0, none⟩) L.length cap) ∧ LogAt w.heap.size w' (fun _ => False) (.slice (some ⟨g, 0, none⟩) L.length cap) L xs ∧ Below w.heap.size w w'

/-- Behind the first append. -/
theorem copy_log_start {w w1 : World} {g cap b off : Nat} {L : List Sp.Did} (hb : Below w.heap.size w w1) (h : ∀ (k : Nat) (x : Sp.Did), L[k]? = some x → SrcAt w b (off + k * 16) x)
    (hown : w1.ownsRow w.heap.size 81 16 (.slice (some ⟨g, 0, none⟩) L.length cap) L.length (readCells w b off (L.length * 16))) : CopyLog w w1 g cap L 0 (readCells w b off (L.length * 16)) := by
  refine ⟨hb, hown, fun j x hj => absurd hj (Nat.not_lt_zero _), fun j x _ hx => ?_⟩
  obtain ⟨ad, c, h1, h2, h3⟩ := h j x hx
  refine ⟨ad, c, h1, h2, fun i y hy => ?_⟩
  have hi : i < 16 := (Array.getElem?_eq_some_iff.1 hy).1
  have hj := (List.getElem?_eq_some_iff.1 hx).1
  exact readCells_at (by omega) (by rw [← Nat.add_assoc]; exact h3 i y hy)

section
set_option maxHeartbeats 8000000
set_option maxRecDepth 20000 in
theorem judgeCopied_any (w : World) {v : Value} {L : List Sp.Did} (hs : Src w v L) (hL : L.length ≤ 1048576) (hN : ∀ x ∈ L, x.a.names.length ≤ 2000000) : Calls Tryz.prog 19 #[v] w (CopiedPost L w) := by
  obtain ⟨i0, hi, hz0, hz1, hz2⟩ := info_parts infoDid
  obtain ⟨j0, hj, hj0, hj1, hj2⟩ := info_parts Tryz.infoText
  obtain ⟨ad, cap, rfl, h0, h1, h2, h3⟩ := hs
  have hown := World.ownsRow_lit (base := w.heap.size) (e := 81) (size := 16) w #[] 0 (Nat.le_refl _) (by decide) rfl
  have start : Below w.heap.size w (w.alloc (.cells #[] 81)) := (Below.refl _ _).alloc (Nat.le_refl _) _
  have HStart := Lib.hid start
  have HOwn := Lib.hid hown
  cases ad with
  | none =>
    obtain ⟨hl0, rfl⟩ := h0 rfl
    obtain rfl : L = [] := List.length_eq_zero_iff.1 hl0
    have HL0 : Hid (LogAt w.heap.size (w.alloc (.cells #[] 81)) (fun _ => False) (.slice (some ⟨w.heap.size, 0, none⟩) 0 0) [] []) := ⟨hown, fun _ _ hf => hf, fun k x hx => by simp at hx⟩
    clear hl0 h0 h1 h2 h3 hL hN start
    rw [List.length_nil]
    go_enter Tryz.func19, Tryz.ntmps19
    go_wp2_with (at_builtin; refine wpList_append_own_none rfl _ _ 41 rfl w.heap.size 81 i0 16 Tryz.underlying41 hi _ _ _ rfl HOwn.out rfl ?_)
    clear HOwn hown
    go_wp2
    go_loopw [4] (fun i wr => i = .int .i64 0 ∧ wr = w.alloc (.cells #[] 81)) (fun _ _ => 0)
    case atStart => exact ⟨rfl, rfl⟩
    case round =>
      obtain ⟨rfl, rfl⟩ := hrel
      go_wp2
      go_ret
      exact ⟨_, _, _, rfl, HL0.out, HStart.out⟩
  | some a0 =>
    obtain ⟨n, hn⟩ : ∃ n, L.length = n := ⟨_, rfl⟩
    have HN := Lib.hid hn
    have HNm := Lib.hid hN
    obtain ⟨b, off, hcells, hsrc⟩ : ∃ b off, (∀ j u, (readCells w b off (L.length * 16))[j]? = some u → (w.alloc (.cells #[] 81)).cell? (a0.add j) = some u) ∧ ∀ (k : Nat) (x : Sp.Did), L[k]? = some x → SrcAt w b (off + k * 16) x := by
      by_cases hl0 : L = []
      · subst hl0
        exact ⟨0, 0, fun j u hu => by simp [readCells] at hu, fun k x hx => by simp at hx⟩
      · obtain ⟨b, off, e, hbl, hsrc⟩ := h3 (List.length_pos_iff.2 hl0)
        cases e
        refine ⟨b, off, fun j u hu => ?_, hsrc⟩
        have h5 := (src_reads hsrc hu).1
        have h6 : ((⟨b, off, none⟩ : Addr).add j) = ⟨b, off + j, none⟩ := by
          unfold Addr.add
          split
          · rename_i hj
            simp_all
          · rfl
        rw [h6, ← h5]
        exact start.cell (p := ⟨b, off + j, none⟩) hbl
    have HSrc := Lib.hid hsrc
    have HOne : Hid (∀ u ∈ readCells w b off (n * 16), u.oneCell' = true) := fun u hu => by
      obtain ⟨j, hj⟩ := List.getElem?_of_mem hu
      rw [← hn] at hj
      exact (src_reads hsrc hj).2
    rw [hn] at hcells
    have HCells := Lib.hid hcells
    clear hcells
    rw [hn] at h1 hL ⊢
    clear h0 h3 hsrc hN hn start hown
    go_enter Tryz.func19, Tryz.ntmps19
    go_wp2_with (at_builtin; refine wpList_append_own_at _ rfl _ _ 41 rfl w.heap.size 81 i0 _ 16 176 Tryz.underlying41 hi hz0 hz1 hz2 rfl (by decide) _ _ _ rfl HOwn.out a0 n cap (readCells w b off (n * 16)) rfl (readCells_length _ _ _ _) HCells.out HOne.out ?c1 ?c2 ?c3 ?_)
    case c1 => unfold maxLen; omega
    case c2 => omega
    intro v1 w1 hown1 hgrow1 hnil hloc
    obtain ⟨g, c1, rfl⟩ : ∃ g c1, v1 = .slice (some ⟨g, 0, none⟩) n c1 := by
      rcases hown1.2 with ⟨h5, _⟩ | ⟨g, c1, _, hv, _⟩
      · exact (hnil h5).elim
      · exact ⟨g, c1, hv⟩
    have hB1 : Below w.heap.size w w1 := HStart.out.grown hgrow1 (by simp) (fun k hk => (HOwn.out.lt k hk).1)
    have HCp : Hid (CopyLog w w1 g c1 L 0 (readCells w b off (L.length * 16))) := copy_log_start hB1 HSrc.out (by
      have h5 := hown1
      rw [HN.out]
      simpa using h5)
    clear hown1 hgrow1 hnil hloc hB1 HCells HOne HOwn HStart HSrc
    go_wp2
    go_loopw [4] (fun i wr => ∃ (k : Nat) (xs : List Value), k ≤ n ∧ i = .int .i64 k ∧ Hid (CopyLog w wr g c1 L k xs)) (fun i _ => n - (intOf i).toNat)
    case atStart => exact ⟨0, _, Nat.zero_le _, rfl, HCp⟩
    case round =>
      obtain ⟨k, xs, hkn, rfl, HC⟩ := hrel
      clear HCp
      by_cases hlt : k < n
      · obtain ⟨x, hx⟩ : ∃ x, L[k]? = some x := ⟨L[k]'(by have := HN.out; omega), List.getElem?_eq_getElem _⟩
        have HX := Lib.hid hx
        have hnm := HNm.out x (List.mem_of_getElem? hx)
        obtain ⟨na, nc, htx, hnone, hxs⟩ := HC.out.rest k x (Nat.le_refl _) hx
        have hxc := hxs 15 (.slice na x.a.names.length nc) rfl
        have hk1 : k * 16 + 15 < n * 16 := by omega
        have k1 : wr.cell? ⟨g, k * 16 + 15, none⟩ = some (.slice na x.a.names.length nc) := by
          have h5 := HC.out.own.cellAt (k * 16 + 15) (by rw [HN.out]; exact hk1)
          rw [h5]
          exact hxc
        have k2 : wr.frozen? ⟨g, k * 16 + 15, none⟩ = false := HC.out.own.frozenAt _
        have hgs : g < wr.heap.size := (HC.out.own.lt g rfl).2
        clear hx hxs hxc
        obtain ⟨m, hm⟩ : ∃ m, x.a.names.length = m := ⟨_, rfl⟩
        have HM := Lib.hid hm
        have HTx := Lib.hid htx
        rw [hm] at k1 hnm hnone
        clear hm htx
        have hown0 := World.ownsRow_lit (base := wr.heap.size) (e := 9) (size := 1) wr #[] 0 (Nat.le_refl _) (by decide) rfl
        have start0 : Below wr.heap.size wr (wr.alloc (.cells #[] 9)) := (Below.refl _ _).alloc (Nat.le_refl _) _
        obtain ⟨W0, hW0⟩ : ∃ W, wr.alloc (.cells #[] 9) = W := ⟨_, rfl⟩
        rw [hW0] at hown0 start0
        have HOwn0 := Lib.hid hown0
        have HStart0 := Lib.hid start0
        have k1' : W0.cell? ⟨g, k * 16 + 15, none⟩ = some (.slice na m nc) := (start0.cell (p := ⟨g, k * 16 + 15, none⟩) hgs).trans k1
        have k2' : W0.frozen? ⟨g, k * 16 + 15, none⟩ = false := (start0.frozen (p := ⟨g, k * 16 + 15, none⟩) hgs).trans k2
        cases na with
        | none =>
          obtain ⟨rfl, rfl⟩ := hnone rfl
          have HNew : Hid (OwnTexts wr.heap.size W0 (.slice (some ⟨wr.heap.size, 0, none⟩) x.a.names.length 0) x.a.names) := by
            have h5 := HM.out
            have h6 : x.a.names = [] := List.length_eq_zero_iff.1 h5
            show OwnTexts _ _ _ _
            rw [h6]
            exact ⟨_, hown0⟩
          clear hnone hown0 start0
          go_wp2_with (at_builtin; refine wpList_append_own_none rfl _ _ 30 rfl wr.heap.size 9 j0 1 Tryz.underlying30 hj _ _ _ rfl HOwn0.out rfl ?_)
          have HStep := Lib.hid (HC.out.step HX.out HStart0.out HNew.out)
          rw [HM.out] at HStep
          clear HNew HOwn0
          go_wp2
          go_roundw
          case rel => exact ⟨k + 1, _, by omega, by go_num, HStep⟩
          case measure => simp [intOf]; omega
        | some a =>
          have HC2 : Hid (∀ j u, (x.a.names.map Value.string)[j]? = some u → W0.cell? (a.add j) = some u) := by
            obtain ⟨ad, cap, e, h1, h2, h3⟩ := HTx.out
            cases e
            cases hxn : x.a.names with
            | nil => intro j u hu; simp at hu
            | cons y r =>
              rw [hxn] at h3
              obtain ⟨b2, off2, e2, hb2, hc2⟩ := h3 (by simp)
              cases e2
              exact texts_cells (fun j x hx => ((below_next HC.out.low start0).cell (p := ⟨b2, off2 + j, none⟩) hb2).trans (hc2 j x hx))
          have HLen : Hid ((x.a.names.map Value.string).length = m * 1) := by show (x.a.names.map Value.string).length = m * 1; rw [List.length_map, HM.out, Nat.mul_one]
          clear hnone hown0 start0
          go_wp2_with (at_builtin; refine wpList_append_own_at _ rfl _ _ 30 rfl wr.heap.size 9 j0 (.string ByteArray.empty) 1 16 Tryz.underlying30 hj hj0 hj1 hj2 rfl (by decide) _ _ _ rfl HOwn0.out a m nc (x.a.names.map Value.string) rfl HLen.out HC2.out (texts_one _) ?d1 ?d2 ?d3 ?_)
          case d1 => unfold maxLen; omega
          case d2 => omega
          case d3 => exact HStart0.out.size
          intro v2 w2 hown2 hgrow2 hnil2 _
          obtain ⟨g2, c2, rfl⟩ : ∃ g2 c2, v2 = .slice (some ⟨g2, 0, none⟩) m c2 := by
            rcases hown2.2 with ⟨h5, _⟩ | ⟨g2, c2, _, hv, _⟩
            · exact (hnil2 h5).elim
            · exact ⟨g2, c2, hv⟩
          have hB2 : Below wr.heap.size wr w2 := HStart0.out.grown hgrow2 HStart0.out.size (fun k hk => (HOwn0.out.lt k hk).1)
          have HNew : Hid (OwnTexts wr.heap.size w2 (.slice (some ⟨g2, 0, none⟩) x.a.names.length c2) x.a.names) := by
            have h5 := hown2
            show OwnTexts _ _ _ _
            rw [HM.out]
            refine ⟨9, ?_⟩
            rw [HM.out]
            exact h5
          have HStep := Lib.hid (HC.out.step HX.out hB2 HNew.out)
          rw [HM.out] at HStep
          have k3 : w2.cell? ⟨g, k * 16 + 15, none⟩ = some (.slice (some a) m nc) := (hB2.cell (p := ⟨g, k * 16 + 15, none⟩) hgs).trans k1
          have k4 : w2.frozen? ⟨g, k * 16 + 15, none⟩ = false := (hB2.frozen (p := ⟨g, k * 16 + 15, none⟩) hgs).trans k2
          clear HNew HOwn0 hown2 hgrow2 hnil2 hB2 HC2 HLen k1 k2 k1' k2'
          go_wp2
          go_roundw
          case rel => exact ⟨k + 1, _, by omega, by go_num, HStep⟩
          case measure => simp [intOf]; omega
      · go_wp2
        go_ret
        have hl := HC.out.log (by have := HN.out; omega)
        rw [HN.out] at hl
        unfold CopiedPost
        rw [HN.out]
        exact ⟨_, _, xs, rfl, hl, HC.out.low⟩
end
end Go.Proofs.YtcgpmnlondnbhaaGreatDoor

namespace Go.Proofs.YtcgpmnlondnbhaaGreatDoor
open Go Go.Joins Go.ChangeShapes Go.WideShapes Go.RowKit Go.Deep

/-- A slice of texts that is read. -/
def NamesD {H : Type} (nd : DataW H) (l : List ByteArray) : Prop := (nd = .nil ∧ l = []) ∨ ∃ sp, nd = .slice (strs l) sp
def didD {H : Type} (x : Sp.Did) (nd : DataW H) : DataW H := .agg [.lit (.int .i64 x.node), .lit (.int .i64 x.task), .lit (.int .i64 x.frm), .lit (.int .i64 x.till), opD x.o, .agg [.lit (.int .i64 x.a.code), .lit (.int .i64 x.a.kind), .lit (.int .i64 x.a.links), .lit (.int .i64 x.a.size), .lit (.string x.a.data.data.toList), nd]]

section
variable {H : Type} {enc : TypeId × Value → H} {W : World}
set_option maxRecDepth 100000 in
theorem names_read {fuel : Nat} {cs : List Value} {d : DataW H} {ps : List MemPlace} (h : DataW.trod enc Tryz.prog W 0 (fun _ => true) true fuel 30 cs = some (d, ps)) (hlt : ∀ x ∈ ps, x.block < W.heap.size) :
    ∃ (l : List ByteArray) (ad : Option Addr) (cap : Nat), cs = [.slice ad l.length cap] ∧ Texts W (.slice ad l.length cap) l ∧ (ad = none → l.length = 0 ∧ cap = 0) ∧ NamesD d l := by
  rcases open_strings Tryz.underlying30 Tryz.underlying9 (show Tryz.prog.cellsOf 9 = 1 by kernel_rfl) h with ⟨hcs, hx⟩ | ⟨a, len, cap, ss, hcs, _, hl, hm, hz, hx, hcell, hsz⟩
  · simp only [Prod.mk.injEq] at hx
    exact ⟨[], none, 0, hcs, Texts.void W, fun _ => ⟨rfl, rfl⟩, Or.inl ⟨hx.1, rfl⟩⟩
  · simp only [Prod.mk.injEq] at hx
    obtain ⟨rfl, rfl⟩ := hx
    simp only [if_true] at hz
    have hlen : (ss.take len).length = len := by rw [List.length_take]; omega
    refine ⟨ss.take len, some a, cap, by rw [hlen]; exact hcs, ⟨some a, cap, rfl, by omega, hm, fun hp => ?_⟩, (fun h => by cases h), Or.inr ⟨_, rfl⟩⟩
    have hpos : 0 < ss.length := by omega
    obtain ⟨b, off, spot⟩ := a
    have hspot : spot = none := by simpa [Addr.add] using World.cell?_spot (hcell 0 hpos)
    subst hspot
    refine ⟨b, off, rfl, hlt (.cell b off) (MemPlace.mem_row.2 ⟨0, by omega, by simp⟩), fun j x hx => ?_⟩
    rw [List.getElem?_take] at hx
    split at hx
    · have hj := (List.getElem?_eq_some_iff.1 hx).1
      have := hcell j hj
      rw [add_plain] at this
      rw [this]
      simp [List.getD, hx]
    · cases hx

set_option maxRecDepth 100000 in
theorem op_read {fuel : Nat} {c0 c1 c2 c3 c4 c5 : Value} {x : DataW H × List MemPlace} (h : DataW.trod enc Tryz.prog W 0 (fun _ => true) true fuel 35 [c0, c1, c2, c3, c4, c5] = some x) :
    ∃ o : Sp.Op, [c0, c1, c2, c3, c4, c5] = (opA o).toList ∧ x = (opD o, []) ∧ OpIn o := by
  obtain ⟨xs, n, rfl, hx, _, hxl, hf⟩ := DataW.trod_struct Tryz.underlying35 h
  match xs, hxl with
  | [x0, x1, x2, x3, x4, x5], _ =>
    have e1 : Tryz.prog.cellsOf 3 = 1 := by kernel_rfl
    have e2 : Tryz.prog.cellsOf 9 = 1 := by kernel_rfl
    have t0 : DataW.trod enc Tryz.prog W 0 (fun _ => true) true n 3 (List.take (Tryz.prog.cellsOf 3) (List.drop 0 [c0, c1, c2, c3, c4, c5])) = some x0 := hf 0 _ rfl
    have t1 : DataW.trod enc Tryz.prog W 0 (fun _ => true) true n 9 (List.take (Tryz.prog.cellsOf 9) (List.drop 1 [c0, c1, c2, c3, c4, c5])) = some x1 := hf 1 _ rfl
    have t2 : DataW.trod enc Tryz.prog W 0 (fun _ => true) true n 9 (List.take (Tryz.prog.cellsOf 9) (List.drop 2 [c0, c1, c2, c3, c4, c5])) = some x2 := hf 2 _ rfl
    have t3 : DataW.trod enc Tryz.prog W 0 (fun _ => true) true n 3 (List.take (Tryz.prog.cellsOf 3) (List.drop 3 [c0, c1, c2, c3, c4, c5])) = some x3 := hf 3 _ rfl
    have t4 : DataW.trod enc Tryz.prog W 0 (fun _ => true) true n 3 (List.take (Tryz.prog.cellsOf 3) (List.drop 4 [c0, c1, c2, c3, c4, c5])) = some x4 := hf 4 _ rfl
    have t5 : DataW.trod enc Tryz.prog W 0 (fun _ => true) true n 9 (List.take (Tryz.prog.cellsOf 9) (List.drop 5 [c0, c1, c2, c3, c4, c5])) = some x5 := hf 5 _ rfl
    rw [e1] at t0 t3 t4
    rw [e2] at t1 t2 t5
    obtain ⟨n0, h0, rfl, f0⟩ := DataW.trod_int Tryz.underlying3 t0
    obtain ⟨s1, h1, rfl, f1⟩ := DataW.trod_string Tryz.underlying9 t1
    obtain ⟨s2, h2, rfl, f2⟩ := DataW.trod_string Tryz.underlying9 t2
    obtain ⟨n3, h3, rfl, f3⟩ := DataW.trod_int Tryz.underlying3 t3
    obtain ⟨n4, h4, rfl, f4⟩ := DataW.trod_int Tryz.underlying3 t4
    obtain ⟨s5, h5, rfl, f5⟩ := DataW.trod_string Tryz.underlying9 t5
    cases h0; cases h1; cases h2; cases h3; cases h4; cases h5
    exact ⟨⟨n0, s1, s2, n3, n4, s5⟩, rfl, hx, ⟨f0, f1, f2, f3, f4, f5⟩⟩

set_option maxRecDepth 100000 in
theorem did_read {fuel : Nat} {cs : List Value} {d : DataW H} {ps : List MemPlace} (h : DataW.trod enc Tryz.prog W 0 (fun _ => true) true fuel 81 cs = some (d, ps)) (hlt : ∀ x ∈ ps, x.block < W.heap.size) :
    ∃ (x : Sp.Did) (ad : Option Addr) (cap : Nat) (nd : DataW H), cs = (didA x (.slice ad x.a.names.length cap)).toList ∧ d = didD x nd ∧ Texts W (.slice ad x.a.names.length cap) x.a.names ∧ (ad = none → x.a.names.length = 0 ∧ cap = 0) ∧ NamesD nd x.a.names ∧ OpIn x.o := by
  obtain ⟨xs, n, rfl, hx, hcl, hxl, hf⟩ := DataW.trod_struct Tryz.underlying81 h
  rw [show Tryz.prog.cellsOf 81 = 16 by kernel_rfl] at hcl
  match xs, hxl, cs, hcl with
  | [x0, x1, x2, x3, x4, x5], _, [c0, c1, c2, c3, c4, c5, c6, c7, c8, c9, c10, c11, c12, c13, c14, c15], _ =>
    have e1 : Tryz.prog.cellsOf 3 = 1 := by kernel_rfl
    have e2 : Tryz.prog.cellsOf 9 = 1 := by kernel_rfl
    have e3 : Tryz.prog.cellsOf 35 = 6 := by kernel_rfl
    have e4 : Tryz.prog.cellsOf 32 = 6 := by kernel_rfl
    have e5 : Tryz.prog.cellsOf 30 = 1 := by kernel_rfl
    have e6 : Tryz.prog.cellsOf 29 = 1 := by kernel_rfl
    have t0 : DataW.trod enc Tryz.prog W 0 (fun _ => true) true n 3 (List.take (Tryz.prog.cellsOf 3) (List.drop 0 [c0, c1, c2, c3, c4, c5, c6, c7, c8, c9, c10, c11, c12, c13, c14, c15])) = some x0 := hf 0 _ rfl
    have t1 : DataW.trod enc Tryz.prog W 0 (fun _ => true) true n 3 (List.take (Tryz.prog.cellsOf 3) (List.drop 1 [c0, c1, c2, c3, c4, c5, c6, c7, c8, c9, c10, c11, c12, c13, c14, c15])) = some x1 := hf 1 _ rfl
    have t2 : DataW.trod enc Tryz.prog W 0 (fun _ => true) true n 3 (List.take (Tryz.prog.cellsOf 3) (List.drop 2 [c0, c1, c2, c3, c4, c5, c6, c7, c8, c9, c10, c11, c12, c13, c14, c15])) = some x2 := hf 2 _ rfl
    have t3 : DataW.trod enc Tryz.prog W 0 (fun _ => true) true n 3 (List.take (Tryz.prog.cellsOf 3) (List.drop 3 [c0, c1, c2, c3, c4, c5, c6, c7, c8, c9, c10, c11, c12, c13, c14, c15])) = some x3 := hf 3 _ rfl
    have t4 : DataW.trod enc Tryz.prog W 0 (fun _ => true) true n 35 (List.take (Tryz.prog.cellsOf 35) (List.drop 4 [c0, c1, c2, c3, c4, c5, c6, c7, c8, c9, c10, c11, c12, c13, c14, c15])) = some x4 := hf 4 _ rfl
    have t5 : DataW.trod enc Tryz.prog W 0 (fun _ => true) true n 32 (List.take (Tryz.prog.cellsOf 32) (List.drop 10 [c0, c1, c2, c3, c4, c5, c6, c7, c8, c9, c10, c11, c12, c13, c14, c15])) = some x5 := hf 5 _ rfl
    rw [e1] at t0 t1 t2 t3
    rw [e3] at t4
    rw [e4] at t5
    obtain ⟨n0, h0, rfl, f0⟩ := DataW.trod_int Tryz.underlying3 t0
    obtain ⟨n1, h1, rfl, f1⟩ := DataW.trod_int Tryz.underlying3 t1
    obtain ⟨n2, h2, rfl, f2⟩ := DataW.trod_int Tryz.underlying3 t2
    obtain ⟨n3, h3, rfl, f3⟩ := DataW.trod_int Tryz.underlying3 t3
    obtain ⟨o, h4, rfl, f4⟩ := op_read t4
    obtain ⟨ys, m, hm, hy, _, hyl, hg⟩ := DataW.trod_struct Tryz.underlying32 t5
    match ys, hyl with
    | [y0, y1, y2, y3, y4, y5], _ =>
      have u0 : DataW.trod enc Tryz.prog W 0 (fun _ => true) true m 29 (List.take (Tryz.prog.cellsOf 29) (List.drop 0 [c10, c11, c12, c13, c14, c15])) = some y0 := hg 0 _ rfl
      have u1 : DataW.trod enc Tryz.prog W 0 (fun _ => true) true m 3 (List.take (Tryz.prog.cellsOf 3) (List.drop 1 [c10, c11, c12, c13, c14, c15])) = some y1 := hg 1 _ rfl
      have u2 : DataW.trod enc Tryz.prog W 0 (fun _ => true) true m 3 (List.take (Tryz.prog.cellsOf 3) (List.drop 2 [c10, c11, c12, c13, c14, c15])) = some y2 := hg 2 _ rfl
      have u3 : DataW.trod enc Tryz.prog W 0 (fun _ => true) true m 3 (List.take (Tryz.prog.cellsOf 3) (List.drop 3 [c10, c11, c12, c13, c14, c15])) = some y3 := hg 3 _ rfl
      have u4 : DataW.trod enc Tryz.prog W 0 (fun _ => true) true m 9 (List.take (Tryz.prog.cellsOf 9) (List.drop 4 [c10, c11, c12, c13, c14, c15])) = some y4 := hg 4 _ rfl
      have u5 : DataW.trod enc Tryz.prog W 0 (fun _ => true) true m 30 (List.take (Tryz.prog.cellsOf 30) (List.drop 5 [c10, c11, c12, c13, c14, c15])) = some y5 := hg 5 _ rfl
      rw [e6] at u0
      rw [e1] at u1 u2 u3
      rw [e2] at u4
      rw [e5] at u5
      obtain ⟨m0, k0, rfl, g0⟩ := DataW.trod_int Tryz.underlying29 u0
      obtain ⟨m1, k1, rfl, g1⟩ := DataW.trod_int Tryz.underlying3 u1
      obtain ⟨m2, k2, rfl, g2⟩ := DataW.trod_int Tryz.underlying3 u2
      obtain ⟨m3, k3, rfl, g3⟩ := DataW.trod_int Tryz.underlying3 u3
      obtain ⟨s4, k4, rfl, g4⟩ := DataW.trod_string Tryz.underlying9 u4
      obtain ⟨d5, p5⟩ := y5
      subst hy
      simp only [Prod.mk.injEq] at hx
      obtain ⟨rfl, rfl⟩ := hx
      obtain ⟨l, ad, cap, k5, ht, hn, hd⟩ := names_read u5 (fun x hx => hlt x (by simp [hx]))
      cases h0; cases h1; cases h2; cases h3; cases k0; cases k1; cases k2; cases k3; cases k4; cases k5
      simp only [opA] at h4
      cases h4
      exact ⟨⟨n0, n1, n2, n3, o, ⟨m0, m1, m2, m3, s4, l⟩⟩, ad, cap, d5, rfl, rfl, ht, hn, hd, f4⟩

/-- What a log reads as. -/
def LogD (d : DataW H) (L : List Sp.Did) : Prop := (d = .nil ∧ L = []) ∨ ∃ (nds : List (DataW H)) (sp : List (DataW H)), nds.length = L.length ∧ d = .slice nds sp ∧ ∀ (k : Nat) (x : Sp.Did), L[k]? = some x → ∃ nd, nds[k]? = some (didD x nd) ∧ NamesD nd x.a.names

set_option maxRecDepth 100000 in
/-- A log among the arguments. -/
theorem open_dids {base : Nat} {v : Value} {d : DataW H} {ps : List MemPlace} (hval : Value.okWide Tryz.prog W .any base 41 v)
    (h : DataW.Trod enc Tryz.prog W 0 (fun _ => true) true 41 v d ps) (hlt : ∀ x ∈ ps, x.block < W.heap.size) :
    ∃ L : List Sp.Did, Src W v L ∧ (∀ x ∈ L, OpIn x.o) ∧ LogD d L := by
  obtain ⟨a0, len, cap, rfl⟩ := okWide_slice Tryz.underlying41 hval
  obtain ⟨fuel, hf⟩ := h
  rcases open_slice Tryz.underlying41 hf with ⟨hcs, hx⟩ | ⟨a, len', cap', m, n, D, Pl, hcs, _, hl, hm, hmm, hx, hi⟩
  · simp [Value.cells] at hcs
    obtain ⟨rfl, rfl, rfl⟩ := hcs
    simp only [Prod.mk.injEq] at hx
    exact ⟨[], ⟨none, 0, rfl, fun _ => ⟨rfl, rfl⟩, Nat.le_refl _, Nat.zero_le _, fun h => absurd h (by simp)⟩, by simp, Or.inl ⟨hx.1, rfl⟩⟩
  · simp [Value.cells] at hcs
    obtain ⟨rfl, rfl, rfl⟩ := hcs
    simp only [Prod.mk.injEq] at hx
    obtain ⟨rfl, rfl⟩ := hx
    simp only [if_true] at hmm
    have e16 : Tryz.prog.cellsOf 81 = 16 := by kernel_rfl
    rw [e16] at hi hlt
    have : Inhabited Sp.Did := ⟨⟨0, 0, 0, 0, ⟨0, ⟨#[]⟩, ⟨#[]⟩, 0, 0, ⟨#[]⟩⟩, {}⟩⟩
    have hspot : 0 < m → a.spot = none := fun h0 => by
      obtain ⟨cs', hc, _⟩ := hi 0 h0
      obtain ⟨_, hcl, hat⟩ := World.cells?_some hc
      have h1 := hat 0 (by omega)
      simpa [Addr.add] using World.cell?_spot (h1.trans (List.getElem?_eq_getElem (by rw [hcl]; omega)))
    obtain ⟨b, off, spot⟩ := a
    obtain ⟨X, hX⟩ := choose_lt (α := Sp.Did) (n := len) (p := fun i x => spot = none ∧ SrcAt W b (off + i * 16) x ∧ OpIn x.o ∧ ∃ nd, D i = didD x nd ∧ NamesD nd x.a.names) (fun i hil => by
      obtain ⟨cs', hc, ht⟩ := hi i (by omega)
      obtain ⟨x, ad, c, nd, rfl, hd, htx, hn, hnd, ho⟩ := did_read ht (fun p hp => hlt p (List.mem_append_right _ (List.mem_flatMap.2 ⟨i, List.mem_range.2 (by omega), hp⟩)))
      obtain ⟨_, hcl, hat⟩ := World.cells?_some hc
      have hspot : spot = none := hspot (by omega)
      subst hspot
      refine ⟨x, rfl, ⟨ad, c, htx, hn, fun k y hy => ?_⟩, ho, nd, hd, hnd⟩
      have hk : k < 16 := (Array.getElem?_eq_some_iff.1 hy).1
      have h2 := hat k hk
      rw [add_plain, add_plain] at h2
      rw [h2]
      simpa using hy)
    refine ⟨(List.range len).map X, ⟨some ⟨b, off, spot⟩, cap, by simp, (fun h => by cases h), by simpa using hl, hm, fun hp => ?_⟩, fun x hx => ?_, Or.inr ⟨_, _, by simp, rfl, fun k x hx => ?_⟩⟩
    · have hpos : 0 < len := by simpa using hp
      obtain ⟨rfl, _⟩ := hX 0 hpos
      refine ⟨b, off, rfl, hlt (.cell b off) (List.mem_append_left _ (MemPlace.mem_row.2 ⟨0, by show 0 < m * 16; omega, by simp⟩)), fun k x hx => ?_⟩
      rw [List.getElem?_map, Option.map_eq_some_iff] at hx
      obtain ⟨j, hj, rfl⟩ := hx
      have hjj := List.getElem?_eq_some_iff.1 hj
      have hkl : k < len := by simpa using hjj.1
      have : j = k := by simpa using hjj.2.symm
      subst this
      obtain ⟨_, h1, _⟩ := hX j hkl
      exact h1
    · obtain ⟨i, hi', rfl⟩ := List.mem_map.1 hx
      obtain ⟨_, _, h2, _⟩ := hX i (List.mem_range.1 hi')
      exact h2
    · rw [List.getElem?_map, Option.map_eq_some_iff] at hx
      obtain ⟨j, hj, rfl⟩ := hx
      have hjj := List.getElem?_eq_some_iff.1 hj
      have hkl : k < len := by simpa using hjj.1
      have : j = k := by simpa using hjj.2.symm
      subst this
      obtain ⟨_, _, _, nd, hd, hn⟩ := hX j hkl
      exact ⟨nd, by rw [List.getElem?_map, List.getElem?_range hkl, Option.map_some, hd], hn⟩

theorem bulk_pos (d : DataW H) : 1 ≤ Rows.uptoBulk d := by
  cases d with
  | lit l => cases l <;> simp only [Rows.uptoBulk] <;> omega
  | _ => simp only [Rows.uptoBulk] <;> omega
theorem bulk_length : ∀ ds : List (DataW H), ds.length ≤ Rows.uptoBulkAll ds
  | [] => Nat.zero_le _
  | d :: r => by
    have h1 := bulk_length r
    have h2 := bulk_pos d
    rw [List.length_cons, Rows.uptoBulkAll]
    omega
theorem bulk_names {nd : DataW H} {l : List ByteArray} (h : NamesD nd l) : l.length ≤ Rows.uptoBulk nd := by
  rcases h with ⟨rfl, rfl⟩ | ⟨sp, rfl⟩
  · exact Nat.zero_le _
  · have := bulk_length (strs (H := H) l)
    simp only [Rows.uptoBulk]
    simp only [strs, List.length_map] at this
    unfold strs
    omega
theorem bulk_did (x : Sp.Did) {nd : DataW H} (h : NamesD nd x.a.names) : x.o.path.size ≤ Rows.uptoBulk (didD x nd) ∧ x.o.to.size ≤ Rows.uptoBulk (didD x nd) ∧ x.a.names.length ≤ Rows.uptoBulk (didD x nd) := by
  have h1 := bulk_op (H := H) x.o
  have h2 := bulk_names h
  simp only [didD, Rows.uptoBulk, Rows.uptoBulkAll]
  omega
/-- How much a log reads. -/
theorem bulk_dids {d : DataW H} {L : List Sp.Did} (h : LogD d L) (hb : Rows.uptoBulk d ≤ 1048576) : L.length ≤ 1048576 ∧ ∀ x ∈ L, x.o.path.size ≤ 1048576 ∧ x.o.to.size ≤ 1048576 ∧ x.a.names.length ≤ 1048576 := by
  rcases h with ⟨rfl, rfl⟩ | ⟨nds, sp, hl, rfl, hk⟩
  · exact ⟨Nat.zero_le _, fun x hx => by cases hx⟩
  · simp only [Rows.uptoBulk] at hb
    have h1 := bulk_length nds
    refine ⟨by omega, fun x hx => ?_⟩
    obtain ⟨k, hk'⟩ := List.getElem?_of_mem hx
    obtain ⟨nd, hd, hn⟩ := hk k x hk'
    have h2 := bulk_mem (List.mem_of_getElem? hd)
    have h3 := bulk_did x hn
    exact ⟨by omega, by omega, by omega⟩
end
end Go.Proofs.YtcgpmnlondnbhaaGreatDoor
