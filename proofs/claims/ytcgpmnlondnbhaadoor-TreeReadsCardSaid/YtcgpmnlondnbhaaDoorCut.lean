/-
  The document's cut: a text at strokes, in pieces.
-/
import Derived.Test.YtcgpmnlondnbhaaDoorWorld
namespace Go.Proofs.YtcgpmnlondnbhaaDoor
open Go.RowKit Txt

/-- What a slice that the call made itself owns, it holds as texts. -/
theorem Texts.own {w : World} {base : Nat} {e : TypeId} {v : Value} {l : List ByteArray} (h : w.ownsRow base e 1 v l.length (l.map Value.string)) : Texts w v l := by
  rcases h.2 with ⟨rfl, h0⟩ | ⟨g, cap, cur, rfl, hb, hh, hle, hm, hsz, hcur⟩
  · rw [List.length_eq_zero_iff.1 h0]
    exact Texts.void w
  · refine ⟨_, cap, rfl, hle, hm, fun hp => ⟨g, 0, rfl, ?_, fun j x hx => ?_⟩⟩
    · exact (Array.getElem?_eq_some_iff.1 hh).1
    · rw [Nat.zero_add, h.cellAt j (by have := (List.getElem?_eq_some_iff.1 hx).1; omega), List.getElem?_map, hx]
      rfl

/-- The loop of cut, behind k rounds: the pieces so far, and where the next one begins. -/
structure CutRel (s : ByteArray) (done : List ByteArray) (f k : Nat) : Prop where
  le : f ≤ k
  few : done.length ≤ k
  mid : k ≤ s.size → done.map (·.data.toList) ++ cutL (s.data.toList.drop f) = cutL s.data.toList ∧ ∀ b ∈ (s.data.toList.drop f).take (k - f), b ≠ 47
  fin : s.size < k → done.map (·.data.toList) = cutL s.data.toList

theorem CutRel.start (s : ByteArray) : CutRel s [] 0 0 :=
  ⟨Nat.le_refl _, Nat.le_refl _, fun _ => ⟨rfl, by simp⟩, fun h => by omega⟩

theorem CutRel.skip {s : ByteArray} {done : List ByteArray} {f k : Nat} (h : CutRel s done f k) (hlt : k < s.size) (hc : (s[k]'hlt) ≠ 47) : CutRel s done f (k + 1) := by
  have hle := h.le
  have hfew := h.few
  refine ⟨by omega, by omega, fun _ => ?_, fun h2 => by omega⟩
  obtain ⟨h1, h2⟩ := h.mid (by omega)
  refine ⟨h1, fun b hb => ?_⟩
  have e : (s.data.toList.drop f)[k - f]? = some (s[k]'hlt) := by rw [List.getElem?_drop, show f + (k - f) = k by omega]; exact at_data s k hlt
  rw [show k + 1 - f = k - f + 1 by omega, take_snoc _ _ _ e, List.mem_append] at hb
  rcases hb with hb | hb
  · exact h2 b hb
  · rw [List.mem_singleton.1 hb]; exact hc

theorem piece_data (s : ByteArray) (f k : Nat) : (s.extract f k).data.toList = (s.data.toList.drop f).take (k - f) := Lib.extract_data s f k

theorem CutRel.hit {s : ByteArray} {done : List ByteArray} {f k : Nat} (h : CutRel s done f k) (hlt : k < s.size) (hc : (s[k]'hlt) = 47) : CutRel s (done ++ [s.extract f k]) (k + 1) (k + 1) := by
  have hle := h.le
  have hfew := h.few
  refine ⟨by omega, by simp; omega, fun _ => ?_, fun h2 => by omega⟩
  obtain ⟨h1, h2⟩ := h.mid (by omega)
  refine ⟨?_, by simp⟩
  have e : (s.data.toList.drop f)[k - f]? = some 47 := by rw [List.getElem?_drop, show f + (k - f) = k by omega, at_data s k hlt, hc]
  have hl := (List.getElem?_eq_some_iff.1 e).1
  have split : s.data.toList.drop f = (s.data.toList.drop f).take (k - f) ++ 47 :: s.data.toList.drop (k + 1) := by
    conv => lhs; rw [← List.take_append_drop (k - f) (s.data.toList.drop f)]
    congr 1
    rw [List.drop_eq_getElem_cons hl, (List.getElem?_eq_some_iff.1 e).2, List.drop_drop]
    congr 2
    omega
  rw [← h1, List.map_append, List.append_assoc]
  congr 1
  rw [split, cutL_hit h2]
  simp

theorem CutRel.last {s : ByteArray} {done : List ByteArray} {f k : Nat} (h : CutRel s done f k) (hk : k = s.size) : CutRel s (done ++ [s.extract f k]) (k + 1) (k + 1) := by
  have hle := h.le
  have hfew := h.few
  refine ⟨by omega, by simp; omega, fun h2 => by omega, fun _ => ?_⟩
  obtain ⟨h1, h2⟩ := h.mid (by omega)
  have e : (s.data.toList.drop f).take (k - f) = s.data.toList.drop f := List.take_of_length_le (by rw [List.length_drop, ← Lib.size_eq]; omega)
  rw [e] at h2
  rw [← h1, cutL_free h2, List.map_append]
  congr 1
  rw [List.map_singleton, piece_data, e]

theorem CutRel.done {s : ByteArray} {done : List ByteArray} {f k : Nat} (h : CutRel s done f k) (hk : s.size < k) : done = cutB s := by
  unfold cutB
  rw [← h.fin hk, ofL_map]

theorem Tryd.infoText : (Tryd.prog.info? 9).map (fun i => (i.zero, i.size, i.bytes)) = some (some (.string ByteArray.empty), 1, 16) := by kernel_rfl

/-- One piece more, in the round's world. -/
theorem cut_step {w wr w1 : World} {v v' : Value} {done : List ByteArray} {x : ByteArray} {row : Option Nat} {o : Obj} {e : TypeId} (hbel : Below w.heap.size w wr) (hown : wr.ownsRow w.heap.size e 1 v done.length (done.map Value.string))
    (hr : row = v.ownBlock) (hg : (wr.alloc o).grownBy w1 row) (hown1 : w1.ownsRow w.heap.size e 1 v' (done.length + 1) (done.map Value.string ++ [.string x])) :
    Below w.heap.size w w1 ∧ w1.ownsRow w.heap.size e 1 v' (done ++ [x]).length ((done ++ [x]).map Value.string) := by
  have hz := hbel.size
  refine ⟨(hbel.alloc hz _).grown hg (by simp; omega) (fun k hk => (hown.lt k (by rw [← hr]; exact hk)).1), ?_⟩
  simpa using hown1

end Go.Proofs.YtcgpmnlondnbhaaDoor
