/-
  What the reference's rename does with each path. No walk in this text.
-/
import Derived.Test.YtcgpmnlondnbhaaGreatDoorRefKids
import Derived.Test.YtcgpmnlondnbhaaGreatDoorRefStand
namespace Go.Proofs.YtcgpmnlondnbhaaGreatDoor
open Go Go.RowKit Txt Sp

/-- The texts that a round of rename meets. -/
inductive MvCase (dir : Bool) (p q : List ByteArray) (x : List ByteArray × Nat) (path dst s : ByteArray) : Prop where
  | same (h : (s.toList == path.toList) = true) (hm : moved dir p q x = (q ++ x.1.drop p.length, x.2)) (ht : dst ++ s.extract path.size s.size = ofL (joinL (q ++ x.1.drop p.length)))
  | off (h : (s.toList == path.toList) = false) (hd : dir = false) (hm : moved dir p q x = x)
  | short (h : (s.toList == path.toList) = false) (hd : dir = true) (hs : s.size ≤ path.size) (hm : moved dir p q x = x)
  | other (h : (s.toList == path.toList) = false) (hd : dir = true) (hs : path.size < s.size) (he : ((s.extract 0 (path.size + 1)).toList == (path ++ (⟨#[47]⟩ : ByteArray)).toList) = false) (hm : moved dir p q x = x)
  | below (h : (s.toList == path.toList) = false) (hd : dir = true) (hs : path.size < s.size) (he : ((s.extract 0 (path.size + 1)).toList == (path ++ (⟨#[47]⟩ : ByteArray)).toList) = true) (hm : moved dir p q x = (q ++ x.1.drop p.length, x.2)) (ht : dst ++ s.extract path.size s.size = ofL (joinL (q ++ x.1.drop p.length)))
theorem mvCase (dir : Bool) {p q : List ByteArray} {x : List ByteArray × Nat} {path dst s : ByteArray} (hp : Sp.Good p) (hx : Sp.Good x.1) (hpath : path = ofL (joinL p)) (hdst : dst = ofL (joinL q)) (hs : s = ofL (joinL x.1)) : MvCase dir p q x path dst s := by
  have hps : path.size = (joinL p).length := by rw [hpath, Lib.size_eq, ofL_data]
  have hss : s.size = (joinL x.1).length := by rw [hs, Lib.size_eq, ofL_data]
  have hsd : s.data.toList = joinL x.1 := by rw [hs, ofL_data]
  have hpd : path.data.toList = joinL p := by rw [hpath, ofL_data]
  have hpp : (path ++ (⟨#[47]⟩ : ByteArray)).data.toList = joinL p ++ [47] := by
    rw [show (path ++ (⟨#[47]⟩ : ByteArray)).data.toList = path.data.toList ++ [47] by simp, hpd]
  have hpre : (s.extract 0 (path.size + 1)).data.toList = (joinL x.1).take ((joinL p).length + 1) := by rw [Go.Proofs.YtcgpmnlondnbhaaGreatDoor.extract_data, hsd, hps, List.drop_zero, Nat.sub_zero]
  have htext : p <+: x.1 → dst ++ s.extract path.size s.size = ofL (joinL (q ++ x.1.drop p.length)) := fun h => by
    refine Txt.ext ?_
    rw [ofL_data, ← moved_text (q := q) h, show (dst ++ s.extract path.size s.size).data.toList = dst.data.toList ++ (s.extract path.size s.size).data.toList by simp, Go.Proofs.YtcgpmnlondnbhaaGreatDoor.extract_data, hsd, hps, hss, hdst, ofL_data, List.take_of_length_le (by rw [List.length_drop]; exact Nat.le_refl _)]
  by_cases he : x.1 = p
  · refine .same ?_ ?_ (htext (by rw [he]; exact List.prefix_refl _))
    · rw [text_eq]
      exact decide_eq_true (by rw [hs, hpath, he])
    · unfold moved
      rw [if_pos (Or.inl he)]
  have h0 : (s.toList == path.toList) = false := by
    rw [text_eq]
    exact decide_eq_false fun e => he (path_inj hx hp (by rw [← hs, ← hpath]; exact e))
  cases dir with
  | false =>
    refine .off h0 rfl ?_
    unfold moved
    rw [if_neg]
    rintro (h | ⟨h, _⟩)
    · exact he h
    · cases h
  | true =>
    have hb := below_iff hp hx
    by_cases hlt : path.size < s.size
    · by_cases hpr : (joinL x.1).take ((joinL p).length + 1) = joinL p ++ [47]
      · have h1 := hb.1 ⟨by omega, hpr⟩
        refine .below h0 rfl hlt ?_ ?_ (htext h1.1)
        · rw [text_eq]
          exact decide_eq_true (Txt.ext (by rw [hpre, hpp, hpr]))
        · unfold moved
          rw [if_pos (Or.inr ⟨rfl, h1.1⟩)]
      · refine .other h0 rfl hlt ?_ ?_
        · rw [text_eq]
          refine decide_eq_false fun e => hpr ?_
          have h5 : (s.extract 0 (path.size + 1)).data.toList = (path ++ (⟨#[47]⟩ : ByteArray)).data.toList := congrArg (fun z : ByteArray => z.data.toList) e
          rwa [hpre, hpp] at h5
        · unfold moved
          rw [if_neg]
          rintro (h | ⟨_, h⟩)
          · exact he h
          · exact hpr (hb.2 ⟨h, he⟩).2
    · refine .short h0 rfl (by omega) ?_
      unfold moved
      rw [if_neg]
      rintro (h | ⟨_, h⟩)
      · exact he h
      · have := (hb.2 ⟨h, he⟩).1
        omega

def MoveRel (w : World) (l : List (List ByteArray × Nat)) (dir : Bool) (p q : List ByteArray) (n : Nat) (out i : Value) (wr : World) : Prop :=
  ∃ (k : Nat), k ≤ n ∧ i = .int .i64 (k : Int) ∧ Hid (NamesAt w.heap.size wr out ((l.take k).map (moved dir p q))) ∧ Hid (Below w.heap.size w wr)
theorem move_next {w w2 : World} {l : List (List ByteArray × Nat)} {dir : Bool} {p q : List ByteArray} {k : Nat} {x : List ByteArray × Nat} (hx : l[k]? = some x) {L1 : List Value} (hL : ((l.take k).map (moved dir p q)).flatMap nameC = L1) {s2 : ByteArray} {p2 : List ByteArray} (hm : moved dir p q x = (p2, x.2)) (hs : s2 = ofL (joinL p2)) {v : Value}
    (hown : w2.ownsRow w.heap.size 77 2 v (k + 1) (L1 ++ [.string s2, .int .i64 (x.2 : Int)])) : NamesAt w.heap.size w2 v ((l.take (k + 1)).map (moved dir p q)) := by
  unfold NamesAt
  have hk := (List.getElem?_eq_some_iff.1 hx).1
  rw [take_more l k x hx, List.map_append, List.flatMap_append, hL]
  have e1 : ([x].map (moved dir p q)).flatMap nameC = [.string s2, .int .i64 (x.2 : Int)] := by
    rw [List.map_singleton, hm, hs]
    rfl
  have e2 : ((l.take k).map (moved dir p q) ++ [x].map (moved dir p q)).length = k + 1 := by
    rw [List.length_append, List.length_map, List.length_take, List.length_map, List.length_singleton]
    omega
  rw [e1, e2]
  exact hown
end Go.Proofs.YtcgpmnlondnbhaaGreatDoor
