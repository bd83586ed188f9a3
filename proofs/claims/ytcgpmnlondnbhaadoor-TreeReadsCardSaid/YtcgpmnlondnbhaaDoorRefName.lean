/-
  The document's Name and may.
-/
import Derived.Test.YtcgpmnlondnbhaaDoorWorld
namespace Go.Proofs.YtcgpmnlondnbhaaDoor
open Go.RowKit Txt

theorem nameB_dot {s : ByteArray} (h : (s.toList == [46]) = true) : nameB s = false := by
  unfold nameB nameL
  rw [← Lib.toList_data, h]
  simp
theorem nameB_dots {s : ByteArray} (h : (s.toList == [46, 46]) = true) : nameB s = false := by
  unfold nameB nameL
  rw [← Lib.toList_data, h]
  simp
theorem nameB_short {s : ByteArray} (h : s.size < 1) : nameB s = false := by
  unfold nameB nameL
  rw [Lib.size_eq] at h
  rw [decide_eq_false (by omega)]
  simp
theorem nameB_long {s : ByteArray} (h : 13 < s.size) : nameB s = false := by
  unfold nameB nameL
  rw [Lib.size_eq] at h
  rw [decide_eq_false (p := s.data.toList.length ≤ 13) (by omega)]
  simp
theorem nameB_slash {s : ByteArray} (h : s.data.toList.contains 47 = true) : nameB s = false := by
  unfold nameB nameL
  rw [h]
  simp
theorem nameB_zero {s : ByteArray} (h : s.data.toList.contains 0 = true) : nameB s = false := by
  unfold nameB nameL
  rw [h]
  simp
theorem nameB_good {s : ByteArray} (h1 : 1 ≤ s.size) (h2 : s.size ≤ 13) (h3 : (s.toList == [46]) = false) (h4 : (s.toList == [46, 46]) = false) (h5 : s.data.toList.contains 47 = false) (h6 : s.data.toList.contains 0 = false) : nameB s = true := by
  unfold nameB nameL
  rw [Lib.toList_data] at h3 h4
  rw [h3, h4, h5, h6]
  rw [Lib.size_eq] at h1 h2
  rw [decide_eq_true h1, decide_eq_true h2]
  rfl

theorem contains_snoc (l : List UInt8) (k : Nat) (x y : UInt8) (h : l[k]? = some x) : (l.take (k + 1)).contains y = ((l.take k).contains y || decide (y = x)) := by
  rw [take_snoc l k x h]
  simp [List.contains_eq_mem, Bool.decide_or]
theorem contains_of_at {l : List UInt8} {k : Nat} {x : UInt8} (h : l[k]? = some x) : l.contains x = true := by
  rw [List.contains_eq_mem, decide_eq_true_iff]
  exact List.mem_of_getElem? h

end Go.Proofs.YtcgpmnlondnbhaaDoor
