/-
  NamesA: World, RefName, May, Same, Cut, Own, Split.
-/
import Derived.Test.YtaphcmcimoloiaaGreatDoorProg
import Derived.Test.YtaphcmcimoloiaaGreatDoorPlainA
import Derived.WalkKit
import Derived.WalkSpells
import Derived.WalkLawsBesides
import Derived.Lib.Hide
import Derived.Outline
import Derived.Deep.QuietTactic
import Derived.BigQuiet
import Derived.Deep.DeepFit
import Derived.Test.YtaphcmcimoloiaaGreatDoorShelf
namespace Go.Proofs.YtaphcmcimoloiaaGreatDoor
open Go.RowKit

def Texts (w : World) (v : Value) (l : List ByteArray) : Prop :=
  ∃ (ad : Option Addr) (cap : Nat), v = .slice ad l.length cap ∧ l.length ≤ cap ∧ cap ≤ maxLen ∧
    (0 < l.length → ∃ b off, ad = some ⟨b, off, none⟩ ∧ b < w.heap.size ∧ ∀ j x, l[j]? = some x → w.cell? ⟨b, off + j, none⟩ = some (.string x))

theorem Texts.void (w : World) : Texts w (.slice Option.none 0 0) [] := ⟨Option.none, 0, rfl, Nat.le_refl _, Nat.zero_le _, fun h => absurd h (by simp)⟩

def MaxOk (w : World) : Prop := ∃ m, w.cell? ⟨0, 0, Option.none⟩ = some (.int .i64 m)
theorem MaxOk.below {w w' : World} (h : MaxOk w) (hb : Below w.heap.size w w') : MaxOk w' :=
  let ⟨m, hm⟩ := h
  ⟨m, (hb.cell (World.block_lt_of_cell? _ _ hm)).trans hm⟩

theorem ret_bool {a b : Bool} (h : a = b) : Ending.returned (.bool a) = .returned (.bool b) := by rw [h]
end Go.Proofs.YtaphcmcimoloiaaGreatDoor

namespace Go.Proofs.YtaphcmcimoloiaaGreatDoor
open Go.RowKit Txt

theorem nameB_dot {s : ByteArray} (h : (s.toList == [46]) = true) : nameB s = false := by
  unfold nameB nameL
  rw [← Lib.toList_data, h]
  simp
theorem nameB_dots {s : ByteArray} (h : (s.toList == [46, 46]) = true) : nameB s = false := by
  unfold nameB nameL
  rw [← Lib.toList_data, h]
  simp
theorem nameB_short {s : ByteArray} (h : s.size < 1) : nameB s = false := by
  unfold nameB nameL
  rw [Lib.size_eq] at h
  rw [decide_eq_false (by omega)]
  simp
theorem nameB_long {s : ByteArray} (h : 13 < s.size) : nameB s = false := by
  unfold nameB nameL
  rw [Lib.size_eq] at h
  rw [decide_eq_false (p := s.data.toList.length ≤ 13) (by omega)]
  simp
theorem nameB_slash {s : ByteArray} (h : s.data.toList.contains 47 = true) : nameB s = false := by
  unfold nameB nameL
  rw [h]
  simp
theorem nameB_zero {s : ByteArray} (h : s.data.toList.contains 0 = true) : nameB s = false := by
  unfold nameB nameL
  rw [h]
  simp
theorem nameB_good {s : ByteArray} (h1 : 1 ≤ s.size) (h2 : s.size ≤ 13) (h3 : (s.toList == [46]) = false) (h4 : (s.toList == [46, 46]) = false) (h5 : s.data.toList.contains 47 = false) (h6 : s.data.toList.contains 0 = false) : nameB s = true := by
  unfold nameB nameL
  rw [Lib.toList_data] at h3 h4
  rw [h3, h4, h5, h6]
  rw [Lib.size_eq] at h1 h2
  rw [decide_eq_true h1, decide_eq_true h2]
  rfl

end Go.Proofs.YtaphcmcimoloiaaGreatDoor

namespace Go.Proofs.YtaphcmcimoloiaaGreatDoor
open Go.RowKit Txt

theorem contains_one (c : UInt8) : ∀ l : List UInt8, Lib.contains l [c] = l.contains c
  | [] => by simp [Lib.contains, Lib.index]
  | b :: r => by
    have ih := contains_one c r
    have hge := Lib.index_ge r [c]
    unfold Lib.contains at ih ⊢
    rw [Lib.index]
    by_cases hb : c = b
    · subst hb; simp [List.isPrefixOf]
    · have hp : ([c] : List UInt8).isPrefixOf (b :: r) = false := by simp [List.isPrefixOf, hb]
      rw [hp, List.contains_cons, ← ih, beq_eq_false_iff_ne.2 hb, Bool.false_or, decide_eq_decide]
      simp only [Bool.false_eq_true, if_false]
      split
      · rename_i h
        rw [beq_iff_eq.1 h]
      · rename_i h
        have : Lib.index r [c] ≠ -1 := fun e => h (beq_iff_eq.2 e)
        omega

theorem containsByte_any (s : ByteArray) (c : UInt8) (b : Bool) (h : s.data.toList.contains c = b) (w : World) (hm : MaxOk w) (hs : s.size ≤ 13) :
    Calls Tryz.prog 133 #[.string s, .string ⟨#[c]⟩] w fun e w' => e = .returned (.bool b) ∧ w = w' := by
  obtain ⟨m, hm⟩ := hm
  refine (Tryz.strings_Contains s ⟨#[c]⟩ m w (by omega) hm).mono ?_
  rintro e w' ⟨rfl, rfl⟩
  exact ⟨ret_bool ((contains_one c _).trans h), rfl⟩

set_option maxHeartbeats 400000 in
theorem name_any (s : ByteArray) (w : World) (hm : MaxOk w) (hs : s.size ≤ maxLen) :
    Calls Tryz.prog 49 #[.string s] w fun e w' => e = .returned (.bool (nameB s)) ∧ w = w' := by
  unfold maxLen at hs
  by_cases h1 : s.size < 1
  · have H := Lib.hid (nameB_short h1)
    have h0 : s.toList.isEmpty = true := by
      rw [Lib.toList_data, List.isEmpty_iff]
      exact List.length_eq_zero_iff.1 (by rw [← Lib.size_eq]; omega)
    go_enter Tryz.func49, Tryz.ntmps49
    go_wp2
    go_ret
    exact ⟨ret_bool H.out.symm, rfl⟩
  have h0 : s.toList.isEmpty = false := by
    rw [Lib.toList_data, List.isEmpty_eq_false_iff]
    intro e
    rw [Lib.size_eq, e] at h1
    exact h1 (by simp)
  by_cases h2 : 13 < s.size
  · have H := Lib.hid (nameB_long h2)
    go_enter Tryz.func49, Tryz.ntmps49
    go_wp2
    go_ret
    exact ⟨ret_bool H.out.symm, rfl⟩
  have h2' : s.size ≤ 13 := by omega
  cases h3 : (s.toList == [46]) with
  | true =>
    have H := Lib.hid (nameB_dot h3)
    go_enter Tryz.func49, Tryz.ntmps49
    go_wp2
    go_ret
    exact ⟨ret_bool H.out.symm, rfl⟩
  | false =>
  cases h4 : (s.toList == [46, 46]) with
  | true =>
    have H := Lib.hid (nameB_dots h4)
    go_enter Tryz.func49, Tryz.ntmps49
    go_wp2
    go_ret
    exact ⟨ret_bool H.out.symm, rfl⟩
  | false =>
  cases h5 : s.data.toList.contains 47 with
  | true =>
    have H := Lib.hid (nameB_slash h5)
    have H5 := Lib.hid h5
    clear h5
    go_enter Tryz.func49, Tryz.ntmps49
    go_wp2_with (go_at_call 133; refine (containsByte_any _ 47 true H5.out _ hm h2').mono ?_; rintro e w' ⟨rfl, rfl⟩)
    go_ret
    exact ⟨ret_bool H.out.symm, rfl⟩
  | false =>
  cases h6 : s.data.toList.contains 0 with
  | true =>
    have H := Lib.hid (nameB_zero h6)
    have H5 := Lib.hid h5
    have H6 := Lib.hid h6
    clear h5 h6
    go_enter Tryz.func49, Tryz.ntmps49
    go_wp2_with fail
    refine (containsByte_any _ 47 false H5.out _ hm h2').mono ?_
    rintro e w' ⟨rfl, rfl⟩
    go_wp2_with fail
    refine (containsByte_any _ 0 true H6.out _ hm h2').mono ?_
    rintro e w' ⟨rfl, rfl⟩
    go_wp2
    go_ret
    exact ⟨ret_bool H.out.symm, rfl⟩
  | false =>
    have H := Lib.hid (nameB_good (s := s) (by omega) h2' h3 h4 h5 h6)
    have H5 := Lib.hid h5
    have H6 := Lib.hid h6
    clear h5 h6
    go_enter Tryz.func49, Tryz.ntmps49
    go_wp2_with fail
    refine (containsByte_any _ 47 false H5.out _ hm h2').mono ?_
    rintro e w' ⟨rfl, rfl⟩
    go_wp2_with fail
    refine (containsByte_any _ 0 false H6.out _ hm h2').mono ?_
    rintro e w' ⟨rfl, rfl⟩
    go_wp2
    go_ret
    exact ⟨ret_bool H.out.symm, rfl⟩

end Go.Proofs.YtaphcmcimoloiaaGreatDoor

namespace Go.Proofs.YtaphcmcimoloiaaGreatDoor
open Go.RowKit Txt

theorem text_eq (x y : ByteArray) : (x.toList == y.toList) = decide (x = y) := by
  rw [Bool.eq_iff_iff, beq_iff_eq, decide_eq_true_iff, Lib.toList_data, Lib.toList_data]
  exact ⟨fun h => Txt.ext h, fun h => by rw [h]⟩

end Go.Proofs.YtaphcmcimoloiaaGreatDoor

namespace Go.Proofs.YtaphcmcimoloiaaGreatDoor
open Go.RowKit Txt

theorem Texts.own {w : World} {base : Nat} {e : TypeId} {v : Value} {l : List ByteArray} (h : w.ownsRow base e 1 v l.length (l.map Value.string)) : Texts w v l := by
  rcases h.2 with ⟨rfl, h0⟩ | ⟨g, cap, cur, rfl, hb, hh, hle, hm, hsz, hcur⟩
  · rw [List.length_eq_zero_iff.1 h0]
    exact Texts.void w
  · refine ⟨_, cap, rfl, hle, hm, fun hp => ⟨g, 0, rfl, ?_, fun j x hx => ?_⟩⟩
    · exact (Array.getElem?_eq_some_iff.1 hh).1
    · rw [Nat.zero_add, h.cellAt j (by have := (List.getElem?_eq_some_iff.1 hx).1; omega), List.getElem?_map, hx]
      rfl

theorem Tryz.infoText : (Tryz.prog.info? 9).map (fun i => (i.zero, i.size, i.bytes)) = some (some (.string ByteArray.empty), 1, 16) := by kernel_rfl

end Go.Proofs.YtaphcmcimoloiaaGreatDoor

namespace Go.Proofs.YtaphcmcimoloiaaGreatDoor
open Go Go.RowKit

def OwnTexts (n : Nat) (w : World) (v : Value) (l : List ByteArray) : Prop := ∃ e, w.ownsRow n e 1 v l.length (l.map Value.string)
theorem OwnTexts.void (n : Nat) (w : World) : OwnTexts n w (.slice none 0 0) [] := ⟨0, rfl, Or.inl ⟨rfl, rfl⟩⟩
theorem OwnTexts.texts {n : Nat} {w : World} {v : Value} {l : List ByteArray} (h : OwnTexts n w v l) : Texts w v l := let ⟨_, h⟩ := h; Texts.own h
end Go.Proofs.YtaphcmcimoloiaaGreatDoor

namespace Go.Proofs.YtaphcmcimoloiaaGreatDoor
open Go.RowKit Txt

end Go.Proofs.YtaphcmcimoloiaaGreatDoor
