/-
  Split, of names.go and of the document: a path's names.
-/
import Derived.Test.YtcgpmnlondnbhaaDoorMay
import Derived.Test.YtcgpmnlondnbhaaDoorCut
namespace Go.Proofs.YtcgpmnlondnbhaaDoor
open Go.RowKit Txt

theorem cutPrefix_yes (p : ByteArray) (r : List UInt8) (h : p.data.toList = 47 :: r) (w : World) :
    Calls Tryd.prog 69 #[.string p, .string ⟨#[47]⟩] w fun e w' => e = .returned (.tuple #[.string (ofL r), .bool true]) ∧ w = w' := by
  refine (Tryd.strings_CutPrefix p ⟨#[47]⟩ w).mono ?_
  rintro e w' ⟨rfl, rfl⟩
  refine ⟨?_, rfl⟩
  have e1 : Lib.hasPrefix p.data.toList [47] = true := by rw [h]; simp [Lib.hasPrefix, List.isPrefixOf]
  have e2 : Lib.trimPrefix p.data.toList [47] = r := by unfold Lib.trimPrefix; rw [e1, h]; rfl
  show Ending.returned (.tuple #[.string ⟨(Lib.trimPrefix p.data.toList [47]).toArray⟩, .bool (Lib.hasPrefix p.data.toList [47])]) = _
  rw [e1, e2]; rfl
theorem cutPrefix_no (p : ByteArray) (h : Lib.hasPrefix p.data.toList [47] = false) (w : World) :
    Calls Tryd.prog 69 #[.string p, .string ⟨#[47]⟩] w fun e w' => e = .returned (.tuple #[.string p, .bool false]) ∧ w = w' := by
  refine (Tryd.strings_CutPrefix p ⟨#[47]⟩ w).mono ?_
  rintro e w' ⟨rfl, rfl⟩
  refine ⟨?_, rfl⟩
  have e2 : Lib.trimPrefix p.data.toList [47] = p.data.toList := by unfold Lib.trimPrefix; rw [h]; rfl
  show Ending.returned (.tuple #[.string ⟨(Lib.trimPrefix p.data.toList [47]).toArray⟩, .bool (Lib.hasPrefix p.data.toList [47])]) = _
  rw [h, e2]

theorem Texts.laid (w : World) (l : List ByteArray) (t : TypeId) (hl : l.length ≤ maxLen) : Texts (w.alloc (.cells (l.map Value.string).toArray t)) (.slice (some ⟨w.heap.size, 0, none⟩) l.length l.length) l := by
  refine ⟨_, _, rfl, Nat.le_refl _, hl, fun hp => ⟨w.heap.size, 0, rfl, by simp, fun j x hx => ?_⟩⟩
  rw [Nat.zero_add, World.cell?_alloc_at _ _ _ _ rfl]
  simp [hx]

/-- strings.Split at a stroke. -/
theorem splitText_any (s : ByteArray) (w : World) (hm : MaxOk w) (hs : s.size ≤ 4000000000) :
    Calls Tryd.prog 70 #[.string s, .string ⟨#[47]⟩] w fun e w' => ∃ v, e = .returned v ∧ Texts w' v (cutB s) ∧ Below w.heap.size w w' := by
  obtain ⟨m, hm⟩ := hm
  refine (Tryd.strings_Split s ⟨#[47]⟩ m w (by omega) hm (by decide)).mono ?_
  rintro e w' ⟨rfl, rfl⟩
  refine ⟨_, rfl, ?_, (Below.refl _ _).alloc (Nat.le_refl _) _⟩
  have hl := cutB_length_le s
  rw [splitB_slash, count_slash]
  exact Texts.laid w (cutB s) _ (by unfold maxLen; omega)

theorem cut_sizes {s x : ByteArray} (h : x ∈ cutB s) : x.size ≤ s.size := by
  unfold cutB at h
  obtain ⟨l, hl, rfl⟩ := List.mem_map.1 h
  have key : ∀ (t : List UInt8) (l : List UInt8), l ∈ cutL t → l.length ≤ t.length := by
    intro t
    induction t with
    | nil => intro l h; simp [cutL] at h; simp [h]
    | cons c r ih =>
      intro l h
      unfold cutL at h
      split at h
      · rcases List.mem_cons.1 h with rfl | h
        · simp
        · have := ih l h; simp; omega
      · split at h
        · rw [List.mem_singleton.1 h]; simp
        · rename_i x xs hx
          rcases List.mem_cons.1 h with rfl | h
          · have := ih x (by rw [hx]; simp); simp; omega
          · have := ih l (by rw [hx]; simp [h]); simp; omega
  have := key _ _ hl
  rw [Lib.size_eq, Lib.size_eq, ofL_data]
  exact this

theorem splitN_empty {p : ByteArray} (h : p.data.toList = []) : splitN p = ([], 90) := by unfold splitN; rw [h]
theorem splitN_bare {p : ByteArray} {c : UInt8} {r : List UInt8} (h : p.data.toList = c :: r) (hc : c ≠ 47) : splitN p = ([], 90) := by unfold splitN; rw [h]; simp [hc]
theorem splitN_root {p : ByteArray} (h : p.data.toList = [47]) : splitN p = ([], 0) := by unfold splitN; rw [h]; rfl
theorem splitN_good {p : ByteArray} {r : List UInt8} (h : p.data.toList = 47 :: r) (hr : r ≠ []) (hm : mayC (cutB (ofL r)) = 0) : splitN p = (cutB (ofL r), 0) := by unfold splitN; rw [h]; simp [hr, hm]
theorem splitN_bad {p : ByteArray} {r : List UInt8} (h : p.data.toList = 47 :: r) (hr : r ≠ []) (hm : mayC (cutB (ofL r)) ≠ 0) : splitN p = ([], mayC (cutB (ofL r))) := by unfold splitN; rw [h]; simp [hr, hm]

/-- What Split leaves. -/
def SplitPost (p : ByteArray) (w : World) (e : Ending) (w' : World) : Prop :=
  ∃ v, e = .returned (.tuple #[v, .int .i64 (splitN p).2]) ∧ Texts w' v (splitN p).1 ∧ Below w.heap.size w w'

theorem SplitPost.err {p : ByteArray} {c : Int} (h : splitN p = ([], c)) {w w' : World} (hb : Below w.heap.size w w') : SplitPost p w (.returned (.tuple #[.slice none 0 0, .int .i64 c])) w' :=
  ⟨_, by rw [h], by rw [h]; exact Texts.void _, hb⟩
theorem SplitPost.ok {p : ByteArray} {l : List ByteArray} (h : splitN p = (l, 0)) {w w' : World} {v : Value} (ht : Texts w' v l) (hb : Below w.heap.size w w') : SplitPost p w (.returned (.tuple #[v, .int .i64 0])) w' :=
  ⟨_, by rw [h], by rw [h]; exact ht, hb⟩

set_option maxHeartbeats 400000 in
theorem split_any (p : ByteArray) (w : World) (hm : MaxOk w) (hs : p.size ≤ 4000000000) :
    Calls Tryd.prog 52 #[.string p] w (SplitPost p w) := by
  cases hp : p.data.toList with
  | nil =>
    have H := Lib.hid (splitN_empty hp)
    have H1 := Lib.hid (show Lib.hasPrefix p.data.toList [47] = false by rw [hp]; rfl)
    clear hp
    go_enter Tryd.func52, Tryd.ntmps52
    go_wp2_with (go_at_call 69; refine (cutPrefix_no _ H1.out _).mono ?_; rintro e w' ⟨rfl, rfl⟩)
    go_ret2
    exact SplitPost.err H.out (Below.refl _ _)
  | cons c r =>
  by_cases hc : c = 47
  · subst hc
    have HP := Lib.hid hp
    have hsz : r.length + 1 = p.size := by rw [Lib.size_eq, hp]; rfl
    clear hp
    by_cases hr : r = []
    · have H := Lib.hid (splitN_root (by rw [HP.out, hr]))
      have h0 : (ofL r).toList.isEmpty = true := by rw [Lib.toList_data, ofL_data, hr]; rfl
      clear hr
      go_enter Tryd.func52, Tryd.ntmps52
      go_wp2_with (go_at_call 69; refine (cutPrefix_yes _ _ HP.out _).mono ?_; rintro e w' ⟨rfl, rfl⟩)
      go_ret2
      exact SplitPost.err H.out (Below.refl _ _)
    · have h0 : (ofL r).toList.isEmpty = false := by rw [Lib.toList_data, ofL_data, List.isEmpty_eq_false_iff]; exact hr
      have hrs : (ofL r).size ≤ 4000000000 := by rw [Lib.size_eq, ofL_data]; omega
      obtain ⟨l, hl⟩ : ∃ l, cutB (ofL r) = l := ⟨_, rfl⟩
      have HL := Lib.hid hl
      have HZ : Hid (∀ x ∈ l, x.size ≤ maxLen) := fun x hx => by rw [← hl] at hx; have := cut_sizes hx; unfold maxLen; omega
      have HR := Lib.hid hr
      by_cases hmc : mayC l = 0
      · have H := Lib.hid (splitN_good HP.out hr (by rw [hl]; exact hmc))
        have HM := Lib.hid hmc
        clear hl hr hmc
        go_enter Tryd.func52, Tryd.ntmps52
        go_wp2_with (first
          | (go_at_call 69; refine (cutPrefix_yes _ _ HP.out _).mono ?_; rintro e w' ⟨rfl, rfl⟩)
          | (go_at_call 70; refine (splitText_any _ _ hm hrs).mono ?_; rintro e w' ⟨v, rfl, ht, hb⟩; rw [HL.out] at ht)
          | (go_at_call 71; refine (may_any _ _ _ ht HZ.out (hm.below hb)).mono ?_; rintro e w'' ⟨rfl, rfl⟩; rw [HM.out]))
        go_ret2
        exact SplitPost.ok (by rw [H.out, HL.out]) ht hb
      · have H := Lib.hid (splitN_bad HP.out hr (by rw [hl]; exact hmc))
        obtain ⟨m, hmm⟩ : ∃ m, mayC l = m := ⟨_, rfl⟩
        rw [hmm] at hmc
        have q : (m == 0) = false := beq_eq_false_iff_ne.2 hmc
        have HM := Lib.hid hmm
        clear hl hr hmc hmm
        go_enter Tryd.func52, Tryd.ntmps52
        go_wp2_with (first
          | (go_at_call 69; refine (cutPrefix_yes _ _ HP.out _).mono ?_; rintro e w' ⟨rfl, rfl⟩)
          | (go_at_call 70; refine (splitText_any _ _ hm hrs).mono ?_; rintro e w' ⟨v, rfl, ht, hb⟩; rw [HL.out] at ht)
          | (go_at_call 71; refine (may_any _ _ _ ht HZ.out (hm.below hb)).mono ?_; rintro e w'' ⟨rfl, rfl⟩; rw [HM.out]))
        go_ret2
        exact SplitPost.err (by rw [H.out, HL.out, HM.out]) hb
  · have H := Lib.hid (splitN_bare hp hc)
    have H1 := Lib.hid (show Lib.hasPrefix p.data.toList [47] = false by rw [hp]; simp [Lib.hasPrefix, List.isPrefixOf, Ne.symm hc])
    clear hp hc
    go_enter Tryd.func52, Tryd.ntmps52
    go_wp2_with (go_at_call 69; refine (cutPrefix_no _ H1.out _).mono ?_; rintro e w' ⟨rfl, rfl⟩)
    go_ret2
    exact SplitPost.err H.out (Below.refl _ _)

theorem at_first {p : ByteArray} {c : UInt8} {r : List UInt8} (h : p.data.toList = c :: r) : ∃ h0 : 0 < p.size, p[0]'h0 = c := by
  have hz : p.size = r.length + 1 := by rw [Lib.size_eq, h]; rfl
  refine ⟨by omega, ?_⟩
  have := at_data p 0 (by omega)
  rw [h] at this
  exact (Option.some.inj this).symm

theorem tail_ofL {p : ByteArray} {c : UInt8} {r : List UInt8} (h : p.data.toList = c :: r) : p.extract 1 p.size = ofL r := by
  apply Txt.ext
  rw [Lib.extract_data, h, ofL_data, List.drop_succ_cons, List.drop_zero, List.take_of_length_le]
  rw [Lib.size_eq, h]
  simp

end Go.Proofs.YtcgpmnlondnbhaaDoor
