/-
  NamesA: World, RefName, May, Same, Cut, Own, Split.
-/
import Derived.Test.YtgofmnhfajmbfaaGreatDoorProg
import Derived.Test.YtgofmnhfajmbfaaGreatDoorPlainA
import Derived.WalkKit
import Derived.WalkSpells
import Derived.WalkLawsBesides
import Derived.Lib.Hide
import Derived.Outline
import Derived.Deep.QuietTactic
import Derived.BigQuiet
import Derived.Deep.DeepFit
import Derived.Test.YtgofmnhfajmbfaaGreatDoorShelf
namespace Go.Proofs.YtgofmnhfajmbfaaGreatDoor
open Go.RowKit

/-- The slice v holds the texts l. -/
def Texts (w : World) (v : Value) (l : List ByteArray) : Prop :=
  ∃ (ad : Option Addr) (cap : Nat), v = .slice ad l.length cap ∧ l.length ≤ cap ∧ cap ≤ maxLen ∧
    (0 < l.length → ∃ b off, ad = some ⟨b, off, none⟩ ∧ b < w.heap.size ∧ ∀ j x, l[j]? = some x → w.cell? ⟨b, off + j, none⟩ = some (.string x))

theorem Texts.below {w w' : World} {v : Value} {l : List ByteArray} (h : Texts w v l) (hb : Below w.heap.size w w') : Texts w' v l := by
  obtain ⟨ad, cap, hv, h1, h2, h3⟩ := h
  refine ⟨ad, cap, hv, h1, h2, fun hp => ?_⟩
  obtain ⟨b, off, e, hlt, hc⟩ := h3 hp
  have := hb.size
  exact ⟨b, off, e, by omega, fun j x hx => (hb.cell (p := ⟨b, off + j, none⟩) hlt).trans (hc j x hx)⟩
theorem Texts.void (w : World) : Texts w (.slice Option.none 0 0) [] := ⟨Option.none, 0, rfl, Nat.le_refl _, Nat.zero_le _, fun h => absurd h (by simp)⟩

/-- The facts of a slice of at most eight texts, for a walk. -/
theorem Texts.open8 {w : World} {v : Value} {l : List ByteArray} (h : Texts w v l) (h8 : l.length ≤ 8) : ∃ (ad : Option Addr) (n cap : Nat), v = .slice ad n cap ∧ Hid (n = l.length) ∧ n ≤ 8 ∧
    Hid (∀ k, k < n → ∃ b off x, ad = some ⟨b, off, none⟩ ∧ b < w.heap.size ∧ l[k]? = some x ∧ w.cell? ⟨b, off + k, none⟩ = some (.string x)) := by
  obtain ⟨ad, cap, e, h1, h2, h3⟩ := h
  refine ⟨ad, l.length, cap, e, rfl, h8, fun k hk => ?_⟩
  obtain ⟨b, off, e2, hb, hc⟩ := h3 (by omega)
  exact ⟨b, off, l[k], e2, hb, by simp, hc k _ (by simp)⟩

/-- The library's variable MaxLen holds a number. -/
def MaxOk (w : World) : Prop := ∃ m, w.cell? ⟨0, 0, Option.none⟩ = some (.int .i64 m)
theorem MaxOk.below {w w' : World} (h : MaxOk w) (hb : Below w.heap.size w w') : MaxOk w' :=
  let ⟨m, hm⟩ := h
  ⟨m, (hb.cell (World.block_lt_of_cell? _ _ hm)).trans hm⟩

theorem ret_int {k : IntKind} {a b : Int} (h : a = b) : Ending.returned (.int k a) = .returned (.int k b) := by rw [h]
theorem ret_bool {a b : Bool} (h : a = b) : Ending.returned (.bool a) = .returned (.bool b) := by rw [h]
theorem wrap_in {a : Int} (h : -9223372036854775808 ≤ a ∧ a ≤ 9223372036854775807) : IntKind.i64.wrap a = a := IntWalk.i64_in _ h

theorem u8_eq (c : UInt8) (n : Nat) (hn : n < 256) : ((c.toNat : Int) == (n : Int)) = decide (c = UInt8.ofNat n) := by
  rw [Bool.eq_iff_iff, beq_iff_eq, decide_eq_true_iff]
  constructor
  · intro h
    have : c.toNat = n := by omega
    rw [← this, UInt8.ofNat_toNat]
  · intro h
    rw [h, UInt8.toNat_ofNat_of_lt' hn]
theorem at_data (s : ByteArray) (k : Nat) (h : k < s.size) : s.data.toList[k]? = some (s[k]'h) := by
  rw [List.getElem?_eq_getElem (by rw [← Lib.size_eq]; exact h)]
  rfl
theorem take_snoc {α : Type} (l : List α) (k : Nat) (x : α) (h : l[k]? = some x) : l.take (k + 1) = l.take k ++ [x] := by
  rw [List.take_add_one, h]; rfl

end Go.Proofs.YtgofmnhfajmbfaaGreatDoor

namespace Go.Proofs.YtgofmnhfajmbfaaGreatDoor
open Go.RowKit Txt

theorem nameB_dot {s : ByteArray} (h : (s.toList == [46]) = true) : nameB s = false := by
  unfold nameB nameL
  rw [← Lib.toList_data, h]
  simp
theorem nameB_dots {s : ByteArray} (h : (s.toList == [46, 46]) = true) : nameB s = false := by
  unfold nameB nameL
  rw [← Lib.toList_data, h]
  simp
theorem nameB_short {s : ByteArray} (h : s.size < 1) : nameB s = false := by
  unfold nameB nameL
  rw [Lib.size_eq] at h
  rw [decide_eq_false (by omega)]
  simp
theorem nameB_long {s : ByteArray} (h : 13 < s.size) : nameB s = false := by
  unfold nameB nameL
  rw [Lib.size_eq] at h
  rw [decide_eq_false (p := s.data.toList.length ≤ 13) (by omega)]
  simp
theorem nameB_slash {s : ByteArray} (h : s.data.toList.contains 47 = true) : nameB s = false := by
  unfold nameB nameL
  rw [h]
  simp
theorem nameB_zero {s : ByteArray} (h : s.data.toList.contains 0 = true) : nameB s = false := by
  unfold nameB nameL
  rw [h]
  simp
theorem nameB_good {s : ByteArray} (h1 : 1 ≤ s.size) (h2 : s.size ≤ 13) (h3 : (s.toList == [46]) = false) (h4 : (s.toList == [46, 46]) = false) (h5 : s.data.toList.contains 47 = false) (h6 : s.data.toList.contains 0 = false) : nameB s = true := by
  unfold nameB nameL
  rw [Lib.toList_data] at h3 h4
  rw [h3, h4, h5, h6]
  rw [Lib.size_eq] at h1 h2
  rw [decide_eq_true h1, decide_eq_true h2]
  rfl

theorem contains_snoc (l : List UInt8) (k : Nat) (x y : UInt8) (h : l[k]? = some x) : (l.take (k + 1)).contains y = ((l.take k).contains y || decide (y = x)) := by
  rw [take_snoc l k x h]
  simp [List.contains_eq_mem, Bool.decide_or]
theorem contains_of_at {l : List UInt8} {k : Nat} {x : UInt8} (h : l[k]? = some x) : l.contains x = true := by
  rw [List.contains_eq_mem, decide_eq_true_iff]
  exact List.mem_of_getElem? h

end Go.Proofs.YtgofmnhfajmbfaaGreatDoor

namespace Go.Proofs.YtgofmnhfajmbfaaGreatDoor
open Go.RowKit Txt

theorem contains_one (c : UInt8) : ∀ l : List UInt8, Lib.contains l [c] = l.contains c
  | [] => by simp [Lib.contains, Lib.index]
  | b :: r => by
    have ih := contains_one c r
    have hge := Lib.index_ge r [c]
    unfold Lib.contains at ih ⊢
    rw [Lib.index]
    by_cases hb : c = b
    · subst hb; simp [List.isPrefixOf]
    · have hp : ([c] : List UInt8).isPrefixOf (b :: r) = false := by simp [List.isPrefixOf, hb]
      rw [hp, List.contains_cons, ← ih, beq_eq_false_iff_ne.2 hb, Bool.false_or, decide_eq_decide]
      simp only [Bool.false_eq_true, if_false]
      split
      · rename_i h
        rw [beq_iff_eq.1 h]
      · rename_i h
        have : Lib.index r [c] ≠ -1 := fun e => h (beq_iff_eq.2 e)
        omega

/-- strings.Contains at one byte. -/
theorem containsByte_any (s : ByteArray) (c : UInt8) (b : Bool) (h : s.data.toList.contains c = b) (w : World) (hm : MaxOk w) (hs : s.size ≤ 13) :
    Calls Tryz.prog 323 #[.string s, .string ⟨#[c]⟩] w fun e w' => e = .returned (.bool b) ∧ w = w' := by
  obtain ⟨m, hm⟩ := hm
  refine (Tryz.strings_Contains s ⟨#[c]⟩ m w (by omega) hm).mono ?_
  rintro e w' ⟨rfl, rfl⟩
  exact ⟨ret_bool ((contains_one c _).trans h), rfl⟩

set_option maxHeartbeats 400000 in
theorem name_any (s : ByteArray) (w : World) (hm : MaxOk w) (hs : s.size ≤ maxLen) :
    Calls Tryz.prog 312 #[.string s] w fun e w' => e = .returned (.bool (nameB s)) ∧ w = w' := by
  unfold maxLen at hs
  by_cases h1 : s.size < 1
  · have H := Lib.hid (nameB_short h1)
    have h0 : s.toList.isEmpty = true := by
      rw [Lib.toList_data, List.isEmpty_iff]
      exact List.length_eq_zero_iff.1 (by rw [← Lib.size_eq]; omega)
    go_enter Tryz.func312, Tryz.ntmps312
    go_wp2
    go_ret
    exact ⟨ret_bool H.out.symm, rfl⟩
  have h0 : s.toList.isEmpty = false := by
    rw [Lib.toList_data, List.isEmpty_eq_false_iff]
    intro e
    rw [Lib.size_eq, e] at h1
    exact h1 (by simp)
  by_cases h2 : 13 < s.size
  · have H := Lib.hid (nameB_long h2)
    go_enter Tryz.func312, Tryz.ntmps312
    go_wp2
    go_ret
    exact ⟨ret_bool H.out.symm, rfl⟩
  have h2' : s.size ≤ 13 := by omega
  cases h3 : (s.toList == [46]) with
  | true =>
    have H := Lib.hid (nameB_dot h3)
    go_enter Tryz.func312, Tryz.ntmps312
    go_wp2
    go_ret
    exact ⟨ret_bool H.out.symm, rfl⟩
  | false =>
  cases h4 : (s.toList == [46, 46]) with
  | true =>
    have H := Lib.hid (nameB_dots h4)
    go_enter Tryz.func312, Tryz.ntmps312
    go_wp2
    go_ret
    exact ⟨ret_bool H.out.symm, rfl⟩
  | false =>
  cases h5 : s.data.toList.contains 47 with
  | true =>
    have H := Lib.hid (nameB_slash h5)
    have H5 := Lib.hid h5
    clear h5
    go_enter Tryz.func312, Tryz.ntmps312
    go_wp2_with (go_at_call 323; refine (containsByte_any _ 47 true H5.out _ hm h2').mono ?_; rintro e w' ⟨rfl, rfl⟩)
    go_ret
    exact ⟨ret_bool H.out.symm, rfl⟩
  | false =>
  cases h6 : s.data.toList.contains 0 with
  | true =>
    have H := Lib.hid (nameB_zero h6)
    have H5 := Lib.hid h5
    have H6 := Lib.hid h6
    clear h5 h6
    go_enter Tryz.func312, Tryz.ntmps312
    go_wp2_with fail
    refine (containsByte_any _ 47 false H5.out _ hm h2').mono ?_
    rintro e w' ⟨rfl, rfl⟩
    go_wp2_with fail
    refine (containsByte_any _ 0 true H6.out _ hm h2').mono ?_
    rintro e w' ⟨rfl, rfl⟩
    go_wp2
    go_ret
    exact ⟨ret_bool H.out.symm, rfl⟩
  | false =>
    have H := Lib.hid (nameB_good (s := s) (by omega) h2' h3 h4 h5 h6)
    have H5 := Lib.hid h5
    have H6 := Lib.hid h6
    clear h5 h6
    go_enter Tryz.func312, Tryz.ntmps312
    go_wp2_with fail
    refine (containsByte_any _ 47 false H5.out _ hm h2').mono ?_
    rintro e w' ⟨rfl, rfl⟩
    go_wp2_with fail
    refine (containsByte_any _ 0 false H6.out _ hm h2').mono ?_
    rintro e w' ⟨rfl, rfl⟩
    go_wp2
    go_ret
    exact ⟨ret_bool H.out.symm, rfl⟩

end Go.Proofs.YtgofmnhfajmbfaaGreatDoor

namespace Go.Proofs.YtgofmnhfajmbfaaGreatDoor
open Go.RowKit Txt

theorem text_eq (x y : ByteArray) : (x.toList == y.toList) = decide (x = y) := by
  rw [Bool.eq_iff_iff, beq_iff_eq, decide_eq_true_iff, Lib.toList_data, Lib.toList_data]
  exact ⟨fun h => Txt.ext h, fun h => by rw [h]⟩

set_option maxHeartbeats 400000 in
theorem sameTexts_draws (v u : Value) (l m : List ByteArray) (w : World) (ht : Texts w v l) (hu : Texts w u m) :
    Calls Tryz.prog 9 #[v, u] w fun e w' => e = .returned (.bool (decide (l = m))) ∧ ∃ q, w' = w.drewN q := by
  obtain ⟨ad, cap, rfl, h1, h2, h3⟩ := ht
  obtain ⟨ae, cae, rfl, g1, g2, g3⟩ := hu
  obtain ⟨n, hn⟩ : ∃ n, n = l.length := ⟨_, rfl⟩
  obtain ⟨n2, hn2⟩ : ∃ n, n = m.length := ⟨_, rfl⟩
  have hmax : n ≤ 9223372036854775807 := by unfold maxLen at h2; omega
  have hmax2 : n2 ≤ 9223372036854775807 := by unfold maxLen at g2; omega
  have HN := Lib.hid hn
  have HN2 := Lib.hid hn2
  have H3 := Lib.hid h3
  have G3 := Lib.hid g3
  rw [← hn, ← hn2]
  clear hn h1 h2 h3 hn2 g1 g2 g3
  by_cases hne : n = n2
  · subst hne
    go_enter Tryz.func9, Tryz.ntmps9
    go_wp2
    go_loopw [5] (fun i wr => ∃ k : Nat, k ≤ n ∧ i = .int .i64 k ∧ l.take k = m.take k ∧ ∃ q, wr = w.drewN q) (fun i _ => n - (intOf i).toNat)
    case atStart => exact ⟨0, Nat.zero_le _, rfl, rfl, 0, rfl⟩
    case round =>
      obtain ⟨k, hk, rfl, hall, q0, rfl⟩ := hrel
      have HA := Lib.hid hall
      clear hall
      by_cases hlt : k < n
      · obtain ⟨b, off, rfl, hb, hc⟩ := H3.out (by have := HN.out; omega)
        obtain ⟨c, offc, rfl, hbc, hcc⟩ := G3.out (by have := HN2.out; omega)
        obtain ⟨s, hs⟩ : ∃ s, l[k]? = some s := ⟨l[k]'(by have := HN.out; omega), by simp⟩
        obtain ⟨t, hst⟩ : ∃ s, m[k]? = some s := ⟨m[k]'(by have := HN2.out; omega), by simp⟩
        have hcell := hc k s hs
        have hcellt := hcc k t hst
        have HS := Lib.hid hs
        have HT := Lib.hid hst
        have q := text_eq s t
        clear hc hs H3 hcc hst G3
        by_cases hq : s = t
        · have q' : (s.toList == t.toList) = true := q.trans (decide_eq_true hq)
          have HQ := Lib.hid hq
          clear q hq
          go_wp2
          go_quiet (fail)
          go_wp2
          go_roundw
          case rel => exact ⟨k + 1, by omega, by go_num, by rw [take_snoc l k s HS.out, take_snoc m k t HT.out, HA.out, HQ.out], _, rfl⟩
          case measure => simp [intOf]; omega
        · have q' : (s.toList == t.toList) = false := q.trans (decide_eq_false hq)
          have HQ := Lib.hid hq
          clear q hq
          go_wp2
          go_quiet (fail)
          go_wp2
          go_ret
          refine ⟨ret_bool (decide_eq_false ?_).symm, _, World.drewN_drewN _ _ _⟩
          intro e
          have h1 := HS.out
          have h2 := HT.out
          rw [e, h2] at h1
          exact HQ.out (Option.some.inj h1).symm
      · have he : l = m := by
          have := HA.out
          rw [List.take_of_length_le (by have := HN.out; omega), List.take_of_length_le (by have := HN2.out; omega)] at this
          exact this
        have HE := Lib.hid he
        clear he
        go_wp2
        go_ret
        exact ⟨ret_bool (decide_eq_true HE.out).symm, _, rfl⟩
  · have q : ((n : Int) == (n2 : Int)) = false := beq_eq_false_iff_ne.2 (by omega)
    have H := Lib.hid hne
    clear hne
    go_enter Tryz.func9, Tryz.ntmps9
    go_wp2
    go_ret
    refine ⟨ret_bool (decide_eq_false ?_).symm, 0, rfl⟩
    intro e
    exact H.out (by rw [HN.out, HN2.out, e])
theorem sameTexts_any (v u : Value) (l m : List ByteArray) (w : World) (ht : Texts w v l) (hu : Texts w u m) :
    Calls Tryz.prog 9 #[v, u] w fun e w' => e = .returned (.bool (decide (l = m))) ∧ Below w.heap.size w w' :=
  (sameTexts_draws v u l m w ht hu).mono fun _ _ ⟨he, q, hw⟩ => ⟨he, hw ▸ below_drewN (Below.refl _ _) q⟩
theorem sameTexts_quiet (v u : Value) (l : List ByteArray) (w : World) (ht : Texts w v l) (hu : Texts w u l) :
    Calls Tryz.prog 9 #[v, u] w fun e w' => e = .returned (.bool true) ∧ ∃ q, w' = w.drewN q :=
  (sameTexts_draws v u l l w ht hu).mono fun _ _ ⟨he, q, hw⟩ => ⟨he.trans (ret_bool (decide_eq_true rfl)), q, hw⟩
theorem sameTexts_yes (v u : Value) (l : List ByteArray) (w : World) (ht : Texts w v l) (hu : Texts w u l) :
    Calls Tryz.prog 9 #[v, u] w fun e w' => e = .returned (.bool true) ∧ Below w.heap.size w w' := by
  refine (sameTexts_any v u l l w ht hu).mono ?_
  rintro e w' ⟨rfl, hb⟩
  exact ⟨ret_bool (decide_eq_true rfl), hb⟩
end Go.Proofs.YtgofmnhfajmbfaaGreatDoor

namespace Go.Proofs.YtgofmnhfajmbfaaGreatDoor
open Go.RowKit Txt

/-- What a slice that the call made itself owns, it holds as texts. -/
theorem Texts.own {w : World} {base : Nat} {e : TypeId} {v : Value} {l : List ByteArray} (h : w.ownsRow base e 1 v l.length (l.map Value.string)) : Texts w v l := by
  rcases h.2 with ⟨rfl, h0⟩ | ⟨g, cap, cur, rfl, hb, hh, hle, hm, hsz, hcur⟩
  · rw [List.length_eq_zero_iff.1 h0]
    exact Texts.void w
  · refine ⟨_, cap, rfl, hle, hm, fun hp => ⟨g, 0, rfl, ?_, fun j x hx => ?_⟩⟩
    · exact (Array.getElem?_eq_some_iff.1 hh).1
    · rw [Nat.zero_add, h.cellAt j (by have := (List.getElem?_eq_some_iff.1 hx).1; omega), List.getElem?_map, hx]
      rfl

/-- The loop of cut, behind k rounds: the pieces so far, and where the next one begins. -/
structure CutRel (s : ByteArray) (done : List ByteArray) (f k : Nat) : Prop where
  le : f ≤ k
  few : done.length ≤ k
  mid : k ≤ s.size → done.map (·.data.toList) ++ cutL (s.data.toList.drop f) = cutL s.data.toList ∧ ∀ b ∈ (s.data.toList.drop f).take (k - f), b ≠ 47
  fin : s.size < k → done.map (·.data.toList) = cutL s.data.toList

theorem CutRel.start (s : ByteArray) : CutRel s [] 0 0 :=
  ⟨Nat.le_refl _, Nat.le_refl _, fun _ => ⟨rfl, by simp⟩, fun h => by omega⟩

theorem CutRel.skip {s : ByteArray} {done : List ByteArray} {f k : Nat} (h : CutRel s done f k) (hlt : k < s.size) (hc : (s[k]'hlt) ≠ 47) : CutRel s done f (k + 1) := by
  have hle := h.le
  have hfew := h.few
  refine ⟨by omega, by omega, fun _ => ?_, fun h2 => by omega⟩
  obtain ⟨h1, h2⟩ := h.mid (by omega)
  refine ⟨h1, fun b hb => ?_⟩
  have e : (s.data.toList.drop f)[k - f]? = some (s[k]'hlt) := by rw [List.getElem?_drop, show f + (k - f) = k by omega]; exact at_data s k hlt
  rw [show k + 1 - f = k - f + 1 by omega, take_snoc _ _ _ e, List.mem_append] at hb
  rcases hb with hb | hb
  · exact h2 b hb
  · rw [List.mem_singleton.1 hb]; exact hc

theorem piece_data (s : ByteArray) (f k : Nat) : (s.extract f k).data.toList = (s.data.toList.drop f).take (k - f) := Lib.extract_data s f k

theorem CutRel.hit {s : ByteArray} {done : List ByteArray} {f k : Nat} (h : CutRel s done f k) (hlt : k < s.size) (hc : (s[k]'hlt) = 47) : CutRel s (done ++ [s.extract f k]) (k + 1) (k + 1) := by
  have hle := h.le
  have hfew := h.few
  refine ⟨by omega, by simp; omega, fun _ => ?_, fun h2 => by omega⟩
  obtain ⟨h1, h2⟩ := h.mid (by omega)
  refine ⟨?_, by simp⟩
  have e : (s.data.toList.drop f)[k - f]? = some 47 := by rw [List.getElem?_drop, show f + (k - f) = k by omega, at_data s k hlt, hc]
  have hl := (List.getElem?_eq_some_iff.1 e).1
  have split : s.data.toList.drop f = (s.data.toList.drop f).take (k - f) ++ 47 :: s.data.toList.drop (k + 1) := by
    conv => lhs; rw [← List.take_append_drop (k - f) (s.data.toList.drop f)]
    congr 1
    rw [List.drop_eq_getElem_cons hl, (List.getElem?_eq_some_iff.1 e).2, List.drop_drop]
    congr 2
    omega
  rw [← h1, List.map_append, List.append_assoc]
  congr 1
  rw [split, cutL_hit h2]
  simp

theorem CutRel.last {s : ByteArray} {done : List ByteArray} {f k : Nat} (h : CutRel s done f k) (hk : k = s.size) : CutRel s (done ++ [s.extract f k]) (k + 1) (k + 1) := by
  have hle := h.le
  have hfew := h.few
  refine ⟨by omega, by simp; omega, fun h2 => by omega, fun _ => ?_⟩
  obtain ⟨h1, h2⟩ := h.mid (by omega)
  have e : (s.data.toList.drop f).take (k - f) = s.data.toList.drop f := List.take_of_length_le (by rw [List.length_drop, ← Lib.size_eq]; omega)
  rw [e] at h2
  rw [← h1, cutL_free h2, List.map_append]
  congr 1
  rw [List.map_singleton, piece_data, e]

theorem CutRel.done {s : ByteArray} {done : List ByteArray} {f k : Nat} (h : CutRel s done f k) (hk : s.size < k) : done = cutB s := by
  unfold cutB
  rw [← h.fin hk, ofL_map]

theorem Tryz.infoText : (Tryz.prog.info? 9).map (fun i => (i.zero, i.size, i.bytes)) = some (some (.string ByteArray.empty), 1, 16) := by kernel_rfl

/-- One piece more, in the round's world. -/
theorem cut_step {w wr w1 : World} {v v' : Value} {done : List ByteArray} {x : ByteArray} {row : Option Nat} {o : Obj} {e : TypeId} (hbel : Below w.heap.size w wr) (hown : wr.ownsRow w.heap.size e 1 v done.length (done.map Value.string))
    (hr : row = v.ownBlock) (hg : (wr.alloc o).grownBy w1 row) (hown1 : w1.ownsRow w.heap.size e 1 v' (done.length + 1) (done.map Value.string ++ [.string x])) :
    Below w.heap.size w w1 ∧ w1.ownsRow w.heap.size e 1 v' (done ++ [x]).length ((done ++ [x]).map Value.string) := by
  have hz := hbel.size
  refine ⟨(hbel.alloc hz _).grown hg (by simp; omega) (fun k hk => (hown.lt k (by rw [← hr]; exact hk)).1), ?_⟩
  simpa using hown1

end Go.Proofs.YtgofmnhfajmbfaaGreatDoor

namespace Go.Proofs.YtgofmnhfajmbfaaGreatDoor
open Go Go.RowKit

/-- The slice v holds the texts l in a block of its own, from the block n on. -/
def OwnTexts (n : Nat) (w : World) (v : Value) (l : List ByteArray) : Prop := ∃ e, w.ownsRow n e 1 v l.length (l.map Value.string)
theorem OwnTexts.void (n : Nat) (w : World) : OwnTexts n w (.slice none 0 0) [] := ⟨0, rfl, Or.inl ⟨rfl, rfl⟩⟩
theorem OwnTexts.texts {n : Nat} {w : World} {v : Value} {l : List ByteArray} (h : OwnTexts n w v l) : Texts w v l := let ⟨_, h⟩ := h; Texts.own h
theorem OwnTexts.mono {n m : Nat} {w : World} {v : Value} {l : List ByteArray} (h : OwnTexts n w v l) (hm : m ≤ n) : OwnTexts m w v l := by
  obtain ⟨e, h1, h2⟩ := h
  refine ⟨e, h1, h2.imp_right ?_⟩
  rintro ⟨g, cap, cur, hv, hb, h3⟩
  exact ⟨g, cap, cur, hv, by omega, h3⟩
theorem OwnTexts.same {n : Nat} {w w' : World} {v : Value} {l : List ByteArray} (h : OwnTexts n w v l) (hs : ∀ k, n ≤ k → ∀ o, w.heap[k]? = some o → w'.heap[k]? = some o) : OwnTexts n w' v l := by
  obtain ⟨e, h1, h2⟩ := h
  refine ⟨e, h1, h2.imp_right ?_⟩
  rintro ⟨g, cap, cur, hv, hb, hh, h3⟩
  exact ⟨g, cap, cur, hv, hb, hs g hb _ hh, h3⟩
theorem OwnTexts.below {n : Nat} {w w' : World} {v : Value} {l : List ByteArray} (h : OwnTexts n w v l) (hb : Below w.heap.size w w') : OwnTexts n w' v l :=
  h.same (fun k _ o ho => by rw [hb.block k (Array.getElem?_eq_some_iff.1 ho).1]; exact ho)
end Go.Proofs.YtgofmnhfajmbfaaGreatDoor

namespace Go.Proofs.YtgofmnhfajmbfaaGreatDoor
open Go.RowKit Txt

theorem Texts.laid (w : World) (l : List ByteArray) (t : TypeId) (hl : l.length ≤ maxLen) : Texts (w.alloc (.cells (l.map Value.string).toArray t)) (.slice (some ⟨w.heap.size, 0, none⟩) l.length l.length) l := by
  refine ⟨_, _, rfl, Nat.le_refl _, hl, fun hp => ⟨w.heap.size, 0, rfl, by simp, fun j x hx => ?_⟩⟩
  rw [Nat.zero_add, World.cell?_alloc_at _ _ _ _ rfl]
  simp [hx]

theorem cut_sizes {s x : ByteArray} (h : x ∈ cutB s) : x.size ≤ s.size := by
  unfold cutB at h
  obtain ⟨l, hl, rfl⟩ := List.mem_map.1 h
  have key : ∀ (t : List UInt8) (l : List UInt8), l ∈ cutL t → l.length ≤ t.length := by
    intro t
    induction t with
    | nil => intro l h; simp [cutL] at h; simp [h]
    | cons c r ih =>
      intro l h
      unfold cutL at h
      split at h
      · rcases List.mem_cons.1 h with rfl | h
        · simp
        · have := ih l h; simp; omega
      · split at h
        · rw [List.mem_singleton.1 h]; simp
        · rename_i x xs hx
          rcases List.mem_cons.1 h with rfl | h
          · have := ih x (by rw [hx]; simp); simp; omega
          · have := ih l (by rw [hx]; simp [h]); simp; omega
  have := key _ _ hl
  rw [Lib.size_eq, Lib.size_eq, ofL_data]
  exact this

theorem splitN_empty {p : ByteArray} (h : p.data.toList = []) : splitN p = ([], 90) := by unfold splitN; rw [h]
theorem splitN_bare {p : ByteArray} {c : UInt8} {r : List UInt8} (h : p.data.toList = c :: r) (hc : c ≠ 47) : splitN p = ([], 90) := by unfold splitN; rw [h]; simp [hc]
theorem splitN_root {p : ByteArray} (h : p.data.toList = [47]) : splitN p = ([], 0) := by unfold splitN; rw [h]; rfl
theorem splitN_good {p : ByteArray} {r : List UInt8} (h : p.data.toList = 47 :: r) (hr : r ≠ []) (hm : mayC (cutB (ofL r)) = 0) : splitN p = (cutB (ofL r), 0) := by unfold splitN; rw [h]; simp [hr, hm]
theorem splitN_bad {p : ByteArray} {r : List UInt8} (h : p.data.toList = 47 :: r) (hr : r ≠ []) (hm : mayC (cutB (ofL r)) ≠ 0) : splitN p = ([], mayC (cutB (ofL r))) := by unfold splitN; rw [h]; simp [hr, hm]

/-- What Split leaves. -/
def SplitPost (p : ByteArray) (w : World) (e : Ending) (w' : World) : Prop :=
  ∃ v, e = .returned (.tuple #[v, .int .i64 (splitN p).2]) ∧ Texts w' v (splitN p).1 ∧ Below w.heap.size w w'

theorem SplitPost.err {p : ByteArray} {c : Int} (h : splitN p = ([], c)) {w w' : World} (hb : Below w.heap.size w w') : SplitPost p w (.returned (.tuple #[.slice none 0 0, .int .i64 c])) w' :=
  ⟨_, by rw [h], by rw [h]; exact Texts.void _, hb⟩
theorem SplitPost.ok {p : ByteArray} {l : List ByteArray} (h : splitN p = (l, 0)) {w w' : World} {v : Value} (ht : Texts w' v l) (hb : Below w.heap.size w w') : SplitPost p w (.returned (.tuple #[v, .int .i64 0])) w' :=
  ⟨_, by rw [h], by rw [h]; exact ht, hb⟩

theorem at_first {p : ByteArray} {c : UInt8} {r : List UInt8} (h : p.data.toList = c :: r) : ∃ h0 : 0 < p.size, p[0]'h0 = c := by
  have hz : p.size = r.length + 1 := by rw [Lib.size_eq, h]; rfl
  refine ⟨by omega, ?_⟩
  have := at_data p 0 (by omega)
  rw [h] at this
  exact (Option.some.inj this).symm

theorem tail_ofL {p : ByteArray} {c : UInt8} {r : List UInt8} (h : p.data.toList = c :: r) : p.extract 1 p.size = ofL r := by
  apply Txt.ext
  rw [Lib.extract_data, h, ofL_data, List.drop_succ_cons, List.drop_zero, List.take_of_length_le]
  rw [Lib.size_eq, h]
  simp

end Go.Proofs.YtgofmnhfajmbfaaGreatDoor
