/-
  The chapter's example; the law NamesSplit's walk.
-/
import Derived.Test.YtnkcdeophjhblaaDoorCommon
import Derived.Test.YtnkcdeophjhblaaDoorJoin
namespace Go.Proofs.YtnkcdeophjhblaaDoor
open Go.RowKit Txt

theorem splitN_ab : splitN ⟨#[47, 97, 47, 98]⟩ = ([⟨#[97]⟩, ⟨#[98]⟩], 0) := by decide
theorem splitN_aab : splitN ⟨#[47, 97, 47, 47, 98]⟩ = ([], 90) := by decide

section
set_option maxHeartbeats 400000
theorem works_any (w : World) (hm : MaxOk w) : Calls Tryd.prog 14 #[] w fun e w' => e = .returned (.bool true) ∧ Below w.heap.size w w' := by
  go_enter Tryd.func14, Tryd.ntmps14
  go_wp2_with fail
  refine (split_ok (Lib.hid splitN_ab) _ hm (by decide)).mono ?_
  rintro e w1 ⟨v, rfl, hv, hb1⟩
  go_wp2_with fail
  refine (split_err (Lib.hid splitN_aab) _ (hm.below hb1) (by decide)).mono ?_
  rintro e w2 ⟨u, rfl, hu, hb2⟩
  go_wp2_with fail
  refine (sameTexts_yes _ _ [⟨#[97]⟩, ⟨#[98]⟩] _ ((hv.below hb2).below ((Below.refl _ _).alloc (Nat.le_refl _) _)) (Texts.laid w2 [⟨#[97]⟩, ⟨#[98]⟩] _ (by decide))).mono ?_
  rintro e w3 ⟨rfl, hb3⟩
  go_wp2
  go_ret
  refine ⟨rfl, ?_⟩
  have hz1 := hb1.size
  have hz2 := hb2.size
  exact (hb1.trans (hb2.mono hz1)).trans ((((Below.refl _ _).alloc (Nat.le_refl _) _).mono (by omega)).trans (hb3.mono (by simp; omega)))

theorem split_pair {p : ByteArray} {l : List ByteArray} {c : Int} (h : Hid (splitN p = (l, c))) (w : World) (hm : MaxOk w) (hs : p.size ≤ 4000000000) :
    Calls Tryd.prog 9 #[.string p] w fun e w' => ∃ v, e = .returned (.tuple #[v, .int .i64 c]) ∧ Texts w' v l ∧ Below w.heap.size w w' := by
  have h2 := split_any p w hm hs
  unfold SplitPost at h2
  rw [h.out] at h2
  exact h2
theorem refSplit_pair {p : ByteArray} {l : List ByteArray} {c : Int} (h : Hid (splitN p = (l, c))) (w : World) (hs : p.size ≤ 4000000000) :
    Calls Tryd.prog 10 #[.string p] w fun e w' => ∃ v, e = .returned (.tuple #[v, .int .i64 c]) ∧ Texts w' v l ∧ Below w.heap.size w w' := by
  have h2 := refSplit_any p w hs
  unfold SplitPost at h2
  rw [h.out] at h2
  exact h2
theorem last_triple {p : ByteArray} {l : List ByteArray} {x : ByteArray} {c : Int} (h : Hid (lastN p = (l, x, c))) (w : World) (hm : MaxOk w) (hs : p.size ≤ 4000000000) :
    Calls Tryd.prog 11 #[.string p] w fun e w' => ∃ ad n, e = .returned (.tuple #[.slice ad n n, .string x, .int .i64 c]) ∧ Texts w' (.slice ad n n) l ∧ Below w.heap.size w w' := by
  have h2 := last_any p w hm hs
  unfold LastPost1 at h2
  rw [h.out] at h2
  exact h2
theorem refLast_triple {p : ByteArray} {l : List ByteArray} {x : ByteArray} {c : Int} (h : Hid (lastN p = (l, x, c))) (w : World) (hs : p.size ≤ 4000000000) :
    Calls Tryd.prog 12 #[.string p] w fun e w' => ∃ v, e = .returned (.tuple #[v, .string x, .int .i64 c]) ∧ Texts w' v l ∧ Below w.heap.size w w' := by
  have h2 := refLast_any p w hs
  unfold LastPost at h2
  rw [h.out] at h2
  exact h2
theorem under_pair {a b : ByteArray} {n : Bool} {c : Int} (h : Hid (underN a b = (n, c))) (w : World) (hm : MaxOk w) (hs : a.size ≤ 4000000000) (hs2 : b.size ≤ 4000000000) :
    Calls Tryd.prog 16 #[.string a, .string b] w fun e w' => e = .returned (.tuple #[.bool n, .int .i64 c]) ∧ Below w.heap.size w w' := by
  have := under_any a b w hm hs hs2
  unfold UnderPost at this
  rw [h.out] at this
  exact this
theorem refUnder_pair {a b : ByteArray} {n : Bool} {c : Int} (h : Hid (underN a b = (n, c))) (w : World) (hs : a.size ≤ 4000000000) (hs2 : b.size ≤ 4000000000) :
    Calls Tryd.prog 17 #[.string a, .string b] w fun e w' => e = .returned (.tuple #[.bool n, .int .i64 c]) ∧ Below w.heap.size w w' := by
  have := refUnder_any a b w hs hs2
  unfold UnderPost at this
  rw [h.out] at this
  exact this
theorem join_pair {v : Value} {l : List ByteArray} {s : ByteArray} {c : Int} (h : Hid (joinN l = (s, c))) (w : World) (ht : Texts w v l) (hz : ∀ s ∈ l, s.size ≤ maxLen) (hm : MaxOk w) :
    Calls Tryd.prog 19 #[v] w fun e w' => e = .returned (.tuple #[.string s, .int .i64 c]) ∧ Below w.heap.size w w' := by
  have := join_any v l w ht hz hm
  unfold JoinPost at this
  rw [h.out] at this
  exact this
theorem refJoin_pair {v : Value} {l : List ByteArray} {s : ByteArray} {c : Int} (h : Hid (joinN l = (s, c))) (w : World) (ht : Texts w v l) (hz : ∀ s ∈ l, s.size ≤ maxLen) :
    Calls Tryd.prog 20 #[v] w fun e w' => e = .returned (.tuple #[.string s, .int .i64 c]) ∧ Below w.heap.size w w' := by
  have := refJoin_any v l w ht hz
  unfold JoinPost at this
  rw [h.out] at this
  exact this

theorem below_next {a b c : World} (h : Below a.heap.size a b) (k : Below b.heap.size b c) : Below a.heap.size a c := h.trans (k.mono h.size)

theorem namesSplit_walk (p : ByteArray) (w : World) (hm : MaxOk w) (hs : p.size ≤ 4000000000) :
    Calls Tryd.prog 3 #[.string p] w fun e w' => e = .returned (.bool true) ∧ Below w.heap.size w w' := by
  obtain ⟨l, c, hl⟩ : ∃ l c, splitN p = (l, c) := ⟨_, _, rfl⟩
  obtain ⟨d, x, g, hd⟩ : ∃ d x g, lastN p = (d, x, g) := ⟨_, _, _, rfl⟩
  have HL := Lib.hid hl
  have HD := Lib.hid hd
  clear hl hd
  go_enter Tryd.func3, Tryd.ntmps3
  go_wp2_with fail
  refine (split_pair HL _ hm hs).mono ?_
  rintro e w1 ⟨v1, rfl, t1, b1⟩
  go_wp2_with fail
  refine (refSplit_pair HL _ hs).mono ?_
  rintro e w2 ⟨v2, rfl, t2, b2⟩
  have B2 := below_next b1 b2
  have T1 := t1.below b2
  clear b1 b2 t1
  go_wp2_with fail
  refine (last_triple HD _ (hm.below B2) hs).mono ?_
  rintro e w3 ⟨ad3, n3, rfl, t3, b3⟩
  have B3 := below_next B2 b3
  have U1 := T1.below b3
  have U2 := t2.below b3
  clear B2 b3 T1 t2
  go_wp2_with fail
  refine (refLast_triple HD _ hs).mono ?_
  rintro e w4 ⟨v4, rfl, t4, b4⟩
  have B4 := below_next B3 b4
  have V1 := U1.below b4
  have V2 := U2.below b4
  have V3 := t3.below b4
  clear B3 b4 U1 U2 t3
  go_wp2_with fail
  refine (sameTexts_yes _ _ _ _ V1 V2).mono ?_
  rintro e w5 ⟨rfl, b5⟩
  have B5 := below_next B4 b5
  have W3 := V3.below b5
  have W4 := t4.below b5
  clear B4 b5 V1 V2 V3 t4
  go_wp2_with fail
  refine (sameTexts_yes _ _ _ _ W3 W4).mono ?_
  rintro e w6 ⟨rfl, b6⟩
  have B6 := below_next B5 b6
  clear B5 b6 W3 W4
  go_wp2_with fail
  refine (works_any _ (hm.below B6)).mono ?_
  rintro e w7 ⟨rfl, b7⟩
  have B7 := below_next B6 b7
  clear B6 b7
  go_wp2
  go_ret
  exact ⟨rfl, B7⟩
end
end Go.Proofs.YtnkcdeophjhblaaDoor
