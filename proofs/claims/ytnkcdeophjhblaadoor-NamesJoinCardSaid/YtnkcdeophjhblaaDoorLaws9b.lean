/-
  The walks of the laws NamesJoin and NamesBack.
-/
import Derived.Test.YtnkcdeophjhblaaDoorLaws9
import Derived.Laws.AppendOwnNone
namespace Go.Proofs.YtnkcdeophjhblaaDoor
open Go.RowKit Txt

theorem texts_cells {w : World} {b off : Nat} {l : List ByteArray} (hc : ∀ j x, l[j]? = some x → w.cell? ⟨b, off + j, none⟩ = some (.string x)) :
    ∀ j u, (l.map Value.string)[j]? = some u → w.cell? ((⟨b, off, none⟩ : Addr).add j) = some u := by
  intro j u hu
  rw [List.getElem?_map] at hu
  obtain ⟨x, hx, rfl⟩ := Option.map_eq_some_iff.1 hu
  have := hc j x hx
  unfold Addr.add
  split
  · rename_i h; subst h; exact this
  · exact this
theorem texts_one (l : List ByteArray) : ∀ u ∈ l.map Value.string, u.oneCell' = true := by
  intro u hu
  obtain ⟨x, _, rfl⟩ := List.mem_map.1 hu
  rfl

section
set_option maxHeartbeats 400000
theorem namesJoin_walk (v : Value) (l : List ByteArray) (w : World) (ht : Texts w v l) (hz : ∀ s ∈ l, s.size ≤ maxLen) (hn : v = .slice none 0 0 ∨ ∃ a n c, v = .slice (some a) n c) (hr : l.length * 16 ≤ 140737488351232) (hm : MaxOk w) :
    Calls Tryd.prog 7 #[v] w fun e w' => e = .returned (.bool true) ∧ Below w.heap.size w w' := by
  obtain ⟨i0, hi, hz0, hz1, hz2⟩ := info_parts Tryd.infoText
  obtain ⟨s, c, hj⟩ : ∃ s c, joinN l = (s, c) := ⟨_, _, rfl⟩
  have HJ := Lib.hid hj
  have HZ := Lib.hid hz
  have HT := Lib.hid ht
  clear hj hz ht
  have fin : ∀ (v' : Value) (w1 : World), Texts w1 v' l → Below w.heap.size w w1 → Hid (Texts w1 v' l ∧ Texts w1 v l ∧ Below w.heap.size w w1 ∧ MaxOk w1) := fun v' w1 h1 h2 => ⟨h1, (HT.out).below h2, h2, hm.below h2⟩
  have HF := Lib.hid fin
  clear fin
  have hown := World.ownsRow_lit (base := w.heap.size) (e := 9) (size := 1) w #[] 0 (Nat.le_refl _) (by decide) rfl
  have start : Below w.heap.size w (w.alloc (.cells #[] 9)) := (Below.refl _ _).alloc (Nat.le_refl _) _
  rcases hn with rfl | ⟨a, n, c', rfl⟩
  · have hl : l = [] := by
      obtain ⟨ad, cap, e, _⟩ := HT.out
      cases l with
      | nil => rfl
      | cons x r => cases e
    have H0 : Hid (Texts (w.alloc (.cells #[] 9)) (.slice (some ⟨w.heap.size, 0, none⟩) 0 0) l) := by
      have := Texts.own (l := []) hown
      rw [hl]
      exact this
    clear hl
    go_enter Tryd.func7, Tryd.ntmps7
    go_wp2_with (at_builtin; refine wpList_append_own_none rfl _ _ 22 rfl w.heap.size 9 i0 1 Tryd.underlying22 hi _ _ _ rfl hown rfl ?_)
    have F := HF.out _ _ H0.out start
    clear HF H0 start hown
    go_wp2_with fail
    refine (join_pair HJ _ F.out.1 HZ.out F.out.2.2.2).mono ?_
    rintro e w2 ⟨rfl, b2⟩
    have B2 := below_next F.out.2.2.1 b2
    have t2 := F.out.1.below b2
    have u2 := F.out.2.1.below b2
    clear F b2
    go_wp2_with fail
    refine (refJoin_pair HJ _ u2 HZ.out).mono ?_
    rintro e w3 ⟨rfl, b3⟩
    have B3 := below_next B2 b3
    have t3 := t2.below b3
    have u3 := u2.below b3
    clear B2 b3 t2 u2
    go_wp2_with fail
    refine (sameTexts_yes _ _ _ _ t3 u3).mono ?_
    rintro e w4 ⟨rfl, b4⟩
    have B4 := below_next B3 b4
    clear B3 b4 t3 u3
    go_wp2_with fail
    refine (works_any _ (hm.below B4)).mono ?_
    rintro e w5 ⟨rfl, b5⟩
    have B5 := below_next B4 b5
    clear B4 b5
    go_wp2
    go_ret
    exact ⟨rfl, B5⟩
  · have hcells : n = l.length ∧ ∀ j u, (l.map Value.string)[j]? = some u → (w.alloc (.cells #[] 9)).cell? (a.add j) = some u := by
      obtain ⟨ad, cap, e, h1, h2, h3⟩ := HT.out
      cases e
      refine ⟨rfl, ?_⟩
      cases l with
      | nil => intro j u hu; simp at hu
      | cons x r =>
        obtain ⟨b, off, e2, hb, hc⟩ := h3 (by simp)
        cases e2
        exact texts_cells (fun j x hx => (start.cell (p := ⟨b, off + j, none⟩) hb).trans (hc j x hx))
    obtain ⟨hnl, hcells⟩ := hcells
    have HC := Lib.hid hcells
    have hlen : (l.map Value.string).length = n * 1 := by rw [List.length_map, hnl, Nat.mul_one]
    have HN := Lib.hid hnl
    have HLen := Lib.hid hlen
    have hr' : n * 16 ≤ 140737488351232 := by rw [hnl]; exact hr
    clear hcells hlen hnl hr
    go_enter Tryd.func7, Tryd.ntmps7
    go_wp2_with (at_builtin; refine wpList_append_own _ rfl _ _ 22 rfl w.heap.size 9 i0 (.string ByteArray.empty) 1 16 Tryd.underlying22 hi hz0 hz1 hz2 rfl (by decide) _ _ _ rfl hown a n c' (l.map Value.string) rfl HLen.out HC.out (texts_one l) ?c3 ?c4 ?c5 ?_)
    case c3 => unfold maxLen; omega
    case c4 => omega
    intro v' w1 hown' hgrow _
    have F : Hid (Texts w1 v' l ∧ Texts w1 (.slice (some a) n c') l ∧ Below w.heap.size w w1 ∧ MaxOk w1) := by
      refine HF.out _ _ ?_ (start.grown hgrow (by simp) (fun k hk => (hown.lt k hk).1))
      have e1 := HN.out
      subst e1
      exact Texts.own (by simpa using hown')
    clear HF HC start hown hown' hgrow
    go_wp2_with fail
    refine (join_pair HJ _ F.out.1 HZ.out F.out.2.2.2).mono ?_
    rintro e w2 ⟨rfl, b2⟩
    have B2 := below_next F.out.2.2.1 b2
    have t2 := F.out.1.below b2
    have u2 := F.out.2.1.below b2
    clear F b2
    go_wp2_with fail
    refine (refJoin_pair HJ _ u2 HZ.out).mono ?_
    rintro e w3 ⟨rfl, b3⟩
    have B3 := below_next B2 b3
    have t3 := t2.below b3
    have u3 := u2.below b3
    clear B2 b3 t2 u2
    go_wp2_with fail
    refine (sameTexts_yes _ _ _ _ t3 u3).mono ?_
    rintro e w4 ⟨rfl, b4⟩
    have B4 := below_next B3 b4
    clear B3 b4 t3 u3
    go_wp2_with fail
    refine (works_any _ (hm.below B4)).mono ?_
    rintro e w5 ⟨rfl, b5⟩
    have B5 := below_next B4 b5
    clear B4 b5
    go_wp2
    go_ret
    exact ⟨rfl, B5⟩
end
end Go.Proofs.YtnkcdeophjhblaaDoor
