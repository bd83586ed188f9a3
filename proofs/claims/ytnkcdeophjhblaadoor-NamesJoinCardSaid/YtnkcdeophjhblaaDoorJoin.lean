/-
  Join, of names.go and of the document.
-/
import Derived.Test.YtnkcdeophjhblaaDoorMay
import Derived.Test.YtnkcdeophjhblaaDoorSame
namespace Go.Proofs.YtnkcdeophjhblaaDoor
open Go.RowKit Txt

theorem joinL_tail : ∀ l : List ByteArray, joinL l = Lib.joinTail [47] (l.map (·.data.toList))
  | [] => rfl
  | s :: r => by rw [joinL, joinL_tail r]; simp [Lib.joinTail]
theorem joinL_snoc (l : List ByteArray) (x : ByteArray) : joinL (l ++ [x]) = joinL l ++ 47 :: x.data.toList := by
  rw [joinL_tail, joinL_tail, List.map_append]
  simp [Lib.joinTail]
theorem joinL_length : ∀ {l : List ByteArray}, (∀ s ∈ l, s.size ≤ 13) → (joinL l).length ≤ 14 * l.length
  | [], _ => by simp [joinL]
  | s :: r, h => by
    have := joinL_length (l := r) (fun x hx => h x (List.mem_cons_of_mem _ hx))
    have hs := h s (by simp)
    rw [Lib.size_eq] at hs
    rw [joinL, List.length_cons, List.length_append, List.length_cons]
    omega
theorem join_slash (s : ByteArray) (r : List ByteArray) : (47 : UInt8) :: Lib.join ((s :: r).map (·.data.toList)) [47] = joinL (s :: r) := by
  rw [List.map_cons, Lib.join_cons, joinL, joinL_tail]
theorem append_ofL (a b : List UInt8) : ofL a ++ ofL b = ofL (a ++ b) := by
  apply Txt.ext
  simp [ofL]

def JoinPost (l : List ByteArray) (w : World) (e : Ending) (w' : World) : Prop :=
  e = .returned (.tuple #[.string (joinN l).1, .int .i64 (joinN l).2]) ∧ Below w.heap.size w w'
theorem JoinPost.mk {l : List ByteArray} {s : ByteArray} {c : Int} (h : joinN l = (s, c)) {w w' : World} (hb : Below w.heap.size w w') : JoinPost l w (.returned (.tuple #[.string s, .int .i64 c])) w' :=
  ⟨by rw [h], hb⟩
theorem joinN_err {l : List ByteArray} {c : Int} (h : mayC l = c) (hc : c ≠ 0) : joinN l = (ofL [], c) := by
  unfold joinN; rw [if_neg (by rw [h]; exact hc), h]
theorem joinN_ok {l : List ByteArray} (h : mayC l = 0) : joinN l = (joinB l, 0) := by
  unfold joinN; rw [if_pos h]

/-- strings.Join at a stroke, of names. -/
theorem joinText_any (v : Value) (l : List ByteArray) (w : World) (ht : Texts w v l) (h8 : l.length ≤ 8) (hz : ∀ s ∈ l, s.size ≤ 13) :
    Calls Tryd.prog 27 #[v, .string ⟨#[47]⟩] w fun e w' => ∃ t, e = .returned (.string (ofL t)) ∧ Hid (ofL (47 :: t) = joinB l) ∧ t.length ≤ 200 ∧ Below w.heap.size w w' := by
  obtain ⟨ad, cap, rfl, h1, h2, h3⟩ := ht
  cases l with
  | nil =>
    refine (Tryd.strings_Join_none ad cap ⟨#[47]⟩ w).mono ?_
    rintro e w' ⟨rfl, rfl⟩
    exact ⟨[], rfl, rfl, by simp, Below.refl _ _⟩
  | cons s r =>
    obtain ⟨b, off, rfl, hb, hc⟩ := h3 (by simp)
    have hl := join_slash s r
    have hl2 := joinL_length hz
    have hlen : (Lib.join ((s :: r).map (·.data.toList)) [47]).length ≤ 200 := by
      have := congrArg List.length hl
      simp only [List.length_cons] at this hl2 h8
      omega
    refine (Tryd.strings_Join b off cap (s :: r) ⟨#[47]⟩ w hc hb (by omega) h1 (Nat.le_trans hlen (by decide))).mono ?_
    rintro e w' ⟨rfl, hbel⟩
    refine ⟨Lib.join ((s :: r).map (·.data.toList)) [47], rfl, ?_, hlen, hbel⟩
    show ofL _ = joinB (s :: r)
    rw [hl]
    rfl

set_option maxHeartbeats 400000 in
theorem join_any (v : Value) (l : List ByteArray) (w : World) (ht : Texts w v l) (hz : ∀ s ∈ l, s.size ≤ maxLen) (hm : MaxOk w) :
    Calls Tryd.prog 19 #[v] w (JoinPost l w) := by
  obtain ⟨c, hc⟩ : ∃ c, mayC l = c := ⟨_, rfl⟩
  have HM := Lib.hid hc
  have HT := Lib.hid ht
  have HZ := Lib.hid hz
  by_cases h0 : c = 0
  · subst h0
    have HJ := Lib.hid (joinN_ok hc)
    have H8 := Lib.hid (mayC_zero.1 hc)
    clear hc ht hz
    go_enter Tryd.func19, Tryd.ntmps19
    go_wp2_with fail
    refine (may_any _ _ _ HT.out HZ.out hm).mono ?_
    rintro e w1 ⟨rfl, rfl⟩
    rw [HM.out]
    go_wp2_with fail
    refine (joinText_any _ _ _ HT.out H8.out.2 (fun s hs => (nameB_size (H8.out.1 s hs)).2)).mono ?_
    rintro e w1 ⟨t, rfl, hj, htl, hb⟩
    have hsz : (ofL t).size ≤ 200 := by rw [Lib.size_eq, ofL_data]; exact htl
    have HS : Hid ((⟨#[47]⟩ : ByteArray) ++ ofL t = joinB l) := by
      have := append_ofL [47] t
      show ofL [47] ++ ofL t = joinB l
      rw [this]
      exact hj.out
    clear htl hj
    go_wp2
    go_ret2
    rw [HS.out]
    exact JoinPost.mk HJ.out hb
  · have HJ := Lib.hid (joinN_err hc h0)
    have q : (c == 0) = false := beq_eq_false_iff_ne.2 h0
    clear hc ht hz h0
    go_enter Tryd.func19, Tryd.ntmps19
    go_wp2_with fail
    refine (may_any _ _ _ HT.out HZ.out hm).mono ?_
    rintro e w1 ⟨rfl, rfl⟩
    rw [HM.out]
    go_wp2
    go_ret2
    exact JoinPost.mk HJ.out (Below.refl _ _)

theorem joinB_empty {l : List ByteArray} (h : l ≠ []) : joinB l = ofL (joinL l) ∧ (ofL (joinL l)).toList.isEmpty = false := by
  constructor
  · unfold joinB; rw [if_neg h]
  · rw [Lib.toList_data, ofL_data, List.isEmpty_eq_false_iff]
    cases l with
    | nil => exact absurd rfl h
    | cons s r => simp [joinL]

set_option maxHeartbeats 400000 in
theorem refJoin_any (v : Value) (l : List ByteArray) (w : World) (ht : Texts w v l) (hz : ∀ s ∈ l, s.size ≤ maxLen) :
    Calls Tryd.prog 20 #[v] w (JoinPost l w) := by
  obtain ⟨c, hc⟩ : ∃ c, mayC l = c := ⟨_, rfl⟩
  have HM := Lib.hid hc
  have HT := Lib.hid ht
  have HZ := Lib.hid hz
  by_cases h0 : c = 0
  · subst h0
    have HJ := Lib.hid (joinN_ok hc)
    have H8 := Lib.hid (mayC_zero.1 hc)
    obtain ⟨ad, cap, rfl, h1, h2, h3⟩ := ht
    obtain ⟨n, hn⟩ : ∃ n, n = l.length := ⟨_, rfl⟩
    have hn8 : n ≤ 8 := by rw [hn]; exact H8.out.2
    have HN := Lib.hid hn
    have H3 := Lib.hid h3
    rw [← hn] at HT ⊢
    clear hc hz h1 h2 h3 hn
    go_enter Tryd.func20, Tryd.ntmps20
    go_wp2_with fail
    refine (refMay_any _ _ _ HT.out HZ.out).mono ?_
    rintro e w1 ⟨rfl, rfl⟩
    rw [HM.out]
    go_wp2
    go_loop [5, 6] (fun s i => ∃ (k : Nat) (t : ByteArray), k ≤ n ∧ i = .int .i64 k ∧ s = .string t ∧ t.size ≤ 14 * k ∧ Hid (t = ofL (joinL (l.take k)))) (fun _ i => n - (intOf i).toNat)
    case atStart => exact ⟨0, _, Nat.zero_le _, rfl, rfl, by simp [ByteArray.size], rfl⟩
    case round =>
      obtain ⟨k, t, hk, rfl, rfl, hts, HTK⟩ := hrel
      by_cases hlt : k < n
      · obtain ⟨b, off, rfl, hb, hcell⟩ := H3.out (by have := HN.out; omega)
        obtain ⟨x, hx⟩ : ∃ x, l[k]? = some x := ⟨l[k]'(by have := HN.out; omega), by simp⟩
        have hxc := hcell k x hx
        have hxs : x.size ≤ 13 := (nameB_size (H8.out.1 x (List.mem_of_getElem? hx))).2
        have HX := Lib.hid hx
        have HTS : Hid ((t ++ ((⟨#[47]⟩ : ByteArray) ++ x)).size ≤ 14 * (k + 1)) := by
          have h1 : (⟨#[47]⟩ : ByteArray).size = 1 := rfl
          show (t ++ ((⟨#[47]⟩ : ByteArray) ++ x)).size ≤ 14 * (k + 1)
          rw [ByteArray.size_append, ByteArray.size_append, h1]
          omega
        have HE : Hid (t ++ ((⟨#[47]⟩ : ByteArray) ++ x) = ofL (joinL (l.take (k + 1)))) := by
          show t ++ (ofL [47] ++ x) = _
          rw [HTK.out, take_snoc l k x hx, joinL_snoc]
          conv => lhs; rw [← data_ofL x]
          rw [append_ofL, append_ofL]
          rfl
        clear hx hcell H3
        go_wp2
        go_round
        case rel => exact ⟨k + 1, _, by omega, by go_num, rfl, HTS.out, HE⟩
        case measure => simp [intOf]; omega
      · have he : k = n := by omega
        have HF : Hid (t = ofL (joinL l)) := by
          have := HTK.out
          rw [he, HN.out, List.take_length] at this
          exact this
        by_cases hl : l = []
        · have q : t.toList.isEmpty = true := by rw [HF.out, hl, Lib.toList_data, ofL_data]; rfl
          have HB : Hid (joinB l = ⟨#[47]⟩) := by rw [hl]; rfl
          clear hl he
          go_wp2
          go_ret2
          exact JoinPost.mk (by rw [HJ.out, HB.out]) (Below.refl _ _)
        · have h2 := joinB_empty hl
          have q : t.toList.isEmpty = false := by rw [HF.out]; exact h2.2
          have HB := Lib.hid h2.1
          clear hl he h2
          go_wp2
          go_ret2
          exact JoinPost.mk (by rw [HJ.out, HB.out, HF.out]) (Below.refl _ _)
  · have HJ := Lib.hid (joinN_err hc h0)
    have q : (c == 0) = false := beq_eq_false_iff_ne.2 h0
    clear hc ht hz h0
    go_enter Tryd.func20, Tryd.ntmps20
    go_wp2_with fail
    refine (refMay_any _ _ _ HT.out HZ.out).mono ?_
    rintro e w1 ⟨rfl, rfl⟩
    rw [HM.out]
    go_wp2
    go_ret2
    exact JoinPost.mk HJ.out (Below.refl _ _)
end Go.Proofs.YtnkcdeophjhblaaDoor
