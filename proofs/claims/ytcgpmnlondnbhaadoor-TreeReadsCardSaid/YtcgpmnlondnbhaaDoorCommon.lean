/-
  Common and Under, of names.go and of the document.
-/
import Derived.Test.YtcgpmnlondnbhaaDoorPaths
namespace Go.Proofs.YtcgpmnlondnbhaaDoor
open Go.RowKit Txt

theorem lcp_step {a b : List ByteArray} {k : Nat} {x : ByteArray} (ha : a[k]? = some x) (hb : b[k]? = some x) : lcp (a.drop k) (b.drop k) = lcp (a.drop (k + 1)) (b.drop (k + 1)) + 1 := by
  obtain ⟨h1, h2⟩ := List.getElem?_eq_some_iff.1 ha
  obtain ⟨g1, g2⟩ := List.getElem?_eq_some_iff.1 hb
  rw [List.drop_eq_getElem_cons h1, List.drop_eq_getElem_cons g1, h2, g2]
  conv => lhs; unfold lcp
  rw [if_pos rfl]
theorem lcp_stop {a b : List ByteArray} {k : Nat} {x y : ByteArray} (ha : a[k]? = some x) (hb : b[k]? = some y) (h : x ≠ y) : lcp (a.drop k) (b.drop k) = 0 := by
  obtain ⟨h1, h2⟩ := List.getElem?_eq_some_iff.1 ha
  obtain ⟨g1, g2⟩ := List.getElem?_eq_some_iff.1 hb
  rw [List.drop_eq_getElem_cons h1, List.drop_eq_getElem_cons g1, h2, g2]
  conv => lhs; unfold lcp
  rw [if_neg h]
theorem lcp_end {a b : List ByteArray} {k : Nat} (h : a.length ≤ k ∨ b.length ≤ k) : lcp (a.drop k) (b.drop k) = 0 := by
  rcases h with h | h
  · rw [List.drop_of_length_le h]; rfl
  · rw [List.drop_of_length_le h]; cases a.drop k <;> rfl

def CommonPost (a b : ByteArray) (w : World) (e : Ending) (w' : World) : Prop :=
  e = .returned (.tuple #[.int .i64 (commonN a b).1, .int .i64 (commonN a b).2]) ∧ Below w.heap.size w w'
theorem CommonPost.mk {a b : ByteArray} {n c : Int} (h : commonN a b = (n, c)) {w w' : World} (hb : Below w.heap.size w w') : CommonPost a b w (.returned (.tuple #[.int .i64 n, .int .i64 c])) w' :=
  ⟨by rw [h], hb⟩
theorem commonN_err1 {a b : ByteArray} {c : Int} (h : splitN a = ([], c)) (hc : (c == 0) = false) : commonN a b = (0, c) := by
  unfold commonN; rw [h]; simp [beq_eq_false_iff_ne.1 hc]
theorem commonN_err2 {a b : ByteArray} {l : List ByteArray} {c : Int} (h : splitN a = (l, 0)) (g : splitN b = ([], c)) (hc : (c == 0) = false) : commonN a b = (0, c) := by
  unfold commonN; rw [h, g]; simp [beq_eq_false_iff_ne.1 hc]
theorem commonN_ok {a b : ByteArray} {l m : List ByteArray} (h : splitN a = (l, 0)) (g : splitN b = (m, 0)) : commonN a b = (((lcp l m : Nat) : Int), 0) := by
  unfold commonN; rw [h, g]; rfl

section
set_option maxHeartbeats 400000

theorem both_ok {a b : ByteArray} {l m : List ByteArray} (h : Hid (splitN a = (l, 0))) (g : Hid (splitN b = (m, 0))) (w : World) (hm : MaxOk w) (hs : a.size ≤ 4000000000) (hs2 : b.size ≤ 4000000000) :
    Calls Tryd.prog 35 #[.string a, .string b] w fun e w' => ∃ v u, e = .returned (.tuple #[v, u, .int .i64 0]) ∧ Texts w' v l ∧ Texts w' u m ∧ Below w.heap.size w w' := by
  go_enter Tryd.func35, Tryd.ntmps35
  go_wp2_with fail
  refine (split_ok h _ hm hs).mono ?_
  rintro e w1 ⟨v, rfl, ht, hb⟩
  go_wp2_with fail
  refine (split_ok g _ (hm.below hb) hs2).mono ?_
  rintro e w2 ⟨u, rfl, hu, hb2⟩
  go_wp2
  go_ret3
  exact ⟨v, u, rfl, ht.below hb2, hu, hb.trans (hb2.mono hb.size)⟩
theorem both_err1 {a b : ByteArray} {c : Int} (h : Hid (splitN a = ([], c))) (hc : (c == 0) = false) (w : World) (hm : MaxOk w) (hs : a.size ≤ 4000000000) :
    Calls Tryd.prog 35 #[.string a, .string b] w fun e w' => ∃ v u, e = .returned (.tuple #[v, u, .int .i64 c]) ∧ Below w.heap.size w w' := by
  go_enter Tryd.func35, Tryd.ntmps35
  go_wp2_with fail
  refine (split_err h _ hm hs).mono ?_
  rintro e w1 ⟨v, rfl, ht, hb⟩
  go_wp2
  go_ret3
  exact ⟨v, _, rfl, hb⟩
theorem both_err2 {a b : ByteArray} {l : List ByteArray} {c : Int} (h : Hid (splitN a = (l, 0))) (g : Hid (splitN b = ([], c))) (w : World) (hm : MaxOk w) (hs : a.size ≤ 4000000000) (hs2 : b.size ≤ 4000000000) :
    Calls Tryd.prog 35 #[.string a, .string b] w fun e w' => ∃ v u, e = .returned (.tuple #[v, u, .int .i64 c]) ∧ Below w.heap.size w w' := by
  go_enter Tryd.func35, Tryd.ntmps35
  go_wp2_with fail
  refine (split_ok h _ hm hs).mono ?_
  rintro e w1 ⟨v, rfl, ht, hb⟩
  go_wp2_with fail
  refine (split_err g _ (hm.below hb) hs2).mono ?_
  rintro e w2 ⟨u, rfl, hu, hb2⟩
  go_wp2
  go_ret3
  exact ⟨v, u, rfl, hb.trans (hb2.mono hb.size)⟩

theorem common_any (a b : ByteArray) (w : World) (hm : MaxOk w) (hs : a.size ≤ 4000000000) (hs2 : b.size ≤ 4000000000) :
    Calls Tryd.prog 36 #[.string a, .string b] w (CommonPost a b w) := by
  rcases splitN_or a with ⟨l, h, h8⟩ | ⟨c, h, hc⟩
  · rcases splitN_or b with ⟨m, g, g8⟩ | ⟨d, g, hd⟩
    · have H := Lib.hid h
      have G := Lib.hid g
      have HC := Lib.hid (commonN_ok h g)
      clear h g
      go_enter Tryd.func36, Tryd.ntmps36
      go_wp2_with fail
      refine (both_ok H G _ hm hs hs2).mono ?_
      rintro e w1 ⟨v, u, rfl, hv, hu, hb⟩
      obtain ⟨ad, n, cap, rfl, HN, hn8, HX⟩ := hv.open8 h8
      obtain ⟨ae, n2, cap2, rfl, HN2, hn28, HX2⟩ := hu.open8 g8
      clear hv hu
      go_wp2
      go_loopw [9] (fun i wr => ∃ k : Nat, k ≤ n ∧ k ≤ n2 ∧ i = .int .i64 k ∧ lcp l m = k + lcp (l.drop k) (m.drop k) ∧ Below w1.heap.size w1 wr) (fun i _ => n - (intOf i).toNat)
      case atStart => exact ⟨0, Nat.zero_le _, Nat.zero_le _, rfl, by simp, Below.refl _ _⟩
      case round =>
        obtain ⟨k, hk, hk2, rfl, hall, hbel⟩ := hrel
        have HA := Lib.hid hall
        have HB := Lib.hid (hb.trans (hbel.mono hb.size))
        clear hall
        by_cases hlt : k < n
        · by_cases hlt2 : k < n2
          · obtain ⟨b1, off, x, rfl, hb1, hx, hcx⟩ := HX.out k hlt
            obtain ⟨b2, off2, y, rfl, hb2, hy, hcy⟩ := HX2.out k hlt2
            have hcell := (hbel.cell (p := ⟨b1, off + k, none⟩) hb1).trans hcx
            have hcellt := (hbel.cell (p := ⟨b2, off2 + k, none⟩) hb2).trans hcy
            have X := Lib.hid hx
            have Y := Lib.hid hy
            have HBel := Lib.hid hbel
            have hd : decide ((k : Int) < min (n : Int) (n2 : Int)) = true := decide_eq_true (by omega)
            have q := text_eq x y
            clear hx hy hcx hcy HX HX2 hbel hb
            by_cases hq : x = y
            · have q' : (x.toList == y.toList) = true := q.trans (decide_eq_true hq)
              have HQ := Lib.hid hq
              clear q hq
              go_wp2
              go_quiet (fail)
              go_wp2
              go_roundw
              case rel => exact ⟨k + 1, by omega, by omega, by go_num, by rw [HA.out, lcp_step X.out (by rw [Y.out, HQ.out])]; omega, below_drewN HBel.out _⟩
              case measure => simp [intOf]; omega
            · have q' : (x.toList == y.toList) = false := q.trans (decide_eq_false hq)
              have HQ := Lib.hid hq
              clear q hq
              go_wp2
              go_quiet (fail)
              go_wp2
              go_ret2
              exact CommonPost.mk (by rw [HC.out, HA.out, lcp_stop X.out Y.out HQ.out]; rfl) (below_drewN HB.out _)
          · have hd : decide ((k : Int) < min (n : Int) (n2 : Int)) = false := decide_eq_false (by omega)
            clear HX HX2 hbel hb
            go_wp2
            go_quiet (fail)
            go_wp2
            go_ret2
            exact CommonPost.mk (by rw [HC.out, HA.out, lcp_end (Or.inr (by have := HN2.out; omega))]; rfl) (below_drewN HB.out _)
        · have hd : decide ((k : Int) < min (n : Int) (n2 : Int)) = false := decide_eq_false (by omega)
          clear HX HX2 hbel hb
          go_wp2
          go_quiet (fail)
          go_wp2
          go_ret2
          exact CommonPost.mk (by rw [HC.out, HA.out, lcp_end (Or.inl (by have := HN.out; omega))]; rfl) (below_drewN HB.out _)
    · have H := Lib.hid h
      have G := Lib.hid g
      have HC := Lib.hid (commonN_err2 h g hd)
      clear h g
      go_enter Tryd.func36, Tryd.ntmps36
      go_wp2_with fail
      refine (both_err2 H G _ hm hs hs2).mono ?_
      rintro e w1 ⟨v, u, rfl, hb⟩
      go_wp2
      go_ret2
      exact CommonPost.mk HC.out hb
  · have H := Lib.hid h
    have HC := Lib.hid (commonN_err1 (b := b) h hc)
    clear h
    go_enter Tryd.func36, Tryd.ntmps36
    go_wp2_with fail
    refine (both_err1 H hc _ hm hs).mono ?_
    rintro e w1 ⟨v, u, rfl, hb⟩
    go_wp2
    go_ret2
    exact CommonPost.mk HC.out hb

end

def UnderPost (a b : ByteArray) (w : World) (e : Ending) (w' : World) : Prop :=
  e = .returned (.tuple #[.bool (underN a b).1, .int .i64 (underN a b).2]) ∧ Below w.heap.size w w'
theorem UnderPost.mk {a b : ByteArray} {n : Bool} {c : Int} (h : underN a b = (n, c)) {w w' : World} (hb : Below w.heap.size w w') : UnderPost a b w (.returned (.tuple #[.bool n, .int .i64 c])) w' :=
  ⟨by rw [h], hb⟩
theorem underN_err1 {a b : ByteArray} {c : Int} (h : splitN a = ([], c)) (hc : (c == 0) = false) : underN a b = (false, c) := by
  unfold underN; rw [h]; simp [beq_eq_false_iff_ne.1 hc]
theorem underN_err2 {a b : ByteArray} {l : List ByteArray} {c : Int} (h : splitN a = (l, 0)) (g : splitN b = ([], c)) (hc : (c == 0) = false) : underN a b = (false, c) := by
  unfold underN; rw [h, g]; simp [beq_eq_false_iff_ne.1 hc]
theorem underN_ok {a b : ByteArray} {l m : List ByteArray} (h : splitN a = (l, 0)) (g : splitN b = (m, 0)) : underN a b = (decide (lcp l m = l.length), 0) := by
  unfold underN; rw [h, g]; rfl
theorem nat_eq_bool {n m k : Nat} (h : n = m) : ((k : Int) == (n : Int)) = decide (k = m) := by
  rw [Bool.eq_iff_iff, beq_iff_eq, decide_eq_true_iff]; omega
theorem common_ok {a b : ByteArray} {n c : Int} (h : Hid (commonN a b = (n, c))) (w : World) (hm : MaxOk w) (hs : a.size ≤ 4000000000) (hs2 : b.size ≤ 4000000000) :
    Calls Tryd.prog 36 #[.string a, .string b] w fun e w' => e = .returned (.tuple #[.int .i64 n, .int .i64 c]) ∧ Below w.heap.size w w' := by
  have := common_any a b w hm hs hs2
  unfold CommonPost at this
  rw [h.out] at this
  exact this
section
set_option maxHeartbeats 400000
theorem under_any (a b : ByteArray) (w : World) (hm : MaxOk w) (hs : a.size ≤ 4000000000) (hs2 : b.size ≤ 4000000000) :
    Calls Tryd.prog 18 #[.string a, .string b] w (UnderPost a b w) := by
  rcases splitN_or a with ⟨l, h, h8⟩ | ⟨c, h, hc⟩
  · rcases splitN_or b with ⟨m, g, g8⟩ | ⟨d, g, hd⟩
    · have H := Lib.hid h
      have G := Lib.hid g
      have HC := Lib.hid (commonN_ok h g)
      have HU := Lib.hid (underN_ok h g)
      clear h g
      go_enter Tryd.func18, Tryd.ntmps18
      go_wp2_with fail
      refine (both_ok H G _ hm hs hs2).mono ?_
      rintro e w1 ⟨v, u, rfl, hv, hu, hb⟩
      obtain ⟨ad, n, cap, rfl, HN, hn8, HX⟩ := hv.open8 h8
      clear hv hu HX
      go_wp2_with fail
      refine (common_ok HC _ (hm.below hb) hs hs2).mono ?_
      rintro e w2 ⟨rfl, hb2⟩
      go_wp2
      go_ret2
      rw [nat_eq_bool HN.out]
      exact UnderPost.mk HU.out (hb.trans (hb2.mono hb.size))
    · have H := Lib.hid h
      have G := Lib.hid g
      have HU := Lib.hid (underN_err2 h g hd)
      clear h g
      go_enter Tryd.func18, Tryd.ntmps18
      go_wp2_with fail
      refine (both_err2 H G _ hm hs hs2).mono ?_
      rintro e w1 ⟨v, u, rfl, hb⟩
      go_wp2
      go_ret2
      exact UnderPost.mk HU.out hb
  · have H := Lib.hid h
    have HU := Lib.hid (underN_err1 (b := b) h hc)
    clear h
    go_enter Tryd.func18, Tryd.ntmps18
    go_wp2_with fail
    refine (both_err1 H hc _ hm hs).mono ?_
    rintro e w1 ⟨v, u, rfl, hb⟩
    go_wp2
    go_ret2
    exact UnderPost.mk HU.out hb
end
theorem under_pair {a b : ByteArray} {n : Bool} {c : Int} (h : Hid (underN a b = (n, c))) (w : World) (hm : MaxOk w) (hs : a.size ≤ 4000000000) (hs2 : b.size ≤ 4000000000) :
    Calls Tryd.prog 18 #[.string a, .string b] w fun e w' => e = .returned (.tuple #[.bool n, .int .i64 c]) ∧ Below w.heap.size w w' := by
  have := under_any a b w hm hs hs2
  unfold UnderPost at this
  rw [h.out] at this
  exact this
end Go.Proofs.YtcgpmnlondnbhaaDoor
