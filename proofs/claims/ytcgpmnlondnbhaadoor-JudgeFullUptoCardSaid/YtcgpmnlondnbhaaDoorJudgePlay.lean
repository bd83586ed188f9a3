/-
  The judge's walks: play.
-/
import Derived.Test.YtcgpmnlondnbhaaDoorJudgeCheck
import Derived.Test.YtcgpmnlondnbhaaDoorTreeForks
import Derived.Test.YtcgpmnlondnbhaaDoorTreeRenames
namespace Go.Proofs.YtcgpmnlondnbhaaDoor
open Go Go.RowKit Txt Sp

/-- Behind play: the tree goes on, beside what was. -/
def PlayPost (w0 w : World) (t : Sp.Tree) (k : Nat) (x : Sp.Did) (e : Ending) (w' : World) : Prop :=
  ∃ B' D' r, e = .returned (.tuple #[ptr B', .bool r]) ∧ r = (playN t x).2 ∧ Live w0 w' B' (playN t x).1 (k + 1) D' ∧ Below w.heap.size w w'

theorem Live.more {w0 w : World} {B : Nat} {t : Sp.Tree} {k k' : Nat} {D : Nat → Prop} (h : Live w0 w B t k D) (hk : k ≤ k') : Live w0 w B t k' D := ⟨h.ok, Nat.le_trans h.few hk, h.low, h.rep, h.from0, h.max0⟩

section
set_option maxHeartbeats 8000000
set_option maxRecDepth 20000 in
theorem judgePlay_any {w0 w : World} {B : Nat} {t : Sp.Tree} {k : Nat} {D : Nat → Prop} (hL : Live w0 w B t k D) {x : Sp.Did} {na : Option Addr} {nc : Nat} (ht : Texts w (.slice na x.a.names.length nc) x.a.names) (ho : OpOk x.o) (hk : k ≤ 100000) :
    Calls Tryd.prog 39 #[ptr B, .agg (didA x (.slice na x.a.names.length nc))] w (PlayPost w0 w t k x) := by
  obtain ⟨node, task, frm, till, ⟨ok, op, ot, oo, ol, od⟩, ⟨ac, ak, al, as_, ad, an⟩⟩ := x
  have HL := Lib.hid hL
  have HT := Lib.hid ht
  have HO := Lib.hid ho
  have HK := Lib.hid hk
  simp only at HT HO
  have hb0 := (Below.refl w.heap.size w).alloc (Nat.le_refl _) (.cells (didA ⟨node, task, frm, till, ⟨ok, op, ot, oo, ol, od⟩, ⟨ac, ak, al, as_, ad, an⟩⟩ (.slice na an.length nc)) 56)
  have hx0 := heap_alloc_new w (.cells (didA ⟨node, task, frm, till, ⟨ok, op, ot, oo, ol, od⟩, ⟨ac, ak, al, as_, ad, an⟩⟩ (.slice na an.length nc)) 56)
  unfold didA at hb0 hx0 ⊢
  simp only at hb0 hx0 ⊢
  have HB0 := Lib.hid hb0
  have HX0 := Lib.hid hx0
  clear hL ht ho hk hb0 hx0
  obtain ⟨t', c, c1, c2, c3, cd, cn, hs⟩ : ∃ t' c c1 c2 ck cd cn, t.step ⟨ok, op, ot, oo, ol, od⟩ = (t', ⟨c, c1, c2, ck, cd, cn⟩) := ⟨_, _, _, _, _, _, _, rfl⟩
  have HS := Lib.hid hs
  clear hs
  unfold ptr
  go_enter Tryd.func39, Tryd.ntmps39
  go_wp2_with fail
  refine (fork_live (HL.out.below HB0.out) HK.out).mono ?_
  rintro e w1 ⟨B1, D1, rfl, l1, hb1, hd1⟩
  have L1 := Lib.hid l1
  have A1 : Hid (Apart D1 w1 w.heap.size _) := ⟨heap_below hb1 _ _ HX0.out, fun hj => by
    have h1 := hd1 _ hj
    have h2 := (Array.getElem?_eq_some_iff.1 HX0.out).1
    omega⟩
  have HB1 := Lib.hid (below_next HB0.out hb1)
  have c1x := apart_cells A1.out
  have hd1' : Hid (∀ j, D1 j → w.heap.size < j) := fun j hj => by
    have h1 := hd1 j hj
    have h2 := (Array.getElem?_eq_some_iff.1 HX0.out).1
    omega
  clear l1 hb1 hd1
  unfold ptr
  go_wp2_with fail
  clear c1x
  refine (do_known HS.out L1.out HO.out HK.out).mono ?_
  rintro e w2 ⟨ad2, cap2, D2, rfl, x2, l2, t2, d2⟩
  have A2 := Lib.hid (A1.out.turn t2 d2)
  have HB2 : Hid (Below w.heap.size w w2) := HB1.out.trans (t2.below (n := w.heap.size) (fun j hj => Nat.le_of_lt (hd1'.out j hj)) HB1.out.size)
  obtain ⟨W2, hW2, M2, S2, B2⟩ := l2.stored #[.int .i64 c, .int .i64 c1, .int .i64 c2, .int .i64 c3, .string cd, .slice ad2 cn.length cap2] 29
  have A3 := Lib.hid (A2.out.below B2.out)
  have HB3 : Hid (Below w.heap.size w W2) := below_next HB2.out B2.out
  have X2 : Hid (Texts W2 (.slice ad2 cn.length cap2) cn) := x2.below B2.out
  have T2 : Hid (Texts W2 (.slice na an.length nc) an) := HT.out.below HB3.out
  obtain ⟨n2, hn2⟩ : ∃ n2, w2.heap.size = n2 := ⟨_, rfl⟩
  rw [hn2] at S2
  have ca := apart_cells A3.out
  have cs := apart_cells S2.out
  have LB : Hid (Live w0 W2 B t k D) := HL.out.below HB3.out
  clear l2 t2 d2 x2 L1 A1 A2 HB1 HB2 B2 HB0 HX0 hd1' HT HL
  by_cases hfull : ac = 109 ∧ c = 0
  · obtain ⟨rfl, rfl⟩ := hfull
    have HP : Hid (playN t ⟨node, task, frm, till, ⟨ok, op, ot, oo, ol, od⟩, ⟨109, ak, al, as_, ad, an⟩⟩ = (t, decide ((⟨109, ak, al, as_, ad, an⟩ : Sp.Ans) = { code := 109 }))) := by
      show playN _ _ = _
      unfold playN
      rw [if_pos ⟨rfl, by rw [HS.out]⟩]
    go_wp2_with fail
    clear ca cs
    refine (judgeSame_any W2 (a := ⟨109, ak, al, as_, ad, an⟩) (b := { code := 109 }) ⟨_, rfl, T2.out⟩ ⟨_, rfl, (OwnTexts.void 0 W2).texts⟩).mono ?_
    rintro e w3 ⟨r, rfl, hr, hb3⟩
    have L3 := Lib.hid ((LB.out.below hb3).more (Nat.le_succ k))
    have HB4 := Lib.hid (below_next HB3.out hb3)
    have HR := Lib.hid hr
    clear hr hb3
    go_wp2
    go_ret2
    refine ⟨B, D, r, rfl, ?_, ?_, HB4.out⟩
    · rw [HP.out]
      show r = decide _
      rw [Bool.eq_iff_iff, HR.out, decide_eq_true_iff]
    · rw [HP.out]
      exact L3.out
  · have HP : Hid (playN t ⟨node, task, frm, till, ⟨ok, op, ot, oo, ol, od⟩, ⟨ac, ak, al, as_, ad, an⟩⟩ = (t', decide ((⟨ac, ak, al, as_, ad, an⟩ : Sp.Ans) = ⟨c, c1, c2, c3, cd, cn⟩))) := by
      show playN _ _ = _
      unfold playN
      rw [if_neg (by rw [HS.out]; exact hfull), HS.out]
    have hor : ac ≠ 109 ∨ ac = 109 ∧ c ≠ 0 := by
      by_cases h : ac = 109
      · exact Or.inr ⟨h, fun h0 => hfull ⟨h, h0⟩⟩
      · exact Or.inl h
    clear hfull
    rcases hor with h | ⟨rfl, h⟩
    · have f : (ac == 109) = false := beq_eq_false_iff_ne.2 h
      clear h
      go_wp2_with fail
      clear ca cs
      refine (judgeSame_any W2 (a := ⟨_, ak, al, as_, ad, an⟩) (b := ⟨c, c1, c2, c3, cd, cn⟩) ⟨_, rfl, T2.out⟩ ⟨_, rfl, X2.out⟩).mono ?_
      rintro e w3 ⟨r, rfl, hr, hb3⟩
      have L3 := Lib.hid (M2.out.below hb3)
      have HB4 := Lib.hid (below_next HB3.out hb3)
      have HR := Lib.hid hr
      clear hr hb3
      go_wp2
      go_ret2
      refine ⟨B1, D2, r, rfl, ?_, ?_, HB4.out⟩
      · rw [HP.out]
        show r = decide _
        rw [Bool.eq_iff_iff, HR.out, decide_eq_true_iff]
      · rw [HP.out]
        exact L3.out
    · have f : (c == 0) = false := beq_eq_false_iff_ne.2 h
      clear h
      go_wp2_with fail
      clear ca cs
      refine (judgeSame_any W2 (a := ⟨_, ak, al, as_, ad, an⟩) (b := ⟨c, c1, c2, c3, cd, cn⟩) ⟨_, rfl, T2.out⟩ ⟨_, rfl, X2.out⟩).mono ?_
      rintro e w3 ⟨r, rfl, hr, hb3⟩
      have L3 := Lib.hid (M2.out.below hb3)
      have HB4 := Lib.hid (below_next HB3.out hb3)
      have HR := Lib.hid hr
      clear hr hb3
      go_wp2
      go_ret2
      refine ⟨B1, D2, r, rfl, ?_, ?_, HB4.out⟩
      · rw [HP.out]
        show r = decide _
        rw [Bool.eq_iff_iff, HR.out, decide_eq_true_iff]
      · rw [HP.out]
        exact L3.out
end
end Go.Proofs.YtcgpmnlondnbhaaDoor
