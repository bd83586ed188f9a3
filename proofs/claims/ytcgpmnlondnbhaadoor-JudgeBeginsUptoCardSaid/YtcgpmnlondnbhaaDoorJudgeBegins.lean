/-
  The law JudgeBegins' walk.
-/
import Derived.Test.YtcgpmnlondnbhaaDoorJudgeWorks
import Derived.Test.YtcgpmnlondnbhaaDoorJudgeCopied
import Derived.Test.YtcgpmnlondnbhaaDoorLogTill
import Derived.Test.YtcgpmnlondnbhaaDoorAmong
import Derived.RegionTactic
namespace Go.Proofs.YtcgpmnlondnbhaaDoor
open Go Go.RowKit Txt Sp

theorem SrcAt.did {w : World} {b off : Nat} {x : Sp.Did} (h : SrcAt w b off x) : DidAt w b off x :=
  let ⟨ad, cap, h1, _, h3⟩ := h
  ⟨ad, cap, h1, h3⟩
theorem Src.dids {w : World} {v : Value} {L : List Sp.Did} (h : Src w v L) : Dids w v L :=
  let ⟨ad, cap, h1, _, h3, h4, h5⟩ := h
  ⟨ad, cap, h1, h3, h4, fun h0 => let ⟨b, off, e, hb, hx⟩ := h5 h0; ⟨b, off, e, hb, fun k x hk => (hx k x hk).did⟩⟩
theorem Src.take {w : World} {ad : Option Addr} {n cap : Nat} {L : List Sp.Did} (h : Src w (.slice ad n cap) L) {k : Nat} (hk : k ≤ L.length) : Dids w (.slice ad k cap) (L.take k) := by
  obtain ⟨ad', cap', h1, _, h3, h4, h5⟩ := h
  cases h1
  have hlen : (L.take k).length = k := by rw [List.length_take]; omega
  refine ⟨ad, cap, by rw [hlen], by rw [hlen]; omega, h4, fun h0 => ?_⟩
  obtain ⟨b, off, e, hb, hx⟩ := h5 (by rw [hlen] at h0; omega)
  refine ⟨b, off, e, hb, fun j x hj => (hx j x ?_).did⟩
  rw [List.getElem?_take] at hj
  split at hj
  · exact hj
  · cases hj
theorem Src.below {w w' : World} {v : Value} {L : List Sp.Did} (h : Src w v L) (hb : Below w.heap.size w w') : Src w' v L := by
  obtain ⟨ad, cap, h1, h2, h3, h4, h5⟩ := h
  refine ⟨ad, cap, h1, h2, h3, h4, fun h0 => ?_⟩
  obtain ⟨b, off, e, hbl, hx⟩ := h5 h0
  refine ⟨b, off, e, Nat.lt_of_lt_of_le hbl hb.size, fun k x hk => ?_⟩
  obtain ⟨ad2, cap2, t1, t2, t3⟩ := hx k x hk
  exact ⟨ad2, cap2, t1.below hb, t2, fun i y hy => (hb.cell (p := ⟨b, off + k * 16 + i, none⟩) hbl).trans (t3 i y hy)⟩
theorem take_ok {L : List Sp.Did} (h : ∀ x ∈ L, OpOk x.o) (k : Nat) : ∀ x ∈ L.take k, OpOk x.o := fun x hx => h x (List.mem_of_mem_take hx)
theorem tillAt_ok : ∀ (L : List Sp.Did) (k : Nat) (c : Int), (∀ x ∈ L, OpOk x.o) → ∀ x ∈ tillAt L k c, OpOk x.o
  | [], _, _, _, x, hx => by simp [tillAt] at hx
  | y :: r, 0, c, h, x, hx => by
    unfold tillAt at hx
    rcases List.mem_cons.1 hx with rfl | hx
    · exact h y (by simp)
    · exact h x (List.mem_cons_of_mem _ hx)
  | y :: r, k + 1, c, h, x, hx => by
    unfold tillAt at hx
    rcases List.mem_cons.1 hx with rfl | hx
    · exact h x (by simp)
    · exact tillAt_ok r k c (fun z hz => h z (List.mem_cons_of_mem _ hz)) x hx
theorem swap_ok {L : List Sp.Did} (h : ∀ x ∈ L, OpOk x.o) : ∀ x ∈ swapTill L, OpOk x.o := by
  match L with
  | [] => exact h
  | [_] => exact h
  | a :: b :: r =>
    intro x hx
    unfold swapTill at hx
    rcases List.mem_cons.1 hx with rfl | hx
    · exact h a (by simp)
    rcases List.mem_cons.1 hx with rfl | hx
    · exact h b (by simp)
    · exact h x (by simp [hx])

section
set_option maxHeartbeats 8000000
set_option maxRecDepth 20000 in
theorem judgeBegins_walk (w : World) {v : Value} {L : List Sp.Did} (at0 : Int) (hs : Src w v L) (hok : ∀ x ∈ L, OpOk x.o) (hN : ∀ x ∈ L, x.a.names.length ≤ 2000000) (hm : MaxOk w) :
    Calls Tryd.prog 8 #[v, .int .i64 at0] w fun e w' => e = .returned (.bool true) ∧ Below w.heap.size w w' := by
  have HM := Lib.hid hm
  have HOk := Lib.hid hok
  have HNm := Lib.hid hN
  have HS := Lib.hid hs
  obtain ⟨ad, cap, rfl, h0, h1, h2, h3⟩ := hs
  obtain ⟨n, hn⟩ : ∃ n, L.length = n := ⟨_, rfl⟩
  have HN := Lib.hid hn
  have hcap : cap ≤ 9223372036854775807 := Nat.le_trans h2 (by decide)
  have HZ : Hid (ad = none → n = 0 ∧ cap = 0) := by show _ → _; rw [← hn]; exact h0
  rw [hn] at h1 HS ⊢
  clear hm hok hN h0 h2 h3 hn
  go_enter Tryd.func8, Tryd.ntmps8
  go_wp2_with fail
  refine (judgeWorks_any w HM.out).mono ?_
  rintro e w1 ⟨rfl, hb1⟩
  have HB1 := Lib.hid hb1
  clear hb1
  by_cases h40 : 40 < n
  · go_wp2
    go_ret
    exact ⟨rfl, HB1.out⟩
  obtain ⟨a, b, c, hj⟩ : ∃ a b c, judgeN L = (a, b, c) := ⟨_, _, _, rfl⟩
  have HJ := Lib.hid hj
  clear hj
  go_wp2_with fail
  refine (judge_known HJ.out (HS.out.below HB1.out).dids HOk.out (HM.out.below HB1.out)).mono ?_
  rintro e w2 ⟨rfl, hb2⟩
  have HB2 := Lib.hid (below_next HB1.out hb2)
  have HS2 := Lib.hid (HS.out.below HB2.out)
  clear hb2
  by_cases hc0 : c = 0
  · by_cases ha0 : a = 0
    · have HFine : Hid ((judgeN L).1 = 0 ∧ (judgeN L).2.2 = 0) := by
        show _ ∧ _
        rw [HJ.out]
        exact ⟨ha0, hc0⟩
      subst hc0 ha0
      go_wp2_with fail
      refine (among_any w2 at0 (n + 1) (by omega) (by omega)).mono ?_
      rintro e w3 ⟨r, hr, rfl, rfl⟩
      have hr0 : (0 : Int) ≤ (r : Int) := by omega
      have hr1 : (r : Int) ≤ (cap : Int) := by omega
      have HT : Hid (judgeN (L.take r) = (0, 0, 0)) := fine_take HFine.out.1 HFine.out.2 r
      have HSr : Hid (Dids w3 (.slice ad r cap) (L.take r)) := HS2.out.take (by rw [HN.out]; omega)
      by_cases hn2 : n < 2
      · cases ad with
        | none =>
          obtain ⟨rfl, rfl⟩ := HZ.out rfl
          obtain rfl : r = 0 := by omega
          clear hr hr0 hr1 hn2
          go_wp2_with fail
          refine (judge_known HT.out HSr.out (take_ok HOk.out 0) (HM.out.below HB2.out)).mono ?_
          rintro e w4 ⟨rfl, hb4⟩
          have HB4 := Lib.hid (below_next HB2.out hb4)
          clear hb4
          go_wp2
          go_ret
          exact ⟨rfl, HB4.out⟩
        | some a0 =>
          go_wp2_with fail
          refine (judge_known HT.out HSr.out (take_ok HOk.out r) (HM.out.below HB2.out)).mono ?_
          rintro e w4 ⟨rfl, hb4⟩
          have HB4 := Lib.hid (below_next HB2.out hb4)
          clear hb4
          go_wp2
          go_ret
          exact ⟨rfl, HB4.out⟩
      obtain ⟨a0, rfl⟩ : ∃ a0, ad = some a0 := by
        cases ad with
        | none => have := (HZ.out rfl).1; omega
        | some a0 => exact ⟨a0, rfl⟩
      go_wp2_with fail
      refine (judge_known HT.out HSr.out (take_ok HOk.out r) (HM.out.below HB2.out)).mono ?_
      rintro e w4 ⟨rfl, hb4⟩
      have HB4 := Lib.hid (below_next HB2.out hb4)
      have HS4 := Lib.hid (HS2.out.below hb4)
      clear hb4 hr hr0 hr1 HT HSr
      go_wp2_with fail
      refine (judgeCopied_any w4 HS4.out (by rw [HN.out]; omega) HNm.out).mono ?_
      rintro e w5 ⟨cv, xs, rfl, hlog, hb5⟩
      have HB5 := Lib.hid (below_next HB4.out hb5)
      obtain ⟨g, cc, rfl, hgl, hgw, hnc⟩ : ∃ g cc, cv = .slice (some ⟨g, 0, none⟩) n cc ∧ g < w5.heap.size ∧ w4.heap.size ≤ g ∧ n ≤ cc := by
        obtain ⟨hlen, hown⟩ := id hlog.own
        rcases hown with ⟨_, h0⟩ | ⟨g, cap, cur, hv, hb, hg, h1, h2, h3, h4⟩
        · have := HN.out; omega
        · rw [HN.out] at hv h1
          exact ⟨g, cap, hv, (Array.getElem?_eq_some_iff.1 hg).1, hb, h1⟩
      obtain ⟨x, hx⟩ : ∃ x, L[0]? = some x := ⟨L[0]'(by have := HN.out; omega), List.getElem?_eq_getElem _⟩
      obtain ⟨y, hy⟩ : ∃ x, L[1]? = some x := ⟨L[1]'(by have := HN.out; omega), List.getElem?_eq_getElem _⟩
      have hl0 : 0 < L.length := by rw [HN.out]; omega
      have hl1 : 1 < L.length := by rw [HN.out]; omega
      obtain ⟨tx, htx⟩ : ∃ c, x.till = c := ⟨_, rfl⟩
      obtain ⟨ty, hty⟩ : ∃ c, y.till = c := ⟨_, rfl⟩
      obtain ⟨_, _, _, _, cx⟩ := hlog.at' 0 x hx
      obtain ⟨_, _, _, _, cy⟩ := hlog.at' 1 y hy
      have hon : w5.ownsRow w4.heap.size 56 16 (.slice (some ⟨g, 0, none⟩) n cc) n xs := by
        have h := hlog.own
        rw [HN.out] at h
        exact h
      have k0 : w5.cell? ⟨g, 3, none⟩ = some (.int .i64 tx) := by
        rw [hon.cellAt 3 (by omega), ← htx]
        exact cx 3 _ rfl
      have k1 : w5.cell? ⟨g, 19, none⟩ = some (.int .i64 ty) := by
        rw [hon.cellAt 19 (by omega), ← hty]
        exact cy 3 _ rfl
      have k2 : w5.frozen? ⟨g, 3, none⟩ = false := hon.frozenAt _
      have k3 : w5.frozen? ⟨g, 19, none⟩ = false := hon.frozenAt _
      have hA : Dids ((w5.setCell ⟨g, 3, none⟩ (.int .i64 ty)).setCell ⟨g, 19, none⟩ (.int .i64 tx)) (.slice (some ⟨g, 0, none⟩) n cc) (swapTill L) := by
        have h1 := (hlog.tilled HN.out.symm hl0 ty).tilled (by rw [tillAt_length]; exact HN.out.symm) (k := 1) (by rw [tillAt_length]; exact hl1) tx
        rw [← hty, ← htx, (swap_till hx hy).1] at h1
        rw [← hty, ← htx]
        exact h1.dids
      have HBz : Hid (Below w.heap.size w ((w5.setCell ⟨g, 3, none⟩ (.int .i64 ty)).setCell ⟨g, 19, none⟩ (.int .i64 tx)).drew) := by
        have hgz : w.heap.size ≤ g := Nat.le_trans HB4.out.size hgw
        exact below_drewN ((HB5.out.setCell (p := ⟨g, 3, none⟩) hgz _).setCell (p := ⟨g, 19, none⟩) hgz _) 1
      have HA := Lib.hid hA
      have HLate : Hid (judgeN (swapTill L) = (1, 1, 0)) := swap_late HFine.out.1 HFine.out.2 (by rw [HN.out]; omega)
      have HSw := Lib.hid (swap_ok HOk.out)
      clear hlog hon hb5 hx hy hl0 hl1 htx hty cx cy hA hgw
      go_wp2
      go_region
      go_wp2_with fail
      refine (judge_known HLate.out (HA.out.below (below_drewN (Below.refl _ _) 1)) HSw.out (HM.out.below HBz.out)).mono ?_
      rintro e w6 ⟨rfl, hb6⟩
      have HB6 := Lib.hid (below_next HBz.out hb6)
      clear hb6
      go_wp2
      go_ret
      exact ⟨rfl, HB6.out⟩
    · have f1 : (a == 0) = false := beq_eq_false_iff_ne.2 ha0
      have f2 : (a != 0) = true := by simp [ha0]
      subst hc0
      clear ha0
      (go_wp2; go_ret; exact ⟨rfl, HB2.out⟩)
  · have f1 : (c == 0) = false := beq_eq_false_iff_ne.2 hc0
    have f2 : (c != 0) = true := by simp [hc0]
    clear hc0
    (go_wp2; go_ret; exact ⟨rfl, HB2.out⟩)
end
end Go.Proofs.YtcgpmnlondnbhaaDoor
