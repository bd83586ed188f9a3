/-
  The law JudgeFine's walk.
-/
import Derived.Test.YtcgpmnlondnbhaaDoorJudgeMade
import Derived.Test.YtcgpmnlondnbhaaDoorJudgeWorks
import Derived.Test.YtcgpmnlondnbhaaDoorLogTurned
import Derived.Test.YtcgpmnlondnbhaaDoorAmong
namespace Go.Proofs.YtcgpmnlondnbhaaDoor
open Go Go.RowKit Txt Sp

theorem logFrom_ok : ∀ (l : List Sp.Op) (i : Nat) (t : Sp.Tree), (∀ o ∈ l, OpOk o) → ∀ x ∈ logFrom i t l, OpOk x.o
  | [], _, _, _, x, hx => by simp [logFrom] at hx
  | o :: r, i, t, h, x, hx => by
    unfold logFrom at hx
    rcases List.mem_cons.1 hx with rfl | hx
    · exact h o (by simp)
    · exact logFrom_ok r _ _ (fun p hp => h p (List.mem_cons_of_mem _ hp)) x hx
theorem turnAt_ok : ∀ (L : List Sp.Did) (k : Nat) (c : Int), (∀ x ∈ L, OpOk x.o) → ∀ x ∈ turnAt L k c, OpOk x.o
  | [], _, _, _, x, hx => by simp [turnAt] at hx
  | y :: r, 0, c, h, x, hx => by
    unfold turnAt at hx
    rcases List.mem_cons.1 hx with rfl | hx
    · exact h y (by simp)
    · exact h x (List.mem_cons_of_mem _ hx)
  | y :: r, k + 1, c, h, x, hx => by
    unfold turnAt at hx
    rcases List.mem_cons.1 hx with rfl | hx
    · exact h x (by simp)
    · exact turnAt_ok r k c (fun z hz => h z (List.mem_cons_of_mem _ hz)) x hx

section
set_option maxHeartbeats 8000000
set_option maxRecDepth 20000 in
theorem judgeFine_walk (w : World) {v : Value} {l : List Sp.Op} (at0 code : Int) (hl : Ops w v l) (hok : ∀ o ∈ l, OpOk o) (hm : MaxOk w) :
    Calls Tryd.prog 9 #[v, .int .i64 at0, .int .i64 code] w fun e w' => e = .returned (.bool true) ∧ Below w.heap.size w w' := by
  have HL := Lib.hid hl
  have HO := Lib.hid hok
  have HM := Lib.hid hm
  clear hl hok hm
  go_enter Tryd.func9, Tryd.ntmps9
  go_wp2_with fail
  refine (judgeWorks_any w HM.out).mono ?_
  rintro e w1 ⟨rfl, hb1⟩
  have HB1 := Lib.hid hb1
  have HZ1 : Hid (w.heap.size ≤ w1.heap.size) := hb1.size
  clear hb1
  go_wp2_with fail
  refine (judgeMade_any w1 (HL.out.below HB1.out) HO.out (HM.out.below HB1.out)).mono ?_
  rintro e w2 ⟨lv, xs, pv, rfl, hlog, hpaths, hb2⟩
  obtain ⟨L, hLe⟩ : ∃ L, logFrom 0 Sp.new (l.take 40) = L := ⟨_, rfl⟩
  have hfew : (l.take 40).length ≤ 40 := by rw [List.length_take]; omega
  have hfine := fine_log hfew
  have hcheck := fine_check hfew
  have hplays := plays_log (l.take 40) 0 Sp.new
  have hLok := logFrom_ok (l.take 40) 0 Sp.new (fun o ho => HO.out o (List.mem_of_mem_take ho))
  have hwrong := fun (k : Nat) (c : Int) (x : Sp.Did) => wrong_log (k := k) (c := c) (x := x) hfew
  have hLl : L.length ≤ 40 := by rw [← hLe, logFrom_length]; exact hfew
  rw [hLe] at hlog hfine hcheck hplays hLok hwrong
  have HLog2 := Lib.hid hlog
  have HP2 := Lib.hid hpaths
  have HB2 := Lib.hid (below_next HB1.out hb2)
  have HFine := Lib.hid hfine
  have HLok := Lib.hid hLok
  have HWrong := Lib.hid hwrong
  have HLl := Lib.hid hLl
  have HPN : Hid (pathsN L = ((Sp.new.steps (l.take 40)).paths, 0)) := by
    show pathsN L = _
    unfold pathsN
    rw [hcheck, if_pos rfl, hplays]
  clear hlog hpaths hb2 hfine hcheck hplays hLok hwrong hLl hfew HL HB1
  go_wp2_with fail
  refine (judge_known HFine.out HLog2.out.dids HLok.out (HM.out.below HB2.out)).mono ?_
  rintro e w3 ⟨rfl, hb3⟩
  have HLog3 := Lib.hid (HLog2.out.below hb3)
  have HP3 := Lib.hid (HP2.out.below hb3)
  have HB3 := Lib.hid (below_next HB2.out hb3)
  clear hb3 HLog2 HP2 HB2
  go_wp2_with fail
  refine (judgePaths_any w3 HLog3.out.dids HLok.out (HM.out.below HB3.out)).mono ?_
  rintro e w4 ⟨v4, rfl, hown4, hb4⟩
  rw [HPN.out] at hown4 ⊢
  have HLog4 := Lib.hid (HLog3.out.below hb4)
  have HP4 := Lib.hid (HP3.out.below hb4)
  have HQ4 := Lib.hid hown4
  have HB4 := Lib.hid (below_next HB3.out hb4)
  clear hb4 hown4 HLog3 HP3 HB3
  go_wp2_with fail
  refine (sameTexts_yes _ _ _ _ HQ4.out.texts HP4.out.texts).mono ?_
  rintro e w5 ⟨rfl, hb5⟩
  have HLog5 := Lib.hid (HLog4.out.below hb5)
  have HB5 := Lib.hid (below_next HB4.out hb5)
  clear hb5 HLog4 HP4 HQ4 HB4
  rcases HLog5.out.own.2 with ⟨rfl, h0⟩ | ⟨g, cap, cur, rfl, hbg, hg, hc1, hc2, hc3, hc4⟩
  · go_wp2
    go_ret
    exact ⟨rfl, HB5.out⟩
  by_cases h0 : L.length = 0
  · rw [h0]
    go_wp2
    go_ret
    exact ⟨rfl, HB5.out⟩
  obtain ⟨n, hn⟩ : ∃ n, L.length = n := ⟨_, rfl⟩
  have hlog := HLog5.out
  have hn40 : n ≤ 40 := by rw [← hn]; exact HLl.out
  have hn0 : 0 < n := by omega
  have f0 : ((n : Int) == 0) = false := beq_eq_false_iff_ne.2 (by omega)
  have HNl := Lib.hid hn
  rw [hn]
  clear hn h0 hbg hg hc1 hc2 hc3 hc4
  go_wp2_with fail
  refine (among_any w5 at0 n hn0 (by omega)).mono ?_
  rintro e w6 ⟨r, hr, rfl, rfl⟩
  obtain ⟨x, hx⟩ : ∃ x, L[r]? = some x := ⟨L[r]'(by rw [HNl.out]; exact hr), List.getElem?_eq_getElem _⟩
  obtain ⟨xad, xcap, _, _, hxs⟩ := hlog.at' r x hx
  have hxc := hxs 10 (.int .i64 x.a.code) rfl
  have hlt : r * 16 + 10 < L.length * 16 := by rw [HNl.out]; omega
  have k1 : w6.cell? ⟨g, r * 16 + 10, none⟩ = some (.int .i64 x.a.code) := by rw [hlog.own.cellAt _ hlt]; exact hxc
  have k2 : w6.frozen? ⟨g, r * 16 + 10, none⟩ = false := hlog.own.frozenAt _
  have hturn := hlog.turned (k := r) (by rw [HNl.out]; exact hr) code
  have HW : Hid (code ≠ x.a.code → code ≠ 109 → judgeN (turnAt L r code) = (2, (r : Int), 0)) := HWrong.out r code x hx
  have hgb := (hlog.own.lt g rfl).1
  have hgw : w.heap.size ≤ g := Nat.le_trans HZ1.out hgb
  obtain ⟨xc, hxce⟩ : ∃ xc, x.a.code = xc := ⟨_, rfl⟩
  rw [hxce] at k1 HW
  obtain ⟨W, hWe⟩ : ∃ W, w6.setCell ⟨g, r * 16 + 10, none⟩ (.int .i64 code) = W := ⟨_, rfl⟩
  have HBW : Hid (Below w.heap.size w W) := by
    show Below w.heap.size w W
    rw [← hWe]
    exact HB5.out.setCell (by show w.heap.size ≤ g; exact hgw) _
  rw [hWe, HNl.out] at hturn
  have HTurn := Lib.hid hturn
  have HTok := Lib.hid (turnAt_ok L r code HLok.out)
  clear hturn hx hxs hxc hlt hlog hxce hgb hgw
  by_cases e1 : code = xc
  · have f1 : (code == xc) = true := beq_iff_eq.2 e1
    clear e1
    go_wp2
    go_ret
    exact ⟨rfl, HB5.out⟩
  have f1 : (code == xc) = false := beq_eq_false_iff_ne.2 e1
  by_cases e2 : code = 109
  · have f2 : (code == 109) = true := beq_iff_eq.2 e2
    clear e1 e2
    go_wp2
    go_ret
    exact ⟨rfl, HB5.out⟩
  have f2 : (code == 109) = false := beq_eq_false_iff_ne.2 e2
  have HJ := Lib.hid (HW.out e1 e2)
  clear e1 e2
  go_wp2_with fail
  refine (judge_known HJ.out HTurn.out HTok.out (HM.out.below HBW.out)).mono ?_
  rintro e w7 ⟨rfl, hb7⟩
  have HB7 := Lib.hid (below_next HBW.out hb7)
  clear hb7
  go_wp2
  go_ret
  exact ⟨rfl, HB7.out⟩
end
end Go.Proofs.YtcgpmnlondnbhaaDoor
