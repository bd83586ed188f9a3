/-
  The reference's judge: Judge, Paths.
-/
import Derived.Test.YtcgpmnlondnbhaaGreatDoorPlayB
import Derived.Test.YtcgpmnlondnbhaaGreatDoorRefCheck27
import Derived.Test.YtcgpmnlondnbhaaGreatDoorJudgeJudge
import Derived.Test.YtcgpmnlondnbhaaGreatDoorJudgePaths
namespace Go.Proofs.YtcgpmnlondnbhaaGreatDoor
open Go Go.RowKit Txt Sp

def lastTill (l : List Sp.Did) (k : Nat) (la : Int) : Prop := (k = 0 ∧ la = -1) ∨ ∃ x, 0 < k ∧ l[k - 1]? = some x ∧ x.till = la
section
set_option maxHeartbeats 8000000
set_option maxRecDepth 20000 in
theorem rjudge27_any (w : World) {v : Value} {l : List Sp.Did} (hl : Dids w v l) (hok : ∀ x ∈ l, OpOk x.o) : Calls Tryz.prog 23 #[v] w (JudgePost l w) := by
  have hcheck := rcheck27_any w hl
  unfold CheckPost at hcheck
  obtain ⟨ad, cap, rfl, hn1, hn2, hc⟩ := hl
  obtain ⟨n, hn⟩ : ∃ n, l.length = n := ⟨_, rfl⟩
  have HN := Lib.hid hn
  have HC := Lib.hid hc
  have HO := Lib.hid hok
  rw [hn] at hn1 hcheck ⊢
  have hn3 : n ≤ 9223372036854775807 := Nat.le_trans (Nat.le_trans hn1 hn2) (by decide)
  obtain ⟨ca, cc, hcn⟩ : ∃ ca cc, checkN l = (ca, cc) := ⟨_, _, rfl⟩
  have HCN := Lib.hid hcn
  rw [hcn] at hcheck
  have HCheck := Lib.hid hcheck
  clear hc hn hn1 hn2 hok hcn hcheck
  go_enter Tryz.func23, Tryz.ntmps23
  go_wp2_with fail
  refine HCheck.out.mono ?_
  rintro e w1 ⟨rfl, hb1⟩
  have HB1 := Lib.hid hb1
  clear hb1 HCheck
  by_cases hcc : cc = 0
  rotate_left
  · have f : (cc == 0) = false := beq_eq_false_iff_ne.2 hcc
    have f2 : (cc != 0) = true := by simp [bne, f]
    have HR : Hid (judgeN l = (0, 0, cc)) := by
      show judgeN l = _
      unfold judgeN
      rw [HCN.out, if_neg hcc]
    clear hcc
    go_wp2
    go_ret3
    unfold JudgePost
    rw [HR.out]
    exact ⟨rfl, HB1.out⟩
  · subst hcc
    have hlen : n ≤ 256 := by
      have := HCN.out
      unfold checkN at this
      by_cases h : l.length > 256
      · rw [if_pos h] at this; cases this
      · have := HN.out; omega
    have HC0 : Hid (checkN l = (0, 0)) := by
      have h := HCN.out
      show checkN l = (0, 0)
      unfold checkN at h ⊢
      split at h
      · cases h
      · rename_i h1
        rw [if_neg h1]
        exact check_zero l 0 [] (by rw [h])
    have HR0 : Hid (judgeN l = ((judgeFrom 0 Sp.new (-1) l).1, (judgeFrom 0 Sp.new (-1) l).2, 0)) := by
      show judgeN l = _
      unfold judgeN
      rw [HCN.out, if_pos rfl]
    go_wp2_with fail
    refine (rnew_any (base := w.heap.size) w1 (D := fun _ => False) HB1.out.size (fun j hj => hj.elim)).mono ?_
    rintro e w2 ⟨r, vT, vN, rfl, hr, hb2, -⟩
    have HR2 := Lib.hid hr
    have HB2 := Lib.hid (below_next HB1.out hb2)
    clear hr hb2 HB1
    unfold ptr
    go_wp2
    go_loopw [8] (fun i wr => ∃ (k : Nat) (la : Int) (vT vN : Value), k ≤ n ∧ i = .int .i64 k ∧ Hid (RefAt w.heap.size wr (fun _ => False) r (plays Sp.new (l.take k)) vT vN) ∧ Hid (Below w.heap.size w wr) ∧ Hid (judgeFrom 0 Sp.new (-1) l = judgeFrom k (plays Sp.new (l.take k)) la (l.drop k)) ∧ Hid (lastTill l k la)) (fun i _ => n - (intOf i).toNat)
    case atStart => exact ⟨0, -1, vT, vN, Nat.zero_le _, rfl, HR2, HB2, Lib.hid rfl, Lib.hid (Or.inl ⟨rfl, rfl⟩)⟩
    case round =>
      obtain ⟨k, la, vT, vN, hkn, rfl, HR, HB, HE, HLast⟩ := hrel
      clear HR2 HB2
      by_cases h1 : k < n
      · obtain ⟨b, off, rfl, hbl, hcell⟩ := HC.out (by have := HN.out; omega)
        obtain ⟨x, hx⟩ : ∃ x, l[k]? = some x := ⟨l[k]'(by have := HN.out; omega), List.getElem?_eq_getElem _⟩
        obtain ⟨na, nc, htx, hcs0⟩ := hcell k x hx
        have hcs : ∀ (i : Nat) (y : Value), (didA x (.slice na x.a.names.length nc))[i]? = some y → wr.cell? ⟨b, off + k * 16 + i, none⟩ = some y := fun i y hy => (HB.out.cell (p := ⟨b, off + k * 16 + i, none⟩) hbl).trans (hcs0 i y hy)
        have HD : Hid (l.drop k = x :: l.drop (k + 1)) := by
          obtain ⟨h1, h2⟩ := List.getElem?_eq_some_iff.1 hx
          show l.drop k = x :: l.drop (k + 1)
          rw [List.drop_eq_getElem_cons h1, h2]
        have HTk : Hid (l.take (k + 1) = l.take k ++ [x]) := take_snoc l k x hx
        have HOx := Lib.hid (HO.out x (List.mem_of_getElem? hx))
        have HTx := Lib.hid htx
        have HXk := Lib.hid hx
        have HCell := Lib.hid hcell
        have hpok := plays_ok (l.take k)
        have hpfw := plays_few (l.take k)
        have hkl : (l.take k).length ≤ 1000 := by rw [List.length_take]; omega
        have HPk : Hid ((plays Sp.new (l.take k)).Ok) := hpok
        have HFk : Hid (Few (plays Sp.new (l.take k))) := ⟨by omega, by omega, by omega⟩
        have hpl : ∀ q, Calls Tryz.prog 47 #[ptr r, .agg (didA x (.slice na x.a.names.length nc))] (wr.drewN q) (RPlayPost w.heap.size (wr.drewN q) r (plays Sp.new (l.take k)) x) := fun q => rplay_any (below_drewN HB.out _) (HR.out.below (below_drewN (Below.refl _ _) _)) HPk.out HFk.out HTx.out HOx.out
        unfold didA ptr at hpl
        obtain ⟨node, task, frm, till, ⟨ok, op, ot, oo, ol, od⟩, ⟨ac, ak, al, as_, ad, an⟩⟩ := x
        have g0 : wr.cell? ⟨b, off + k * 16, none⟩ = some (.int .i64 node) := hcs 0 _ rfl
        have g1 : wr.cell? ⟨b, off + k * 16 + 1, none⟩ = some (.int .i64 task) := hcs 1 _ rfl
        have g2 : wr.cell? ⟨b, off + k * 16 + 2, none⟩ = some (.int .i64 frm) := hcs 2 _ rfl
        have g3 : wr.cell? ⟨b, off + k * 16 + 3, none⟩ = some (.int .i64 till) := hcs 3 _ rfl
        have g4 : wr.cell? ⟨b, off + k * 16 + 4, none⟩ = some (.int .i64 ok) := hcs 4 _ rfl
        have g5 : wr.cell? ⟨b, off + k * 16 + 5, none⟩ = some (.string op) := hcs 5 _ rfl
        have g6 : wr.cell? ⟨b, off + k * 16 + 6, none⟩ = some (.string ot) := hcs 6 _ rfl
        have g7 : wr.cell? ⟨b, off + k * 16 + 7, none⟩ = some (.int .i64 oo) := hcs 7 _ rfl
        have g8 : wr.cell? ⟨b, off + k * 16 + 8, none⟩ = some (.int .i64 ol) := hcs 8 _ rfl
        have g9 : wr.cell? ⟨b, off + k * 16 + 9, none⟩ = some (.string od) := hcs 9 _ rfl
        have g10 : wr.cell? ⟨b, off + k * 16 + 10, none⟩ = some (.int .i64 ac) := hcs 10 _ rfl
        have g11 : wr.cell? ⟨b, off + k * 16 + 11, none⟩ = some (.int .i64 ak) := hcs 11 _ rfl
        have g12 : wr.cell? ⟨b, off + k * 16 + 12, none⟩ = some (.int .i64 al) := hcs 12 _ rfl
        have g13 : wr.cell? ⟨b, off + k * 16 + 13, none⟩ = some (.int .i64 as_) := hcs 13 _ rfl
        have g14 : wr.cell? ⟨b, off + k * 16 + 14, none⟩ = some (.string ad) := hcs 14 _ rfl
        have g15 : wr.cell? ⟨b, off + k * 16 + 15, none⟩ = some (.slice na an.length nc) := hcs 15 _ rfl
        have hk0 : (0 : Int) ≤ (k : Int) := by omega
        have hk1 : (k : Int) < (n : Int) := by omega
        simp only at hpl
        have HPl := Lib.hid hpl
        clear hx hcs hcs0 hcell htx hpok hpfw hkl HC hpl
        have htill : 0 ≤ till := (judge_at HC0.out k HXk.out).2.2.2.2.2.1
        by_cases e1 : till ≤ frm
        · have f1 : decide (till ≤ frm) = true := decide_eq_true e1
          have HLt : Hid (till ≤ max frm la) := by show till ≤ max frm la; omega
          clear HPl
          have HF : Hid (judgeFrom 0 Sp.new (-1) l = (1, (k : Int))) := by
            show judgeFrom 0 Sp.new (-1) l = _
            rw [HE.out, HD.out]
            unfold judgeFrom
            exact if_pos HLt.out
          go_wp2
          go_quiet (fail)
          go_wp2
          go_ret3
          unfold JudgePost
          rw [HR0.out, HF.out]
          exact ⟨rfl, below_drewN HB.out _⟩
        · have f1 : decide (till ≤ frm) = false := decide_eq_false e1
          have E1 := Lib.hid e1
          clear e1
          rcases HLast.out with ⟨hk00, hla⟩ | ⟨y, hk00, hy, hla⟩
          · have HNl : Hid (¬ till ≤ max frm la) := by
              have := E1.out
              show ¬ till ≤ max frm la
              omega
            have f2 : decide ((0 : Int) < (k : Int)) = false := decide_eq_false (by omega)
            have f3 : (k : Int) ≤ 0 := by omega
            have f4 : decide (0 < k) = false := decide_eq_false (by omega)
            have f5 : ¬ 0 < k := by omega
            clear hla hk00
            go_wp2
            go_quiet (fail)
            go_wp2_with fail
            refine (HPl.out _).mono ?_
            rintro e w3 ⟨b3, rfl, hb3, vT3, vN3, hr3, ht3⟩
            have HB3 : Hid (Below w.heap.size w w3) := (below_drewN HB.out _).trans (ht3.below (fun j hj => by rw [hj]; exact HR.out.low) (below_drewN HB.out _).size)
            have HR3 : Hid (RefAt w.heap.size w3 (fun _ => False) r (plays Sp.new (l.take (k + 1))) vT3 vN3) := by
              show RefAt _ _ _ _ _ _ _
              rw [HTk.out, plays_snoc]
              exact hr3
            have HRr := Lib.hid hb3
            clear hb3 hr3 ht3
            cases b3 with
            | false =>
              have HF : Hid (judgeFrom 0 Sp.new (-1) l = (2, (k : Int))) := by
                show judgeFrom 0 Sp.new (-1) l = _
                rw [HE.out, HD.out]
                unfold judgeFrom
                rw [if_neg (by first | exact HNl.out | exact Int.not_le.2 HNl.out), if_neg (by rw [← HRr.out]; simp)]
              go_wp2
              go_ret3
              unfold JudgePost
              rw [HR0.out, HF.out]
              exact ⟨rfl, HB3.out⟩
            | true =>
              have HF : Hid (judgeFrom 0 Sp.new (-1) l = judgeFrom (k + 1) (plays Sp.new (l.take (k + 1))) till (l.drop (k + 1))) := by
                show judgeFrom 0 Sp.new (-1) l = _
                rw [HE.out, HD.out, HTk.out, plays_snoc]
                conv => lhs; unfold judgeFrom
                rw [if_neg (by first | exact HNl.out | exact Int.not_le.2 HNl.out), if_pos HRr.out.symm]
              have HLa : Hid (lastTill l (k + 1) till) := Or.inr ⟨_, Nat.succ_pos k, HXk.out, rfl⟩
              go_wp2
              go_roundw
              case rel => exact ⟨k + 1, till, vT3, vN3, by omega, by go_num, HR3, HB3, HF, HLa⟩
              case measure => simp [intOf]; omega
          · obtain ⟨_, _, _, hys⟩ := (HCell.out (k - 1) y hy).below hbl HB.out
            have u3 : wr.cell? ⟨b, off + (k - 1) * 16 + 3, none⟩ = some (.int .i64 la) := by rw [← hla]; exact hys 3 _ rfl
            have e2 : IntKind.i64.wrap ((k : Int) - 1) = (k : Int) - 1 := IntWalk.i64_in _ (by omega)
            have e3 : ((k : Int) - 1).toNat = k - 1 := by omega
            have e4 : (0 : Int) ≤ (k : Int) - 1 := by omega
            have e5 : (k : Int) - 1 < (n : Int) := by omega
            have e6 : (0 : Int) < (k : Int) := by omega
            have e8 : decide ((0 : Int) < (k : Int)) = true := decide_eq_true e6
            clear hys hy hla
            by_cases e7 : till ≤ la
            · have f2 : decide (till ≤ la) = true := decide_eq_true e7
              have HLt : Hid (till ≤ max frm la) := by show till ≤ max frm la; omega
              clear HPl
              have HF : Hid (judgeFrom 0 Sp.new (-1) l = (1, (k : Int))) := by
                show judgeFrom 0 Sp.new (-1) l = _
                rw [HE.out, HD.out]
                unfold judgeFrom
                exact if_pos HLt.out
              go_wp2
              go_quiet (fail)
              go_wp2
              go_ret3
              unfold JudgePost
              rw [HR0.out, HF.out]
              exact ⟨rfl, below_drewN HB.out _⟩
            · have f2 : decide (till ≤ la) = false := decide_eq_false e7
              have HNl : Hid (¬ till ≤ max frm la) := by
                have := E1.out
                show ¬ till ≤ max frm la
                omega
              clear e7
              go_wp2
              go_quiet (fail)
              go_wp2_with fail
              refine (HPl.out _).mono ?_
              rintro e w3 ⟨b3, rfl, hb3, vT3, vN3, hr3, ht3⟩
              have HB3 : Hid (Below w.heap.size w w3) := (below_drewN HB.out _).trans (ht3.below (fun j hj => by rw [hj]; exact HR.out.low) (below_drewN HB.out _).size)
              have HR3 : Hid (RefAt w.heap.size w3 (fun _ => False) r (plays Sp.new (l.take (k + 1))) vT3 vN3) := by
                show RefAt _ _ _ _ _ _ _
                rw [HTk.out, plays_snoc]
                exact hr3
              have HRr := Lib.hid hb3
              clear hb3 hr3 ht3
              cases b3 with
              | false =>
                have HF : Hid (judgeFrom 0 Sp.new (-1) l = (2, (k : Int))) := by
                  show judgeFrom 0 Sp.new (-1) l = _
                  rw [HE.out, HD.out]
                  unfold judgeFrom
                  rw [if_neg (by first | exact HNl.out | exact Int.not_le.2 HNl.out), if_neg (by rw [← HRr.out]; simp)]
                go_wp2
                go_ret3
                unfold JudgePost
                rw [HR0.out, HF.out]
                exact ⟨rfl, HB3.out⟩
              | true =>
                have HF : Hid (judgeFrom 0 Sp.new (-1) l = judgeFrom (k + 1) (plays Sp.new (l.take (k + 1))) till (l.drop (k + 1))) := by
                  show judgeFrom 0 Sp.new (-1) l = _
                  rw [HE.out, HD.out, HTk.out, plays_snoc]
                  conv => lhs; unfold judgeFrom
                  rw [if_neg (by first | exact HNl.out | exact Int.not_le.2 HNl.out), if_pos HRr.out.symm]
                have HLa : Hid (lastTill l (k + 1) till) := Or.inr ⟨_, Nat.succ_pos k, HXk.out, rfl⟩
                go_wp2
                go_roundw
                case rel => exact ⟨k + 1, till, vT3, vN3, by omega, by go_num, HR3, HB3, HF, HLa⟩
                case measure => simp [intOf]; omega
      · have HF : Hid (judgeFrom 0 Sp.new (-1) l = (0, 0)) := by
          show judgeFrom 0 Sp.new (-1) l = _
          rw [HE.out, List.drop_of_length_le (by have := HN.out; omega)]
          rfl
        go_wp2
        go_ret3
        unfold JudgePost
        rw [HR0.out, HF.out]
        exact ⟨rfl, HB.out⟩
set_option maxRecDepth 20000 in
theorem rlogPaths27_any (w : World) {v : Value} {l : List Sp.Did} (hl : Dids w v l) (hok : ∀ x ∈ l, OpOk x.o) : Calls Tryz.prog 25 #[v] w (LogPathsPost l w) := by
  have hcheck := rcheck27_any w hl
  unfold CheckPost at hcheck
  obtain ⟨ad, cap, rfl, hn1, hn2, hc⟩ := hl
  obtain ⟨n, hn⟩ : ∃ n, l.length = n := ⟨_, rfl⟩
  have HN := Lib.hid hn
  have HC := Lib.hid hc
  have HO := Lib.hid hok
  rw [hn] at hn1 hcheck ⊢
  have hn3 : n ≤ 9223372036854775807 := Nat.le_trans (Nat.le_trans hn1 hn2) (by decide)
  obtain ⟨ca, cc, hcn⟩ : ∃ ca cc, checkN l = (ca, cc) := ⟨_, _, rfl⟩
  have HCN := Lib.hid hcn
  rw [hcn] at hcheck
  have HCheck := Lib.hid hcheck
  clear hc hn hn1 hn2 hok hcn hcheck
  go_enter Tryz.func25, Tryz.ntmps25
  go_wp2_with fail
  refine HCheck.out.mono ?_
  rintro e w1 ⟨rfl, hb1⟩
  have HB1 := Lib.hid hb1
  clear hb1 HCheck
  by_cases hcc : cc = 0
  rotate_left
  · have f : (cc == 0) = false := beq_eq_false_iff_ne.2 hcc
    have f2 : (cc != 0) = true := by simp [bne, f]
    have HR : Hid (pathsN l = ([], cc)) := by
      show pathsN l = _
      unfold pathsN
      rw [HCN.out, if_neg hcc]
    clear hcc
    go_wp2
    go_ret2
    unfold LogPathsPost
    rw [HR.out]
    exact ⟨_, rfl, OwnTexts.void _ _, HB1.out⟩
  · subst hcc
    have hlen : n ≤ 256 := by
      have := HCN.out
      unfold checkN at this
      by_cases h : l.length > 256
      · rw [if_pos h] at this; cases this
      · have := HN.out; omega
    have HR0 : Hid (pathsN l = ((plays Sp.new l).paths, 0)) := by
      show pathsN l = _
      unfold pathsN
      rw [HCN.out, if_pos rfl]
    go_wp2_with fail
    refine (rnew_any (base := w.heap.size) w1 (D := fun _ => False) HB1.out.size (fun j hj => hj.elim)).mono ?_
    rintro e w2 ⟨r, vT, vN, rfl, hr, hb2, -⟩
    have HR2 := Lib.hid hr
    have HB2 := Lib.hid (below_next HB1.out hb2)
    clear hr hb2 HB1
    unfold ptr
    go_wp2
    go_loopw [7] (fun i wr => ∃ (k : Nat) (vT vN : Value), k ≤ n ∧ i = .int .i64 k ∧ Hid (RefAt w.heap.size wr (fun _ => False) r (plays Sp.new (l.take k)) vT vN) ∧ Hid (Below w.heap.size w wr)) (fun i _ => n - (intOf i).toNat)
    case atStart => exact ⟨0, vT, vN, Nat.zero_le _, rfl, HR2, HB2⟩
    case round =>
      obtain ⟨k, vT, vN, hkn, rfl, HR, HB⟩ := hrel
      clear HR2 HB2
      by_cases h1 : k < n
      · obtain ⟨b, off, rfl, hbl, hcell⟩ := HC.out (by have := HN.out; omega)
        obtain ⟨x, hx⟩ : ∃ x, l[k]? = some x := ⟨l[k]'(by have := HN.out; omega), List.getElem?_eq_getElem _⟩
        obtain ⟨na, nc, htx, hcs0⟩ := hcell k x hx
        have hcs : ∀ (i : Nat) (y : Value), (didA x (.slice na x.a.names.length nc))[i]? = some y → wr.cell? ⟨b, off + k * 16 + i, none⟩ = some y := fun i y hy => (HB.out.cell (p := ⟨b, off + k * 16 + i, none⟩) hbl).trans (hcs0 i y hy)
        have HD : Hid (l.drop k = x :: l.drop (k + 1)) := by
          obtain ⟨h1, h2⟩ := List.getElem?_eq_some_iff.1 hx
          show l.drop k = x :: l.drop (k + 1)
          rw [List.drop_eq_getElem_cons h1, h2]
        have HTk : Hid (l.take (k + 1) = l.take k ++ [x]) := take_snoc l k x hx
        have HOx := Lib.hid (HO.out x (List.mem_of_getElem? hx))
        have HTx := Lib.hid htx
        have HXk := Lib.hid hx
        have HCell := Lib.hid hcell
        have hpok := plays_ok (l.take k)
        have hpfw := plays_few (l.take k)
        have hkl : (l.take k).length ≤ 1000 := by rw [List.length_take]; omega
        have HPk : Hid ((plays Sp.new (l.take k)).Ok) := hpok
        have HFk : Hid (Few (plays Sp.new (l.take k))) := ⟨by omega, by omega, by omega⟩
        have hpl : ∀ q, Calls Tryz.prog 47 #[ptr r, .agg (didA x (.slice na x.a.names.length nc))] (wr.drewN q) (RPlayPost w.heap.size (wr.drewN q) r (plays Sp.new (l.take k)) x) := fun q => rplay_any (below_drewN HB.out _) (HR.out.below (below_drewN (Below.refl _ _) _)) HPk.out HFk.out HTx.out HOx.out
        unfold didA ptr at hpl
        obtain ⟨node, task, frm, till, ⟨ok, op, ot, oo, ol, od⟩, ⟨ac, ak, al, as_, ad, an⟩⟩ := x
        have g0 : wr.cell? ⟨b, off + k * 16, none⟩ = some (.int .i64 node) := hcs 0 _ rfl
        have g1 : wr.cell? ⟨b, off + k * 16 + 1, none⟩ = some (.int .i64 task) := hcs 1 _ rfl
        have g2 : wr.cell? ⟨b, off + k * 16 + 2, none⟩ = some (.int .i64 frm) := hcs 2 _ rfl
        have g3 : wr.cell? ⟨b, off + k * 16 + 3, none⟩ = some (.int .i64 till) := hcs 3 _ rfl
        have g4 : wr.cell? ⟨b, off + k * 16 + 4, none⟩ = some (.int .i64 ok) := hcs 4 _ rfl
        have g5 : wr.cell? ⟨b, off + k * 16 + 5, none⟩ = some (.string op) := hcs 5 _ rfl
        have g6 : wr.cell? ⟨b, off + k * 16 + 6, none⟩ = some (.string ot) := hcs 6 _ rfl
        have g7 : wr.cell? ⟨b, off + k * 16 + 7, none⟩ = some (.int .i64 oo) := hcs 7 _ rfl
        have g8 : wr.cell? ⟨b, off + k * 16 + 8, none⟩ = some (.int .i64 ol) := hcs 8 _ rfl
        have g9 : wr.cell? ⟨b, off + k * 16 + 9, none⟩ = some (.string od) := hcs 9 _ rfl
        have g10 : wr.cell? ⟨b, off + k * 16 + 10, none⟩ = some (.int .i64 ac) := hcs 10 _ rfl
        have g11 : wr.cell? ⟨b, off + k * 16 + 11, none⟩ = some (.int .i64 ak) := hcs 11 _ rfl
        have g12 : wr.cell? ⟨b, off + k * 16 + 12, none⟩ = some (.int .i64 al) := hcs 12 _ rfl
        have g13 : wr.cell? ⟨b, off + k * 16 + 13, none⟩ = some (.int .i64 as_) := hcs 13 _ rfl
        have g14 : wr.cell? ⟨b, off + k * 16 + 14, none⟩ = some (.string ad) := hcs 14 _ rfl
        have g15 : wr.cell? ⟨b, off + k * 16 + 15, none⟩ = some (.slice na an.length nc) := hcs 15 _ rfl
        have hk0 : (0 : Int) ≤ (k : Int) := by omega
        have hk1 : (k : Int) < (n : Int) := by omega
        simp only at hpl
        have HPl := Lib.hid hpl
        clear hx hcs hcs0 hcell htx hpok hpfw hkl HC hpl
        go_wp2_with fail
        refine (HPl.out 0).mono ?_
        rintro e w3 ⟨b3, rfl, -, vT3, vN3, hr3, ht3⟩
        have HB3 : Hid (Below w.heap.size w w3) := HB.out.trans (ht3.below (fun j hj => by rw [hj]; exact HR.out.low) HB.out.size)
        have HR3 : Hid (RefAt w.heap.size w3 (fun _ => False) r (plays Sp.new (l.take (k + 1))) vT3 vN3) := by
          show RefAt _ _ _ _ _ _ _
          rw [HTk.out, plays_snoc]
          exact hr3
        clear hr3 ht3
        go_wp2
        go_roundw
        case rel => exact ⟨k + 1, vT3, vN3, by omega, by go_num, HR3, HB3⟩
        case measure => simp [intOf]; omega
      · have HE : Hid (l.take k = l) := List.take_of_length_le (by rw [HN.out]; omega)
        have HFl : Hid (Few (plays Sp.new l)) := by
          have h := plays_few l
          have hl : l.length ≤ 256 := by rw [HN.out]; exact hlen
          exact ⟨by omega, by omega, by omega⟩
        have HRl : Hid (RefAt w.heap.size wr (fun _ => False) r (plays Sp.new l) vT vN) := by
          have h := HR.out
          rw [HE.out] at h
          exact h
        go_wp2_with fail
        refine (rpaths_any HRl.out (plays_ok l) HFl.out).mono ?_
        rintro e w7 ⟨v7, rfl, ho7, hb7⟩
        have HB7 := Lib.hid (below_next HB.out hb7)
        have HO7 : Hid (OwnTexts w.heap.size w7 v7 (plays Sp.new l).paths) := ho7.mono HB.out.size
        clear ho7 hb7
        go_wp2
        go_ret2
        unfold LogPathsPost
        rw [HR0.out]
        exact ⟨_, rfl, HO7.out, HB7.out⟩
end
end Go.Proofs.YtcgpmnlondnbhaaGreatDoor
