/-
  The reference's judge: Check.
-/
import Derived.Test.YtcgpmnlondnbhaaGreatDoorJudgeCheck
import Derived.Test.YtcgpmnlondnbhaaGreatDoorSpPlays
import Derived.Deep.QuietTactic
import Derived.BigQuiet
namespace Go.Proofs.YtcgpmnlondnbhaaGreatDoor
open Go Go.RowKit Txt Sp

section
set_option maxHeartbeats 8000000
set_option maxRecDepth 20000 in
theorem rcheck27_any (w : World) {v : Value} {l : List Sp.Did} (hl : Dids w v l) : Calls Tryz.prog 21 #[v] w (CheckPost l w) := by
  obtain ⟨ad, cap, rfl, hn1, hn2, hc⟩ := hl
  obtain ⟨n, hn⟩ : ∃ n, l.length = n := ⟨_, rfl⟩
  have HN := Lib.hid hn
  have HC := Lib.hid hc
  rw [hn] at hn1 ⊢
  have hn3 : n ≤ 9223372036854775807 := Nat.le_trans (Nat.le_trans hn1 hn2) (by decide)
  clear hc hn hn1 hn2
  go_enter Tryz.func21, Tryz.ntmps21
  by_cases hlong : 256 < n
  · have HR : Hid (checkN l = (-1, 2)) := by
      show checkN l = _
      unfold checkN
      rw [if_pos (by rw [HN.out]; exact hlong)]
    have hlong' : (256 : Int) < n := by omega
    clear hlong
    go_wp2
    go_ret2
    unfold CheckPost
    rw [HR.out]
    exact ⟨rfl, Below.refl _ _⟩
  have HR : Hid (checkN l = checkFrom 0 [] l) := by
    show checkN l = _
    unfold checkN
    rw [if_neg (by rw [HN.out]; exact hlong)]
  go_wp2
  go_loopw [4] (fun i wr => ∃ (k : Nat), k ≤ n ∧ i = .int .i64 k ∧ Hid (Below w.heap.size w wr) ∧ Hid (checkN l = checkFrom k ((l.take k).map Did.key) (l.drop k))) (fun i _ => n - (intOf i).toNat)
  case atStart => exact ⟨0, Nat.zero_le _, rfl, Lib.hid (Below.refl _ _), HR⟩
  case round =>
    obtain ⟨k, hkn, rfl, HB, HE⟩ := hrel
    by_cases h1 : k < n
    · obtain ⟨b, off, rfl, hbl, hcell⟩ := HC.out (by have := HN.out; omega)
      obtain ⟨x, hx⟩ : ∃ x, l[k]? = some x := ⟨l[k]'(by have := HN.out; omega), List.getElem?_eq_getElem _⟩
      obtain ⟨na, nc, _, hcs⟩ := (hcell k x hx).below hbl HB.out
      have HD : Hid (l.drop k = x :: l.drop (k + 1)) := by
        obtain ⟨h1, h2⟩ := List.getElem?_eq_some_iff.1 hx
        show l.drop k = x :: l.drop (k + 1)
        rw [List.drop_eq_getElem_cons h1, h2]
      have HT : Hid (l.take (k + 1) = l.take k ++ [x]) := take_snoc l k x hx
      have HX := Lib.hid hx
      have HCell := Lib.hid hcell
      obtain ⟨node, task, frm, till, ⟨ok, op, ot, oo, ol, od⟩, ⟨ac, ak, al, as_, ad, an⟩⟩ := x
      have g0 : wr.cell? ⟨b, off + k * 16, none⟩ = some (.int .i64 node) := hcs 0 _ rfl
      have g1 : wr.cell? ⟨b, off + k * 16 + 1, none⟩ = some (.int .i64 task) := hcs 1 _ rfl
      have g2 : wr.cell? ⟨b, off + k * 16 + 2, none⟩ = some (.int .i64 frm) := hcs 2 _ rfl
      have g3 : wr.cell? ⟨b, off + k * 16 + 3, none⟩ = some (.int .i64 till) := hcs 3 _ rfl
      have g4 : wr.cell? ⟨b, off + k * 16 + 4, none⟩ = some (.int .i64 ok) := hcs 4 _ rfl
      have g5 : wr.cell? ⟨b, off + k * 16 + 5, none⟩ = some (.string op) := hcs 5 _ rfl
      have g6 : wr.cell? ⟨b, off + k * 16 + 6, none⟩ = some (.string ot) := hcs 6 _ rfl
      have g7 : wr.cell? ⟨b, off + k * 16 + 7, none⟩ = some (.int .i64 oo) := hcs 7 _ rfl
      have g8 : wr.cell? ⟨b, off + k * 16 + 8, none⟩ = some (.int .i64 ol) := hcs 8 _ rfl
      have g9 : wr.cell? ⟨b, off + k * 16 + 9, none⟩ = some (.string od) := hcs 9 _ rfl
      have g10 : wr.cell? ⟨b, off + k * 16 + 10, none⟩ = some (.int .i64 ac) := hcs 10 _ rfl
      have g11 : wr.cell? ⟨b, off + k * 16 + 11, none⟩ = some (.int .i64 ak) := hcs 11 _ rfl
      have g12 : wr.cell? ⟨b, off + k * 16 + 12, none⟩ = some (.int .i64 al) := hcs 12 _ rfl
      have g13 : wr.cell? ⟨b, off + k * 16 + 13, none⟩ = some (.int .i64 as_) := hcs 13 _ rfl
      have g14 : wr.cell? ⟨b, off + k * 16 + 14, none⟩ = some (.string ad) := hcs 14 _ rfl
      have g15 : wr.cell? ⟨b, off + k * 16 + 15, none⟩ = some (.slice na an.length nc) := hcs 15 _ rfl
      have hr0 := HB.out.size
      obtain ⟨W, hW⟩ : ∃ W, wr.alloc (.cells #[.int .i64 node, .int .i64 task, .int .i64 frm, .int .i64 till, .int .i64 ok, .string op, .string ot, .int .i64 oo, .int .i64 ol, .string od, .int .i64 ac, .int .i64 ak, .int .i64 al, .int .i64 as_, .string ad, .slice na an.length nc] 81) = W := ⟨_, rfl⟩
      have HBr : Hid (Below wr.heap.size wr W) := by show Below _ _ _; rw [← hW]; exact (Below.refl _ _).alloc (Nat.le_refl _) _
      have HBW : Hid (Below w.heap.size w W) := below_next HB.out HBr.out
      have hzX : W.heap[wr.heap.size]? = some (.cells #[.int .i64 node, .int .i64 task, .int .i64 frm, .int .i64 till, .int .i64 ok, .string op, .string ot, .int .i64 oo, .int .i64 ol, .string od, .int .i64 ac, .int .i64 ak, .int .i64 al, .int .i64 as_, .string ad, .slice na an.length nc] 81 (0, 0)) := by rw [← hW]; exact heap_alloc_new wr _
      have z0 := cell_of_heap (k := 0) hzX rfl
      have z1 := cell_of_heap (k := 1) hzX rfl
      have z2 := cell_of_heap (k := 2) hzX rfl
      have z3 := cell_of_heap (k := 3) hzX rfl
      clear hx hcs hcell hzX HC
      by_cases hc0 : 0 ≤ node
      rotate_left
      · have HNo : Hid (¬ (⟨node, task, frm, till, ⟨ok, op, ot, oo, ol, od⟩, ⟨ac, ak, al, as_, ad, an⟩⟩ : Sp.Did).may) := fun h => hc0 h.1
        have HF : Hid (checkN l = ((k : Int), 270)) := by
          show checkN l = _
          rw [HE.out, HD.out]
          unfold checkFrom
          exact if_pos (Or.inr HNo.out)
        go_wp2
        go_ret2
        unfold CheckPost
        rw [HF.out]
        exact ⟨rfl, HBW.out⟩
      by_cases hc1 : node < 2
      rotate_left
      · have HNo : Hid (¬ (⟨node, task, frm, till, ⟨ok, op, ot, oo, ol, od⟩, ⟨ac, ak, al, as_, ad, an⟩⟩ : Sp.Did).may) := fun h => hc1 h.2.1
        have HF : Hid (checkN l = ((k : Int), 270)) := by
          show checkN l = _
          rw [HE.out, HD.out]
          unfold checkFrom
          exact if_pos (Or.inr HNo.out)
        go_wp2
        go_ret2
        unfold CheckPost
        rw [HF.out]
        exact ⟨rfl, HBW.out⟩
      by_cases hc2 : 1 ≤ task
      rotate_left
      · have HNo : Hid (¬ (⟨node, task, frm, till, ⟨ok, op, ot, oo, ol, od⟩, ⟨ac, ak, al, as_, ad, an⟩⟩ : Sp.Did).may) := fun h => hc2 h.2.2.1
        have HF : Hid (checkN l = ((k : Int), 270)) := by
          show checkN l = _
          rw [HE.out, HD.out]
          unfold checkFrom
          exact if_pos (Or.inr HNo.out)
        go_wp2
        go_ret2
        unfold CheckPost
        rw [HF.out]
        exact ⟨rfl, HBW.out⟩
      by_cases hc3 : task ≤ 1024
      rotate_left
      · have HNo : Hid (¬ (⟨node, task, frm, till, ⟨ok, op, ot, oo, ol, od⟩, ⟨ac, ak, al, as_, ad, an⟩⟩ : Sp.Did).may) := fun h => hc3 h.2.2.2.1
        have HF : Hid (checkN l = ((k : Int), 270)) := by
          show checkN l = _
          rw [HE.out, HD.out]
          unfold checkFrom
          exact if_pos (Or.inr HNo.out)
        go_wp2
        go_ret2
        unfold CheckPost
        rw [HF.out]
        exact ⟨rfl, HBW.out⟩
      by_cases hc4 : 1 ≤ frm
      rotate_left
      · have HNo : Hid (¬ (⟨node, task, frm, till, ⟨ok, op, ot, oo, ol, od⟩, ⟨ac, ak, al, as_, ad, an⟩⟩ : Sp.Did).may) := fun h => hc4 h.2.2.2.2.1
        have HF : Hid (checkN l = ((k : Int), 270)) := by
          show checkN l = _
          rw [HE.out, HD.out]
          unfold checkFrom
          exact if_pos (Or.inr HNo.out)
        go_wp2
        go_ret2
        unfold CheckPost
        rw [HF.out]
        exact ⟨rfl, HBW.out⟩
      by_cases hc5 : frm ≤ 1099511627776
      rotate_left
      · have HNo : Hid (¬ (⟨node, task, frm, till, ⟨ok, op, ot, oo, ol, od⟩, ⟨ac, ak, al, as_, ad, an⟩⟩ : Sp.Did).may) := fun h => hc5 h.2.2.2.2.2.2.1
        have HF : Hid (checkN l = ((k : Int), 270)) := by
          show checkN l = _
          rw [HE.out, HD.out]
          unfold checkFrom
          exact if_pos (Or.inr HNo.out)
        go_wp2
        go_ret2
        unfold CheckPost
        rw [HF.out]
        exact ⟨rfl, HBW.out⟩
      by_cases hc6 : 0 ≤ till
      rotate_left
      · have HNo : Hid (¬ (⟨node, task, frm, till, ⟨ok, op, ot, oo, ol, od⟩, ⟨ac, ak, al, as_, ad, an⟩⟩ : Sp.Did).may) := fun h => hc6 h.2.2.2.2.2.1
        have HF : Hid (checkN l = ((k : Int), 270)) := by
          show checkN l = _
          rw [HE.out, HD.out]
          unfold checkFrom
          exact if_pos (Or.inr HNo.out)
        go_wp2
        go_ret2
        unfold CheckPost
        rw [HF.out]
        exact ⟨rfl, HBW.out⟩
      by_cases hc7 : till ≤ 1099511627776
      rotate_left
      · have HNo : Hid (¬ (⟨node, task, frm, till, ⟨ok, op, ot, oo, ol, od⟩, ⟨ac, ak, al, as_, ad, an⟩⟩ : Sp.Did).may) := fun h => hc7 h.2.2.2.2.2.2.2
        have HF : Hid (checkN l = ((k : Int), 270)) := by
          show checkN l = _
          rw [HE.out, HD.out]
          unfold checkFrom
          exact if_pos (Or.inr HNo.out)
        go_wp2
        go_ret2
        unfold CheckPost
        rw [HF.out]
        exact ⟨rfl, HBW.out⟩
      have HYes : Hid ((⟨node, task, frm, till, ⟨ok, op, ot, oo, ol, od⟩, ⟨ac, ak, al, as_, ad, an⟩⟩ : Sp.Did).may) := ⟨hc0, hc1, hc2, hc3, hc4, hc6, hc5, hc7⟩
      go_wp2
      go_loopw [6] (fun j wr2 => ∃ (m : Nat), m ≤ k ∧ j = .int .i64 m ∧ Hid (∀ (i : Nat) (y : Sp.Did), i < m → l[i]? = some y → ¬ (y.node = node ∧ y.task = task)) ∧ ∃ q, wr2 = W.drewN q) (fun j _ => k - (intOf j).toNat)
      case atStart => exact ⟨0, Nat.zero_le _, rfl, Lib.hid (fun i y hi => absurd hi (Nat.not_lt_zero _)), 0, rfl⟩
      case round =>
        obtain ⟨m, hmk, rfl, HS, q0, rfl⟩ := hrel
        by_cases h2 : m < k
        · obtain ⟨y, hy⟩ : ∃ y, l[m]? = some y := ⟨l[m]'(by have := HN.out; omega), List.getElem?_eq_getElem _⟩
          obtain ⟨_, _, _, hys⟩ := (HCell.out m y hy).below hbl HBW.out
          have HY := Lib.hid hy
          obtain ⟨yn, hyn⟩ : ∃ c, y.node = c := ⟨_, rfl⟩
          obtain ⟨yt, hyt⟩ : ∃ c, y.task = c := ⟨_, rfl⟩
          have u0 : W.cell? ⟨b, off + m * 16, none⟩ = some (.int .i64 yn) := by rw [← hyn]; exact hys 0 _ rfl
          have u1 : W.cell? ⟨b, off + m * 16 + 1, none⟩ = some (.int .i64 yt) := by rw [← hyt]; exact hys 1 _ rfl
          have HYn := Lib.hid hyn
          have HYt := Lib.hid hyt
          have hm0 : (0 : Int) ≤ (m : Int) := by omega
          have hm1 : (m : Int) < (n : Int) := by omega
          clear hy hys hyn hyt
          by_cases e1 : yn = node
          · have f1 : (yn == node) = true := beq_iff_eq.2 e1
            have E1 := Lib.hid e1
            clear e1
            by_cases e2 : yt = task
            · have f2 : (yt == task) = true := beq_iff_eq.2 e2
              have E2 := Lib.hid e2
              clear e2
              have HF : Hid (checkN l = ((k : Int), 270)) := by
                show checkN l = _
                rw [HE.out, HD.out]
                unfold checkFrom
                exact if_pos (Or.inl (key_mem.2 ⟨m, y, h2, HY.out, HYn.out.trans E1.out, HYt.out.trans E2.out⟩))
              go_wp2
              go_quiet (fail)
              go_wp2
              go_ret2
              unfold CheckPost
              rw [HF.out]
              exact ⟨rfl, below_drewN (below_drewN HBW.out _) _⟩
            · have f2 : (yt == task) = false := beq_eq_false_iff_ne.2 e2
              have HNext : Hid (∀ (i : Nat) (y : Sp.Did), i < m + 1 → l[i]? = some y → ¬ (y.node = node ∧ y.task = task)) := fun i z hi hz h => by
                by_cases him : i = m
                · subst him
                  rw [HY.out] at hz
                  cases hz
                  exact e2 (HYt.out.symm.trans h.2)
                · exact HS.out i z (by omega) hz h
              clear e2
              go_wp2
              go_quiet (fail)
              go_wp2
              go_roundw
              case rel => exact ⟨m + 1, by omega, by go_num, HNext, _, rfl⟩
              case measure => simp [intOf]; omega
          · have f1 : (yn == node) = false := beq_eq_false_iff_ne.2 e1
            have HNext : Hid (∀ (i : Nat) (y : Sp.Did), i < m + 1 → l[i]? = some y → ¬ (y.node = node ∧ y.task = task)) := fun i z hi hz h => by
              by_cases him : i = m
              · subst him
                rw [HY.out] at hz
                cases hz
                exact e1 (HYn.out.symm.trans h.1)
              · exact HS.out i z (by omega) hz h
            clear e1
            go_wp2
            go_quiet (fail)
            go_wp2
            go_roundw
            case rel => exact ⟨m + 1, by omega, by go_num, HNext, _, rfl⟩
            case measure => simp [intOf]; omega
        · have HE3 : Hid (checkN l = checkFrom (k + 1) ((l.take (k + 1)).map Did.key) (l.drop (k + 1))) := by
            show checkN l = _
            rw [HE.out, HD.out, HT.out, List.map_append]
            conv => lhs; unfold checkFrom
            refine if_neg (fun h => h.elim (fun h => ?_) (fun h => h HYes.out))
            obtain ⟨j, y, hj, hy, h3, h4⟩ := key_mem.1 h
            exact HS.out j y (by omega) hy ⟨h3, h4⟩
          have HBq : Hid (Below w.heap.size w (W.drewN q0)) := below_drewN HBW.out _
          go_wp2
          go_roundw
          case rel => exact ⟨k + 1, by omega, by go_num, HBq, HE3⟩
          case measure => simp [intOf]; omega
    · have HF : Hid (checkN l = (0, 0)) := by
        show checkN l = _
        rw [HE.out, List.drop_of_length_le (by have := HN.out; omega)]
        rfl
      go_wp2
      go_ret2
      unfold CheckPost
      rw [HF.out]
      exact ⟨rfl, HB.out⟩
end
end Go.Proofs.YtcgpmnlondnbhaaGreatDoor
