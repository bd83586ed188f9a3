/-
  A log stays as it is: law27.kept.
-/
import Derived.Test.YtcgpmnlondnbhaaGreatDoorJudgeCheck
import Derived.Test.YtcgpmnlondnbhaaGreatDoorAskA
import Derived.StillTailTactics
namespace Go.Proofs.YtcgpmnlondnbhaaGreatDoor
open Go Go.RowKit Txt Sp

section
set_option maxHeartbeats 8000000
set_option maxRecDepth 20000 in
theorem kept_any (w : World) {v u : Value} {l : List Sp.Did} (hl : Dids w v l) (hu : Dids w u l) : Calls Tryz.prog 26 #[v, u] w fun e w' => e = .returned (.bool true) ∧ Below w.heap.size w w' := by
  obtain ⟨ad1, cap1, rfl, hn1, hn2, hc⟩ := hl
  obtain ⟨ad2, cap2, rfl, _, _, hd⟩ := hu
  obtain ⟨n, hn⟩ : ∃ n, l.length = n := ⟨_, rfl⟩
  have HN := Lib.hid hn
  have HC := Lib.hid hc
  have HD := Lib.hid hd
  rw [hn] at hn1 ⊢
  have hn3 : n ≤ 9223372036854775807 := Nat.le_trans (Nat.le_trans hn1 hn2) (by decide)
  clear hc hd hn hn1 hn2
  go_enter Tryz.func26, Tryz.ntmps26
  go_wp2
  go_loopw [5] (fun i wr => ∃ (k : Nat), k ≤ n ∧ i = .int .i64 k ∧ Hid (Below w.heap.size w wr)) (fun i _ => n - (intOf i).toNat)
  case atStart => exact ⟨0, Nat.zero_le _, rfl, Lib.hid (Below.refl _ _)⟩
  case round =>
    obtain ⟨k, hkn, rfl, HB⟩ := hrel
    by_cases h1 : k < n
    · obtain ⟨b, off, rfl, hbl, hcell⟩ := HC.out (by have := HN.out; omega)
      obtain ⟨c, offc, rfl, hcl, hcellc⟩ := HD.out (by have := HN.out; omega)
      obtain ⟨x, hx⟩ : ∃ x, l[k]? = some x := ⟨l[k]'(by have := HN.out; omega), List.getElem?_eq_getElem _⟩
      obtain ⟨na, nc, ht1, gs⟩ := (hcell k x hx).below hbl HB.out
      obtain ⟨ma, mc, ht2, ys⟩ := (hcellc k x hx).below hcl HB.out
      have HT1 := Lib.hid ht1
      have HT2 := Lib.hid ht2
      clear hx hcell hcellc ht1 ht2 HC HD
      obtain ⟨node, task, frm, till, ⟨ok, op, ot, oo, ol, od⟩, ⟨ac, ak, al, as_, ad, an⟩⟩ := x
      have g0 : wr.cell? ⟨b, off + k * 16, none⟩ = some (.int .i64 node) := gs 0 _ rfl
      have g1 : wr.cell? ⟨b, off + k * 16 + 1, none⟩ = some (.int .i64 task) := gs 1 _ rfl
      have g2 : wr.cell? ⟨b, off + k * 16 + 2, none⟩ = some (.int .i64 frm) := gs 2 _ rfl
      have g3 : wr.cell? ⟨b, off + k * 16 + 3, none⟩ = some (.int .i64 till) := gs 3 _ rfl
      have g4 : wr.cell? ⟨b, off + k * 16 + 4, none⟩ = some (.int .i64 ok) := gs 4 _ rfl
      have g5 : wr.cell? ⟨b, off + k * 16 + 5, none⟩ = some (.string op) := gs 5 _ rfl
      have g6 : wr.cell? ⟨b, off + k * 16 + 6, none⟩ = some (.string ot) := gs 6 _ rfl
      have g7 : wr.cell? ⟨b, off + k * 16 + 7, none⟩ = some (.int .i64 oo) := gs 7 _ rfl
      have g8 : wr.cell? ⟨b, off + k * 16 + 8, none⟩ = some (.int .i64 ol) := gs 8 _ rfl
      have g9 : wr.cell? ⟨b, off + k * 16 + 9, none⟩ = some (.string od) := gs 9 _ rfl
      have g10 : wr.cell? ⟨b, off + k * 16 + 10, none⟩ = some (.int .i64 ac) := gs 10 _ rfl
      have g11 : wr.cell? ⟨b, off + k * 16 + 11, none⟩ = some (.int .i64 ak) := gs 11 _ rfl
      have g12 : wr.cell? ⟨b, off + k * 16 + 12, none⟩ = some (.int .i64 al) := gs 12 _ rfl
      have g13 : wr.cell? ⟨b, off + k * 16 + 13, none⟩ = some (.int .i64 as_) := gs 13 _ rfl
      have g14 : wr.cell? ⟨b, off + k * 16 + 14, none⟩ = some (.string ad) := gs 14 _ rfl
      have g15 : wr.cell? ⟨b, off + k * 16 + 15, none⟩ = some (.slice na an.length nc) := gs 15 _ rfl
      have y0 : wr.cell? ⟨c, offc + k * 16, none⟩ = some (.int .i64 node) := ys 0 _ rfl
      have y1 : wr.cell? ⟨c, offc + k * 16 + 1, none⟩ = some (.int .i64 task) := ys 1 _ rfl
      have y2 : wr.cell? ⟨c, offc + k * 16 + 2, none⟩ = some (.int .i64 frm) := ys 2 _ rfl
      have y3 : wr.cell? ⟨c, offc + k * 16 + 3, none⟩ = some (.int .i64 till) := ys 3 _ rfl
      have y4 : wr.cell? ⟨c, offc + k * 16 + 4, none⟩ = some (.int .i64 ok) := ys 4 _ rfl
      have y5 : wr.cell? ⟨c, offc + k * 16 + 5, none⟩ = some (.string op) := ys 5 _ rfl
      have y6 : wr.cell? ⟨c, offc + k * 16 + 6, none⟩ = some (.string ot) := ys 6 _ rfl
      have y7 : wr.cell? ⟨c, offc + k * 16 + 7, none⟩ = some (.int .i64 oo) := ys 7 _ rfl
      have y8 : wr.cell? ⟨c, offc + k * 16 + 8, none⟩ = some (.int .i64 ol) := ys 8 _ rfl
      have y9 : wr.cell? ⟨c, offc + k * 16 + 9, none⟩ = some (.string od) := ys 9 _ rfl
      have y10 : wr.cell? ⟨c, offc + k * 16 + 10, none⟩ = some (.int .i64 ac) := ys 10 _ rfl
      have y11 : wr.cell? ⟨c, offc + k * 16 + 11, none⟩ = some (.int .i64 ak) := ys 11 _ rfl
      have y12 : wr.cell? ⟨c, offc + k * 16 + 12, none⟩ = some (.int .i64 al) := ys 12 _ rfl
      have y13 : wr.cell? ⟨c, offc + k * 16 + 13, none⟩ = some (.int .i64 as_) := ys 13 _ rfl
      have y14 : wr.cell? ⟨c, offc + k * 16 + 14, none⟩ = some (.string ad) := ys 14 _ rfl
      have y15 : wr.cell? ⟨c, offc + k * 16 + 15, none⟩ = some (.slice ma an.length mc) := ys 15 _ rfl
      have hk0 : (0 : Int) ≤ (k : Int) := by omega
      have hk1 : (k : Int) < (n : Int) := by omega
      have q1 : (op.toList == op.toList) = true := (text_eq op op).trans (decide_eq_true rfl)
      have q2 : (ot.toList == ot.toList) = true := (text_eq ot ot).trans (decide_eq_true rfl)
      have q3 : (od.toList == od.toList) = true := (text_eq od od).trans (decide_eq_true rfl)
      clear gs ys
      go_wp2_with fail
      go_still_tail 74, (by kernel_rfl)
      change wpList _ _ _ _ _ (wr.drew)
      go_wp2_with fail
      refine (sameAns_yes _ (a := ⟨ac, ak, al, as_, ad, an⟩) ⟨_, rfl, HT1.out.below (below_dr (Below.refl _ _))⟩ ⟨_, rfl, HT2.out.below (below_dr (Below.refl _ _))⟩).mono ?_
      rintro e w2 ⟨rfl, hb2⟩
      have HB2 := Lib.hid (below_next (below_dr HB.out) hb2)
      clear hb2
      go_wp2
      go_roundw
      case rel => exact ⟨k + 1, by omega, by go_num, HB2⟩
      case measure => simp [intOf]; omega
    · go_wp2
      go_ret
      exact ⟨rfl, HB.out⟩
end
end Go.Proofs.YtcgpmnlondnbhaaGreatDoor
