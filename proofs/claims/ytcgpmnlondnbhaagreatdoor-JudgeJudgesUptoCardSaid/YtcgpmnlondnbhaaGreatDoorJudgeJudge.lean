/-
  The judge's walks: Judge.
-/
import Derived.Test.YtcgpmnlondnbhaaGreatDoorLinkA
import Derived.OwnWalk
namespace Go.Proofs.YtcgpmnlondnbhaaGreatDoor
open Go Go.RowKit Txt Sp

def JudgePost (l : List Sp.Did) (w : World) (e : Ending) (w' : World) : Prop := e = .returned (.tuple #[.int .i64 (judgeN l).1, .int .i64 (judgeN l).2.1, .int .i64 (judgeN l).2.2]) ∧ Below w.heap.size w w'

theorem below_one {w wr : World} {m : Nat} (h : Below m w wr) (hm : m ≤ wr.heap.size) (a : Obj) : Below m w (wr.alloc a) := h.alloc hm a

section
set_option maxHeartbeats 8000000
set_option maxRecDepth 20000 in
theorem judgeJudge_any (w : World) {v : Value} {l : List Sp.Did} (hl : Dids w v l) (hok : ∀ x ∈ l, OpOk x.o) (hm : MaxOk w) : Calls Tryz.prog 22 #[v] w (JudgePost l w) := by
  have hcheck := judgeCheck_any w hl
  unfold CheckPost at hcheck
  obtain ⟨ad, cap, rfl, hn1, hn2, hc⟩ := hl
  obtain ⟨n, hn⟩ : ∃ n, l.length = n := ⟨_, rfl⟩
  have HN := Lib.hid hn
  have HC := Lib.hid hc
  have HO := Lib.hid hok
  have HM := Lib.hid hm
  rw [hn] at hn1 hcheck ⊢
  have hn3 : n ≤ 9223372036854775807 := Nat.le_trans (Nat.le_trans hn1 hn2) (by decide)
  obtain ⟨ca, cc, hcn⟩ : ∃ ca cc, checkN l = (ca, cc) := ⟨_, _, rfl⟩
  have HCN := Lib.hid hcn
  rw [hcn] at hcheck
  have HCheck := Lib.hid hcheck
  clear hc hn hn1 hn2 hok hm hcheck hcn
  go_enter Tryz.func22, Tryz.ntmps22
  go_wp2_with fail
  refine HCheck.out.mono ?_
  rintro e w1 ⟨rfl, hb1⟩
  have HB1 := Lib.hid hb1
  clear hb1 HCheck
  by_cases hcc : cc = 0
  rotate_left
  · have f : (cc == 0) = false := beq_eq_false_iff_ne.2 hcc
    have f2 : (cc != 0) = true := by simp [bne, f]
    have HR : Hid (judgeN l = (0, 0, cc)) := by
      show judgeN l = _
      unfold judgeN
      rw [HCN.out, if_neg hcc]
    clear hcc
    go_wp2
    go_ret3
    unfold JudgePost
    rw [HR.out]
    exact ⟨rfl, HB1.out⟩
  · subst hcc
    have hlen : n ≤ 256 := by
      have := HCN.out
      unfold checkN at this
      by_cases h : l.length > 256
      · rw [if_pos h] at this; cases this
      · have := HN.out; omega
    have HR : Hid (judgeN l = ((judgeFrom 0 Sp.new (-1) l).1, (judgeFrom 0 Sp.new (-1) l).2, 0)) := by
      show judgeN l = _
      unfold judgeN
      rw [HCN.out, if_pos rfl]
    go_wp2_with fail
    refine (new_live (w0 := w) HB1.out HM.out).mono ?_
    rintro e w2 ⟨B, D2, rfl, l2, -, -⟩
    have L2 := Lib.hid l2
    clear l2 HB1
    unfold ptr
    go_wp2
    go_loopw [7, 8, 23] (fun tt last i wr => ∃ (k : Nat) (B : Nat) (D : Nat → Prop) (t : Sp.Tree) (la : Int), k ≤ n ∧ tt = .pointer (some ⟨B, 0, none⟩) ∧ last = .int .i64 la ∧ i = .int .i64 k ∧ Hid (Live w wr B t k D) ∧ Hid (judgeFrom 0 Sp.new (-1) l = judgeFrom k t la (l.drop k))) (fun _ _ i _ => n - (intOf i).toNat)
    case atStart => exact ⟨0, B, D2, Sp.new, -1, Nat.zero_le _, rfl, rfl, rfl, L2, Lib.hid rfl⟩
    case round =>
      obtain ⟨k, B', D, t, la, hkn, rfl, rfl, rfl, HL, HE⟩ := hrel
      clear L2
      by_cases h1 : k < n
      · obtain ⟨b, off, rfl, hbl, hcell⟩ := HC.out (by have := HN.out; omega)
        obtain ⟨x, hx⟩ : ∃ x, l[k]? = some x := ⟨l[k]'(by have := HN.out; omega), List.getElem?_eq_getElem _⟩
        obtain ⟨na, nc, htx, hcs⟩ := (hcell k x hx).below hbl HL.out.low
        have HD : Hid (l.drop k = x :: l.drop (k + 1)) := by
          obtain ⟨h1, h2⟩ := List.getElem?_eq_some_iff.1 hx
          show l.drop k = x :: l.drop (k + 1)
          rw [List.drop_eq_getElem_cons h1, h2]
        have HOx := Lib.hid (HO.out x (List.mem_of_getElem? hx))
        have hpl := fun (o : Obj) => judgePlay_any (HL.out.below ((Below.refl wr.heap.size wr).alloc (Nat.le_refl _) o)) (htx.below ((Below.refl wr.heap.size wr).alloc (Nat.le_refl _) o)) HOx.out (Nat.le_trans hkn (Nat.le_trans hlen (by decide)))
        obtain ⟨node, task, frm, till, ⟨ok, op, ot, oo, ol, od⟩, ⟨ac, ak, al, as_, ad, an⟩⟩ := x
        have HPl := Lib.hid hpl
        have g0 : wr.cell? ⟨b, off + k * 16, none⟩ = some (.int .i64 node) := hcs 0 _ rfl
        have g1 : wr.cell? ⟨b, off + k * 16 + 1, none⟩ = some (.int .i64 task) := hcs 1 _ rfl
        have g2 : wr.cell? ⟨b, off + k * 16 + 2, none⟩ = some (.int .i64 frm) := hcs 2 _ rfl
        have g3 : wr.cell? ⟨b, off + k * 16 + 3, none⟩ = some (.int .i64 till) := hcs 3 _ rfl
        have g4 : wr.cell? ⟨b, off + k * 16 + 4, none⟩ = some (.int .i64 ok) := hcs 4 _ rfl
        have g5 : wr.cell? ⟨b, off + k * 16 + 5, none⟩ = some (.string op) := hcs 5 _ rfl
        have g6 : wr.cell? ⟨b, off + k * 16 + 6, none⟩ = some (.string ot) := hcs 6 _ rfl
        have g7 : wr.cell? ⟨b, off + k * 16 + 7, none⟩ = some (.int .i64 oo) := hcs 7 _ rfl
        have g8 : wr.cell? ⟨b, off + k * 16 + 8, none⟩ = some (.int .i64 ol) := hcs 8 _ rfl
        have g9 : wr.cell? ⟨b, off + k * 16 + 9, none⟩ = some (.string od) := hcs 9 _ rfl
        have g10 : wr.cell? ⟨b, off + k * 16 + 10, none⟩ = some (.int .i64 ac) := hcs 10 _ rfl
        have g11 : wr.cell? ⟨b, off + k * 16 + 11, none⟩ = some (.int .i64 ak) := hcs 11 _ rfl
        have g12 : wr.cell? ⟨b, off + k * 16 + 12, none⟩ = some (.int .i64 al) := hcs 12 _ rfl
        have g13 : wr.cell? ⟨b, off + k * 16 + 13, none⟩ = some (.int .i64 as_) := hcs 13 _ rfl
        have g14 : wr.cell? ⟨b, off + k * 16 + 14, none⟩ = some (.string ad) := hcs 14 _ rfl
        have g15 : wr.cell? ⟨b, off + k * 16 + 15, none⟩ = some (.slice na an.length nc) := hcs 15 _ rfl
        have HBL : Hid (∀ o, Below w.heap.size w (wr.alloc o)) := fun o => below_one HL.out.low HL.out.low.size o
        clear hx hcs hcell hpl htx HC
        by_cases hlate : till ≤ max frm la
        · have HF : Hid (judgeFrom 0 Sp.new (-1) l = (1, (k : Int))) := by
            show judgeFrom 0 Sp.new (-1) l = _
            rw [HE.out, HD.out]
            unfold judgeFrom
            exact if_pos hlate
          go_wp2
          go_ret3
          unfold JudgePost
          rw [HR.out, HF.out]
          exact ⟨rfl, HBL.out _⟩
        · have HLt := Lib.hid (Int.not_le.1 hlate)
          go_wp2_with fail
          refine (HPl.out _).mono ?_
          rintro e w3 ⟨B3, D3, r, rfl, hr, l3, hb3⟩
          have L3 := Lib.hid l3
          have HRr := Lib.hid hr
          clear hr l3 hb3 hlate
          have HB3 : Hid (Below w.heap.size w w3) := L3.out.low
          cases r with
          | false =>
            have HF : Hid (judgeFrom 0 Sp.new (-1) l = (2, (k : Int))) := by
              show judgeFrom 0 Sp.new (-1) l = _
              rw [HE.out, HD.out]
              unfold judgeFrom
              rw [if_neg (Int.not_le.2 HLt.out), if_neg (by rw [← HRr.out]; simp)]
            unfold ptr
            go_wp2
            go_ret3
            unfold JudgePost
            rw [HR.out, HF.out]
            exact ⟨rfl, HB3.out⟩
          | true =>
            have HF : Hid (judgeFrom 0 Sp.new (-1) l = judgeFrom (k + 1) (playN t ⟨node, task, frm, till, ⟨ok, op, ot, oo, ol, od⟩, ⟨ac, ak, al, as_, ad, an⟩⟩).1 till (l.drop (k + 1))) := by
              show judgeFrom 0 Sp.new (-1) l = _
              rw [HE.out, HD.out]
              conv => lhs; unfold judgeFrom
              rw [if_neg (Int.not_le.2 HLt.out), if_pos HRr.out.symm]
            unfold ptr
            go_wp2
            go_roundw
            case rel => exact ⟨k + 1, B3, D3, _, till, by omega, rfl, rfl, by go_num, L3, HF⟩
            case measure => simp [intOf]; omega
      · have HF : Hid (judgeFrom 0 Sp.new (-1) l = (0, 0)) := by
          show judgeFrom 0 Sp.new (-1) l = _
          rw [HE.out, List.drop_of_length_le (by have := HN.out; omega)]
          rfl
        go_wp2
        go_ret3
        unfold JudgePost
        rw [HR.out, HF.out]
        exact ⟨rfl, HL.out.low⟩
end
end Go.Proofs.YtcgpmnlondnbhaaGreatDoor
