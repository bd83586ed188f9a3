/-
  The judge's walks: Paths.
-/
import Derived.Test.YtcgpmnlondnbhaaGreatDoorJudgeJudge
namespace Go.Proofs.YtcgpmnlondnbhaaGreatDoor
open Go Go.RowKit Txt Sp

def pathsN (l : List Sp.Did) : List ByteArray × Int := if (checkN l).2 = 0 then ((plays Sp.new l).paths, 0) else ([], (checkN l).2)
def LogPathsPost (l : List Sp.Did) (w : World) (e : Ending) (w' : World) : Prop := ∃ v, e = .returned (.tuple #[v, .int .i64 (pathsN l).2]) ∧ OwnTexts w.heap.size w' v (pathsN l).1 ∧ Below w.heap.size w w'
theorem OwnTexts.low {n m : Nat} {w : World} {v : Value} {l : List ByteArray} (h : OwnTexts m w v l) (hn : n ≤ m) : OwnTexts n w v l := by
  obtain ⟨e, h1, h2⟩ := h
  refine ⟨e, h1, h2.imp_right ?_⟩
  rintro ⟨g, cap, cur, hv, hb, hr⟩
  exact ⟨g, cap, cur, hv, Nat.le_trans hn hb, hr⟩

section
set_option maxHeartbeats 8000000
set_option maxRecDepth 20000 in
theorem judgePaths_any (w : World) {v : Value} {l : List Sp.Did} (hl : Dids w v l) (hok : ∀ x ∈ l, OpOk x.o) (hm : MaxOk w) : Calls Tryz.prog 24 #[v] w (LogPathsPost l w) := by
  have hcheck := judgeCheck_any w hl
  unfold CheckPost at hcheck
  obtain ⟨ad, cap, rfl, hn1, hn2, hc⟩ := hl
  obtain ⟨n, hn⟩ : ∃ n, l.length = n := ⟨_, rfl⟩
  have HN := Lib.hid hn
  have HC := Lib.hid hc
  have HO := Lib.hid hok
  have HM := Lib.hid hm
  rw [hn] at hn1 hcheck ⊢
  have hn3 : n ≤ 9223372036854775807 := Nat.le_trans (Nat.le_trans hn1 hn2) (by decide)
  obtain ⟨ca, cc, hcn⟩ : ∃ ca cc, checkN l = (ca, cc) := ⟨_, _, rfl⟩
  have HCN := Lib.hid hcn
  rw [hcn] at hcheck
  have HCheck := Lib.hid hcheck
  clear hc hn hn1 hn2 hok hm hcheck hcn
  go_enter Tryz.func24, Tryz.ntmps24
  go_wp2_with fail
  refine HCheck.out.mono ?_
  rintro e w1 ⟨rfl, hb1⟩
  have HB1 := Lib.hid hb1
  clear hb1 HCheck
  by_cases hcc : cc = 0
  rotate_left
  · have f : (cc == 0) = false := beq_eq_false_iff_ne.2 hcc
    have f2 : (cc != 0) = true := by simp [bne, f]
    have HR : Hid (pathsN l = ([], cc)) := by
      show pathsN l = _
      unfold pathsN
      rw [HCN.out, if_neg hcc]
    clear hcc
    go_wp2
    go_ret2
    unfold LogPathsPost
    rw [HR.out]
    exact ⟨_, rfl, OwnTexts.void _ _, HB1.out⟩
  · subst hcc
    have hlen : n ≤ 256 := by
      have := HCN.out
      unfold checkN at this
      by_cases h : l.length > 256
      · rw [if_pos h] at this; cases this
      · have := HN.out; omega
    have HR : Hid (pathsN l = ((plays Sp.new l).paths, 0)) := by
      show pathsN l = _
      unfold pathsN
      rw [HCN.out, if_pos rfl]
    go_wp2_with fail
    refine (new_live (w0 := w) HB1.out HM.out).mono ?_
    rintro e w2 ⟨B, D2, rfl, l2, -, -⟩
    have L2 := Lib.hid l2
    clear l2 HB1
    unfold ptr
    go_wp2
    go_loopw [6, 20] (fun tt i wr => ∃ (k : Nat) (B : Nat) (D : Nat → Prop) (t : Sp.Tree), k ≤ n ∧ tt = .pointer (some ⟨B, 0, none⟩) ∧ i = .int .i64 k ∧ Hid (Live w wr B t k D) ∧ Hid (plays Sp.new l = plays t (l.drop k))) (fun _ i _ => n - (intOf i).toNat)
    case atStart => exact ⟨0, B, D2, Sp.new, Nat.zero_le _, rfl, rfl, L2, Lib.hid rfl⟩
    case round =>
      obtain ⟨k, B', D, t, hkn, rfl, rfl, HL, HE⟩ := hrel
      clear L2
      by_cases h1 : k < n
      · obtain ⟨b, off, rfl, hbl, hcell⟩ := HC.out (by have := HN.out; omega)
        obtain ⟨x, hx⟩ : ∃ x, l[k]? = some x := ⟨l[k]'(by have := HN.out; omega), List.getElem?_eq_getElem _⟩
        obtain ⟨na, nc, htx, hcs⟩ := (hcell k x hx).below hbl HL.out.low
        have HD : Hid (l.drop k = x :: l.drop (k + 1)) := by
          obtain ⟨h1, h2⟩ := List.getElem?_eq_some_iff.1 hx
          show l.drop k = x :: l.drop (k + 1)
          rw [List.drop_eq_getElem_cons h1, h2]
        have HOx := Lib.hid (HO.out x (List.mem_of_getElem? hx))
        have hpl := fun (o : Obj) => judgePlay_any (HL.out.below ((Below.refl wr.heap.size wr).alloc (Nat.le_refl _) o)) (htx.below ((Below.refl wr.heap.size wr).alloc (Nat.le_refl _) o)) HOx.out (Nat.le_trans hkn (Nat.le_trans hlen (by decide)))
        obtain ⟨node, task, frm, till, ⟨ok, op, ot, oo, ol, od⟩, ⟨ac, ak, al, as_, ad, an⟩⟩ := x
        have HPl := Lib.hid hpl
        have g0 : wr.cell? ⟨b, off + k * 16, none⟩ = some (.int .i64 node) := hcs 0 _ rfl
        have g1 : wr.cell? ⟨b, off + k * 16 + 1, none⟩ = some (.int .i64 task) := hcs 1 _ rfl
        have g2 : wr.cell? ⟨b, off + k * 16 + 2, none⟩ = some (.int .i64 frm) := hcs 2 _ rfl
        have g3 : wr.cell? ⟨b, off + k * 16 + 3, none⟩ = some (.int .i64 till) := hcs 3 _ rfl
        have g4 : wr.cell? ⟨b, off + k * 16 + 4, none⟩ = some (.int .i64 ok) := hcs 4 _ rfl
        have g5 : wr.cell? ⟨b, off + k * 16 + 5, none⟩ = some (.string op) := hcs 5 _ rfl
        have g6 : wr.cell? ⟨b, off + k * 16 + 6, none⟩ = some (.string ot) := hcs 6 _ rfl
        have g7 : wr.cell? ⟨b, off + k * 16 + 7, none⟩ = some (.int .i64 oo) := hcs 7 _ rfl
        have g8 : wr.cell? ⟨b, off + k * 16 + 8, none⟩ = some (.int .i64 ol) := hcs 8 _ rfl
        have g9 : wr.cell? ⟨b, off + k * 16 + 9, none⟩ = some (.string od) := hcs 9 _ rfl
        have g10 : wr.cell? ⟨b, off + k * 16 + 10, none⟩ = some (.int .i64 ac) := hcs 10 _ rfl
        have g11 : wr.cell? ⟨b, off + k * 16 + 11, none⟩ = some (.int .i64 ak) := hcs 11 _ rfl
        have g12 : wr.cell? ⟨b, off + k * 16 + 12, none⟩ = some (.int .i64 al) := hcs 12 _ rfl
        have g13 : wr.cell? ⟨b, off + k * 16 + 13, none⟩ = some (.int .i64 as_) := hcs 13 _ rfl
        have g14 : wr.cell? ⟨b, off + k * 16 + 14, none⟩ = some (.string ad) := hcs 14 _ rfl
        have g15 : wr.cell? ⟨b, off + k * 16 + 15, none⟩ = some (.slice na an.length nc) := hcs 15 _ rfl
        clear hx hcs hcell hpl htx HC
        go_wp2_with fail
        refine (HPl.out _).mono ?_
        rintro e w3 ⟨B3, D3, r, rfl, -, l3, -⟩
        have L3 := Lib.hid l3
        clear l3
        have HF : Hid (plays Sp.new l = plays (playN t ⟨node, task, frm, till, ⟨ok, op, ot, oo, ol, od⟩, ⟨ac, ak, al, as_, ad, an⟩⟩).1 (l.drop (k + 1))) := by
          show plays Sp.new l = _
          rw [HE.out, HD.out]
          rfl
        unfold ptr
        go_wp2
        go_roundw
        case rel => exact ⟨k + 1, B3, D3, _, by omega, rfl, by go_num, L3, HF⟩
        case measure => simp [intOf]; omega
      · have HF : Hid (plays Sp.new l = t) := by
          show plays Sp.new l = _
          rw [HE.out, List.drop_of_length_le (by have := HN.out; omega)]
          rfl
        go_wp2_with fail
        refine (paths_live HL.out (Nat.le_trans hkn (Nat.le_trans hlen (by decide)))).mono ?_
        rintro e w3 ⟨v3, rfl, hown, hb3⟩
        have HP : Hid (OwnTexts w.heap.size w3 v3 t.paths) := hown.low HL.out.low.size
        have HB3 := Lib.hid (below_next HL.out.low hb3)
        clear hown hb3
        go_wp2
        go_ret2
        unfold LogPathsPost
        rw [HR.out, HF.out]
        exact ⟨_, rfl, HP.out, HB3.out⟩
end
end Go.Proofs.YtcgpmnlondnbhaaGreatDoor
