/-
  The log that a tree makes: law27.made.
-/
import Derived.Test.YtcgpmnlondnbhaaDoorLogAt
import Derived.Test.YtcgpmnlondnbhaaDoorSpFine
import Derived.Test.YtcgpmnlondnbhaaDoorJudgePaths
import Derived.Deep.RegionHeld3
import Derived.Deep.AppendLies
import Derived.IntWalk
namespace Go.Proofs.YtcgpmnlondnbhaaDoor
open Go Go.RowKit Txt Sp

def MadePost (l : List Sp.Op) (w : World) (e : Ending) (w' : World) : Prop :=
  ∃ v xs v2, e = .returned (.tuple #[v, v2]) ∧ LogAt w.heap.size w' (fun _ => False) v (logFrom 0 Sp.new (l.take 40)) xs ∧ OwnTexts w.heap.size w' v2 (Sp.new.steps (l.take 40)).paths ∧ Below w.heap.size w w'

theorem infoDid : (Tryd.prog.info? 56).map (fun i => (i.zero, i.size, i.bytes)) = some (some (.agg #[.int .i64 0, .int .i64 0, .int .i64 0, .int .i64 0, .int .i64 0, .string ⟨#[]⟩, .string ⟨#[]⟩, .int .i64 0, .int .i64 0, .string ⟨#[]⟩, .int .i64 0, .int .i64 0, .int .i64 0, .int .i64 0, .string ⟨#[]⟩, .slice none 0 0]), 16, 176) := by kernel_rfl

section
set_option maxHeartbeats 8000000
set_option maxRecDepth 20000 in
theorem judgeMade_any (w : World) {v : Value} {l : List Sp.Op} (hl : Ops w v l) (hok : ∀ o ∈ l, OpOk o) (hm : MaxOk w) :
    Calls Tryd.prog 24 #[v] w (MadePost l w) := by
  have q1 := eql_tree_nil
  have q2 := neq_tree_nil
  have hmw := Lib.hid hm
  obtain ⟨i0, hi, hz0, hz1, hz2⟩ := info_parts infoDid
  obtain ⟨ad, cap, rfl, hn1, hn2, hc⟩ := hl
  obtain ⟨n, hn⟩ : ∃ n, l.length = n := ⟨_, rfl⟩
  have HN := Lib.hid hn
  have HC := Lib.hid hc
  have HO := Lib.hid hok
  rw [hn] at hn1 ⊢
  have hn3 : n ≤ 9223372036854775807 := Nat.le_trans (Nat.le_trans hn1 hn2) (by decide)
  clear hm hc hok hn hn1 hn2
  go_enter Tryd.func24, Tryd.ntmps24
  go_wp2_with fail
  refine (new_live (Below.refl _ w) hmw.out).mono ?_
  rintro e w1 ⟨B, D1, rfl, l1, -, -⟩
  have L1 := Lib.hid l1
  clear l1
  unfold ptr
  go_wp2
  go_loopw [5, 6] (fun out i wr => ∃ (k : Nat) (D : Nat → Prop) (xs : List Value), k ≤ n ∧ k ≤ 40 ∧ i = .int .i64 k ∧ Hid (Live w wr B (Sp.new.steps (l.take k)) k D) ∧ Hid (LogAt w.heap.size wr D out (logFrom 0 Sp.new (l.take k)) xs)) (fun _ i _ => 40 - (intOf i).toNat)
  case atStart => exact ⟨0, D1, [], by omega, by omega, rfl, L1, LogAt.void _ _ _⟩
  case round =>
    obtain ⟨k, D, xs, hkn, hk40, rfl, HL, HLog⟩ := hrel
    clear L1
    by_cases h1 : k < n
    · by_cases h2 : k < 40
      · obtain ⟨b, off, rfl, hbl, hcell⟩ := HC.out (by have := HN.out; omega)
        obtain ⟨o, ho⟩ : ∃ o, l[k]? = some o := ⟨l[k]'(by have := HN.out; omega), List.getElem?_eq_getElem _⟩
        have hcs := hcell k o ho
        have HTk := Lib.hid (take_snoc l k _ ho)
        have HLen : Hid ((l.take k).length = k) := by
          show (l.take k).length = k
          rw [List.length_take]
          have := HN.out
          omega
        have HOo := Lib.hid (HO.out _ (List.mem_of_getElem? ho))
        obtain ⟨ok, op, ot, oo, ol, od⟩ := o
        have G : ∀ W : World, Below w.heap.size w W → W.cell? ⟨b, off + k * 6, none⟩ = some (.int .i64 ok) ∧ W.cell? ⟨b, off + k * 6 + 1, none⟩ = some (.string op) ∧ W.cell? ⟨b, off + k * 6 + 2, none⟩ = some (.string ot) ∧ W.cell? ⟨b, off + k * 6 + 3, none⟩ = some (.int .i64 oo) ∧ W.cell? ⟨b, off + k * 6 + 4, none⟩ = some (.int .i64 ol) ∧ W.cell? ⟨b, off + k * 6 + 5, none⟩ = some (.string od) := fun W hW => by
          have g := fun i x (hx : (opA ⟨ok, op, ot, oo, ol, od⟩)[i]? = some x) => ((show W.cell? ⟨b, off + k * 6 + i, none⟩ = w.cell? ⟨b, off + k * 6 + i, none⟩ from hW.cell (p := ⟨b, off + k * 6 + i, none⟩) hbl).trans (by rw [Nat.add_assoc]; exact hcs i x hx) : W.cell? ⟨b, off + k * 6 + i, none⟩ = some x)
          exact ⟨g 0 _ rfl, g 1 _ rfl, g 2 _ rfl, g 3 _ rfl, g 4 _ rfl, g 5 _ rfl⟩
        have HG := Lib.hid G
        obtain ⟨g0, g1, g2, g3, g4, g5⟩ := G wr HL.out.low
        have HLd : Hid (Live w wr.drew B (Sp.new.steps (l.take k)) k D) := HL.out.below (below_drewN (Below.refl _ _) 1)
        have HLogd : Hid (LogAt w.heap.size wr.drew D u5 (logFrom 0 Sp.new (l.take k)) xs) := HLog.out.below (below_drewN (Below.refl _ _) 1)
        obtain ⟨t', c, c1, c2, c3, cd, cn, hst⟩ : ∃ t' c c1 c2 ck cd cn, (Sp.new.steps (l.take k)).step ⟨ok, op, ot, oo, ol, od⟩ = (t', ⟨c, c1, c2, ck, cd, cn⟩) := ⟨_, _, _, _, _, _, _, rfl⟩
        have hdo := (do_live HLd.out ⟨ok, op, ot, oo, ol, od⟩ HOo.out (Nat.le_trans hk40 (by decide)))
        rw [hst] at hdo
        have HDo := Lib.hid hdo
        have HSt := Lib.hid hst
        clear hcs hcell ho HC hdo hst
        unfold ptr at HDo
        have HK : Hid (k ≤ 39) := by show k ≤ 39; omega
        have HXs := HLog.out.own.1
        rw [logFrom_length, HLen.out] at HXs
        have HXl := Lib.hid HXs
        clear HXs
        go_upto_region 6 with fail
        have e1 : IntKind.i64.wrap ((k : Int) + 1) = (k : Int) + 1 := IntWalk.i64_in _ (by omega)
        have e2 : IntKind.i64.wrap ((k : Int) + 2) = (k : Int) + 2 := IntWalk.i64_in _ (by omega)
        have e3 : (k : Int).tmod 2 = ((k % 2 : Nat) : Int) := by rw [Int.tmod_eq_emod_of_nonneg (by omega)]; omega
        have e4 : IntKind.i64.wrap (((k % 2 : Nat) : Int)) = ((k % 2 : Nat) : Int) := IntWalk.i64_in _ (by omega)
        go_region_held3 (fun W => W.cell? ⟨b, off + k * 6, none⟩ = some (.int .i64 ok) ∧ W.cell? ⟨b, off + k * 6 + 1, none⟩ = some (.string op) ∧ W.cell? ⟨b, off + k * 6 + 2, none⟩ = some (.string ot) ∧ W.cell? ⟨b, off + k * 6 + 3, none⟩ = some (.int .i64 oo) ∧ W.cell? ⟨b, off + k * 6 + 4, none⟩ = some (.int .i64 ol) ∧ W.cell? ⟨b, off + k * 6 + 5, none⟩ = some (.string od))
          (first | exact HG.out _ HL.out.low | exact HG.out _ HLd.out.low | exact HG.out _ HL2.out.low | exact HG.out _ (below_one HL2.out.low HL2.out.low.size _) | exact HG.out _ HB4.out)
          (first
            | (go_at_call 13; refine HDo.out.mono ?_; rintro e w2 ⟨v2, D2, m2, rfl, ⟨nv2, rfl, hno⟩, l2, t2, d2, hm2, hlt2⟩; obtain ⟨ad2, cap2, rfl, _⟩ := hno.texts; replace hno := Lib.hid hno; have HL2 := Lib.hid l2; have HLog2 := Lib.hid (HLogd.out.turn t2 d2); have HOwn2 : Hid (w2.ownsRow w.heap.size 56 16 u5 k xs) := (by have h := HLog2.out.own; rw [logFrom_length, HLen.out] at h; exact h); replace hm2 := Lib.hid hm2; replace hlt2 := Lib.hid hlt2; clear l2 t2 d2; simp only)
            | (refine step_append_lies _ (by rfl) _ _ _ (by rfl) w.heap.size 56 i0 _ 16 176 Tryd.underlying50 hi hz0 hz1 hz2 rfl (by omega) u5 k xs (by rfl) (HOwn2.out.alloc _) ⟨w2.heap.size, 0, none⟩ 1 1 [.int .i64 ((k % 2 : Nat) : Int), .int .i64 ((k : Int) + 1), .int .i64 ((k : Int) + 1), .int .i64 ((k : Int) + 2), .int .i64 ok, .string op, .string ot, .int .i64 oo, .int .i64 ol, .string od, .int .i64 c, .int .i64 c1, .int .i64 c2, .int .i64 c3, .string cd, .slice ad2 cn.length cap2] (by rfl) (by rfl) (World.news_of_block (cs := #[.int .i64 ((k % 2 : Nat) : Int), .int .i64 ((k : Int) + 1), .int .i64 ((k : Int) + 1), .int .i64 ((k : Int) + 2), .int .i64 ok, .string op, .string ot, .int .i64 oo, .int .i64 ol, .string od, .int .i64 c, .int .i64 c1, .int .i64 c2, .int .i64 c3, .string cd, .slice ad2 cn.length cap2]) (t := 56) (fr := (0, 0)) (heap_alloc_new w2 _)) (by simp [Value.oneCell']) (by omega) ?_ ?_ ?_ (w2.heap.size + 1) (by simp) ?_
               · (have := HK.out; unfold maxLen; omega)
               · (have := HK.out; omega)
               · (have := HL2.out.low.size; simp; omega)
               intro gg cap4 w4 hown4 hgrow4 hat4 hlt4
               have HB4 : Hid (Below w.heap.size w w4) := (by
                 have h0 := below_one HL2.out.low HL2.out.low.size (.cells #[.int .i64 ((k % 2 : Nat) : Int), .int .i64 ((k : Int) + 1), .int .i64 ((k : Int) + 1), .int .i64 ((k : Int) + 2), .int .i64 ok, .string op, .string ot, .int .i64 oo, .int .i64 ol, .string od, .int .i64 c, .int .i64 c1, .int .i64 c2, .int .i64 c3, .string cd, .slice ad2 cn.length cap2] 56)
                 exact ⟨hgrow4.os.trans h0.os, hgrow4.tape.trans h0.tape, hgrow4.output.trans h0.output, Nat.le_trans h0.size hgrow4.size, fun j hj => (hgrow4.block j (Nat.lt_of_lt_of_le hj h0.size) (fun e => by have := (HOwn2.out.lt j e.symm).1; omega)).trans (h0.block j hj)⟩)
               replace hown4 := Lib.hid hown4
               replace hgrow4 := Lib.hid hgrow4
               replace hat4 := Lib.hid hat4))
        have HLog3 : Hid (LogAt w.heap.size _ D2 u5 (logFrom 0 Sp.new (l.take k)) xs) := HLog2.out.below ((Below.refl w2.heap.size w2).alloc (Nat.le_refl _) (.cells #[.int .i64 ((k % 2 : Nat) : Int), .int .i64 ((k : Int) + 1), .int .i64 ((k : Int) + 1), .int .i64 ((k : Int) + 2), .int .i64 ok, .string op, .string ot, .int .i64 oo, .int .i64 ol, .string od, .int .i64 c, .int .i64 c1, .int .i64 c2, .int .i64 c3, .string cd, .slice ad2 cn.length cap2] 56))
        have hll : (logFrom 0 Sp.new (l.take k)).length = k := by rw [logFrom_length]; exact HLen.out
        have HLog4 : Hid (LogAt w.heap.size w4 D2 (.slice (some ⟨gg, 0, none⟩) (k + 1) cap4) (logFrom 0 Sp.new (l.take k) ++ [⟨((k % 2 : Nat) : Int), (k : Int) + 1, (k : Int) + 1, (k : Int) + 2, ⟨ok, op, ot, oo, ol, od⟩, ⟨c, c1, c2, c3, cd, cn⟩⟩]) (xs ++ [.int .i64 ((k % 2 : Nat) : Int), .int .i64 ((k : Int) + 1), .int .i64 ((k : Int) + 1), .int .i64 ((k : Int) + 2), .int .i64 ok, .string op, .string ot, .int .i64 oo, .int .i64 ol, .string od, .int .i64 c, .int .i64 c1, .int .i64 c2, .int .i64 c3, .string cd, .slice ad2 cn.length cap2])) := by
          have h := HLog3.out.snoc (w' := w4) (x := ⟨((k % 2 : Nat) : Int), (k : Int) + 1, (k : Int) + 1, (k : Int) + 2, ⟨ok, op, ot, oo, ol, od⟩, ⟨c, c1, c2, c3, cd, cn⟩⟩) (ad := ad2) (cap := cap2) (g := gg) (c := cap4)
            ((hno.out.mono (Nat.le_trans HL.out.low.size hm2.out)).below ((Below.refl w2.heap.size w2).alloc (Nat.le_refl _) _))
            (fun j hj => ⟨fun hd => by have h1 := (own_lt hno.out j hj).1; have h2 := hlt2.out j hd; omega, fun e => by
              have h1 := (own_lt hno.out j hj).1
              have h2 := (HLog.out.own.lt j e).2
              have h3 : wr.heap.size ≤ m2 := hm2.out
              omega⟩)
            (by rw [hll]; exact hown4.out) hgrow4.out (hat4.out.imp_right (fun e => by rw [e]; simp)) (fun j hj => by
              have := (HL2.out.from0 j hj).2
              simp
              omega)
          rw [hll] at h
          exact h
        have HLog5 : Hid (LogAt w.heap.size w4 D2 (.slice (some ⟨gg, 0, none⟩) (k + 1) cap4) (logFrom 0 Sp.new (l.take (k + 1))) (xs ++ [.int .i64 ((k % 2 : Nat) : Int), .int .i64 ((k : Int) + 1), .int .i64 ((k : Int) + 1), .int .i64 ((k : Int) + 2), .int .i64 ok, .string op, .string ot, .int .i64 oo, .int .i64 ol, .string od, .int .i64 c, .int .i64 c1, .int .i64 c2, .int .i64 c3, .string cd, .slice ad2 cn.length cap2])) := by
          have h : logFrom 0 Sp.new (l.take (k + 1)) = logFrom 0 Sp.new (l.take k) ++ [⟨((k % 2 : Nat) : Int), (k : Int) + 1, (k : Int) + 1, (k : Int) + 2, ⟨ok, op, ot, oo, ol, od⟩, ⟨c, c1, c2, c3, cd, cn⟩⟩] := by
            rw [HTk.out, logFrom_snoc, HLen.out, HSt.out, Nat.zero_add]
          show LogAt _ _ _ _ _ _
          rw [h]
          exact HLog4.out
        have HL5 : Hid (Live w w4 B (Sp.new.steps (l.take (k + 1))) (k + 1) D2) := by
          have h : Sp.new.steps (l.take (k + 1)) = t' := by rw [HTk.out, steps_snoc, HSt.out]
          show Live _ _ _ _ _ _
          rw [h]
          exact (HL2.out.below ((Below.refl w2.heap.size w2).alloc (Nat.le_refl _) _)).grown hgrow4.out (fun j hj => ⟨HLog2.out.apart j hj, (HLog2.out.own.lt j hj).1⟩)
        clear HLog4 HLog3 hll HLog2 hown4 hgrow4 hat4 hno hm2 hlt2 HOwn2 HDo HB4
        go_wp2
        go_roundw
        case rel => exact ⟨k + 1, D2, _, by omega, by omega, by go_num, HL5, HLog5⟩
        case measure => simp [intOf]; omega
      · have HE : Hid (l.take 40 = l.take k) := by
          obtain rfl : k = 40 := by omega
          rfl
        go_wp2_with fail
        refine (paths_live HL.out (Nat.le_trans hk40 (by decide))).mono ?_
        rintro e w3 ⟨v3, rfl, hown, hb3⟩
        have HP : Hid (OwnTexts w.heap.size w3 v3 (Sp.new.steps (l.take k)).paths) := hown.mono HL.out.low.size
        have HLg : Hid (LogAt w.heap.size w3 (fun _ => False) u5 (logFrom 0 Sp.new (l.take k)) xs) := (HLog.out.below hb3).turn (Turn.refl _ _) (fun j hj => hj.elim)
        have HB3 := Lib.hid (below_next HL.out.low hb3)
        clear hown hb3
        go_wp2
        go_ret2
        unfold MadePost
        rw [HE.out]
        exact ⟨_, xs, _, rfl, HLg.out, HP.out, HB3.out⟩
    · have HE : Hid (l.take 40 = l.take k) := by
        show l.take 40 = l.take k
        rw [List.take_of_length_le (by have := HN.out; omega), List.take_of_length_le (by have := HN.out; omega)]
      go_wp2_with fail
      refine (paths_live HL.out (Nat.le_trans hk40 (by decide))).mono ?_
      rintro e w3 ⟨v3, rfl, hown, hb3⟩
      have HP : Hid (OwnTexts w.heap.size w3 v3 (Sp.new.steps (l.take k)).paths) := hown.mono HL.out.low.size
      have HLg : Hid (LogAt w.heap.size w3 (fun _ => False) u5 (logFrom 0 Sp.new (l.take k)) xs) := (HLog.out.below hb3).turn (Turn.refl _ _) (fun j hj => hj.elim)
      have HB3 := Lib.hid (below_next HL.out.low hb3)
      clear hown hb3
      go_wp2
      go_ret2
      unfold MadePost
      rw [HE.out]
      exact ⟨_, xs, _, rfl, HLg.out, HP.out, HB3.out⟩
end
end Go.Proofs.YtcgpmnlondnbhaaDoor
