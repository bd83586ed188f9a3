/-
  The law JudgeFull's walk.
-/
import Derived.Test.YtcgpmnlondnbhaaDoorFullRel
import Derived.Test.YtcgpmnlondnbhaaDoorAppendSrc
import Derived.Deep.RegionHeld3
import Derived.Deep.AppendLies
import Derived.Deep.DeepCutAuto
import Derived.Deep.CutBlock
import Derived.IntWalk
namespace Go.Proofs.YtcgpmnlondnbhaaDoor
open Go Go.RowKit Txt Sp

theorem infoOp : (Tryd.prog.info? 32).map (fun i => (i.zero, i.size, i.bytes)) = some (some (.agg #[.int .i64 0, .string ⟨#[]⟩, .string ⟨#[]⟩, .int .i64 0, .int .i64 0, .string ⟨#[]⟩]), 6, 72) := by kernel_rfl
theorem bl_al {w W : World} (h : Below w.heap.size w W) (o : Obj) : Below w.heap.size w (W.alloc o) := h.alloc h.size o
theorem bl_dr {w W : World} (h : Below w.heap.size w W) : Below w.heap.size w W.drew := below_drewN h 1
theorem own_lit1 (WM : World) {W : World} (e : TypeId) {size : Nat} (g : Nat) (hg : WM.heap.size ≤ g) (h : W.heap[g]? = some (.cells #[] e (0, 0))) : W.ownsRow WM.heap.size e size (.slice (some ⟨g, 0, none⟩) 0 0) 0 [] :=
  ⟨by simp, .inr ⟨g, 0, #[], rfl, hg, h, Nat.le_refl _, Nat.zero_le _, by simp, by simp⟩⟩
section
variable {e : TypeId} {size : Nat}
theorem own_a (W : World) (e : TypeId) : (W.alloc (.cells #[] e)).drew.ownsRow W.heap.size e size (.slice (some ⟨W.heap.size, 0, none⟩) 0 0) 0 [] := own_lit1 W e _ (Nat.le_refl _) (heap_alloc_new W _)
theorem own_b (W : World) (e : TypeId) (x : Obj) : ((W.alloc (.cells #[] e)).alloc x).drew.ownsRow W.heap.size e size (.slice (some ⟨W.heap.size, 0, none⟩) 0 0) 0 [] := own_lit1 W e _ (Nat.le_refl _) (heap_below (bl_al (Below.refl _ _) x) _ _ (heap_alloc_new W _))
theorem own_c (W : World) (e : TypeId) (x : Obj) : ((W.alloc x).alloc (.cells #[] e)).drew.ownsRow W.heap.size e size (.slice (some ⟨W.heap.size + 1, 0, none⟩) 0 0) 0 [] := own_lit1 W e _ (Nat.le_succ _) (by
  have h := heap_alloc_new (W.alloc x) (.cells #[] e)
  have hs : (W.alloc x).heap.size = W.heap.size + 1 := by simp
  rw [hs] at h
  exact h)
theorem hx_b {W w4 : World} {z x : Obj} (hg : ((W.alloc z).alloc x).drew.grownBy w4 (some W.heap.size)) : w4.heap[W.heap.size + 1]? = some x := by
  have h := heap_alloc_new (W.alloc z) x
  have hs : (W.alloc z).heap.size = W.heap.size + 1 := by simp
  rw [hs] at h
  rw [hg.block (W.heap.size + 1) (Array.getElem?_eq_some_iff.1 h).1 (by simp)]
  exact h
theorem hx_c {W w4 : World} {z x : Obj} (hg : ((W.alloc x).alloc z).drew.grownBy w4 (some (W.heap.size + 1))) : w4.heap[W.heap.size]? = some x := by
  have h := heap_below (bl_al (Below.refl (W.alloc x).heap.size (W.alloc x)) z) _ _ (heap_alloc_new W x)
  rw [hg.block W.heap.size (Array.getElem?_eq_some_iff.1 h).1 (by simp)]
  exact h
end
theorem one_src {w : World} {x : Nat} {cs : Array Value} {t : TypeId} {fr : Nat × Nat} (h : w.heap[x]? = some (.cells cs t fr)) : ∀ a, some (⟨x, 0, none⟩ : Addr) = some a → ∀ j u, cs.toList[j]? = some u → w.cell? (a.add j) = some u := by
  intro a ha j u hu
  cases ha
  have h1 : w.cell? ⟨x, j, none⟩ = some u := cell_of_heap h (by simpa using hu)
  unfold Addr.add
  split
  · rename_i hj
    subst hj
    exact h1
  · simpa using h1
theorem hx_call {W w5 : World} {x : Obj} (hb : Below (W.alloc x).drew.heap.size (W.alloc x).drew w5) : w5.heap[W.heap.size]? = some x := heap_below hb _ _ (heap_alloc_new W x)
theorem didA_ones (x : Sp.Did) : ∀ u ∈ (didA x (.slice none 0 0)).toList, u.oneCell' = true := by
  intro u hu
  obtain ⟨i, hi⟩ := List.getElem?_of_mem hu
  exact didA_one (x := x) (i := i) (by simpa using hi)
theorem opA_one (o : Sp.Op) : ∀ u ∈ (opA o).toList, u.oneCell' = true := by
  intro u hu
  unfold opA at hu
  simp at hu
  rcases hu with rfl | rfl | rfl | rfl | rfl | rfl <;> rfl

section
set_option maxHeartbeats 8000000
set_option maxRecDepth 20000 in
theorem judgeFull_walk (w : World) {v : Value} {l : List Sp.Op} {o : Sp.Op} (hl : OpsN w v l) (hok : ∀ o ∈ l, OpOk o) (ho : OpOk o) (hm : MaxOk w) :
    Calls Tryd.prog 10 #[v, opV o] w fun e w' => e = .returned (.bool true) ∧ Below w.heap.size w w' := by
  obtain ⟨i0, hi, hz0, hz1, hz2⟩ := info_parts infoDid
  obtain ⟨j0, hj, hj0, hj1, hj2⟩ := info_parts infoOp
  obtain ⟨adA, capA, rfl, hops, hnilA⟩ := hl
  obtain ⟨n, hn⟩ : ∃ n, l.length = n := ⟨_, rfl⟩
  have HL := Lib.hid hops
  have HO := Lib.hid hok
  have HO1 := Lib.hid ho
  have HM := Lib.hid hm
  have HN := Lib.hid hn
  have HLen : Hid ((opsVals l).length = n * 6) := by show _ = _; rw [opsVals_length, hn]
  obtain ⟨_, _, hvA, hA1, hA2, _⟩ := hops
  cases hvA
  rw [hn] at hnilA hA1 HL ⊢
  have HNilA := Lib.hid hnilA
  have hcapA : capA ≤ 9223372036854775807 := Nat.le_trans hA2 (by decide)
  clear hok ho hm hn hnilA hA2
  obtain ⟨ok, op, ot, oo, ol, od⟩ := o
  unfold opV
  simp only
  obtain ⟨W0, hW0⟩ : ∃ W, w.alloc (.cells #[.int .i64 ok, .string op, .string ot, .int .i64 oo, .int .i64 ol, .string od] 32) = W := ⟨_, rfl⟩
  obtain ⟨q, hq⟩ : ∃ n, w.heap.size = n := ⟨_, rfl⟩
  have HB0 : Hid (Below w.heap.size w W0) := by show Below _ _ _; rw [← hW0]; exact (Below.refl _ _).alloc (Nat.le_refl _) _
  have HQ0 : Hid (W0.heap[q]? = some (.cells #[.int .i64 ok, .string op, .string ot, .int .i64 oo, .int .i64 ol, .string od] 32 (0, 0))) := by show _ = _; rw [← hW0, ← hq]; exact heap_alloc_new w _
  go_enter Tryd.func10, Tryd.ntmps10
  go_wp2_with fail
  refine (judgeWorks_any W0 (HM.out.below HB0.out)).mono ?_
  rintro e w1 ⟨rfl, hb1⟩
  have HB1 := Lib.hid (below_next HB0.out hb1)
  have HQ1 := Lib.hid (heap_below hb1 _ _ HQ0.out)
  clear hb1
  go_wp2_with fail
  refine (judgeMade_any w1 (HL.out.below HB1.out) HO.out (HM.out.below HB1.out)).mono ?_
  rintro e w2 ⟨lv, xs, pv, rfl, hlog, hpaths, hb2⟩
  have hll : (logFrom 0 Sp.new (l.take 40)).length = min 40 n := by rw [logFrom_length, List.length_take, HN.out]
  obtain ⟨adL, capL, rfl, -, -, -⟩ := hlog.dids
  rw [hll] at hlog ⊢
  have HB2 := Lib.hid (below_next HB1.out hb2)
  by_cases h40 : n < 40
  · have htk : l.take 40 = l := List.take_of_length_le (by rw [HN.out]; omega)
    have hmin : min 40 n = n := by omega
    rw [htk] at hlog hpaths
    rw [hmin] at hlog ⊢
    have HLog2 := Lib.hid hlog
    have HP2 := Lib.hid hpaths
    have hq2 := heap_below hb2 _ _ HQ1.out
    have z0 := cell_of_heap (k := 0) hq2 rfl
    have z1 := cell_of_heap (k := 1) hq2 rfl
    have z2 := cell_of_heap (k := 2) hq2 rfl
    have z3 := cell_of_heap (k := 3) hq2 rfl
    have z4 := cell_of_heap (k := 4) hq2 rfl
    have z5 := cell_of_heap (k := 5) hq2 rfl
    clear hlog hpaths hb2 hll hmin htk
    go_upto_region 8 with fail
    obtain ⟨W2, hW2⟩ : ∃ W, w2.alloc (.cells #[.int .i64 1, .int .i64 900, .int .i64 ((n : Int) + 1), .int .i64 ((n : Int) + 9), .int .i64 ok, .string op, .string ot, .int .i64 oo, .int .i64 ol, .string od, .int .i64 109, .int .i64 0, .int .i64 0, .int .i64 0, .string ⟨#[]⟩, .slice none 0 0] 56) = W := ⟨_, rfl⟩
    obtain ⟨xq, hxq⟩ : ∃ m, w2.heap.size = m := ⟨_, rfl⟩
    have hal : Below w2.heap.size w2 W2 := by rw [← hW2]; exact (Below.refl _ _).alloc (Nat.le_refl _) _
    have HX : Hid (W2.heap[xq]? = some (.cells #[.int .i64 1, .int .i64 900, .int .i64 ((n : Int) + 1), .int .i64 ((n : Int) + 9), .int .i64 ok, .string op, .string ot, .int .i64 oo, .int .i64 ol, .string od, .int .i64 109, .int .i64 0, .int .i64 0, .int .i64 0, .string ⟨#[]⟩, .slice none 0 0] 56 (0, 0))) := by show _ = _; rw [← hW2, ← hxq]; exact heap_alloc_new w2 _
    have HBW := Lib.hid (below_next HB2.out hal)
    have HLogW := Lib.hid (HLog2.out.below hal)
    have HPW := Lib.hid (HP2.out.below hal)
    have HLW := Lib.hid (HL.out.below HBW.out)
    have HMW := Lib.hid (HM.out.below HBW.out)
    have HQW := Lib.hid (heap_below hal _ _ hq2)
    have HQC : Hid (∀ W : World, Below W2.heap.size W2 W → W.cell? ⟨q, 0, none⟩ = some (.int .i64 ok) ∧ W.cell? ⟨q, 1, none⟩ = some (.string op) ∧ W.cell? ⟨q, 2, none⟩ = some (.string ot) ∧ W.cell? ⟨q, 3, none⟩ = some (.int .i64 oo) ∧ W.cell? ⟨q, 4, none⟩ = some (.int .i64 ol) ∧ W.cell? ⟨q, 5, none⟩ = some (.string od)) := fun W hW => by
      have h := heap_below hW _ _ HQW.out
      exact ⟨cell_of_heap h rfl, cell_of_heap h rfl, cell_of_heap h rfl, cell_of_heap h rfl, cell_of_heap h rfl, cell_of_heap h rfl⟩
    have HSrc : Hid (∀ W : World, Below W2.heap.size W2 W → ∀ a, adA = some a → ∀ j u, (opsVals l)[j]? = some u → W.cell? (a.add j) = some u) := fun W hW => ops_src (cap := capA) (by have h := HLW.out.below hW; rw [← HN.out] at h; exact h)
    rw [hW2, hxq]
    clear hal hW2 hxq hq2 z0 z1 z2 z3 z4 z5 HLog2 HP2 HB2 HB1 HQ1 hW0 HB0 HQ0 hq HL HM HLW HQW
    have hn0 : (0 : Int) ≤ (n : Int) := by omega
    have hn1 : (n : Int) ≤ (capA : Int) := by omega
    go_cut [10] (fun s10 wx => FullPaths W2 s10 wx)
    case first =>
      go_region_held3 (fun W => W.cell? ⟨q, 0, none⟩ = some (.int .i64 ok) ∧ W.cell? ⟨q, 1, none⟩ = some (.string op) ∧ W.cell? ⟨q, 2, none⟩ = some (.string ot) ∧ W.cell? ⟨q, 3, none⟩ = some (.int .i64 oo) ∧ W.cell? ⟨q, 4, none⟩ = some (.int .i64 ol) ∧ W.cell? ⟨q, 5, none⟩ = some (.string od))
        ((refine HQC.out _ ?_; repeat' first | with_reducible exact Below.refl _ _ | with_reducible exact HB4.out | with_reducible exact HB5.out | with_reducible exact HB6.out | with_reducible refine bl_al ?_ _ | with_reducible refine bl_dr ?_))
        (first
          | (refine step_append_src _ (by rfl) (.tmp 38) (.tmp 41) 38 (by rfl) W2.heap.size 32 j0 _ 6 72 Tryd.underlying38 hj hj0 hj1 hj2 (by rfl) (by decide) _ 0 0 [] (by rfl) (by first | with_reducible exact own_a _ _ | with_reducible exact own_b _ _ _ | with_reducible exact own_c _ _ _) adA n capA (by rfl) HNilA.out (opsVals l) HLen.out (HSrc.out _ (by repeat' first | with_reducible exact Below.refl _ _ | with_reducible exact HB4.out | with_reducible exact HB5.out | with_reducible refine bl_al ?_ _ | with_reducible refine bl_dr ?_)) (opsVals_one l) (by unfold maxLen; omega) (by omega) ((by repeat' first | with_reducible exact Below.refl _ _ | with_reducible exact HB4.out | with_reducible exact HB5.out | with_reducible refine bl_al ?_ _ | with_reducible refine bl_dr ?_) : Below W2.heap.size W2 _).size ?_
             intro g1 cap1 w4 hown1 hgrow1 hat1
             have HB4 : Hid (Below W2.heap.size W2 w4) := Below.grown ((by repeat' first | with_reducible exact Below.refl _ _ | with_reducible exact HB4.out | with_reducible exact HB5.out | with_reducible refine bl_al ?_ _ | with_reducible refine bl_dr ?_) : Below W2.heap.size W2 _) hgrow1 ((by repeat' first | with_reducible exact Below.refl _ _ | with_reducible exact HB4.out | with_reducible exact HB5.out | with_reducible refine bl_al ?_ _ | with_reducible refine bl_dr ?_) : Below W2.heap.size W2 _).size (fun k hk => by cases hk; omega)
             have HOwn1 : Hid (w4.ownsRow W2.heap.size 32 6 (.slice (some ⟨g1, 0, none⟩) n cap1) n (opsVals l)) := (by rw [Nat.zero_add, List.nil_append] at hown1; exact hown1)
             try (with_reducible have hxb := hx_b hgrow1; have HXB := Lib.hid hxb; clear hxb)
             try (with_reducible have hxc := hx_c hgrow1; have HXC := Lib.hid hxc; clear hxc)
             clear hown1 hgrow1 hat1
             rw [Nat.zero_add])
          | (refine step_append_src _ (by rfl) (.tmp 42) (.tmp 44) 38 (by rfl) W2.heap.size 32 j0 _ 6 72 Tryd.underlying38 hj hj0 hj1 hj2 (by rfl) (by decide) _ n _ (opsVals l) (by rfl) (by first | with_reducible exact HOwn1.out | with_reducible exact HOwn1.out.alloc _) (some _) 1 1 (by rfl) (fun h => by cases h) [.int .i64 ok, .string op, .string ot, .int .i64 oo, .int .i64 ol, .string od] (by rfl) (by first | with_reducible exact one_src HXB.out | with_reducible exact one_src HXC.out | with_reducible exact one_src (heap_alloc_new w4 _)) (opA_one ⟨ok, op, ot, oo, ol, od⟩) (by unfold maxLen; omega) (by omega) ((by repeat' first | with_reducible exact Below.refl _ _ | with_reducible exact HB4.out | with_reducible exact HB5.out | with_reducible refine bl_al ?_ _ | with_reducible refine bl_dr ?_) : Below W2.heap.size W2 _).size ?_
             intro g2 cap2 w5 hown2 hgrow2 hat2
             have HB5 : Hid (Below W2.heap.size W2 w5) := Below.grown ((by repeat' first | with_reducible exact Below.refl _ _ | with_reducible exact HB4.out | with_reducible exact HB5.out | with_reducible refine bl_al ?_ _ | with_reducible refine bl_dr ?_) : Below W2.heap.size W2 _) hgrow2 ((by repeat' first | with_reducible exact Below.refl _ _ | with_reducible exact HB4.out | with_reducible exact HB5.out | with_reducible refine bl_al ?_ _ | with_reducible refine bl_dr ?_) : Below W2.heap.size W2 _).size (fun k hk => by cases hk; exact (HOwn1.out.lt _ rfl).1)
             have HOps5 : Hid (Ops w5 (.slice (some ⟨g2, 0, none⟩) (n + 1) cap2) (l ++ [⟨ok, op, ot, oo, ol, od⟩])) := ops_more HN.out hown2
             clear hown2 hgrow2 hat2)
          | (go_at_call 24
             refine (judgeMade_any _ HOps5.out (more_ok HO.out HO1.out) (HMW.out.below HB5.out)).mono ?_
             intro e w6 hp
             obtain ⟨v6, s6, rfl, hfp⟩ := made_paths HB5.out hp
             have HE := Lib.hid hfp
             have HB6 := Lib.hid hfp.low
             clear hp hfp
             simp only))
      all_goals
        go_wp2_with fail
        go_meet
        case rel => exact HE.out
    case rest =>
    obtain ⟨adP, mP, capP, rfl, hb7⟩ := hcut
    obtain ⟨W3, rfl⟩ : ∃ W, W = wc := ⟨_, rfl⟩
    have HB7 := Lib.hid hb7
    have HMW3 := Lib.hid (HMW.out.below hb7)
    have HQC3 : Hid (∀ W : World, Below W3.heap.size W3 W → W.cell? ⟨q, 0, none⟩ = some (.int .i64 ok) ∧ W.cell? ⟨q, 1, none⟩ = some (.string op) ∧ W.cell? ⟨q, 2, none⟩ = some (.string ot) ∧ W.cell? ⟨q, 3, none⟩ = some (.int .i64 oo) ∧ W.cell? ⟨q, 4, none⟩ = some (.int .i64 ol) ∧ W.cell? ⟨q, 5, none⟩ = some (.string od)) := fun W hW => HQC.out W (below_next HB7.out hW)
    have HSrc3 : Hid (∀ W : World, Below W3.heap.size W3 W → ∀ a, adA = some a → ∀ j u, (opsVals l)[j]? = some u → W.cell? (a.add j) = some u) := fun W hW => HSrc.out W (below_next HB7.out hW)
    obtain ⟨c, hc⟩ : ∃ c, ((Sp.new.steps l).step ⟨ok, op, ot, oo, ol, od⟩).2.code = c := ⟨_, rfl⟩
    have HCo := Lib.hid hc
    obtain ⟨a, b, PL, HJ, HPl, HCase⟩ : ∃ (a b : Int) (PL : List ByteArray), Hid (judgeN (logFrom 0 Sp.new l ++ [Sp.fullD n ⟨ok, op, ot, oo, ol, od⟩]) = (a, b, 0)) ∧ Hid (pathsN (logFrom 0 Sp.new l ++ [Sp.fullD n ⟨ok, op, ot, oo, ol, od⟩]) = (PL, 0)) ∧ Hid ((c = 0 → a = 0 ∧ PL = (Sp.new.steps l).paths) ∧ (c ≠ 0 → a = 2 ∧ b = (n : Int))) := by
      have h1 := full_judge (l := l) (by rw [HN.out]; exact h40) ⟨ok, op, ot, oo, ol, od⟩
      have h2 := full_paths (l := l) (by rw [HN.out]; exact h40) ⟨ok, op, ot, oo, ol, od⟩
      rw [HN.out, hc] at h1 h2
      by_cases h0 : c = 0
      · rw [if_pos h0] at h1 h2
        exact ⟨_, _, _, h1, h2, ⟨fun _ => ⟨rfl, rfl⟩, fun h => absurd h0 h⟩⟩
      · rw [if_neg h0] at h1 h2
        exact ⟨_, _, _, h1, h2, ⟨fun h => absurd h h0, fun _ => ⟨rfl, rfl⟩⟩⟩
    clear hb7 hc HQC HSrc
    go_upto_region 9 with fail
    go_cut [11] (fun s11 wx => FullLog W3 n c s11 wx)
    case first =>
      go_region_held3 (fun W => W.cell? ⟨q, 0, none⟩ = some (.int .i64 ok) ∧ W.cell? ⟨q, 1, none⟩ = some (.string op) ∧ W.cell? ⟨q, 2, none⟩ = some (.string ot) ∧ W.cell? ⟨q, 3, none⟩ = some (.int .i64 oo) ∧ W.cell? ⟨q, 4, none⟩ = some (.int .i64 ol) ∧ W.cell? ⟨q, 5, none⟩ = some (.string od))
        ((refine HQC3.out _ ?_; repeat' first | with_reducible exact Below.refl _ _ | with_reducible exact HB4.out | with_reducible exact HB5.out | with_reducible exact HB6.out | with_reducible refine bl_al ?_ _ | with_reducible refine bl_dr ?_))
        (first
          | (refine step_append_src _ (by rfl) (.tmp 50) (.tmp 53) 38 (by rfl) W3.heap.size 32 j0 _ 6 72 Tryd.underlying38 hj hj0 hj1 hj2 (by rfl) (by decide) _ 0 0 [] (by rfl) (by first | with_reducible exact own_a _ _ | with_reducible exact own_b _ _ _ | with_reducible exact own_c _ _ _) adA n capA (by rfl) HNilA.out (opsVals l) HLen.out (HSrc3.out _ (by repeat' first | with_reducible exact Below.refl _ _ | with_reducible exact HB4.out | with_reducible exact HB5.out | with_reducible refine bl_al ?_ _ | with_reducible refine bl_dr ?_)) (opsVals_one l) (by unfold maxLen; omega) (by omega) ((by repeat' first | with_reducible exact Below.refl _ _ | with_reducible exact HB4.out | with_reducible exact HB5.out | with_reducible refine bl_al ?_ _ | with_reducible refine bl_dr ?_) : Below W3.heap.size W3 _).size ?_
             intro g1 cap1 w4 hown1 hgrow1 hat1
             have HB4 : Hid (Below W3.heap.size W3 w4) := Below.grown ((by repeat' first | with_reducible exact Below.refl _ _ | with_reducible exact HB4.out | with_reducible exact HB5.out | with_reducible refine bl_al ?_ _ | with_reducible refine bl_dr ?_) : Below W3.heap.size W3 _) hgrow1 ((by repeat' first | with_reducible exact Below.refl _ _ | with_reducible exact HB4.out | with_reducible exact HB5.out | with_reducible refine bl_al ?_ _ | with_reducible refine bl_dr ?_) : Below W3.heap.size W3 _).size (fun k hk => by cases hk; omega)
             have HOwn1 : Hid (w4.ownsRow W3.heap.size 32 6 (.slice (some ⟨g1, 0, none⟩) n cap1) n (opsVals l)) := (by rw [Nat.zero_add, List.nil_append] at hown1; exact hown1)
             try (with_reducible have hxb := hx_b hgrow1; have HXB := Lib.hid hxb; clear hxb)
             try (with_reducible have hxc := hx_c hgrow1; have HXC := Lib.hid hxc; clear hxc)
             clear hown1 hgrow1 hat1
             rw [Nat.zero_add])
          | (refine step_append_src _ (by rfl) (.tmp 54) (.tmp 56) 38 (by rfl) W3.heap.size 32 j0 _ 6 72 Tryd.underlying38 hj hj0 hj1 hj2 (by rfl) (by decide) _ n _ (opsVals l) (by rfl) (by first | with_reducible exact HOwn1.out | with_reducible exact HOwn1.out.alloc _) (some _) 1 1 (by rfl) (fun h => by cases h) [.int .i64 ok, .string op, .string ot, .int .i64 oo, .int .i64 ol, .string od] (by rfl) (by first | with_reducible exact one_src HXB.out | with_reducible exact one_src HXC.out | with_reducible exact one_src (heap_alloc_new w4 _)) (opA_one ⟨ok, op, ot, oo, ol, od⟩) (by unfold maxLen; omega) (by omega) ((by repeat' first | with_reducible exact Below.refl _ _ | with_reducible exact HB4.out | with_reducible exact HB5.out | with_reducible refine bl_al ?_ _ | with_reducible refine bl_dr ?_) : Below W3.heap.size W3 _).size ?_
             intro g2 cap2 w5 hown2 hgrow2 hat2
             have HB5 : Hid (Below W3.heap.size W3 w5) := Below.grown ((by repeat' first | with_reducible exact Below.refl _ _ | with_reducible exact HB4.out | with_reducible exact HB5.out | with_reducible refine bl_al ?_ _ | with_reducible refine bl_dr ?_) : Below W3.heap.size W3 _) hgrow2 ((by repeat' first | with_reducible exact Below.refl _ _ | with_reducible exact HB4.out | with_reducible exact HB5.out | with_reducible refine bl_al ?_ _ | with_reducible refine bl_dr ?_) : Below W3.heap.size W3 _).size (fun k hk => by cases hk; exact (HOwn1.out.lt _ rfl).1)
             have HOps5 : Hid (Ops w5 (.slice (some ⟨g2, 0, none⟩) (n + 1) cap2) (l ++ [⟨ok, op, ot, oo, ol, od⟩])) := ops_more HN.out hown2
             clear hown2 hgrow2 hat2)
          | (go_at_call 24
             refine (judgeMade_any _ HOps5.out (more_ok HO.out HO1.out) (HMW3.out.below HB5.out)).mono ?_
             intro e w6 hp
             obtain ⟨v6, s6, rfl, hfp⟩ := made_log HB5.out HN.out h40 hp
             rw [HCo.out] at hfp
             have HE := Lib.hid hfp
             have HB6 := Lib.hid hfp.low
             clear hp hfp
             simp only))
      all_goals
        go_wp2_with fail
        go_meet
        case rel => exact HE.out
    case rest =>
    obtain ⟨g9, cap9, rfl, hg9, hcell9, hb9⟩ := hcut
    obtain ⟨W4, rfl⟩ : ∃ W, W = wc := ⟨_, rfl⟩
    have HB9 := Lib.hid (below_next HB7.out hb9)
    have HT4 := Lib.hid hcell9
    have HMW4 := Lib.hid (HMW3.out.below hb9)
    have HLog4 := Lib.hid (HLogW.out.below HB9.out)
    have HXC4 : Hid (∀ W : World, Below W4.heap.size W4 W → W.cell? ⟨xq, 0, none⟩ = some (.int .i64 1) ∧ W.cell? ⟨xq, 1, none⟩ = some (.int .i64 900) ∧ W.cell? ⟨xq, 2, none⟩ = some (.int .i64 ((n : Int) + 1)) ∧ W.cell? ⟨xq, 3, none⟩ = some (.int .i64 ((n : Int) + 9)) ∧ W.cell? ⟨xq, 4, none⟩ = some (.int .i64 ok) ∧ W.cell? ⟨xq, 5, none⟩ = some (.string op) ∧ W.cell? ⟨xq, 6, none⟩ = some (.string ot) ∧ W.cell? ⟨xq, 7, none⟩ = some (.int .i64 oo) ∧ W.cell? ⟨xq, 8, none⟩ = some (.int .i64 ol) ∧ W.cell? ⟨xq, 9, none⟩ = some (.string od) ∧ W.cell? ⟨xq, 10, none⟩ = some (.int .i64 109) ∧ W.cell? ⟨xq, 11, none⟩ = some (.int .i64 0) ∧ W.cell? ⟨xq, 12, none⟩ = some (.int .i64 0) ∧ W.cell? ⟨xq, 13, none⟩ = some (.int .i64 0) ∧ W.cell? ⟨xq, 14, none⟩ = some (.string ⟨#[]⟩) ∧ W.cell? ⟨xq, 15, none⟩ = some (.slice none 0 0)) := fun W hW => by
      have h := heap_below (below_next HB9.out hW) _ _ HX.out
      exact ⟨cell_of_heap h rfl, cell_of_heap h rfl, cell_of_heap h rfl, cell_of_heap h rfl, cell_of_heap h rfl, cell_of_heap h rfl, cell_of_heap h rfl, cell_of_heap h rfl, cell_of_heap h rfl, cell_of_heap h rfl, cell_of_heap h rfl, cell_of_heap h rfl, cell_of_heap h rfl, cell_of_heap h rfl, cell_of_heap h rfl, cell_of_heap h rfl⟩
    have HLn : Hid ((logFrom 0 Sp.new l).length = n) := by show _ = _; rw [logFrom_length, HN.out]
    have HLk : Hid (∀ x ∈ logFrom 0 Sp.new l ++ [Sp.fullD n ⟨ok, op, ot, oo, ol, od⟩], OpOk x.o) := more_ok2 (logFrom_ok l 0 Sp.new HO.out) HO1.out
    have HNf : Hid (∀ x ∈ logFrom 0 Sp.new l, x.a.names.length ≤ 2000000) := names_few (by rw [HN.out]; omega)
    clear hb9 hcell9 HQC3 HSrc3 HMW3 HB7 HMW
    go_upto_region 10 with fail
    go_cut [13, 14, 15] (fun s13 s14 s15 wx => FullJudge W4 a b s13 s14 s15 wx)
    case first =>
      go_region_held3 (fun W => W.cell? ⟨xq, 0, none⟩ = some (.int .i64 1) ∧ W.cell? ⟨xq, 1, none⟩ = some (.int .i64 900) ∧ W.cell? ⟨xq, 2, none⟩ = some (.int .i64 ((n : Int) + 1)) ∧ W.cell? ⟨xq, 3, none⟩ = some (.int .i64 ((n : Int) + 9)) ∧ W.cell? ⟨xq, 4, none⟩ = some (.int .i64 ok) ∧ W.cell? ⟨xq, 5, none⟩ = some (.string op) ∧ W.cell? ⟨xq, 6, none⟩ = some (.string ot) ∧ W.cell? ⟨xq, 7, none⟩ = some (.int .i64 oo) ∧ W.cell? ⟨xq, 8, none⟩ = some (.int .i64 ol) ∧ W.cell? ⟨xq, 9, none⟩ = some (.string od) ∧ W.cell? ⟨xq, 10, none⟩ = some (.int .i64 109) ∧ W.cell? ⟨xq, 11, none⟩ = some (.int .i64 0) ∧ W.cell? ⟨xq, 12, none⟩ = some (.int .i64 0) ∧ W.cell? ⟨xq, 13, none⟩ = some (.int .i64 0) ∧ W.cell? ⟨xq, 14, none⟩ = some (.string ⟨#[]⟩) ∧ W.cell? ⟨xq, 15, none⟩ = some (.slice none 0 0))
        ((refine HXC4.out _ ?_; repeat' first | with_reducible exact Below.refl _ _ | with_reducible exact HB5x.out | with_reducible exact HB6x.out | with_reducible exact HB7x.out | with_reducible refine bl_al ?_ _ | with_reducible refine bl_dr ?_))
        (first
          | (go_at_call 23
             refine (judgeCopied_any _ (HLog4.out.below (by repeat' first | with_reducible exact Below.refl _ _ | with_reducible exact HB5x.out | with_reducible exact HB6x.out | with_reducible exact HB7x.out | with_reducible refine bl_al ?_ _ | with_reducible refine bl_dr ?_)).src (by rw [HLn.out]; omega) HNf.out).mono ?_
             rintro e w5 ⟨g5, cap5, xs5, rfl, hlog5, hb5⟩
             have HB5x : Hid (Below W4.heap.size W4 w5) := below_next (by repeat' first | with_reducible exact Below.refl _ _ | with_reducible exact HB5x.out | with_reducible exact HB6x.out | with_reducible exact HB7x.out | with_reducible refine bl_al ?_ _ | with_reducible refine bl_dr ?_) hb5
             rw [HLn.out] at hlog5 ⊢
             have HL5 := Lib.hid hlog5
             have HS5 : Hid (_ ≤ w5.heap.size) := hb5.size
             have hown5 := hlog5.own
             rw [HLn.out] at hown5
             have HOwn5 := Lib.hid hown5
             try (with_reducible have hxc := hx_call hb5; have HXK := Lib.hid hxc; clear hxc)
             clear hlog5 hb5 hown5
             simp only)
          | (refine step_append_src _ (by rfl) (.tmp 63) (.tmp 65) 50 (by rfl) _ 56 i0 _ 16 176 Tryd.underlying50 hi hz0 hz1 hz2 (by rfl) (by decide) g5 n cap5 xs5 (by rfl) (by first | with_reducible exact HOwn5.out | with_reducible exact HOwn5.out.alloc _) (some _) 1 1 (by rfl) (fun h => by cases h) [.int .i64 1, .int .i64 900, .int .i64 ((n : Int) + 1), .int .i64 ((n : Int) + 9), .int .i64 ok, .string op, .string ot, .int .i64 oo, .int .i64 ol, .string od, .int .i64 109, .int .i64 0, .int .i64 0, .int .i64 0, .string ⟨#[]⟩, .slice none 0 0] (by rfl) (by first | with_reducible exact one_src HXK.out | with_reducible exact one_src (heap_alloc_new w5 _)) (didA_ones (Sp.fullD n ⟨ok, op, ot, oo, ol, od⟩)) (by unfold maxLen; omega) (by omega) (by first | with_reducible exact HS5.out | exact Nat.le_trans HS5.out (bl_al (Below.refl _ w5) _).size) ?_
             intro g6 cap6 w6 hown6 hgrow6 hat6
             have HB6x : Hid (Below W4.heap.size W4 w6) := Below.grown ((by repeat' first | with_reducible exact Below.refl _ _ | with_reducible exact HB5x.out | with_reducible exact HB6x.out | with_reducible exact HB7x.out | with_reducible refine bl_al ?_ _ | with_reducible refine bl_dr ?_) : Below W4.heap.size W4 _) hgrow6 ((by repeat' first | with_reducible exact Below.refl _ _ | with_reducible exact HB5x.out | with_reducible exact HB6x.out | with_reducible exact HB7x.out | with_reducible refine bl_al ?_ _ | with_reducible refine bl_dr ?_) : Below W4.heap.size W4 _).size (fun k hk => by cases hk; exact Nat.le_trans (by first | exact Nat.le_refl _ | (simp)) (HOwn5.out.lt _ rfl).1)
             have HDs : Hid (Dids w6 (.slice (some ⟨g6, 0, none⟩) (n + 1) cap6) (logFrom 0 Sp.new l ++ [Sp.fullD n ⟨ok, op, ot, oo, ol, od⟩])) := log_more HLn.out (by first | with_reducible exact HL5.out | exact HL5.out.below (bl_al (Below.refl _ w5) _)) hown6 hgrow6 hat6
             clear hown6 hgrow6 hat6)
          | (go_at_call 22
             refine (judge_known HJ.out HDs.out HLk.out (HMW4.out.below HB6x.out)).mono ?_
             rintro e w7 ⟨rfl, hb7⟩
             have HB7x : Hid (Below W4.heap.size W4 w7) := below_next HB6x.out hb7
             have HE : Hid (FullJudge W4 a b (.int .i64 a) (.int .i64 b) (.int .i64 0) w7) := ⟨rfl, rfl, rfl, HB7x.out⟩
             clear hb7
             simp only))
      all_goals
        go_wp2_with fail
        go_meet
        case rel => exact HE.out
    case rest =>
    obtain ⟨rfl, rfl, rfl, hb10⟩ := hcut
    obtain ⟨W5, rfl⟩ : ∃ W, W = wc := ⟨_, rfl⟩
    have HB10 := Lib.hid (below_next HB9.out hb10)
    have HT5 : Hid (W5.cell? ⟨g9, n * 16 + 10, none⟩ = some (.int .i64 c)) := (hb10.cell (p := ⟨g9, n * 16 + 10, none⟩) hg9).trans HT4.out
    have hg10 : g9 < W5.heap.size := Nat.lt_of_lt_of_le hg9 hb10.size
    have HMW5 := Lib.hid (HMW4.out.below hb10)
    have HLog5 := Lib.hid (HLog4.out.below hb10)
    have HXC5 : Hid (∀ W : World, Below W5.heap.size W5 W → W.cell? ⟨xq, 0, none⟩ = some (.int .i64 1) ∧ W.cell? ⟨xq, 1, none⟩ = some (.int .i64 900) ∧ W.cell? ⟨xq, 2, none⟩ = some (.int .i64 ((n : Int) + 1)) ∧ W.cell? ⟨xq, 3, none⟩ = some (.int .i64 ((n : Int) + 9)) ∧ W.cell? ⟨xq, 4, none⟩ = some (.int .i64 ok) ∧ W.cell? ⟨xq, 5, none⟩ = some (.string op) ∧ W.cell? ⟨xq, 6, none⟩ = some (.string ot) ∧ W.cell? ⟨xq, 7, none⟩ = some (.int .i64 oo) ∧ W.cell? ⟨xq, 8, none⟩ = some (.int .i64 ol) ∧ W.cell? ⟨xq, 9, none⟩ = some (.string od) ∧ W.cell? ⟨xq, 10, none⟩ = some (.int .i64 109) ∧ W.cell? ⟨xq, 11, none⟩ = some (.int .i64 0) ∧ W.cell? ⟨xq, 12, none⟩ = some (.int .i64 0) ∧ W.cell? ⟨xq, 13, none⟩ = some (.int .i64 0) ∧ W.cell? ⟨xq, 14, none⟩ = some (.string ⟨#[]⟩) ∧ W.cell? ⟨xq, 15, none⟩ = some (.slice none 0 0)) := fun W hW => HXC4.out W (below_next hb10 hW)
    clear hb10 HXC4 HMW4 HLog4 HB9 HT4 hg9
    go_upto_region 11 with fail
    go_cut [16, 17] (fun s16 s17 wx => FullTold W5 PL s16 s17 wx)
    case first =>
      go_region_held3 (fun W => W.cell? ⟨xq, 0, none⟩ = some (.int .i64 1) ∧ W.cell? ⟨xq, 1, none⟩ = some (.int .i64 900) ∧ W.cell? ⟨xq, 2, none⟩ = some (.int .i64 ((n : Int) + 1)) ∧ W.cell? ⟨xq, 3, none⟩ = some (.int .i64 ((n : Int) + 9)) ∧ W.cell? ⟨xq, 4, none⟩ = some (.int .i64 ok) ∧ W.cell? ⟨xq, 5, none⟩ = some (.string op) ∧ W.cell? ⟨xq, 6, none⟩ = some (.string ot) ∧ W.cell? ⟨xq, 7, none⟩ = some (.int .i64 oo) ∧ W.cell? ⟨xq, 8, none⟩ = some (.int .i64 ol) ∧ W.cell? ⟨xq, 9, none⟩ = some (.string od) ∧ W.cell? ⟨xq, 10, none⟩ = some (.int .i64 109) ∧ W.cell? ⟨xq, 11, none⟩ = some (.int .i64 0) ∧ W.cell? ⟨xq, 12, none⟩ = some (.int .i64 0) ∧ W.cell? ⟨xq, 13, none⟩ = some (.int .i64 0) ∧ W.cell? ⟨xq, 14, none⟩ = some (.string ⟨#[]⟩) ∧ W.cell? ⟨xq, 15, none⟩ = some (.slice none 0 0))
        ((refine HXC5.out _ ?_; repeat' first | with_reducible exact Below.refl _ _ | with_reducible exact HB5x.out | with_reducible exact HB6x.out | with_reducible exact HB7x.out | with_reducible refine bl_al ?_ _ | with_reducible refine bl_dr ?_))
        (first
          | (go_at_call 23
             refine (judgeCopied_any _ (HLog5.out.below (by repeat' first | with_reducible exact Below.refl _ _ | with_reducible exact HB5x.out | with_reducible exact HB6x.out | with_reducible exact HB7x.out | with_reducible refine bl_al ?_ _ | with_reducible refine bl_dr ?_)).src (by rw [HLn.out]; omega) HNf.out).mono ?_
             rintro e w5 ⟨g5, cap5, xs5, rfl, hlog5, hb5⟩
             have HB5x : Hid (Below W5.heap.size W5 w5) := below_next (by repeat' first | with_reducible exact Below.refl _ _ | with_reducible exact HB5x.out | with_reducible exact HB6x.out | with_reducible exact HB7x.out | with_reducible refine bl_al ?_ _ | with_reducible refine bl_dr ?_) hb5
             rw [HLn.out] at hlog5 ⊢
             have HL5 := Lib.hid hlog5
             have HS5 : Hid (_ ≤ w5.heap.size) := hb5.size
             have hown5 := hlog5.own
             rw [HLn.out] at hown5
             have HOwn5 := Lib.hid hown5
             try (with_reducible have hxc := hx_call hb5; have HXK := Lib.hid hxc; clear hxc)
             clear hlog5 hb5 hown5
             simp only)
          | (refine step_append_src _ (by rfl) (.tmp 73) (.tmp 75) 50 (by rfl) _ 56 i0 _ 16 176 Tryd.underlying50 hi hz0 hz1 hz2 (by rfl) (by decide) g5 n cap5 xs5 (by rfl) (by first | with_reducible exact HOwn5.out | with_reducible exact HOwn5.out.alloc _) (some _) 1 1 (by rfl) (fun h => by cases h) [.int .i64 1, .int .i64 900, .int .i64 ((n : Int) + 1), .int .i64 ((n : Int) + 9), .int .i64 ok, .string op, .string ot, .int .i64 oo, .int .i64 ol, .string od, .int .i64 109, .int .i64 0, .int .i64 0, .int .i64 0, .string ⟨#[]⟩, .slice none 0 0] (by rfl) (by first | with_reducible exact one_src HXK.out | with_reducible exact one_src (heap_alloc_new w5 _)) (didA_ones (Sp.fullD n ⟨ok, op, ot, oo, ol, od⟩)) (by unfold maxLen; omega) (by omega) (by first | with_reducible exact HS5.out | exact Nat.le_trans HS5.out (bl_al (Below.refl _ w5) _).size) ?_
             intro g6 cap6 w6 hown6 hgrow6 hat6
             have HB6x : Hid (Below W5.heap.size W5 w6) := Below.grown ((by repeat' first | with_reducible exact Below.refl _ _ | with_reducible exact HB5x.out | with_reducible exact HB6x.out | with_reducible exact HB7x.out | with_reducible refine bl_al ?_ _ | with_reducible refine bl_dr ?_) : Below W5.heap.size W5 _) hgrow6 ((by repeat' first | with_reducible exact Below.refl _ _ | with_reducible exact HB5x.out | with_reducible exact HB6x.out | with_reducible exact HB7x.out | with_reducible refine bl_al ?_ _ | with_reducible refine bl_dr ?_) : Below W5.heap.size W5 _).size (fun k hk => by cases hk; exact Nat.le_trans (by first | exact Nat.le_refl _ | (simp)) (HOwn5.out.lt _ rfl).1)
             have HDs : Hid (Dids w6 (.slice (some ⟨g6, 0, none⟩) (n + 1) cap6) (logFrom 0 Sp.new l ++ [Sp.fullD n ⟨ok, op, ot, oo, ol, od⟩])) := log_more HLn.out (by first | with_reducible exact HL5.out | exact HL5.out.below (bl_al (Below.refl _ w5) _)) hown6 hgrow6 hat6
             clear hown6 hgrow6 hat6)
          | (go_at_call 25
             refine (judgePaths_any _ HDs.out HLk.out (HMW5.out.below HB6x.out)).mono ?_
             rintro e w7 ⟨v7, rfl, hown7, hb7⟩
             rw [HPl.out] at hown7 ⊢
             have HB7x : Hid (Below W5.heap.size W5 w7) := below_next HB6x.out hb7
             have HE : Hid (FullTold W5 PL v7 (.int .i64 0) w7) := ⟨rfl, hown7.mono HB6x.out.size, HB7x.out⟩
             clear hb7 hown7
             simp only))
      all_goals
        go_wp2_with fail
        go_meet
        case rel => exact HE.out
    case rest =>
    obtain ⟨rfl, htold, hb11⟩ := hcut
    have HB11 := Lib.hid (below_next HBW.out (below_next HB10.out hb11))
    have k1 : wc.cell? ⟨g9, n * 16 + 10, none⟩ = some (.int .i64 c) := (hb11.cell (p := ⟨g9, n * 16 + 10, none⟩) hg10).trans HT5.out
    have HTold := Lib.hid htold
    have HPwc := Lib.hid ((HPW.out.below HB10.out).below hb11)
    have e1 : ((mP : Int) + 1 == 0) = false := beq_eq_false_iff_ne.2 (by omega)
    clear htold hb11 HT5 hg10
    by_cases h0 : c = 0
    · obtain ⟨ha, hp⟩ := HCase.out.1 h0
      subst h0 ha
      rw [hp] at HTold
      clear hp
      go_wp2_with fail
      refine (sameTexts_yes _ _ _ _ HTold.out.texts HPwc.out.texts).mono ?_
      rintro e w9 ⟨rfl, hb12⟩
      have HB12 := Lib.hid (below_next HB11.out hb12)
      clear hb12
      go_wp2
      go_ret
      exact ⟨rfl, HB12.out⟩
    · obtain ⟨ha, hb⟩ := HCase.out.2 h0
      have f1 : (c == 0) = false := beq_eq_false_iff_ne.2 h0
      have f2 : (c != 0) = true := by simp [h0]
      subst ha hb
      clear h0
      go_wp2
      go_ret
      exact ⟨rfl, HB11.out⟩
  · have hmin : min 40 n = 40 := by omega
    rw [hmin]
    go_wp2
    go_ret
    exact ⟨rfl, HB2.out⟩
end
end Go.Proofs.YtcgpmnlondnbhaaDoor
