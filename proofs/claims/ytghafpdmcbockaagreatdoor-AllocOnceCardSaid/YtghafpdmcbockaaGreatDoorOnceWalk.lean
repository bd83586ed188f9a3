/-
  AllocOnce: the walk.
-/
import Derived.Test.YtghafpdmcbockaaGreatDoorAllocMem
namespace Go.Proofs.YtghafpdmcbockaaGreatDoor
open Go Go.RowKit Txt Sp

section
set_option maxHeartbeats 8000000
set_option maxRecDepth 20000 in
theorem once_any (w : World) (g : Sp.Geom) (v : Value) (l : List (Int × Int × Value × Value)) (ha : ActsAt w v l) :
    Calls Tryz.prog 4 #[gV g, v] w fun e w' => e = .returned (.bool true) ∧ Below w.heap.size w w' := by
  obtain ⟨ad, len, cap, rfl, HN, hn2, HF⟩ := RowAt.facts ha.1
  have hsm := fun W : World => small_any W g
  have hgok := smallG_ok g
  obtain ⟨⟨bg0, bg1⟩, ⟨bi0, bi1⟩, bb0, bb1⟩ := smallG_bd g
  have hwk := works15_any
  have hld := fun W : World => laid_any W hgok
  have hheld := fresh_held (node := 0) (epoch := 0) hgok
  obtain ⟨gs, hgs⟩ : ∃ x, smallG g = x := ⟨_, rfl⟩
  rw [hgs] at hsm hgok bg0 bg1 bi0 bi1 bb0 bb1 hld hheld
  obtain ⟨S0, hS0⟩ : ∃ S, freshSide gs 0 0 = S := ⟨_, rfl⟩
  rw [hS0] at hld hheld
  have hact : ∀ x ∈ l, (∃ (a : Option Addr) (n c : Nat), x.2.2.1 = .slice a n c) ∧ ∃ (a : Option Addr) (n c : Nat), x.2.2.2 = .slice a n c := fun x hx => by
    obtain ⟨⟨G', a1, c1, e1, _⟩, A', a2, c2, e2, _⟩ := ha.2 x hx
    exact ⟨⟨a1, _, c1, e1⟩, a2, _, c2, e2⟩
  have HAct := Lib.hid hact
  clear hgs hS0 ha hact
  obtain ⟨ga, gb, gc⟩ := gs
  simp only at bg0 bg1 bi0 bi1 bb0 bb1
  obtain ⟨G, rfl⟩ : ∃ G : Nat, ga = (G : Int) := ⟨ga.toNat, by omega⟩
  obtain ⟨I, rfl⟩ : ∃ G : Nat, gb = (G : Int) := ⟨gb.toNat, by omega⟩
  obtain ⟨C, rfl⟩ : ∃ G : Nat, gc = (G : Int) := ⟨gc.toNat, by omega⟩
  obtain ⟨ga, gb, gc⟩ := g
  have hqd := eql_disk_nil
  have hqs := eql_soft_nil
  have hmm := @run_makeMap Tryz.prog
  unfold gV at hsm hld ⊢
  unfold pt at hld
  dsimp only at hsm hld ⊢
  obtain ⟨W0, hW0⟩ : ∃ W, w.alloc (.cells #[.int .i64 ga, .int .i64 gb, .int .i64 gc] 23) = W := ⟨_, rfl⟩
  have HB0 : Hid (Below w.heap.size w W0) := by rw [← hW0]; exact bl2 _
  have HG0 : Hid (W0.heap[w.heap.size]? = some (.cells #[.int .i64 ga, .int .i64 gb, .int .i64 gc] 23 (0, 0))) := by rw [← hW0]; exact heapNew w _
  have HZ0 : Hid (w.heap.size < W0.heap.size) := by rw [← hW0]; show _ < _; simp
  have z0 := cellOf (k := 0) HG0.out rfl
  have z1 := cellOf (k := 1) HG0.out rfl
  have z2 := cellOf (k := 2) HG0.out rfl
  have HSM := Lib.hid hsm
  have HGOK := Lib.hid hgok
  have HLD := Lib.hid hld
  have HHELD := Lib.hid hheld
  have HWK := Lib.hid hwk
  clear hsm hgok hld hheld hwk
  go_enter Tryz.func4, Tryz.ntmps4
  go_wp2_with fail
  clear z0 z1 z2 hW0
  refine (HSM.out _).mono ?_
  rintro e w1 ⟨rfl, hb1⟩
  have hg1 := heapOld hb1 HG0.out
  have hz1 : w.heap.size < w1.heap.size := by have := HZ0.out; have := hb1.size; omega
  have z0 := cellOf (k := 0) hg1 rfl
  have z1 := cellOf (k := 1) hg1 rfl
  have z2 := cellOf (k := 2) hg1 rfl
  have v0 : w1.frozen? ⟨w.heap.size, 0, none⟩ = false := freeOf hg1
  have v1 : w1.frozen? ⟨w.heap.size, 1, none⟩ = false := freeOf hg1
  have v2 : w1.frozen? ⟨w.heap.size, 2, none⟩ = false := freeOf hg1
  obtain ⟨W2, hW2⟩ : ∃ W, (((w1.setCell ⟨w.heap.size, 0, none⟩ (.int .i64 (G : Int))).setCell ⟨w.heap.size, 1, none⟩ (.int .i64 (I : Int))).setCell ⟨w.heap.size, 2, none⟩ (.int .i64 (C : Int))) = W := ⟨_, rfl⟩
  have HB2 : Hid (Below w.heap.size w W2) := by rw [← hW2]; exact sets_below (Nat.le_refl _) [.int .i64 (G : Int), .int .i64 (I : Int), .int .i64 (C : Int)] 0 _ (blN HB0.out hb1)
  have HG2 : Hid (W2.heap[w.heap.size]? = some (.cells #[.int .i64 (G : Int), .int .i64 (I : Int), .int .i64 (C : Int)] 23 (0, 0))) := by rw [← hW2]; exact sets_all (vs := [.int .i64 (G : Int), .int .i64 (I : Int), .int .i64 (C : Int)]) hg1 rfl
  have HZ2 : Hid (w.heap.size < W2.heap.size) := by rw [← hW2]; show _ < _; simp only [World.size_setCell]; exact hz1
  clear hb1 hg1 hz1
  have y0 := cellOf (k := 0) HG2.out rfl
  have y1 := cellOf (k := 1) HG2.out rfl
  have y2 := cellOf (k := 2) HG2.out rfl
  go_wp2_with fail
  clear z0 z1 z2 v0 v1 v2 y0 y1 y2 hW2
  refine (HLD.out _).mono ?_
  rintro e w3 ⟨base, B, Bd, D, rfl, hs3, hb3, hD3⟩
  have HB3 := Lib.hid (blN HB2.out hb3)
  have HG3 := Lib.hid (heapOld hb3 HG2.out)
  have HS3 := Lib.hid hs3
  have HD3 := Lib.hid hD3
  have HZ3 : Hid (w.heap.size < w3.heap.size) := by have := HZ2.out; have := hb3.size; show _ < _; omega
  clear hs3 hb3 hD3
  go_wp2_with fail
  refine (HWK.out _).mono ?_
  rintro e w4 ⟨rfl, hb4⟩
  have HB4 := Lib.hid (blN HB3.out hb4)
  have HG4 := Lib.hid (heapOld hb4 HG3.out)
  have HS4 := Lib.hid (HS3.out.below hb4)
  have HZ4 : Hid (w.heap.size < w4.heap.size) := by have := HZ3.out; have := hb4.size; show _ < _; omega
  have HD4 : Hid (∀ j, D j → w.heap.size < j ∧ j < w4.heap.size) := fun j hj => by have := HD3.out j hj; have := HZ2.out; have := hb4.size; omega
  clear hb4
  obtain ⟨W5, hW5⟩ : ∃ W, w4.alloc (.map #[] 0) = W := ⟨_, rfl⟩
  have hm5 : IM.MapAt boolV W5 w4.heap.size (onesE []) := by rw [← hW5]; exact ⟨_, heap_alloc_new w4 _, IM.IsMap.new⟩
  obtain ⟨o1, hup, ho1⟩ := ones_update hm5 (n := 1) (by simp)
  obtain ⟨W6, hW6⟩ : ∃ W, ChangeMaps.setBlock W5 w4.heap.size o1 = W := ⟨_, rfl⟩
  rw [hW6] at hup
  have hs5 : W5.heap.size = w4.heap.size + 1 := by rw [← hW5]; simp
  have hs6 : W6.heap.size = w4.heap.size + 1 := by rw [← hW6, IM.size_setBlock]; exact hs5
  have hT6 : Turn (fun j => j = w4.heap.size) w4 W6 := by rw [← hW6]; exact (Turn.of_below (by rw [← hW5]; exact bl2 _)).trans setBlock_turn (fun _ _ h => h) (fun _ _ h => h)
  obtain ⟨W7, hW7⟩ : ∃ W, W6.alloc (.map #[] 0) = W := ⟨_, rfl⟩
  have hb7 : Below W6.heap.size W6 W7 := by rw [← hW7]; exact bl2 _
  have hs7 : W7.heap.size = w4.heap.size + 2 := by rw [← hW7]; simp [hs6]
  have HM7 : Hid (OMem w ⟨G, I, C⟩ base B Bd w4.heap.size W6.heap.size (.slice none 0 0) [] S0 [1] [] D W7) := by
    have hd := HD4.out
    have hz := HZ4.out
    refine ⟨(HS4.out.turn hT6 (fun k hk e => by have := (hd k hk).2; omega)).below hb7, fun j hj => by have := hd j hj; omega, fun j hj => by have := hd j hj; omega, fun h => by have := hd _ h; omega, fun h => by have := hd _ h; omega, fun h => by have := hd _ h; omega, (fun b hb => by cases hb), ?_, ?_, by omega, ⟨by omega, by omega⟩, heapOld hb7 (hT6.heap HG4.out (by omega)), OwnR.void _ _, ?_⟩
    · refine ⟨o1, heapOld hb7 ?_, ho1⟩
      rw [← hW6]
      exact IM.heap_setBlock_at (by omega)
    · rw [← hW7]
      exact ⟨_, heap_alloc_new W6 _, IM.IsMap.new⟩
    · exact (HB4.out.trans (hT6.below (fun j e => by omega) (by omega))).trans (hb7.mono (by omega))
  have HDlt : Hid ((∀ j, D j → j < W7.heap.size) ∧ w4.heap.size < W7.heap.size ∧ W6.heap.size < W7.heap.size) := ⟨HM7.out.lt, by omega, by omega⟩
  clear hs5 hs6 hs7 hT6 hb7 ho1 hm5
  obtain ⟨y0, y1, y2⟩ := HM7.out.cells
  go_wp2
  clear y0 y1 y2 hup hW5 hW6 hW7
  obtain ⟨M1, hM1⟩ : ∃ m, w4.heap.size = m := ⟨_, rfl⟩
  obtain ⟨M2, hM2⟩ : ∃ m, W6.heap.size = m := ⟨_, rfl⟩
  rw [hM1, hM2] at HM7 HDlt ⊢
  clear hM1 hM2 HS4 HG4 HD4 HB4 HZ4 HS3 HG3 HD3 HB3 HZ3 HG2 HB2 HZ2 HG0 HB0 HZ0
  go_loopw [9, 52] (fun out q wr => ∃ k : Nat, k ≤ G ∧ q = .int .i64 (k : Int) ∧ Hid (OwnR 3 1 intC W7.heap.size wr out (groupsL k)) ∧ Hid (Below W7.heap.size W7 wr)) (fun _ q _ => G - (intOf q).toNat)
  case atStart => exact ⟨0, Nat.zero_le _, rfl, OwnR.void _ _, Below.refl _ _⟩
  case round =>
    obtain ⟨k, hk, rfl, HO, HB⟩ := hrel
    by_cases hlt : k < G
    · have hll : (groupsL k).length ≤ 3 := by rw [groupsL_length]; omega
      go_upto_region 10 with fail
      obtain ⟨ia6, ib6, ic6, id6, ie6⟩ := info_parts infoInt
      have hrow6 := HO.out
      unfold OwnR at hrow6
      have HRow6 := Lib.hid hrow6
      clear hrow6
      have HIb6 := Lib.hid ib6
      have HIc6 := Lib.hid ic6
      have HId6 := Lib.hid id6
      have HIe6 := Lib.hid ie6
      clear ib6 ic6 id6 ie6
      go_wp2_with (at_builtin; refine wpList_append_lies _ rfl _ _ _ rfl W7.heap.size 3 ia6 _ 1 8 Tryz.underlying30 HIb6.out HIc6.out HId6.out HIe6.out rfl (by decide) _ _ _ rfl (HRow6.out.alloc _) ⟨wr.heap.size, 0, none⟩ 1 1 [.int .i64 (k : Int)] rfl rfl (World.news_of_block (cs := #[.int .i64 (k : Int)]) (t := 3) (fr := (0, 0)) (heapNew wr _)) (by simp [Value.oneCell']) (by omega) ?c1 ?c2 ?c3 (wr.heap.size + 1) (by simp) ?_)
      case c1 => unfold maxLen; omega
      case c2 => omega
      case c3 => have := HB.out.size; simp; omega
      intro g6 cap6 w6 hown6 hgrow6 hat6 hlt6
      have HO6 := Lib.hid (OwnR.snoc (f := intC) (x := (k:Int)) hown6 rfl rfl)
      have HB6 : Hid (Below W7.heap.size _ w6) := Below.grown (bl1 HB.out _) hgrow6 (bl1 HB.out _).size (fun q hq => (HRow6.out.lt q hq).1)
      clear hown6 hgrow6 hat6 hlt6 HRow6
      go_wp2
      go_roundw
      case rel => exact ⟨k + 1, by omega, by go_num, by rw [groupsL_snoc]; exact HO6, HB6⟩
      case measure => simp [intOf]; omega
    · obtain rfl : k = G := by omega
      have HMs : Hid (OMem w ⟨k, I, C⟩ base B Bd M1 M2 u9 (groupsL k) S0 [1] [] D wr) := (HM7.out.below HB.out).row HO.out HDlt.out.1 HDlt.out.2.1 HDlt.out.2.2
      clear HM7 HDlt HO HB hk hlt
      go_wp2
      go_loopw [11] (fun i wr => ∃ (j : Nat) (S : Sp.Side) (X Y : List Int) (D : Nat → Prop), j ≤ len ∧ j ≤ 60 ∧ i = .int .i64 (j : Int) ∧ Hid (Held S ⟨k, I, C⟩ X Y j) ∧ Hid (OMem w ⟨k, I, C⟩ base B Bd M1 M2 u9 (groupsL k) S X Y D wr)) (fun i _ => len - (intOf i).toNat)
      case atStart => exact ⟨0, S0, [1], [], D, Nat.zero_le _, Nat.zero_le _, rfl, HHELD, HMs⟩
      case round =>
        clear HMs HHELD
        obtain ⟨j, S, X, Y, D, hj, hj60, rfl, HH, HM⟩ := hrel
        by_cases hlt : j < len ∧ j < 60
        · obtain ⟨hl1, hl2⟩ := hlt
          obtain ⟨b, o, x, rfl, hb, hx, hc⟩ := HF.out j hl1
          obtain ⟨⟨ga1, gn1, gc1, hga1⟩, ga2, gn2, gc2, hga2⟩ := HAct.out x (List.mem_of_getElem? hx)
          obtain ⟨xk, xn, xg, xa⟩ := x
          simp only at hga1 hga2
          subst hga1
          subst hga2
          have c0 := (HM.out.bel.cell (p := ⟨b, o + j * 4 + 0, none⟩) hb).trans (hc 0 _ rfl)
          have c1 := (HM.out.bel.cell (p := ⟨b, o + j * 4 + 1, none⟩) hb).trans (hc 1 _ rfl)
          have c2 := (HM.out.bel.cell (p := ⟨b, o + j * 4 + 2, none⟩) hb).trans (hc 2 _ rfl)
          have c3 := (HM.out.bel.cell (p := ⟨b, o + j * 4 + 3, none⟩) hb).trans (hc 3 _ rfl)
          simp only [Nat.add_zero] at c0
          dsimp only at c0 c1 c2 c3
          clear hc hb hx
          have ha1 := fun W : World => amongJ_any W xn k (by omega) (by omega)
          have ha2 := fun W : World => show Calls Tryz.prog 14 #[.int .i64 xk, .int .i64 4] W (fun e w' => e = .returned (.int .i64 (amongJ xk 4)) ∧ w' = W) from amongJ_any W xk 4 (by decide) (by decide)
          have hr1 := amongJ_bd xn k (by omega)
          have hr2 := amongJ_bd xk 4 (by decide)
          obtain ⟨gr, hgr⟩ : ∃ z, amongJ xn k = z := ⟨_, rfl⟩
          obtain ⟨q, hq⟩ : ∃ z, amongJ xk 4 = z := ⟨_, rfl⟩
          rw [hgr] at ha1 hr1
          rw [hq] at ha2 hr2
          have HA1 := Lib.hid ha1
          have HA2 := Lib.hid ha2
          clear ha1 ha2
          obtain ⟨W5, hW5⟩ : ∃ W, wr.alloc (.cells #[.int .i64 xk, .int .i64 xn, .slice ga1 gn1 gc1, .slice ga2 gn2 gc2] 42) = W := ⟨_, rfl⟩
          have hb5 : Below wr.heap.size wr W5 := by rw [← hW5]; exact bl2 _
          have HM5 := Lib.hid (HM.out.below hb5)
          have HA5 : Hid (W5.heap[wr.heap.size]? = some (.cells #[.int .i64 xk, .int .i64 xn, .slice ga1 gn1 gc1, .slice ga2 gn2 gc2] 42 (0, 0))) := by rw [← hW5]; exact heapNew wr _
          have x0 := cellOf (k := 0) HA5.out rfl
          have x1 := cellOf (k := 1) HA5.out rfl
          obtain ⟨y0, y1, y2⟩ := HM5.out.cells
          clear hb5 hgr hq
          go_wp2_with fail
          refine (HA1.out _).mono ?_
          rintro e w6 ⟨rfl, hw6⟩
          replace hw6 := hw6.symm
          subst hw6
          go_wp2_with fail
          refine (HA2.out _).mono ?_
          rintro e w6 ⟨rfl, hw6⟩
          replace hw6 := hw6.symm
          subst hw6
          clear x0 x1 c0 c1 c2 c3 hW5 y0 y1 y2
          have hq4 : q = 0 ∨ q = 1 ∨ q = 2 ∨ q = 3 := by omega
          clear hr2 HA1 HA2
          rcases hq4 with rfl | rfl | rfl | rfl
          · as_aux_lemma =>
              obtain ⟨W6, hW6⟩ : ∃ W, W5.alloc (.cells #[.int .i64 gr] 3) = W := ⟨_, rfl⟩
              have hb6 : Below W5.heap.size W5 W6 := by rw [← hW6]; exact bl2 _
              have HM6 := Lib.hid (HM5.out.below hb6)
              have hkq : ∀ q ∈ [gr], 0 ≤ q ∧ q < (⟨k, I, C⟩ : Sp.Geom).groups := by intro q hq; rw [List.mem_singleton] at hq; subst hq; exact hr1
              have hgi := ainode_any HM6.out.side HM6.out.lt HH.out.ok (by have := HH.out.last; omega) HGOK.out _ [gr] (ints_one (by rw [← hW6]; exact heapNew W5 _)) hkq
              have hcs := HH.out.inode HGOK.out (by omega) hkq
              unfold GotPost gV pt at hgi
              dsimp only at hgi
              obtain ⟨y0, y1, y2⟩ := HM5.out.cells
              clear hb6 hkq
              rcases hcs with ⟨kk, hkk, p, hp, hx, S', c, he, hh⟩ | ⟨he, -⟩
              · rw [List.mem_singleton] at hkk
                subst hkk
                rw [he] at hgi
                dsimp only at hgi
                obtain ⟨N, hN⟩ : ∃ N, inodeNo ⟨k, I, C⟩ kk p = N := ⟨_, rfl⟩
                rw [hN] at hgi hh hx
                have hN2 : kk * (I : Int) + p + 1 = N := hN
                have hp : (p : Int) < (I : Int) := hp
                have q0 : 0 ≤ kk * (I : Int) := Int.mul_nonneg hr1.1 (by omega)
                have q9 : kk * (I : Int) ≤ 3 * 6 := Int.mul_le_mul (by omega) (by omega) (by omega) (by omega)
                have q1 : IntKind.i64.wrap (N - 1) = N - 1 := IntWalk.i64_in _ (by omega)
                have q2 : (N - 1).tdiv (I : Int) = kk := by
                  rw [Int.tdiv_eq_ediv_of_nonneg (by omega), show N - 1 = p + kk * (I : Int) by omega, Int.add_mul_ediv_right _ _ (by omega), Int.ediv_eq_zero_of_lt (by omega) (by omega)]
                  omega
                have q3 : ¬ (I : Int) = 0 := by omega
                have q4 : ((I : Int) == 0) = false := beq_eq_false_iff_ne.2 q3
                have q5 : IntKind.i64.wrap kk = kk := IntWalk.i64_in _ (by omega)
                clear hN2 q0 q9
                have HGI := Lib.hid hgi
                clear hgi
                clear hN hp he
                go_wp2_with fail
                clear y0 y1 y2
                refine HGI.out.mono ?_
                rintro e w7 ⟨rfl, hs7⟩
                have HM7 := Lib.hid (HM6.out.to hs7)
                obtain ⟨x0, x1, x2⟩ := HM7.out.cells
                have lk := ones_lookup HM7.out.mi N
                rw [decide_eq_false hx] at lk
                obtain ⟨o', hup, ho'⟩ := ones_update HM7.out.mi hx
                obtain ⟨wt, hwt⟩ : ∃ W, ChangeMaps.setBlock w7 M1 o' = W := ⟨_, rfl⟩
                rw [hwt] at hup
                obtain ⟨XX, hXX⟩ : ∃ z, X ++ [N] = z := ⟨_, rfl⟩
                rw [hXX] at hh ho'
                have hmt := HM7.out.set1 ho'
                rw [hwt] at hmt
                have HMt := Lib.hid hmt
                have HHt := Lib.hid hh
                obtain ⟨YY, hYY⟩ : ∃ z, Y = z := ⟨_, rfl⟩
                rw [hYY] at HMt HHt
                clear hs7 ho' hwt hmt hh hXX hYY hx hW6
                as_aux_lemma =>
                  have HIN : Hid (∀ W : World, Calls Tryz.prog 12 #[.agg #[.int .i64 (k : Int), .int .i64 (I : Int), .int .i64 (C : Int)]] W fun e w' => e = .returned (.int .i64 ((k : Int) * (I : Int))) ∧ Below W.heap.size W w') := fun W => by
                    have h := ginodes_any W ⟨k, I, C⟩
                    rw [Geom.many_ok HGOK.out] at h
                    exact h
                  have hfr := held_free HHt.out HGOK.out (groupsL_mem k) (groupsL_nodup k) (by rw [groupsL_length])
                  have hbd := held_bd HHt.out HGOK.out
                  have hfc := afree_any HMt.out.side HHt.out.ok HGOK.out u9 (groupsL k) HMt.out.ints (fun q hq => (groupsL_mem k q).1 hq) hfr (by rw [groupsL_length]; omega)
                  unfold gV pt at hfc
                  dsimp only at hfc hbd
                  have p1 : (k : Int) * (I : Int) ≤ 3 * 6 := Int.mul_le_mul (by omega) (by omega) (by omega) (by omega)
                  have p2 : (k : Int) * (C : Int) ≤ 3 * 9 := Int.mul_le_mul (by omega) (by omega) (by omega) (by omega)
                  have e1 : IntKind.i64.wrap ((k : Int) * (I : Int) - (XX.length : Int)) = (k : Int) * (I : Int) - (XX.length : Int) := IntWalk.i64_in _ (by omega)
                  have e2 : IntKind.i64.wrap ((k : Int) * (C : Int) - (YY.length : Int)) = (k : Int) * (C : Int) - (YY.length : Int) := IntWalk.i64_in _ (by omega)
                  have e3 : IntKind.i64.wrap ((k : Int) * (C : Int)) = (k : Int) * (C : Int) := IntWalk.i64_in _ (by omega)
                  have HFC := Lib.hid hfc
                  clear hfr hbd hfc p1 p2
                  obtain ⟨y0, y1, y2⟩ := HMt.out.cells
                  go_wp2_with fail
                  clear y0 y1 y2
                  refine HFC.out.mono ?_
                  rintro e w9 ⟨rfl, hb9⟩
                  have HM9 := Lib.hid (HMt.out.below hb9)
                  clear hb9
                  obtain ⟨y0, y1, y2⟩ := HM9.out.cells
                  go_wp2_with fail
                  clear y0 y1 y2
                  refine (HIN.out _).mono ?_
                  rintro e w10 ⟨rfl, hb10⟩
                  have HM10 := Lib.hid (HM9.out.below hb10)
                  clear hb10
                  obtain ⟨y0, y1, y2⟩ := HM10.out.cells
                  have l1 := fun ty => ones_len (ty := ty) HM10.out.mi
                  have l2 := fun ty => ones_len (ty := ty) HM10.out.mb
                  go_wp2
                  clear y0 y1 y2 l1 l2
                  go_roundw
                  case rel => exact ⟨j + 1, _, XX, YY, _, by omega, by omega, by go_num, HHt, HM10⟩
                  case measure => simp [intOf]; omega
              · rw [he] at hgi
                dsimp only at hgi
                have HGI := Lib.hid hgi
                clear hgi
                clear he
                go_wp2_with fail
                clear y0 y1 y2
                refine HGI.out.mono ?_
                rintro e wt ⟨rfl, hs7⟩
                have HMt := Lib.hid (HM6.out.to hs7)
                have HHt := Lib.hid (held_up HH.out)
                obtain ⟨XX, hXX⟩ : ∃ z, X = z := ⟨_, rfl⟩
                obtain ⟨YY, hYY⟩ : ∃ z, Y = z := ⟨_, rfl⟩
                rw [hXX, hYY] at HMt HHt
                clear hs7 hXX hYY hW6
                as_aux_lemma =>
                  have HIN : Hid (∀ W : World, Calls Tryz.prog 12 #[.agg #[.int .i64 (k : Int), .int .i64 (I : Int), .int .i64 (C : Int)]] W fun e w' => e = .returned (.int .i64 ((k : Int) * (I : Int))) ∧ Below W.heap.size W w') := fun W => by
                    have h := ginodes_any W ⟨k, I, C⟩
                    rw [Geom.many_ok HGOK.out] at h
                    exact h
                  have hfr := held_free HHt.out HGOK.out (groupsL_mem k) (groupsL_nodup k) (by rw [groupsL_length])
                  have hbd := held_bd HHt.out HGOK.out
                  have hfc := afree_any HMt.out.side HHt.out.ok HGOK.out u9 (groupsL k) HMt.out.ints (fun q hq => (groupsL_mem k q).1 hq) hfr (by rw [groupsL_length]; omega)
                  unfold gV pt at hfc
                  dsimp only at hfc hbd
                  have p1 : (k : Int) * (I : Int) ≤ 3 * 6 := Int.mul_le_mul (by omega) (by omega) (by omega) (by omega)
                  have p2 : (k : Int) * (C : Int) ≤ 3 * 9 := Int.mul_le_mul (by omega) (by omega) (by omega) (by omega)
                  have e1 : IntKind.i64.wrap ((k : Int) * (I : Int) - (XX.length : Int)) = (k : Int) * (I : Int) - (XX.length : Int) := IntWalk.i64_in _ (by omega)
                  have e2 : IntKind.i64.wrap ((k : Int) * (C : Int) - (YY.length : Int)) = (k : Int) * (C : Int) - (YY.length : Int) := IntWalk.i64_in _ (by omega)
                  have e3 : IntKind.i64.wrap ((k : Int) * (C : Int)) = (k : Int) * (C : Int) := IntWalk.i64_in _ (by omega)
                  have HFC := Lib.hid hfc
                  clear hfr hbd hfc p1 p2
                  obtain ⟨y0, y1, y2⟩ := HMt.out.cells
                  go_wp2_with fail
                  clear y0 y1 y2
                  refine HFC.out.mono ?_
                  rintro e w9 ⟨rfl, hb9⟩
                  have HM9 := Lib.hid (HMt.out.below hb9)
                  clear hb9
                  obtain ⟨y0, y1, y2⟩ := HM9.out.cells
                  go_wp2_with fail
                  clear y0 y1 y2
                  refine (HIN.out _).mono ?_
                  rintro e w10 ⟨rfl, hb10⟩
                  have HM10 := Lib.hid (HM9.out.below hb10)
                  clear hb10
                  obtain ⟨y0, y1, y2⟩ := HM10.out.cells
                  have l1 := fun ty => ones_len (ty := ty) HM10.out.mi
                  have l2 := fun ty => ones_len (ty := ty) HM10.out.mb
                  go_wp2
                  clear y0 y1 y2 l1 l2
                  go_roundw
                  case rel => exact ⟨j + 1, _, XX, YY, _, by omega, by omega, by go_num, HHt, HM10⟩
                  case measure => simp [intOf]; omega
          · as_aux_lemma =>
              obtain ⟨W6, hW6⟩ : ∃ W, W5.alloc (.cells #[.int .i64 gr] 3) = W := ⟨_, rfl⟩
              have hb6 : Below W5.heap.size W5 W6 := by rw [← hW6]; exact bl2 _
              have HM6 := Lib.hid (HM5.out.below hb6)
              have hkq : ∀ q ∈ [gr], 0 ≤ q ∧ q < (⟨k, I, C⟩ : Sp.Geom).groups := by intro q hq; rw [List.mem_singleton] at hq; subst hq; exact hr1
              have hgi := ablock_any HM6.out.side HM6.out.lt HH.out.ok (by have := HH.out.last; omega) HGOK.out _ [gr] (ints_one (by rw [← hW6]; exact heapNew W5 _)) hkq
              have hcs := HH.out.block HGOK.out (by omega) hkq
              unfold GotPost gV pt at hgi
              dsimp only at hgi
              obtain ⟨y0, y1, y2⟩ := HM5.out.cells
              clear hb6 hkq
              rcases hcs with ⟨kk, hkk, p, hp, hx, S', c, he, hh⟩ | ⟨he, -⟩
              · rw [List.mem_singleton] at hkk
                subst hkk
                rw [he] at hgi
                dsimp only at hgi
                obtain ⟨N, hN⟩ : ∃ N, blockNo ⟨k, I, C⟩ kk p = N := ⟨_, rfl⟩
                rw [hN] at hgi hh hx
                have HGI := Lib.hid hgi
                clear hgi
                clear hN hp he
                go_wp2_with fail
                clear y0 y1 y2
                refine HGI.out.mono ?_
                rintro e w7 ⟨rfl, hs7⟩
                have HM7 := Lib.hid (HM6.out.to hs7)
                obtain ⟨x0, x1, x2⟩ := HM7.out.cells
                have lk := ones_lookup HM7.out.mb N
                rw [decide_eq_false hx] at lk
                obtain ⟨o', hup, ho'⟩ := ones_update HM7.out.mb hx
                obtain ⟨wt, hwt⟩ : ∃ W, ChangeMaps.setBlock w7 M2 o' = W := ⟨_, rfl⟩
                rw [hwt] at hup
                obtain ⟨YY, hXX⟩ : ∃ z, Y ++ [N] = z := ⟨_, rfl⟩
                rw [hXX] at hh ho'
                have hmt := HM7.out.set2 ho'
                rw [hwt] at hmt
                have HMt := Lib.hid hmt
                have HHt := Lib.hid hh
                obtain ⟨XX, hYY⟩ : ∃ z, X = z := ⟨_, rfl⟩
                rw [hYY] at HMt HHt
                clear hs7 ho' hwt hmt hh hXX hYY hx hW6
                as_aux_lemma =>
                  have HIN : Hid (∀ W : World, Calls Tryz.prog 12 #[.agg #[.int .i64 (k : Int), .int .i64 (I : Int), .int .i64 (C : Int)]] W fun e w' => e = .returned (.int .i64 ((k : Int) * (I : Int))) ∧ Below W.heap.size W w') := fun W => by
                    have h := ginodes_any W ⟨k, I, C⟩
                    rw [Geom.many_ok HGOK.out] at h
                    exact h
                  have hfr := held_free HHt.out HGOK.out (groupsL_mem k) (groupsL_nodup k) (by rw [groupsL_length])
                  have hbd := held_bd HHt.out HGOK.out
                  have hfc := afree_any HMt.out.side HHt.out.ok HGOK.out u9 (groupsL k) HMt.out.ints (fun q hq => (groupsL_mem k q).1 hq) hfr (by rw [groupsL_length]; omega)
                  unfold gV pt at hfc
                  dsimp only at hfc hbd
                  have p1 : (k : Int) * (I : Int) ≤ 3 * 6 := Int.mul_le_mul (by omega) (by omega) (by omega) (by omega)
                  have p2 : (k : Int) * (C : Int) ≤ 3 * 9 := Int.mul_le_mul (by omega) (by omega) (by omega) (by omega)
                  have e1 : IntKind.i64.wrap ((k : Int) * (I : Int) - (XX.length : Int)) = (k : Int) * (I : Int) - (XX.length : Int) := IntWalk.i64_in _ (by omega)
                  have e2 : IntKind.i64.wrap ((k : Int) * (C : Int) - (YY.length : Int)) = (k : Int) * (C : Int) - (YY.length : Int) := IntWalk.i64_in _ (by omega)
                  have e3 : IntKind.i64.wrap ((k : Int) * (C : Int)) = (k : Int) * (C : Int) := IntWalk.i64_in _ (by omega)
                  have HFC := Lib.hid hfc
                  clear hfr hbd hfc p1 p2
                  obtain ⟨y0, y1, y2⟩ := HMt.out.cells
                  go_wp2_with fail
                  clear y0 y1 y2
                  refine HFC.out.mono ?_
                  rintro e w9 ⟨rfl, hb9⟩
                  have HM9 := Lib.hid (HMt.out.below hb9)
                  clear hb9
                  obtain ⟨y0, y1, y2⟩ := HM9.out.cells
                  go_wp2_with fail
                  clear y0 y1 y2
                  refine (HIN.out _).mono ?_
                  rintro e w10 ⟨rfl, hb10⟩
                  have HM10 := Lib.hid (HM9.out.below hb10)
                  clear hb10
                  obtain ⟨y0, y1, y2⟩ := HM10.out.cells
                  have l1 := fun ty => ones_len (ty := ty) HM10.out.mi
                  have l2 := fun ty => ones_len (ty := ty) HM10.out.mb
                  go_wp2
                  clear y0 y1 y2 l1 l2
                  go_roundw
                  case rel => exact ⟨j + 1, _, XX, YY, _, by omega, by omega, by go_num, HHt, HM10⟩
                  case measure => simp [intOf]; omega
              · rw [he] at hgi
                dsimp only at hgi
                have HGI := Lib.hid hgi
                clear hgi
                clear he
                go_wp2_with fail
                clear y0 y1 y2
                refine HGI.out.mono ?_
                rintro e wt ⟨rfl, hs7⟩
                have HMt := Lib.hid (HM6.out.to hs7)
                have HHt := Lib.hid (held_up HH.out)
                obtain ⟨XX, hXX⟩ : ∃ z, X = z := ⟨_, rfl⟩
                obtain ⟨YY, hYY⟩ : ∃ z, Y = z := ⟨_, rfl⟩
                rw [hXX, hYY] at HMt HHt
                clear hs7 hXX hYY hW6
                as_aux_lemma =>
                  have HIN : Hid (∀ W : World, Calls Tryz.prog 12 #[.agg #[.int .i64 (k : Int), .int .i64 (I : Int), .int .i64 (C : Int)]] W fun e w' => e = .returned (.int .i64 ((k : Int) * (I : Int))) ∧ Below W.heap.size W w') := fun W => by
                    have h := ginodes_any W ⟨k, I, C⟩
                    rw [Geom.many_ok HGOK.out] at h
                    exact h
                  have hfr := held_free HHt.out HGOK.out (groupsL_mem k) (groupsL_nodup k) (by rw [groupsL_length])
                  have hbd := held_bd HHt.out HGOK.out
                  have hfc := afree_any HMt.out.side HHt.out.ok HGOK.out u9 (groupsL k) HMt.out.ints (fun q hq => (groupsL_mem k q).1 hq) hfr (by rw [groupsL_length]; omega)
                  unfold gV pt at hfc
                  dsimp only at hfc hbd
                  have p1 : (k : Int) * (I : Int) ≤ 3 * 6 := Int.mul_le_mul (by omega) (by omega) (by omega) (by omega)
                  have p2 : (k : Int) * (C : Int) ≤ 3 * 9 := Int.mul_le_mul (by omega) (by omega) (by omega) (by omega)
                  have e1 : IntKind.i64.wrap ((k : Int) * (I : Int) - (XX.length : Int)) = (k : Int) * (I : Int) - (XX.length : Int) := IntWalk.i64_in _ (by omega)
                  have e2 : IntKind.i64.wrap ((k : Int) * (C : Int) - (YY.length : Int)) = (k : Int) * (C : Int) - (YY.length : Int) := IntWalk.i64_in _ (by omega)
                  have e3 : IntKind.i64.wrap ((k : Int) * (C : Int)) = (k : Int) * (C : Int) := IntWalk.i64_in _ (by omega)
                  have HFC := Lib.hid hfc
                  clear hfr hbd hfc p1 p2
                  obtain ⟨y0, y1, y2⟩ := HMt.out.cells
                  go_wp2_with fail
                  clear y0 y1 y2
                  refine HFC.out.mono ?_
                  rintro e w9 ⟨rfl, hb9⟩
                  have HM9 := Lib.hid (HMt.out.below hb9)
                  clear hb9
                  obtain ⟨y0, y1, y2⟩ := HM9.out.cells
                  go_wp2_with fail
                  clear y0 y1 y2
                  refine (HIN.out _).mono ?_
                  rintro e w10 ⟨rfl, hb10⟩
                  have HM10 := Lib.hid (HM9.out.below hb10)
                  clear hb10
                  obtain ⟨y0, y1, y2⟩ := HM10.out.cells
                  have l1 := fun ty => ones_len (ty := ty) HM10.out.mi
                  have l2 := fun ty => ones_len (ty := ty) HM10.out.mb
                  go_wp2
                  clear y0 y1 y2 l1 l2
                  go_roundw
                  case rel => exact ⟨j + 1, _, XX, YY, _, by omega, by omega, by go_num, HHt, HM10⟩
                  case measure => simp [intOf]; omega
          · as_aux_lemma =>
              have HS5 : Hid (∀ W, Below W5.heap.size W5 W → W.cell? ⟨w.heap.size, 0, none⟩ = some (.int .i64 (k : Int)) ∧ W.cell? ⟨w.heap.size, 1, none⟩ = some (.int .i64 (I : Int)) ∧ W.cell? ⟨w.heap.size, 2, none⟩ = some (.int .i64 (C : Int)) ∧ W.cell? ⟨wr.heap.size, 1, none⟩ = some (.int .i64 xn)) := fun W hW => by
                obtain ⟨y0, y1, y2⟩ := (HM5.out.below hW).cells
                exact ⟨y0, y1, y2, cellOf (k := 1) (heapOld hW HA5.out) rfl⟩
              have hS5 := HS5.out W5.drew (blD (Below.refl _ _))
              obtain ⟨P, hP⟩ : ∃ P : Nat, (k : Int) * (I : Int) = (P : Int) := ⟨k * I, by push_cast; rfl⟩
              have hP1 : 1 ≤ P := by
                have := Int.mul_le_mul (a := 1) (c := (k : Int)) (b := 1) (d := (I : Int)) (by omega) (by omega) (by omega) (by omega)
                omega
              have hP2 : P ≤ 18 := by
                have := Int.mul_le_mul (a := (k : Int)) (c := 3) (b := (I : Int)) (d := 6) (by omega) (by omega) (by omega) (by omega)
                omega
              have HINP : Hid (∀ W : World, Calls Tryz.prog 12 #[.agg #[.int .i64 (k : Int), .int .i64 (I : Int), .int .i64 (C : Int)]] W fun e w' => e = .returned (.int .i64 (P : Int)) ∧ Below W.heap.size W w') := fun W => by
                have h := ginodes_any W ⟨k, I, C⟩
                rw [Geom.many_ok HGOK.out] at h
                rw [← hP]
                exact h
              have ha3 := fun W : World => amongJ_any W xn P (by omega) (by omega)
              have hr3 := amongJ_bd xn P (by omega)
              obtain ⟨r, hr⟩ : ∃ z, amongJ xn P = z := ⟨_, rfl⟩
              rw [hr] at ha3 hr3
              have e1 : IntKind.i64.wrap (1 + r) = 1 + r := IntWalk.i64_in _ (by omega)
              obtain ⟨N, hN⟩ : ∃ N, 1 + r = N := ⟨_, rfl⟩
              rw [hN] at e1
              have hcs := HH.out.freeInode HGOK.out (by omega) (n := N) (by omega) (by show N ≤ (k : Int) * (I : Int); omega)
              have HA3 := Lib.hid ha3
              clear ha3
              clear hP hP1 hP2 hr
              go_wp2_with fail
              refine wp_region_held_drew (S := (fun W => W.cell? ⟨w.heap.size, 0, none⟩ = some (.int .i64 (k : Int)) ∧ W.cell? ⟨w.heap.size, 1, none⟩ = some (.int .i64 (I : Int)) ∧ W.cell? ⟨w.heap.size, 2, none⟩ = some (.int .i64 (C : Int)) ∧ W.cell? ⟨wr.heap.size, 1, none⟩ = some (.int .i64 xn))) (by kernel_rfl) (by first | trivial | assumption) (fun hHeld => ?_)
              refine wpAnyH_take (i := 0) (v := ?_) rfl (by kernel_rfl) (by kernel_rfl) (by kernel_rfl) (fun _ _ _ h => h) (Or.inl ⟨by rfl, ?_⟩) hHeld ?_
              rotate_left
              · (intro w hSw; first | (go_simp; done) | (go_simp; with_reducible rfl))
              simp only [Act.put, List.setIfInBounds_toArray, List.set_cons_zero, List.set_cons_succ, List.getElem_toArray, List.getElem_cons_zero]
              refine wpAnyH_take (i := 1) (v := ?_) rfl (by kernel_rfl) (by kernel_rfl) (by kernel_rfl) (fun _ _ _ h => h) (Or.inl ⟨by rfl, ?_⟩) hHeld ?_
              rotate_left
              · (intro w hSw; first | (go_simp; done) | (go_simp; with_reducible rfl))
              simp only [Act.put, List.setIfInBounds_toArray, List.set_cons_zero, List.set_cons_succ, List.getElem_toArray, List.getElem_cons_zero, List.getElem_cons_succ]
              refine wpAnyH_take (i := 2) (v := ?_) rfl (by kernel_rfl) (by kernel_rfl) (by kernel_rfl) (fun _ _ _ h => h) (Or.inl ⟨by rfl, ?_⟩) hHeld ?_
              rotate_left
              · (intro w hSw; first | (go_simp; done) | (go_simp; with_reducible rfl))
              simp only [Act.put, List.setIfInBounds_toArray, List.set_cons_zero, List.set_cons_succ, List.getElem_toArray, List.getElem_cons_zero, List.getElem_cons_succ]
              refine wpAnyH_ready (rs := [3]) (by kernel_rfl) (by simp) ?_
              refine AllReadyH.cons rfl (fun K hK => ?_) AllReadyH.nil
              try simp only [List.getElem_toArray, List.getElem_cons_zero, List.getElem_cons_succ]
              go_simp
              refine (HINP.out _).mono ?_
              rintro e w6 ⟨rfl, hb6⟩
              have HB6 : Hid (Below W5.heap.size W5 w6) := blN (blD (Below.refl _ _)) hb6
              clear hb6
              try simp only
              refine hK.out _ _ ?hkS (fun hHeld => ?_)
              case hkS =>
                exact HS5.out _ HB6.out
              clear hK K
              try simp only [Act.put, List.setIfInBounds_toArray, List.set_cons_zero, List.set_cons_succ]
              refine wpAnyH_ready (rs := [4]) (by kernel_rfl) (by simp) ?_
              refine AllReadyH.cons rfl (fun K hK => ?_) AllReadyH.nil
              try simp only [List.getElem_toArray, List.getElem_cons_zero, List.getElem_cons_succ]
              go_simp
              refine (HA3.out _).mono ?_
              rintro e w7 ⟨rfl, hw7⟩
              replace hw7 := hw7.symm
              subst hw7
              try simp only
              refine hK.out _ _ ?hkS (fun hHeld => ?_)
              case hkS =>
                exact HS5.out _ HB6.out
              clear hK K
              try simp only [Act.put, List.setIfInBounds_toArray, List.set_cons_zero, List.set_cons_succ]
              refine wpAnyH_take (i := 5) (v := ?_) rfl (by kernel_rfl) (by kernel_rfl) (by kernel_rfl) (fun _ _ _ h => h) (Or.inl ⟨by rfl, ?_⟩) hHeld ?_
              rotate_left
              · (intro w hSw; first | (go_simp; done) | (go_simp; with_reducible rfl))
              simp only [Act.put, List.setIfInBounds_toArray, List.set_cons_zero, List.set_cons_succ, List.getElem_toArray, List.getElem_cons_zero, List.getElem_cons_succ]
              refine wpAnyH_take (i := 6) (v := ?_) rfl (by kernel_rfl) (by kernel_rfl) (by kernel_rfl) (fun _ _ _ h => h) (Or.inl ⟨by rfl, ?_⟩) hHeld ?_
              rotate_left
              · (intro w hSw; first | (go_simp; done) | (go_simp; with_reducible rfl))
              simp only [Act.put, List.setIfInBounds_toArray, List.set_cons_zero, List.set_cons_succ, List.getElem_toArray, List.getElem_cons_zero, List.getElem_cons_succ]
              refine wpAnyH_done (by kernel_rfl) ?_ _
              clear hHeld hS5
              have HM6 := Lib.hid (HM5.out.below HB6.out)
              have hgi := afreeInode_any HM6.out.side HH.out.ok (by have := HH.out.last; omega) HGOK.out N (.slice none 0 0) [] (RowAt.void _ 1) (by simp)
              obtain ⟨S', c, e, he, hee, hex, hh⟩ := hcs
              unfold GavePost gV pt at hgi
              rw [he] at hgi
              dsimp only at hgi
              have HGI := Lib.hid hgi
              clear hgi
              clear he hN hr3
              obtain ⟨y0, y1, y2⟩ := HM6.out.cells
              go_wp2_with fail
              clear y0 y1 y2
              refine HGI.out.mono ?_
              rintro e2 w8 ⟨rfl, hs8⟩
              have HM8 := Lib.hid (HM6.out.to hs8)
              have lk := ones_lookup HM8.out.mi N
              obtain ⟨o', hdl, ho'⟩ := ones_delete (ty := 0) HM8.out.mi N
              obtain ⟨wt, hwt⟩ : ∃ W, ChangeMaps.setBlock w8 M1 o' = W := ⟨_, rfl⟩
              rw [hwt] at hdl
              have hmt := HM8.out.set1 ho'
              rw [hwt] at hmt
              have HHt := Lib.hid hh
              have HMt := Lib.hid hmt
              obtain ⟨XX, hXX⟩ : ∃ z, X.filter (fun x => decide (x ≠ N)) = z := ⟨_, rfl⟩
              obtain ⟨YY, hYY⟩ : ∃ z, Y = z := ⟨_, rfl⟩
              rw [hXX, hYY] at HMt HHt
              clear hs8 ho' hwt hmt hh hXX
              by_cases hx : N ∈ X
              · rw [decide_eq_true hx] at lk
                have e0 := hex.2 hx
                clear hx hex hee
                subst e0
                as_aux_lemma =>
                  have HIN : Hid (∀ W : World, Calls Tryz.prog 12 #[.agg #[.int .i64 (k : Int), .int .i64 (I : Int), .int .i64 (C : Int)]] W fun e w' => e = .returned (.int .i64 ((k : Int) * (I : Int))) ∧ Below W.heap.size W w') := fun W => by
                    have h := ginodes_any W ⟨k, I, C⟩
                    rw [Geom.many_ok HGOK.out] at h
                    exact h
                  have hfr := held_free HHt.out HGOK.out (groupsL_mem k) (groupsL_nodup k) (by rw [groupsL_length])
                  have hbd := held_bd HHt.out HGOK.out
                  have hfc := afree_any HMt.out.side HHt.out.ok HGOK.out u9 (groupsL k) HMt.out.ints (fun q hq => (groupsL_mem k q).1 hq) hfr (by rw [groupsL_length]; omega)
                  unfold gV pt at hfc
                  dsimp only at hfc hbd
                  have p1 : (k : Int) * (I : Int) ≤ 3 * 6 := Int.mul_le_mul (by omega) (by omega) (by omega) (by omega)
                  have p2 : (k : Int) * (C : Int) ≤ 3 * 9 := Int.mul_le_mul (by omega) (by omega) (by omega) (by omega)
                  have e1 : IntKind.i64.wrap ((k : Int) * (I : Int) - (XX.length : Int)) = (k : Int) * (I : Int) - (XX.length : Int) := IntWalk.i64_in _ (by omega)
                  have e2 : IntKind.i64.wrap ((k : Int) * (C : Int) - (YY.length : Int)) = (k : Int) * (C : Int) - (YY.length : Int) := IntWalk.i64_in _ (by omega)
                  have e3 : IntKind.i64.wrap ((k : Int) * (C : Int)) = (k : Int) * (C : Int) := IntWalk.i64_in _ (by omega)
                  have HFC := Lib.hid hfc
                  clear hfr hbd hfc p1 p2
                  obtain ⟨y0, y1, y2⟩ := HMt.out.cells
                  go_wp2_with fail
                  clear y0 y1 y2
                  refine HFC.out.mono ?_
                  rintro e w9 ⟨rfl, hb9⟩
                  have HM9 := Lib.hid (HMt.out.below hb9)
                  clear hb9
                  obtain ⟨y0, y1, y2⟩ := HM9.out.cells
                  go_wp2_with fail
                  clear y0 y1 y2
                  refine (HIN.out _).mono ?_
                  rintro e w10 ⟨rfl, hb10⟩
                  have HM10 := Lib.hid (HM9.out.below hb10)
                  clear hb10
                  obtain ⟨y0, y1, y2⟩ := HM10.out.cells
                  have l1 := fun ty => ones_len (ty := ty) HM10.out.mi
                  have l2 := fun ty => ones_len (ty := ty) HM10.out.mb
                  go_wp2
                  clear y0 y1 y2 l1 l2
                  go_roundw
                  case rel => exact ⟨j + 1, _, XX, YY, _, by omega, by omega, by go_num, HHt, HM10⟩
                  case measure => simp [intOf]; omega
              · rw [decide_eq_false hx] at lk
                have e0 : e = 120 := hee.elim (fun h => absurd (hex.1 h) hx) id
                clear hx hex hee
                subst e0
                as_aux_lemma =>
                  have HIN : Hid (∀ W : World, Calls Tryz.prog 12 #[.agg #[.int .i64 (k : Int), .int .i64 (I : Int), .int .i64 (C : Int)]] W fun e w' => e = .returned (.int .i64 ((k : Int) * (I : Int))) ∧ Below W.heap.size W w') := fun W => by
                    have h := ginodes_any W ⟨k, I, C⟩
                    rw [Geom.many_ok HGOK.out] at h
                    exact h
                  have hfr := held_free HHt.out HGOK.out (groupsL_mem k) (groupsL_nodup k) (by rw [groupsL_length])
                  have hbd := held_bd HHt.out HGOK.out
                  have hfc := afree_any HMt.out.side HHt.out.ok HGOK.out u9 (groupsL k) HMt.out.ints (fun q hq => (groupsL_mem k q).1 hq) hfr (by rw [groupsL_length]; omega)
                  unfold gV pt at hfc
                  dsimp only at hfc hbd
                  have p1 : (k : Int) * (I : Int) ≤ 3 * 6 := Int.mul_le_mul (by omega) (by omega) (by omega) (by omega)
                  have p2 : (k : Int) * (C : Int) ≤ 3 * 9 := Int.mul_le_mul (by omega) (by omega) (by omega) (by omega)
                  have e1 : IntKind.i64.wrap ((k : Int) * (I : Int) - (XX.length : Int)) = (k : Int) * (I : Int) - (XX.length : Int) := IntWalk.i64_in _ (by omega)
                  have e2 : IntKind.i64.wrap ((k : Int) * (C : Int) - (YY.length : Int)) = (k : Int) * (C : Int) - (YY.length : Int) := IntWalk.i64_in _ (by omega)
                  have e3 : IntKind.i64.wrap ((k : Int) * (C : Int)) = (k : Int) * (C : Int) := IntWalk.i64_in _ (by omega)
                  have HFC := Lib.hid hfc
                  clear hfr hbd hfc p1 p2
                  obtain ⟨y0, y1, y2⟩ := HMt.out.cells
                  go_wp2_with fail
                  clear y0 y1 y2
                  refine HFC.out.mono ?_
                  rintro e w9 ⟨rfl, hb9⟩
                  have HM9 := Lib.hid (HMt.out.below hb9)
                  clear hb9
                  obtain ⟨y0, y1, y2⟩ := HM9.out.cells
                  go_wp2_with fail
                  clear y0 y1 y2
                  refine (HIN.out _).mono ?_
                  rintro e w10 ⟨rfl, hb10⟩
                  have HM10 := Lib.hid (HM9.out.below hb10)
                  clear hb10
                  obtain ⟨y0, y1, y2⟩ := HM10.out.cells
                  have l1 := fun ty => ones_len (ty := ty) HM10.out.mi
                  have l2 := fun ty => ones_len (ty := ty) HM10.out.mb
                  go_wp2
                  clear y0 y1 y2 l1 l2
                  go_roundw
                  case rel => exact ⟨j + 1, _, XX, YY, _, by omega, by omega, by go_num, HHt, HM10⟩
                  case measure => simp [intOf]; omega
          · as_aux_lemma =>
              have hr3 := amongJ_bd xn C (by omega)
              have ha3 := fun W : World => amongJ_any W xn C (by omega) (by omega)
              have hgk := fun (W : World) => gblock_any W ⟨k, I, C⟩ gr (amongJ xn C)
              rw [blkAt_in HGOK.out hr1 hr3] at hgk
              have hcs := HH.out.freeBlock HGOK.out (by omega) hr1 hr3
              obtain ⟨r, hr⟩ : ∃ z, amongJ xn C = z := ⟨_, rfl⟩
              rw [hr] at ha3 hr3 hgk hcs
              obtain ⟨N, hN⟩ : ∃ N, blockNo ⟨k, I, C⟩ gr r = N := ⟨_, rfl⟩
              rw [hN] at hgk hcs
              unfold gV at hgk
              dsimp only at hgk
              have HS5 : Hid (∀ W, Below W5.heap.size W5 W → W.cell? ⟨w.heap.size, 0, none⟩ = some (.int .i64 (k : Int)) ∧ W.cell? ⟨w.heap.size, 1, none⟩ = some (.int .i64 (I : Int)) ∧ W.cell? ⟨w.heap.size, 2, none⟩ = some (.int .i64 (C : Int)) ∧ W.cell? ⟨wr.heap.size, 1, none⟩ = some (.int .i64 xn)) := fun W hW => by
                obtain ⟨y0, y1, y2⟩ := (HM5.out.below hW).cells
                exact ⟨y0, y1, y2, cellOf (k := 1) (heapOld hW HA5.out) rfl⟩
              have hS5 := HS5.out W5.drew (blD (Below.refl _ _))
              have HA3 := Lib.hid ha3
              have HGK := Lib.hid hgk
              clear ha3 hgk
              clear hr hN hr3
              go_wp2_with fail
              refine wp_region_held_drew (S := (fun W => W.cell? ⟨w.heap.size, 0, none⟩ = some (.int .i64 (k : Int)) ∧ W.cell? ⟨w.heap.size, 1, none⟩ = some (.int .i64 (I : Int)) ∧ W.cell? ⟨w.heap.size, 2, none⟩ = some (.int .i64 (C : Int)) ∧ W.cell? ⟨wr.heap.size, 1, none⟩ = some (.int .i64 xn))) (by kernel_rfl) (by first | trivial | assumption) (fun hHeld => ?_)
              refine wpAnyH_take (i := 0) (v := ?_) rfl (by kernel_rfl) (by kernel_rfl) (by kernel_rfl) (fun _ _ _ h => h) (Or.inl ⟨by rfl, ?_⟩) hHeld ?_
              rotate_left
              · (intro w hSw; first | (go_simp; done) | (go_simp; with_reducible rfl))
              simp only [Act.put, List.setIfInBounds_toArray, List.set_cons_zero, List.set_cons_succ, List.getElem_toArray, List.getElem_cons_zero]
              refine wpAnyH_take (i := 1) (v := ?_) rfl (by kernel_rfl) (by kernel_rfl) (by kernel_rfl) (fun _ _ _ h => h) (Or.inl ⟨by rfl, ?_⟩) hHeld ?_
              rotate_left
              · (intro w hSw; first | (go_simp; done) | (go_simp; with_reducible rfl))
              simp only [Act.put, List.setIfInBounds_toArray, List.set_cons_zero, List.set_cons_succ, List.getElem_toArray, List.getElem_cons_zero, List.getElem_cons_succ]
              refine wpAnyH_take (i := 2) (v := ?_) rfl (by kernel_rfl) (by kernel_rfl) (by kernel_rfl) (fun _ _ _ h => h) (Or.inl ⟨by rfl, ?_⟩) hHeld ?_
              rotate_left
              · (intro w hSw; first | (go_simp; done) | (go_simp; with_reducible rfl))
              simp only [Act.put, List.setIfInBounds_toArray, List.set_cons_zero, List.set_cons_succ, List.getElem_toArray, List.getElem_cons_zero, List.getElem_cons_succ]
              refine wpAnyH_take (i := 3) (v := ?_) rfl (by kernel_rfl) (by kernel_rfl) (by kernel_rfl) (fun _ _ _ h => h) (Or.inl ⟨by rfl, ?_⟩) hHeld ?_
              rotate_left
              · (intro w hSw; first | (go_simp; done) | (go_simp; with_reducible rfl))
              simp only [Act.put, List.setIfInBounds_toArray, List.set_cons_zero, List.set_cons_succ, List.getElem_toArray, List.getElem_cons_zero, List.getElem_cons_succ]
              refine wpAnyH_take (i := 4) (v := ?_) rfl (by kernel_rfl) (by kernel_rfl) (by kernel_rfl) (fun _ _ _ h => h) (Or.inl ⟨by rfl, ?_⟩) hHeld ?_
              rotate_left
              · (intro w hSw; first | (go_simp; done) | (go_simp; with_reducible rfl))
              simp only [Act.put, List.setIfInBounds_toArray, List.set_cons_zero, List.set_cons_succ, List.getElem_toArray, List.getElem_cons_zero, List.getElem_cons_succ]
              refine wpAnyH_take (i := 5) (v := ?_) rfl (by kernel_rfl) (by kernel_rfl) (by kernel_rfl) (fun _ _ _ h => h) (Or.inl ⟨by rfl, ?_⟩) hHeld ?_
              rotate_left
              · (intro w hSw; first | (go_simp; done) | (go_simp; with_reducible rfl))
              simp only [Act.put, List.setIfInBounds_toArray, List.set_cons_zero, List.set_cons_succ, List.getElem_toArray, List.getElem_cons_zero, List.getElem_cons_succ]
              refine wpAnyH_ready (rs := [6]) (by kernel_rfl) (by simp) ?_
              refine AllReadyH.cons rfl (fun K hK => ?_) AllReadyH.nil
              try simp only [List.getElem_toArray, List.getElem_cons_zero, List.getElem_cons_succ]
              go_simp
              refine (HA3.out _).mono ?_
              rintro e w6 ⟨rfl, hw6⟩
              subst hw6
              try simp only
              refine hK.out _ _ ?hkS (fun hHeld => ?_)
              case hkS =>
                exact hS5
              clear hK K
              try simp only [Act.put, List.setIfInBounds_toArray, List.set_cons_zero, List.set_cons_succ]
              refine wpAnyH_ready (rs := [7]) (by kernel_rfl) (by simp) ?_
              refine AllReadyH.cons rfl (fun K hK => ?_) AllReadyH.nil
              try simp only [List.getElem_toArray, List.getElem_cons_zero, List.getElem_cons_succ]
              go_simp
              refine (HGK.out _).mono ?_
              rintro e w6 ⟨rfl, hb6⟩
              have HB6 : Hid (Below W5.heap.size W5 w6) := blN (blD (Below.refl _ _)) hb6
              clear hb6
              try simp only
              refine hK.out _ _ ?hkS (fun hHeld => ?_)
              case hkS =>
                exact HS5.out _ HB6.out
              clear hK K
              try simp only [Act.put, List.setIfInBounds_toArray, List.set_cons_zero, List.set_cons_succ]
              refine wpAnyH_take (i := 8) (v := ?_) rfl (by kernel_rfl) (by kernel_rfl) (by kernel_rfl) (fun _ _ _ h => h) (Or.inl ⟨by rfl, ?_⟩) hHeld ?_
              rotate_left
              · (intro w hSw; first | (go_simp; done) | (go_simp; with_reducible rfl))
              simp only [Act.put, List.setIfInBounds_toArray, List.set_cons_zero, List.set_cons_succ, List.getElem_toArray, List.getElem_cons_zero, List.getElem_cons_succ]
              refine wpAnyH_take (i := 9) (v := ?_) rfl (by kernel_rfl) (by kernel_rfl) (by kernel_rfl) (fun _ _ _ h => h) (Or.inl ⟨by rfl, ?_⟩) hHeld ?_
              rotate_left
              · (intro w hSw; first | (go_simp; done) | (go_simp; with_reducible rfl))
              simp only [Act.put, List.setIfInBounds_toArray, List.set_cons_zero, List.set_cons_succ, List.getElem_toArray, List.getElem_cons_zero, List.getElem_cons_succ]
              refine wpAnyH_take (i := 10) (v := ?_) rfl (by kernel_rfl) (by kernel_rfl) (by kernel_rfl) (fun _ _ _ h => h) (Or.inl ⟨by rfl, ?_⟩) hHeld ?_
              rotate_left
              · (intro w hSw; first | (go_simp; done) | (go_simp; with_reducible rfl))
              simp only [Act.put, List.setIfInBounds_toArray, List.set_cons_zero, List.set_cons_succ, List.getElem_toArray, List.getElem_cons_zero, List.getElem_cons_succ]
              refine wpAnyH_take (i := 11) (v := ?_) rfl (by kernel_rfl) (by kernel_rfl) (by kernel_rfl) (fun _ _ _ h => h) (Or.inl ⟨by rfl, ?_⟩) hHeld ?_
              rotate_left
              · (intro w hSw; first | (go_simp; done) | (go_simp; with_reducible rfl))
              simp only [Act.put, List.setIfInBounds_toArray, List.set_cons_zero, List.set_cons_succ, List.getElem_toArray, List.getElem_cons_zero, List.getElem_cons_succ]
              refine wpAnyH_take (i := 12) (v := ?_) rfl (by kernel_rfl) (by kernel_rfl) (by kernel_rfl) (fun _ _ _ h => h) (Or.inl ⟨by rfl, ?_⟩) hHeld ?_
              rotate_left
              · (intro w hSw; first | (go_simp; done) | (go_simp; with_reducible rfl))
              simp only [Act.put, List.setIfInBounds_toArray, List.set_cons_zero, List.set_cons_succ, List.getElem_toArray, List.getElem_cons_zero, List.getElem_cons_succ]
              refine wpAnyH_done (by kernel_rfl) ?_ _
              clear hHeld hS5
              have HM6 := Lib.hid (HM5.out.below HB6.out)
              have hgi := afreeBlock_any HM6.out.side HH.out.ok (by have := HH.out.last; omega) HGOK.out N (.slice none 0 0) [] (RowAt.void _ 1) (by simp)
              obtain ⟨S', c, e, he, hee, hex, hh⟩ := hcs
              unfold GavePost gV pt at hgi
              rw [he] at hgi
              dsimp only at hgi
              have HGI := Lib.hid hgi
              clear hgi
              clear he
              obtain ⟨y0, y1, y2⟩ := HM6.out.cells
              go_wp2_with fail
              clear y0 y1 y2
              refine HGI.out.mono ?_
              rintro e2 w8 ⟨rfl, hs8⟩
              have HM8 := Lib.hid (HM6.out.to hs8)
              have lk := ones_lookup HM8.out.mb N
              obtain ⟨o', hdl, ho'⟩ := ones_delete (ty := 0) HM8.out.mb N
              obtain ⟨wt, hwt⟩ : ∃ W, ChangeMaps.setBlock w8 M2 o' = W := ⟨_, rfl⟩
              rw [hwt] at hdl
              have hmt := HM8.out.set2 ho'
              rw [hwt] at hmt
              have HHt := Lib.hid hh
              have HMt := Lib.hid hmt
              obtain ⟨YY, hXX⟩ : ∃ z, Y.filter (fun x => decide (x ≠ N)) = z := ⟨_, rfl⟩
              obtain ⟨XX, hYY⟩ : ∃ z, X = z := ⟨_, rfl⟩
              rw [hXX, hYY] at HMt HHt
              clear hs8 ho' hwt hmt hh hXX
              by_cases hx : N ∈ Y
              · rw [decide_eq_true hx] at lk
                have e0 := hex.2 hx
                clear hx hex hee
                subst e0
                as_aux_lemma =>
                  have HIN : Hid (∀ W : World, Calls Tryz.prog 12 #[.agg #[.int .i64 (k : Int), .int .i64 (I : Int), .int .i64 (C : Int)]] W fun e w' => e = .returned (.int .i64 ((k : Int) * (I : Int))) ∧ Below W.heap.size W w') := fun W => by
                    have h := ginodes_any W ⟨k, I, C⟩
                    rw [Geom.many_ok HGOK.out] at h
                    exact h
                  have hfr := held_free HHt.out HGOK.out (groupsL_mem k) (groupsL_nodup k) (by rw [groupsL_length])
                  have hbd := held_bd HHt.out HGOK.out
                  have hfc := afree_any HMt.out.side HHt.out.ok HGOK.out u9 (groupsL k) HMt.out.ints (fun q hq => (groupsL_mem k q).1 hq) hfr (by rw [groupsL_length]; omega)
                  unfold gV pt at hfc
                  dsimp only at hfc hbd
                  have p1 : (k : Int) * (I : Int) ≤ 3 * 6 := Int.mul_le_mul (by omega) (by omega) (by omega) (by omega)
                  have p2 : (k : Int) * (C : Int) ≤ 3 * 9 := Int.mul_le_mul (by omega) (by omega) (by omega) (by omega)
                  have e1 : IntKind.i64.wrap ((k : Int) * (I : Int) - (XX.length : Int)) = (k : Int) * (I : Int) - (XX.length : Int) := IntWalk.i64_in _ (by omega)
                  have e2 : IntKind.i64.wrap ((k : Int) * (C : Int) - (YY.length : Int)) = (k : Int) * (C : Int) - (YY.length : Int) := IntWalk.i64_in _ (by omega)
                  have e3 : IntKind.i64.wrap ((k : Int) * (C : Int)) = (k : Int) * (C : Int) := IntWalk.i64_in _ (by omega)
                  have HFC := Lib.hid hfc
                  clear hfr hbd hfc p1 p2
                  obtain ⟨y0, y1, y2⟩ := HMt.out.cells
                  go_wp2_with fail
                  clear y0 y1 y2
                  refine HFC.out.mono ?_
                  rintro e w9 ⟨rfl, hb9⟩
                  have HM9 := Lib.hid (HMt.out.below hb9)
                  clear hb9
                  obtain ⟨y0, y1, y2⟩ := HM9.out.cells
                  go_wp2_with fail
                  clear y0 y1 y2
                  refine (HIN.out _).mono ?_
                  rintro e w10 ⟨rfl, hb10⟩
                  have HM10 := Lib.hid (HM9.out.below hb10)
                  clear hb10
                  obtain ⟨y0, y1, y2⟩ := HM10.out.cells
                  have l1 := fun ty => ones_len (ty := ty) HM10.out.mi
                  have l2 := fun ty => ones_len (ty := ty) HM10.out.mb
                  go_wp2
                  clear y0 y1 y2 l1 l2
                  go_roundw
                  case rel => exact ⟨j + 1, _, XX, YY, _, by omega, by omega, by go_num, HHt, HM10⟩
                  case measure => simp [intOf]; omega
              · rw [decide_eq_false hx] at lk
                have e0 : e = 120 := hee.elim (fun h => absurd (hex.1 h) hx) id
                clear hx hex hee
                subst e0
                as_aux_lemma =>
                  have HIN : Hid (∀ W : World, Calls Tryz.prog 12 #[.agg #[.int .i64 (k : Int), .int .i64 (I : Int), .int .i64 (C : Int)]] W fun e w' => e = .returned (.int .i64 ((k : Int) * (I : Int))) ∧ Below W.heap.size W w') := fun W => by
                    have h := ginodes_any W ⟨k, I, C⟩
                    rw [Geom.many_ok HGOK.out] at h
                    exact h
                  have hfr := held_free HHt.out HGOK.out (groupsL_mem k) (groupsL_nodup k) (by rw [groupsL_length])
                  have hbd := held_bd HHt.out HGOK.out
                  have hfc := afree_any HMt.out.side HHt.out.ok HGOK.out u9 (groupsL k) HMt.out.ints (fun q hq => (groupsL_mem k q).1 hq) hfr (by rw [groupsL_length]; omega)
                  unfold gV pt at hfc
                  dsimp only at hfc hbd
                  have p1 : (k : Int) * (I : Int) ≤ 3 * 6 := Int.mul_le_mul (by omega) (by omega) (by omega) (by omega)
                  have p2 : (k : Int) * (C : Int) ≤ 3 * 9 := Int.mul_le_mul (by omega) (by omega) (by omega) (by omega)
                  have e1 : IntKind.i64.wrap ((k : Int) * (I : Int) - (XX.length : Int)) = (k : Int) * (I : Int) - (XX.length : Int) := IntWalk.i64_in _ (by omega)
                  have e2 : IntKind.i64.wrap ((k : Int) * (C : Int) - (YY.length : Int)) = (k : Int) * (C : Int) - (YY.length : Int) := IntWalk.i64_in _ (by omega)
                  have e3 : IntKind.i64.wrap ((k : Int) * (C : Int)) = (k : Int) * (C : Int) := IntWalk.i64_in _ (by omega)
                  have HFC := Lib.hid hfc
                  clear hfr hbd hfc p1 p2
                  obtain ⟨y0, y1, y2⟩ := HMt.out.cells
                  go_wp2_with fail
                  clear y0 y1 y2
                  refine HFC.out.mono ?_
                  rintro e w9 ⟨rfl, hb9⟩
                  have HM9 := Lib.hid (HMt.out.below hb9)
                  clear hb9
                  obtain ⟨y0, y1, y2⟩ := HM9.out.cells
                  go_wp2_with fail
                  clear y0 y1 y2
                  refine (HIN.out _).mono ?_
                  rintro e w10 ⟨rfl, hb10⟩
                  have HM10 := Lib.hid (HM9.out.below hb10)
                  clear hb10
                  obtain ⟨y0, y1, y2⟩ := HM10.out.cells
                  have l1 := fun ty => ones_len (ty := ty) HM10.out.mi
                  have l2 := fun ty => ones_len (ty := ty) HM10.out.mb
                  go_wp2
                  clear y0 y1 y2 l1 l2
                  go_roundw
                  case rel => exact ⟨j + 1, _, XX, YY, _, by omega, by omega, by go_num, HHt, HM10⟩
                  case measure => simp [intOf]; omega
        · have HEnd : Hid (Below w.heap.size w wr) := HM.out.bel
          by_cases hl1 : j < len
          · obtain rfl : j = 60 := by omega
            go_wp2
            go_ret
            exact ⟨rfl, HEnd.out⟩
          · obtain rfl : j = len := by omega
            go_wp2
            go_ret
            exact ⟨rfl, HEnd.out⟩
end
end Go.Proofs.YtghafpdmcbockaaGreatDoor
