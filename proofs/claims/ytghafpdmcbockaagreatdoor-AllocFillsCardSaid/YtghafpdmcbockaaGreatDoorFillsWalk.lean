/-
  AllocFills: the walk.
-/
import Derived.Test.YtghafpdmcbockaaGreatDoorFillMem
namespace Go.Proofs.YtghafpdmcbockaaGreatDoor
open Go Go.RowKit Txt Sp

section
set_option maxHeartbeats 8000000
set_option maxRecDepth 20000 in
theorem fills_any (w : World) (g : Sp.Geom) (back : Int) :
    Calls Tryz.prog 3 #[gV g, .int .i64 back] w fun e w' => e = .returned (.bool true) ∧ Below w.heap.size w w' := by
  have hsm := fun W : World => small_any W g
  have hgok := smallG_ok g
  obtain ⟨⟨bg0, bg1⟩, ⟨bi0, bi1⟩, bb0, bb1⟩ := smallG_bd g
  have hwk := works15_any
  have hld := fun W : World => laid_any W hgok
  have hheld := fresh_held (node := 0) (epoch := 0) hgok
  obtain ⟨gs, hgs⟩ : ∃ x, smallG g = x := ⟨_, rfl⟩
  rw [hgs] at hsm hgok bg0 bg1 bi0 bi1 bb0 bb1 hld hheld
  obtain ⟨S0, hS0⟩ : ∃ S, freshSide gs 0 0 = S := ⟨_, rfl⟩
  rw [hS0] at hld hheld
  clear hgs hS0
  obtain ⟨ga, gb, gc⟩ := gs
  simp only at bg0 bg1 bi0 bi1 bb0 bb1
  obtain ⟨G, rfl⟩ : ∃ G : Nat, ga = (G : Int) := ⟨ga.toNat, by omega⟩
  obtain ⟨I, rfl⟩ : ∃ G : Nat, gb = (G : Int) := ⟨gb.toNat, by omega⟩
  obtain ⟨C, rfl⟩ : ∃ G : Nat, gc = (G : Int) := ⟨gc.toNat, by omega⟩
  obtain ⟨ga, gb, gc⟩ := g
  have hqd := eql_disk_nil
  have hqs := eql_soft_nil
  unfold gV at hsm hld ⊢
  unfold pt at hld
  dsimp only at hsm hld ⊢
  obtain ⟨W0, hW0⟩ : ∃ W, w.alloc (.cells #[.int .i64 ga, .int .i64 gb, .int .i64 gc] 23) = W := ⟨_, rfl⟩
  have HB0 : Hid (Below w.heap.size w W0) := by rw [← hW0]; exact bl2 _
  have HG0 : Hid (W0.heap[w.heap.size]? = some (.cells #[.int .i64 ga, .int .i64 gb, .int .i64 gc] 23 (0, 0))) := by rw [← hW0]; exact heapNew w _
  have HZ0 : Hid (w.heap.size < W0.heap.size) := by rw [← hW0]; show _ < _; simp
  have z0 := cellOf (k := 0) HG0.out rfl
  have z1 := cellOf (k := 1) HG0.out rfl
  have z2 := cellOf (k := 2) HG0.out rfl
  have HSM := Lib.hid hsm
  have HGOK := Lib.hid hgok
  have HLD := Lib.hid hld
  have HHELD := Lib.hid hheld
  have HWK := Lib.hid hwk
  clear hsm hgok hld hheld hwk
  go_enter Tryz.func3, Tryz.ntmps3
  go_wp2_with fail
  clear z0 z1 z2 hW0
  refine (HSM.out _).mono ?_
  rintro e w1 ⟨rfl, hb1⟩
  have hg1 := heapOld hb1 HG0.out
  have hz1 : w.heap.size < w1.heap.size := by have := HZ0.out; have := hb1.size; omega
  have z0 := cellOf (k := 0) hg1 rfl
  have z1 := cellOf (k := 1) hg1 rfl
  have z2 := cellOf (k := 2) hg1 rfl
  have v0 : w1.frozen? ⟨w.heap.size, 0, none⟩ = false := freeOf hg1
  have v1 : w1.frozen? ⟨w.heap.size, 1, none⟩ = false := freeOf hg1
  have v2 : w1.frozen? ⟨w.heap.size, 2, none⟩ = false := freeOf hg1
  obtain ⟨W2, hW2⟩ : ∃ W, (((w1.setCell ⟨w.heap.size, 0, none⟩ (.int .i64 (G : Int))).setCell ⟨w.heap.size, 1, none⟩ (.int .i64 (I : Int))).setCell ⟨w.heap.size, 2, none⟩ (.int .i64 (C : Int))) = W := ⟨_, rfl⟩
  have HB2 : Hid (Below w.heap.size w W2) := by rw [← hW2]; exact sets_below (Nat.le_refl _) [.int .i64 (G : Int), .int .i64 (I : Int), .int .i64 (C : Int)] 0 _ (blN HB0.out hb1)
  have HG2 : Hid (W2.heap[w.heap.size]? = some (.cells #[.int .i64 (G : Int), .int .i64 (I : Int), .int .i64 (C : Int)] 23 (0, 0))) := by rw [← hW2]; exact sets_all (vs := [.int .i64 (G : Int), .int .i64 (I : Int), .int .i64 (C : Int)]) hg1 rfl
  have HZ2 : Hid (w.heap.size < W2.heap.size) := by rw [← hW2]; show _ < _; simp only [World.size_setCell]; exact hz1
  clear hb1 hg1 hz1
  have y0 := cellOf (k := 0) HG2.out rfl
  have y1 := cellOf (k := 1) HG2.out rfl
  have y2 := cellOf (k := 2) HG2.out rfl
  go_wp2_with fail
  clear z0 z1 z2 v0 v1 v2 y0 y1 y2 hW2
  refine (HLD.out _).mono ?_
  rintro e w3 ⟨base, B, Bd, D, rfl, hs3, hb3, hD3⟩
  have HB3 := Lib.hid (blN HB2.out hb3)
  have HG3 := Lib.hid (heapOld hb3 HG2.out)
  have HS3 := Lib.hid hs3
  have HD3 := Lib.hid hD3
  have HZ3 : Hid (w.heap.size < w3.heap.size) := by have := HZ2.out; have := hb3.size; show _ < _; omega
  clear hs3 hb3 hD3
  go_wp2_with fail
  refine (HWK.out _).mono ?_
  rintro e w4 ⟨rfl, hb4⟩
  have HB4 := Lib.hid (blN HB3.out hb4)
  have HG4 := Lib.hid (heapOld hb4 HG3.out)
  have HS4 := Lib.hid (HS3.out.below hb4)
  have HZ4 : Hid (w.heap.size < w4.heap.size) := by have := HZ3.out; have := hb4.size; show _ < _; omega
  have HD4 : Hid (∀ j, D j → w.heap.size < j ∧ j < w4.heap.size) := fun j hj => by have := HD3.out j hj; have := HZ2.out; have := hb4.size; omega
  clear hb4
  have y0 := cellOf (k := 0) HG4.out rfl
  go_wp2
  clear y0 HS3 HG3 HD3 HB3 HZ3 HG2 HB2 HZ2 HG0 HB0 HZ0
  go_loopw [7, 46] (fun out q wr => ∃ k : Nat, k ≤ G ∧ q = .int .i64 (k : Int) ∧ Hid (OwnR 3 1 intC w4.heap.size wr out (groupsL k)) ∧ Hid (Below w4.heap.size w4 wr)) (fun _ q _ => G - (intOf q).toNat)
  case atStart => exact ⟨0, Nat.zero_le _, rfl, OwnR.void _ _, Below.refl _ _⟩
  case round =>
    obtain ⟨k, hk, rfl, HO, HB⟩ := hrel
    obtain ⟨y0, y1, y2⟩ : wr.cell? ⟨w.heap.size, 0, none⟩ = some (.int .i64 (G : Int)) ∧ wr.cell? ⟨w.heap.size, 1, none⟩ = some (.int .i64 (I : Int)) ∧ wr.cell? ⟨w.heap.size, 2, none⟩ = some (.int .i64 (C : Int)) := by
      have h := heapOld HB.out HG4.out
      exact ⟨cellOf h rfl, cellOf h rfl, cellOf h rfl⟩
    by_cases hlt : k < G
    · as_aux_lemma =>
        have hll : (groupsL k).length ≤ 3 := by rw [groupsL_length]; omega
        clear y0 y1 y2
        go_upto_region 9 with fail
        obtain ⟨ia6, ib6, ic6, id6, ie6⟩ := info_parts infoInt
        have hrow6 := HO.out
        unfold OwnR at hrow6
        have HRow6 := Lib.hid hrow6
        clear hrow6
        have HIb6 := Lib.hid ib6
        have HIc6 := Lib.hid ic6
        have HId6 := Lib.hid id6
        have HIe6 := Lib.hid ie6
        clear ib6 ic6 id6 ie6
        go_wp2_with (at_builtin; refine wpList_append_lies _ rfl _ _ _ rfl w4.heap.size 3 ia6 _ 1 8 Tryz.underlying30 HIb6.out HIc6.out HId6.out HIe6.out rfl (by decide) _ _ _ rfl (HRow6.out.alloc _) ⟨wr.heap.size, 0, none⟩ 1 1 [.int .i64 (k : Int)] rfl rfl (World.news_of_block (cs := #[.int .i64 (k : Int)]) (t := 3) (fr := (0, 0)) (heapNew wr _)) (by simp [Value.oneCell']) (by omega) ?c1 ?c2 ?c3 (wr.heap.size + 1) (by simp) ?_)
        case c1 => unfold maxLen; omega
        case c2 => omega
        case c3 => have := HB.out.size; simp; omega
        intro g6 cap6 w6 hown6 hgrow6 hat6 hlt6
        have HO6 := Lib.hid (OwnR.snoc (f := intC) (x := (k:Int)) hown6 rfl rfl)
        have HB6 : Hid (Below w4.heap.size _ w6) := Below.grown (bl1 HB.out _) hgrow6 (bl1 HB.out _).size (fun q hq => (HRow6.out.lt q hq).1)
        clear hown6 hgrow6 hat6 hlt6 HRow6
        go_wp2
        go_roundw
        case rel => exact ⟨k + 1, by omega, by go_num, by rw [groupsL_snoc]; exact HO6, HB6⟩
        case measure => simp [intOf]; omega
    · obtain rfl : k = G := by omega
      have hm0 : FMem w ⟨k, I, C⟩ base B Bd w4.heap.size u7 (groupsL k) (.slice none 0 0) [] S0 D wr := by
        have hd := HD4.out
        have hz := HZ4.out
        have hs := HB.out.size
        exact ⟨HS4.out.below HB.out, fun j hj => by have := hd j hj; omega, fun j hj => by have := hd j hj; omega, fun h => by have := hd _ h; omega, fun b hb => ⟨fun h => by have := (HO.out.lt b hb).1; have := hd _ h; omega, (fun e => by cases e)⟩, (fun b hb => by cases hb), ⟨hz, hs⟩, heapOld HB.out HG4.out, HO.out, OwnR.void _ _, blN HB4.out HB.out⟩
      obtain ⟨n0, hn0⟩ : ∃ n, w4.heap.size = n := ⟨_, rfl⟩
      rw [hn0] at hm0
      have HM0 := Lib.hid hm0
      obtain ⟨P, hP⟩ : ∃ P : Nat, k * C = P := ⟨_, rfl⟩
      have hPi : (k : Int) * (C : Int) = (P : Int) := by rw [← hP]; push_cast; rfl
      have hP1 : 1 ≤ P := by
        have := Int.mul_le_mul (a := 1) (c := (k : Int)) (b := 1) (d := (C : Int)) (by omega) (by omega) (by omega) (by omega)
        omega
      have hP2 : P ≤ 27 := by
        have := Int.mul_le_mul (a := (k : Int)) (c := 3) (b := (C : Int)) (d := 9) (by omega) (by omega) (by omega) (by omega)
        omega
      have e1 : IntKind.i64.wrap ((k : Int) * (C : Int)) = (P : Int) := by rw [hPi]; exact IntWalk.i64_in _ (by omega)
      obtain ⟨R, hR⟩ : ∃ P : Nat, k * I = P := ⟨_, rfl⟩
      have hRi : (k : Int) * (I : Int) = (R : Int) := by rw [← hR]; push_cast; rfl
      have hR1 : 1 ≤ R := by
        have := Int.mul_le_mul (a := 1) (c := (k : Int)) (b := 1) (d := (I : Int)) (by omega) (by omega) (by omega) (by omega)
        omega
      have hR2 : R ≤ 18 := by
        have := Int.mul_le_mul (a := (k : Int)) (c := 3) (b := (I : Int)) (d := 6) (by omega) (by omega) (by omega) (by omega)
        omega
      have HINP : Hid (∀ W : World, Calls Tryz.prog 12 #[.agg #[.int .i64 (k : Int), .int .i64 (I : Int), .int .i64 (C : Int)]] W fun e w' => e = .returned (.int .i64 (R : Int)) ∧ Below W.heap.size W w') := fun W => by
        have h := ginodes_any W ⟨k, I, C⟩
        rw [Geom.many_ok HGOK.out] at h
        rw [← hRi]
        exact h
      have e2 : IntKind.i64.wrap ((R : Int) - 1) = ((R - 1 : Nat) : Int) := by rw [show ((R - 1 : Nat) : Int) = (R : Int) - 1 by omega]; exact IntWalk.i64_in _ (by omega)
      have HP := Lib.hid hP
      have HR := Lib.hid hR
      have HKS : Hid (∀ q ∈ groupsL k, 0 ≤ q ∧ q < (⟨k, I, C⟩ : Sp.Geom).groups) := fun q hq => (groupsL_mem k q).1 hq
      clear hm0 HO HB hk hlt hP hPi hR hRi hn0 HS4 HG4 HD4 HB4 HZ4
      go_wp2
      clear y0 y1 y2
      go_loopw [8, 59] (fun out q wr => ∃ (j : Nat) (S : Sp.Side) (Y : List Int) (D : Nat → Prop), j ≤ P ∧ q = .int .i64 (j : Int) ∧ Hid (Held S ⟨k, I, C⟩ [1] Y j) ∧ Hid (Y.length = j) ∧ Hid (FMem w ⟨k, I, C⟩ base B Bd n0 u7 (groupsL k) out Y S D wr)) (fun _ q _ => P - (intOf q).toNat)
      case atStart => exact ⟨0, S0, [], D, Nat.zero_le _, rfl, HHELD, rfl, HM0⟩
      case round =>
        clear HM0 HHELD
        obtain ⟨j, S, Y, D, hj, rfl, HH, HL, HM⟩ := hrel
        by_cases hlt : j < P
        · as_aux_lemma =>
            obtain ⟨S', c, N, he, hh⟩ := Held_block_room HH.out HGOK.out (by omega) rfl (by rw [HL.out]; show j < k * ((C : Int)).toNat; rw [Int.toNat_natCast, HP.out]; exact hlt)
            have hgi := ablock_any HM.out.side HM.out.lt HH.out.ok (by have := HH.out.last; omega) HGOK.out u7 (groupsL k) HM.out.ints HKS.out
            unfold GotPost gV pt at hgi
            rw [he] at hgi
            dsimp only at hgi
            have HGI := Lib.hid hgi
            clear hgi
            have HH2 := Lib.hid hh
            clear he hh
            obtain ⟨y0, y1, y2⟩ := HM.out.cells
            go_wp2_with fail
            clear y0 y1 y2
            refine HGI.out.mono ?_
            rintro e w7 ⟨rfl, hs7⟩
            have HM7 := Lib.hid (HM.out.to hs7)
            clear hs7
            obtain ⟨ia, ib, ic, id, ie⟩ := info_parts infoInt
            have hrow := HM7.out.tk
            unfold OwnR at hrow
            have HRow := Lib.hid hrow
            have HIb := Lib.hid ib
            have HIc := Lib.hid ic
            have HId := Lib.hid id
            have HIe := Lib.hid ie
            have hll : Y.length ≤ 27 := by have := HL.out; omega
            clear hrow ib ic id ie
            go_wp2_with (at_builtin; refine wpList_append_lies _ rfl _ _ _ rfl n0 3 ia _ 1 8 Tryz.underlying30 HIb.out HIc.out HId.out HIe.out rfl (by decide) _ _ _ rfl (HRow.out.alloc _) ⟨w7.heap.size, 0, none⟩ 1 1 [.int .i64 N] rfl rfl (World.news_of_block (cs := #[.int .i64 N]) (t := 3) (fr := (0, 0)) (heapNew w7 _)) (by simp [Value.oneCell']) (by omega) ?c1 ?c2 ?c3 (w7.heap.size + 1) (by simp) ?_)
            case c1 => unfold maxLen; omega
            case c2 => omega
            case c3 => have := HM7.out.lo.2; simp; omega
            intro gb cap8 w8 hown hgrow hat hlt8
            have hr8 := OwnR.snoc (f := intC) (x := N) hown rfl rfl
            have HM8 := Lib.hid (HM7.out.app (bl2 _) hgrow hr8 (hat.imp_right fun h => by simp; omega))
            have HL8 : Hid ((Y ++ [N]).length = j + 1) := by show _ = _; rw [List.length_append, HL.out]; rfl
            clear hown hgrow hat hlt8 hr8 HRow
            go_wp2
            go_roundw
            case rel => exact ⟨j + 1, S', Y ++ [N], _, by omega, by go_num, HH2, HL8, HM8⟩
            case measure => simp [intOf]; omega
        · obtain rfl : j = P := by omega
          clear hj hlt
          obtain ⟨y0, y1, y2⟩ := HM.out.cells
          go_wp2_with fail
          clear y0 y1 y2
          refine (HINP.out _).mono ?_
          rintro e w5 ⟨rfl, hb5⟩
          have HM5 := Lib.hid (HM.out.below hb5)
          clear hb5 HM
          go_wp2
          go_loopw [79] (fun q wr => ∃ (i : Nat) (S : Sp.Side) (X : List Int) (D : Nat → Prop), i ≤ R - 1 ∧ q = .int .i64 (i : Int) ∧ Hid (Held S ⟨k, I, C⟩ X Y (j + i)) ∧ Hid (X.length = i + 1) ∧ Hid (FMem w ⟨k, I, C⟩ base B Bd n0 u7 (groupsL k) u8 Y S D wr)) (fun q _ => R - 1 - (intOf q).toNat)
          case atStart => exact ⟨0, S, [1], D, Nat.zero_le _, rfl, HH, rfl, HM5⟩
          case round =>
            clear HH HM5
            obtain ⟨i, S, X, D, hi, rfl, HH, HX, HM⟩ := hrel
            by_cases hlt : i < R - 1
            · as_aux_lemma =>
                obtain ⟨S', c, N, he, hh⟩ := Held_inode_room HH.out HGOK.out (by omega) rfl (by rw [HX.out]; show i + 1 < k * ((I : Int)).toNat; rw [Int.toNat_natCast, HR.out]; omega)
                have hgi := ainode_any HM.out.side HM.out.lt HH.out.ok (by have := HH.out.last; omega) HGOK.out u7 (groupsL k) HM.out.ints HKS.out
                unfold GotPost gV pt at hgi
                rw [he] at hgi
                dsimp only at hgi
                have HGI := Lib.hid hgi
                clear hgi
                have HH2 := Lib.hid hh
                clear he hh
                obtain ⟨y0, y1, y2⟩ := HM.out.cells
                go_wp2_with fail
                clear y0 y1 y2
                refine HGI.out.mono ?_
                rintro e w7 ⟨rfl, hs7⟩
                have HM7 := Lib.hid (HM.out.to hs7)
                have HX7 : Hid ((X ++ [N]).length = i + 1 + 1) := by show _ = _; rw [List.length_append, HX.out]; rfl
                clear hs7
                go_wp2
                go_roundw
                case rel => exact ⟨i + 1, S', X ++ [N], _, by omega, by go_num, HH2, HX7, HM7⟩
                case measure => simp [intOf]; omega
            · as_aux_lemma =>
                obtain rfl : i = R - 1 := by omega
                have hfb := Held_block_full HH.out HGOK.out (by omega) rfl (by rw [HL.out]; show k * ((C : Int)).toNat ≤ j; rw [Int.toNat_natCast, HP.out]; exact Nat.le_refl _)
                have hfi := Held_inode_full HH.out HGOK.out (by omega) rfl (by rw [HX.out]; show k * ((I : Int)).toNat ≤ _; rw [Int.toNat_natCast, HR.out]; omega)
                have hb1 := ablock_any HM.out.side HM.out.lt HH.out.ok (by have := HH.out.last; omega) HGOK.out u7 (groupsL k) HM.out.ints HKS.out
                unfold GotPost gV pt at hb1
                rw [hfb] at hb1
                dsimp only at hb1
                have HB1 := Lib.hid hb1
                clear hb1
                obtain ⟨y0, y1, y2⟩ := HM.out.cells
                go_wp2_with fail
                clear y0 y1 y2
                refine HB1.out.mono ?_
                rintro e w7 ⟨rfl, hs7⟩
                have HM7 := Lib.hid (HM.out.to hs7)
                have hi1 := ainode_any HM7.out.side HM7.out.lt HH.out.ok (by have := HH.out.last; omega) HGOK.out u7 (groupsL k) HM7.out.ints HKS.out
                unfold GotPost gV pt at hi1
                rw [hfi] at hi1
                dsimp only at hi1
                have HI1 := Lib.hid hi1
                clear hi1
                clear hs7 hfi hfb
                obtain ⟨y0, y1, y2⟩ := HM7.out.cells
                go_wp2_with fail
                clear y0 y1 y2
                refine HI1.out.mono ?_
                rintro e w8 ⟨rfl, hs8⟩
                have HM8 := Lib.hid (HM7.out.to hs8)
                clear hs8
                have ha := fun W : World => amongJ_any W back j (by omega) (by omega)
                have hr := amongJ_bd back j (by omega)
                obtain ⟨r, hrr⟩ : ∃ z, amongJ back j = z := ⟨_, rfl⟩
                rw [hrr] at ha hr
                obtain ⟨r, rfl⟩ : ∃ q : Nat, r = (q : Int) := ⟨r.toNat, by omega⟩
                have hrl : r < Y.length := by have := HL.out; omega
                obtain ⟨ad, n, cap, hvt, HNt, hnt, HFt⟩ := RowAt.facts (OwnR.row (f := intC) (fun _ _ => rfl) HM8.out.tk)
                have hn : n = j := by rw [HNt.out, HL.out]
                subst hn
                subst hvt
                obtain ⟨b, o, N, rfl, hb, hN, hc⟩ := HFt.out r (by omega)
                have c0 : w8.cell? ⟨b, o + r, none⟩ = some (.int .i64 N) := by
                  have h := hc 0 _ rfl
                  simpa using h
                obtain ⟨S1, c1, hf1, hk1, hl1, S2, c2, hf2⟩ := Held_again HH.out HGOK.out (by omega) rfl (by rw [HL.out]; show k * ((C : Int)).toNat ≤ n; rw [Int.toNat_natCast, HP.out]; exact Nat.le_refl _) (List.mem_of_getElem? hN)
                have hg1 := afreeBlock_any HM8.out.side HH.out.ok (by have := HH.out.last; omega) HGOK.out N (.slice none 0 0) [] (RowAt.void _ 1) (by simp)
                unfold GavePost gV pt at hg1
                rw [hf1] at hg1
                dsimp only at hg1
                have hr1 : (r : Int) < (n : Int) := hr.2
                have HA := Lib.hid ha
                have HG1 := Lib.hid hg1
                clear ha hg1
                clear hrr hf1 hc hb hN HFt hrl hr
                obtain ⟨y0, y1, y2⟩ := HM8.out.cells
                go_wp2_with fail
                refine (HA.out _).mono ?_
                rintro e w9 ⟨rfl, hw9⟩
                replace hw9 := hw9.symm
                subst hw9
                go_wp2_with fail
                clear y0 y1 y2 c0
                refine HG1.out.mono ?_
                rintro e w9 ⟨rfl, hs9⟩
                have HM9 := Lib.hid (HM8.out.to hs9)
                clear hs9
                have hb2 := ablock_any HM9.out.side HM9.out.lt hk1 (by omega) HGOK.out u7 (groupsL k) HM9.out.ints HKS.out
                unfold GotPost gV pt at hb2
                rw [hf2] at hb2
                dsimp only at hb2
                have HB2 := Lib.hid hb2
                clear hb2
                clear hf2 hk1
                obtain ⟨y0, y1, y2⟩ := HM9.out.cells
                go_wp2_with fail
                clear y0 y1 y2
                refine HB2.out.mono ?_
                rintro e w10 ⟨rfl, hs10⟩
                have HEnd := Lib.hid (HM9.out.to hs10).bel
                clear hs10
                go_wp2
                go_ret
                exact ⟨rfl, HEnd.out⟩
end
end Go.Proofs.YtghafpdmcbockaaGreatDoor
