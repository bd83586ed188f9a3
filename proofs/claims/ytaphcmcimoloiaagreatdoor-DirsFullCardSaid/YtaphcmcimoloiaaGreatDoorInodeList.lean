/-
  Walks of layer 6: List.
-/
import Derived.Test.YtaphcmcimoloiaaGreatDoorTableA
import Derived.Test.YtaphcmcimoloiaaGreatDoorSidA
import Derived.Test.YtaphcmcimoloiaaGreatDoorMapsB
namespace Go.Proofs.YtaphcmcimoloiaaGreatDoor
open Go Go.RowKit Txt Sp

namespace Sp
def listOf (s : ByteArray) : List Int := (List.range 32).map (fun i : Nat => getN s (2 * (i : Int)) 2)
def listC (g : Geom) (s : ByteArray) : Int := if g.ok then (if s.size = 64 ∧ ∀ b ∈ listOf s, blockOk g b then 0 else 60) else 4
end Sp
def ListPost (g : Sp.Geom) (s : ByteArray) (w : World) (e : Ending) (w' : World) : Prop :=
  ∃ v, e = .returned (.tuple #[v, .int .i64 (listC g s)]) ∧ OwnR 3 1 intC w.heap.size w' v (if listC g s = 0 then listOf s else []) ∧ Below w.heap.size w w'
section
set_option maxHeartbeats 4000000
set_option maxRecDepth 20000 in
theorem ilist_any (w : World) (g : Sp.Geom) (s : ByteArray) : Calls Tryz.prog 182 #[gV g, .string s] w (ListPost g s w) := by
  have hch := fun W : World => gcheck_any W g
  have hno : ∀ w' c, c ≠ 0 → listC g s = c → Below w.heap.size w w' → ListPost g s w (.returned (.tuple #[.slice none 0 0, .int .i64 c])) w' := fun w' c h0 hc hb => by
    refine ⟨_, by rw [hc], ?_, hb⟩
    rw [hc, if_neg h0]
    exact OwnR.void _ _
  by_cases hg : g.ok
  rotate_left
  · rw [Geom.check_no hg] at hch
    have HN := Lib.hid (fun w' => hno w' 4 (by decide) (if_neg hg))
    obtain ⟨Q, hQ⟩ : ∃ Q, ListPost g s w = Q := ⟨_, rfl⟩
    rw [hQ] at HN ⊢
    obtain ⟨ga, gb, gc⟩ := g
    unfold gV at hch ⊢
    obtain ⟨W0, hW0⟩ : ∃ W, w.alloc (.cells #[.int .i64 ga, .int .i64 gb, .int .i64 gc] 27) = W := ⟨_, rfl⟩
    have hk := g_keep hW0
    have HB0 := Lib.hid hk.1
    have HK := Lib.hid hk.2
    clear hk
    have HCH := Lib.hid hch
    clear hch
    clear hno hg hQ
    obtain ⟨z0, z1, z2⟩ := HK.out W0 (Below.refl _ _)
    go_enter Tryz.func182, Tryz.ntmps182
    go_wp2_with fail
    clear z0 z1 z2
    refine (HCH.out _).mono ?_
    rintro e w1 ⟨rfl, hb1⟩
    have HB1 := Lib.hid (blN HB0.out hb1)
    clear hb1
    go_wp2
    first | exact HN.out _ HB1.out | (go_ret2; exact HN.out _ HB1.out)
  rw [Geom.check_ok hg] at hch
  by_cases hs : s.size = 64
  rotate_left
  · have q1 : ((s.size : Int) != 64) = true := bne_iff_ne.2 (by omega)
    have HN := Lib.hid (fun w' => hno w' 60 (by decide) (by unfold listC; rw [if_pos hg, if_neg (fun h => hs h.1)]))
    obtain ⟨Q, hQ⟩ : ∃ Q, ListPost g s w = Q := ⟨_, rfl⟩
    rw [hQ] at HN ⊢
    obtain ⟨ga, gb, gc⟩ := g
    unfold gV at hch ⊢
    obtain ⟨W0, hW0⟩ : ∃ W, w.alloc (.cells #[.int .i64 ga, .int .i64 gb, .int .i64 gc] 27) = W := ⟨_, rfl⟩
    have hk := g_keep hW0
    have HB0 := Lib.hid hk.1
    have HK := Lib.hid hk.2
    clear hk
    have HCH := Lib.hid hch
    clear hch
    clear hno hg hQ hs
    obtain ⟨z0, z1, z2⟩ := HK.out W0 (Below.refl _ _)
    go_enter Tryz.func182, Tryz.ntmps182
    go_wp2_with fail
    clear z0 z1 z2
    refine (HCH.out _).mono ?_
    rintro e w1 ⟨rfl, hb1⟩
    have HB1 := Lib.hid (blN HB0.out hb1)
    clear hb1
    go_wp2
    first | exact HN.out _ HB1.out | (go_ret2; exact HN.out _ HB1.out)
  have q1 : ((s.size : Int) != 64) = false := bne_eq_false_iff_eq.2 (by omega)
  have hget := fun (W : World) (i : Nat) => fget_any W s (2 * (i : Int)) 2
  have hgb := fun i : Nat => (show getC s (2 * (i : Int)) 2 = getC s (2 * (i : Int)) 2 from rfl)
  have hbk := fun (W : World) (v : Value) (hv : Ints W v (listOf s)) => iblocks_any W g v (listOf s) hv
  have hno2 : ∀ w', ¬ (∀ b ∈ listOf s, blockOk g b) → Below w.heap.size w w' → ListPost g s w (.returned (.tuple #[.slice none 0 0, .int .i64 60])) w' := fun w' h hb => hno w' 60 (by decide) (by unfold listC; rw [if_pos hg, if_neg (fun hh => h hh.2)]) hb
  have hyes : ∀ v w', (∀ b ∈ listOf s, blockOk g b) → OwnR 3 1 intC w.heap.size w' v (listOf s) → Below w.heap.size w w' → ListPost g s w (.returned (.tuple #[v, .int .i64 0])) w' := fun v w' h hr hb => by
    have hc : listC g s = 0 := by unfold listC; rw [if_pos hg, if_pos ⟨hs, h⟩]
    exact ⟨v, by rw [hc], by rw [hc, if_pos rfl]; exact hr, hb⟩
  obtain ⟨d, hd⟩ : ∃ d, decide (∀ b ∈ listOf s, blockOk g b) = d := ⟨_, rfl⟩
  have hdt : d = true → ∀ b ∈ listOf s, blockOk g b := fun h => of_decide_eq_true (hd.trans h)
  have hdf : d = false → ¬ ∀ b ∈ listOf s, blockOk g b := fun h => of_decide_eq_false (hd.trans h)
  rw [hd] at hbk
  have hstep : ∀ i : Nat, (List.range (i + 1)).map (fun i : Nat => getN s (2 * (i : Int)) 2) = (List.range i).map (fun i : Nat => getN s (2 * (i : Int)) 2) ++ [getN s (2 * (i : Int)) 2] := fun i => by rw [List.range_succ, List.map_append]; rfl
  have hll : ∀ i : Nat, ((List.range i).map (fun i : Nat => getN s (2 * (i : Int)) 2)).length = i := fun i => by simp
  have hfull : (List.range 32).map (fun i : Nat => getN s (2 * (i : Int)) 2) = listOf s := rfl
  obtain ⟨PL, hPL⟩ : ∃ PL : Nat → List Int, ∀ i, (List.range i).map (fun i : Nat => getN s (2 * (i : Int)) 2) = PL i := ⟨fun i => (List.range i).map (fun i : Nat => getN s (2 * (i : Int)) 2), fun _ => rfl⟩
  have hPL0 : PL 0 = [] := (hPL 0).symm
  simp only [hPL] at hstep hll hfull
  obtain ⟨Q, hQ⟩ : ∃ Q, ListPost g s w = Q := ⟨_, rfl⟩
  rw [hQ] at hno2 hyes ⊢
  obtain ⟨ga, gb, gc⟩ := g
  unfold gV at hch hbk ⊢
  obtain ⟨W0, hW0⟩ : ∃ W, w.alloc (.cells #[.int .i64 ga, .int .i64 gb, .int .i64 gc] 27) = W := ⟨_, rfl⟩
  have hk := g_keep hW0
  have HB0 := Lib.hid hk.1
  have HK := Lib.hid hk.2
  clear hk
  have HCH := Lib.hid hch
  have HGET := Lib.hid hget
  have HBK := Lib.hid hbk
  have HNO2 := Lib.hid hno2
  have HYES := Lib.hid hyes
  have HDT := Lib.hid hdt
  have HDF := Lib.hid hdf
  have HSTEP := Lib.hid hstep
  have HLL := Lib.hid hll
  have HFULL := Lib.hid hfull
  have HPL0 := Lib.hid hPL0
  clear hch hget hbk hno2 hyes hdt hdf hstep hll hfull hPL0
  clear hno hg hQ hs hd hgb hPL
  obtain ⟨z0, z1, z2⟩ := HK.out W0 (Below.refl _ _)
  go_enter Tryz.func182, Tryz.ntmps182
  go_wp2_with fail
  clear z0 z1 z2
  refine (HCH.out _).mono ?_
  rintro e w1 ⟨rfl, hb1⟩
  have HB1 := Lib.hid hb1
  clear hb1
  go_wp2
  go_loopw [7, 19] (fun out q wr => ∃ i : Nat, i ≤ 32 ∧ q = .int .i64 (i : Int) ∧ Hid (OwnR 3 1 intC W0.heap.size wr out (PL i)) ∧ Hid (Below W0.heap.size W0 wr)) (fun _ q _ => 32 - (intOf q).toNat)
  case atStart => exact ⟨0, by decide, rfl, by rw [HPL0.out]; exact OwnR.void _ _, HB1⟩
  case round =>
    obtain ⟨i, hi, rfl, HO, HB⟩ := hrel
    by_cases hlt : i < 32
    · have e1 : IntKind.i64.wrap (2 * (i : Int)) = 2 * (i : Int) := IntWalk.i64_in _ (by omega)
      have HG := Lib.hid (HGET.out)
      have hSt := HSTEP.out i
      obtain ⟨x, hx⟩ : ∃ x, getN s (2 * (i : Int)) 2 = x := ⟨_, rfl⟩
      obtain ⟨y, hy⟩ : ∃ x, getC s (2 * (i : Int)) 2 = x := ⟨_, rfl⟩
      have hg1 := fun W => HGET.out W i
      rw [hx, hy] at hg1
      rw [hx] at hSt
      have HSt := Lib.hid hSt
      have HG1 := Lib.hid hg1
      clear hg1
      clear hx hy HG hSt
      go_wp2_with fail
      refine (HG1.out _).mono ?_
      rintro e w5 ⟨rfl, hb5⟩
      have HB5 := Lib.hid (blN HB.out hb5)
      have HO5 := Lib.hid (OwnR.below HO.out hb5)
      have hll2 : (PL i).length ≤ 32 := by have := HLL.out i; omega
      clear hb5
      go_upto_region 11 with fail
      obtain ⟨ia6, ib6, ic6, id6, ie6⟩ := info_parts infoInt
      have hrow6 := HO5.out
      unfold OwnR at hrow6
      have HRow6 := Lib.hid hrow6
      clear hrow6
      have HIb6 := Lib.hid ib6
      have HIc6 := Lib.hid ic6
      have HId6 := Lib.hid id6
      have HIe6 := Lib.hid ie6
      clear ib6 ic6 id6 ie6
      go_wp2_with (at_builtin; refine wpList_append_lies _ rfl _ _ _ rfl W0.heap.size 3 ia6 _ 1 8 Tryz.underlying48 HIb6.out HIc6.out HId6.out HIe6.out rfl (by decide) _ _ _ rfl (HRow6.out.alloc _) ⟨w5.heap.size, 0, none⟩ 1 1 [.int .i64 x] rfl rfl (World.news_of_block (cs := #[.int .i64 x]) (t := 3) (fr := (0, 0)) (heapNew w5 _)) (by simp [Value.oneCell']) (by omega) ?c1 ?c2 ?c3 (w5.heap.size + 1) (by simp) ?_)
      case c1 => unfold maxLen; omega
      case c2 => omega
      case c3 => have := HB5.out.size; simp; omega
      intro g6 cap6 w6 hown6 hgrow6 hat6 hlt6
      have HO6 := Lib.hid (OwnR.snoc (f := intC) (x := x) hown6 rfl rfl)
      have HB6 : Hid (Below W0.heap.size _ w6) := Below.grown (bl1 HB5.out _) hgrow6 (bl1 HB5.out _).size (fun q hq => (HRow6.out.lt q hq).1)
      clear hown6 hgrow6 hat6 hlt6 HRow6
      go_wp2
      go_roundw
      case rel => exact ⟨i + 1, by omega, by go_num, by rw [HSt.out]; exact HO6, HB6⟩
      case measure => simp [intOf]; omega
    · obtain rfl : i = 32 := by omega
      have ho := HO.out
      rw [HFULL.out] at ho
      have hb_ := HBK.out wr _ (OwnR.row (f := intC) (fun _ _ => rfl) ho)
      have HO2 := Lib.hid ho
      have HB_ := Lib.hid hb_
      clear hb_
      obtain ⟨z0, z1, z2⟩ := HK.out wr HB.out
      clear ho
      cases d with
      | true =>
        have HEnd := Lib.hid (fun v w' => HYES.out v w' (HDT.out rfl))
        have HSz := Lib.hid HB0.out.size
        go_wp2_with fail
        clear z0 z1 z2
        refine HB_.out.mono ?_
        rintro e w6 ⟨rfl, hb6⟩
        have HB6 := Lib.hid (blN HB0.out (blN HB.out hb6))
        have HO6 := Lib.hid ((OwnR.below HO2.out hb6).mono HSz.out)
        clear hb6
        go_wp2
        first | exact HEnd.out _ _ HO6.out HB6.out | (go_ret2; exact HEnd.out _ _ HO6.out HB6.out)
      | false =>
        have HEnd := Lib.hid (fun w' => HNO2.out w' (HDF.out rfl))
        go_wp2_with fail
        clear z0 z1 z2
        refine HB_.out.mono ?_
        rintro e w6 ⟨rfl, hb6⟩
        have HB6 := Lib.hid (blN HB0.out (blN HB.out hb6))
        clear hb6
        go_wp2
        first | exact HEnd.out _ HB6.out | (go_ret2; exact HEnd.out _ HB6.out)
end
end Go.Proofs.YtaphcmcimoloiaaGreatDoor
