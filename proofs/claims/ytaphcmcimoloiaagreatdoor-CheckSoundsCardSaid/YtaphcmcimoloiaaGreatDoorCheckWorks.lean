/-
  Walks of layer 19: works.
-/
import Derived.Test.YtaphcmcimoloiaaGreatDoorCheckDisk
import Derived.Test.YtaphcmcimoloiaaGreatDoorAllocA
import Derived.Test.YtaphcmcimoloiaaGreatDoorBookFit
namespace Go.Proofs.YtaphcmcimoloiaaGreatDoor
open Go Go.RowKit Txt Sp

theorem ex_L : (formatL gEx).length = 10 := by rw [formatL_length, ex_size]; rfl
theorem ex_at {k : Nat} (hk : k < 10) : (formatL gEx)[k]? = some (secAt gEx (k : Int)) := formatL_at gEx (by rw [ex_size]; exact hk)
theorem ex_fit : ofL (patchL (zeros 64) 0 [1]) = ofL (1 :: zeros 63) := by decide +kernel
theorem ex_shape : ShapeOk gEx 10 (secAt gEx) := ⟨ex_ok, ex_size.symm, fun k _ => secAt_size gEx k⟩
theorem ex_shape2 : ShapeOk gEx 10 secEx := ⟨ex_ok, ex_size.symm, fun k _ => by
  unfold secEx
  split
  · rw [ofL_size]; rfl
  · exact secAt_size gEx k⟩
theorem ex_diskA : diskL gEx (secAt gEx) = [] := by unfold diskL; rw [ex_clean]; exact List.mergeSort_nil
theorem ex_diskB : diskL gEx secEx = [(10, 7)] := by unfold diskL; rw [ex_block]; exact List.mergeSort_singleton _
theorem ex_secs {w : World} {base : Nat} {v : Value} (h : OwnTexts base w v (formatL gEx)) : ∃ b cap, v = .slice (some ⟨b, 0, none⟩) 10 cap ∧ base ≤ b ∧ b < w.heap.size ∧ ∃ cur e, w.heap[b]? = some (.cells cur e (0, 0)) ∧ ∀ k : Nat, k < 10 → cur[k]? = some (.string (secAt gEx (k : Int))) := by
  obtain ⟨e, hx, ⟨rfl, h0⟩ | ⟨g, cap, cur, rfl, hg, hh, hnc, hm, hcs, htk⟩⟩ := h
  · rw [ex_L] at h0; cases h0
  · rw [ex_L] at htk ⊢
    refine ⟨g, cap, rfl, hg, (Array.getElem?_eq_some_iff.1 hh).1, cur, e, hh, fun k hk => ?_⟩
    have h2 : (cur.toList.take (10 * 1))[k]? = some (.string (secAt gEx (k : Int))) := by rw [htk, List.getElem?_map, ex_at hk]; rfl
    rw [List.getElem?_take_of_lt (by omega)] at h2
    simpa using h2
theorem eql_ex (w : World) : (binOp .eql 107 (.agg #[.int .i64 10, .int .i64 7]) (.agg #[.int .i64 10, .int .i64 7])).run Tryz.prog w = .ok (.bool true) w := by kernel_rfl
section
set_option maxHeartbeats 8000000
set_option maxRecDepth 20000 in
theorem works19_any (w : World) (hm : MaxOk w) : Calls Tryz.prog 15 #[] w fun e w' => e = .returned (.bool true) ∧ Below w.heap.size w w' := by
  have hfm := fun W : World => aformat_any W gEx
  unfold FormatPost at hfm
  rw [if_pos ex_ok, Geom.check_ok ex_ok] at hfm
  have hd1 := fun (W : World) (vs : Value) (hs : SecsAt W vs 10 (secAt gEx) (fun _ => False)) (hm : MaxOk W) => cdisk_any W gEx hs hm
  have hd2 := fun (W : World) (vs : Value) (hs : SecsAt W vs 10 secEx (fun _ => False)) (hm : MaxOk W) => cdisk_any W gEx hs hm
  unfold gEx gV at hfm hd1 hd2
  change ∀ W : World, Calls _ _ _ W (fun e w' => ∃ v, e = .returned (.tuple #[v, .int .i64 0]) ∧ OwnTexts W.heap.size w' v (formatL gEx) ∧ Below W.heap.size W w') at hfm
  change ∀ (W : World) (vs : Value), _ → _ → Calls _ _ _ W (DiskPost W gEx 10 (secAt gEx)) at hd1
  change ∀ (W : World) (vs : Value), _ → _ → Calls _ _ _ W (DiskPost W gEx 10 secEx) at hd2
  dsimp only at hd1 hd2
  have hft := fun W : World => fit_any W ⟨#[1]⟩ (by decide)
  have hfe : ofL (patchL (zeros 64) 0 (⟨#[1]⟩ : ByteArray).data.toList) = ofL (1 :: zeros 63) := ex_fit
  rw [hfe] at hft
  obtain ⟨X, hX⟩ : ∃ X, ofL (1 :: zeros 63) = X := ⟨_, rfl⟩
  rw [hX] at hft
  have HX : Hid (∀ k : Nat, secEx (k : Int) = if k = 4 then X else secAt gEx (k : Int)) := fun k => by
    unfold secEx
    rw [hX]
    by_cases e : k = 4
    · rw [if_pos (by omega), if_pos e]
    · rw [if_neg (by omega), if_neg e]
  have HM := Lib.hid hm
  have heq := fun W : World => eql_ex W
  clear hX hm hfe
  have HFM := Lib.hid hfm
  have HD1 := Lib.hid hd1
  have HD2 := Lib.hid hd2
  have HFT := Lib.hid hft
  clear hfm hd1 hd2 hft
  go_enter Tryz.func15, Tryz.ntmps15
  obtain ⟨W0, hW0⟩ : ∃ W, w.alloc (.cells #[.int .i64 1, .int .i64 2, .int .i64 3] 27) = W := ⟨_, rfl⟩
  have hk := g_keep hW0
  have HB0 := Lib.hid hk.1
  have HK := Lib.hid hk.2
  clear hk
  obtain ⟨z0, z1, z2⟩ := HK.out W0 (Below.refl _ _)
  go_wp2_with fail
  clear z0 z1 z2
  refine (HFM.out _).mono ?_
  rintro e w1 ⟨v, rfl, ho, hb1⟩
  obtain ⟨b, cap, rfl, hbb, hblt, cur, et, hh, hcur⟩ := ex_secs ho
  have HB1 : Hid (Below W0.heap.size W0 w1) := hb1
  have HS1 : Hid (SecsAt w1 (.slice (some ⟨b, 0, none⟩) (10 : Nat) cap) 10 (secAt gEx) (fun _ => False)) := ⟨b, 0, cap, rfl, hblt, fun h => h, by decide, fun k hk => by rw [Nat.zero_add]; exact cellOf hh (hcur k hk)⟩
  have HHh := Lib.hid hh
  have HCur := Lib.hid hcur
  have HBb : Hid (w.heap.size ≤ b ∧ W0.heap.size ≤ b) := ⟨Nat.le_trans HB0.out.size hbb, hbb⟩
  clear hb1 ho hh hcur hblt hbb
  obtain ⟨z0, z1, z2⟩ := HK.out w1 HB1.out
  have hcall1 := HD1.out w1 _ HS1.out (HM.out.below (blN HB0.out HB1.out))
  have HCALL1 := Lib.hid hcall1
  clear hcall1
  go_wp2_with fail
  clear z0 z1 z2
  refine HCALL1.out.mono ?_
  rintro e w2 ⟨hb2, ⟨-, va, rfl, hoa⟩ | ⟨hno, -⟩⟩
  rotate_left
  · exact absurd ex_shape hno
  rw [ex_diskA] at hoa
  obtain ⟨ada, cpa, rfl⟩ := hoa.form
  have HB2 : Hid (Below W0.heap.size W0 w2) := blN HB1.out hb2
  have HH2 : Hid (w2.heap[b]? = some (.cells cur et (0, 0))) := heapOld hb2 HHh.out
  clear hb2 hoa
  go_wp2_with fail
  refine (HFT.out _).mono ?_
  rintro e w3 ⟨rfl, hb3⟩
  have HB3 : Hid (Below W0.heap.size W0 w3) := blN HB2.out hb3
  have hh3 := heapOld hb3 HH2.out
  have c4 : w3.cell? ⟨b, 4, none⟩ = some (.string (secAt gEx 4)) := cellOf hh3 (HCur.out 4 (by decide))
  have f4 : w3.frozen? ⟨b, 4, none⟩ = false := freeOf hh3
  obtain ⟨W4, hW4⟩ : ∃ W, w3.setCell ⟨b, 4, none⟩ (.string X) = W := ⟨_, rfl⟩
  have HB4 : Hid (Below W0.heap.size W0 W4) := by rw [← hW4]; exact HB3.out.setCell (p := ⟨b, 4, none⟩) HBb.out.2 _
  have HS4 : Hid (SecsAt W4 (.slice (some ⟨b, 0, none⟩) (10 : Nat) cap) 10 secEx (fun _ => False)) := by
    refine ⟨b, 0, cap, rfl, ?_, fun h => h, by decide, fun k hk => ?_⟩
    · have := (Array.getElem?_eq_some_iff.1 hh3).1
      have h2 : w3.heap.size ≤ W4.heap.size := by rw [← hW4]; exact ((Below.refl 0 w3).setCell (p := ⟨b, 4, none⟩) (Nat.zero_le _) _).size
      omega
    · have hat := setHeap_at (k := 4) hh3 (.string X)
      rw [hW4] at hat
      rw [Nat.zero_add, HX.out k]
      refine cellOf hat ?_
      have hk2 : k < cur.size := (Array.getElem?_eq_some_iff.1 (HCur.out k hk)).1
      by_cases e : k = 4
      · rw [if_pos e, e]
        subst e
        simp [hk2]
      · rw [if_neg e]
        rw [Array.getElem?_setIfInBounds_ne (Ne.symm e)]
        exact HCur.out k hk
  have hcall2 := HD2.out W4 _ HS4.out (HM.out.below (blN HB0.out HB4.out))
  have HCALL2 := Lib.hid hcall2
  clear hcall2
  obtain ⟨z0, z1, z2⟩ := HK.out W4 HB4.out
  clear hb3 hh3
  go_wp2_with fail
  clear z0 z1 z2 c4 f4 hW4
  refine HCALL2.out.mono ?_
  rintro e w5 ⟨hb5, ⟨-, vb, rfl, hob⟩ | ⟨hno, -⟩⟩
  rotate_left
  · exact absurd ex_shape2 hno
  rw [ex_diskB] at hob
  have hrow := OwnR.row (f := defC) (size := 2) (fun _ _ => rfl) hob
  obtain ⟨ad, n, cp, rfl, HN, -, HF⟩ := RowAt.facts hrow
  have hn1 : n = 1 := HN.out
  subst hn1
  obtain ⟨b2, o2, x, rfl, hb2, hx, hc⟩ := HF.out 0 (by decide)
  have hx : (10, 7) = x := by simpa using hx
  subst hx
  have y0 : w5.cell? ⟨b2, o2, none⟩ = some (.int .i64 10) := hc 0 _ rfl
  have y1 : w5.cell? ⟨b2, o2 + 1, none⟩ = some (.int .i64 7) := hc 1 _ rfl
  have HB5 := Lib.hid (blN HB0.out (blN HB4.out hb5))
  clear hb5 hob hrow hc hb2
  go_wp2
  go_ret
  exact ⟨rfl, HB5.out⟩
end
end Go.Proofs.YtaphcmcimoloiaaGreatDoor
