/-
  Walks of layer 31: the law DumpBack.
-/
import Derived.Test.YtmljdnlmpiklgaaGreatDoorLoadAll
import Derived.Test.YtmljdnlmpiklgaaGreatDoorSpLoadC
import Derived.Test.YtmljdnlmpiklgaaGreatDoorDumpD
import Derived.Test.YtmljdnlmpiklgaaGreatDoorNamesA
namespace Go.Proofs.YtmljdnlmpiklgaaGreatDoor
open Go Go.RowKit Txt Sp

theorem take_text {s : ByteArray} {k : Nat} (h : k < s.size) : s.data.toList.take (k + 1) = s.data.toList.take k ++ [s[k]] := take_step (at_data s k h)
section
set_option maxHeartbeats 8000000
set_option maxRecDepth 20000 in
theorem dumpBack_any (w : World) (g : Sp.Geom) (v : Value) (l : List ByteArray) (hv : Texts w v l) (ht : TabOk w) (hm : MaxOk w) :
    Calls Tryz.prog 4 #[gV g, v] w fun e w' => e = .returned (.bool true) ∧ Below w.heap.size w w' := by
  have hwk := fun W : World => fun (hW : Below w.heap.size w W) => works31_any W (ht.below hW) (hm.below hW)
  have htx := fun (W : World) (hW : Below w.heap.size w W) => dtext_any W g v l (hv.below hW) (ht.below hW) (hm.below hW)
  unfold TextPost at htx
  by_cases hs : shapeP g l
  rotate_left
  focus
    have h1 : textN g l = (⟨#[]⟩, 4) := if_neg hs
    rw [h1] at htx
    dsimp only at htx
    obtain ⟨ga, gb, gc⟩ := g
    unfold gV at htx ⊢
    have HWK := Lib.hid hwk
    have HTX := Lib.hid htx
    clear hwk htx
    clear hv ht hm hs h1
    obtain ⟨W0, hW0⟩ : ∃ W, w.alloc (.cells #[.int .i64 ga, .int .i64 gb, .int .i64 gc] 23) = W := ⟨_, rfl⟩
    have hk := g_keep hW0
    have HB0 := Lib.hid hk.1
    have HK := Lib.hid hk.2
    clear hk
    obtain ⟨z0, z1, z2⟩ := HK.out W0 (Below.refl _ _)
    go_enter Tryz.func4, Tryz.ntmps4
    go_wp2_with fail
    refine (HWK.out _ HB0.out).mono ?_
    rintro e w1 ⟨rfl, hb1⟩
    have HB1 : Hid (Below W0.heap.size W0 w1) := hb1
    clear hb1 z0 z1 z2
    obtain ⟨z0, z1, z2⟩ := HK.out w1 HB1.out
    go_wp2_with fail
    refine (HTX.out _ (blN HB0.out HB1.out)).mono ?_
    rintro e w2 ⟨rfl, hb2⟩
    have HB2 := Lib.hid (blN HB1.out hb2)
    clear hb2 z0 z1 z2
    go_wp2
    go_ret
    exact ⟨rfl, blN HB0.out HB2.out⟩
  have h1 : textN g l = (ofL (textFrom 0 g l), 0) := if_pos hs
  have hfe := feeds (g := g) l 0
  have hld := fun (W : World) (hW : Below w.heap.size w W) => dload_any W g (textN g l).1 (ht.below hW) (hm.below hW)
  unfold LoadPost at hld
  rw [load_back hs, h1] at hld
  rw [h1] at htx
  dsimp only at htx hld
  have hlen : (l.length : Int) = g.size := hs.2.1
  have hsz := fun W : World => gsize_any W g
  rw [← hlen] at hsz
  obtain ⟨T, hT⟩ : ∃ T, ofL (textFrom 0 g l) = T := ⟨_, rfl⟩
  have hTl : textFrom 0 g l = T.data.toList := by rw [← hT, ofL_data]
  rw [hTl] at hfe
  rw [hT] at htx hld
  have HV : Hid (∀ W, Below w.heap.size w W → Texts W v l) := fun W hW => hv.below hW
  have hll : l.length ≤ 403 := by have := Geom.size_bd hs.1; omega
  have hat : ∀ (i : Nat) (h : i < T.size) (W : World), (Instr.index 9 (.string T) (.int .i64 (i : Int))).run Tryz.prog W = .ok (.int .u8 (T[i].toNat : Int)) W := fun i h W => text_lit W h
  have hTs : T.data.toList.length = T.size := rfl
  have hcl : ∀ k, (T.data.toList.take k).count 10 ≤ 403 := fun k => by
    have h2 : (T.data.toList.take k).count 10 ≤ T.data.toList.count 10 := List.Sublist.count_le 10 (List.take_sublist k _)
    omega
  have hst : ∀ k (h : k < T.size), (T.data.toList.take (k + 1)).count 10 = (T.data.toList.take k).count 10 + (if T[k] = 10 then 1 else 0) := fun k h => by
    rw [take_text h, List.count_append, List.count_singleton]
    by_cases e : T[k] = 10
    · rw [if_pos e, e]; rfl
    · rw [if_neg e, if_neg (by simpa using e)]
  have hend : (T.data.toList.take T.size).count 10 = l.length := by rw [← hTs, List.take_length]; exact hfe
  obtain ⟨C, hC⟩ : ∃ C : Nat → Nat, (fun k => (T.data.toList.take k).count 10) = C := ⟨_, rfl⟩
  have hCe : ∀ k, (T.data.toList.take k).count 10 = C k := fun k => by rw [← hC]
  have hC0 : C 0 = 0 := by rw [← hC]; rfl
  simp only [hCe] at hcl hst hend
  obtain ⟨N, hN⟩ : ∃ N, T.size = N := ⟨_, rfl⟩
  obtain ⟨X, hX⟩ : ∃ X : Nat → Nat, ∀ (i : Nat) (h : i < T.size), T[i].toNat = X i := ⟨fun i => if h : i < T.size then T[i].toNat else 0, fun i h => by simp [h]⟩
  have hst2 : ∀ k, k < N → C (k + 1) = C k + (if X k = 10 then 1 else 0) := fun k h => by
    rw [hst k (by omega), ← hX k (by omega)]
    by_cases e : T[k]'(by omega) = 10
    · rw [if_pos e, if_pos (by rw [e]; rfl)]
    · rw [if_neg e, if_neg (fun h : T[k].toNat = 10 => e (UInt8.toNat_inj.1 (h : T[k].toNat = (10 : UInt8).toNat)))]
  have hat2 : ∀ (i : Nat) (h : i < N) (W : World), (Instr.index 9 (.string T) (.int .i64 (i : Int))).run Tryz.prog W = .ok (.int .u8 (X i : Int)) W := fun i h W => by
    rw [hat i (by omega), hX]
  rw [hN] at hend
  have hNb : N ≤ 1000000 := by
    have := textFrom_le hs.1 l 0 hs.2.2 (by omega)
    rw [hTl] at this
    omega
  obtain ⟨ga, gb, gc⟩ := g
  unfold gV at htx hld hsz ⊢
  have HNs := Lib.hid hN
  have HC0 := Lib.hid hC0
  have HWK := Lib.hid hwk
  have HTX := Lib.hid htx
  have HLD := Lib.hid hld
  have HSZ := Lib.hid hsz
  have HCL := Lib.hid hcl
  have HST2 := Lib.hid hst2
  have HAT2 := Lib.hid hat2
  have HEND := Lib.hid hend
  clear hwk htx hld hsz hcl hst2 hat2 hend
  clear hv ht hm hs h1 hfe hlen hT hTl hll hat hTs hst hC hCe hX hN hC0
  obtain ⟨W0, hW0⟩ : ∃ W, w.alloc (.cells #[.int .i64 ga, .int .i64 gb, .int .i64 gc] 23) = W := ⟨_, rfl⟩
  have hk := g_keep hW0
  have HB0 := Lib.hid hk.1
  have HK := Lib.hid hk.2
  clear hk
  obtain ⟨z0, z1, z2⟩ := HK.out W0 (Below.refl _ _)
  go_enter Tryz.func4, Tryz.ntmps4
  go_wp2_with fail
  refine (HWK.out _ HB0.out).mono ?_
  rintro e w1 ⟨rfl, hb1⟩
  have HB1 : Hid (Below W0.heap.size W0 w1) := hb1
  clear hb1 z0 z1 z2
  obtain ⟨z0, z1, z2⟩ := HK.out w1 HB1.out
  go_wp2_with fail
  refine (HTX.out _ (blN HB0.out HB1.out)).mono ?_
  rintro e w2 ⟨rfl, hb2⟩
  have HB2 := Lib.hid (blN HB1.out hb2)
  clear hb2 z0 z1 z2
  have hN := HNs.out
  go_wp2_with fail
  go_loopw [7, 26] (fun n i wr => ∃ k : Nat, k ≤ N ∧ i = .int .i64 (k : Int) ∧ n = .int .i64 (C k : Int) ∧ Hid (Below W0.heap.size W0 wr)) (fun _ i _ => N - (intOf i).toNat)
  case atStart => exact ⟨0, Nat.zero_le _, rfl, by rw [HC0.out]; rfl, HB2⟩
  case round =>
    obtain ⟨k, hk, rfl, rfl, HB⟩ := hrel
    by_cases hlt : k < N
    · have x1 := HAT2.out k hlt
      have hs := HST2.out k hlt
      have hcl := HCL.out k
      obtain ⟨c, hc⟩ : ∃ c, C k = c := ⟨_, rfl⟩
      obtain ⟨b, hb⟩ : ∃ b, X k = b := ⟨_, rfl⟩
      have e1 : IntKind.i64.wrap ((c : Int) + 1) = (c : Int) + 1 := IntWalk.i64_in _ (by omega)
      rw [hc] at hs hcl ⊢
      rw [hb] at hs x1
      by_cases h10 : b = 10
      · rw [if_pos h10] at hs
        have q1 : ((b : Int) == 10) = true := beq_iff_eq.2 (by omega)
        have HS := Lib.hid hs
        clear hs hc hb h10
        go_wp2
        go_roundw
        case rel => exact ⟨k + 1, by omega, by go_num, by rw [HS.out]; go_num, HB⟩
        case measure => simp [intOf]; omega
      · rw [if_neg h10] at hs
        have q1 : ((b : Int) == 10) = false := beq_eq_false_iff_ne.2 (by omega)
        have HS := Lib.hid hs
        clear hs hc hb h10
        go_wp2
        go_roundw
        case rel => exact ⟨k + 1, by omega, by go_num, by rw [HS.out]; rfl, HB⟩
        case measure => simp [intOf]; omega
    · obtain rfl : k = N := by omega
      have HE := HEND.out
      rw [HE]
      obtain ⟨z0, z1, z2⟩ := HK.out wr HB.out
      go_wp2_with fail
      refine (HLD.out _ (blN HB0.out HB.out)).mono ?_
      rintro e w3 ⟨lv, rfl, ho3, hb3⟩
      have HB3 := Lib.hid (blN HB.out hb3)
      have HT3 := Lib.hid (OwnTexts.texts (OwnS.texts ho3))
      clear hb3 ho3 z0 z1 z2
      obtain ⟨z0, z1, z2⟩ := HK.out w3 HB3.out
      go_wp2_with fail
      with_reducible refine (sameTexts_yes _ _ l w3 HT3.out (HV.out _ (blN HB0.out HB3.out))).mono ?_
      rintro e w4 ⟨rfl, hb4⟩
      have HB4 := Lib.hid (blN HB3.out hb4)
      clear hb4 z0 z1 z2
      obtain ⟨z0, z1, z2⟩ := HK.out w4 HB4.out
      go_wp2_with fail
      refine (HSZ.out _).mono ?_
      rintro e w5 ⟨rfl, hb5⟩
      have HB5 := Lib.hid (blN HB4.out hb5)
      clear hb5 z0 z1 z2
      go_wp2
      go_ret
      exact ⟨rfl, blN HB0.out HB5.out⟩
end
end Go.Proofs.YtmljdnlmpiklgaaGreatDoor
