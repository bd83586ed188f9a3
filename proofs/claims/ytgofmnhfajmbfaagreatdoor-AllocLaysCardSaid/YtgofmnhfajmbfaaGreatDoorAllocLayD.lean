/-
  Walks of layer 15: Lay once more: what kinds of block it turns; where nothing is laid.
-/
import Derived.Test.YtgofmnhfajmbfaaGreatDoorAllB
import Derived.Test.YtgofmnhfajmbfaaGreatDoorDiskWrite
namespace Go.Proofs.YtgofmnhfajmbfaaGreatDoor
open Go Go.RowKit Txt Sp

section
set_option maxHeartbeats 4000000
set_option maxRecDepth 20000 in
theorem alayD_any {w : World} {base Bd : Nat} {d : Sp.Disk} {D : Nat → Prop} (h : DiskAt w base Bd d D) (hD : ∀ j, D j → j < w.heap.size) {g : Sp.Geom} (hg : g.ok) (hl : d.l.length = g.size.toNat) :
    Calls Tryz.prog 10 #[pt Bd, gV g] w fun e w' => e = .returned (.int .i64 0) ∧ DiskAt w' base Bd { d with l := formatL g } D ∧ DskTurn w D w' := by
  have hz := Geom.size_bd hg
  have hfm := fun W : World => aformat_any W g
  have hF : (formatL g).length = g.size.toNat := formatL_length g
  have hsz := fun (W : World) (hW : Below w.heap.size w W) => diskSize_any (h.below hW)
  have hlay := fun (W : World) (k : Nat) (x : ByteArray) (hx : (formatL g)[k]? = some x) (hd : DiskAt W base Bd { d with l := (formatL g).take k ++ d.l.drop k } D) => diskLay_any hd (k : Int) x
  have hone : ∀ (k : Nat) (x : ByteArray), (formatL g)[k]? = some x → Sp.Disk.layC { d with l := (formatL g).take k ++ d.l.drop k } (k : Int) x = 0 ∧ Sp.Disk.lay { d with l := (formatL g).take k ++ d.l.drop k } (k : Int) x = { d with l := (formatL g).take (k + 1) ++ d.l.drop (k + 1) } := fun k x hx => by
    have hk := (List.getElem?_eq_some_iff.1 hx).1
    have hc : Sp.Disk.layC { d with l := (formatL g).take k ++ d.l.drop k } (k : Int) x = 0 := by
      unfold Sp.Disk.layC
      rw [if_pos, if_pos (secs_size g hx)]
      refine ⟨by omega, ?_⟩
      show (k : Int) < (((formatL g).take k ++ d.l.drop k).length : Int)
      rw [List.length_append, List.length_take, List.length_drop]
      omega
    refine ⟨hc, ?_⟩
    unfold Sp.Disk.lay
    rw [if_pos hc, Int.toNat_natCast]
    dsimp only
    rw [lay_step hx (by rw [hl, hF])]
  have heq := eql_disk_nil
  have hdl : ∀ (W w' : World), DiskAt w' base Bd { d with l := (formatL g).take (formatL g).length ++ d.l.drop (formatL g).length } D → DiskAt w' base Bd { d with l := formatL g } D := fun W w' hh => by
    rw [List.take_length, List.drop_of_length_le (by rw [hl, hF]; exact Nat.le_refl _), List.append_nil] at hh
    exact hh
  unfold FormatPost at hfm
  rw [Geom.check_ok hg, if_pos hg] at hfm
  obtain ⟨F, hFd⟩ : ∃ F, formatL g = F := ⟨_, rfl⟩
  rw [hFd] at hfm hF hlay hone hdl ⊢
  have hpos : 0 < F.length := by omega
  have HD0 : Hid (DiskAt w base Bd d D) := h
  obtain ⟨ga, gb, gc⟩ := g
  unfold gV at hfm ⊢
  unfold pt at hsz hlay ⊢
  rw [hl, ← hF] at hsz
  obtain ⟨N, hN⟩ : ∃ N, F.length = N := ⟨_, rfl⟩
  rw [hN] at hsz hdl hpos
  have HN := Lib.hid hN
  have hnl : N ≤ 403 := by omega
  obtain ⟨W0, hW0⟩ : ∃ W, w.alloc (.cells #[.int .i64 ga, .int .i64 gb, .int .i64 gc] 23) = W := ⟨_, rfl⟩
  have hk := g_keep hW0
  have HB0 := Lib.hid hk.1
  have HK := Lib.hid hk.2
  clear hk
  have HFM := Lib.hid hfm
  have HSZ := Lib.hid hsz
  have HLAY := Lib.hid hlay
  have HONE := Lib.hid hone
  have HDL := Lib.hid hdl
  have HD := Lib.hid hD
  clear hfm hsz hlay hone hdl hD
  clear h hg hl hz hF hFd hN
  obtain ⟨z0, z1, z2⟩ := HK.out W0 (Below.refl _ _)
  go_enter Tryz.func10, Tryz.ntmps10
  go_wp2_with fail
  clear z0 z1 z2
  refine (HFM.out _).mono ?_
  rintro e w1 ⟨v, rfl, hv, hb1⟩
  have HB1 := Lib.hid (blN HB0.out hb1)
  have hge : w.heap.size ≤ W0.heap.size := HB0.out.size
  clear hb1
  obtain ⟨b, cap, o, rfl, hb2, hb3, ho, hcell⟩ := own_at hv (by have := HN.out; omega)
  rw [HN.out]
  have HO := Lib.hid ho
  have HCell := Lib.hid hcell
  have HND : Hid (¬ D b) := fun hd => by have := HD.out _ hd; omega
  clear hv ho hcell hge
  go_wp2_with fail
  refine (HSZ.out _ HB1.out).mono ?_
  rintro e w2 ⟨rfl, hw2⟩
  subst hw2
  go_wp2
  go_loopw [28] (fun i wr => ∃ k : Nat, k ≤ N ∧ i = .int .i64 (k : Int) ∧ Hid (DiskAt wr base Bd { d with l := F.take k ++ d.l.drop k } D) ∧ Hid (DskTurn w2 D wr)) (fun i _ => N - (intOf i).toNat)
  case atStart => exact ⟨0, Nat.zero_le _, rfl, HD0.out.below HB1.out, DskTurn.of_below (Below.refl _ _)⟩
  case round =>
    obtain ⟨k, hk, rfl, HDk, HTk⟩ := hrel
    by_cases hlt : k < N
    · obtain ⟨x, hx⟩ : ∃ x, F[k]? = some x := ⟨_, List.getElem?_eq_getElem (by have := HN.out; omega)⟩
      have hwo : wr.heap[b]? = some o := by
        obtain ⟨K, hK, -, hT⟩ := HTk.out
        exact hT.heap HO.out (fun h => HND.out (hK _ h))
      have c0 := HCell.out wr hwo k x hx
      have hl := HLAY.out wr k x hx HDk.out
      have h1 := HONE.out k x hx
      rw [h1.1, h1.2] at hl
      have HL := Lib.hid hl
      clear hl h1 hwo hx
      go_wp2_with fail
      refine HL.out.mono ?_
      rintro e w4 ⟨rfl, hd4, K4, hK4, hty4, hT4⟩
      have HD4 := Lib.hid hd4
      have HT4 : Hid (DskTurn w2 D w4) := DskTurn.trans (fun j hj => by have := HD.out j hj; have := HB1.out.size; omega) HTk.out ⟨K4, hK4, fun j hj => by
        obtain ⟨cs, fr, h⟩ := hty4 j hj
        exact Or.inl ⟨cs, fr, _, h, Or.inr rfl⟩, hT4⟩
      clear hd4 hK4 hT4 hty4
      go_wp2
      go_roundw
      case rel => exact ⟨k + 1, by omega, by go_num, HD4, HT4⟩
      case measure => simp [intOf]; omega
    · obtain rfl : k = N := by omega
      have HEnd : Hid (DiskAt wr base Bd { d with l := F } D ∧ DskTurn w D wr) := ⟨HDL.out w wr HDk.out, DskTurn.trans HD.out (DskTurn.of_below HB1.out) HTk.out⟩
      go_wp2
      go_ret
      exact ⟨rfl, HEnd.out⟩
set_option maxRecDepth 20000 in
theorem alay_nil (w : World) (g : Sp.Geom) : Calls Tryz.prog 10 #[.pointer none, gV g] w fun e w' => e = .returned (.int .i64 5) ∧ Below w.heap.size w w' := by
  have heq := eql_disk_nil
  obtain ⟨ga, gb, gc⟩ := g
  unfold gV
  obtain ⟨W0, hW0⟩ : ∃ W, w.alloc (.cells #[.int .i64 ga, .int .i64 gb, .int .i64 gc] 23) = W := ⟨_, rfl⟩
  have hk := g_keep hW0
  have HB0 := Lib.hid hk.1
  have HK := Lib.hid hk.2
  clear hk
  obtain ⟨z0, z1, z2⟩ := HK.out W0 (Below.refl _ _)
  go_enter Tryz.func10, Tryz.ntmps10
  go_wp2
  go_ret
  exact ⟨rfl, HB0.out⟩
set_option maxRecDepth 20000 in
theorem alay_no {w : World} {base Bd : Nat} {d : Sp.Disk} {D : Nat → Prop} (h : DiskAt w base Bd d D) {g : Sp.Geom} (hg : ¬ (g.ok ∧ (d.l.length : Int) = g.size)) :
    Calls Tryz.prog 10 #[pt Bd, gV g] w fun e w' => e = .returned (.int .i64 4) ∧ Below w.heap.size w w' := by
  have heq := eql_disk_nil
  have hfm := fun W : World => aformat_any W g
  have hsz := fun (W : World) (hW : Below w.heap.size w W) => diskSize_any (h.below hW)
  unfold FormatPost at hfm
  by_cases hok : g.ok
  · rw [Geom.check_ok hok, if_pos hok] at hfm
    have hF : (formatL g).length = g.size.toNat := formatL_length g
    have hz := Geom.size_bd hok
    obtain ⟨F, hFd⟩ : ∃ F, formatL g = F := ⟨_, rfl⟩
    rw [hFd] at hfm hF
    have hne : (F.length : Int) ≠ (d.l.length : Int) := fun e => hg ⟨hok, by omega⟩
    have hq : ((F.length : Int) != (d.l.length : Int)) = true := bne_iff_ne.2 hne
    obtain ⟨N, hN⟩ : ∃ N, F.length = N := ⟨_, rfl⟩
    rw [hN] at hq
    have hpos : 0 < F.length := by omega
    have HN := Lib.hid hN
    have HPos := Lib.hid hpos
    obtain ⟨ga, gb, gc⟩ := g
    unfold gV at hfm ⊢
    unfold pt at hsz ⊢
    have HFM := Lib.hid hfm
    have HSZ := Lib.hid hsz
    clear hfm hsz
    clear h hg hok hz hF hFd hN hne hpos
    obtain ⟨W0, hW0⟩ : ∃ W, w.alloc (.cells #[.int .i64 ga, .int .i64 gb, .int .i64 gc] 23) = W := ⟨_, rfl⟩
    have hk := g_keep hW0
    have HB0 := Lib.hid hk.1
    have HK := Lib.hid hk.2
    clear hk
    obtain ⟨z0, z1, z2⟩ := HK.out W0 (Below.refl _ _)
    go_enter Tryz.func10, Tryz.ntmps10
    go_wp2_with fail
    clear z0 z1 z2
    refine (HFM.out _).mono ?_
    rintro e w1 ⟨v, rfl, hv, hb1⟩
    have HB1 := Lib.hid (blN HB0.out hb1)
    obtain ⟨b, cap, o, rfl, -, -, -, -⟩ := own_at hv HPos.out
    rw [HN.out]
    clear hb1 hv
    go_wp2_with fail
    refine (HSZ.out _ HB1.out).mono ?_
    rintro e w2 ⟨rfl, hw2⟩
    subst hw2
    go_wp2
    go_ret
    exact ⟨rfl, HB1.out⟩
  · rw [Geom.check_no hok, if_neg hok] at hfm
    obtain ⟨ga, gb, gc⟩ := g
    unfold gV at hfm ⊢
    unfold pt at ⊢
    have HFM := Lib.hid hfm
    clear hfm
    clear h hg hok hsz
    obtain ⟨W0, hW0⟩ : ∃ W, w.alloc (.cells #[.int .i64 ga, .int .i64 gb, .int .i64 gc] 23) = W := ⟨_, rfl⟩
    have hk := g_keep hW0
    have HB0 := Lib.hid hk.1
    have HK := Lib.hid hk.2
    clear hk
    obtain ⟨z0, z1, z2⟩ := HK.out W0 (Below.refl _ _)
    go_enter Tryz.func10, Tryz.ntmps10
    go_wp2_with fail
    clear z0 z1 z2
    refine (HFM.out _).mono ?_
    rintro e w1 ⟨v, rfl, -, hb1⟩
    have HB1 := Lib.hid (blN HB0.out hb1)
    clear hb1
    go_wp2
    go_ret
    exact ⟨rfl, HB1.out⟩
end
end Go.Proofs.YtgofmnhfajmbfaaGreatDoor
