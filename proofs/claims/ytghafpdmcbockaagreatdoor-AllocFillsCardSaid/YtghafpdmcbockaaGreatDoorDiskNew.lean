/-
  Walks of layer 11: a disk's New.
-/
import Derived.Test.YtghafpdmcbockaaGreatDoorDisk
import Derived.Test.YtghafpdmcbockaaGreatDoorMapsB
import Derived.Deep.RegionLaw
namespace Go.Proofs.YtghafpdmcbockaaGreatDoor
open Go Go.RowKit Txt Sp

theorem setCell_turn {w : World} {b k : Nat} {v : Value} : Turn (fun j => j = b) w (w.setCell ⟨b, k, none⟩ v) :=
  ⟨rfl, rfl, rfl, by rw [World.size_setCell]; exact Nat.le_refl _, fun j hj hne => by simp [World.setCell, Array.getElem?_modify, Ne.symm hne]⟩
/-- Where a sector of a disk stands, in each world behind. -/
theorem lay_stands {w : World} {base B : Nat} {d : Sp.Disk} {D : Nat → Prop} (h : DiskAt w base B d D) {k : Nat} (hk : k < d.l.length) (s : ByteArray) : ∃ g cap, ∀ W, Below w.heap.size w W →
    W.cell? ⟨B, 0, none⟩ = some (.slice (some ⟨g, 0, none⟩) d.l.length cap) ∧ (∃ x, W.cell? ⟨g, k, none⟩ = some x) ∧ W.frozen? ⟨g, k, none⟩ = false ∧ DiskAt (W.setCell ⟨g, k, none⟩ (.string s)) base B { d with l := d.l.set k s } D ∧ Turn (fun j => j = g) W (W.setCell ⟨g, k, none⟩ (.string s)) ∧ D g := by
  obtain ⟨g, cap, c0, _⟩ := lay_stored h hk s
  refine ⟨g, cap, fun W hW => ?_⟩
  obtain ⟨g', cap', c0', h1, h2, h3, h4, h5, h6, h7⟩ := lay_stored (h.below hW) hk s
  have hlt : B < w.heap.size := by
    obtain ⟨⟨v, wm, h1, _⟩, _, _⟩ := h
    exact (Array.getElem?_eq_some_iff.1 h1).1
  have he := (hW.cell (p := ⟨B, 0, none⟩) hlt).trans c0
  rw [c0'] at he
  cases he
  exact ⟨c0', Option.isSome_iff_exists.1 h1, h2, h6, h7, h3⟩
section
set_option maxHeartbeats 2000000
set_option maxRecDepth 20000 in
theorem diskNew_no (w : World) (n : Int) (h : ¬ (2 ≤ n ∧ n ≤ 2048)) : Calls Tryz.prog 34 #[.int .i64 n] w fun e w' => e = .returned (.tuple #[.pointer none, .int .i64 1]) ∧ w' = w := by
  by_cases h1 : n < 2
  · have q1 : decide (n < 2) = true := decide_eq_true h1
    clear h
    go_enter Tryz.func34, Tryz.ntmps34
    go_wp2
    go_ret2
    exact ⟨rfl, rfl⟩
  · have q1 : decide (n < 2) = false := decide_eq_false h1
    have q2 : decide (n > 2048) = true := decide_eq_true (by omega)
    clear h
    go_enter Tryz.func34, Tryz.ntmps34
    go_wp2
    go_ret2
    exact ⟨rfl, rfl⟩
set_option maxRecDepth 20000 in
theorem diskNew_any (w : World) (n : Nat) (h2 : 2 ≤ n) (hn : n ≤ 2048) : Calls Tryz.prog 34 #[.int .i64 (n : Int)] w fun e w' =>
    ∃ B D, e = .returned (.tuple #[pt B, .int .i64 0]) ∧ DiskAt w' w.heap.size B (newDisk n) D ∧ Below w.heap.size w w' ∧ ∀ j, D j → w.heap.size ≤ j ∧ j < w'.heap.size := by
  have q1 : decide ((n : Int) < 2) = false := decide_eq_false (by omega)
  have q2 : decide ((n : Int) > 2048) = false := decide_eq_false (by omega)
  have hmm := @run_makeMap Tryz.prog
  have hbl := fun W : World => fblank_any W
  have hfe := fun W : World => show Calls Tryz.prog 52 #[.agg #[.int .i64 0, .int .i64 0]] W (fun e w' => e = .returned (.tuple #[.string (wallB 0 0), .int .i64 0]) ∧ Below W.heap.size W w') from sfence_any W 0 0 (by decide) (by decide)
  obtain ⟨BK, hBK⟩ : ∃ b, Sp.blank = b := ⟨_, rfl⟩
  simp only [hBK] at hbl
  obtain ⟨FE, hFE⟩ : ∃ b, wallB 0 0 = b := ⟨_, rfl⟩
  simp only [hFE] at hfe
  have HEnd : Hid (newDisk n = ⟨(List.replicate n BK).set 1 FE, [], 0⟩) := by show _ = _; unfold newDisk; rw [hBK, hFE]
  obtain ⟨ia, ib, ic, id, ie⟩ := info_parts Tryz.infoText
  obtain ⟨W1, hW1⟩ : ∃ W, (w.alloc (.map #[] 0)).alloc (.cells #[.slice none 0 0, .map (some w.heap.size), .int .i64 0] 143) = W := ⟨_, rfl⟩
  have HB1 : Hid (Below w.heap.size w W1) := by rw [← hW1]; exact bl1 (bl1 (Below.refl _ _) _) _
  have HM1 : Hid (W1.heap[w.heap.size]? = some (.map #[] 0)) := by
    rw [← hW1]
    exact heapOld (bl1 (Below.refl _ _) _) (heap_alloc_new w _)
  have HD1 : Hid (W1.heap[w.heap.size + 1]? = some (diskO (.slice none 0 0) w.heap.size 0)) := by
    rw [← hW1]
    have := heap_alloc_new (w.alloc (.map #[] 0)) (.cells #[.slice none 0 0, .map (some w.heap.size), .int .i64 0] 143)
    rw [show (w.alloc (.map #[] 0)).heap.size = w.heap.size + 1 by simp] at this
    exact this
  have HS1 : Hid (w.heap.size + 2 ≤ W1.heap.size) := by rw [← hW1]; show w.heap.size + 2 ≤ _; simp
  have HBL := Lib.hid hbl
  have HFE := Lib.hid hfe
  clear hbl hfe
  clear hBK hFE
  go_enter Tryz.func34, Tryz.ntmps34
  go_wp2_with fail
  clear hW1
  obtain ⟨BW, hBW⟩ : ∃ b, w.heap.size = b := ⟨_, rfl⟩
  rw [hBW] at HM1 HD1 HS1
  go_loopw [15] (fun i wr => ∃ (k : Nat) (v : Value), k ≤ n ∧ i = .int .i64 (k : Int) ∧ Hid (wr.heap[w.heap.size + 1]? = some (diskO v w.heap.size 0)) ∧ Hid (OwnR 9 1 textC (w.heap.size + 2) wr v (List.replicate k BK)) ∧ Hid (wr.heap[w.heap.size]? = some (.map #[] 0)) ∧ Hid (Below w.heap.size w wr) ∧ Hid (w.heap.size + 2 ≤ wr.heap.size)) (fun i _ => n - (intOf i).toNat)
  case atStart => rw [hBW]; exact ⟨0, _, Nat.zero_le _, rfl, HD1, OwnR.void _ _, HM1, by rw [← hBW]; exact HB1, HS1⟩
  case round =>
    obtain ⟨k, v, hk, rfl, HD, HO, HM, HB, HS⟩ := hrel
    clear hBW HM1 HD1 HS1 HB1
    by_cases hlt : k < n
    · have c0 := cellOf (k := 0) HD.out rfl
      obtain ⟨vad, vcap, hvf⟩ := HO.out.form
      rw [List.length_replicate] at hvf
      have HV := Lib.hid hvf
      clear hvf
      go_upto_region 6 with fail
      go_region_law (first
        | (refine step_append_lies _ (by rfl) _ _ _ (by rfl) (w.heap.size + 2) 9 ia _ 1 16 Tryz.underlying48 ib ic id ie rfl (by decide) v k ((List.replicate k BK).flatMap textC) (by rfl) (by have h := OwnR.below HO.out (HB2.out); unfold OwnR at h; rw [List.length_replicate] at h; exact h.alloc _) ⟨w2.heap.size, 0, none⟩ 1 1 [.string BK] (by rfl) (by rfl) (World.news_of_block (cs := #[.string BK]) (t := 9) (fr := (0, 0)) (heapNew w2 _)) (by simp [Value.oneCell']) (by decide) ?a1 ?a2 ?a3 (w2.heap.size + 1) (by simp) ?_
           case a1 => unfold maxLen; omega
           case a2 => omega
           case a3 => have := HB2.out.size; have := HS.out; simp; omega
           intro g4 cap4 w4 hown4 hgrow4 hat4 hlt4
           have HO4 := Lib.hid hown4
           have HG4 := Lib.hid hgrow4
           have HD4 : Hid (w4.heap[w.heap.size + 1]? = some (diskO v w.heap.size 0)) := (hgrow4.block (w.heap.size + 1) (by have := HB2.out.size; have := HS.out; simp; omega) (fun e => by have := (OwnR.lt HO.out _ e.symm).1; omega)).trans (heapOld (bl1 HB2.out _) HD.out)
           have HM4 : Hid (w4.heap[w.heap.size]? = some (.map #[] 0)) := (hgrow4.block w.heap.size (by have := HB2.out.size; have := HS.out; simp; omega) (fun e => by have := (OwnR.lt HO.out _ e.symm).1; omega)).trans (heapOld (bl1 HB2.out _) HM.out)
           have HB4 : Hid (Below w.heap.size w w4) := Below.grown (bl1 (blN HB.out HB2.out) _) hgrow4 (bl1 (blN HB.out HB2.out) _).size (fun q hq => by have := (OwnR.lt HO.out _ hq).1; omega)
           have HL4 := Lib.hid hlt4
           have c4 := cellOf (k := 0) HD4.out rfl
           have f4 : w4.frozen? ⟨w.heap.size + 1, 0, none⟩ = false := freeOf HD4.out
           clear hown4 hgrow4 hat4 hlt4)
        | (go_simp
           go_at_call 50
           with_reducible refine (HBL.out _).mono ?_
           rintro e w2 ⟨rfl, hb2⟩
           have HB2 : Hid (Below wr.heap.size wr w2) := blN (blD (Below.refl _ _)) hb2
           have c2 := cellOf (k := 0) (heapOld HB2.out HD.out) rfl
           have c3 : (w2.alloc (.cells #[.string BK] 9)).cell? ⟨w.heap.size + 1, 0, none⟩ = some v := cellOf (k := 0) (heapOld (bl1 HB2.out _) HD.out) rfl
           clear hb2))
      all_goals
        have HDs : Hid ((w4.setCell ⟨w.heap.size + 1, 0, none⟩ (.slice (some ⟨g4, 0, none⟩) (k + 1) cap4)).heap[w.heap.size + 1]? = some (diskO (.slice (some ⟨g4, 0, none⟩) (k + 1) cap4) w.heap.size 0)) := setHeap_at (k := 0) HD4.out _
        have HT : Hid (Turn (fun j => j = w.heap.size + 1) w4 (w4.setCell ⟨w.heap.size + 1, 0, none⟩ (.slice (some ⟨g4, 0, none⟩) (k + 1) cap4))) := setCell_turn
        have HOs : Hid (OwnR 9 1 textC (w.heap.size + 2) (w4.setCell ⟨w.heap.size + 1, 0, none⟩ (.slice (some ⟨g4, 0, none⟩) (k + 1) cap4)) (.slice (some ⟨g4, 0, none⟩) (k + 1) cap4) (List.replicate (k + 1) BK)) := by
          have h := OwnR.snoc (f := textC) (x := BK) HO4.out rfl (by rw [List.length_replicate])
          rw [show List.replicate k BK ++ [BK] = List.replicate (k + 1) BK from (List.replicate_succ' ..).symm] at h
          exact h.turn HT.out (fun q hq e => by have := (h.lt q hq).1; omega)
        have HMs : Hid ((w4.setCell ⟨w.heap.size + 1, 0, none⟩ (.slice (some ⟨g4, 0, none⟩) (k + 1) cap4)).heap[w.heap.size]? = some (.map #[] 0)) := HT.out.heap HM4.out (by omega)
        have HBs : Hid (Below w.heap.size w (w4.setCell ⟨w.heap.size + 1, 0, none⟩ (.slice (some ⟨g4, 0, none⟩) (k + 1) cap4))) := HB4.out.trans (HT.out.below (fun j e => by omega) HB4.out.size)
        have HSs : Hid (w.heap.size + 2 ≤ (w4.setCell ⟨w.heap.size + 1, 0, none⟩ (.slice (some ⟨g4, 0, none⟩) (k + 1) cap4)).heap.size) := by
          show _ ≤ _
          rw [World.size_setCell]
          have := HL4.out
          have h := (OwnR.lt HOs.out g4 rfl).1
          omega
        clear c0 c2 c3 c4 f4
        go_wp2
        go_roundw
        case rel => exact ⟨k + 1, _, by omega, by go_num, HDs, HOs, HMs, HBs, HSs⟩
        case measure => simp [intOf]; omega
    · obtain rfl : k = n := by omega
      have hDA : DiskAt wr w.heap.size (w.heap.size + 1) ⟨List.replicate k BK, [], 0⟩ (fun j => w.heap.size ≤ j ∧ j < wr.heap.size) :=
        ⟨⟨v, w.heap.size, HD.out, HO.out.mono (by omega), ⟨_, HM.out, IM.IsMap.new⟩, Nat.le_refl _, ⟨Nat.le_refl _, by have := HS.out; omega⟩, fun j hj => by have := OwnR.lt HO.out j hj; omega⟩, ⟨by omega, by have := HS.out; omega⟩, by omega⟩
      obtain ⟨g, cap, hst⟩ := lay_stands hDA (k := 1) (by rw [List.length_replicate]; omega) FE
      rw [List.length_replicate] at hst
      have hi1 : (1 : Int) < (k : Int) := by omega
      have hi2 : 1 < k := by omega
      have c0 := (hst wr (Below.refl _ _)).1
      have HSt := Lib.hid hst
      clear hst hDA
      go_wp2_with fail
      go_region_law (first
        | (go_simp
           go_at_call 52
           with_reducible refine (HFE.out _).mono ?_
           rintro e w2 ⟨rfl, hb2⟩
           have HB2 : Hid (Below wr.heap.size wr w2) := blN (blD (Below.refl _ _)) hb2
           obtain ⟨c2, ⟨x2, cx2⟩, f2, hd2, hT2, hg2⟩ := HSt.out w2 HB2.out
           have HD2 := Lib.hid hd2
           have HT2 := Lib.hid hT2
           have HG2 := Lib.hid hg2
           clear hb2 hd2 hT2 hg2))
      all_goals
        have HBs : Hid (Below w.heap.size w (w2.setCell ⟨g, 1, none⟩ (.string FE))) := (blN HB.out HB2.out).trans (HT2.out.below (fun j e => by have := HG2.out; omega) (blN HB.out HB2.out).size)
        clear c0 c2 cx2 f2
        go_wp2
        go_ret2
        refine ⟨_, _, rfl, by rw [HEnd.out]; exact HD2.out, HBs.out, fun j (hj : w.heap.size ≤ j ∧ j < wr.heap.size) => ⟨hj.1, by have := HB2.out.size; rw [World.size_setCell]; omega⟩⟩
end
end Go.Proofs.YtghafpdmcbockaaGreatDoor
