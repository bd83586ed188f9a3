/-
  The reference's disk (layer 11) in memory; New, Read.
-/
import Derived.Test.YtgofmnhfajmbfaaGreatDoorRefOf
import Derived.Test.YtgofmnhfajmbfaaGreatDoorRefSuper
import Derived.Test.YtgofmnhfajmbfaaGreatDoorSidA
namespace Go.Proofs.YtgofmnhfajmbfaaGreatDoor
open Go Go.RowKit Txt Sp

def rdO (v : Value) : Obj := .cells #[v, .slice none 0 0, .int .i64 0] 111 (0, 0)
/-- A disk of the reference, on which nothing waits: its sectors; its blocks lie from base to top. -/
def RDisk (base top : Nat) (w : World) (r : Nat) (L : List ByteArray) : Prop :=
  ∃ v, w.heap[r]? = some (rdO v) ∧ OwnR 9 1 textC base w v L ∧ (base ≤ r ∧ r < top ∧ top ≤ w.heap.size) ∧ ∀ k, v.ownBlock = some k → k ≠ r ∧ k < top
theorem RDisk.below {base top : Nat} {w w' : World} {r : Nat} {L : List ByteArray} (h : RDisk base top w r L) (hb : Below w.heap.size w w') : RDisk base top w' r L := by
  obtain ⟨v, h1, h2, ⟨h3, h4, h5⟩, h6⟩ := h
  exact ⟨v, heapOld hb h1, h2.below hb, ⟨h3, h4, Nat.le_trans h5 hb.size⟩, h6⟩
theorem RDisk.turn {base top : Nat} {w w' : World} {r : Nat} {L : List ByteArray} {D : Nat → Prop} (h : RDisk base top w r L) (hT : Turn D w w') (hD : ∀ j, D j → j < base ∨ top ≤ j) : RDisk base top w' r L := by
  obtain ⟨v, h1, h2, ⟨h3, h4, h5⟩, h6⟩ := h
  exact ⟨v, hT.heap h1 (fun e => by have := hD _ e; omega), h2.turn hT (fun k hk e => by have := hD _ e; have := (h2.lt k hk).1; have := (h6 k hk).2; omega), ⟨h3, h4, Nat.le_trans h5 hT.size⟩, h6⟩
theorem RDisk.up {base top : Nat} {w : World} {r : Nat} {L : List ByteArray} (h : RDisk base top w r L) : RDisk base w.heap.size w r L := by
  obtain ⟨v, h1, h2, ⟨h3, h4, h5⟩, h6⟩ := h
  exact ⟨v, h1, h2, ⟨h3, by omega, Nat.le_refl _⟩, fun k hk => ⟨(h6 k hk).1, by have := (h6 k hk).2; omega⟩⟩
/-- A text of an own row is written over. -/
theorem own_stored {base : Nat} {w : World} {v : Value} {L : List ByteArray} (h : OwnR 9 1 textC base w v L) {k : Nat} (hk : k < L.length) (s : ByteArray) :
    ∃ g cap, v = .slice (some ⟨g, 0, none⟩) L.length cap ∧ (∃ x, w.cell? ⟨g, k, none⟩ = some x) ∧ w.frozen? ⟨g, k, none⟩ = false ∧ base ≤ g ∧ OwnR 9 1 textC base (w.setCell ⟨g, k, none⟩ (.string s)) v (L.set k s) := by
  have h2 := h
  obtain ⟨hx, ⟨rfl, h0⟩ | ⟨g, cap, cur, rfl, hg, hh, hnc, hm, hcs, ht⟩⟩ := h2
  · omega
  have hkc : k < cur.size := by omega
  have hst := (World.ownsRow.stored h k (.string s)).1
  refine ⟨g, cap, rfl, ?_, freeOf hh, hg, ?_⟩
  · refine ⟨cur[k], ?_⟩
    rw [World.cell?]
    simp [hh, hkc]
  · unfold OwnR
    rw [textC_map, List.map_set, ← textC_map]
    simpa using hst
section
set_option maxHeartbeats 4000000
set_option maxRecDepth 20000 in
theorem rnew11_no (w : World) (n : Int) (h : ¬ (2 ≤ n ∧ n ≤ 2048)) : Calls Tryz.prog 60 #[.int .i64 n] w fun e w' => e = .returned (.tuple #[.pointer none, .int .i64 1]) ∧ w' = w := by
  by_cases h1 : n < 2
  · have q1 : decide (n < 2) = true := decide_eq_true h1
    clear h
    go_enter Tryz.func60, Tryz.ntmps60
    go_wp2
    go_ret2
    exact ⟨rfl, rfl⟩
  · have q1 : decide (n < 2) = false := decide_eq_false h1
    have q2 : decide (n > 2048) = true := decide_eq_true (by omega)
    clear h
    go_enter Tryz.func60, Tryz.ntmps60
    go_wp2
    go_ret2
    exact ⟨rfl, rfl⟩
set_option maxRecDepth 20000 in
theorem rnew11_any (w : World) (n : Nat) (h2 : 2 ≤ n) (hn : n ≤ 2048) : Calls Tryz.prog 60 #[.int .i64 (n : Int)] w fun e w' =>
    ∃ r, e = .returned (.tuple #[pt r, .int .i64 0]) ∧ RDisk w.heap.size w'.heap.size w' r (newDisk n).l ∧ Below w.heap.size w w' := by
  have q1 : decide ((n : Int) < 2) = false := decide_eq_false (by omega)
  have q2 : decide ((n : Int) > 2048) = false := decide_eq_false (by omega)
  have hbl := rblank_any
  have hfe := fun W : World => show Calls Tryz.prog 50 #[.agg #[.int .i64 0, .int .i64 0]] W (fun e w' => e = .returned (.string (wallB 0 0)) ∧ Below W.heap.size W w') from rwall_any W 0 0
  obtain ⟨BK, hBK⟩ : ∃ b, Sp.blank = b := ⟨_, rfl⟩
  simp only [hBK] at hbl
  obtain ⟨FE, hFE⟩ : ∃ b, wallB 0 0 = b := ⟨_, rfl⟩
  simp only [hFE] at hfe
  have HEnd : Hid ((newDisk n).l = (List.replicate n BK).set 1 FE) := by show _ = _; unfold newDisk; rw [hBK, hFE]
  obtain ⟨ia, ib, ic, id, ie⟩ := info_parts Tryz.infoText
  obtain ⟨W1, hW1⟩ : ∃ W, w.alloc (.cells #[.slice none 0 0, .slice none 0 0, .int .i64 0] 111) = W := ⟨_, rfl⟩
  have HB1 : Hid (Below w.heap.size w W1) := by rw [← hW1]; exact bl2 _
  have HD1 : Hid (W1.heap[w.heap.size]? = some (rdO (.slice none 0 0))) := by rw [← hW1]; exact heapNew w _
  have HS1 : Hid (w.heap.size + 1 ≤ W1.heap.size) := by rw [← hW1]; show w.heap.size + 1 ≤ _; simp
  have HBL := Lib.hid hbl
  have HFE := Lib.hid hfe
  clear hbl hfe
  clear hBK hFE
  go_enter Tryz.func60, Tryz.ntmps60
  go_wp2_with fail
  clear hW1
  obtain ⟨BW, hBW⟩ : ∃ b, w.heap.size = b := ⟨_, rfl⟩
  rw [hBW] at HD1 HS1
  go_loopw [5] (fun i wr => ∃ (k : Nat) (v : Value), k ≤ n ∧ i = .int .i64 (k : Int) ∧ Hid (wr.heap[w.heap.size]? = some (rdO v)) ∧ Hid (OwnR 9 1 textC (w.heap.size + 1) wr v (List.replicate k BK)) ∧ Hid (Below w.heap.size w wr) ∧ Hid (w.heap.size + 1 ≤ wr.heap.size)) (fun i _ => n - (intOf i).toNat)
  case atStart => rw [hBW]; exact ⟨0, _, Nat.zero_le _, rfl, HD1, OwnR.void _ _, by rw [← hBW]; exact HB1, HS1⟩
  case round =>
    obtain ⟨k, v, hk, rfl, HD, HO, HB, HS⟩ := hrel
    clear hBW HD1 HS1 HB1
    by_cases hlt : k < n
    · have c0 := cellOf (k := 0) HD.out rfl
      obtain ⟨vad, vcap, hvf⟩ := HO.out.form
      rw [List.length_replicate] at hvf
      have HV := Lib.hid hvf
      clear hvf
      go_upto_region 7 with fail
      go_region_law (first
        | (refine step_append_lies _ (by rfl) _ _ _ (by rfl) (w.heap.size + 1) 9 ia _ 1 16 Tryz.underlying24 ib ic id ie rfl (by decide) v k ((List.replicate k BK).flatMap textC) (by rfl) (by have h := OwnR.below HO.out (HB2.out); unfold OwnR at h; rw [List.length_replicate] at h; exact h.alloc _) ⟨w2.heap.size, 0, none⟩ 1 1 [.string BK] (by rfl) (by rfl) (World.news_of_block (cs := #[.string BK]) (t := 9) (fr := (0, 0)) (heapNew w2 _)) (by simp [Value.oneCell']) (by decide) ?a1 ?a2 ?a3 (w2.heap.size + 1) (by simp) ?_
           case a1 => unfold maxLen; omega
           case a2 => omega
           case a3 => have := HB2.out.size; have := HS.out; simp; omega
           intro g4 cap4 w4 hown4 hgrow4 hat4 hlt4
           have HO4 := Lib.hid hown4
           have HG4 := Lib.hid hgrow4
           have HD4 : Hid (w4.heap[w.heap.size]? = some (rdO v)) := (hgrow4.block w.heap.size (by have := HB2.out.size; have := HS.out; simp; omega) (fun e => by have := (OwnR.lt HO.out _ e.symm).1; omega)).trans (heapOld (bl1 HB2.out _) HD.out)
           have HB4 : Hid (Below w.heap.size w w4) := Below.grown (bl1 (blN HB.out HB2.out) _) hgrow4 (bl1 (blN HB.out HB2.out) _).size (fun q hq => by have := (OwnR.lt HO.out _ hq).1; omega)
           have HL4 := Lib.hid hlt4
           have c4 := cellOf (k := 0) HD4.out rfl
           have f4 : w4.frozen? ⟨w.heap.size, 0, none⟩ = false := freeOf HD4.out
           clear hown4 hgrow4 hat4 hlt4)
        | (go_simp
           go_at_call 48
           with_reducible refine (HBL.out _).mono ?_
           rintro e w2 ⟨rfl, hb2⟩
           have HB2 : Hid (Below wr.heap.size wr w2) := blN (blD (Below.refl _ _)) hb2
           have c2 := cellOf (k := 0) (heapOld HB2.out HD.out) rfl
           have c3 : (w2.alloc (.cells #[.string BK] 9)).cell? ⟨w.heap.size, 0, none⟩ = some v := cellOf (k := 0) (heapOld (bl1 HB2.out _) HD.out) rfl
           clear hb2))
      all_goals
        have HDs : Hid ((w4.setCell ⟨w.heap.size, 0, none⟩ (.slice (some ⟨g4, 0, none⟩) (k + 1) cap4)).heap[w.heap.size]? = some (rdO (.slice (some ⟨g4, 0, none⟩) (k + 1) cap4))) := setHeap_at (k := 0) HD4.out _
        have HT : Hid (Turn (fun j => j = w.heap.size) w4 (w4.setCell ⟨w.heap.size, 0, none⟩ (.slice (some ⟨g4, 0, none⟩) (k + 1) cap4))) := setCell_turn
        have HOs : Hid (OwnR 9 1 textC (w.heap.size + 1) (w4.setCell ⟨w.heap.size, 0, none⟩ (.slice (some ⟨g4, 0, none⟩) (k + 1) cap4)) (.slice (some ⟨g4, 0, none⟩) (k + 1) cap4) (List.replicate (k + 1) BK)) := by
          have h := OwnR.snoc (f := textC) (x := BK) HO4.out rfl (by rw [List.length_replicate])
          rw [show List.replicate k BK ++ [BK] = List.replicate (k + 1) BK from (List.replicate_succ' ..).symm] at h
          exact h.turn HT.out (fun q hq e => by have := (h.lt q hq).1; omega)
        have HBs : Hid (Below w.heap.size w (w4.setCell ⟨w.heap.size, 0, none⟩ (.slice (some ⟨g4, 0, none⟩) (k + 1) cap4))) := HB4.out.trans (HT.out.below (fun j e => by omega) HB4.out.size)
        have HSs : Hid (w.heap.size + 1 ≤ (w4.setCell ⟨w.heap.size, 0, none⟩ (.slice (some ⟨g4, 0, none⟩) (k + 1) cap4)).heap.size) := by
          show _ ≤ _
          rw [World.size_setCell]
          have := HL4.out
          have h := (OwnR.lt HOs.out g4 rfl).1
          omega
        clear c0 c2 c3 c4 f4
        go_wp2
        go_roundw
        case rel => exact ⟨k + 1, _, by omega, by go_num, HDs, HOs, HBs, HSs⟩
        case measure => simp [intOf]; omega
    · obtain rfl : k = n := by omega
      obtain ⟨g, cap, rfl, -, -, hg0, -⟩ := own_stored HO.out (k := 1) (by rw [List.length_replicate]; omega) FE
      have HSt : Hid (∀ W, Below wr.heap.size wr W → W.cell? ⟨w.heap.size, 0, none⟩ = some (.slice (some ⟨g, 0, none⟩) (List.replicate k BK).length cap) ∧ (∃ x, W.cell? ⟨g, 1, none⟩ = some x) ∧ W.frozen? ⟨g, 1, none⟩ = false ∧ RDisk w.heap.size (W.setCell ⟨g, 1, none⟩ (.string FE)).heap.size (W.setCell ⟨g, 1, none⟩ (.string FE)) w.heap.size ((List.replicate k BK).set 1 FE)) := fun W hW => by
        obtain ⟨g', cap', e, hx, hf, hb, hs⟩ := own_stored (OwnR.below HO.out hW) (k := 1) (by rw [List.length_replicate]; omega) FE
        cases e
        have hD := heapOld hW HD.out
        refine ⟨cellOf (k := 0) hD rfl, hx, hf, _, (setHeap_ne _ (by omega)).trans hD, hs.mono (by omega), ⟨Nat.le_refl _, ?_, Nat.le_refl _⟩, fun q hq => ?_⟩
        · rw [World.size_setCell]; have := hW.size; have := HS.out; omega
        · have := OwnR.lt HO.out q hq; have := hW.size; rw [World.size_setCell]; omega
      rw [List.length_replicate] at HD HO HSt
      have hi1 : (1 : Int) < (k : Int) := by omega
      have hi2 : 1 < k := by omega
      have c0 := cellOf (k := 0) HD.out rfl
      have HG0 := Lib.hid hg0
      clear hg0
      go_wp2_with fail
      go_region_law (first
        | (go_simp
           go_at_call 50
           with_reducible refine (HFE.out _).mono ?_
           rintro e w2 ⟨rfl, hb2⟩
           have HB2 : Hid (Below wr.heap.size wr w2) := blN (blD (Below.refl _ _)) hb2
           obtain ⟨c2, ⟨x2, cx2⟩, f2, hd2⟩ := HSt.out w2 HB2.out
           have HD2 := Lib.hid hd2
           clear hb2 hd2))
      all_goals
        have HBs : Hid (Below w.heap.size w (w2.setCell ⟨g, 1, none⟩ (.string FE))) := (blN HB.out HB2.out).setCell (p := ⟨g, 1, none⟩) (by have := HG0.out; show w.heap.size ≤ g; omega) _
        clear c0 c2 cx2 f2
        go_wp2
        go_ret2
        exact ⟨_, rfl, by rw [HEnd.out]; exact HD2.out, HBs.out⟩
end
end Go.Proofs.YtgofmnhfajmbfaaGreatDoor
