/-
  The reference's walks: tell.
-/
import Derived.Test.YtcgpmnlondnbhaaGreatDoorRefPaths
import Derived.Test.YtcgpmnlondnbhaaGreatDoorRefLink
import Derived.Test.YtcgpmnlondnbhaaGreatDoorTreeC
import Derived.Deep.RegionHeld3
import Derived.Deep.DeepCutAuto
import Derived.Deep.CutBlock
import Derived.StillTailTactics
namespace Go.Proofs.YtcgpmnlondnbhaaGreatDoor
open Go Go.RowKit Txt Sp

theorem path_cases {path : ByteArray} {l : List ByteArray} (h : splitN path = (l, 0)) : (path = ofL [47] ∧ l = []) ∨ (path = ofL (joinL l) ∧ l ≠ []) := by
  by_cases hl : l = []
  · subst hl
    exact Or.inl ⟨path_root h, rfl⟩
  · exact Or.inr ⟨path_text h hl, hl⟩
theorem own_shape2 {n : Nat} {w : World} {v : Value} {l : List ByteArray} (h : OwnTexts n w v l) : ∃ ad cap, v = .slice ad l.length cap := by
  obtain ⟨e, h⟩ := h
  obtain ⟨ad, cap, e1, _, _⟩ := row_shape h
  exact ⟨ad, cap, e1⟩
section
set_option maxHeartbeats 4000000
variable {base : Nat} {w : World} {D : Nat → Prop} {r : Nat} {t : Sp.Tree} {vT vN : Value}
set_option maxRecDepth 20000 in
theorem rtell_any (h : RefAt base w D r t vT vN) (hok : t.Ok) (hf : Few t) (o : Sp.Op) (ho : OpOk o) :
    Calls Tryz.prog 40 #[ptr r, opV o] w (TellPost (t.tell o) w) := by
  obtain ⟨gT, cT, rfl⟩ := h.shape hok
  obtain ⟨kind, path, dst, off, len, data⟩ := o
  have hs := ho.path
  simp only at hs
  have HR := Lib.hid h
  have HOK := Lib.hid hok
  have HF := Lib.hid hf
  clear h hok hf ho
  unfold opV
  simp only
  obtain ⟨W1, hW1⟩ : ∃ W, w.alloc (.cells #[.int .i64 kind, .string path, .string dst, .int .i64 off, .int .i64 len, .string data] 35) = W := ⟨_, rfl⟩
  obtain ⟨WA, hWA⟩ : ∃ W, W1.alloc (.cells #[.int .i64 0, .int .i64 0, .int .i64 0, .int .i64 0, .string ⟨#[]⟩, .slice none 0 0] 32) = W := ⟨_, rfl⟩
  have hb1 : Below w.heap.size w W1 := by rw [← hW1]; exact below_al (Below.refl _ _) _
  have hbA : Below w.heap.size w WA := by rw [← hWA]; exact below_al hb1 _
  have hop : WA.heap[w.heap.size]? = some (.cells #[.int .i64 kind, .string path, .string dst, .int .i64 off, .int .i64 len, .string data] 35 (0, 0)) := by
    rw [← hWA]
    exact heap_below (below_al (Below.refl W1.heap.size W1) _) _ _ (by rw [← hW1]; exact heap_alloc_new w _)
  have han : WA.heap[W1.heap.size]? = some (.cells #[.int .i64 0, .int .i64 0, .int .i64 0, .int .i64 0, .string ⟨#[]⟩, .slice none 0 0] 32 (0, 0)) := by rw [← hWA]; exact heap_alloc_new W1 _
  have p0 : WA.cell? ⟨w.heap.size, 1, none⟩ = some (.string path) := cell_of_heap hop rfl
  have HOp := Lib.hid hop
  have HAn := Lib.hid han
  have HBA := Lib.hid hbA
  have hsz1 : w.heap.size ≤ W1.heap.size := hb1.size
  obtain ⟨i, c, ha⟩ : ∃ i c, t.at path = (i, c) := ⟨_, _, rfl⟩
  have HA := Lib.hid ha
  clear hb1 hbA hop han
  unfold ptr
  go_enter Tryz.func40, Tryz.ntmps40
  go_wp2_with fail
  refine (rat_any (HR.out.below HBA.out) HOK.out HF.out path hs).mono ?_
  rw [HA.out]
  rintro e w1 ⟨rfl, hb⟩
  have HB := Lib.hid (below_next HBA.out hb)
  have han1 := heap_below hb _ _ HAn.out
  have hop1 := heap_below hb _ _ HOp.out
  have HAn1 := Lib.hid han1
  have HOp1 := Lib.hid hop1
  obtain ⟨g0, g1⟩ := ans_cells han1
  have o0 : w1.cell? ⟨w.heap.size, 0, none⟩ = some (.int .i64 kind) := cell_of_heap hop1 rfl
  have o1 : w1.cell? ⟨w.heap.size, 1, none⟩ = some (.string path) := cell_of_heap hop1 rfl
  clear hb han1 hop1 p0
  by_cases hc : c = 0
  rotate_left
  · have HP : Hid (t.tell ⟨kind, path, dst, off, len, data⟩ = { code := c }) := by show _ = _; unfold Sp.Tree.tell; simp only; rw [ha, if_neg hc]
    have q0 : (c == 0) = false := beq_eq_false_iff_ne.2 hc
    have q1 : (c != 0) = true := by simp [bne, q0]
    clear ha hc
    go_wp2
    refine bodyPost_ret (v := .agg #[.int .i64 c, .int .i64 0, .int .i64 0, .int .i64 0, .string ⟨#[]⟩, .slice none 0 0]) (by simp [results, Tryz.results40, go_sem, g0]) rfl ?_
    rw [HP.out]
    exact ⟨_, rfl, ⟨_, rfl, OwnTexts.void _ _⟩, below_six HB.out hsz1 _ _ _ _ _ _⟩
  subst hc
  have HI := Lib.hid (at_id ha)
  have HRr := Lib.hid (HR.out.below HB.out)
  obtain ⟨m, hm, hmt, hth⟩ := thing_ix HOK.out (there_idOf HOK.out HI.out)
  obtain ⟨x0, x1, x2⟩ := HRr.out.things.at' hmt
  simp only at x0 x1 x2
  obtain ⟨r0, _, _⟩ := HRr.out.cells
  have HThW : Hid (∀ W, Below w1.heap.size w1 W → Calls Tryz.prog 43 #[.pointer (some ⟨r, 0, none⟩), .int .i64 (i : Int)] W fun e w' => e = .returned (.int .i64 (m : Int)) ∧ W = w') := fun W hW => rthing_any (HRr.out.below hW) hmt hth HF.out.things
  obtain ⟨nT, hnT⟩ : ∃ nT, t.things.length = nT := ⟨_, rfl⟩
  obtain ⟨d, hd⟩ : ∃ d, t.dataOf i = d := ⟨_, rfl⟩
  rw [hnT] at hm r0
  rw [hd] at x2 hmt
  have HMt := Lib.hid hmt
  have hm0 : (0 : Int) ≤ (m : Int) := by omega
  have hm1 : (m : Int) < (nT : Int) := by omega
  have HD := Lib.hid hd
  clear hth hnT hmt hd
  obtain ⟨b, hdir⟩ : ∃ b, t.isDir i = b := ⟨_, rfl⟩
  rw [hdir] at x1
  obtain ⟨W3, hW3⟩ : ∃ W, w1.alloc (.cells #[.int .i64 (i : Int), .bool b, .string d] 61) = W := ⟨_, rfl⟩
  have hb3 : Below w1.heap.size w1 W3 := by rw [← hW3]; exact below_al (Below.refl _ _) _
  have hx3 : W3.heap[w1.heap.size]? = some (.cells #[.int .i64 (i : Int), .bool b, .string d] 61 (0, 0)) := by rw [← hW3]; exact heap_alloc_new w1 _
  have han3 := heap_below hb3 _ _ HAn1.out
  have hop3 := heap_below hb3 _ _ HOp1.out
  have HAn3 := Lib.hid han3
  obtain ⟨k0, k1⟩ := ans_cells han3
  have l0 : W3.cell? ⟨w.heap.size, 0, none⟩ = some (.int .i64 kind) := cell_of_heap hop3 rfl
  have l1 : W3.cell? ⟨w.heap.size, 1, none⟩ = some (.string path) := cell_of_heap hop3 rfl
  have y1 : W3.cell? ⟨w1.heap.size, 1, none⟩ = some (.bool b) := cell_of_heap hx3 rfl
  have y2 : W3.cell? ⟨w1.heap.size, 2, none⟩ = some (.string d) := cell_of_heap hx3 rfl
  have HBW3 := Lib.hid hb3
  have HB3 := Lib.hid (below_dr (below_next HB.out hb3))
  have hz3 : w.heap.size ≤ W3.drew.heap.size := HB3.out.size
  have hsp := (at_ok t (path := path) (by rw [ha])).1
  have HPc := Lib.hid (path_cases hsp)
  have HG := Lib.hid (splitN_short hsp).2
  have hlA : W1.heap.size < W3.drew.heap.size := by
    have := (Array.getElem?_eq_some_iff.1 han3).1
    exact this
  have hds : b = false → d.size ≤ 2560 := fun h => HOK.out.small i d (by rw [h] at hdir; rw [← hdir]; exact List.mem_of_getElem? HMt.out)
  have HDs := Lib.hid hds
  clear hb3 hx3 han3 hop3 hsp hds
  have HS : Hid (∀ W, Below w1.heap.size w1 W → W.cell? ⟨r, 0, none⟩ = some (.slice (some ⟨gT, 0, none⟩) nT cT) ∧ W.cell? ⟨gT, m * 3, none⟩ = some (.int .i64 (i : Int)) ∧ W.cell? ⟨gT, m * 3 + 1, none⟩ = some (.bool b) ∧ W.cell? ⟨gT, m * 3 + 2, none⟩ = some (.string d)) := fun W hW =>
    ⟨(hW.cell (p := ⟨r, 0, none⟩) HRr.out.lt).trans r0, (hW.cell (p := ⟨gT, m * 3, none⟩) (HRr.out.things.lt gT rfl).2).trans x0, (hW.cell (p := ⟨gT, m * 3 + 1, none⟩) (HRr.out.things.lt gT rfl).2).trans x1, (hW.cell (p := ⟨gT, m * 3 + 2, none⟩) (HRr.out.things.lt gT rfl).2).trans x2⟩
  go_upto_region 4 with fail
  go_cut [7] (fun s7 wx => s7 = .pointer (some ⟨w1.heap.size, 0, none⟩) ∧ wx = W3.drew)
  case first =>
    go_region_held3 (fun W => W.cell? ⟨r, 0, none⟩ = some (.slice (some ⟨gT, 0, none⟩) nT cT) ∧ W.cell? ⟨gT, m * 3, none⟩ = some (.int .i64 (i : Int)) ∧ W.cell? ⟨gT, m * 3 + 1, none⟩ = some (.bool b) ∧ W.cell? ⟨gT, m * 3 + 2, none⟩ = some (.string d))
      ((refine HS.out _ ?_; repeat' first | exact Below.refl _ _ | exact HBW3.out | refine below_al ?_ _ | refine below_dr ?_ | refine Below.setCell ?_ (by simp) _))
      ((go_at_call 43; refine (HThW.out _ (by repeat' first | exact Below.refl _ _ | refine below_al ?_ _ | refine below_dr ?_)).mono ?_; rintro e w' ⟨rfl, rfl⟩))
    all_goals
      go_wp2_with fail
      go_meet
      case rel => exact ⟨rfl, rfl⟩
  case rest =>
  obtain ⟨rfl, hwc⟩ := hcut
  have l0' : wc.cell? ⟨w.heap.size, 0, none⟩ = some (.int .i64 kind) := by rw [hwc]; exact l0
  have l1' : wc.cell? ⟨w.heap.size, 1, none⟩ = some (.string path) := by rw [hwc]; exact l1
  have y1' : wc.cell? ⟨w1.heap.size, 1, none⟩ = some (.bool b) := by rw [hwc]; exact y1
  have y2' : wc.cell? ⟨w1.heap.size, 2, none⟩ = some (.string d) := by rw [hwc]; exact y2
  rw [← hwc] at HB3 hz3 hlA
  have han4 : wc.heap[W1.heap.size]? = some (.cells #[.int .i64 0, .int .i64 0, .int .i64 0, .int .i64 0, .string ⟨#[]⟩, .slice none 0 0] 32 (0, 0)) := by rw [hwc]; exact HAn3.out
  have HAn4 := Lib.hid han4
  obtain ⟨k0', k1'⟩ := ans_cells han4
  clear hwc han4 l0 l1 y1 y2 k0 k1 hW3
  clear g0 g1 o0 o1 HS HThW r0 x0 x1 x2
  by_cases hk10 : kind = 10
  · subst hk10
    cases b with
    | true =>
      have HP : Hid (t.tell ⟨10, path, dst, off, len, data⟩ = { kind := 2, links := 1, size := (t.kids (full path)).length }) := by
        show _ = _
        unfold Sp.Tree.tell
        simp only
        rw [ha, kids_length]
        simp [hdir]
      clear ha hdir
      go_wp2_with fail
      refine (rkids_any ((HR.out.below HB3.out)) HOK.out HF.out HG.out HPc.out hs).mono ?_
      obtain ⟨kl, hkl⟩ : ∃ kl, t.kids (full path) = kl := ⟨_, rfl⟩
      rw [hkl]
      rintro e w4 ⟨v4, rfl, ho4, hb4⟩
      obtain ⟨ad4, cap4, rfl⟩ := own_shape2 ho4
      obtain ⟨q0, q1⟩ := ans_cells (heap_below hb4 _ _ HAn4.out)
      have HB4 := Lib.hid (below_next HB3.out hb4)
      rw [hkl] at HP
      clear ho4 hb4 hkl
      obtain ⟨nk, hnk⟩ : ∃ nk, kl.length = nk := ⟨_, rfl⟩
      rw [hnk] at HP ⊢
      clear hnk
      go_wp2
      refine bodyPost_ret (v := .agg #[.int .i64 0, .int .i64 2, .int .i64 1, .int .i64 (nk : Int), .string ⟨#[]⟩, .slice none 0 0]) (by simp [results, Tryz.results40, go_sem, q0]) rfl ?_
      rw [HP.out]
      exact ⟨_, rfl, ⟨_, rfl, OwnTexts.void _ _⟩, below_six HB4.out hsz1 _ _ _ _ _ _⟩
    | false =>
      have HP : Hid (t.tell ⟨10, path, dst, off, len, data⟩ = { kind := 1, links := t.links i, size := d.size }) := by
        show _ = _
        unfold Sp.Tree.tell
        simp only
        rw [ha]
        simp [hdir, HD.out]
      have hd1 := HDs.out rfl
      obtain ⟨lk, hlk⟩ : ∃ lk, t.links i = lk := ⟨_, rfl⟩
      have hlkc := rlinks_any ((HR.out.below HB3.out).drewN 1) i HF.out.names
      rw [hlk] at HP hlkc
      have hlk1 : lk ≤ 1000000 := by rw [← hlk]; exact Nat.le_trans (links_few t i) HF.out.names
      have HLk := Lib.hid (hlkc.mono fun _ _ ⟨h5, h6⟩ => (⟨h5, h6.symm⟩ : _ ∧ _))
      clear ha hdir hlk hlkc
      go_wp2_with fail
      go_still_tail 7, (by kernel_rfl)
      still_call HLk.out
      repeat still_step
      refine wpStill_nil ?_
      change wpList _ _ _ _ _ (wc.drew)
      go_wp2
      refine bodyPost_ret (v := .agg #[.int .i64 0, .int .i64 1, .int .i64 (lk : Int), .int .i64 (d.size : Int), .string ⟨#[]⟩, .slice none 0 0]) (by simp [results, Tryz.results40, go_sem, k0']) rfl ?_
      rw [HP.out]
      exact ⟨_, rfl, ⟨_, rfl, OwnTexts.void _ _⟩, below_dr (below_six HB3.out hsz1 _ _ _ _ _ _)⟩
  have hk10' : (kind == 10) = false := beq_eq_false_iff_ne.2 hk10
  by_cases hk11 : kind = 11
  · subst hk11
    cases b with
    | true =>
      have HP : Hid (t.tell ⟨11, path, dst, off, len, data⟩ = { names := t.kids (full path) }) := by
        show _ = _
        unfold Sp.Tree.tell
        simp only
        rw [ha]
        simp [hdir]
      clear ha hdir hk10 hk10'
      go_wp2_with fail
      refine (rkids_any ((HR.out.below HB3.out)) HOK.out HF.out HG.out HPc.out hs).mono ?_
      obtain ⟨kl, hkl⟩ : ∃ kl, t.kids (full path) = kl := ⟨_, rfl⟩
      rw [hkl]
      rintro e w4 ⟨v4, rfl, ho4, hb4⟩
      have HO4 := Lib.hid ho4
      obtain ⟨ad4, cap4, rfl⟩ := own_shape2 ho4
      obtain ⟨q0, q1⟩ := ans_cells (heap_below hb4 _ _ HAn4.out)
      have HB4 := Lib.hid (below_next HB3.out hb4)
      rw [hkl] at HP
      clear ho4 hb4 hkl
      obtain ⟨nk, hnk⟩ : ∃ nk, kl.length = nk := ⟨_, rfl⟩
      rw [hnk] at HO4 ⊢
      clear hnk
      go_wp2
      refine bodyPost_ret (v := .agg #[.int .i64 0, .int .i64 0, .int .i64 0, .int .i64 0, .string ⟨#[]⟩, .slice ad4 nk cap4]) (by simp [results, Tryz.results40, go_sem, q0]) rfl ?_
      rw [HP.out]
      refine ⟨_, rfl, ⟨_, rfl, ?_⟩, below_six HB4.out hsz1 _ _ _ _ _ _⟩
      exact (HO4.out.same (fun k hk o ho => by rw [six_same w4 (by omega)]; exact ho)).mono hz3
    | false =>
      have HP : Hid (t.tell ⟨11, path, dst, off, len, data⟩ = { code := 103 }) := by
        show _ = _
        unfold Sp.Tree.tell
        simp only
        rw [ha]
        simp [hdir]
      clear ha hdir hk10 hk10'
      go_wp2
      refine bodyPost_ret (v := .agg #[.int .i64 103, .int .i64 0, .int .i64 0, .int .i64 0, .string ⟨#[]⟩, .slice none 0 0]) (by simp [results, Tryz.results40, go_sem, k0']) rfl ?_
      rw [HP.out]
      exact ⟨_, rfl, ⟨_, rfl, OwnTexts.void _ _⟩, below_six HB3.out hsz1 _ _ _ _ _ _⟩
  have hk11' : (kind == 11) = false := beq_eq_false_iff_ne.2 hk11
  have HP : Hid (t.tell ⟨kind, path, dst, off, len, data⟩ = {}) := by
    show _ = _
    unfold Sp.Tree.tell
    simp only
    rw [ha]
    simp [hk10, hk11]
  clear ha hdir hk10 hk11
  go_wp2
  refine bodyPost_ret (v := .agg #[.int .i64 0, .int .i64 0, .int .i64 0, .int .i64 0, .string ⟨#[]⟩, .slice none 0 0]) (by simp [results, Tryz.results40, go_sem, k0']) rfl ?_
  rw [HP.out]
  exact ⟨_, rfl, ⟨_, rfl, OwnTexts.void _ _⟩, below_six HB3.out hsz1 _ _ _ _ _ _⟩
end
end Go.Proofs.YtcgpmnlondnbhaaGreatDoor
