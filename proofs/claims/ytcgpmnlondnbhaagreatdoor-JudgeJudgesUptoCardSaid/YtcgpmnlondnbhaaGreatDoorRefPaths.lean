/-
  The reference's walks: Paths, New, Fork.
-/
import Derived.Test.YtcgpmnlondnbhaaGreatDoorRefKids
import Derived.Test.YtcgpmnlondnbhaaGreatDoorRefMake
import Derived.StillTailTactics
namespace Go.Proofs.YtcgpmnlondnbhaaGreatDoor
open Go Go.RowKit Txt Sp

def RefNew (base : Nat) (w : World) (D : Nat → Prop) (t : Sp.Tree) (e : Ending) (w' : World) : Prop := ∃ r vT vN, e = .returned (ptr r) ∧ RefAt base w' D r t vT vN ∧ Below w.heap.size w w' ∧ w.heap.size ≤ r
def PathsRelR (w : World) (t : Sp.Tree) (n : Nat) (out i : Value) (wr : World) : Prop := ∃ (k : Nat), k ≤ n ∧ i = .int .i64 (k : Int) ∧ Hid (OwnTexts w.heap.size wr out (pathsTo t k)) ∧ Hid (Below w.heap.size w wr)

section
set_option maxHeartbeats 4000000
variable {base : Nat} {w : World} {D : Nat → Prop} {r : Nat} {t : Sp.Tree} {vT vN : Value}
set_option maxRecDepth 20000 in
theorem rnew_any (w : World) {D : Nat → Prop} (hb : base ≤ w.heap.size) (hD : ∀ j, D j → j < w.heap.size) : Calls Tryz.prog 7 #[] w (RefNew base w D Sp.new) := by
  obtain ⟨W1, hW1⟩ : ∃ W, w.alloc (.cells #[.int .i64 0, .bool true, .string ⟨#[]⟩] 61) = W := ⟨_, rfl⟩
  have hz1 : W1.heap.size = w.heap.size + 1 := by rw [← hW1]; simp
  have hth : ThingsAt w.heap.size W1 (.slice (some ⟨w.heap.size, 0, none⟩) 1 1) Sp.new.things := by rw [← hW1]; exact World.ownsRow_lit w #[.int .i64 0, .bool true, .string ⟨#[]⟩] 1 (Nat.le_refl _) (by decide) rfl
  have hb1 : Below w.heap.size w W1 := by rw [← hW1]; exact below_al (Below.refl _ _) _
  have HE : Hid (RefNew base w D Sp.new (.returned (ptr W1.heap.size)) (W1.alloc (refO (.slice (some ⟨w.heap.size, 0, none⟩) 1 1) (.slice none 0 0) 0))) := by
    refine ⟨_, _, _, rfl, ⟨heap_alloc_new _ _, row_mono (row_keep hth (fun k o _ ho => heap_below (below_al (Below.refl W1.heap.size W1) _) _ _ ho)) hb, World.ownsRow_nil _ _ _ _, by omega, ⟨fun hj => by have := hD _ hj; omega, fun g hg hj => ?_, fun g hg => by cases hg⟩, fun j hj => by have := hD j hj; simp; omega⟩, below_al hb1 _, by omega⟩
    have := (hth.lt g hg).1
    have := hD g hj
    omega
  unfold refO at HE
  have HZ := Lib.hid hz1
  rw [HZ.out] at HE
  clear hz1 hth hb1 hD hb
  unfold ptr at HE
  go_enter Tryz.func7, Tryz.ntmps7
  go_wp2
  go_ret
  rw [HZ.out]
  exact HE.out
set_option maxRecDepth 20000 in
theorem rfork_any (h : RefAt base w D r t vT vN) : Calls Tryz.prog 10 #[ptr r] w (RefNew base w D t) := by
  obtain ⟨adT, cT, rfl, _, _⟩ := row_shape h.things
  obtain ⟨adN, cN, rfl, _, _⟩ := row_shape h.names
  obtain ⟨r0, r1, r2⟩ := h.cells
  have HE : Hid (RefNew base w D t (.returned (ptr w.heap.size)) (w.alloc (refO (.slice adT t.things.length cT) (.slice adN t.names.length cN) t.many)).drew) :=
    ⟨_, _, _, rfl, h.share (show (w.alloc _).heap[w.heap.size]? = _ from heap_alloc_new w _) (below_dr (below_al (Below.refl _ _) _)) (Nat.le_refl _), below_dr (below_al (Below.refl _ _) _), Nat.le_refl _⟩
  unfold refO at HE
  obtain ⟨nT, hnT⟩ : ∃ nT, t.things.length = nT := ⟨_, rfl⟩
  obtain ⟨nN, hnN⟩ : ∃ nN, t.names.length = nN := ⟨_, rfl⟩
  obtain ⟨mm, hmm⟩ : ∃ mm, t.many = mm := ⟨_, rfl⟩
  rw [hnT, hnN, hmm] at HE
  rw [hnT] at r0
  rw [hnN] at r1
  rw [hmm] at r2
  clear h hnT hnN hmm
  unfold ptr at HE ⊢
  go_enter Tryz.func10, Tryz.ntmps10
  go_wp2_with fail
  go_region
  all_goals
    go_wp2
    go_ret
    exact HE.out

set_option maxRecDepth 20000 in
theorem rpaths_any (h : RefAt base w D r t vT vN) (hok : t.Ok) (hf : Few t) :
    Calls Tryz.prog 17 #[ptr r] w (PutPost t.paths w) := by
  obtain ⟨gT, cT, rfl⟩ := h.shape hok
  have HR := Lib.hid h
  have HOK := Lib.hid hok
  have HF := Lib.hid hf
  obtain ⟨n, hn⟩ : ∃ n, t.names.length = n := ⟨_, rfl⟩
  have hn6 : n ≤ 1000000 := by rw [← hn]; exact hf.names
  have HN := Lib.hid hn
  obtain ⟨adN, capN, rfl, hNc, hNm⟩ := row_shape h.names
  obtain ⟨W0, hW0⟩ : ∃ W, w.alloc (.cells #[.string ⟨#[47]⟩] 9) = W := ⟨_, rfl⟩
  have hb0 : Below w.heap.size w W0 := by rw [← hW0]; exact below_al (Below.refl _ _) _
  have HO0 : Hid (OwnTexts w.heap.size W0 (.slice (some ⟨w.heap.size, 0, none⟩) 1 1) (pathsTo t 0)) := by
    show OwnTexts _ _ _ _
    rw [← hW0]
    exact ⟨9, World.ownsRow_lit w #[.string ⟨#[47]⟩] 1 (Nat.le_refl _) (by decide) rfl⟩
  have HB0 := Lib.hid hb0
  clear h hok hf hn hNc hNm hb0
  unfold ptr
  go_enter Tryz.func17, Tryz.ntmps17
  go_wp2
  go_loopw [3, 4] (fun out i wr => PathsRelR w t n out i wr) (fun _ i _ => n - (intOf i).toNat)
  case atStart => exact ⟨0, Nat.zero_le _, rfl, HO0, HB0⟩
  case round =>
    obtain ⟨k, hk, rfl, HO, HB⟩ := hrel
    clear HO0 HB0
    obtain ⟨r0, r1, _⟩ := (HR.out.below HB.out).cells
    by_cases hlt : k < n
    · obtain ⟨x, hx⟩ : ∃ x, t.names[k]? = some x := ⟨t.names[k]'(by have := HN.out; omega), List.getElem?_eq_getElem _⟩
      obtain ⟨gN, cN, hvN, _, _⟩ := (HR.out.below HB.out).names.form (by have := HN.out; omega)
      have hrow := (HR.out.below HB.out).names
      rw [hvN] at hrow r1
      obtain ⟨n0, n1⟩ := hrow.at' hx
      rw [HN.out] at r1
      obtain ⟨s, hs⟩ : ∃ s, ofL (joinL x.1) = s := ⟨_, rfl⟩
      rw [hs] at n0
      have hsz : s.size ≤ 14000000 := by
        rw [← hs]
        exact Nat.le_trans (path_size HOK.out (List.mem_of_getElem? hx)) (by have := HF.out.names; omega)
      have HI : Hid (t.idOf x.1 = some x.2) := find_idOf HOK.out ((find_mem HOK.out).2 (List.mem_of_getElem? hx))
      obtain ⟨m, hm, _, _, c1, _, hth⟩ := (HR.out.below HB.out).thing HOK.out HF.out HI.out
      obtain ⟨nT, hnT⟩ : ∃ nT, t.things.length = nT := ⟨_, rfl⟩
      rw [hnT] at hm r0
      have HTh := Lib.hid hth
      have hm0 : (0 : Int) ≤ (m : Int) := by omega
      have hm1 : (m : Int) < (nT : Int) := by omega
      have hk0 : (0 : Int) ≤ (k : Int) := by omega
      have hk1 : (k : Int) < (n : Int) := by omega
      have HX := Lib.hid hx
      have HS := Lib.hid hs
      have hpl : (pathsTo t k).length ≤ 2000000 := Nat.le_trans (pathsTo_length k) (by have := HN.out; omega)
      have HPl := Lib.hid hpl
      clear hs hx hrow hvN hth hnT hpl
      cases hd : t.isDir x.2 with
      | true =>
        have HSh : Hid (pathsTo t (k + 1) = insL (pathsTo t k) (s ++ (⟨#[47]⟩ : ByteArray))) := by
          show _ = _
          rw [pathsTo_step HX.out]
          congr 1
          unfold shown
          rw [if_pos hd, ← HS.out]
          refine Txt.ext ?_
          rw [ofL_data]
          simp [ofL_data]
        rw [hd] at c1
        clear hd
        go_wp2
        go_quiet ((go_at_call 43; exact Calls.quiet_of_same (HTh.out _)))
        go_wp2_with fail
        refine (rput_any (HO.out.below (below_drewN (Below.refl _ _) _)) _ HPl.out).mono ?_
        rintro e w2 ⟨v2, rfl, ho2, hb2⟩
        have HO2 : Hid (OwnTexts w.heap.size w2 v2 (pathsTo t (k + 1))) := by
          show OwnTexts _ _ _ _
          rw [HSh.out]
          exact ho2.mono HB.out.size
        have HB2 := Lib.hid (below_next (below_drewN HB.out _) hb2)
        clear ho2 hb2
        go_wp2
        go_roundw
        case rel => exact ⟨k + 1, by omega, by go_num, HO2, HB2⟩
        case measure => simp [intOf]; omega
      | false =>
        have HSh : Hid (pathsTo t (k + 1) = insL (pathsTo t k) s) := by
          show _ = _
          rw [pathsTo_step HX.out]
          congr 1
          unfold shown
          rw [hd, ← HS.out]
          simp
        rw [hd] at c1
        clear hd
        go_wp2
        go_quiet ((go_at_call 43; exact Calls.quiet_of_same (HTh.out _)))
        go_wp2_with fail
        refine (rput_any (HO.out.below (below_drewN (Below.refl _ _) _)) _ HPl.out).mono ?_
        rintro e w2 ⟨v2, rfl, ho2, hb2⟩
        have HO2 : Hid (OwnTexts w.heap.size w2 v2 (pathsTo t (k + 1))) := by
          show OwnTexts _ _ _ _
          rw [HSh.out]
          exact ho2.mono HB.out.size
        have HB2 := Lib.hid (below_next (below_drewN HB.out _) hb2)
        clear ho2 hb2
        go_wp2
        go_roundw
        case rel => exact ⟨k + 1, by omega, by go_num, HO2, HB2⟩
        case measure => simp [intOf]; omega
    · have HFin : Hid (pathsTo t k = t.paths) := pathsTo_all (by have := HN.out; omega)
      have HOF := HO.out
      rw [HFin.out] at HOF
      have HOF2 := Lib.hid HOF
      rw [HN.out] at r1
      clear HOF
      go_wp2
      go_ret
      exact ⟨_, rfl, HOF2.out, HB.out⟩
end
end Go.Proofs.YtcgpmnlondnbhaaGreatDoor
