/-
  The reference's walks: data.
-/
import Derived.Test.YtcgpmnlondnbhaaGreatDoorRefSet
import Derived.Test.YtcgpmnlondnbhaaGreatDoorRefMake
import Derived.Test.YtcgpmnlondnbhaaGreatDoorTreeB
import Derived.Test.YtcgpmnlondnbhaaGreatDoorPlainA
import Derived.StillTailTactics
namespace Go.Proofs.YtcgpmnlondnbhaaGreatDoor
open Go Go.RowKit Txt Sp

/-- copy(b[at:], text). -/
theorem rcopy_at (hsz : (Tryz.prog.info? 5).map (·.size) = some 1) {w : World} {g : Nat} {l : List UInt8} (hg : w.heap[g]? = some (rowO l 5)) (o n c : Nat) (s : ByteArray) (ho : o + s.size ≤ l.length) (hn : s.size ≤ n) :
    (Builtin.copy_ #[111, 9] 3 #[.slice (some ⟨g, o, none⟩) n c, .string s]).run Tryz.prog w = .ok (goInt (Nat.min s.size n)) (w.setRow g (byteV (l.take o ++ (s.data.toList ++ l.drop (o + s.data.toList.length)))).toArray) := by
  have hss : s.data.toList.length = s.size := Array.length_toList
  have hcs : List.take (s.size.min n) (List.map (fun b : UInt8 => Value.int .u8 (b.toNat : Int)) s.data.toList) = byteV s.data.toList := by
    unfold byteV
    rw [show s.size.min n = s.size from Nat.min_eq_left hn, List.take_of_length_le (by rw [List.length_map, hss]; exact Nat.le_refl _)]
  have hst := run_storeCells_at Tryz.prog g o 5 (byteV s.data.toList) 0 (byteV l).toArray w hg (by rw [byteV_length]; simp [byteV_length]; omega) byteV_one
  have hres : (byteV l).take o ++ byteV s.data.toList ++ (byteV l).drop (o + (byteV s.data.toList).length) = byteV (l.take o ++ (s.data.toList ++ l.drop (o + s.data.toList.length))) := by
    unfold byteV
    rw [List.map_append, List.map_append, List.length_map, ← List.map_drop, ← List.map_take, List.append_assoc]
  cases hq : Tryz.prog.info? 5 with
  | none => simp [hq] at hsz
  | some i =>
    simp only [Nat.add_zero] at hst hres
    rw [hres] at hst
    simp [Builtin.copy_, run_underlying st_bytes, Builtin.lenOf, Builtin.firstCells, sizeOf, typeInfo, hq, hcs, hst]

def DataPost (base : Nat) (w : World) (D : Nat → Prop) (r : Nat) (x : Sp.Tree × ByteArray × Int) (e : Ending) (w' : World) : Prop := e = .returned (.tuple #[.string x.2.1, .int .i64 x.2.2]) ∧ RefTo base w D r x.1 w'
theorem DataPost.same {base : Nat} {w w' : World} {D : Nat → Prop} {r : Nat} {t : Sp.Tree} {vT vN : Value} (h : RefAt base w D r t vT vN) (hb : Below w.heap.size w w') {x : Sp.Tree × ByteArray × Int} {s : ByteArray} {c : Int} (hx : x = (t, s, c)) : DataPost base w D r x (.returned (.tuple #[.string s, .int .i64 c])) w' := by
  subst hx
  exact ⟨rfl, _, _, h.below hb, Turn.of_below hb⟩
theorem set_at {t : Sp.Tree} (hok : t.Ok) {m i : Nat} {d : ByteArray} (hm : t.things[m]? = some (i, false, d)) (d' : ByteArray) : ({ t with things := t.things.set m (i, false, d') } : Sp.Tree) = t.set i d' := by
  unfold Sp.Tree.set
  rw [key_set hok.ids hm d']

section
set_option maxHeartbeats 4000000
variable {base : Nat} {w : World} {D : Nat → Prop} {r : Nat} {t : Sp.Tree} {vT vN : Value}
set_option maxRecDepth 20000 in
theorem rdata_any (h : RefAt base w D r t vT vN) (hok : t.Ok) (hf : Few t) (o : Sp.Op) (ho : OpOk o) :
    Calls Tryz.prog 39 #[ptr r, opV o] w (DataPost base w D r (t.bytes o)) := by
  obtain ⟨gT, cT, rfl⟩ := h.shape hok
  obtain ⟨kind, path, dst, off, len, data⟩ := o
  obtain ⟨j, j1, j2, j3, j4⟩ := info_byte
  have hs := ho.path
  obtain ⟨hoff1, hoff2⟩ := ho.off
  obtain ⟨hlen1, hlen2⟩ := ho.len
  simp only at hs hoff1 hoff2 hlen1 hlen2
  have HR := Lib.hid h
  have HOK := Lib.hid hok
  have HF := Lib.hid hf
  have HSZ : Hid ((Tryz.prog.info? 5).map (·.size) = some 1) := by show _ = _; rw [j1]; exact congrArg some j3
  clear h hok hf ho
  unfold opV
  simp only
  obtain ⟨WB, hWB⟩ : ∃ W, w.alloc (.cells #[.int .i64 kind, .string path, .string dst, .int .i64 off, .int .i64 len, .string data] 35) = W := ⟨_, rfl⟩
  have hob : WB.heap[w.heap.size]? = some (.cells #[.int .i64 kind, .string path, .string dst, .int .i64 off, .int .i64 len, .string data] 35 (0, 0)) := by rw [← hWB]; exact heap_alloc_new w _
  have hbB : Below w.heap.size w WB := by rw [← hWB]; exact below_al (Below.refl _ _) _
  have p0 : WB.cell? ⟨w.heap.size, 1, none⟩ = some (.string path) := cell_of_heap hob rfl
  have HOb := Lib.hid hob
  have HBB := Lib.hid hbB
  obtain ⟨i, c, ha⟩ : ∃ i c, t.file path = (i, c) := ⟨_, _, rfl⟩
  have HA := Lib.hid ha
  clear hob hbB
  unfold ptr
  go_enter Tryz.func39, Tryz.ntmps39
  go_wp2_with fail
  refine (rfile_any (HR.out.below HBB.out) HOK.out HF.out path hs).mono ?_
  rintro e w1 ⟨m, rfl, hb, hmt⟩
  rw [HA.out] at hmt ⊢
  have HMt := Lib.hid hmt
  have HB := Lib.hid (below_next HBB.out hb)
  have hob1 := heap_below hb _ _ HOb.out
  have o0 : w1.cell? ⟨w.heap.size, 0, none⟩ = some (.int .i64 kind) := cell_of_heap hob1 rfl
  have o3 : w1.cell? ⟨w.heap.size, 3, none⟩ = some (.int .i64 off) := cell_of_heap hob1 rfl
  have o4 : w1.cell? ⟨w.heap.size, 4, none⟩ = some (.int .i64 len) := cell_of_heap hob1 rfl
  have o5 : w1.cell? ⟨w.heap.size, 5, none⟩ = some (.string data) := cell_of_heap hob1 rfl
  have HOb1 := Lib.hid hob1
  clear hb hmt hob1 p0
  by_cases hc : c = 0
  rotate_left
  · have HP : Hid (t.bytes ⟨kind, path, dst, off, len, data⟩ = (t, ofL [], c)) := by show _ = _; unfold Sp.Tree.bytes; simp only; rw [ha, if_neg hc]
    have q0 : (c == 0) = false := beq_eq_false_iff_ne.2 hc
    have q1 : (c != 0) = true := by simp [bne, q0]
    clear ha hc
    go_wp2
    go_ret2
    exact DataPost.same HR.out HB.out HP.out
  subst hc
  have hmt := HMt.out rfl
  simp only at hmt
  obtain ⟨d, hd⟩ : ∃ d, t.dataOf i = d := ⟨_, rfl⟩
  rw [hd] at hmt
  have HMt2 := Lib.hid hmt
  have HD := Lib.hid hd
  have HRr := Lib.hid (HR.out.below HB.out)
  obtain ⟨r0, _, _⟩ := HRr.out.cells
  obtain ⟨_, _, x2⟩ := HRr.out.things.at' hmt
  have hml := (List.getElem?_eq_some_iff.1 hmt).1
  obtain ⟨nT, hnT⟩ : ∃ nT, t.things.length = nT := ⟨_, rfl⟩
  rw [hnT] at hml r0
  have hm0 : (0 : Int) ≤ (m : Int) := by omega
  have hm1 : (m : Int) < (nT : Int) := by omega
  have hds : d.size ≤ 2560 := HOK.out.small i d (List.mem_of_getElem? hmt)
  clear hnT hmt hd
  by_cases hk7 : kind = 7
  · subst hk7
    by_cases hneg : off < 0 ∨ len < 0
    · have HP : Hid (t.bytes ⟨7, path, dst, off, len, data⟩ = (t, ofL [], 1)) := by show _ = _; unfold Sp.Tree.bytes; simp only; rw [ha]; simp [hneg]
      clear ha
      by_cases hn1 : off < 0
      · clear hneg
        go_wp2
        go_ret2
        exact DataPost.same HR.out HB.out HP.out
      · have hn2 : len < 0 := by omega
        clear hneg
        go_wp2
        go_ret2
        exact DataPost.same HR.out HB.out HP.out
    have HP : Hid (t.bytes ⟨7, path, dst, off, len, data⟩ = (t, ofL (piece d.data.toList off.toNat len.toNat), 0)) := by show _ = _; unfold Sp.Tree.bytes; simp only; rw [ha]; simp [hneg, HD.out]
    obtain ⟨a, rfl⟩ := Int.eq_ofNat_of_zero_le (show 0 ≤ off by omega)
    obtain ⟨l, rfl⟩ := Int.eq_ofNat_of_zero_le (show 0 ≤ len by omega)
    have q1 : ¬ (a : Int) < 0 := by omega
    have q2 : ¬ (l : Int) < 0 := by omega
    clear ha hneg
    by_cases hge : (d.size : Int) ≤ (a : Int)
    · have HP2 : Hid (t.bytes ⟨7, path, dst, (a : Int), (l : Int), data⟩ = (t, ⟨#[]⟩, 0)) := by
        show _ = _
        rw [HP.out]
        unfold piece
        rw [List.drop_of_length_le (by rw [← Lib.size_eq]; simpa using hge), List.take_nil]
        rfl
      go_wp2
      go_ret2
      exact DataPost.same HR.out HB.out HP2.out
    · have HE : Hid ((d.extract a d.size).extract 0 (min (l : Int) ((d.size - a : Nat) : Int)).toNat = ofL (piece d.data.toList a l)) := by
        have h1 := piece_eq d (off := (a : Int)) (len := (l : Int)) (by omega) (by omega)
        rw [show (min (a : Int) (d.size : Int)).toNat = a by omega, Int.toNat_natCast, Int.toNat_natCast] at h1
        exact h1
      go_wp2
      go_ret2
      refine DataPost.same HR.out HB.out (HP.out.trans ?_)
      show (t, ofL (piece d.data.toList a l), (0 : Int)) = _
      rw [← HE.out]
  have hk7' : (kind == 7) = false := beq_eq_false_iff_ne.2 hk7
  by_cases hk8 : kind = 8
  · subst hk8
    clear hk7 hk7'
    by_cases hneg : off < 0
    · have HP : Hid (t.bytes ⟨8, path, dst, off, len, data⟩ = (t, ofL [], 1)) := by show _ = _; unfold Sp.Tree.bytes; simp only; rw [ha]; simp [hneg]
      clear ha
      go_wp2
      go_ret2
      exact DataPost.same HR.out HB.out HP.out
    obtain ⟨a, rfl⟩ := Int.eq_ofNat_of_zero_le (show 0 ≤ off by omega)
    have q1 : ¬ (a : Int) < 0 := by omega
    by_cases hbig : (a : Int) > 2560 ∨ (data.size : Int) > 2560 - (a : Int)
    · have HP : Hid (t.bytes ⟨8, path, dst, (a : Int), len, data⟩ = (t, ofL [], 106)) := by
        show _ = _
        unfold Sp.Tree.bytes
        simp only
        rw [ha]
        simp only [if_true]
        rw [if_neg (by decide), if_neg hneg, if_pos hbig]
      clear ha hneg
      by_cases hb1 : (2560 : Int) < (a : Int)
      · clear hbig
        go_wp2
        go_ret2
        exact DataPost.same HR.out HB.out HP.out
      · have hb2 : (2560 : Int) - (a : Int) < (data.size : Int) := by omega
        clear hbig
        go_wp2
        go_ret2
        exact DataPost.same HR.out HB.out HP.out
    have hb1 : ¬ (2560 : Int) < (a : Int) := by omega
    have hb2 : ¬ (2560 : Int) - (a : Int) < (data.size : Int) := by omega
    by_cases hz : data.size = 0
    · have q : data.toList.isEmpty = true := by rw [Lib.toList_data]; exact List.isEmpty_iff.2 (List.length_eq_zero_iff.1 (by rw [← hz]; exact Array.length_toList))
      have HP : Hid (t.bytes ⟨8, path, dst, (a : Int), len, data⟩ = (t, ofL [], 0)) := by
        show _ = _
        unfold Sp.Tree.bytes
        simp only
        rw [ha]
        simp only [if_true]
        rw [if_neg (by decide), if_neg hneg, if_neg hbig, if_pos hz]
      clear ha hneg hbig hz
      go_wp2
      go_ret2
      exact DataPost.same HR.out HB.out HP.out
    have q : data.toList.isEmpty = false := by
      rw [Lib.toList_data, List.isEmpty_eq_false_iff]
      intro e
      exact hz (by have := congrArg List.length e; rw [Array.length_toList] at this; exact this)
    have HP : Hid (t.bytes ⟨8, path, dst, (a : Int), len, data⟩ = (t.set i (ofL (writeL d.data.toList a data.data.toList)), ofL [], 0)) := by
      show _ = _
      unfold Sp.Tree.bytes
      simp only
      rw [ha]
      simp only [if_true]
      rw [if_neg (by decide), if_neg hneg, if_neg hbig, if_neg hz, HD.out, Int.toNat_natCast]
    obtain ⟨M, hM⟩ : ∃ M, max d.size (a + data.size) = M := ⟨_, rfl⟩
    have hM1 : M ≤ 2560 := by omega
    have hmax : (max (d.size : Int) ((a : Int) + (data.size : Int))) = (M : Int) := by omega
    have HM := Lib.hid hM
    have mk := run_make_row w1 st_bytes j1 j2 j3 j4 M (by omega)
    obtain ⟨W5, hW5⟩ : ∃ W, w1.alloc (rowO (List.replicate M 0) 5) = W := ⟨_, rfl⟩
    have hrow5 : W5.heap[w1.heap.size]? = some (rowO (List.replicate M 0) 5) := by rw [← hW5]; exact heap_alloc_new w1 _
    have hb5 : Below w1.heap.size w1 W5 := by rw [← hW5]; exact below_al (Below.refl _ _) _
    have cp := run_copy_text (P := Tryz.prog) (dT := 111) (sT := 9) (ty := 3) W5 st_bytes HSZ.out hrow5 d M
    rw [List.length_replicate] at cp
    have hst : d.data.toList.take M ++ (List.replicate M (0 : UInt8)).drop d.size = stretch d.data.toList M := by
      unfold stretch
      rw [List.drop_replicate]
      rfl
    rw [hst] at cp
    obtain ⟨W6, hW6⟩ : ∃ W, W5.setRow w1.heap.size (byteV (stretch d.data.toList M)).toArray = W := ⟨_, rfl⟩
    rw [hW6] at cp
    have hrow6 : W6.heap[w1.heap.size]? = some (rowO (stretch d.data.toList M) 5) := by rw [← hW6]; exact setRow_heap _ _ _ _ _ _ hrow5
    have hb6 : Below w1.heap.size w1 W6 := by rw [← hW6]; exact below_setRow hb5 (Nat.le_refl _) _
    have hob6 := heap_below hb6 _ _ HOb1.out
    have s3 : W6.cell? ⟨w.heap.size, 3, none⟩ = some (.int .i64 (a : Int)) := cell_of_heap hob6 rfl
    have s5 : W6.cell? ⟨w.heap.size, 5, none⟩ = some (.string data) := cell_of_heap hob6 rfl
    have hss : data.data.toList.length = data.size := Array.length_toList
    have hcp := rcopy_at HSZ.out (w := W6.drew) (g := w1.heap.size) hrow6 a (M - a) (M - a) data (by rw [stretch_length]; omega) (by omega)
    have hwr : (stretch d.data.toList M).take a ++ (data.data.toList ++ (stretch d.data.toList M).drop (a + data.data.toList.length)) = writeL d.data.toList a data.data.toList := by
      rw [← writeL_over, ← hM, hss]
      rw [show d.data.toList.length = d.size from Array.length_toList]
    rw [hwr] at hcp
    have hrow8 := setRow_heap W6.drew w1.heap.size _ (byteV (writeL d.data.toList a data.data.toList)).toArray 5 (0, 0) hrow6
    have hlen : (writeL d.data.toList a data.data.toList).length = M := by
      rw [writeL_length, ← hM, hss, show d.data.toList.length = d.size from Array.length_toList]
    have hb8 : Below w1.heap.size w1 (W6.drew.setRow w1.heap.size (byteV (writeL d.data.toList a data.data.toList)).toArray) := below_setRow (below_dr hb6) (Nat.le_refl _) _
    obtain ⟨W8, hW8⟩ : ∃ W, W6.drew.setRow w1.heap.size (byteV (writeL d.data.toList a data.data.toList)).toArray = W := ⟨_, rfl⟩
    rw [hW8] at hcp hrow8 hb8
    have cv := run_row_text W8 st_bytes ut_byte ut_string hrow8 M
    rw [hlen] at cv
    have HB8 := Lib.hid (below_next HB.out hb8)
    have ham : (a : Int) ≤ (M : Int) := by omega
    have hna : ¬ M = a := by omega
    clear ha hneg hbig hz hrow5 hb5 hst hW6 hrow6 hb6 hob6 hwr hrow8 hlen hb8 hW8 hM
    rw [hW5] at mk
    clear hW5
    go_wp2_with fail
    go_still_tail 6, (by kernel_rfl)
    change wpList _ _ _ _ _ W6.drew
    generalize W6.drew = W7 at hcp ⊢
    go_wp2_with fail
    refine (rset_any (HR.out.below HB8.out) HF.out HMt2.out _).mono ?_
    rintro e w9 ⟨rfl, vT5, vN5, hA, hTu⟩
    rw [set_at HOK.out HMt2.out] at hA
    have HA2 := Lib.hid hA
    have HTu := Lib.hid (turn_next HB8.out hTu)
    clear hA hTu
    go_wp2
    go_ret2
    unfold DataPost
    rw [HP.out]
    exact ⟨rfl, _, _, HA2.out, HTu.out⟩
  have hk8' : (kind == 8) = false := beq_eq_false_iff_ne.2 hk8
  by_cases hneg : len < 0
  · have HP : Hid (t.bytes ⟨kind, path, dst, off, len, data⟩ = (t, ofL [], 1)) := by
      show _ = _
      unfold Sp.Tree.bytes
      simp only
      rw [ha]
      simp only [if_true]
      rw [if_neg hk7, if_neg hk8, if_pos hneg]
    clear ha hk7 hk8
    go_wp2
    go_ret2
    exact DataPost.same HR.out HB.out HP.out
  obtain ⟨M, rfl⟩ := Int.eq_ofNat_of_zero_le (show 0 ≤ len by omega)
  have q1 : ¬ (M : Int) < 0 := by omega
  by_cases hbig : (M : Int) > 2560
  · have HP : Hid (t.bytes ⟨kind, path, dst, off, (M : Int), data⟩ = (t, ofL [], 106)) := by
      show _ = _
      unfold Sp.Tree.bytes
      simp only
      rw [ha]
      simp only [if_true]
      rw [if_neg hk7, if_neg hk8, if_neg hneg, if_pos hbig]
    have hb2 : (2560 : Int) < (M : Int) := hbig
    clear ha hk7 hk8 hneg hbig
    go_wp2
    go_ret2
    exact DataPost.same HR.out HB.out HP.out
  have HP : Hid (t.bytes ⟨kind, path, dst, off, (M : Int), data⟩ = (t.set i (ofL (stretch d.data.toList M)), ofL [], 0)) := by
    show _ = _
    unfold Sp.Tree.bytes
    simp only
    rw [ha]
    simp only [if_true]
    rw [if_neg hk7, if_neg hk8, if_neg hneg, if_neg hbig, HD.out, Int.toNat_natCast]
  have hM1 : M ≤ 2560 := by omega
  have hb2 : ¬ (2560 : Int) < (M : Int) := by omega
  have mk := run_make_row w1 st_bytes j1 j2 j3 j4 M (by omega)
  obtain ⟨W5, hW5⟩ : ∃ W, w1.alloc (rowO (List.replicate M 0) 5) = W := ⟨_, rfl⟩
  have hrow5 : W5.heap[w1.heap.size]? = some (rowO (List.replicate M 0) 5) := by rw [← hW5]; exact heap_alloc_new w1 _
  have hb5 : Below w1.heap.size w1 W5 := by rw [← hW5]; exact below_al (Below.refl _ _) _
  have cp := run_copy_text (P := Tryz.prog) (dT := 111) (sT := 9) (ty := 3) W5 st_bytes HSZ.out hrow5 d M
  rw [List.length_replicate] at cp
  have hst : d.data.toList.take M ++ (List.replicate M (0 : UInt8)).drop d.size = stretch d.data.toList M := by
    unfold stretch
    rw [List.drop_replicate]
    rfl
  rw [hst] at cp
  obtain ⟨W6, hW6⟩ : ∃ W, W5.setRow w1.heap.size (byteV (stretch d.data.toList M)).toArray = W := ⟨_, rfl⟩
  rw [hW6] at cp
  have hrow6 : W6.heap[w1.heap.size]? = some (rowO (stretch d.data.toList M) 5) := by rw [← hW6]; exact setRow_heap _ _ _ _ _ _ hrow5
  have hb6 : Below w1.heap.size w1 W6 := by rw [← hW6]; exact below_setRow hb5 (Nat.le_refl _) _
  have cv := run_row_text W6 st_bytes ut_byte ut_string hrow6 M
  rw [stretch_length] at cv
  have HB6 := Lib.hid (below_next HB.out hb6)
  rw [hW5] at mk
  clear ha hk7 hk8 hneg hbig hrow5 hb5 hst hW6 hrow6 hb6 hW5
  go_wp2_with fail
  refine (rset_any (HR.out.below HB6.out) HF.out HMt2.out _).mono ?_
  rintro e w9 ⟨rfl, vT5, vN5, hA, hTu⟩
  rw [set_at HOK.out HMt2.out] at hA
  have HA2 := Lib.hid hA
  have HTu := Lib.hid (turn_next HB6.out hTu)
  clear hA hTu
  go_wp2
  go_ret2
  unfold DataPost
  rw [HP.out]
  exact ⟨rfl, _, _, HA2.out, HTu.out⟩
end
end Go.Proofs.YtcgpmnlondnbhaaGreatDoor
