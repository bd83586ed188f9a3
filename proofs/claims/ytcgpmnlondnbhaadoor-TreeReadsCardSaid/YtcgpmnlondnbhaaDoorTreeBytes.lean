/-
  The tree's walks: file, stretch.
-/
import Derived.Test.YtcgpmnlondnbhaaDoorBytesRow
import Derived.Test.YtcgpmnlondnbhaaDoorTreeMove
import Derived.Laws.CopyOwn
namespace Go.Proofs.YtcgpmnlondnbhaaDoor
open Go Go.RowKit Txt Sp

theorem st_bytes : Tryd.prog.underlying 33 = some (.slice 5) := by kernel_rfl
theorem ut_byte : Tryd.prog.underlying 5 = some (.int .u8) := by kernel_rfl
theorem ut_string : Tryd.prog.underlying 9 = some .string := by kernel_rfl
theorem info_byte0 : (Tryd.prog.info? 5).map (fun j => (j.zero, j.size, j.bytes)) = some (some (.int .u8 0), 1, 1) := by kernel_rfl
theorem info_byte : ∃ j, Tryd.prog.info? 5 = some j ∧ j.zero = some (.int .u8 0) ∧ j.size = 1 ∧ j.bytes = 1 := by
  obtain ⟨j, h1, h2⟩ := Option.map_eq_some_iff.1 info_byte0
  exact ⟨j, h1, congrArg (·.1) h2, congrArg (·.2.1) h2, congrArg (·.2.2) h2⟩

section
set_option maxHeartbeats 1000000
theorem file_any {w : World} {B : Nat} {t : Sp.Tree} {φ μ : Nat → Nat} (hR : Rep w B t φ μ) (hok : t.Ok) (p : ByteArray) (hm : MaxOk w) (hs : p.size ≤ 4000000000) :
    Calls Tryd.prog 30 #[ptr B, .string p] w fun e w' => e = .returned (.tuple #[thingV φ (t.file p), .int .i64 (t.file p).2]) ∧ Below w.heap.size w w' := by
  have m1 := fun (r : Option Nat) (w : World) => run_eql_map_nil (P := Tryd.prog) w 64 _ _ r ht_map
  have m2 := fun (r : Option Nat) (w : World) => run_neq_map_nil (P := Tryd.prog) w 64 _ _ r ht_map
  have HR := Lib.hid hR
  have HOK := Lib.hid hok
  obtain ⟨i, c, hat⟩ : ∃ i c, t.at p = (i, c) := ⟨_, _, rfl⟩
  have HAT := Lib.hid hat
  clear hR hok hat
  by_cases h0 : c = 0
  · subst h0
    have HI : Hid (t.idOf (full p) = some i) := by
      have h := (at_ok t (path := p) (by rw [HAT.out])).2.2
      rw [HAT.out] at h
      exact h
    cases hd : t.isDir i with
    | true =>
      have HM : Hid (t.file p = (0, 102)) := by show t.file p = _; unfold Sp.Tree.file; rw [HAT.out, if_pos rfl, if_pos hd]
      have HD := Lib.hid hd
      clear hd
      go_enter Tryd.func30, Tryd.ntmps30
      go_wp2_with fail
      refine (tat_any HR.out HOK.out p hm hs).mono ?_
      rintro e w1 ⟨rfl, hb⟩
      rw [HAT.out, thingV_ok rfl]
      have HB := Lib.hid hb
      have c2 := (HR.out.below hb).dirCell HI.out HD.out
      clear hb
      unfold ptr
      go_wp2
      go_ret2
      rw [HM.out]
      exact ⟨rfl, HB.out⟩
    | false =>
      have HM : Hid (t.file p = (i, 0)) := by show t.file p = _; unfold Sp.Tree.file; rw [HAT.out, if_pos rfl, hd, if_neg (by simp)]
      have HD := Lib.hid hd
      clear hd
      go_enter Tryd.func30, Tryd.ntmps30
      go_wp2_with fail
      refine (tat_any HR.out HOK.out p hm hs).mono ?_
      rintro e w1 ⟨rfl, hb⟩
      rw [HAT.out, thingV_ok rfl]
      have HB := Lib.hid hb
      have c2 := (HR.out.below hb).fileCell HOK.out HI.out HD.out
      clear hb
      unfold ptr
      go_wp2
      go_ret2
      rw [HM.out]
      exact ⟨rfl, HB.out⟩
  · have HM : Hid (t.file p = (0, c)) := by show t.file p = _; unfold Sp.Tree.file; rw [HAT.out, if_neg h0]
    have hc0 : (c == 0) = false := beq_eq_false_iff_ne.2 h0
    have HV := Lib.hid (thingV_err (φ := φ) HAT.out h0)
    have HV2 := Lib.hid (thingV_err (φ := φ) HM.out h0)
    clear h0
    go_enter Tryd.func30, Tryd.ntmps30
    go_wp2_with fail
    refine (tat_any HR.out HOK.out p hm hs).mono ?_
    rintro e w1 ⟨rfl, hb⟩
    rw [HV.out, HAT.out]
    have HB := Lib.hid hb
    clear hb
    go_wp2
    go_ret2
    rw [HV2.out, HM.out]
    exact ⟨rfl, HB.out⟩

theorem stretch_any {w : World} {b : Nat} {d : ByteArray} {n : Nat} {m : Option Nat} (hb : w.heap[b]? = some (thingO d n m)) (long : Nat) (hl : long ≤ 1000000) :
    Calls Tryd.prog 47 #[ptr b, .int .i64 (long : Int)] w fun e w' => e = .returned (.tuple #[]) ∧ w'.heap[b]? = some (thingO (ofL (stretch d.data.toList long)) n m) ∧ Turn (fun k => k = b) w w' := by
  obtain ⟨j, j1, j2, j3, j4⟩ := info_byte
  have hlt : b < w.heap.size := (Array.getElem?_eq_some_iff.1 hb).1
  have mk := run_make_row w st_bytes j1 j2 j3 j4 long (by omega)
  obtain ⟨W, hW⟩ : ∃ W, w.alloc (rowO (List.replicate long 0) 5) = W := ⟨_, rfl⟩
  have hrow : W.heap[w.heap.size]? = some (rowO (List.replicate long 0) 5) := by rw [← hW]; exact heap_alloc_new w _
  have hbW : W.heap[b]? = some (thingO d n m) := by rw [← hW]; exact heap_below ((Below.refl _ _).alloc (Nat.le_refl _) _) _ _ hb
  have c0 : W.cell? ⟨b, 0, none⟩ = some (.string d) := cell_of_heap hbW rfl
  have cp := run_copy_text (P := Tryd.prog) (dT := 33) (sT := 9) (ty := 3) W st_bytes (by rw [j1]; exact congrArg some j3) hrow d long
  rw [List.length_replicate] at cp
  have hlen : (d.data.toList.take long ++ (List.replicate long (0 : UInt8)).drop d.size).length = long := by
    have hsz : d.data.toList.length = d.size := Array.length_toList
    simp
    rw [← hsz]
    simp
    omega
  have hst : d.data.toList.take long ++ (List.replicate long (0 : UInt8)).drop d.size = stretch d.data.toList long := by
    unfold stretch
    rw [List.drop_replicate]
    rfl
  rw [hst] at cp hlen
  obtain ⟨W2, hW2⟩ : ∃ W2, W.setRow w.heap.size (byteV (stretch d.data.toList long)).toArray = W2 := ⟨_, rfl⟩
  rw [hW2] at cp
  have hrow2 : W2.heap[w.heap.size]? = some (rowO (stretch d.data.toList long) 5) := by rw [← hW2]; exact setRow_heap _ _ _ _ _ _ hrow
  have hne : b ≠ w.heap.size := Nat.ne_of_lt hlt
  have hbW2 : W2.heap[b]? = some (thingO d n m) := by rw [← hW2, setRow_other _ _ _ _ hne]; exact hbW
  have cv := run_row_text W2 st_bytes ut_byte ut_string hrow2 long
  rw [hlen] at cv
  have f2 : W2.frozen? ⟨b, 0, none⟩ = false := free_of_heap hbW2
  have c2 : W2.cell? ⟨b, 0, none⟩ = some (.string d) := cell_of_heap hbW2 rfl
  have HT : Hid (Turn (fun k => k = b) w (W2.setCell ⟨b, 0, none⟩ (.string (ofL (stretch d.data.toList long))))) := by
    have h1 : Below w.heap.size w W2 := by
      rw [← hW2, ← hW]
      exact below_setRow ((Below.refl _ _).alloc (Nat.le_refl _) _) (Nat.le_refl _) _
    exact ⟨h1.os, h1.tape, h1.output, by rw [size_setCell]; exact h1.size, fun k hk hn => by rw [heap_setCell_ne _ hn]; exact h1.block k hk⟩
  have Hb := Lib.hid hbW2
  rw [hW] at mk
  clear hW hb j1 j2 j3 j4 hW2 hrow hrow2 hbW hbW2 hlen hst hne hlt
  generalize stretch d.data.toList long = L at *
  unfold ptr
  go_enter Tryd.func47, Tryd.ntmps47
  go_wp2
  go_end0
  exact ⟨rfl, heap_setCell_at Hb.out _, HT.out⟩
end
end Go.Proofs.YtcgpmnlondnbhaaDoor
