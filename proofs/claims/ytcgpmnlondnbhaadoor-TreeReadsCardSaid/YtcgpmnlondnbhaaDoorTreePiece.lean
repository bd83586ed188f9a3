/-
  The tree's walks: bytes.
-/
import Derived.Test.YtcgpmnlondnbhaaDoorTreeBytes
namespace Go.Proofs.YtcgpmnlondnbhaaDoor
open Go Go.RowKit Txt Sp

/-- An operation as the program holds it. -/
def opV (o : Sp.Op) : Value := .agg #[.int .i64 o.kind, .string o.path, .string o.to, .int .i64 o.off, .int .i64 o.len, .string o.data]
/-- What may come: ints are ints, texts are not endless. -/
structure OpOk (o : Sp.Op) : Prop where
  path : o.path.size ≤ 4000000000
  dest : o.to.size ≤ 4000000000
  data : o.data.size ≤ 9223372036854775807
  off : -9223372036854775808 ≤ o.off ∧ o.off ≤ 9223372036854775807
  len : -9223372036854775808 ≤ o.len ∧ o.len ≤ 9223372036854775807
  kind : -9223372036854775808 ≤ o.kind ∧ o.kind ≤ 9223372036854775807

/-- What reading, writing, cutting makes of bytes: the new ones; what is told; the code. -/
def bytesD (d : ByteArray) (o : Sp.Op) : ByteArray × ByteArray × Int :=
  if o.kind = 7 then
    (if o.off < 0 ∨ o.len < 0 then (d, ofL [], 1) else (d, ofL (piece d.data.toList o.off.toNat o.len.toNat), 0))
  else if o.kind = 8 then
    (if o.off < 0 then (d, ofL [], 1) else if o.off > 2560 ∨ (o.data.size : Int) > 2560 - o.off then (d, ofL [], 106) else
      if o.data.size = 0 then (d, ofL [], 0) else (ofL (writeL d.data.toList o.off.toNat o.data.data.toList), ofL [], 0))
  else
    (if o.len < 0 then (d, ofL [], 1) else if o.len > 2560 then (d, ofL [], 106) else (ofL (stretch d.data.toList o.len.toNat), ofL [], 0))

theorem extract_data (s : ByteArray) (a b : Nat) : (s.extract a b).data.toList = (s.data.toList.drop a).take (b - a) := by
  simp [List.extract]
theorem piece_eq (d : ByteArray) {off len : Int} (h1 : 0 ≤ off) (h2 : 0 ≤ len) :
    (d.extract (min off (d.size : Int)).toNat d.size).extract 0 (min len ((d.size - (min off (d.size : Int)).toNat : Nat) : Int)).toNat = ofL (piece d.data.toList off.toNat len.toNat) := by
  have hsz : d.data.toList.length = d.size := Array.length_toList
  refine Txt.ext ?_
  rw [extract_data, extract_data, ofL_data, List.drop_zero, Nat.sub_zero]
  unfold piece
  obtain ⟨a, rfl⟩ := Int.eq_ofNat_of_zero_le h1
  obtain ⟨l, rfl⟩ := Int.eq_ofNat_of_zero_le h2
  have e1 : (min (a : Int) (d.size : Int)).toNat = min a d.size := by omega
  rw [e1]
  have e2 : (min (l : Int) ((d.size - min a d.size : Nat) : Int)).toNat = min l (d.size - min a d.size) := by omega
  rw [e2, Int.toNat_natCast, Int.toNat_natCast]
  rcases Nat.le_total a d.size with h | h
  · rw [Nat.min_eq_left h, List.take_take, ← List.take_eq_take_iff.2]
    rw [List.length_drop, hsz]
    omega
  · rw [Nat.min_eq_right h, List.drop_of_length_le (by rw [hsz]; exact Nat.le_refl _), List.drop_of_length_le (by rw [hsz]; exact h)]
    simp

theorem stretch_cut (d : ByteArray) {m : Nat} (h : m ≤ d.size) : stretch (d.extract 0 m).data.toList m = stretch d.data.toList m := by
  have hsz : d.data.toList.length = d.size := Array.length_toList
  unfold stretch
  rw [extract_data, List.drop_zero, Nat.sub_zero, List.take_take, Nat.min_self, List.length_take, hsz, Nat.min_eq_left h, Nat.sub_self, Nat.sub_eq_zero_of_le h]

theorem stretch_length (d : List UInt8) (m : Nat) : (stretch d m).length = m := by
  unfold stretch
  simp
  omega
theorem stretch_size (d : ByteArray) (m : Nat) : (ofL (stretch d.data.toList m)).size = m := by
  show (ofL (stretch d.data.toList m)).data.size = m
  rw [← Array.length_toList, ofL_data, stretch_length]

theorem write_eq (d data : ByteArray) (a : Nat) {S : ByteArray} (hS : ofL (stretch d.data.toList (max d.size (a + data.size))) = S) :
    S.extract 0 a ++ data ++ S.extract (a + data.size) S.size = ofL (writeL d.data.toList a data.data.toList) := by
  have hsz : ∀ x : ByteArray, x.data.toList.length = x.size := fun x => Array.length_toList
  refine Txt.ext ?_
  have happ : ∀ x y : ByteArray, (x ++ y).data.toList = x.data.toList ++ y.data.toList := fun x y => by simp
  rw [happ, happ, extract_data, extract_data, ofL_data]
  unfold writeL
  rw [hsz, hsz, List.drop_zero, Nat.sub_zero]
  have hL : S.data.toList = stretch d.data.toList (max d.size (a + data.size)) := by rw [← hS, ofL_data]
  have hLs : S.size = (stretch d.data.toList (max d.size (a + data.size))).length := by rw [← hL, hsz]
  rw [hL, hLs]
  congr 1
  rw [List.take_of_length_le]
  rw [List.length_drop]
  exact Nat.le_refl _

section
set_option maxHeartbeats 1000000
def BytesPost (d : ByteArray) (o : Sp.Op) (b n : Nat) (w : World) (e : Ending) (w' : World) : Prop :=
  e = .returned (.tuple #[.string (bytesD d o).2.1, .int .i64 (bytesD d o).2.2]) ∧ w'.heap[b]? = some (thingO (bytesD d o).1 n none) ∧ Turn (fun k => k = b) w w'

theorem bytes_any {w : World} {b : Nat} {d : ByteArray} {n : Nat} (hb : w.heap[b]? = some (thingO d n none)) (hd : d.size ≤ 2560) (o : Sp.Op) (ho : OpOk o) :
    Calls Tryd.prog 31 #[ptr b, opV o] w (BytesPost d o b n w) := by
  obtain ⟨kind, path, tt, off, len, data⟩ := o
  have Hb := Lib.hid hb
  have HO := Lib.hid ho
  have hlt : b < w.heap.size := (Array.getElem?_eq_some_iff.1 hb).1
  have c0 : w.cell? ⟨b, 0, none⟩ = some (.string d) := cell_of_heap hb rfl
  obtain ⟨hoff1, hoff2⟩ := ho.off
  obtain ⟨hlen1, hlen2⟩ := ho.len
  simp only at hoff1 hoff2 hlen1 hlen2
  clear ho hb
  unfold opV
  simp only
  by_cases hk7 : kind = 7
  · subst hk7
    unfold ptr
    go_enter Tryd.func31, Tryd.ntmps31
    go_wp2
    · go_ret2
      have hneg : off < 0 ∨ len < 0 := by omega
      have hD : bytesD d ⟨7, path, tt, off, len, data⟩ = (d, ofL [], 1) := by unfold bytesD; simp [hneg]
      unfold BytesPost
      rw [hD]
      exact ⟨rfl, heap_below ((Below.refl _ _).alloc (Nat.le_refl _) _) _ _ Hb.out, Turn.of_below ((Below.refl _ _).alloc (Nat.le_refl _) _)⟩
    · go_quiet (fail)
      go_wp2
      go_ret2
      have hneg : ¬ (off < 0 ∨ len < 0) := by omega
      have hD : bytesD d ⟨7, path, tt, off, len, data⟩ = (d, ofL (piece d.data.toList off.toNat len.toNat), 0) := by unfold bytesD; simp [hneg]
      unfold BytesPost
      rw [hD, piece_eq d (by omega) (by omega)]
      exact ⟨rfl, heap_below ((Below.refl _ _).alloc (Nat.le_refl _) _) _ _ Hb.out, Turn.of_below (below_drewN ((Below.refl _ _).alloc (Nat.le_refl _) _) _)⟩
  by_cases hk8 : kind = 8
  · subst hk8
    clear hk7
    unfold ptr
    go_enter Tryd.func31, Tryd.ntmps31
    by_cases hneg : off < 0
    · go_wp2
      go_ret2
      have hD : bytesD d ⟨8, path, tt, off, len, data⟩ = (d, ofL [], 1) := by unfold bytesD; simp [hneg]
      unfold BytesPost
      rw [hD]
      exact ⟨rfl, heap_below ((Below.refl _ _).alloc (Nat.le_refl _) _) _ _ Hb.out, Turn.of_below ((Below.refl _ _).alloc (Nat.le_refl _) _)⟩
    by_cases hbig : off > 2560 ∨ (data.size : Int) > 2560 - off
    · have hD : Hid (bytesD d ⟨8, path, tt, off, len, data⟩ = (d, ofL [], 106)) := by
        show bytesD d ⟨8, path, tt, off, len, data⟩ = (d, ofL [], 106)
        unfold bytesD
        simp only
        rw [if_neg (by decide), if_pos trivial, if_neg hneg, if_pos hbig]
      go_wp2
      all_goals go_ret2
      all_goals
        unfold BytesPost
        rw [hD.out]
        exact ⟨rfl, heap_below ((Below.refl _ _).alloc (Nat.le_refl _) _) _ _ Hb.out, Turn.of_below ((Below.refl _ _).alloc (Nat.le_refl _) _)⟩
    by_cases hz : data.size = 0
    · have q : data.toList.isEmpty = true := by rw [Lib.toList_data]; exact List.isEmpty_iff.2 (List.length_eq_zero_iff.1 (by rw [← hz]; exact Array.length_toList))
      have hD : Hid (bytesD d ⟨8, path, tt, off, len, data⟩ = (d, ofL [], 0)) := by
        show bytesD d ⟨8, path, tt, off, len, data⟩ = (d, ofL [], 0)
        unfold bytesD
        simp only
        rw [if_neg (by decide), if_pos trivial, if_neg hneg, if_neg hbig, if_pos hz]
      go_wp2
      go_ret2
      unfold BytesPost
      rw [hD.out]
      exact ⟨rfl, heap_below ((Below.refl _ _).alloc (Nat.le_refl _) _) _ _ Hb.out, Turn.of_below ((Below.refl _ _).alloc (Nat.le_refl _) _)⟩
    · have q : data.toList.isEmpty = false := by
        rw [Lib.toList_data, List.isEmpty_eq_false_iff]
        intro e
        exact hz (by have := congrArg List.length e; rw [Array.length_toList] at this; exact this)
      have hD : Hid (bytesD d ⟨8, path, tt, off, len, data⟩ = (ofL (writeL d.data.toList off.toNat data.data.toList), ofL [], 0)) := by
        show bytesD d ⟨8, path, tt, off, len, data⟩ = (ofL (writeL d.data.toList off.toNat data.data.toList), ofL [], 0)
        unfold bytesD
        simp only
        rw [if_neg (by decide), if_pos trivial, if_neg hneg, if_neg hbig, if_neg hz]
      have hoff0 : 0 ≤ off := by omega
      have hsm : off + (data.size : Int) ≤ 2560 := by omega
      clear hneg hbig
      obtain ⟨a, rfl⟩ := Int.eq_ofNat_of_zero_le hoff0
      go_wp2_with fail
      have hmax : (max (d.size : Int) ((a : Int) + (data.size : Int))) = ((max d.size (a + data.size) : Nat) : Int) := by omega
      rw [hmax]
      have hbW : (w.alloc (.cells #[.int .i64 8, .string path, .string tt, .int .i64 (a : Int), .int .i64 len, .string data] 32)).heap[b]? = some (thingO d n none) := heap_below ((Below.refl _ _).alloc (Nat.le_refl _) _) _ _ Hb.out
      refine (stretch_any hbW (max d.size (a + data.size)) (by omega)).mono ?_
      rintro e w1 ⟨rfl, h1, h2⟩
      have hob : w1.heap[w.heap.size]? = some (.cells #[.int .i64 8, .string path, .string tt, .int .i64 (a : Int), .int .i64 len, .string data] 32 (0, 0)) := h2.heap (heap_alloc_new w _) (by omega)
      obtain ⟨S, hS⟩ : ∃ S, ofL (stretch d.data.toList (max d.size (a + data.size))) = S := ⟨_, rfl⟩
      have hSz : S.size = max d.size (a + data.size) := by rw [← hS]; exact stretch_size d _
      have HS := Lib.hid hS
      rw [hS] at h1
      have H1 := Lib.hid h1
      have H2 := Lib.hid h2
      have e0 : w1.cell? ⟨w.heap.size, 3, none⟩ = some (.int .i64 (a : Int)) := cell_of_heap hob rfl
      have e1 : w1.cell? ⟨w.heap.size, 5, none⟩ = some (.string data) := cell_of_heap hob rfl
      have d0 : w1.cell? ⟨b, 0, none⟩ = some (.string S) := cell_of_heap h1 rfl
      have d1 : w1.frozen? ⟨b, 0, none⟩ = false := free_of_heap h1
      have hle1 : a ≤ S.size := by omega
      have hle2 : a + data.size ≤ S.size := by omega
      have hle3 : S.size ≤ 2560 := by omega
      clear h1 h2 hob hS hbW c0 hSz hmax
      go_wp2
      go_region
      go_wp2
      go_ret2
      unfold BytesPost
      rw [hD.out, Int.toNat_natCast, ← write_eq d data a HS.out]
      have hT : Turn (fun k => k = b) w1 ((w1.setCell ⟨b, 0, none⟩ (.string (S.extract 0 a ++ data ++ S.extract (a + data.size) S.size))).drew) := ⟨rfl, rfl, rfl, by show w1.heap.size ≤ (w1.setCell _ _).heap.size; rw [size_setCell]; exact Nat.le_refl _, fun k _ hn => heap_setCell_ne _ hn⟩
      have hT2 : Turn (fun k => k = b) w (w.alloc (.cells #[.int .i64 8, .string path, .string tt, .int .i64 (a : Int), .int .i64 len, .string data] 32)) := Turn.of_below ((Below.refl _ _).alloc (Nat.le_refl _) _)
      exact ⟨rfl, heap_setCell_at H1.out _, (hT2.trans H2.out (fun _ _ h => h) (fun _ _ h => h)).trans hT (fun _ _ h => h) (fun _ _ h => h)⟩
  · have hk7' : (kind == 7) = false := beq_eq_false_iff_ne.2 hk7
    have hk8' : (kind == 8) = false := beq_eq_false_iff_ne.2 hk8
    clear hk7 hk8
    unfold ptr
    go_enter Tryd.func31, Tryd.ntmps31
    go_wp2
    · go_ret2
      have hD : bytesD d ⟨kind, path, tt, off, len, data⟩ = (d, ofL [], 1) := by
        unfold bytesD
        simp only
        rw [if_neg (beq_eq_false_iff_ne.1 hk7'), if_neg (beq_eq_false_iff_ne.1 hk8'), if_pos (by omega)]
      unfold BytesPost
      rw [hD]
      exact ⟨rfl, heap_below ((Below.refl _ _).alloc (Nat.le_refl _) _) _ _ Hb.out, Turn.of_below ((Below.refl _ _).alloc (Nat.le_refl _) _)⟩
    · go_ret2
      have hD : bytesD d ⟨kind, path, tt, off, len, data⟩ = (d, ofL [], 106) := by
        unfold bytesD
        simp only
        rw [if_neg (beq_eq_false_iff_ne.1 hk7'), if_neg (beq_eq_false_iff_ne.1 hk8'), if_neg (by omega), if_pos (by omega)]
      unfold BytesPost
      rw [hD]
      exact ⟨rfl, heap_below ((Below.refl _ _).alloc (Nat.le_refl _) _) _ _ Hb.out, Turn.of_below ((Below.refl _ _).alloc (Nat.le_refl _) _)⟩
    · go_quiet (fail)
      go_wp2_with fail
      · generalize hW : (w.alloc (.cells #[.int .i64 kind, .string path, .string tt, .int .i64 off, .int .i64 len, .string data] 32)).drewN nq = W
        have hbW : W.heap[b]? = some (thingO d n none) := by rw [← hW]; exact heap_below ((Below.refl _ _).alloc (Nat.le_refl _) _) _ _ Hb.out
        have d0 : W.cell? ⟨b, 0, none⟩ = some (.string d) := cell_of_heap hbW rfl
        have d1 : W.frozen? ⟨b, 0, none⟩ = false := free_of_heap hbW
        have d2 : W.cell? ⟨w.heap.size, 4, none⟩ = some (.int .i64 len) := by rw [← hW]; exact cell_of_heap (heap_alloc_new w _) rfl
        have HbW := Lib.hid hbW
        have HWB : Hid (Below w.heap.size w W) := by
          show Below w.heap.size w W
          rw [← hW]; exact below_drewN ((Below.refl _ _).alloc (Nat.le_refl _) _) _
        clear hW hbW
        go_region
        go_wp2_with fail
        obtain ⟨m, rfl⟩ := Int.eq_ofNat_of_zero_le (show 0 ≤ len by omega)
        have hb1 : ((W.setCell ⟨b, 0, none⟩ (.string (d.extract 0 (m : Int).toNat))).drew).heap[b]? = some (thingO (d.extract 0 (m : Int).toNat) n none) := heap_setCell_at HbW.out _
        refine (stretch_any hb1 m (by omega)).mono ?_
        rintro e w1 ⟨rfl, h1, h2⟩
        have hmd : m ≤ d.size := by omega
        rw [Int.toNat_natCast, stretch_cut d hmd] at h1
        have H1 := Lib.hid h1
        have H2 := Lib.hid h2
        have HM : Hid ((m : Int) ≤ 2560) := by show (m : Int) ≤ 2560; omega
        clear h1 h2 hb1 hmd
        go_wp2
        go_ret2
        have hD : bytesD d ⟨kind, path, tt, off, (m : Int), data⟩ = (ofL (stretch d.data.toList m), ofL [], 0) := by
          unfold bytesD
          simp only
          rw [if_neg (beq_eq_false_iff_ne.1 hk7'), if_neg (beq_eq_false_iff_ne.1 hk8'), if_neg (by omega), if_neg (by have := HM.out; omega), Int.toNat_natCast]
        unfold BytesPost
        rw [hD]
        have hT : Turn (fun k => k = b) W ((W.setCell ⟨b, 0, none⟩ (.string (d.extract 0 (m : Int).toNat))).drew) := ⟨rfl, rfl, rfl, by show W.heap.size ≤ (W.setCell _ _).heap.size; rw [size_setCell]; exact Nat.le_refl _, fun k _ hn => heap_setCell_ne _ hn⟩
        have hT2 : Turn (fun k => k = b) w W := Turn.of_below HWB.out
        exact ⟨rfl, H1.out, (hT2.trans hT (fun _ _ h => h) (fun _ _ h => h)).trans H2.out (fun _ _ h => h) (fun _ _ h => h)⟩
      · obtain ⟨m, rfl⟩ := Int.eq_ofNat_of_zero_le (show 0 ≤ len by omega)
        have hbW : ((w.alloc (.cells #[.int .i64 kind, .string path, .string tt, .int .i64 off, .int .i64 (m : Int), .string data] 32)).drewN nq).heap[b]? = some (thingO d n none) := heap_below ((Below.refl _ _).alloc (Nat.le_refl _) _) _ _ Hb.out
        refine (stretch_any hbW m (by omega)).mono ?_
        rintro e w1 ⟨rfl, h1, h2⟩
        have H1 := Lib.hid h1
        have H2 := Lib.hid h2
        have HM : Hid ((m : Int) ≤ 2560) := by show (m : Int) ≤ 2560; omega
        clear h1 h2 hbW
        go_wp2
        go_ret2
        have hD : bytesD d ⟨kind, path, tt, off, (m : Int), data⟩ = (ofL (stretch d.data.toList m), ofL [], 0) := by
          unfold bytesD
          simp only
          rw [if_neg (beq_eq_false_iff_ne.1 hk7'), if_neg (beq_eq_false_iff_ne.1 hk8'), if_neg (by omega), if_neg (by have := HM.out; omega), Int.toNat_natCast]
        unfold BytesPost
        rw [hD]
        exact ⟨rfl, H1.out, (Turn.of_below (K := fun k => k = b) (below_drewN ((Below.refl _ _).alloc (Nat.le_refl _) _) _)).trans H2.out (fun _ _ h => h) (fun _ _ h => h)⟩
end
end Go.Proofs.YtcgpmnlondnbhaaDoor
