/-
  The law TreeReads' walk.
-/
import Derived.Test.YtcgpmnlondnbhaaDoorTreeWorks
import Derived.Test.YtcgpmnlondnbhaaDoorAmong
import Derived.Test.YtcgpmnlondnbhaaDoorOpenWrites
import Derived.Laws.CopyOwn
import Derived.StillTailTactics
namespace Go.Proofs.YtcgpmnlondnbhaaDoor
open Go Go.RowKit Txt Sp

/-- A slice of bytes of the call's own, beside the tree. -/
def Want (D : Nat → Prop) (w : World) (v : Value) (d : List UInt8) : Prop :=
  (v = .slice none 0 0 ∧ d = []) ∨ ∃ g, v = .slice (some ⟨g, 0, none⟩) d.length d.length ∧ Apart D w g (rowO d 5)
theorem Want.turn {D D' : Nat → Prop} {w w' : World} {v : Value} {d : List UInt8} (h : Want D w v d) (hT : Turn D w w') (hd : ∀ j, D' j → D j ∨ w.heap.size ≤ j) : Want D' w' v d := by
  rcases h with h | ⟨g, hv, hg⟩
  · exact Or.inl h
  · exact Or.inr ⟨g, hv, hg.turn hT hd⟩
theorem Want.below {D : Nat → Prop} {w w' : World} {v : Value} {d : List UInt8} (h : Want D w v d) (hb : Below w.heap.size w w') : Want D w' v d := by
  rcases h with h | ⟨g, hv, hg⟩
  · exact Or.inl h
  · exact Or.inr ⟨g, hv, hg.below hb⟩
theorem Want.shape {D : Nat → Prop} {w : World} {v : Value} {d : List UInt8} (h : Want D w v d) : ∃ ad, v = .slice ad d.length d.length := by
  rcases h with ⟨rfl, rfl⟩ | ⟨g, rfl, _⟩
  · exact ⟨_, rfl⟩
  · exact ⟨_, rfl⟩
theorem stretch_nil (n : Nat) : stretch [] n = List.replicate n 0 := by
  unfold stretch
  simp
theorem add_zero_addr (g j : Nat) : (⟨g, 0, none⟩ : Addr).add j = ⟨g, j, none⟩ := by unfold Addr.add; split <;> simp_all
/-- copy(b, want), b new, of n bytes. -/
theorem copy_want (hsz : (Tryd.prog.info? 5).map (·.size) = some 1) {D : Nat → Prop} {w : World} {ad : Option Addr} {d : List UInt8} (h : Want D w (.slice ad d.length d.length) d) (n : Nat) :
    ∃ z W2, (Builtin.copy_ #[33, 33] 3 #[.slice (some ⟨w.heap.size, 0, none⟩) n n, .slice ad d.length d.length]).run Tryd.prog (w.alloc (rowO (List.replicate n 0) 5)) = .ok z W2 ∧
      W2.heap[w.heap.size]? = some (rowO (stretch d n) 5) ∧ Below w.heap.size w W2 := by
  have hb := (Below.refl w.heap.size w).alloc (Nat.le_refl _) (rowO (List.replicate n 0) 5)
  have hrow := heap_alloc_new w (rowO (List.replicate n 0) 5)
  rcases h with ⟨hv, rfl⟩ | ⟨g, hv, hg⟩
  · injection hv with h1
    subst h1
    have hs2 : ((Tryd.prog.info? 5).map (·.size)).isSome = true := by rw [hsz]; rfl
    refine ⟨_, _, run_copy_nil (hu := st_bytes) (hs := hs2) .., ?_, hb⟩
    rw [stretch_nil]
    exact hrow
  · injection hv with h1
    subst h1
    have hl : (byteV (d.take n)).length = Nat.min d.length n := by rw [byteV_length, List.length_take]; exact Nat.min_comm _ _
    have hle : (byteV (d.take n)).length ≤ n := by rw [hl]; exact Nat.min_le_right _ _
    have hrun := run_copy_row (P := Tryd.prog) (w.alloc (rowO (List.replicate n 0) 5)) 33 33 3 5 w.heap.size 0 n n ⟨g, 0, none⟩ d.length d.length _ _ (byteV (d.take n)) st_bytes hsz hrow hl (fun j v hj => by
      rw [add_zero_addr]
      refine cell_of_heap (hg.below hb).1 ?_
      unfold byteV at hj ⊢
      rw [List.map_take, List.getElem?_take] at hj
      split at hj
      · simpa using hj
      · cases hj) (by simp [byteV_length]; omega) byteV_one
    have hlist : (byteV (List.replicate n 0)).toArray.toList.take 0 ++ byteV (d.take n) ++ (byteV (List.replicate n 0)).toArray.toList.drop (0 + (byteV (d.take n)).length) = byteV (stretch d n) := by
      unfold stretch byteV
      simp only [List.take_zero, List.nil_append, Nat.zero_add, List.length_map, List.map_append, List.length_take]
      rw [← List.map_drop, List.drop_replicate, show n - min n d.length = n - d.length by omega]
    rw [hlist] at hrun
    exact ⟨_, _, hrun, setRow_heap _ _ _ _ _ _ hrow, below_setRow hb (Nat.le_refl _) _⟩
/-- copy(b[at:], text). -/
theorem copy_at (hsz : (Tryd.prog.info? 5).map (·.size) = some 1) {w : World} {g : Nat} {l : List UInt8} (hg : w.heap[g]? = some (rowO l 5)) (o n : Nat) (s : ByteArray) (ho : o + s.size ≤ l.length) (hn : s.size ≤ n) :
    (Builtin.copy_ #[33, 9] 3 #[.slice (some ⟨g, o, none⟩) n n, .string s]).run Tryd.prog w = .ok (goInt (Nat.min s.size n)) (w.setRow g (byteV (l.take o ++ (s.data.toList ++ l.drop (o + s.data.toList.length)))).toArray) := by
  have hss : s.data.toList.length = s.size := Array.length_toList
  have hcs : List.take (s.size.min n) (List.map (fun b : UInt8 => Value.int .u8 (b.toNat : Int)) s.data.toList) = byteV s.data.toList := by
    unfold byteV
    rw [show s.size.min n = s.size from Nat.min_eq_left hn, List.take_of_length_le (by rw [List.length_map, hss]; exact Nat.le_refl _)]
  have hst := run_storeCells_at Tryd.prog g o 5 (byteV s.data.toList) 0 (byteV l).toArray w hg (by rw [byteV_length]; simp [byteV_length]; omega) byteV_one
  have hres : (byteV l).take o ++ byteV s.data.toList ++ (byteV l).drop (o + (byteV s.data.toList).length) = byteV (l.take o ++ (s.data.toList ++ l.drop (o + s.data.toList.length))) := by
    unfold byteV
    rw [List.map_append, List.map_append, List.length_map, ← List.map_drop, ← List.map_take, List.append_assoc]
  cases hq : Tryd.prog.info? 5 with
  | none => simp [hq] at hsz
  | some i =>
    simp only [Nat.add_zero] at hst hres
    rw [hres] at hst
    simp [Builtin.copy_, run_underlying st_bytes, Builtin.lenOf, Builtin.firstCells, sizeOf, typeInfo, hq, hcs, hst]

set_option maxRecDepth 20000 in
theorem conv_want {D : Nat → Prop} {w : World} {ad : Option Addr} {d : List UInt8} (h : Want D w (.slice ad d.length d.length) d) :
    (convert 33 9 (.slice ad d.length d.length)).run Tryd.prog w = .ok (.string (ofL d)) w := by
  rcases h with ⟨hv, rfl⟩ | ⟨g, hv, hg⟩
  · injection hv with h1
    subst h1
    exact run_convert_bytes_nil w _ _ st_bytes ut_byte 0 0 _ ut_string
  · injection hv with h1
    subst h1
    exact run_row_text w st_bytes ut_byte ut_string hg.1 _
theorem conv_piece {D : Nat → Prop} {w : World} {ad : Option Addr} {d : List UInt8} (h : Want D w (.slice ad d.length d.length) d) (r1 r2 : Nat) (hlt : r1 < d.length) :
    ∃ g, ad = some ⟨g, 0, none⟩ ∧ ∀ cap, (convert 33 9 (.slice (some ⟨g, r1, none⟩) (min d.length (r1 + r2) - r1) cap)).run Tryd.prog w = .ok (.string (ofL (piece d r1 r2))) w := by
  rcases h with ⟨_, rfl⟩ | ⟨g, hv, hg⟩
  · simp at hlt
  · injection hv with h1
    refine ⟨g, h1, fun cap => ?_⟩
    have hl : (piece d r1 r2).length = min d.length (r1 + r2) - r1 := by unfold piece; rw [List.length_take, List.length_drop]; omega
    rw [← hl]
    refine run_convert_bytes_back w _ _ _ ⟨g, r1, none⟩ cap (piece d r1 r2) st_bytes ut_byte ut_string (fun j hj => ?_)
    have hadd : (⟨g, r1, none⟩ : Addr).add j = ⟨g, r1 + j, none⟩ := by unfold Addr.add; split <;> simp_all
    rw [hadd]
    refine cell_of_heap hg.1 ?_
    have hj2 : r1 + j < d.length := by omega
    simp [byteV, piece, List.getElem?_eq_getElem hj2]
theorem piece_all {d : List UInt8} (h : d.length ≤ 2560) : piece d 0 5000 = d := by
  unfold piece
  rw [List.drop_zero, List.take_of_length_le (by omega)]

theorem Live.beside {w0 w w' : World} {B : Nat} {t : Sp.Tree} {k : Nat} {D K : Nat → Prop} (h : Live w0 w B t k D) (hT : Turn K w w') (hK : ∀ j, D j → ¬ K j) (hK0 : ∀ j, K j → w0.heap.size ≤ j) : Live w0 w' B t k D :=
  let ⟨φ, μ, hR, hD⟩ := h.rep
  ⟨h.ok, h.few, h.low.trans (hT.below hK0 h.low.size), ⟨φ, μ, hR.dom_same h.ok (fun j hj _ ho => hT.heap ho (hK j (hD j hj))), hD⟩, fun j hj => ⟨(h.from0 j hj).1, Nat.lt_of_lt_of_le (h.from0 j hj).2 hT.size⟩, h.max0⟩

section
set_option maxHeartbeats 20000000
theorem apart_cells1 {D : Nat → Prop} {w : World} {n : Nat} {cs : Array Value} {e : TypeId} (h : Apart D w n (.cells cs e (0, 0))) (a : Obj) (k : Nat) : (w.alloc a).cell? ⟨n, k, none⟩ = cs[k]? := by
  have := (h.below ((Below.refl w.heap.size w).alloc (Nat.le_refl _) a)).1
  simp [World.cell?, this]



set_option maxRecDepth 20000 in
theorem treeReads_walk (w : World) {v : Value} {l : List (Int × ByteArray)} (off long : Int) (hl : Writes w v l) (hok : ∀ x ∈ l, x.2.size ≤ 9223372036854775807) (hm : MaxOk w) :
    Calls Tryd.prog 3 #[v, .int .i64 off, .int .i64 long] w fun e w' => e = .returned (.bool true) ∧ Below w.heap.size w w' := by
  have q1 := eql_tree_nil
  have q2 := ans_code
  obtain ⟨j0, j1, j2, j3, j4⟩ := info_byte
  have mk := fun (W : World) (n : Nat) (hn : n ≤ 4000000000) => run_make_row W st_bytes j1 j2 j3 j4 n hn
  have HSZ : Hid ((Tryd.prog.info? 5).map (·.size) = some 1) := by
    show (Tryd.prog.info? 5).map (·.size) = some 1
    rw [j1]; exact congrArg some j3
  clear j1 j2 j3 j4
  have HM := Lib.hid hm
  have HO := Lib.hid hok
  obtain ⟨ad, cap, rfl, hn1, hn2, hc⟩ := hl
  obtain ⟨n, hn⟩ : ∃ n, l.length = n := ⟨_, rfl⟩
  have HN := Lib.hid hn
  have HC := Lib.hid hc
  rw [hn] at hn1 ⊢
  have hn3 : n ≤ 9223372036854775807 := Nat.le_trans (Nat.le_trans hn1 hn2) (by decide)
  clear hm hc hok hn hn1 hn2
  go_enter Tryd.func3, Tryd.ntmps3
  go_wp2_with fail
  refine (new_live (Below.refl _ w) HM.out).mono ?_
  rintro e w1 ⟨B, D1, rfl, l1, -, -⟩
  have L1 := Lib.hid l1
  clear l1
  unfold ptr
  go_wp2_with fail
  refine (treeWorks_any (w0 := w) _ L1.out.low HM.out).mono ?_
  rintro e w2 ⟨rfl, hb2⟩
  have L2 := Lib.hid (L1.out.below hb2)
  clear hb2 L1
  go_wp2_with fail
  refine (do_known step_first L2.out (small_ok (by decide) (by decide) (by decide) (by decide) (by decide) (by decide)) (by decide)).mono ?_
  rintro e w3 ⟨ad3, cap3, D3, rfl, -, l3, -, -⟩
  have L3 := Lib.hid l3
  clear l3 L2
  go_wp2
  go_loopw [8, 9] (fun wv i wr => ∃ (k : Nat) (D : Nat → Prop) (d : List UInt8), k ≤ n ∧ k ≤ 20 ∧ i = .int .i64 k ∧ d.length ≤ 2560 ∧ Hid (Want D wr wv d) ∧ Hid (Live w wr B (fileT (ofL d)) (k + 1) D)) (fun _ i _ => 20 - (intOf i).toNat)
  case atStart => exact ⟨0, D3, [], by omega, by omega, rfl, by simp, Lib.hid (Or.inl ⟨rfl, rfl⟩), L3⟩
  case round =>
    obtain ⟨k, D, d, hkn, hk20, rfl, hd, HW, HL⟩ := hrel
    by_cases h1 : k < n
    · by_cases h2 : k < 20
      · obtain ⟨b, off0, rfl, hbl, hcell⟩ := HC.out (by have := HN.out; omega)
        obtain ⟨⟨o, s⟩, ho⟩ : ∃ x, l[k]? = some x := ⟨l[k]'(by have := HN.out; omega), List.getElem?_eq_getElem _⟩
        obtain ⟨e0, e1⟩ := hcell k _ ho
        simp only at e0 e1
        have hs := HO.out _ (List.mem_of_getElem? ho)
        simp only at hs
        have HCell : Hid (∀ W, Below w.heap.size w W → W.cell? ⟨b, off0 + k * 2, none⟩ = some (.int .i64 o) ∧ W.cell? ⟨b, off0 + k * 2 + 1, none⟩ = some (.string s)) :=
          fun W hW => ⟨(hW.cell (p := ⟨b, off0 + k * 2, none⟩) hbl).trans e0, (hW.cell (p := ⟨b, off0 + k * 2 + 1, none⟩) hbl).trans e1⟩
        obtain ⟨g0, g1⟩ := HCell.out wr HL.out.low
        clear hcell e0 e1 ho HC
        go_wp2_with fail
        refine (among_any _ o 2000 (by decide) (by decide)).mono ?_
        rintro e w4 ⟨at', hat, rfl, rfl⟩
        obtain ⟨wad, hwv⟩ := HW.out.shape
        subst hwv
        by_cases hz : s.size = 0
        · have hem : s.toList.isEmpty = true := by
            rw [Lib.toList_data, List.isEmpty_iff]
            exact List.length_eq_zero_iff.1 (by rw [← Lib.size_eq]; exact hz)
          have mk1 := mk w4 at' (by omega)
          obtain ⟨z, W2, hrun, hrow2, hb2⟩ := copy_want HSZ.out HW.out at'
          have M2 := Lib.hid (HL.out.below hb2)
          have P2 : Hid (Apart D W2 w4.heap.size (rowO (stretch d at') 5)) := HL.out.apart (Nat.le_refl _) hrow2
          clear hrow2 hb2
          go_wp2_with fail
          refine (do_known (step_trunc (ofL d) (n := at') (by omega)) M2.out (small_ok (by decide) (by decide) (by decide) (by decide) (by decide) (by omega)) (by omega)).mono ?_
          rintro e w5 ⟨ad5, cap5, D5, rfl, -, l5, t5, d5⟩
          rw [ofL_data] at l5
          have L5 := Lib.hid l5
          have P5 : Hid (Want D5 w5 (.slice (some ⟨w4.heap.size, 0, none⟩) at' at') (stretch d at')) := Or.inr ⟨_, by rw [stretch_length], P2.out.turn t5 d5⟩
          clear l5 t5 d5 mk1 hrun
          go_wp2
          go_roundw
          case rel => exact ⟨k + 1, D5, stretch d at', by omega, by omega, by go_num, by rw [stretch_length]; omega, P5, L5⟩
          case measure => simp [intOf]; omega
        · have hem : s.toList.isEmpty = false := by
            rw [Lib.toList_data, List.isEmpty_eq_false_iff]
            intro e
            exact hz (by rw [Lib.size_eq, e]; rfl)
          by_cases hbig : 2560 - at' < s.size
          · have hi : (2560 : Int) - at' < s.size := by omega
            go_wp2_with fail
            refine (do_known (step_big (ofL d) (n := at') (by omega) hbig) HL.out (small_ok (by decide) (by decide) hs (by decide) (by omega) (by decide)) (by omega)).mono ?_
            rintro e w5 ⟨ad5, cap5, D5, rfl, -, l5, t5, d5⟩
            have L5 := Lib.hid l5
            have P5 := Lib.hid (HW.out.turn t5 d5)
            obtain ⟨f0, f1⟩ := HCell.out w5 l5.low
            have hbz : b < w5.heap.size := Nat.lt_of_lt_of_le hbl l5.low.size
            clear l5 t5 d5 g0 g1
            go_wp2
            go_roundw
            case rel => exact ⟨k + 1, D5, d, by omega, by omega, by go_num, hd, P5.out.below ((Below.refl _ _).alloc (Nat.le_refl _) _), L5.out.below ((Below.refl _ _).alloc (Nat.le_refl _) _)⟩
            case measure => simp [intOf]; omega
          · have hi : ¬ ((2560 : Int) - at' < s.size) := by omega
            go_wp2_with fail
            refine (do_known (step_write (ofL d) (n := at') (by omega) hz (by omega)) HL.out (small_ok (by decide) (by decide) hs (by decide) (by omega) (by decide)) (by omega)).mono ?_
            rintro e w5 ⟨ad5, cap5, D5, rfl, -, l5, t5, d5⟩
            rw [ofL_data] at l5
            have L5 := Lib.hid l5
            have P5 := Lib.hid (HW.out.turn t5 d5)
            obtain ⟨f0, f1⟩ := HCell.out w5 l5.low
            have hbz : b < w5.heap.size := Nat.lt_of_lt_of_le hbl l5.low.size
            clear l5 t5 d5 g0 g1
            obtain ⟨m, hm⟩ : ∃ m : Nat, m = max d.length (at' + s.size) := ⟨_, rfl⟩
            have hmi : max (d.length : Int) ((at' : Int) + s.size) = (m : Int) := by omega
            obtain ⟨W5, hW5⟩ : ∃ W, w5.alloc (.cells #[.int .i64 0, .int .i64 0, .int .i64 0, .int .i64 0, .string (ofL []), .slice ad5 0 cap5] 29) = W := ⟨_, rfl⟩
            have hb5 : Below w5.heap.size w5 W5 := by rw [← hW5]; exact (Below.refl _ _).alloc (Nat.le_refl _) _
            have M5 := Lib.hid (L5.out.below hb5)
            have Q5 := Lib.hid (P5.out.below hb5)
            have mk1 := mk W5 m (by omega)
            obtain ⟨z, W6, hrun, hrow6, hb6⟩ := copy_want HSZ.out Q5.out m
            have M6 := Lib.hid (M5.out.below hb6)
            have P6 : Hid (Apart D5 W6 W5.heap.size (rowO (stretch d m) 5)) := M5.out.apart (Nat.le_refl _) hrow6
            obtain ⟨k0, k1⟩ := HCell.out W6 M6.out.low
            have hbz6 : b < W6.heap.size := Nat.lt_of_lt_of_le hbl M6.out.low.size
            have e5 : W5.heap.size = w5.heap.size + 1 := by rw [← hW5]; simp
            rw [e5] at P6 hrun mk1 hrow6
            rw [← hW5] at hrun mk1
            have HM6 := Lib.hid hm
            have hat6 : at' ≤ m := by omega
            clear hb5 hW5 hb6 hm e5
            go_wp2_with fail
            go_still_tail 8, (by kernel_rfl)
            change wpList _ _ _ _ _ W6.drew
            have hcp := copy_at HSZ.out (w := W6.drew) (g := w5.heap.size + 1) hrow6 at' (m - at') s (by rw [stretch_length]; have := HM6.out; omega) (by have := HM6.out; omega)
            have hss : s.data.toList.length = s.size := Array.length_toList
            have hwr : (stretch d m).take at' ++ (s.data.toList ++ (stretch d m).drop (at' + s.data.toList.length)) = writeL d at' s.data.toList := by
              rw [← writeL_over, HM6.out, hss]
            rw [hwr] at hcp
            have hrow8 := setRow_heap W6.drew (w5.heap.size + 1) _ (byteV (writeL d at' s.data.toList)).toArray 5 (0, 0) hrow6
            have T8 : Hid (Turn (fun j => j = w5.heap.size + 1) W6 (W6.drew.setRow (w5.heap.size + 1) (byteV (writeL d at' s.data.toList)).toArray)) :=
              ⟨rfl, rfl, rfl, by simp [World.setRow], fun j hj hn => setRow_other W6.drew _ _ _ hn⟩
            obtain ⟨W8, hW8⟩ : ∃ W, W6.drew.setRow (w5.heap.size + 1) (byteV (writeL d at' s.data.toList)).toArray = W := ⟨_, rfl⟩
            rw [hW8] at hcp hrow8 T8
            have M8 : Hid (Live w W8 B (fileT (ofL (writeL d at' s.data.toList))) (k + 1 + 1) D5) := M6.out.beside T8.out (fun j hj e => P6.out.2 (by rw [← e]; exact hj)) (fun j hj => by have := L5.out.low.size; omega)
            have P8 : Hid (Apart D5 W8 (w5.heap.size + 1) (rowO (writeL d at' s.data.toList) 5)) := ⟨hrow8, P6.out.2⟩
            have hlen : (writeL d at' s.data.toList).length = m := by rw [writeL_length, HM6.out, hss]
            clear hrow6 hwr hrow8 hW8 hrun mk1
            generalize W6.drew = W7 at hcp ⊢
            go_wp2
            go_roundw
            case rel => exact ⟨k + 1, D5, writeL d at' s.data.toList, by omega, by omega, by go_num, by rw [hlen]; omega, Lib.hid (Or.inr ⟨_, by rw [hlen], P8.out⟩), M8⟩
            case measure => simp [intOf]; omega
      · have hcond : ¬ k < 20 := h2
        obtain ⟨wad, hwv⟩ := HW.out.shape
        subst hwv
        go_wp2_with fail
        refine (among_any _ off 2600 (by decide) (by decide)).mono ?_
        rintro e w4 ⟨r1, hr1, rfl, rfl⟩
        go_wp2_with fail
        refine (among_any _ long 2600 (by decide) (by decide)).mono ?_
        rintro e w5 ⟨r2, hr2, rfl, rfl⟩
        by_cases hlt : r1 < d.length
        · obtain ⟨g, rfl, hcv⟩ := conv_piece HW.out r1 r2 hlt
          have hmn : min (d.length : Int) ((r1 : Int) + r2) = ((min d.length (r1 + r2) : Nat) : Int) := by omega
          go_wp2_with fail
          refine (do_known (step_read (ofL d) 0 5000) HL.out (small_ok (by decide) (by decide) (by decide) (by decide) (by decide) (by decide)) (by omega)).mono ?_
          rintro e w6 ⟨ad6, cap6, D6, rfl, -, l6, t6, d6⟩
          have L6 := Lib.hid l6
          have Q6 := Lib.hid (HW.out.turn t6 d6)
          clear l6 t6 d6
          go_wp2_with fail
          refine (do_known (step_read (ofL d) r1 r2) L6.out (small_ok (by decide) (by decide) (by decide) (by decide) (by omega) (by omega)) (by omega)).mono ?_
          rintro e w7 ⟨ad7, cap7, D7, rfl, -, l7, t7, d7⟩
          have L7 := Lib.hid l7
          have Q7 := Lib.hid (Q6.out.turn t7 d7)
          clear l7 t7 d7 Q6 L6
          rw [ofL_data, piece_all hd]
          go_wp2_with fail
          obtain ⟨W7, hW7⟩ : ∃ W, (w7.alloc (.cells #[.int .i64 0, .int .i64 0, .int .i64 0, .int .i64 0, .string (ofL d), .slice ad6 0 cap6] 29)).alloc (.cells #[.int .i64 0, .int .i64 0, .int .i64 0, .int .i64 0, .string (ofL (piece d r1 r2)), .slice ad7 0 cap7] 29) = W := ⟨_, rfl⟩
          have hb7 : Below w7.heap.size w7 W7 := by rw [← hW7]; exact ((Below.refl w7.heap.size w7).alloc (Nat.le_refl _) _).alloc (by simp) _
          have M7 := Lib.hid (L7.out.below hb7)
          have N7 := Lib.hid (Q7.out.below hb7)
          have A7 : Hid (Apart D7 W7 w7.heap.size (.cells #[.int .i64 0, .int .i64 0, .int .i64 0, .int .i64 0, .string (ofL d), .slice ad6 0 cap6] 29 (0, 0))) :=
            L7.out.apart (Nat.le_refl _) (by rw [← hW7]; exact heap_below ((Below.refl _ _).alloc (Nat.le_refl _) _) _ _ (heap_alloc_new w7 _))
          have B7 : Hid (Apart D7 W7 (w7.heap.size + 1) (.cells #[.int .i64 0, .int .i64 0, .int .i64 0, .int .i64 0, .string (ofL (piece d r1 r2)), .slice ad7 0 cap7] 29 (0, 0))) :=
            L7.out.apart (Nat.le_succ _) (by rw [← hW7]; exact alloc_at (by simp) _)
          rw [hW7]
          clear hW7 hb7 Q7 L7
          refine (do_known (step_stat (ofL d)) M7.out (small_ok (by decide) (by decide) (by decide) (by decide) (by decide) (by decide)) (by omega)).mono ?_
          rintro e w8 ⟨ad8, cap8, D8, rfl, -, l8, t8, d8⟩
          have L8 := Lib.hid l8
          have ca := apart_cells1 (A7.out.turn t8 d8)
          have cb := apart_cells1 (B7.out.turn t8 d8)
          have N8 := N7.out.turn t8 d8
          have cv := fun o => conv_want (N8.below ((Below.refl _ _).alloc (Nat.le_refl _) o))
          have hsz : ((ofL d).size : Int) = (d.length : Int) := by rw [Lib.size_eq, ofL_data]
          have te := text_eq (ofL d) (ofL d)
          rw [decide_eq_true rfl] at te
          have tp := text_eq (ofL (piece d r1 r2)) (ofL (piece d r1 r2))
          rw [decide_eq_true rfl] at tp
          clear l8 t8 d8 N8 A7 B7 M7 N7
          go_wp2
          go_ret
          exact ⟨rfl, (L8.out.below ((Below.refl _ _).alloc (Nat.le_refl _) _)).low⟩
        · have hpe : piece d r1 r2 = [] := by unfold piece; rw [List.drop_of_length_le (by omega), List.take_nil]
          go_wp2_with fail
          have ST : Hid ((fileT (ofL d)).step ⟨7, pf, noText, r1, r2, noText⟩ = (fileT (ofL d), ⟨0, 0, 0, 0, ⟨#[]⟩, []⟩)) := by
            show (fileT (ofL d)).step ⟨7, pf, noText, r1, r2, noText⟩ = (fileT (ofL d), ⟨0, 0, 0, 0, ⟨#[]⟩, []⟩)
            rw [step_read, ofL_data, hpe]
            rfl
          refine (do_known (step_read (ofL d) 0 5000) HL.out (small_ok (by decide) (by decide) (by decide) (by decide) (by decide) (by decide)) (by omega)).mono ?_
          rintro e w6 ⟨ad6, cap6, D6, rfl, -, l6, t6, d6⟩
          have L6 := Lib.hid l6
          have Q6 := Lib.hid (HW.out.turn t6 d6)
          clear l6 t6 d6
          go_wp2_with fail
          refine (do_known ST.out L6.out (small_ok (by decide) (by decide) (by decide) (by decide) (by omega) (by omega)) (by omega)).mono ?_
          rintro e w7 ⟨ad7, cap7, D7, rfl, -, l7, t7, d7⟩
          have L7 := Lib.hid l7
          have Q7 := Lib.hid (Q6.out.turn t7 d7)
          clear l7 t7 d7 Q6 L6
          rw [ofL_data, piece_all hd]
          go_wp2_with fail
          obtain ⟨W7, hW7⟩ : ∃ W, (w7.alloc (.cells #[.int .i64 0, .int .i64 0, .int .i64 0, .int .i64 0, .string (ofL d), .slice ad6 0 cap6] 29)).alloc (.cells #[.int .i64 0, .int .i64 0, .int .i64 0, .int .i64 0, .string ⟨#[]⟩, .slice ad7 0 cap7] 29) = W := ⟨_, rfl⟩
          have hb7 : Below w7.heap.size w7 W7 := by rw [← hW7]; exact ((Below.refl w7.heap.size w7).alloc (Nat.le_refl _) _).alloc (by simp) _
          have M7 := Lib.hid (L7.out.below hb7)
          have N7 := Lib.hid (Q7.out.below hb7)
          have A7 : Hid (Apart D7 W7 w7.heap.size (.cells #[.int .i64 0, .int .i64 0, .int .i64 0, .int .i64 0, .string (ofL d), .slice ad6 0 cap6] 29 (0, 0))) :=
            L7.out.apart (Nat.le_refl _) (by rw [← hW7]; exact heap_below ((Below.refl _ _).alloc (Nat.le_refl _) _) _ _ (heap_alloc_new w7 _))
          have B7 : Hid (Apart D7 W7 (w7.heap.size + 1) (.cells #[.int .i64 0, .int .i64 0, .int .i64 0, .int .i64 0, .string ⟨#[]⟩, .slice ad7 0 cap7] 29 (0, 0))) :=
            L7.out.apart (Nat.le_succ _) (by rw [← hW7]; exact alloc_at (by simp) _)
          rw [hW7]
          clear hW7 hb7 Q7 L7
          refine (do_known (step_stat (ofL d)) M7.out (small_ok (by decide) (by decide) (by decide) (by decide) (by decide) (by decide)) (by omega)).mono ?_
          rintro e w8 ⟨ad8, cap8, D8, rfl, -, l8, t8, d8⟩
          have L8 := Lib.hid l8
          have ca := apart_cells1 (A7.out.turn t8 d8)
          have cb := apart_cells1 (B7.out.turn t8 d8)
          have N8 := N7.out.turn t8 d8
          have cv := fun o => conv_want (N8.below ((Below.refl _ _).alloc (Nat.le_refl _) o))
          have hsz : ((ofL d).size : Int) = (d.length : Int) := by rw [Lib.size_eq, ofL_data]
          have te := text_eq (ofL d) (ofL d)
          rw [decide_eq_true rfl] at te
          have tp : (⟨#[]⟩ : ByteArray).toList.isEmpty = true := by rw [Lib.toList_data]; rfl
          clear l8 t8 d8 N8 A7 B7 M7 N7
          go_wp2
          go_ret
          exact ⟨rfl, (L8.out.below ((Below.refl _ _).alloc (Nat.le_refl _) _)).low⟩
    · obtain ⟨wad, hwv⟩ := HW.out.shape
      subst hwv
      go_wp2_with fail
      refine (among_any _ off 2600 (by decide) (by decide)).mono ?_
      rintro e w4 ⟨r1, hr1, rfl, rfl⟩
      go_wp2_with fail
      refine (among_any _ long 2600 (by decide) (by decide)).mono ?_
      rintro e w5 ⟨r2, hr2, rfl, rfl⟩
      by_cases hlt : r1 < d.length
      · obtain ⟨g, rfl, hcv⟩ := conv_piece HW.out r1 r2 hlt
        have hmn : min (d.length : Int) ((r1 : Int) + r2) = ((min d.length (r1 + r2) : Nat) : Int) := by omega
        go_wp2_with fail
        refine (do_known (step_read (ofL d) 0 5000) HL.out (small_ok (by decide) (by decide) (by decide) (by decide) (by decide) (by decide)) (by omega)).mono ?_
        rintro e w6 ⟨ad6, cap6, D6, rfl, -, l6, t6, d6⟩
        have L6 := Lib.hid l6
        have Q6 := Lib.hid (HW.out.turn t6 d6)
        clear l6 t6 d6
        go_wp2_with fail
        refine (do_known (step_read (ofL d) r1 r2) L6.out (small_ok (by decide) (by decide) (by decide) (by decide) (by omega) (by omega)) (by omega)).mono ?_
        rintro e w7 ⟨ad7, cap7, D7, rfl, -, l7, t7, d7⟩
        have L7 := Lib.hid l7
        have Q7 := Lib.hid (Q6.out.turn t7 d7)
        clear l7 t7 d7 Q6 L6
        rw [ofL_data, piece_all hd]
        go_wp2_with fail
        obtain ⟨W7, hW7⟩ : ∃ W, (w7.alloc (.cells #[.int .i64 0, .int .i64 0, .int .i64 0, .int .i64 0, .string (ofL d), .slice ad6 0 cap6] 29)).alloc (.cells #[.int .i64 0, .int .i64 0, .int .i64 0, .int .i64 0, .string (ofL (piece d r1 r2)), .slice ad7 0 cap7] 29) = W := ⟨_, rfl⟩
        have hb7 : Below w7.heap.size w7 W7 := by rw [← hW7]; exact ((Below.refl w7.heap.size w7).alloc (Nat.le_refl _) _).alloc (by simp) _
        have M7 := Lib.hid (L7.out.below hb7)
        have N7 := Lib.hid (Q7.out.below hb7)
        have A7 : Hid (Apart D7 W7 w7.heap.size (.cells #[.int .i64 0, .int .i64 0, .int .i64 0, .int .i64 0, .string (ofL d), .slice ad6 0 cap6] 29 (0, 0))) :=
          L7.out.apart (Nat.le_refl _) (by rw [← hW7]; exact heap_below ((Below.refl _ _).alloc (Nat.le_refl _) _) _ _ (heap_alloc_new w7 _))
        have B7 : Hid (Apart D7 W7 (w7.heap.size + 1) (.cells #[.int .i64 0, .int .i64 0, .int .i64 0, .int .i64 0, .string (ofL (piece d r1 r2)), .slice ad7 0 cap7] 29 (0, 0))) :=
          L7.out.apart (Nat.le_succ _) (by rw [← hW7]; exact alloc_at (by simp) _)
        rw [hW7]
        clear hW7 hb7 Q7 L7
        refine (do_known (step_stat (ofL d)) M7.out (small_ok (by decide) (by decide) (by decide) (by decide) (by decide) (by decide)) (by omega)).mono ?_
        rintro e w8 ⟨ad8, cap8, D8, rfl, -, l8, t8, d8⟩
        have L8 := Lib.hid l8
        have ca := apart_cells1 (A7.out.turn t8 d8)
        have cb := apart_cells1 (B7.out.turn t8 d8)
        have N8 := N7.out.turn t8 d8
        have cv := fun o => conv_want (N8.below ((Below.refl _ _).alloc (Nat.le_refl _) o))
        have hsz : ((ofL d).size : Int) = (d.length : Int) := by rw [Lib.size_eq, ofL_data]
        have te := text_eq (ofL d) (ofL d)
        rw [decide_eq_true rfl] at te
        have tp := text_eq (ofL (piece d r1 r2)) (ofL (piece d r1 r2))
        rw [decide_eq_true rfl] at tp
        clear l8 t8 d8 N8 A7 B7 M7 N7
        go_wp2
        go_ret
        exact ⟨rfl, (L8.out.below ((Below.refl _ _).alloc (Nat.le_refl _) _)).low⟩
      · have hpe : piece d r1 r2 = [] := by unfold piece; rw [List.drop_of_length_le (by omega), List.take_nil]
        go_wp2_with fail
        have ST : Hid ((fileT (ofL d)).step ⟨7, pf, noText, r1, r2, noText⟩ = (fileT (ofL d), ⟨0, 0, 0, 0, ⟨#[]⟩, []⟩)) := by
          show (fileT (ofL d)).step ⟨7, pf, noText, r1, r2, noText⟩ = (fileT (ofL d), ⟨0, 0, 0, 0, ⟨#[]⟩, []⟩)
          rw [step_read, ofL_data, hpe]
          rfl
        refine (do_known (step_read (ofL d) 0 5000) HL.out (small_ok (by decide) (by decide) (by decide) (by decide) (by decide) (by decide)) (by omega)).mono ?_
        rintro e w6 ⟨ad6, cap6, D6, rfl, -, l6, t6, d6⟩
        have L6 := Lib.hid l6
        have Q6 := Lib.hid (HW.out.turn t6 d6)
        clear l6 t6 d6
        go_wp2_with fail
        refine (do_known ST.out L6.out (small_ok (by decide) (by decide) (by decide) (by decide) (by omega) (by omega)) (by omega)).mono ?_
        rintro e w7 ⟨ad7, cap7, D7, rfl, -, l7, t7, d7⟩
        have L7 := Lib.hid l7
        have Q7 := Lib.hid (Q6.out.turn t7 d7)
        clear l7 t7 d7 Q6 L6
        rw [ofL_data, piece_all hd]
        go_wp2_with fail
        obtain ⟨W7, hW7⟩ : ∃ W, (w7.alloc (.cells #[.int .i64 0, .int .i64 0, .int .i64 0, .int .i64 0, .string (ofL d), .slice ad6 0 cap6] 29)).alloc (.cells #[.int .i64 0, .int .i64 0, .int .i64 0, .int .i64 0, .string ⟨#[]⟩, .slice ad7 0 cap7] 29) = W := ⟨_, rfl⟩
        have hb7 : Below w7.heap.size w7 W7 := by rw [← hW7]; exact ((Below.refl w7.heap.size w7).alloc (Nat.le_refl _) _).alloc (by simp) _
        have M7 := Lib.hid (L7.out.below hb7)
        have N7 := Lib.hid (Q7.out.below hb7)
        have A7 : Hid (Apart D7 W7 w7.heap.size (.cells #[.int .i64 0, .int .i64 0, .int .i64 0, .int .i64 0, .string (ofL d), .slice ad6 0 cap6] 29 (0, 0))) :=
          L7.out.apart (Nat.le_refl _) (by rw [← hW7]; exact heap_below ((Below.refl _ _).alloc (Nat.le_refl _) _) _ _ (heap_alloc_new w7 _))
        have B7 : Hid (Apart D7 W7 (w7.heap.size + 1) (.cells #[.int .i64 0, .int .i64 0, .int .i64 0, .int .i64 0, .string ⟨#[]⟩, .slice ad7 0 cap7] 29 (0, 0))) :=
          L7.out.apart (Nat.le_succ _) (by rw [← hW7]; exact alloc_at (by simp) _)
        rw [hW7]
        clear hW7 hb7 Q7 L7
        refine (do_known (step_stat (ofL d)) M7.out (small_ok (by decide) (by decide) (by decide) (by decide) (by decide) (by decide)) (by omega)).mono ?_
        rintro e w8 ⟨ad8, cap8, D8, rfl, -, l8, t8, d8⟩
        have L8 := Lib.hid l8
        have ca := apart_cells1 (A7.out.turn t8 d8)
        have cb := apart_cells1 (B7.out.turn t8 d8)
        have N8 := N7.out.turn t8 d8
        have cv := fun o => conv_want (N8.below ((Below.refl _ _).alloc (Nat.le_refl _) o))
        have hsz : ((ofL d).size : Int) = (d.length : Int) := by rw [Lib.size_eq, ofL_data]
        have te := text_eq (ofL d) (ofL d)
        rw [decide_eq_true rfl] at te
        have tp : (⟨#[]⟩ : ByteArray).toList.isEmpty = true := by rw [Lib.toList_data]; rfl
        clear l8 t8 d8 N8 A7 B7 M7 N7
        go_wp2
        go_ret
        exact ⟨rfl, (L8.out.below ((Below.refl _ _).alloc (Nat.le_refl _) _)).low⟩
end
end Go.Proofs.YtcgpmnlondnbhaaDoor
