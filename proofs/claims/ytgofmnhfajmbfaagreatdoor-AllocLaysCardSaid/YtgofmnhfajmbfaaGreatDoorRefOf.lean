/-
  Walks of the reference's layer 5: many, Check, Places.
-/
import Derived.Test.YtgofmnhfajmbfaaGreatDoorRefTable
import Derived.Test.YtgofmnhfajmbfaaGreatDoorMapsA
namespace Go.Proofs.YtgofmnhfajmbfaaGreatDoor
open Go Go.RowKit Txt Sp

def inC (n : Nat) : List Value := [.int .i64 (n : Int)]
def RInts (base : Nat) (w : World) (v : Value) (l : List Nat) : Prop := OwnR 3 1 inC base w v l
theorem mapP_iff (l : List UInt8) (n : Nat) : mapP l n = true ↔ ∀ j x, l[j]? = some x → x.toNat ≤ 1 ∧ (x.toNat = 1 → j < n) := by
  unfold mapP
  rw [Bool.and_eq_true, List.all_eq_true, List.all_eq_true]
  constructor
  · rintro ⟨h1, h2⟩ j x hx
    by_cases h : j < n
    · have hm : x ∈ l.take n := List.mem_iff_getElem?.2 ⟨j, by rw [List.getElem?_take_of_lt h]; exact hx⟩
      have := h1 x hm
      simp only [Bool.or_eq_true, beq_iff_eq] at this
      rcases this with rfl | rfl
      · exact ⟨by decide, fun _ => h⟩
      · exact ⟨by decide, fun _ => h⟩
    · have hm : x ∈ l.drop n := List.mem_iff_getElem?.2 ⟨j - n, by rw [List.getElem?_drop, show n + (j - n) = j by omega]; exact hx⟩
      have := h2 x hm
      simp only [beq_iff_eq] at this
      subst this
      exact ⟨by decide, fun h => absurd h (by decide)⟩
  · intro h
    constructor
    · intro x hx
      obtain ⟨j, hj⟩ := List.mem_iff_getElem?.1 hx
      have hjn : j < n := by
        have := (List.getElem?_eq_some_iff.1 hj).1
        rw [List.length_take] at this
        omega
      rw [List.getElem?_take_of_lt hjn] at hj
      have := (h j x hj).1
      have e : x.toNat = 0 ∨ x.toNat = 1 := by omega
      simp only [Bool.or_eq_true, beq_iff_eq]
      rcases e with e | e
      · exact Or.inl (UInt8.toNat_inj.1 e)
      · exact Or.inr (UInt8.toNat_inj.1 e)
    · intro x hx
      obtain ⟨j, hj⟩ := List.mem_iff_getElem?.1 hx
      rw [List.getElem?_drop] at hj
      have := h (n + j) x hj
      have e : x.toNat = 0 := by omega
      simp only [beq_iff_eq]
      exact UInt8.toNat_inj.1 e
def RPlacesPost (s : ByteArray) (n : Int) (w : World) (e : Ending) (w' : World) : Prop :=
  ∃ v, e = .returned (.tuple #[v, .int .i64 (mapC s n)]) ∧ RInts w.heap.size w' v (if mapC s n = 0 then placesL s.data.toList n.toNat else []) ∧ Below w.heap.size w w'
section
set_option maxHeartbeats 4000000
theorem rmany_any (w : World) (n : Int) : Calls Tryz.prog 125 #[.int .i64 n] w fun e w' => e = .returned (.bool (decide (1 ≤ n ∧ n ≤ 64))) ∧ w = w' := by
  by_cases h1 : 1 ≤ n
  · by_cases h2 : n ≤ 64
    · rw [decide_eq_true ⟨h1, h2⟩]
      go_enter Tryz.func125, Tryz.ntmps125
      go_wp2
      go_ret
      exact ⟨rfl, rfl⟩
    · rw [decide_eq_false (fun h => h2 h.2)]
      go_enter Tryz.func125, Tryz.ntmps125
      go_wp2
      go_ret
      exact ⟨rfl, rfl⟩
  · rw [decide_eq_false (fun h => h1 h.1)]
    go_enter Tryz.func125, Tryz.ntmps125
    go_wp2
    go_ret
    exact ⟨rfl, rfl⟩
end
end Go.Proofs.YtgofmnhfajmbfaaGreatDoor
namespace Go.Proofs.YtgofmnhfajmbfaaGreatDoor
open Go Go.RowKit Txt Sp

section
set_option maxHeartbeats 4000000
set_option maxRecDepth 20000 in
theorem rblank_any (w : World) : Calls Tryz.prog 48 #[] w fun e w' => e = .returned (.string Sp.blank) ∧ Below w.heap.size w w' := by
  obtain ⟨ia, ib, ic, id, ie⟩ := info_parts infoU8
  have hmk := run_make_bytes (P := Tryz.prog) w Tryz.underlying47 ib ic id ie 64 (by omega)
  rw [show ((64 : Nat) : Int) = 64 from rfl] at hmk
  have hcv := run_bytes_text (P := Tryz.prog) (w.alloc (bytesO (zeros 64) 5 (0, 0))) (src := 47) (dst := 9) (z := []) (l := zeros 64) (n := 64) Tryz.underlying47 Tryz.underlying5 Tryz.underlying9 (by rw [List.append_nil]; exact heapNew w _) (zeros_length 64).symm 64
  have hb : ofL (zeros 64) = Sp.blank := rfl
  rw [hb] at hcv
  obtain ⟨W1, hW1⟩ : ∃ W, w.alloc (bytesO (zeros 64) 5 (0, 0)) = W := ⟨_, rfl⟩
  have HB : Hid (Below w.heap.size w W1) := by rw [← hW1]; exact bl2 _
  rw [hW1] at hmk hcv
  obtain ⟨S, hS⟩ : ∃ S, Sp.blank = S := ⟨_, rfl⟩
  rw [hS] at hcv ⊢
  clear hW1 ia ib ic id ie hb hS
  go_enter Tryz.func48, Tryz.ntmps48
  go_wp2
  go_ret
  exact ⟨rfl, HB.out⟩
set_option maxRecDepth 20000 in
theorem rroot_any (w : World) : Calls Tryz.prog 53 #[] w fun e w' => e = .returned (.agg (iA 2 1 0 1 1 0 0 0 0 0 0 0 0 0)) ∧ Below w.heap.size w w' := by
  go_enter Tryz.func53, Tryz.ntmps53
  go_wp2
  obtain ⟨W1, hW1⟩ : ∃ W, w.alloc (.cells #[.int .i64 2, .int .i64 1, .int .i64 0, .int .i64 1, .int .i64 1, .int .i64 0, .int .i64 0, .int .i64 0, .int .i64 0, .int .i64 0, .int .i64 0, .int .i64 0, .int .i64 0, .int .i64 0] 69) = W := ⟨_, rfl⟩
  have hz : W1.heap[w.heap.size]? = some (.cells #[.int .i64 2, .int .i64 1, .int .i64 0, .int .i64 1, .int .i64 1, .int .i64 0, .int .i64 0, .int .i64 0, .int .i64 0, .int .i64 0, .int .i64 0, .int .i64 0, .int .i64 0, .int .i64 0] 69 (0, 0)) := by rw [← hW1]; exact heapNew w _
  have hb : Below w.heap.size w W1 := by rw [← hW1]; exact bl2 _
  have y0 := cellOf (k := 0) hz rfl
  have y1 := cellOf (k := 1) hz rfl
  have y2 := cellOf (k := 2) hz rfl
  have y3 := cellOf (k := 3) hz rfl
  have y4 := cellOf (k := 4) hz rfl
  have y5 := cellOf (k := 5) hz rfl
  have y6 := cellOf (k := 6) hz rfl
  have y7 := cellOf (k := 7) hz rfl
  have y8 := cellOf (k := 8) hz rfl
  have y9 := cellOf (k := 9) hz rfl
  have y10 := cellOf (k := 10) hz rfl
  have y11 := cellOf (k := 11) hz rfl
  have y12 := cellOf (k := 12) hz rfl
  have y13 := cellOf (k := 13) hz rfl
  rw [hW1]
  refine bodyPost_ret (v := .agg #[.int .i64 2, .int .i64 1, .int .i64 0, .int .i64 1, .int .i64 1, .int .i64 0, .int .i64 0, .int .i64 0, .int .i64 0, .int .i64 0, .int .i64 0, .int .i64 0, .int .i64 0, .int .i64 0]) (by simp [results, Tryz.results53, go_sem, y0, y1, y2, y3, y4, y5, y6, y7, y8, y9, y10, y11, y12, y13]) rfl ?_
  exact ⟨rfl, hb⟩
set_option maxRecDepth 20000 in
theorem rof_any (w : World) (n : Nat) (hn : 1 ≤ n ∧ n ≤ 64) (b : Nat) (hb : w.heap[b]? = some (.cells #[.int .i64 0] 3 (0, 0))) : Calls Tryz.prog 51 #[.int .i64 (n : Int), .slice (some ⟨b, 0, none⟩) 1 1] w fun e w' => e = .returned (.tuple #[.string (ofL (1 :: zeros 63)), .int .i64 0]) ∧ Below w.heap.size w w' := by
  have hmy := fun W : World => rmany_any W (n : Int)
  rw [decide_eq_true (show 1 ≤ (n : Int) ∧ (n : Int) ≤ 64 by omega)] at hmy
  obtain ⟨ia, ib, ic, id, ie⟩ := info_parts infoU8
  have hmk := run_make_bytes (P := Tryz.prog) w Tryz.underlying47 ib ic id ie 64 (by omega)
  rw [show ((64 : Nat) : Int) = 64 from rfl] at hmk
  obtain ⟨W1, hW1⟩ : ∃ W, w.alloc (bytesO (zeros 64) 5 (0, 0)) = W := ⟨_, rfl⟩
  have HB : Hid (Below w.heap.size w W1) := by rw [← hW1]; exact bl2 _
  have hL : W1.heap[w.heap.size]? = some (bytesO (zeros 64) 5 (0, 0)) := by rw [← hW1]; exact heapNew w _
  have hbl : b < w.heap.size := (Array.getElem?_eq_some_iff.1 hb).1
  have hb1 : W1.heap[b]? = some (.cells #[.int .i64 0] 3 (0, 0)) := heapOld HB.out hb
  have c1 : W1.cell? ⟨b, 0, none⟩ = some (.int .i64 0) := cellOf (k := 0) hb1 rfl
  have hL2 := setCell_bytes (p := 0) hL 1
  have hz1 : (zeros 64).set 0 1 = 1 :: zeros 63 := rfl
  rw [hz1] at hL2
  change (W1.setCell ⟨w.heap.size, 0, none⟩ (.int .u8 1)).heap[w.heap.size]? = _ at hL2
  obtain ⟨W2, hW2⟩ : ∃ W, W1.setCell ⟨w.heap.size, 0, none⟩ (.int .u8 1) = W := ⟨_, rfl⟩
  rw [hW2] at hL2
  have HB2 : Hid (Below w.heap.size w W2) := by rw [← hW2]; exact HB.out.setCell (p := ⟨w.heap.size, 0, none⟩) (Nat.le_refl _) _
  have HL2 := Lib.hid hL2
  have hcv := run_bytes_text (P := Tryz.prog) W2 (src := 47) (dst := 9) (g := w.heap.size) (z := []) (l := 1 :: zeros 63) (n := 64) Tryz.underlying47 Tryz.underlying5 Tryz.underlying9 (by rw [List.append_nil]; exact HL2.out) (by rw [List.length_cons, zeros_length]) 64
  rw [hW1] at hmk
  obtain ⟨S, hS⟩ : ∃ S, ofL (1 :: zeros 63) = S := ⟨_, rfl⟩
  rw [hS] at hcv ⊢
  have c2 : W1.cell? ⟨w.heap.size, 0, none⟩ = some (.int .u8 0) := bytes_cell hL (p := 0) (by decide)
  have c3 := bytes_free hL (p := 0) (Or.inl rfl) (by decide)
  have f0 : decide ((0 : Int) < (0 : Int)) = false := rfl
  have f1 : decide ((0 : Int) ≥ (n : Int)) = false := decide_eq_false (by omega)
  obtain ⟨Wk, hWk⟩ : ∃ Wk : Nat → World, Wk 0 = W1 ∧ Wk 1 = W2 := ⟨fun k => if k = 0 then W1 else W2, rfl, rfl⟩
  have HWk := Lib.hid hWk
  have HW2 := Lib.hid hW2
  have HMY := Lib.hid hmy
  clear hmy
  clear hW1 hW2 ia ib ic id ie hL hL2 hb hb1 hWk hS hbl hz1
  go_enter Tryz.func51, Tryz.ntmps51
  go_wp2_with fail
  refine (HMY.out _).mono ?_
  rintro e w2 ⟨rfl, rfl⟩
  go_wp2_with fail
  go_loopw [7] (fun i wr => ∃ k : Nat, k ≤ 1 ∧ i = .int .i64 (k : Int) ∧ wr = Wk k) (fun i _ => 1 - (intOf i).toNat)
  case atStart => exact ⟨0, by omega, rfl, HWk.out.1.symm⟩
  case round =>
    obtain ⟨k, hk, rfl, rfl⟩ := hrel
    have e : k = 0 ∨ k = 1 := by omega
    rcases e with rfl | rfl
    · rw [HWk.out.1]
      go_wp2_with fail
      rw [HW2.out]
      go_wp2
      go_roundw
      case rel => exact ⟨1, by omega, by go_num, HWk.out.2.symm⟩
      case measure => simp [intOf]
    · rw [HWk.out.2]
      go_wp2
      first | exact ⟨rfl, HB2.out⟩ | (go_ret; exact ⟨rfl, HB2.out⟩) | (go_ret2; exact ⟨rfl, HB2.out⟩)
end
end Go.Proofs.YtgofmnhfajmbfaaGreatDoor
