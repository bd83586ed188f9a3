/-
  Walks of cutwaterbook: SameInts of empty lists, Beside, Same.
-/
import Derived.Test.YtgofmnhfajmbfaaGreatDoorRefSide
import Derived.Test.YtgofmnhfajmbfaaGreatDoorAllocLayD
import Derived.Test.YtgofmnhfajmbfaaGreatDoorSofA
import Derived.Test.YtgofmnhfajmbfaaGreatDoorSideParts
import Derived.Test.YtgofmnhfajmbfaaGreatDoorDepC
import Derived.Test.YtgofmnhfajmbfaaGreatDoorDepsSectors
namespace Go.Proofs.YtgofmnhfajmbfaaGreatDoor
open Go Go.RowKit Txt Sp

section
set_option maxHeartbeats 4000000
set_option maxRecDepth 20000 in
theorem sameInts_nil (w : World) (a b : Option Addr) (c d : Nat) : Calls Tryz.prog 68 #[.slice a 0 c, .slice b 0 d] w fun e w' => e = .returned (.bool true) ∧ w' = w := by
  go_enter Tryz.func68, Tryz.ntmps68
  go_wp2
  go_loopw [5] (fun i wr => i = .int .i64 0 ∧ wr = w) (fun _ _ => 0)
  case atStart => exact ⟨rfl, rfl⟩
  case round =>
    obtain ⟨rfl, rfl⟩ := hrel
    go_wp2
    first | exact ⟨rfl, rfl⟩ | (go_ret; exact ⟨rfl, rfl⟩)
set_option maxRecDepth 20000 in
theorem beside_no (w : World) (n : Int) (h : ¬ (2 ≤ n ∧ n ≤ 2048)) : Calls Tryz.prog 12 #[.int .i64 n, .slice none 0 0] w fun e w' => e = .returned (.pointer none) ∧ Below w.heap.size w w' := by
  have hd := fun W : World => diskNew_no W n h
  have hr := fun W : World => rnew11_no W n h
  have HD := Lib.hid hd
  have HR := Lib.hid hr
  clear hd hr
  clear h
  go_enter Tryz.func12, Tryz.ntmps12
  go_wp2_with fail
  refine (HD.out _).mono ?_
  rintro e w1 ⟨rfl, rfl⟩
  go_wp2_with fail
  refine (HR.out _).mono ?_
  rintro e w1 ⟨rfl, rfl⟩
  go_wp2
  first | exact ⟨rfl, Below.refl _ _⟩ | (go_ret; exact ⟨rfl, Below.refl _ _⟩)
/-- Both sides of a disk, as Beside makes them: the program's in the blocks D, the reference's disk from base to top. -/
structure BSide (w : World) (x B Bc Bd fm r k c : Nat) (S : Sp.Side) (D Dd : Nat → Prop) (base top : Nat) (L : List ByteArray) : Prop where
  obj : w.heap[x]? = some (.cells #[pt Bd, pt B, pt r, pt k] 38 (0, 0))
  side : SideP w 0 B Bc Bd fm S D Dd
  disk : RDisk base top w r L
  soft : RSoft w k r c
  lt : ∀ j, D j → j < w.heap.size
/-- They do not touch. -/
def Parted (x r k c : Nat) (D : Nat → Prop) (base top : Nat) : Prop := (∀ j, D j → (j < base ∨ top ≤ j) ∧ j ≠ k ∧ j ≠ c ∧ j ≠ x) ∧ base ≤ r ∧ r < top ∧ top ≤ k ∧ top ≤ c ∧ top ≤ x
def side0 (n : Nat) : Sp.Side := ⟨newDisk n, ⟨[], 0⟩, 0, 0, []⟩
def BesidePost (n : Nat) (w : World) (e : Ending) (w' : World) : Prop :=
  ∃ x B Bc Bd fm r k c D Dd base top, e = .returned (pt x) ∧ BSide w' x B Bc Bd fm r k c (side0 n) D Dd base top (newDisk n).l ∧ Parted x r k c D base top ∧ Below w.heap.size w w' ∧ (∀ j, D j → w.heap.size ≤ j) ∧ w.heap.size ≤ base
set_option maxRecDepth 20000 in
theorem beside_any (w : World) (n : Nat) (h : 2 ≤ n ∧ n ≤ 2048) : Calls Tryz.prog 12 #[.int .i64 (n : Int), .slice none 0 0] w (BesidePost n w) := by
  have hd := fun W : World => diskNew_any W n h.1 h.2
  have hr := fun W : World => rnew11_any W n h.1 h.2
  have hsn := fun (W : World) (Bd : Nat) (D : Nat → Prop) (hD : DiskAt W 0 Bd (newDisk n) D) (hl : ∀ j, D j → j < W.heap.size) => softNew_any hD (Nat.zero_le _) hl 0 0 (by decide) (by decide)
  have hrn := rnew14_any
  have heq := eql_disk_nil
  obtain ⟨Q, hQ⟩ : ∃ Q, BesidePost n w = Q := ⟨_, rfl⟩
  have HY : Hid (∀ w' x B Bc Bd fm r k c D Dd base top, BSide w' x B Bc Bd fm r k c (side0 n) D Dd base top (newDisk n).l → Parted x r k c D base top → Below w.heap.size w w' → (∀ j, D j → w.heap.size ≤ j) → w.heap.size ≤ base → Q (.returned (pt x)) w') := fun w' x B Bc Bd fm r k c D Dd base top h1 h2 h3 h4 h5 => by
    rw [← hQ]
    exact ⟨x, B, Bc, Bd, fm, r, k, c, D, Dd, base, top, rfl, h1, h2, h3, h4, h5⟩
  rw [hQ]
  clear hQ h
  have HD := Lib.hid hd
  have HR := Lib.hid hr
  have HSN := Lib.hid hsn
  have HRN := Lib.hid hrn
  clear hd hr hsn hrn
  go_enter Tryz.func12, Tryz.ntmps12
  go_wp2_with fail
  refine (HD.out _).mono ?_
  rintro e w1 ⟨Bd, D, rfl, hd1, hb1, hD1⟩
  go_wp2_with fail
  refine (HR.out _).mono ?_
  rintro e w2 ⟨r, rfl, hr2, hb2⟩
  have HD2 : Hid (DiskAt w2 0 Bd (newDisk n) D) := (hd1.below hb2).lower
  have HDl := Lib.hid hD1
  have HB1 := Lib.hid hb1
  have HB2 := Lib.hid hb2
  have HR2 := Lib.hid hr2
  clear hd1 hD1 hb1 hb2 hr2
  unfold pt
  go_wp2_with fail
  go_loopw [4, 9] (fun p i wr => p = .pointer none ∧ i = .int .i64 0 ∧ wr = w2) (fun _ _ _ => 0)
  case atStart => exact ⟨rfl, rfl, rfl⟩
  case round =>
    obtain ⟨rfl, rfl, rfl⟩ := hrel
    go_wp2_with fail
    refine (HSN.out _ _ _ HD2.out (fun j hj => by have := HDl.out j hj; have := HB2.out.size; omega)).mono ?_
    rintro e w3 ⟨B, D', rfl, hs3, hb3, hD3⟩
    have HB3 := Lib.hid hb3
    have HS3 := Lib.hid hs3
    have HD3 := Lib.hid hD3
    clear hb3 hs3 hD3
    unfold pt
    go_wp2_with fail
    refine (HRN.out _ _).mono ?_
    rintro e w4 ⟨k, c, rfl, hk4, hk, hc, hb4⟩
    have HB4 := Lib.hid hb4
    have HK4 := Lib.hid hk4
    have HKl := Lib.hid hk
    have HCl := Lib.hid hc
    clear hk4 hk hc hb4
    unfold pt
    go_wp2
    have hx := heapNew w4 (.cells #[.pointer (some ⟨Bd, 0, none⟩), .pointer (some ⟨B, 0, none⟩), .pointer (some ⟨r, 0, none⟩), .pointer (some ⟨k, 0, none⟩)] 38)
    obtain ⟨W5, hW5⟩ : ∃ W, w4.alloc (.cells #[.pointer (some ⟨Bd, 0, none⟩), .pointer (some ⟨B, 0, none⟩), .pointer (some ⟨r, 0, none⟩), .pointer (some ⟨k, 0, none⟩)] 38) = W := ⟨_, rfl⟩
    rw [hW5] at hx ⊢
    have hb45 : Below w4.heap.size w4 W5 := by rw [← hW5]; exact bl2 _
    have hb35 := blN HB4.out hb45
    have hb25 := blN HB3.out hb35
    obtain ⟨Bc, fm, Dd, hp⟩ := HS3.out.parts
    have z1 := HB1.out.size
    have z2 := HB2.out.size
    have z3 := HB3.out.size
    have z4 := HB4.out.size
    have z5 := hb45.size
    have hDl := fun j (hj : D' j) => (HD3.out j hj).imp (fun h => HDl.out j h) id
    have hkc : k < w4.heap.size ∧ c < w4.heap.size := ⟨(Array.getElem?_eq_some_iff.1 HK4.out.1).1, (Array.getElem?_eq_some_iff.1 HK4.out.2).1⟩
    have hr : w1.heap.size ≤ r ∧ r < wr.heap.size := by obtain ⟨_, _, _, ⟨h1, h2, _⟩, _⟩ := HR2.out; exact ⟨h1, h2⟩
    have h1 := HKl.out
    have h2 := HCl.out
    exact HY.out W5 w4.heap.size B Bc Bd fm r k c D' Dd w1.heap.size wr.heap.size
      ⟨hx, hp.below hb35, HR2.out.below hb25, HK4.out.below hb45, fun j hj => by have := hDl j hj; omega⟩
      ⟨fun j hj => by have := hDl j hj; omega, hr.1, hr.2, by omega, by omega, by omega⟩
      (blN HB1.out (blN HB2.out hb25)) (fun j hj => by have := hDl j hj; omega) z1
section
variable {w : World} {x B Bc Bd fm r k c : Nat} {S : Sp.Side} {D Dd : Nat → Prop} {base top : Nat} {L : List ByteArray}
theorem BSide.below {w' : World} (h : BSide w x B Bc Bd fm r k c S D Dd base top L) (hb : Below w.heap.size w w') : BSide w' x B Bc Bd fm r k c S D Dd base top L :=
  ⟨heapOld hb h.obj, h.side.below hb, h.disk.below hb, h.soft.below hb, fun j hj => Nat.lt_of_lt_of_le (h.lt j hj) hb.size⟩
/-- The program's disk is another one. -/
theorem BSide.dsk {w' : World} (h : BSide w x B Bc Bd fm r k c S D Dd base top L) (hp : Parted x r k c D base top) {d : Sp.Disk} (hd : DiskAt w' 0 Bd d Dd) (hT : DskTurn w Dd w') : BSide w' x B Bc Bd fm r k c { S with disk := d } D Dd base top L := by
  have hs := h.side.dsk hd hT
  have hsz := hT.size
  obtain ⟨K, hK, -, hT⟩ := hT
  have hKD : ∀ j, K j → D j := fun j hj => h.side.sub j (hK j hj)
  exact ⟨hT.heap h.obj (fun e => (hp.1 _ (hKD _ e)).2.2.2 rfl), hs, h.disk.turn hT (fun j hj => (hp.1 j (hKD j hj)).1), h.soft.turn hT (fun e => (hp.1 _ (hKD _ e)).2.1 rfl) (fun e => (hp.1 _ (hKD _ e)).2.2.1 rfl), fun j hj => Nat.lt_of_lt_of_le (h.lt j hj) hsz⟩
/-- The reference's disk is another one. -/
theorem BSide.ref {w' : World} (h : BSide w x B Bc Bd fm r k c S D Dd base top L) (hp : Parted x r k c D base top) {L' : List ByteArray} {top' : Nat} (hd : RDisk base top' w' r L') (hT : Turn (fun j => j = r) w w') : BSide w' x B Bc Bd fm r k c S D Dd base top' L' := by
  obtain ⟨p1, p2, p3, p4, p5, p6⟩ := hp
  exact ⟨hT.heap h.obj (by omega), h.side.turn hT (fun j hj e => by have := (p1 j hj).1; omega) (fun _ _ => Nat.zero_le _), hd, h.soft.turn hT (by omega) (by omega), fun j hj => Nat.lt_of_lt_of_le (h.lt j hj) hT.size⟩
end
end
end Go.Proofs.YtgofmnhfajmbfaaGreatDoor
