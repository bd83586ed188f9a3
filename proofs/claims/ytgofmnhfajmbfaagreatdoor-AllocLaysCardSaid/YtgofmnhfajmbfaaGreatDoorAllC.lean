/-
  AllC: AmongDet, AllocLaid.
-/
import Derived.Test.YtgofmnhfajmbfaaGreatDoorNamesA
import Derived.Test.YtgofmnhfajmbfaaGreatDoorAllB
import Derived.Test.YtgofmnhfajmbfaaGreatDoorDepB
namespace Go.Proofs.YtgofmnhfajmbfaaGreatDoor
open Go Go.RowKit

def amongJ (x : Int) (n : Nat) : Int := (x.tmod (n : Int) + n).tmod n
theorem amongJ_bd (x : Int) (n : Nat) (h0 : 0 < n) : 0 ≤ amongJ x n ∧ amongJ x n < n := by
  have h2 : -(n : Int) < x.tmod (n : Int) := Int.lt_tmod_of_pos x (by omega)
  exact ⟨Int.tmod_nonneg _ (by omega), Int.tmod_lt_of_pos _ (by omega)⟩
set_option maxHeartbeats 1000000 in
theorem amongJ_any (w : World) (x : Int) (n : Nat) (h0 : 0 < n) (hn : n ≤ 4000000000) :
    Calls Tryz.prog 18 #[.int .i64 x, .int .i64 n] w fun e w' => e = .returned (.int .i64 (amongJ x n)) ∧ w' = w := by
  have h1 : x.tmod (n : Int) < n := Int.tmod_lt_of_pos x (by omega)
  have h2 : -(n : Int) < x.tmod (n : Int) := Int.lt_tmod_of_pos x (by omega)
  have hw : wrap64 (x.tmod (n : Int) + n) = x.tmod (n : Int) + n := IntWalk.wrap64_in _ ⟨by omega, by omega⟩
  have HY : Hid ((wrap64 (x.tmod (n : Int) + n)).tmod n = amongJ x n) := by show (wrap64 (x.tmod (n : Int) + n)).tmod n = _; rw [hw]; rfl
  clear h1 h2 hw
  go_enter Tryz.func18, Tryz.ntmps18
  go_wp2
  go_ret
  rw [HY.out]
  exact ⟨rfl, rfl⟩
end Go.Proofs.YtgofmnhfajmbfaaGreatDoor

namespace Go.Proofs.YtgofmnhfajmbfaaGreatDoor
open Go Go.RowKit Txt Sp

def smallG (g : Sp.Geom) : Sp.Geom := ⟨1 + amongJ g.groups 3, 1 + amongJ g.inodes 6, 1 + amongJ g.blocks 9⟩
theorem smallG_bd (g : Sp.Geom) : (1 ≤ (smallG g).groups ∧ (smallG g).groups ≤ 3) ∧ (1 ≤ (smallG g).inodes ∧ (smallG g).inodes ≤ 6) ∧ (1 ≤ (smallG g).blocks ∧ (smallG g).blocks ≤ 9) := by
  have h1 := amongJ_bd g.groups 3 (by decide)
  have h2 := amongJ_bd g.inodes 6 (by decide)
  have h3 := amongJ_bd g.blocks 9 (by decide)
  unfold smallG
  dsimp only
  omega
theorem smallG_ok (g : Sp.Geom) : (smallG g).ok := by
  have := smallG_bd g
  unfold Sp.Geom.ok
  omega
section
set_option maxHeartbeats 4000000
set_option maxRecDepth 20000 in
/-- A side of an empty file system. -/
theorem laid_any (w : World) {g : Sp.Geom} (hg : g.ok) : Calls Tryz.prog 56 #[gV g] w fun e w' =>
    ∃ base B Bd D, e = .returned (.tuple #[pt Bd, pt B]) ∧ SideAt w' base B Bd (freshSide g 0 0) D ∧ Below w.heap.size w w' ∧ ∀ j, D j → w.heap.size ≤ j ∧ j < w'.heap.size := by
  have hsz := fun W : World => gsize_any W g
  have hz := Geom.size_bd hg
  obtain ⟨N, hN⟩ : ∃ N : Nat, g.size = (N : Int) := ⟨g.size.toNat, by omega⟩
  rw [hN] at hsz hz
  have hnew := fun W : World => diskNew_any W N (by omega) (by omega)
  have hlay := fun (W : World) (base Bd : Nat) (D : Nat → Prop) (h : DiskAt W base Bd (newDisk N) D) (hD : ∀ j, D j → j < W.heap.size) => alay_any h hD hg (by rw [hN]; simp [newDisk])
  have hsoft := fun (W : World) (base Bd : Nat) (D : Nat → Prop) (h : DiskAt W base Bd { newDisk N with l := formatL g } D) (hb : base ≤ W.heap.size) (hdl : ∀ j, D j → j < W.heap.size) => softNew_any h hb hdl 0 0 ⟨by decide, by decide⟩ ⟨by decide, by decide⟩
  have heq := eql_disk_nil
  have hfr : (⟨{ newDisk N with l := formatL g }, ⟨[], 0⟩, 0, 0, []⟩ : Sp.Side) = freshSide g 0 0 := rfl
  rw [hfr] at hsoft
  obtain ⟨S, hS⟩ : ∃ S, freshSide g 0 0 = S := ⟨_, rfl⟩
  rw [hS] at hsoft ⊢
  obtain ⟨dN, hdN⟩ : ∃ d, newDisk N = d := ⟨_, rfl⟩
  rw [hdN] at hnew hlay hsoft
  obtain ⟨dF, hdF⟩ : ∃ d : Sp.Disk, { dN with l := formatL g } = d := ⟨_, rfl⟩
  rw [hdF] at hlay hsoft
  obtain ⟨ga, gb, gc⟩ := g
  unfold gV at hsz hlay ⊢
  unfold pt at *
  obtain ⟨W0, hW0⟩ : ∃ W, w.alloc (.cells #[.int .i64 ga, .int .i64 gb, .int .i64 gc] 23) = W := ⟨_, rfl⟩
  have hk := g_keep hW0
  have HB0 := Lib.hid hk.1
  have HK := Lib.hid hk.2
  clear hk
  have HSZ := Lib.hid hsz
  have HNEW := Lib.hid hnew
  have HLAY := Lib.hid hlay
  have HSOFT := Lib.hid hsoft
  clear hsz hnew hlay hsoft
  clear hg hz hN hfr hS hdN hdF
  obtain ⟨z0, z1, z2⟩ := HK.out W0 (Below.refl _ _)
  go_enter Tryz.func56, Tryz.ntmps56
  go_wp2_with fail
  clear z0 z1 z2
  refine (HSZ.out _).mono ?_
  rintro e w1 ⟨rfl, hb1⟩
  have HB1 := Lib.hid hb1
  clear hb1
  go_wp2_with fail
  refine (HNEW.out _).mono ?_
  rintro e w2 ⟨Bd, D, rfl, hd2, hb2, hD2⟩
  have HB2 := Lib.hid (blN HB1.out hb2)
  have HX2 := Lib.hid hb2.size
  have HDA := Lib.hid hd2
  have HDB := Lib.hid hD2
  have hl2 := HLAY.out w2 _ Bd D hd2 (fun j hj => (hD2 j hj).2)
  have HL2 := Lib.hid hl2
  clear hl2
  clear hb2 hd2 hD2
  obtain ⟨z0, z1, z2⟩ := HK.out w2 HB2.out
  go_wp2_with fail
  clear z0 z1 z2
  refine HL2.out.mono ?_
  rintro e w3 ⟨rfl, hd3, K3, hK3, hT3⟩
  have hs2 := HB2.out.size
  have hs0 := HB0.out.size
  have hs1 := HB1.out.size
  have HB3 : Hid (Below w.heap.size w w3) := (blN HB0.out HB2.out).trans (hT3.below (fun j hj => by have := (HDB.out j (hK3 j hj)).1; omega) (by omega))
  have HS3 : Hid (w2.heap.size ≤ w3.heap.size) := hT3.size
  have hs3 := HS3.out
  have hso := HSOFT.out w3 _ Bd D hd3 (by have := HX2.out; omega) (fun j hj => by have := HDB.out j hj; omega)
  have HSO := Lib.hid hso
  clear hso
  clear hd3 hK3 hT3 hs2 hs0 hs1 hs3
  go_wp2_with fail
  refine HSO.out.mono ?_
  rintro e w4 ⟨B, D', rfl, hsa, hb4, hD4⟩
  have HF : Hid (∃ base B' Bd' D, Ending.returned (.tuple #[.pointer (some ⟨Bd, 0, none⟩), .pointer (some ⟨B, 0, none⟩)]) = Ending.returned (.tuple #[.pointer (some ⟨Bd', 0, none⟩), .pointer (some ⟨B', 0, none⟩)]) ∧ SideAt w4 base B' Bd' S D ∧ Below w.heap.size w w4 ∧ ∀ j, D j → w.heap.size ≤ j ∧ j < w4.heap.size) := by
    have h3 := HB3.out.size
    have h4 := hb4.size
    have h0 := HB0.out.size
    have h1 := HB1.out.size
    have h23 := HS3.out
    refine ⟨_, B, Bd, D', rfl, hsa, blN HB3.out hb4, fun j hj => ?_⟩
    rcases hD4 j hj with h | h
    · have := HDB.out j h
      omega
    · omega
  clear hsa hb4 hD4
  go_wp2
  go_ret2
  exact HF.out
end
end Go.Proofs.YtgofmnhfajmbfaaGreatDoor
