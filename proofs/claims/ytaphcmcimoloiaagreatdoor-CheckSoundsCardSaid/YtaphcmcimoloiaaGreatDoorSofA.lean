/-
  SofA: Soft, SoftNew, MapSet, MapAsk, GeomBlk, MapTaken.
-/
import Derived.Test.YtaphcmcimoloiaaGreatDoorDepB
import Derived.Test.YtaphcmcimoloiaaGreatDoorSpC
import Derived.Test.YtaphcmcimoloiaaGreatDoorGeomA
import Derived.Lib.IndexLaws
namespace Go.Proofs.YtaphcmcimoloiaaGreatDoor
open Go Go.RowKit Txt Sp

section
set_option maxHeartbeats 2000000
end
end Go.Proofs.YtaphcmcimoloiaaGreatDoor

namespace Go.Proofs.YtaphcmcimoloiaaGreatDoor
open Go Go.RowKit Txt Sp

section
set_option maxHeartbeats 2000000
end
end Go.Proofs.YtaphcmcimoloiaaGreatDoor

namespace Go.Proofs.YtaphcmcimoloiaaGreatDoor
open Go Go.RowKit Txt Sp

section
set_option maxHeartbeats 2000000
end
end Go.Proofs.YtaphcmcimoloiaaGreatDoor

namespace Go.Proofs.YtaphcmcimoloiaaGreatDoor
open Go Go.RowKit Txt Sp

section
set_option maxHeartbeats 2000000
end
end Go.Proofs.YtaphcmcimoloiaaGreatDoor

namespace Go.Proofs.YtaphcmcimoloiaaGreatDoor
open Go Go.RowKit Txt Sp

def blkAt (g : Sp.Geom) (k p : Int) : Int × Int := if g.within k g.groups = 0 then (if g.within p g.blocks = 0 then (blockNo g k p, 0) else (0, g.within p g.blocks)) else (0, g.within k g.groups)
section
set_option maxHeartbeats 8000000
set_option maxRecDepth 20000 in
theorem gblock_any (w : World) (g : Sp.Geom) (k p : Int) : Calls Tryz.prog 163 #[gV g, .int .i64 k, .int .i64 p] w fun e w' => e = .returned (.tuple #[.int .i64 (blkAt g k p).1, .int .i64 (blkAt g k p).2]) ∧ Below w.heap.size w w' := by
  have hw := fun W : World => gwithin_any W g k g.groups
  have hv := fun W : World => gwithin_any W g p g.blocks
  obtain ⟨x, y, hx⟩ : ∃ x y, blkAt g k p = (x, y) := ⟨_, _, rfl⟩
  rw [hx]
  unfold blkAt at hx
  have hwz := fun h => (⟨(within_bd (g := g) (n := k) (m := g.groups) h).1, (within_bd (g := g) (n := k) (m := g.groups) h).2, Geom.first_bd (within_bd (g := g) (n := k) (m := g.groups) h).1 (k := k) (within_bd (g := g) (n := k) (m := g.groups) h).2.1 (by have h2 := (within_bd (g := g) (n := k) (m := g.groups) h).2.2; have h3 := (within_bd (g := g) (n := k) (m := g.groups) h).1.2.1; omega)⟩ : g.ok ∧ (0 ≤ k ∧ k < g.groups) ∧ 3 ≤ g.first k ∧ g.first k ≤ 403)
  have hpz := fun h => (within_bd (g := g) (n := p) (m := g.blocks) h).2
  have hf := fun (W : World) (hg : g.ok) (h0 : 0 ≤ k) (h4 : k ≤ 4) => gfirst_any W hg h0 h4
  unfold blockNo at hx
  obtain ⟨f, hf0⟩ : ∃ z, g.first k = z := ⟨_, rfl⟩
  rw [hf0] at hf hx hwz
  obtain ⟨ga, gb, gc⟩ := g
  simp only at hw hv hx hwz hpz hf
  obtain ⟨c, hc⟩ : ∃ c, (⟨ga, gb, gc⟩ : Sp.Geom).within k ga = c := ⟨_, rfl⟩
  obtain ⟨d, hd⟩ : ∃ c, (⟨ga, gb, gc⟩ : Sp.Geom).within p gc = c := ⟨_, rfl⟩
  rw [hc] at hw hx hwz
  rw [hd] at hv hx hpz
  unfold gV at hw hv hf ⊢
  obtain ⟨W0, hW0⟩ : ∃ W, w.alloc (.cells #[.int .i64 ga, .int .i64 gb, .int .i64 gc] 27) = W := ⟨_, rfl⟩
  have hk := g_keep hW0
  have HB0 := Lib.hid hk.1
  have HK := Lib.hid hk.2
  clear hk
  have HW := Lib.hid hw
  have HV := Lib.hid hv
  have HWZ := Lib.hid hwz
  have HPZ := Lib.hid hpz
  have HX := Lib.hid hx
  have HF := Lib.hid hf
  clear hw hv hwz hpz hx hf
  clear hc hd hf0
  obtain ⟨z0, z1, z2⟩ := HK.out W0 (Below.refl _ _)
  go_enter Tryz.func163, Tryz.ntmps163
  go_wp2_with fail
  clear z0 z1 z2
  refine (HW.out _).mono ?_
  rintro e w1 ⟨rfl, hb1⟩
  have HB1 : Hid (Below W0.heap.size W0 w1) := hb1
  clear hb1
  obtain ⟨z0, z1, z2⟩ := HK.out w1 HB1.out
  by_cases hc0 : c = 0
  rotate_left
  · have f1 : (c == 0) = false := beq_eq_false_iff_ne.2 hc0
    have f2 : (c != 0) = true := by simp [hc0]
    have hx := HX.out
    rw [if_neg hc0] at hx
    have HE := Lib.hid hx
    clear hc0 hx
    go_wp2
    go_ret2
    exact ⟨ret_two' HE.out, blN HB0.out HB1.out⟩
  obtain ⟨hg, ⟨h0, h1⟩, h2, h3⟩ := HWZ.out hc0
  have hx := HX.out
  rw [if_pos hc0] at hx
  have HX2 := Lib.hid hx
  have hf := fun W => HF.out W hg h0 (by have := hg.2.1; simp only at this; omega)
  subst hc0
  have hgb : 1 ≤ gb ∧ gb ≤ 32 := ⟨hg.2.2.1, hg.2.2.2.1⟩
  have hgc : 1 ≤ gc ∧ gc ≤ 64 := ⟨hg.2.2.2.2.1, hg.2.2.2.2.2⟩
  have HF := Lib.hid hf
  clear hf
  clear hx HWZ HX hg h1
  go_wp2_with fail
  clear z0 z1 z2
  refine (HV.out _).mono ?_
  rintro e w2 ⟨rfl, hb2⟩
  have HB2 : Hid (Below W0.heap.size W0 w2) := blN HB1.out hb2
  clear hb2
  obtain ⟨z0, z1, z2⟩ := HK.out w2 HB2.out
  by_cases hd0 : d = 0
  rotate_left
  · have f1 : (d == 0) = false := beq_eq_false_iff_ne.2 hd0
    have f2 : (d != 0) = true := by simp [hd0]
    have hx := HX2.out
    rw [if_neg hd0] at hx
    have HE := Lib.hid hx
    clear hd0 hx
    go_wp2
    go_ret2
    exact ⟨ret_two' HE.out, blN HB0.out HB2.out⟩
  have hp := HPZ.out hd0
  have hx := HX2.out
  rw [if_pos hd0] at hx
  have HE := Lib.hid hx
  subst hd0
  have e5 : IntKind.i64.wrap (f + 2) = f + 2 := IntWalk.i64_in _ (by omega)
  have e6 : IntKind.i64.wrap (f + 2 + gb) = f + 2 + gb := IntWalk.i64_in _ (by omega)
  have e7 : IntKind.i64.wrap (f + 2 + gb + p) = f + 2 + gb + p := IntWalk.i64_in _ (by omega)
  clear hx HX2 HPZ hgb hgc
  go_wp2_with fail
  go_region_held3 (fun W => W.cell? ⟨w.heap.size, 0, none⟩ = some (.int .i64 ga) ∧ W.cell? ⟨w.heap.size, 1, none⟩ = some (.int .i64 gb) ∧ W.cell? ⟨w.heap.size, 2, none⟩ = some (.int .i64 gc))
    ((refine HK.out _ ?_; repeat' first | with_reducible exact Below.refl _ _ | with_reducible exact HB2.out | with_reducible exact HB3.out | with_reducible refine blD ?_ | with_reducible refine bl1 ?_ _))
    (first
      | (go_at_call 145
         refine (HF.out _).mono ?_
         rintro e w3 ⟨rfl, hb3⟩
         have HB3 : Hid (Below W0.heap.size W0 w3) := blN (by repeat' first | with_reducible exact HB2.out | with_reducible refine blD ?_ | with_reducible refine bl1 ?_ _) hb3
         clear hb3
         simp only))
  go_wp2
  go_ret2
  exact ⟨ret_two' HE.out, blN HB0.out HB3.out⟩
end
end Go.Proofs.YtaphcmcimoloiaaGreatDoor

namespace Go.Proofs.YtaphcmcimoloiaaGreatDoor
open Go Go.RowKit Txt Sp

section
set_option maxHeartbeats 2000000
end
end Go.Proofs.YtaphcmcimoloiaaGreatDoor
