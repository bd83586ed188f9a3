/-
  Walks of layer 3: Block, Place.
-/
import Derived.Test.YtghafpdmcbockaaGreatDoorMapAsk
import Derived.Test.YtghafpdmcbockaaGreatDoorGeomA
namespace Go.Proofs.YtghafpdmcbockaaGreatDoor
open Go Go.RowKit Txt Sp

def blkAt (g : Sp.Geom) (k p : Int) : Int × Int := if g.within k g.groups = 0 then (if g.within p g.blocks = 0 then (blockNo g k p, 0) else (0, g.within p g.blocks)) else (0, g.within k g.groups)
def placeAt (g : Sp.Geom) (s : Int) : Int × Int × Int := if blockC g s = 0 then ((g.kind s).2 / g.blocks, (g.kind s).2 % g.blocks, 0) else (0, 0, blockC g s)
theorem blkAt_in {g : Sp.Geom} (hg : g.ok) {k p : Int} (hk : 0 ≤ k ∧ k < g.groups) (hp : 0 ≤ p ∧ p < g.blocks) : blkAt g k p = (blockNo g k p, 0) := by
  unfold blkAt Geom.within
  rw [if_pos hg, if_pos hg, if_neg (show ¬ (k < 0 ∨ g.groups ≤ k) by omega), if_pos rfl, if_neg (show ¬ (p < 0 ∨ g.blocks ≤ p) by omega), if_pos rfl]
section
set_option maxHeartbeats 8000000
set_option maxRecDepth 20000 in
theorem gblock_any (w : World) (g : Sp.Geom) (k p : Int) : Calls Tryz.prog 17 #[gV g, .int .i64 k, .int .i64 p] w fun e w' => e = .returned (.tuple #[.int .i64 (blkAt g k p).1, .int .i64 (blkAt g k p).2]) ∧ Below w.heap.size w w' := by
  have hw := fun W : World => gwithin_any W g k g.groups
  have hv := fun W : World => gwithin_any W g p g.blocks
  obtain ⟨x, y, hx⟩ : ∃ x y, blkAt g k p = (x, y) := ⟨_, _, rfl⟩
  rw [hx]
  unfold blkAt at hx
  have hwz := fun h => (⟨(within_bd (g := g) (n := k) (m := g.groups) h).1, (within_bd (g := g) (n := k) (m := g.groups) h).2, Geom.first_bd (within_bd (g := g) (n := k) (m := g.groups) h).1 (k := k) (within_bd (g := g) (n := k) (m := g.groups) h).2.1 (by have h2 := (within_bd (g := g) (n := k) (m := g.groups) h).2.2; have h3 := (within_bd (g := g) (n := k) (m := g.groups) h).1.2.1; omega)⟩ : g.ok ∧ (0 ≤ k ∧ k < g.groups) ∧ 3 ≤ g.first k ∧ g.first k ≤ 403)
  have hpz := fun h => (within_bd (g := g) (n := p) (m := g.blocks) h).2
  have hf := fun (W : World) (hg : g.ok) (h0 : 0 ≤ k) (h4 : k ≤ 4) => gfirst_any W hg h0 h4
  unfold blockNo at hx
  obtain ⟨f, hf0⟩ : ∃ z, g.first k = z := ⟨_, rfl⟩
  rw [hf0] at hf hx hwz
  obtain ⟨ga, gb, gc⟩ := g
  simp only at hw hv hx hwz hpz hf
  obtain ⟨c, hc⟩ : ∃ c, (⟨ga, gb, gc⟩ : Sp.Geom).within k ga = c := ⟨_, rfl⟩
  obtain ⟨d, hd⟩ : ∃ c, (⟨ga, gb, gc⟩ : Sp.Geom).within p gc = c := ⟨_, rfl⟩
  rw [hc] at hw hx hwz
  rw [hd] at hv hx hpz
  unfold gV at hw hv hf ⊢
  obtain ⟨W0, hW0⟩ : ∃ W, w.alloc (.cells #[.int .i64 ga, .int .i64 gb, .int .i64 gc] 23) = W := ⟨_, rfl⟩
  have hk := g_keep hW0
  have HB0 := Lib.hid hk.1
  have HK := Lib.hid hk.2
  clear hk
  have HW := Lib.hid hw
  have HV := Lib.hid hv
  have HWZ := Lib.hid hwz
  have HPZ := Lib.hid hpz
  have HX := Lib.hid hx
  have HF := Lib.hid hf
  clear hw hv hwz hpz hx hf
  clear hc hd hf0
  obtain ⟨z0, z1, z2⟩ := HK.out W0 (Below.refl _ _)
  go_enter Tryz.func17, Tryz.ntmps17
  go_wp2_with fail
  clear z0 z1 z2
  refine (HW.out _).mono ?_
  rintro e w1 ⟨rfl, hb1⟩
  have HB1 : Hid (Below W0.heap.size W0 w1) := hb1
  clear hb1
  obtain ⟨z0, z1, z2⟩ := HK.out w1 HB1.out
  by_cases hc0 : c = 0
  rotate_left
  · have f1 : (c == 0) = false := beq_eq_false_iff_ne.2 hc0
    have f2 : (c != 0) = true := by simp [hc0]
    have hx := HX.out
    rw [if_neg hc0] at hx
    have HE := Lib.hid hx
    clear hc0 hx
    go_wp2
    go_ret2
    exact ⟨ret_two' HE.out, blN HB0.out HB1.out⟩
  obtain ⟨hg, ⟨h0, h1⟩, h2, h3⟩ := HWZ.out hc0
  have hx := HX.out
  rw [if_pos hc0] at hx
  have HX2 := Lib.hid hx
  have hf := fun W => HF.out W hg h0 (by have := hg.2.1; simp only at this; omega)
  subst hc0
  have hgb : 1 ≤ gb ∧ gb ≤ 32 := ⟨hg.2.2.1, hg.2.2.2.1⟩
  have hgc : 1 ≤ gc ∧ gc ≤ 64 := ⟨hg.2.2.2.2.1, hg.2.2.2.2.2⟩
  have HF := Lib.hid hf
  clear hf
  clear hx HWZ HX hg h1
  go_wp2_with fail
  clear z0 z1 z2
  refine (HV.out _).mono ?_
  rintro e w2 ⟨rfl, hb2⟩
  have HB2 : Hid (Below W0.heap.size W0 w2) := blN HB1.out hb2
  clear hb2
  obtain ⟨z0, z1, z2⟩ := HK.out w2 HB2.out
  by_cases hd0 : d = 0
  rotate_left
  · have f1 : (d == 0) = false := beq_eq_false_iff_ne.2 hd0
    have f2 : (d != 0) = true := by simp [hd0]
    have hx := HX2.out
    rw [if_neg hd0] at hx
    have HE := Lib.hid hx
    clear hd0 hx
    go_wp2
    go_ret2
    exact ⟨ret_two' HE.out, blN HB0.out HB2.out⟩
  have hp := HPZ.out hd0
  have hx := HX2.out
  rw [if_pos hd0] at hx
  have HE := Lib.hid hx
  subst hd0
  have e5 : IntKind.i64.wrap (f + 2) = f + 2 := IntWalk.i64_in _ (by omega)
  have e6 : IntKind.i64.wrap (f + 2 + gb) = f + 2 + gb := IntWalk.i64_in _ (by omega)
  have e7 : IntKind.i64.wrap (f + 2 + gb + p) = f + 2 + gb + p := IntWalk.i64_in _ (by omega)
  clear hx HX2 HPZ hgb hgc
  go_wp2_with fail
  go_region_held3 (fun W => W.cell? ⟨w.heap.size, 0, none⟩ = some (.int .i64 ga) ∧ W.cell? ⟨w.heap.size, 1, none⟩ = some (.int .i64 gb) ∧ W.cell? ⟨w.heap.size, 2, none⟩ = some (.int .i64 gc))
    ((refine HK.out _ ?_; repeat' first | with_reducible exact Below.refl _ _ | with_reducible exact HB2.out | with_reducible exact HB3.out | with_reducible refine blD ?_ | with_reducible refine bl1 ?_ _))
    (first
      | (go_at_call 43
         refine (HF.out _).mono ?_
         rintro e w3 ⟨rfl, hb3⟩
         have HB3 : Hid (Below W0.heap.size W0 w3) := blN (by repeat' first | with_reducible exact HB2.out | with_reducible refine blD ?_ | with_reducible refine bl1 ?_ _) hb3
         clear hb3
         simp only))
  go_wp2
  go_ret2
  exact ⟨ret_two' HE.out, blN HB0.out HB3.out⟩
set_option maxRecDepth 20000 in
theorem gplace_any (w : World) (g : Sp.Geom) (s : Int) : Calls Tryz.prog 39 #[gV g, .int .i64 s] w fun e w' => e = .returned (.tuple #[.int .i64 (placeAt g s).1, .int .i64 (placeAt g s).2.1, .int .i64 (placeAt g s).2.2]) ∧ Below w.heap.size w w' := by
  have hw := fun W : World => gwhat_any W g s
  obtain ⟨x, y, z, hx⟩ : ∃ x y z, placeAt g s = (x, y, z) := ⟨_, _, _, rfl⟩
  rw [hx]
  unfold placeAt at hx
  have hbc : blockC g s = if g.within s g.size = 0 then (if (g.kind s).1 = 6 then 0 else 1) else g.within s g.size := by
    unfold blockC Geom.within
    by_cases hg : g.ok
    · rw [if_pos hg, if_pos hg]
      by_cases h1 : s < 0 ∨ g.size ≤ s
      · rw [if_pos h1, if_pos h1]; rfl
      · rw [if_neg h1, if_neg h1, if_pos rfl]
    · rw [if_neg hg, if_neg hg]; rfl
  have hwh : g.what s = if g.within s g.size = 0 then ((g.kind s).1, (g.kind s).2, 0) else (0, 0, g.within s g.size) := rfl
  have hkb : g.within s g.size = 0 → (g.kind s).1 = 6 → 0 ≤ (g.kind s).2 ∧ (g.kind s).2 ≤ 9223372036854775807 ∧ 1 ≤ g.blocks := fun h1 h6 => by
    obtain ⟨hg, h2, h3⟩ := within_zero h1
    have hnf : ¬ s < g.first 0 := fun hf => by
      unfold Geom.kind at h6
      rw [if_pos hf] at h6
      split at h6
      · simp only at h6
        omega
      · exact absurd (show (2 : Int) = 6 from h6) (by decide)
    obtain ⟨d0, d1, d2, d3⟩ := group_bd hg hnf h3
    have hb := hg.2.2.2.2
    have hi := hg.2.2.1
    have hg4 := hg.2.1
    have hm : 0 ≤ (s - g.first 0) / g.long * g.blocks := Int.mul_nonneg d0 (by omega)
    have hm2 : (s - g.first 0) / g.long * g.blocks ≤ 4 * 64 := Int.mul_le_mul (by omega) (by omega) (by omega) (by omega)
    unfold Geom.kind at h6 ⊢
    rw [if_neg hnf] at h6 ⊢
    by_cases h7 : 2 + g.inodes ≤ (s - g.first 0) % g.long
    · rw [if_pos h7]
      have hl : g.long = 2 + g.inodes + g.blocks := rfl
      dsimp only
      omega
    · rw [if_neg h7] at h6
      split at h6
      · exact absurd (show (5 : Int) = 6 from h6) (by decide)
      · simp only at h6
        omega
  rw [hwh] at hw
  rw [hbc] at hx
  obtain ⟨c, hc⟩ : ∃ c, g.within s g.size = c := ⟨_, rfl⟩
  rw [hc] at hw hx hkb
  obtain ⟨k1, k2, hk⟩ : ∃ a b, g.kind s = (a, b) := ⟨_, _, rfl⟩
  rw [hk] at hw hx hkb
  obtain ⟨ga, gb, gc⟩ := g
  simp only at hx hkb
  unfold gV at hw ⊢
  obtain ⟨W0, hW0⟩ : ∃ W, w.alloc (.cells #[.int .i64 ga, .int .i64 gb, .int .i64 gc] 23) = W := ⟨_, rfl⟩
  have hk := g_keep hW0
  have HB0 := Lib.hid hk.1
  have HK := Lib.hid hk.2
  clear hk
  clear hwh hbc hc hk
  by_cases hc0 : c = 0
  rotate_left
  · rw [if_neg hc0] at hw
    rw [if_neg hc0, if_neg hc0] at hx
    have f1 : (c == 0) = false := beq_eq_false_iff_ne.2 hc0
    have f2 : (c != 0) = true := by simp [hc0]
    have HE := Lib.hid hx
    have HW := Lib.hid hw
    clear hw
    clear hx hkb hc0
    obtain ⟨z0, z1, z2⟩ := HK.out W0 (Below.refl _ _)
    go_enter Tryz.func39, Tryz.ntmps39
    go_wp2_with fail
    clear z0 z1 z2
    refine (HW.out _).mono ?_
    rintro e w1 ⟨rfl, hb1⟩
    have HB1 : Hid (Below W0.heap.size W0 w1) := hb1
    clear hb1
    obtain ⟨z0, z1, z2⟩ := HK.out w1 HB1.out
    go_wp2
    refine bodyPost_ret (v := .tuple #[.int .i64 0, .int .i64 0, .int .i64 c]) (by simp [results, Tryz.results39, go_sem]) rfl ?_
    exact ⟨ret_t HE.out, blN HB0.out HB1.out⟩
  subst hc0
  rw [if_pos rfl] at hw hx
  by_cases h6 : k1 = 6
  rotate_left
  · rw [if_neg h6, if_neg (by decide)] at hx
    have f1 : (k1 == 6) = false := beq_eq_false_iff_ne.2 h6
    have f2 : (k1 != 6) = true := by simp [h6]
    have HE := Lib.hid hx
    have HW := Lib.hid hw
    clear hw
    clear hx hkb h6
    obtain ⟨z0, z1, z2⟩ := HK.out W0 (Below.refl _ _)
    go_enter Tryz.func39, Tryz.ntmps39
    go_wp2_with fail
    clear z0 z1 z2
    refine (HW.out _).mono ?_
    rintro e w1 ⟨rfl, hb1⟩
    have HB1 : Hid (Below W0.heap.size W0 w1) := hb1
    clear hb1
    obtain ⟨z0, z1, z2⟩ := HK.out w1 HB1.out
    go_wp2
    refine bodyPost_ret (v := .tuple #[.int .i64 0, .int .i64 0, .int .i64 1]) (by simp [results, Tryz.results39, go_sem]) rfl ?_
    exact ⟨ret_t HE.out, blN HB0.out HB1.out⟩
  obtain ⟨a0, a1, a2⟩ := hkb rfl h6
  subst h6
  rw [if_pos rfl, if_pos rfl] at hx
  have hL0 : ¬ gc = 0 := by omega
  have hLb : (gc == 0) = false := beq_eq_false_iff_ne.2 hL0
  have e1 : k2.tdiv gc = k2 / gc := Int.tdiv_eq_ediv_of_nonneg a0
  have e2 : k2.tmod gc = k2 % gc := Int.tmod_eq_emod_of_nonneg a0
  have r0 : 0 ≤ k2 % gc := Int.emod_nonneg _ (by omega)
  have r1 : k2 % gc < gc := Int.emod_lt_of_pos _ (by omega)
  have r2 : 0 ≤ k2 / gc := Int.ediv_nonneg a0 (by omega)
  have r3 : k2 / gc ≤ k2 := Int.ediv_le_self _ a0
  have r4 : k2 % gc ≤ k2 := by
    have := Int.mul_ediv_add_emod k2 gc
    have := Int.mul_nonneg (show 0 ≤ gc by omega) r2
    omega
  obtain ⟨d, hd⟩ : ∃ d, k2 / gc = d := ⟨_, rfl⟩
  obtain ⟨r, hr⟩ : ∃ d, k2 % gc = d := ⟨_, rfl⟩
  rw [hd] at e1 hx r2 r3
  rw [hr] at e2 hx r0 r4
  have e3 : IntKind.i64.wrap d = d := IntWalk.i64_in _ (by omega)
  have e4 : IntKind.i64.wrap r = r := IntWalk.i64_in _ (by omega)
  have HE := Lib.hid hx
  have HW := Lib.hid hw
  clear hw
  clear hx hkb hd hr r1
  obtain ⟨z0, z1, z2⟩ := HK.out W0 (Below.refl _ _)
  go_enter Tryz.func39, Tryz.ntmps39
  go_wp2_with fail
  clear z0 z1 z2
  refine (HW.out _).mono ?_
  rintro e w1 ⟨rfl, hb1⟩
  have HB1 : Hid (Below W0.heap.size W0 w1) := hb1
  clear hb1
  obtain ⟨z0, z1, z2⟩ := HK.out w1 HB1.out
  go_wp2_with fail
  go_quiet (fail)
  rename_i nq
  have HB2 : Hid (Below W0.heap.size W0 (w1.drewN nq)) := below_drewN HB1.out _
  obtain ⟨w2, hw2⟩ : ∃ W, w1.drewN nq = W := ⟨_, rfl⟩
  rw [hw2] at HB2 ⊢
  clear z0 z1 z2 hw2
  go_wp2
  refine bodyPost_ret (v := .tuple #[.int .i64 d, .int .i64 r, .int .i64 0]) (by simp [results, Tryz.results39, go_sem]) rfl ?_
  exact ⟨ret_t HE.out, blN HB0.out HB2.out⟩
end
end Go.Proofs.YtghafpdmcbockaaGreatDoor
