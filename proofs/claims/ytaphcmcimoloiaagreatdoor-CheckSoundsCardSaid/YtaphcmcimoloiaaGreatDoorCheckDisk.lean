/-
  Walks of layer 19: Disk.
-/
import Derived.Test.YtaphcmcimoloiaaGreatDoorCheckThru
import Derived.Test.YtaphcmcimoloiaaGreatDoorCheckShape
import Derived.Test.YtaphcmcimoloiaaGreatDoorCheckGroup
import Derived.Test.YtaphcmcimoloiaaGreatDoorSpCheckL
import Derived.Test.YtaphcmcimoloiaaGreatDoorDefSort
namespace Go.Proofs.YtaphcmcimoloiaaGreatDoor
open Go Go.RowKit Txt Sp

section
variable {w w1 w' : World} {base B N : Nat} {g : Sp.Geom} {vs : Value} {m : LookP} {t t' : Sp.Look} {D D' K : Nat → Prop} {S : Int → ByteArray}
def diskL (g : Sp.Geom) (S : Int → ByteArray) : List (Int × Int) := (Look.disk g S).found.mergeSort leD
def DiskPost (w : World) (g : Sp.Geom) (N : Nat) (S : Int → ByteArray) (e : Ending) (w' : World) : Prop :=
  Below w.heap.size w w' ∧ ((ShapeOk g N S ∧ ∃ v, e = .returned (.tuple #[v, .int .i64 0]) ∧ OwnR 107 2 defC w.heap.size w' v (diskL g S)) ∨ (¬ ShapeOk g N S ∧ e = .returned (.tuple #[.slice none 0 0, .int .i64 4])))
theorem LookTo.grow (h : LookTo w base B g vs m t D w' D') (hb : ∀ j, D j → w1.heap.size ≤ j) (hw : Below w1.heap.size w1 w) : Below w1.heap.size w1 w' := hw.trans (h.2.2.below (fun j hj => hb j hj) hw.size)
set_option maxHeartbeats 1000000 in
set_option maxRecDepth 20000 in
theorem cdisk_any (w : World) (g : Sp.Geom) (hs : SecsAt w vs N S (fun _ => False)) (hm : MaxOk w) : Calls Tryz.prog 56 #[gV g, vs] w (DiskPost w g N S) := by
  have hsh := fun W (hW : Below w.heap.size w W) => cshape_any W g (hs.below hW)
  have hth := fun W (hW : Below w.heap.size w W) (hk : ShapeOk g N S) => cthrough_any W hk.1 (hs.below hW) hk.2.1 (hm.below hW)
  have hgr := fun (W : World) (base B : Nat) (m : LookP) (t : Sp.Look) (D : Nat → Prop) (h : LookS W base B N g vs m S t D) (hi : t.Inv g 30000 0) (k : Nat) (hk : (k : Int) < g.groups) => cgroup_any h hi hk
  have hinv : g.ok → (Look.through g S).Inv g 30000 0 := fun h => Look.through_inv h
  have hmany : g.ok → ∀ k : Nat, k ≤ 4 → (Look.upto (fun t k => t.group g S k) k (Look.through g S)).many ≤ 100000 := fun h k hk => many_disk h k hk
  obtain ⟨G, hG⟩ : ∃ G, g.groups.toNat = G := ⟨_, rfl⟩
  have hdk : Look.disk g S = Look.upto (fun t k => t.group g S k) G (Look.through g S) := by unfold Look.disk; rw [hG]
  have hgG : g.ok → g.groups = (G : Int) ∧ G ≤ 4 := fun h => by have := h.1; have := h.2.1; omega
  obtain ⟨bv, o, cap, rfl, -, -, hN6, -⟩ := hs
  obtain ⟨T, hT⟩ : ∃ T, Look.through g S = T := ⟨_, rfl⟩
  rw [hT] at hinv hmany hdk
  unfold ThruPost at hth
  rw [hT] at hth
  obtain ⟨ga, gb, gc⟩ := g
  unfold gV at *
  dsimp only at *
  unfold pt at hgr hth
  obtain ⟨W0, hW0⟩ : ∃ W, w.alloc (.cells #[.int .i64 ga, .int .i64 gb, .int .i64 gc] 27) = W := ⟨_, rfl⟩
  have hk := g_keep hW0
  have HB0 := Lib.hid hk.1
  have HK := Lib.hid hk.2
  clear hk
  have HSh := Lib.hid (hsh W0 (by rw [← hW0]; exact bl2 _))
  have HTH := Lib.hid hth
  have HGR := Lib.hid hgr
  have HINV := Lib.hid hinv
  have HMANY := Lib.hid hmany
  have HDK := Lib.hid hdk
  have HGG := Lib.hid hgG
  clear hth hgr hinv hmany hdk hgG
  clear hsh hG hT hm
  obtain ⟨z0, z1, z2⟩ := HK.out W0 (Below.refl _ _)
  go_enter Tryz.func56, Tryz.ntmps56
  go_wp2_with fail
  clear z0 z1 z2
  refine HSh.out.mono ?_
  rintro e w1 ⟨b, rfl, hb, hb1⟩
  have HB1 := Lib.hid (blN HB0.out hb1)
  have HB01 := Lib.hid hb1
  have HBS := Lib.hid hb
  clear hb hb1
  cases b
  · have HQ : Hid (DiskPost w ⟨ga, gb, gc⟩ N S (.returned (.tuple #[.slice none 0 0, .int .i64 4])) w1) := ⟨HB1.out, Or.inr ⟨fun h => absurd (HBS.out.2 h) (by simp), rfl⟩⟩
    go_wp2
    first | exact HQ.out | (go_ret2; exact HQ.out)
  · have HOk := Lib.hid (HBS.out.1 rfl)
    have hth1 := HTH.out w1 HB1.out HOk.out
    obtain ⟨hgg, hG4⟩ := HGG.out HOk.out.1
    have HTh1 := Lib.hid hth1
    have HMany := Lib.hid (HMANY.out HOk.out.1)
    have HInv := Lib.hid (HINV.out HOk.out.1)
    have HGe := Lib.hid hgg
    clear hth1 hgg
    obtain ⟨z0, z1, z2⟩ := HK.out w1 HB01.out
    go_wp2_with fail
    clear z0 z1 z2
    with_reducible refine HTh1.out.mono ?_
    rintro e w2 ⟨B, m, D, rfl, hl2, hb2⟩
    have HL2 := Lib.hid hl2
    have HB02 : Hid (Below W0.heap.size W0 w2) := blN HB01.out hb2
    have HB2 := Lib.hid (blN HB1.out hb2)
    have HW1 : Hid (w.heap.size ≤ w1.heap.size) := HB1.out.size
    clear hl2 hb2
    obtain ⟨z0, z1, z2⟩ := HK.out w2 HB02.out
    rw [HGe.out] at z0
    go_wp2
    clear z0 z1 z2
    go_loopw [18] (fun i18 wr => ∃ k : Nat, k ≤ G ∧ i18 = .int .i64 (k : Int) ∧ Hid (LookTo w2 w1.heap.size B ⟨ga, gb, gc⟩ (.slice (some ⟨bv, o, none⟩) N cap) m (Look.upto (fun t k => t.group ⟨ga, gb, gc⟩ S k) k T) D wr D)) (fun i18 _ => G - (intOf i18).toNat)
    case atStart => exact ⟨0, Nat.zero_le _, rfl, LookTo.none HL2.out.look (Below.refl _ _)⟩
    case round =>
      obtain ⟨k, hk, rfl, HRel⟩ := hrel
      by_cases hlt : k < G
      · have HS1 := Lib.hid (HL2.out.to HRel.out)
        have hcall := HGR.out wr w1.heap.size B m _ D HS1.out ((Look.Told.groups T k).inv HInv.out) k (by rw [HGe.out]; omega)
        have HCa := Lib.hid hcall
        clear hcall
        go_wp2_with fail
        with_reducible refine HCa.out.mono ?_
        rintro e w3 ⟨rfl, hto3⟩
        have HR1 : Hid (LookTo w2 w1.heap.size B ⟨ga, gb, gc⟩ (.slice (some ⟨bv, o, none⟩) N cap) m (Look.upto (fun t k => t.group ⟨ga, gb, gc⟩ S k) (k + 1) T) D w3 D) := HRel.out.trans hto3
        clear hto3
        go_wp2
        go_roundw
        case rel => exact ⟨k + 1, by omega, by go_num, HR1⟩
        case measure => simp [intOf]; omega
      · have hkG : G = k := by omega
        subst hkG
        obtain ⟨T2, hT2⟩ : ∃ T2, Look.upto (fun t k => t.group ⟨ga, gb, gc⟩ S k) G T = T2 := ⟨_, rfl⟩
        have hrel := HRel.out
        have hmn := HMany.out G hG4
        have hdk := HDK.out
        rw [hT2] at hrel hmn hdk
        have hfl : T2.found.length ≤ 1000000 := by unfold Look.many at hmn; omega
        have HB3 : Hid (Below w.heap.size w wr) := hrel.grow (fun j hj => by have := (hrel.1.low.2 j hj).1; have := HW1.out; omega) HB2.out
        obtain ⟨-, -, -, -, -, -, c8⟩ := hrel.1.cells
        have hky := dkeys_any (some m.found) wr
        have hco := dcollect_any wr.heap.size m.found T2.found hfl (wr.alloc (.cells #[.map (some m.found)] 228)) (by simp) (by simp) (hrel.1.found.old (Below.heap_alloc _ _ _ hrel.1.found.lt))
        obtain ⟨W4, hW4⟩ : ∃ W, wr.alloc (.cells #[.map (some m.found)] 228) = W := ⟨_, rfl⟩
        have HB4 : Hid (Below w.heap.size w W4) := by rw [← hW4]; exact bl1 HB3.out _
        rw [hW4] at hky hco
        have HFl := Lib.hid hfl
        have HDk : Hid (Look.disk ⟨ga, gb, gc⟩ S = T2) := hdk
        have HKY := Lib.hid hky
        have HCO := Lib.hid hco
        clear hky hco
        clear hrel hmn hdk hT2 hk hlt HRel hW4 hfl
        go_wp2_with fail
        clear c8
        with_reducible refine HKY.out.mono ?_
        rintro e w4 ⟨rfl, rfl⟩
        go_wp2_with fail
        with_reducible refine HCO.out.mono ?_
        rintro e w5 ⟨v5, xs, rfl, hp, ho, hb5⟩
        have hsrt := dsort_any ho (by rw [hp.length_eq]; exact HFl.out)
        have HB5 := Lib.hid (blN HB4.out hb5)
        have hdl : xs.mergeSort leD = diskL ⟨ga, gb, gc⟩ S := by
          unfold diskL
          rw [HDk.out]
          exact sortD_perm hp
        rw [hdl] at hsrt
        have HLt : Hid (∀ k, v5.ownBlock = some k → w4.heap.size ≤ k) := fun k hk => (ho.lt k hk).1
        obtain ⟨ad, cp, hv5⟩ := ho.form
        subst hv5
        have HSRT := Lib.hid hsrt
        clear hsrt
        clear hp ho hb5 hdl
        go_wp2_with fail
        with_reducible refine HSRT.out.mono ?_
        rintro e w6 ⟨rfl, ho6, hT6⟩
        have HQ : Hid (DiskPost w ⟨ga, gb, gc⟩ N S (.returned (.tuple #[.slice ad xs.length cp, .int .i64 0])) w6) :=
          ⟨HB5.out.trans (hT6.below (fun j hj => Nat.le_trans HB4.out.size (HLt.out j hj)) HB5.out.size), Or.inl ⟨HOk.out, _, rfl, ho6.mono HB4.out.size⟩⟩
        clear ho6 hT6
        go_wp2
        first | exact HQ.out | (go_ret2; exact HQ.out)
end
end Go.Proofs.YtaphcmcimoloiaaGreatDoor
