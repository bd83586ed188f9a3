/-
  AllocLays: both sides in memory; the calls of Lay.
-/
import Derived.Test.YtgofmnhfajmbfaaGreatDoorBookSame
import Derived.Test.YtgofmnhfajmbfaaGreatDoorAllocWorks
import Derived.Test.YtgofmnhfajmbfaaGreatDoorNamesA
namespace Go.Proofs.YtgofmnhfajmbfaaGreatDoor
open Go Go.RowKit Txt Sp

/-- Both sides, behind a world W0, so long as the reference's disk is the first one. -/
structure Lays (W0 : World) (x B Bc Bd fm r k c : Nat) (D Dd : Nat → Prop) (base top : Nat) (W : World) (S : Sp.Side) (L : List ByteArray) : Prop where
  both : BSide W x B Bc Bd fm r k c S D Dd base top L
  part : Parted x r k c D base top
  below : Below W0.heap.size W0 W
  low : ∀ j, D j → W0.heap.size ≤ j
  base : W0.heap.size ≤ base
def side1 (n : Nat) (g : Sp.Geom) : Sp.Side := { side0 n with disk := { newDisk n with l := layL g (newDisk n).l } }
theorem new_length (n : Nat) : (newDisk n).l.length = n := by unfold newDisk; simp
theorem new_size (n : Nat) : ∀ s ∈ (newDisk n).l, s.size = 64 := by
  intro s hs
  unfold newDisk at hs
  rcases List.mem_or_eq_of_mem_set hs with h | rfl
  · rw [(List.mem_replicate.1 h).2]; decide
  · decide
theorem lay_size (n : Nat) (g : Sp.Geom) : ∀ s ∈ layL g (newDisk n).l, s.size = 64 := by
  intro s hs
  unfold layL at hs
  split at hs
  · obtain ⟨k, hk⟩ := List.mem_iff_getElem?.1 hs
    exact secs_size g hk
  · exact new_size n s hs
theorem lay_length {n : Nat} (hn : n ≤ 2048) (g : Sp.Geom) : (layL g (newDisk n).l).length ≤ 2048 := by
  unfold layL
  split
  · rename_i h
    rw [formatL_length]
    have := h.2
    rw [new_length] at this
    omega
  · rw [new_length]; exact hn
section
variable {W0 : World} {x B Bc Bd fm r k c : Nat} {D Dd : Nat → Prop} {base top n : Nat} {W : World}
theorem Lays.after {W' : World} {S : Sp.Side} {L : List ByteArray} (h : Lays W0 x B Bc Bd fm r k c D Dd base top W S L) (hb : Below W.heap.size W W') : Lays W0 x B Bc Bd fm r k c D Dd base top W' S L :=
  ⟨h.both.below hb, h.part, blN h.below hb, h.low, h.base⟩
theorem laysA_any (h : Lays W0 x B Bc Bd fm r k c D Dd base top W (side0 n) (newDisk n).l) (g : Sp.Geom) : Calls Tryz.prog 10 #[pt Bd, gV g] W fun e w' => e = .returned (.int .i64 (layC g (newDisk n).l)) ∧ Lays W0 x B Bc Bd fm r k c D Dd base top w' (side1 n g) (newDisk n).l := by
  have hd : DiskAt W 0 Bd (newDisk n) Dd := h.both.side.disk
  have hlt : ∀ j, Dd j → j < W.heap.size := fun j hj => h.both.lt j (h.both.side.sub j hj)
  by_cases hg : g.ok ∧ ((newDisk n).l.length : Int) = g.size
  · have e1 : layC g (newDisk n).l = 0 := if_pos hg
    have e2 : layL g (newDisk n).l = formatL g := if_pos hg
    unfold side1
    rw [e1, e2]
    refine (alayD_any hd hlt hg.1 (by have := hg.2; omega)).mono ?_
    rintro e w' ⟨rfl, hd', hT⟩
    refine ⟨rfl, h.both.dsk h.part hd' hT, h.part, ?_, h.low, h.base⟩
    obtain ⟨K, hK, -, hT⟩ := hT
    exact h.below.trans (hT.below (fun j hj => h.low j (h.both.side.sub j (hK j hj))) h.below.size)
  · have e1 : layC g (newDisk n).l = 4 := if_neg hg
    have e2 : layL g (newDisk n).l = (newDisk n).l := if_neg hg
    unfold side1
    rw [e1, e2]
    refine (alay_no hd hg).mono ?_
    rintro e w' ⟨rfl, hb⟩
    exact ⟨rfl, h.after hb⟩
theorem laysR_any {g : Sp.Geom} (h : Lays W0 x B Bc Bd fm r k c D Dd base top W (side1 n g) (newDisk n).l) : Calls Tryz.prog 13 #[pt r, gV g] W fun e w' => e = .returned (.int .i64 (layC g (newDisk n).l)) ∧ (∃ top', BSide w' x B Bc Bd fm r k c (side1 n g) D Dd base top' (layL g (newDisk n).l)) ∧ Below W0.heap.size W0 w' := by
  refine (rlay15_any h.both.disk g).mono ?_
  rintro e w' ⟨rfl, hd, hT⟩
  refine ⟨rfl, ⟨_, h.both.ref h.part hd hT⟩, ?_⟩
  exact h.below.trans (hT.below (fun j hj => by have := h.part.2.1; have := h.base; omega) h.below.size)
theorem laysS_any {top' : Nat} {g : Sp.Geom} (hn : n ≤ 2048) (h : BSide W x B Bc Bd fm r k c (side1 n g) D Dd base top' (layL g (newDisk n).l)) : Calls Tryz.prog 14 #[pt x] W fun e w' => e = .returned (.bool true) ∧ Below W.heap.size W w' :=
  bsame_any h rfl rfl (lay_size n g) (lay_length hn g)
end
end Go.Proofs.YtgofmnhfajmbfaaGreatDoor
namespace Go.Proofs.YtgofmnhfajmbfaaGreatDoor
open Go Go.RowKit Txt Sp

section
set_option maxHeartbeats 8000000
set_option maxRecDepth 20000 in
theorem lays_any (w : World) (g : Sp.Geom) (n : Int) : Calls Tryz.prog 3 #[gV g, .int .i64 n] w fun e w' => e = .returned (.bool true) ∧ Below w.heap.size w w' := by
  have hfa := fun W : World => aformat_any W g
  have hfr := fun W : World => rformat_any W g
  unfold FormatPost at hfa
  unfold RFormatPost at hfr
  have hln := fun W : World => alay_nil W g
  have hwk := works15_any
  obtain ⟨C, hC⟩ : ∃ C, g.check = C := ⟨_, rfl⟩
  rw [hC] at hfa hfr
  obtain ⟨F, hF⟩ : ∃ F, (if g.ok then formatL g else []) = F := ⟨_, rfl⟩
  rw [hF] at hfa hfr
  have HG : Hid (∃ g' : Sp.Geom, g' = g) := ⟨g, rfl⟩
  obtain ⟨ga, gb, gc⟩ := g
  unfold gV at hfa hfr hln ⊢
  have HFA := Lib.hid hfa
  have HFR := Lib.hid hfr
  have HLN := Lib.hid hln
  have HWK := Lib.hid hwk
  clear hfa hfr hln hwk
  clear hC hF HG
  obtain ⟨W0, hW0⟩ : ∃ W, w.alloc (.cells #[.int .i64 ga, .int .i64 gb, .int .i64 gc] 23) = W := ⟨_, rfl⟩
  have hk := g_keep hW0
  have HB0 := Lib.hid hk.1
  have HK := Lib.hid hk.2
  clear hk
  obtain ⟨z0, z1, z2⟩ := HK.out W0 (Below.refl _ _)
  go_enter Tryz.func3, Tryz.ntmps3
  go_wp2_with fail
  refine (HFA.out _).mono ?_
  rintro e w1 ⟨v1, rfl, ho1, hb1⟩
  have HB1 : Hid (Below W0.heap.size W0 w1) := hb1
  clear z0 z1 z2
  obtain ⟨z0, z1, z2⟩ := HK.out w1 HB1.out
  go_wp2_with fail
  refine (HFR.out _).mono ?_
  rintro e w2 ⟨v2, rfl, ho2, hb2⟩
  have HB2 := Lib.hid (blN HB1.out hb2)
  clear z0 z1 z2
  obtain ⟨z0, z1, z2⟩ := HK.out w2 HB2.out
  have hst := sameTexts_yes v1 v2 F w2 (OwnTexts.below ho1 hb2).texts (RTexts.own ho2).texts
  have HST := Lib.hid hst
  have hq : (C != C) = false := by simp
  clear ho1 ho2 hb1 hb2 hst
  go_wp2_with fail
  refine HST.out.mono ?_
  rintro e w3 ⟨rfl, hb3⟩
  have HB3 := Lib.hid (blN HB2.out hb3)
  clear hb3 z0 z1 z2
  obtain ⟨z0, z1, z2⟩ := HK.out w3 HB3.out
  go_wp2_with fail
  refine (HLN.out _).mono ?_
  rintro e w4 ⟨rfl, hb4⟩
  have HB4 := Lib.hid (blN HB3.out hb4)
  clear hb4 z0 z1 z2
  go_wp2_with fail
  refine (HWK.out _).mono ?_
  rintro e w5 ⟨rfl, hb5⟩
  have HB5 := Lib.hid (blN HB4.out hb5)
  clear hb5
  by_cases h200 : n > 200
  · have f1 : decide (n > 200) = true := decide_eq_true h200
    go_wp2
    go_ret
    exact ⟨rfl, blN HB0.out HB5.out⟩
  have f1 : decide (n > 200) = false := decide_eq_false h200
  by_cases h2 : 2 ≤ n
  rotate_left
  · have hbs := fun W : World => beside_no W n (by omega)
    have HBS := Lib.hid hbs
    clear hbs
    go_wp2_with fail
    refine (HBS.out _).mono ?_
    rintro e w6 ⟨rfl, hb6⟩
    go_wp2
    go_ret
    exact ⟨rfl, blN HB0.out (blN HB5.out hb6)⟩
  obtain ⟨N, rfl⟩ : ∃ N : Nat, n = (N : Int) := ⟨n.toNat, by omega⟩
  have hbs := fun W : World => beside_any W N (by omega)
  unfold BesidePost at hbs
  have HBS := Lib.hid hbs
  clear hbs
  go_wp2_with fail
  refine (HBS.out _).mono ?_
  rintro e w6 ⟨x, B, Bc, Bd, fm, r, k, c, D, Dd, base, top, rfl, hbs6, hpt, hb6, hDl, hba⟩
  have HB6 := Lib.hid (blN HB5.out hb6)
  have hz5 := HB5.out.size
  have hly : Lays W0 x B Bc Bd fm r k c D Dd base top w6 (side0 N) (newDisk N).l := ⟨hbs6, hpt, HB6.out, fun j hj => by have := hDl j hj; omega, by omega⟩
  have hn : N ≤ 2048 := by omega
  have hla := fun (W : World) (h : Lays W0 x B Bc Bd fm r k c D Dd base top W (side0 N) (newDisk N).l) => laysA_any h ⟨ga, gb, gc⟩
  have hlr := fun (W : World) (h : Lays W0 x B Bc Bd fm r k c D Dd base top W (side1 N ⟨ga, gb, gc⟩) (newDisk N).l) => laysR_any h
  have hls := fun (W : World) (top' : Nat) (h : BSide W x B Bc Bd fm r k c (side1 N ⟨ga, gb, gc⟩) D Dd base top' (layL ⟨ga, gb, gc⟩ (newDisk N).l)) => laysS_any hn h
  have hkb : ∀ (W : World) (S : Sp.Side) (L : List ByteArray) (t : Nat), BSide W x B Bc Bd fm r k c S D Dd base t L → Below W0.heap.size W0 W → W.cell? ⟨x, 0, none⟩ = some (pt Bd) ∧ W.cell? ⟨x, 2, none⟩ = some (pt r) ∧ W.cell? ⟨w.heap.size, 0, none⟩ = some (.int .i64 ga) ∧ W.cell? ⟨w.heap.size, 1, none⟩ = some (.int .i64 gb) ∧ W.cell? ⟨w.heap.size, 2, none⟩ = some (.int .i64 gc) := fun W S L t h hb => ⟨cellOf (k := 0) h.obj rfl, cellOf (k := 2) h.obj rfl, HK.out W hb⟩
  obtain ⟨Cc, hCc⟩ : ∃ Cc, layC ⟨ga, gb, gc⟩ (newDisk N).l = Cc := ⟨_, rfl⟩
  rw [hCc] at hla
  simp only [hCc] at hlr
  have hK6 : ∀ W, Below w6.heap.size w6 W → _ := fun W hW => hkb W _ _ _ (hly.after hW).both (hly.after hW).below
  have hk6 := hK6 w6 (Below.refl _ _)
  unfold gV at hla hlr
  simp only at hla hlr
  unfold pt at hla hlr hls hkb hK6 hk6 ⊢
  have HLy := Lib.hid hly
  have HLA := Lib.hid hla
  have HLR := Lib.hid hlr
  have HLS := Lib.hid hls
  have HKB := Lib.hid hkb
  clear hla hlr hls hkb
  have HK6 := Lib.hid hK6
  obtain ⟨x0, x2, y0, y1, y2⟩ := hk6
  clear hly hK6 hCc hbs6 hpt hDl hba hb6 hz5
  go_wp2_with fail
  go_region_held3 (fun W => W.cell? ⟨x, 0, none⟩ = some (.pointer (some ⟨Bd, 0, none⟩)) ∧ W.cell? ⟨x, 2, none⟩ = some (.pointer (some ⟨r, 0, none⟩)) ∧ W.cell? ⟨w.heap.size, 0, none⟩ = some (.int .i64 ga) ∧ W.cell? ⟨w.heap.size, 1, none⟩ = some (.int .i64 gb) ∧ W.cell? ⟨w.heap.size, 2, none⟩ = some (.int .i64 gc))
    (first
      | (refine HK9.out _ ?_; (repeat' first | with_reducible exact Below.refl _ _ | with_reducible refine blD ?_); done)
      | (refine HK8.out _ ?_; (repeat' first | with_reducible exact Below.refl _ _ | with_reducible refine blD ?_); done)
      | (refine HK7.out _ ?_; (repeat' first | with_reducible exact Below.refl _ _ | with_reducible refine blD ?_); done)
      | (refine HK6.out _ ?_; (repeat' first | with_reducible exact Below.refl _ _ | with_reducible refine blD ?_); done))
    (first
      | (go_at_call 10
         refine (HLA.out _ (Lays.after HLy.out (by repeat' first | with_reducible exact Below.refl _ _ | with_reducible refine blD ?_))).mono ?_
         rintro e w7 ⟨rfl, hl7⟩
         have HL7 := Lib.hid hl7
         have HK7 : Hid (∀ W, Below w7.heap.size w7 W → _) := fun W hW => HKB.out W _ _ _ (HL7.out.after hW).both (HL7.out.after hW).below
         clear hl7
         simp only)
      | (go_at_call 13
         refine (HLR.out _ (Lays.after HL7.out (by repeat' first | with_reducible exact Below.refl _ _ | with_reducible refine blD ?_))).mono ?_
         rintro e w8 ⟨rfl, ⟨top8, hs8⟩, hb8⟩
         have HS8 := Lib.hid hs8
         have HB8 := Lib.hid hb8
         have HK8 : Hid (∀ W, Below w8.heap.size w8 W → _) := fun W hW => HKB.out W _ _ _ (HS8.out.below hW) (blN HB8.out hW)
         clear hs8 hb8
         simp only)
      | (go_at_call 14
         refine (HLS.out _ _ (BSide.below HS8.out (by repeat' first | with_reducible exact Below.refl _ _ | with_reducible refine blD ?_))).mono ?_
         rintro e w9 ⟨rfl, hb9⟩
         have HB9 : Hid (Below w8.heap.size w8 w9) := blN (by repeat' first | with_reducible exact Below.refl _ _ | with_reducible refine blD ?_) hb9
         have HK9 : Hid (∀ W, Below w9.heap.size w9 W → _) := fun W hW => HK8.out W (blN HB9.out hW)
         clear hb9
         simp only))
  all_goals
    go_wp2
    first | exact ⟨rfl, blN HB0.out (blN HB8.out HB9.out)⟩ | (go_ret; exact ⟨rfl, blN HB0.out (blN HB8.out HB9.out)⟩)
end
end Go.Proofs.YtgofmnhfajmbfaaGreatDoor
