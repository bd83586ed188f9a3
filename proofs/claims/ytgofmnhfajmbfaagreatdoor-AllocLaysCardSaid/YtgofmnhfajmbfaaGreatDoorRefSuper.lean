/-
  Walks of the reference's layer 4: padded, One, Decode, Wall, Epochs.
-/
import Derived.Test.YtgofmnhfajmbfaaGreatDoorRefTable
import Derived.Test.YtgofmnhfajmbfaaGreatDoorSuperA
import Derived.Deep.RegionHeld3
namespace Go.Proofs.YtgofmnhfajmbfaaGreatDoor
open Go Go.RowKit Txt Sp

section
set_option maxHeartbeats 4000000
set_option maxRecDepth 20000 in
theorem rpadded_any (w : World) (l : List UInt8) (hl : l.length ≤ 64) : Calls Tryz.prog 123 #[.string (ofL l)] w fun e w' => e = .returned (.string (ofL (padL l))) ∧ Below w.heap.size w w' := by
  obtain ⟨ia, ib, ic, id, ie⟩ := info_parts infoU8
  obtain ⟨n, hn⟩ : ∃ n, 64 - l.length = n := ⟨_, rfl⟩
  have hmk := run_make_bytes (P := Tryz.prog) w Tryz.underlying47 ib ic id ie n (by omega)
  have hcv := run_bytes_text (P := Tryz.prog) (w.alloc (bytesO (zeros n) 5 (0, 0))) (src := 47) (dst := 9) (z := []) (l := zeros n) (n := n) Tryz.underlying47 Tryz.underlying5 Tryz.underlying9 (by rw [List.append_nil]; exact heapNew w _) (zeros_length n).symm n
  have hcat := text_cat l (zeros n)
  have hp : l ++ zeros n = padL l := by unfold padL; rw [hn]
  rw [hp] at hcat
  have hz : (ofL l).size = l.length := ofL_size l
  have hzz : (ofL (zeros n)).size = n := by rw [ofL_size, zeros_length]
  obtain ⟨L, hL⟩ : ∃ T, ofL l = T := ⟨_, rfl⟩
  obtain ⟨Z, hZ⟩ : ∃ T, ofL (zeros n) = T := ⟨_, rfl⟩
  obtain ⟨P, hP⟩ : ∃ T, ofL (padL l) = T := ⟨_, rfl⟩
  obtain ⟨W1, hW1⟩ : ∃ W, w.alloc (bytesO (zeros n) 5 (0, 0)) = W := ⟨_, rfl⟩
  have HB : Hid (Below w.heap.size w W1) := by rw [← hW1]; exact bl2 _
  rw [hL] at hcat hz ⊢
  rw [hZ] at hcat hzz hcv
  rw [hP] at hcat ⊢
  rw [hW1] at hmk hcv
  have e1 : IntKind.i64.wrap (64 - (L.size : Int)) = (n : Int) := by rw [IntWalk.i64_in _ (by omega)]; omega
  have hlim : ¬ 9223372036854775807 < L.size + Z.size := by omega
  clear hL hZ hP hW1 ia ib ic id ie hp hz hzz hn hl
  go_enter Tryz.func123, Tryz.ntmps123
  go_wp2
  go_ret
  exact ⟨rfl, HB.out⟩
set_option maxRecDepth 20000 in
theorem rone_any (w : World) (g : Sp.Geom) (h1 : 0 ≤ g.groups ∧ g.groups ≤ 255) (h2 : 0 ≤ g.inodes ∧ g.inodes ≤ 255) (h3 : 0 ≤ g.blocks ∧ g.blocks ≤ 255) : Calls Tryz.prog 49 #[gV g] w fun e w' => e = .returned (.string (superB g)) ∧ Below w.heap.size w w' := by
  have hp := fun (W : World) => rpadded_any W ([67, 85, 84, 87] ++ [byteB g.groups, byteB g.inodes, byteB g.blocks]) (by show (7 : Nat) ≤ 64; decide)
  obtain ⟨ga, gb, gc⟩ := g
  unfold gV
  simp only at h1 h2 h3 hp
  have hcv := fun W : World => three_bytes (w := W) (a := ga) (b := gb) (c := gc) ⟨by omega, by omega⟩ ⟨by omega, by omega⟩ ⟨by omega, by omega⟩
  have hcat := text_cat [67, 85, 84, 87] [byteB ga, byteB gb, byteB gc]
  have hS : superB ⟨ga, gb, gc⟩ = ofL (padL ([67, 85, 84, 87] ++ [byteB ga, byteB gb, byteB gc])) := rfl
  have hsz : (ofL [byteB ga, byteB gb, byteB gc]).size ≤ 3 := Nat.le_refl 3
  obtain ⟨B, hB⟩ : ∃ B, ofL [byteB ga, byteB gb, byteB gc] = B := ⟨_, rfl⟩
  obtain ⟨T, hT⟩ : ∃ T, ofL ([67, 85, 84, 87] ++ [byteB ga, byteB gb, byteB gc]) = T := ⟨_, rfl⟩
  rw [hB] at hcv hcat hsz
  rw [hT] at hcat hp
  change (⟨#[67, 85, 84, 87]⟩ : ByteArray) ++ B = T at hcat
  rw [hS]
  obtain ⟨P, hP⟩ : ∃ P, ofL (padL ([67, 85, 84, 87] ++ [byteB ga, byteB gb, byteB gc])) = P := ⟨_, rfl⟩
  rw [hP] at hp ⊢
  have m1 : ga % 256 = ga := by omega
  have m2 : gb % 256 = gb := by omega
  have m3 : gc % 256 = gc := by omega
  have HP := Lib.hid hp
  clear hp
  clear hB hT hS hP
  obtain ⟨W0, hW0⟩ : ∃ W, w.alloc (.cells #[.int .i64 ga, .int .i64 gb, .int .i64 gc] 23) = W := ⟨_, rfl⟩
  have hk := g_keep hW0
  have HB0 := Lib.hid hk.1
  have HK := Lib.hid hk.2
  clear hk
  obtain ⟨z0, z1, z2⟩ := HK.out W0 (Below.refl _ _)
  go_enter Tryz.func49, Tryz.ntmps49
  go_wp2_with fail
  refine (HP.out _).mono ?_
  rintro e w2 ⟨rfl, hb2⟩
  have HB2 := Lib.hid (blN HB0.out (blN (bl2 _) hb2))
  clear hb2
  go_wp2
  go_ret
  exact ⟨rfl, HB2.out⟩
set_option maxRecDepth 20000 in
theorem rwall_any (w : World) (a b : Nat) : Calls Tryz.prog 50 #[.agg #[.int .i64 (a : Int), .int .i64 (b : Int)]] w fun e w' => e = .returned (.string (wallB a b)) ∧ Below w.heap.size w w' := by
  have h1 := fun W : World => rtext_any W a 4 (by decide)
  have h2 := fun W : World => rtext_any W b 4 (by decide)
  have h3 := fun W : World => rpadded_any W ([70, 69, 78, 67] ++ textL 4 a ++ textL 4 b) (by rw [List.length_append, List.length_append, textL_length, textL_length]; decide)
  have hw : wallB a b = ofL (padL ([70, 69, 78, 67] ++ textL 4 a ++ textL 4 b)) := rfl
  rw [hw]
  have hc1 := text_cat [70, 69, 78, 67] (textL 4 a)
  have hc2 := text_cat ([70, 69, 78, 67] ++ textL 4 a) (textL 4 b)
  have s1 : (ofL (textL 4 a)).size = 4 := by rw [ofL_size, textL_length]
  have s2 : (ofL (textL 4 b)).size = 4 := by rw [ofL_size, textL_length]
  have s3 : (ofL ([70, 69, 78, 67] ++ textL 4 a)).size = 8 := by rw [ofL_size, List.length_append, textL_length]; rfl
  obtain ⟨A, hA⟩ : ∃ T, ofL (textL 4 a) = T := ⟨_, rfl⟩
  obtain ⟨B, hB⟩ : ∃ T, ofL (textL 4 b) = T := ⟨_, rfl⟩
  obtain ⟨C, hC⟩ : ∃ T, ofL ([70, 69, 78, 67] ++ textL 4 a) = T := ⟨_, rfl⟩
  obtain ⟨D, hD⟩ : ∃ T, ofL ([70, 69, 78, 67] ++ textL 4 a ++ textL 4 b) = T := ⟨_, rfl⟩
  obtain ⟨P, hP⟩ : ∃ T, ofL (padL ([70, 69, 78, 67] ++ textL 4 a ++ textL 4 b)) = T := ⟨_, rfl⟩
  rw [hA] at h1 hc1 s1
  rw [hB] at h2 hc2 s2
  rw [hC] at hc1 hc2 s3
  rw [hD] at hc2 h3
  rw [hP] at h3 ⊢
  change (⟨#[70, 69, 78, 67]⟩ : ByteArray) ++ A = C at hc1
  have hl1 : ¬ 9223372036854775807 < 4 + A.size := by omega
  have hl2 : ¬ 9223372036854775807 < C.size + B.size := by omega
  clear hA hB hC hD hP hw s1 s2 s3
  obtain ⟨x, hx⟩ : ∃ x : Int, (a : Int) = x := ⟨_, rfl⟩
  obtain ⟨y, hy⟩ : ∃ x : Int, (b : Int) = x := ⟨_, rfl⟩
  rw [hx] at h1 ⊢
  rw [hy] at h2 ⊢
  clear hx hy
  obtain ⟨W0, hW0⟩ : ∃ W, w.alloc (.cells #[.int .i64 x, .int .i64 y] 41) = W := ⟨_, rfl⟩
  have hz : W0.heap[w.heap.size]? = some (.cells #[.int .i64 x, .int .i64 y] 41 (0, 0)) := by rw [← hW0]; exact heapNew w _
  have HB0 : Hid (Below w.heap.size w W0) := by rw [← hW0]; exact bl2 _
  have HK : Hid (∀ W, Below W0.heap.size W0 W → W.cell? ⟨w.heap.size, 0, none⟩ = some (.int .i64 x) ∧ W.cell? ⟨w.heap.size, 1, none⟩ = some (.int .i64 y)) := fun W hW => ⟨cellOf (heapOld hW hz) rfl, cellOf (heapOld hW hz) rfl⟩
  have H1 := Lib.hid h1
  have H2 := Lib.hid h2
  have H3 := Lib.hid h3
  clear h1 h2 h3
  clear hz
  go_enter Tryz.func50, Tryz.ntmps50
  go_wp2_with fail
  go_region_held3 (fun W => W.cell? ⟨w.heap.size, 0, none⟩ = some (.int .i64 x) ∧ W.cell? ⟨w.heap.size, 1, none⟩ = some (.int .i64 y))
    ((refine HK.out _ ?_; repeat' first | with_reducible exact Below.refl _ _ | with_reducible exact HB1.out | with_reducible exact HB2.out | with_reducible exact HB3.out | with_reducible refine blD ?_ | with_reducible refine bl1 ?_ _))
    (first
      | (go_at_call_of 124 (Value.int .i64 x)
         refine (H1.out _).mono ?_
         rintro e w1 ⟨rfl, hb1⟩
         have HB1 : Hid (Below W0.heap.size W0 w1) := blN (by repeat' first | with_reducible exact Below.refl _ _ | with_reducible refine blD ?_ | with_reducible refine bl1 ?_ _) hb1
         clear hb1
         simp only)
      | (go_at_call_of 124 (Value.int .i64 y)
         refine (H2.out _).mono ?_
         rintro e w2 ⟨rfl, hb2⟩
         have HB2 : Hid (Below W0.heap.size W0 w2) := blN (by repeat' first | with_reducible exact HB1.out | with_reducible refine blD ?_ | with_reducible refine bl1 ?_ _) hb2
         clear hb2
         simp only)
      | (go_at_call 123
         refine (H3.out _).mono ?_
         rintro e w3 ⟨rfl, hb3⟩
         have HB3 : Hid (Below W0.heap.size W0 w3) := blN (by repeat' first | with_reducible exact HB2.out | with_reducible refine blD ?_ | with_reducible refine bl1 ?_ _) hb3
         clear hb3
         simp only))
  all_goals
    go_wp2
    first | exact ⟨rfl, blN HB0.out HB3.out⟩ | (go_ret; exact ⟨rfl, blN HB0.out HB3.out⟩)
end
end Go.Proofs.YtgofmnhfajmbfaaGreatDoor
