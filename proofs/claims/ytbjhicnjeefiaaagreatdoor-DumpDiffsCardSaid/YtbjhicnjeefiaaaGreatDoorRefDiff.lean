/-
  Walks of the reference's layer 31: Diff.
-/
import Derived.Test.YtbjhicnjeefiaaaGreatDoorRefG
import Derived.Test.YtbjhicnjeefiaaaGreatDoorDumpDiff
namespace Go.Proofs.YtbjhicnjeefiaaaGreatDoor
open Go Go.RowKit Txt Sp

section
set_option maxHeartbeats 8000000
set_option maxRecDepth 20000 in
theorem rdiff_any (w : World) (g : Sp.Geom) (v u : Value) (l m : List ByteArray) (hv : Texts w v l) (hu : Texts w u m) :
    Calls Tryz.prog 14 #[gV g, v, u] w (DiffPost g l m w) := by
  have hsh := fun (W : World) (hW : Below w.heap.size w W) => rshape_any W g v l (hv.below hW)
  have hsi := fun (W : World) (hW : Below w.heap.size w W) => rshape_any W g u m (hu.below hW)
  have HNo : Hid (¬ (shapeP g l ∧ shapeP g m) → ∀ w', Below w.heap.size w w' → DiffPost g l m w (.returned (.tuple #[.slice none 0 0, .int .i64 4])) w') := fun hn w' hb => by
    unfold DiffPost diffN
    rw [if_neg hn]
    exact ⟨_, rfl, OwnTexts.void _ _, hb⟩
  have HYes : Hid (shapeP g l ∧ shapeP g m → ∀ v w', OwnTexts w.heap.size w' v (diffFrom 0 g l m) → Below w.heap.size w w' → DiffPost g l m w (.returned (.tuple #[v, .int .i64 0])) w') := fun hn v w' ho hb => by
    unfold DiffPost diffN
    rw [if_pos hn]
    exact ⟨_, rfl, ho, hb⟩
  obtain ⟨Q, hQ⟩ : ∃ Q, DiffPost g l m w = Q := ⟨_, rfl⟩
  rw [hQ] at HNo HYes ⊢
  clear hQ
  by_cases hsp : shapeP g l
  rotate_left
  · have HN := Lib.hid (HNo.out (fun h => hsp h.1))
    rw [decide_eq_false hsp] at hsh
    obtain ⟨ga, gb, gc⟩ := g
    unfold gV at hsh ⊢
    have HSH := Lib.hid hsh
    clear hsh
    clear hsp hv HYes hsi
    obtain ⟨W0, hW0⟩ : ∃ W, w.alloc (.cells #[.int .i64 ga, .int .i64 gb, .int .i64 gc] 23) = W := ⟨_, rfl⟩
    have hk := g_keep hW0
    have HB0 := Lib.hid hk.1
    have HK := Lib.hid hk.2
    clear hk
    obtain ⟨z0, z1, z2⟩ := HK.out W0 (Below.refl _ _)
    go_enter Tryz.func14, Tryz.ntmps14
    go_wp2_with fail
    refine (HSH.out _ HB0.out).mono ?_
    rintro e w1 ⟨rfl, hb1⟩
    have HB1 := Lib.hid (blN HB0.out hb1)
    clear z0 z1 z2 hb1
    go_wp2
    first | exact HN.out _ HB1.out | (go_ret2; exact HN.out _ HB1.out)
  rw [decide_eq_true hsp] at hsh
  by_cases hsq : shapeP g m
  rotate_left
  · have HN := Lib.hid (HNo.out (fun h => hsq h.2))
    rw [decide_eq_false hsq] at hsi
    obtain ⟨ga, gb, gc⟩ := g
    unfold gV at hsh hsi ⊢
    have HSH := Lib.hid hsh
    have HSI := Lib.hid hsi
    clear hsh hsi
    clear hsp hsq hv HYes
    obtain ⟨W0, hW0⟩ : ∃ W, w.alloc (.cells #[.int .i64 ga, .int .i64 gb, .int .i64 gc] 23) = W := ⟨_, rfl⟩
    have hk := g_keep hW0
    have HB0 := Lib.hid hk.1
    have HK := Lib.hid hk.2
    clear hk
    obtain ⟨z0, z1, z2⟩ := HK.out W0 (Below.refl _ _)
    go_enter Tryz.func14, Tryz.ntmps14
    go_wp2_with fail
    refine (HSH.out _ HB0.out).mono ?_
    rintro e w1 ⟨rfl, hb1⟩
    have HB1 : Hid (Below W0.heap.size W0 w1) := hb1
    clear z0 z1 z2 hb1
    obtain ⟨z0, z1, z2⟩ := HK.out w1 HB1.out
    go_wp2_with fail
    refine (HSI.out _ (blN HB0.out HB1.out)).mono ?_
    rintro e w2 ⟨rfl, hb2⟩
    have HB2 := Lib.hid (blN (blN HB0.out HB1.out) hb2)
    clear z0 z1 z2 hb2
    go_wp2
    first | exact HN.out _ HB2.out | (go_ret2; exact HN.out _ HB2.out)
  rw [decide_eq_true hsq] at hsi
  replace HYes := Lib.hid (HYes.out ⟨hsp, hsq⟩)
  have hgo := hsp.1
  have hlen := hsp.2.1
  have hall := hsp.2.2
  have hlen2 := hsq.2.1
  have hall2 := hsq.2.2
  have hsz := Geom.size_bd hgo
  have hlm : l.length = m.length := by omega
  have hwhat := fun (a : Nat) (s : ByteArray) (ha : (a : Int) < g.size) (hs : s.size = 64) (W : World) => rwhat_any W g (a : Int) s hgo (by omega) ha hs
  unfold WhatPost at hwhat
  have hls : ∀ (a : Nat) (s : ByteArray), lineL g a s = digitsL a ++ 32 :: whatL g (a : Int) s := fun a s => by
    unfold lineL
    rw [Int.toNat_natCast]
  have hdig := fun (W : World) (x : Nat) (hx : x < 9223372036854775808) => rdigits_any W x hx
  have hlle := fun (a : Nat) (s : ByteArray) (ha : (a : Int) < g.size) (hs : s.size = 64) => whatL_le (a := (a : Int)) hgo hs
  have hsn : ∀ (a : Nat) (s t : ByteArray), l[a]? = some s → m[a]? = some t → diffFrom 0 g (l.take (a + 1)) (m.take (a + 1)) = diffFrom 0 g (l.take a) (m.take a) ++ (if s = t then [] else [ofL (45 :: 32 :: lineL g a s), ofL (43 :: 32 :: lineL g a t)]) := fun a s t ha ht => by
    have h1 : (l.take a).length = a := by rw [List.length_take]; have := (List.getElem?_eq_some_iff.1 ha).1; omega
    have h2 : (m.take a).length = a := by rw [List.length_take]; have := (List.getElem?_eq_some_iff.1 ht).1; omega
    rw [take_step ha, take_step ht, diffFrom_snoc 0 g _ _ s t (by rw [h1, h2]), h1, Nat.zero_add]
  have hdle : ∀ a, a ≤ 403 → (diffFrom 0 g (l.take a) (m.take a)).length ≤ 806 := fun a ha => by
    have h := diffFrom_le 0 g (l.take a) (m.take a)
    have h2 : (l.take a).length ≤ a := List.length_take_le _ _
    omega
  obtain ⟨ad, N, cap, rfl, HN, hn2, HF⟩ := texts_facts hv
  obtain ⟨ad2, N2, cap2, rfl, HN2, hn22, HF2⟩ := texts_facts hu
  obtain rfl : N = N2 := by rw [HN.out, HN2.out, hlm]
  simp only [hls] at hsn
  obtain ⟨F, hF⟩ : ∃ F : Nat → ByteArray → List UInt8, (fun (a : Nat) s => whatL g (a : Int) s) = F := ⟨_, rfl⟩
  have hFe : ∀ (a : Nat) s, whatL g (a : Int) s = F a s := fun a s => by rw [← hF]
  simp only [hFe] at hwhat hlle hsn
  obtain ⟨DL, hDL⟩ : ∃ DL : Nat → List ByteArray, (fun a => diffFrom 0 g (l.take a) (m.take a)) = DL := ⟨_, rfl⟩
  have hDe : ∀ a, diffFrom 0 g (l.take a) (m.take a) = DL a := fun a => by rw [← hDL]
  have hD0 : DL 0 = [] := by rw [← hDL]; simp [diffFrom]
  have hDl : diffFrom 0 g l m = DL N := by rw [← hDL]; simp only; rw [List.take_of_length_le (by rw [HN.out]; exact Nat.le_refl _), List.take_of_length_le (by rw [HN2.out]; exact Nat.le_refl _)]
  simp only [hDe] at hsn hdle
  rw [hDl] at HYes
  have hN403 : N ≤ 403 := by rw [HN.out]; omega
  have hNz : (N : Int) = g.size := by rw [HN.out]; exact hlen
  rw [← hNz] at hwhat hlle
  have HAll := Lib.hid hall
  have HAll2 := Lib.hid hall2
  obtain ⟨ga, gb, gc⟩ := g
  unfold gV at hsh hsi hwhat ⊢
  have HSH := Lib.hid hsh
  have HSI := Lib.hid hsi
  have HWHAT := Lib.hid hwhat
  have HLLE := Lib.hid hlle
  have HSN := Lib.hid hsn
  have HDLE := Lib.hid hdle
  have HDIG := Lib.hid hdig
  clear hsh hsi hwhat hlle hsn hdle hdig
  clear hsp hsq hv hu hgo hlen hall hlen2 hall2 hsz hF hFe hDL hDe hDl hlm hNz HNo hls
  obtain ⟨W0, hW0⟩ : ∃ W, w.alloc (.cells #[.int .i64 ga, .int .i64 gb, .int .i64 gc] 23) = W := ⟨_, rfl⟩
  have hk := g_keep hW0
  have HB0 := Lib.hid hk.1
  have HK := Lib.hid hk.2
  clear hk
  obtain ⟨z0, z1, z2⟩ := HK.out W0 (Below.refl _ _)
  go_enter Tryz.func14, Tryz.ntmps14
  go_wp2_with fail
  refine (HSH.out _ HB0.out).mono ?_
  rintro e w1 ⟨rfl, hb1⟩
  have HB1 : Hid (Below W0.heap.size W0 w1) := hb1
  clear z0 z1 z2 hb1
  obtain ⟨z0, z1, z2⟩ := HK.out w1 HB1.out
  go_wp2_with fail
  refine (HSI.out _ (blN HB0.out HB1.out)).mono ?_
  rintro e w2 ⟨rfl, hb2⟩
  have HB2 : Hid (Below W0.heap.size W0 w2) := blN HB1.out hb2
  clear z0 z1 z2 hb2
  have HO2 : Hid (OwnT W0.heap.size w2 (.slice none 0 0) (DL 0)) := by rw [hD0]; exact OwnT.void _ _
  go_wp2_with fail
  go_loopw [8, 9] (fun v i wr => ∃ k : Nat, k ≤ N ∧ i = .int .i64 (k : Int) ∧ Hid (OwnT W0.heap.size wr v (DL k)) ∧ Hid (Below W0.heap.size W0 wr)) (fun _ i _ => N - (intOf i).toNat)
  case atStart => exact ⟨0, Nat.zero_le _, rfl, HO2, HB2⟩
  case round =>
    obtain ⟨k, hk, rfl, HO, HB⟩ := hrel
    by_cases hlt : k < N
    · obtain ⟨b, o, x, rfl, hb, hx, hc⟩ := HF.out k hlt
      obtain ⟨b2, o2, y, rfl, hb2, hy, hc2⟩ := HF2.out k hlt
      have HCx : Hid (∀ W, Below W0.heap.size W0 W → W.cell? ⟨b, o + k, none⟩ = some (.string x)) := fun W hW => ((blN HB0.out hW).cell (p := ⟨b, o + k, none⟩) hb).trans hc
      have HCy : Hid (∀ W, Below W0.heap.size W0 W → W.cell? ⟨b2, o2 + k, none⟩ = some (.string y)) := fun W hW => ((blN HB0.out hW).cell (p := ⟨b2, o2 + k, none⟩) hb2).trans hc2
      have HXY : Hid (∀ W, Below W0.heap.size W0 W → W.cell? ⟨b, o + k, none⟩ = some (.string x) ∧ W.cell? ⟨b2, o2 + k, none⟩ = some (.string y)) := fun W hW => ⟨HCx.out W hW, HCy.out W hW⟩
      have hsn := HSN.out k x y hx hy
      have f := list_eq x y
      have hk2 : (k : Int) < (N : Int) := by omega
      by_cases hxy : x = y
      · rw [if_pos hxy, List.append_nil] at hsn
        rw [decide_eq_true hxy] at f
        have HO2 : Hid (OwnT W0.heap.size wr u8 (DL (k + 1))) := by rw [hsn]; exact HO.out
        clear hsn hx hy hc hc2 hxy
        go_wp2_with fail
        go_region_held3 (fun W => W.cell? ⟨b, o + k, none⟩ = some (.string x) ∧ W.cell? ⟨b2, o2 + k, none⟩ = some (.string y))
          ((refine HXY.out _ ?_; repeat' first | with_reducible exact HB.out | with_reducible refine blD ?_ | with_reducible refine bl1 ?_ _))
          (fail)
        all_goals
          have HO3 : Hid (OwnT W0.heap.size wr.drew u8 (DL (k + 1))) := OwnT.below HO2.out (blD (Below.refl _ _))
          have HB3 : Hid (Below W0.heap.size W0 wr.drew) := blD HB.out
          go_wp2
          go_roundw
          case rel => exact ⟨k + 1, by omega, by go_num, HO3, HB3⟩
          case measure => simp [intOf]; omega
      · rw [if_neg hxy] at hsn
        rw [decide_eq_false hxy] at f
        have sx := HAll.out x (List.mem_of_getElem? hx)
        have sy := HAll2.out y (List.mem_of_getElem? hy)
        have lx := HWHAT.out k x hk2 sx
        have ly := HWHAT.out k y hk2 sy
        have zx := HLLE.out k x hk2 sx
        have zy := HLLE.out k y hk2 sy
        have hd1 := HDIG.out wr.drew.drew k (by omega)
        have hd2 := fun (W : World) => HDIG.out W k (by omega)
        have hdl2 := digitsL_le (n := k) (by omega)
        have p1 := text_cat [45, 32] (digitsL k)
        have p2 := text_cat (45 :: 32 :: digitsL k) [32]
        have p3 := text_cat (45 :: 32 :: digitsL k ++ [32]) (F k x)
        have r1 := text_cat [43, 32] (digitsL k)
        have r2 := text_cat (43 :: 32 :: digitsL k) [32]
        have r3 := text_cat (43 :: 32 :: digitsL k ++ [32]) (F k y)
        have ex : 45 :: 32 :: digitsL k ++ [32] ++ F k x = 45 :: 32 :: (digitsL k ++ 32 :: F k x) := by simp
        have ey : 43 :: 32 :: digitsL k ++ [32] ++ F k y = 43 :: 32 :: (digitsL k ++ 32 :: F k y) := by simp
        rw [ex] at p3
        rw [ey] at r3
        have s1 : (ofL (digitsL k)).size ≤ 19 := by rw [ofL_size]; exact hdl2
        have s2 : (ofL (45 :: 32 :: digitsL k)).size ≤ 21 := by rw [ofL_size, List.length_cons, List.length_cons]; omega
        have s3 : (ofL (43 :: 32 :: digitsL k)).size ≤ 21 := by rw [ofL_size, List.length_cons, List.length_cons]; omega
        have s4 : (ofL (45 :: 32 :: digitsL k ++ [32])).size ≤ 22 := by rw [ofL_size, List.length_append, List.length_cons, List.length_cons, List.length_singleton]; omega
        have s5 : (ofL (43 :: 32 :: digitsL k ++ [32])).size ≤ 22 := by rw [ofL_size, List.length_append, List.length_cons, List.length_cons, List.length_singleton]; omega
        have zx2 : (ofL (F k x)).size ≤ 3000 := by rw [ofL_size]; exact zx
        have zy2 : (ofL (F k y)).size ≤ 3000 := by rw [ofL_size]; exact zy
        have hdl := HDLE.out k (by omega)
        obtain ⟨D, hD⟩ : ∃ T, ofL (digitsL k) = T := ⟨_, rfl⟩
        obtain ⟨P1, hP1⟩ : ∃ T, ofL (45 :: 32 :: digitsL k) = T := ⟨_, rfl⟩
        obtain ⟨P2, hP2⟩ : ∃ T, ofL (45 :: 32 :: digitsL k ++ [32]) = T := ⟨_, rfl⟩
        obtain ⟨R1, hR1⟩ : ∃ T, ofL (43 :: 32 :: digitsL k) = T := ⟨_, rfl⟩
        obtain ⟨R2, hR2⟩ : ∃ T, ofL (43 :: 32 :: digitsL k ++ [32]) = T := ⟨_, rfl⟩
        obtain ⟨LX, hLX⟩ : ∃ T, ofL (F k x) = T := ⟨_, rfl⟩
        obtain ⟨LY, hLY⟩ : ∃ T, ofL (F k y) = T := ⟨_, rfl⟩
        obtain ⟨MX, hMX⟩ : ∃ T, ofL (45 :: 32 :: (digitsL k ++ 32 :: F k x)) = T := ⟨_, rfl⟩
        obtain ⟨MY, hMY⟩ : ∃ T, ofL (43 :: 32 :: (digitsL k ++ 32 :: F k y)) = T := ⟨_, rfl⟩
        change ofL [45, 32] ++ ofL (digitsL k) = ofL (45 :: 32 :: digitsL k) at p1
        change ofL [43, 32] ++ ofL (digitsL k) = ofL (43 :: 32 :: digitsL k) at r1
        rw [hD] at p1 r1 s1 hd1 hd2
        rw [hP1] at p1 p2 s2
        rw [hR1] at r1 r2 s3
        rw [hP2] at p2 p3 s4
        rw [hR2] at r2 r3 s5
        rw [hLX] at p3 lx zx2
        rw [hLY] at r3 ly zy2
        rw [hMX] at p3
        rw [hMY] at r3
        rw [hMX, hMY] at hsn
        change (⟨#[45, 32]⟩ : ByteArray) ++ D = P1 at p1
        change P1 ++ (⟨#[32]⟩ : ByteArray) = P2 at p2
        change (⟨#[43, 32]⟩ : ByteArray) ++ D = R1 at r1
        change R1 ++ (⟨#[32]⟩ : ByteArray) = R2 at r2
        have hl1 : ¬ 9223372036854775807 < 2 + D.size := by omega
        have hl2 : ¬ 9223372036854775807 < P1.size + 1 := by omega
        have hl3 : ¬ 9223372036854775807 < P2.size + LX.size := by omega
        have hl4 : ¬ 9223372036854775807 < R1.size + 1 := by omega
        have hl5 : ¬ 9223372036854775807 < R2.size + LY.size := by omega
        have HSX := Lib.hid hsn
        have HDl := Lib.hid hdl
        obtain ⟨i0, hi, hz0, hz1, hz2⟩ := info_parts Tryz.infoText
        obtain ⟨oad, on, ocap, rfl⟩ := HO.out.form
        have LX := Lib.hid lx
        have LY := Lib.hid ly
        have HD1 := Lib.hid hd1
        have HD2 := Lib.hid hd2
        clear lx ly hd1 hd2
        clear hsn hx hy hc hc2 hxy sx sy zx zy hD hP1 hP2 hR1 hR2 hLX hLY hMX hMY zx2 zy2 hdl hdl2 ex ey s1 s2 s3 s4 s5
        have HKK : Hid (∀ W, Below W0.heap.size W0 W → W.cell? ⟨w.heap.size, 0, none⟩ = some (.int .i64 ga) ∧ W.cell? ⟨w.heap.size, 1, none⟩ = some (.int .i64 gb) ∧ W.cell? ⟨w.heap.size, 2, none⟩ = some (.int .i64 gc) ∧ W.cell? ⟨b, o + k, none⟩ = some (.string x) ∧ W.cell? ⟨b2, o2 + k, none⟩ = some (.string y)) := fun W hW => ⟨(HK.out W hW).1, (HK.out W hW).2.1, (HK.out W hW).2.2, HCx.out W hW, HCy.out W hW⟩
        go_wp2_with fail
        go_region_held3 (fun W => W.cell? ⟨b, o + k, none⟩ = some (.string x) ∧ W.cell? ⟨b2, o2 + k, none⟩ = some (.string y))
          ((refine HXY.out _ ?_; repeat' first | with_reducible exact HB.out | with_reducible refine blD ?_ | with_reducible refine bl1 ?_ _))
          (fail)
        go_wp2_with fail
        clear f
        go_region_held3 (fun W => W.cell? ⟨w.heap.size, 0, none⟩ = some (.int .i64 ga) ∧ W.cell? ⟨w.heap.size, 1, none⟩ = some (.int .i64 gb) ∧ W.cell? ⟨w.heap.size, 2, none⟩ = some (.int .i64 gc) ∧ W.cell? ⟨b, o + k, none⟩ = some (.string x) ∧ W.cell? ⟨b2, o2 + k, none⟩ = some (.string y))
          ((refine HKK.out _ ?_; repeat' first | with_reducible exact HB.out | with_reducible exact HB3.out | with_reducible exact HB4.out | with_reducible exact HB5.out | with_reducible exact HB6.out | with_reducible exact HB7.out | with_reducible refine blD ?_ | with_reducible refine bl1 ?_ _))
          (first
            | (go_at_call 24
               with_reducible refine HD1.out.mono ?_
               rintro e w3 ⟨rfl, hb3⟩
               have HO3 : Hid (OwnT W0.heap.size w3 (.slice oad on ocap) (DL k)) := (OwnT.below HO.out (blN (by repeat' first | with_reducible exact Below.refl _ _ | with_reducible refine blD ?_ | with_reducible refine bl1 ?_ _) hb3))
               have HB3 : Hid (Below W0.heap.size W0 w3) := blN (by repeat' first | with_reducible exact HB.out | with_reducible refine blD ?_ | with_reducible refine bl1 ?_ _) hb3
               clear hb3
               simp only)
            | (go_at_call 25
               with_reducible refine (LX.out _).mono ?_
               rintro e w4 ⟨rfl, hb4⟩
               have HO4 : Hid (OwnT W0.heap.size w4 (.slice oad on ocap) (DL k)) := (OwnT.below HO3.out (blN (by repeat' first | with_reducible exact Below.refl _ _ | with_reducible refine blD ?_ | with_reducible refine bl1 ?_ _) hb4))
               have HB4 : Hid (Below W0.heap.size W0 w4) := blN (by repeat' first | with_reducible exact HB3.out | with_reducible refine blD ?_ | with_reducible refine bl1 ?_ _) hb4
               clear hb4
               simp only)
            | (go_at_call 24
               with_reducible refine (HD2.out _).mono ?_
               rintro e w5 ⟨rfl, hb5⟩
               have HO5 : Hid (OwnT W0.heap.size w5 (.slice oad on ocap) (DL k)) := (OwnT.below HO4.out (blN (by repeat' first | with_reducible exact Below.refl _ _ | with_reducible refine blD ?_ | with_reducible refine bl1 ?_ _) hb5))
               have HB5 : Hid (Below W0.heap.size W0 w5) := blN (by repeat' first | with_reducible exact HB4.out | with_reducible refine blD ?_ | with_reducible refine bl1 ?_ _) hb5
               clear hb5
               simp only)
            | (go_at_call 25
               with_reducible refine (LY.out _).mono ?_
               rintro e w6 ⟨rfl, hb6⟩
               have HO6 : Hid (OwnT W0.heap.size w6 (.slice oad on ocap) (DL k)) := (OwnT.below HO5.out (blN (by repeat' first | with_reducible exact Below.refl _ _ | with_reducible refine blD ?_ | with_reducible refine bl1 ?_ _) hb6))
               have HB6 : Hid (Below W0.heap.size W0 w6) := blN (by repeat' first | with_reducible exact HB5.out | with_reducible refine blD ?_ | with_reducible refine bl1 ?_ _) hb6
               clear hb6
               simp only)
            | (refine step_append_lies _ (by rfl) _ _ _ (by rfl) W0.heap.size 9 i0 _ 1 16 Tryz.underlying24 hi hz0 hz1 hz2 rfl (by decide) (.slice oad on ocap) (DL k).length ((DL k).map Value.string) (by rfl) (OwnT.below HO6.out (bl2 _)) ⟨w6.heap.size, 0, none⟩ 2 2 [.string MX, .string MY] (by rfl) (by rfl) (World.news_of_block (cs := #[.string MX, .string MY]) (t := 9) (fr := (0, 0)) (heapNew w6 _)) (by simp [Value.oneCell']) (by decide) ?_ ?_ ?_ (w6.heap.size + 1) (by simp) ?_
               · (have := HDl.out; unfold maxLen; omega)
               · (have := HDl.out; omega)
               · (have := HB6.out.size; simp; omega)
               intro g7 cap7 w7 hown7 hgrow7 hat7 hlt7
               have HB7 : Hid (Below W0.heap.size W0 w7) := own_grown (OwnT.below HO6.out (bl2 _)) (bl1 HB6.out _) hgrow7 (by have := HB6.out.size; simp; omega) (Nat.le_refl _)
               have HO7 : Hid (OwnT W0.heap.size w7 (.slice (some ⟨g7, 0, none⟩) ((DL k).length + 2) cap7) (DL (k + 1))) := by
                 show OwnT _ _ _ _
                 rw [HSX.out]
                 unfold OwnT
                 rw [List.length_append, List.map_append]
                 exact hown7
               clear hown7 hgrow7 hat7 hlt7))
        all_goals
          go_wp2
          go_roundw
          case rel => exact ⟨k + 1, by omega, by go_num, HO7, HB7⟩
          case measure => simp [intOf]; omega
    · obtain rfl : k = N := by omega
      obtain ⟨oad, on, ocap, rfl⟩ := HO.out.form
      have HFin := Lib.hid (HYes.out _ _ ((OwnT.texts HO.out).mono HB0.out.size) (blN HB0.out HB.out))
      go_wp2
      first | exact HFin.out | (go_ret2; exact HFin.out)
end
end Go.Proofs.YtbjhicnjeefiaaaGreatDoor
