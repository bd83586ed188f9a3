/-
  Walks of cutwaterbook: Same, where there are no changes.
-/
import Derived.Test.YtgofmnhfajmbfaaGreatDoorBookSide
namespace Go.Proofs.YtgofmnhfajmbfaaGreatDoor
open Go Go.RowKit Txt Sp

theorem read_none {S : Sp.Side} (hS : S.deps = ⟨[], 0⟩) {k : Nat} {s : ByteArray} (hk : S.disk.l[k]? = some s) (h64 : s.size = 64) : S.read (k : Int) = s ∧ S.readC (k : Int) = 0 := by
  have hlt := (List.getElem?_eq_some_iff.1 hk).1
  have hh : S.disk.has (k : Int) := by unfold Sp.Disk.has; omega
  have hg : S.disk.get (k : Int) = s := by unfold Sp.Disk.get; simp [hk]
  constructor
  · unfold Sp.Side.read Sp.Deps.view
    rw [if_pos hh, hg, if_pos h64, hS]
    show ofL (patchedL s.data.toList []) = s
    unfold patchedL
    rfl
  · unfold Sp.Side.readC Sp.Disk.readC
    rw [if_pos hh]
theorem side_ok {S : Sp.Side} (hS : S.deps = ⟨[], 0⟩) (h64 : ∀ s ∈ S.disk.l, s.size = 64) (hl : S.disk.l.length ≤ 2048) : S.Ok := by
  refine ⟨?_, h64, hl⟩
  rw [hS]
  exact ⟨by simp, by simp, by simp, by simp, by simp, by simp⟩
section
set_option maxHeartbeats 8000000
set_option maxRecDepth 20000 in
theorem bsame_any {w : World} {x B Bc Bd fm r k c : Nat} {S : Sp.Side} {D Dd : Nat → Prop} {base top : Nat} {L : List ByteArray} (h : BSide w x B Bc Bd fm r k c S D Dd base top L) (hS : S.deps = ⟨[], 0⟩) (hL : S.disk.l = L) (h64 : ∀ s ∈ L, s.size = 64) (hl : L.length ≤ 2048) :
    Calls Tryz.prog 14 #[pt x] w fun e w' => e = .returned (.bool true) ∧ Below w.heap.size w w' := by
  have hok : S.Ok := side_ok hS (by rw [hL]; exact h64) (by rw [hL]; exact hl)
  have hKP : ∀ W, Below w.heap.size w W → W.cell? ⟨x, 1, none⟩ = some (pt B) ∧ W.cell? ⟨x, 2, none⟩ = some (pt r) ∧ W.cell? ⟨x, 3, none⟩ = some (pt k) ∧ W.cell? ⟨B, 0, none⟩ = some (pt Bc) ∧ W.cell? ⟨k, 3, none⟩ = some (pt c) := fun W hW => by
    have g := h.below hW
    exact ⟨cellOf (k := 1) g.obj rfl, cellOf (k := 2) g.obj rfl, cellOf (k := 3) g.obj rfl, cellOf (k := 0) g.side.obj rfl, cellOf (k := 3) g.soft.1 rfl⟩
  have hrow : ∃ ad cap, ∀ W, Below w.heap.size w W → W.cell? ⟨r, 0, none⟩ = some (.slice ad L.length cap) := by
    obtain ⟨v, h1, h2, -⟩ := h.disk
    obtain ⟨ad, cap, rfl⟩ := h2.form
    exact ⟨ad, cap, fun W hW => cellOf (k := 0) (heapOld hW h1) rfl⟩
  obtain ⟨ad, cap, hrow⟩ := hrow
  have hsr : ∀ W, Below w.heap.size w W → ∀ (i : Nat) (s : ByteArray), L[i]? = some s → Calls Tryz.prog 64 #[pt B, .int .i64 (i : Int)] W fun e w' => e = .returned (.tuple #[.string s, .int .i64 0]) ∧ Below W.heap.size W w' := fun W hW i s hi => by
    have h1 := softRead_any (h.below hW).side.side hok (i : Int)
    obtain ⟨e1, e2⟩ := read_none hS (k := i) (s := s) (by rw [hL]; exact hi) (h64 _ (List.mem_of_getElem? hi))
    rw [e1, e2] at h1
    exact h1
  have hkr : ∀ W, Below w.heap.size w W → ∀ (i : Nat) (s : ByteArray), L[i]? = some s → Calls Tryz.prog 65 #[pt k, .int .i64 (i : Int)] W fun e w' => e = .returned (.tuple #[.string s, .int .i64 0]) ∧ w' = W := fun W hW i s hi =>
    rread14_any (h.below hW).soft (h.below hW).disk hi (h64 _ (List.mem_of_getElem? hi))
  have hsl : ∀ W, Below w.heap.size w W → Calls Tryz.prog 66 #[pt Bc, .slice none 0 0] W fun e w' => e = .returned (.int .i64 0) ∧ w' = W := fun W hW => by
    have h1 := depsLeft_nil (h.below hW).side.deps none 0
    rw [hS] at h1
    exact h1
  have hkl : ∀ W, Below w.heap.size w W → Calls Tryz.prog 67 #[pt c, .slice none 0 0] W fun e w' => e = .returned (.int .i64 0) ∧ w' = W := fun W hW => rleft_any (h.below hW).soft.2
  have hss : ∀ W, Below w.heap.size w W → Calls Tryz.prog 69 #[pt Bc] W fun e w' => ∃ ad cap, e = .returned (.slice ad 0 cap) ∧ Below W.heap.size W w' := fun W hW => by
    have hd := (h.below hW).side.deps
    rw [hS] at hd
    refine (depsSectors_any hd ?_ (by simp)).mono ?_
    · exact ⟨by have := hok.deps; rw [hS] at this; exact this, by simp, by simp, by simp⟩
    · rintro e w' ⟨v, rfl, ho, hb⟩
      obtain ⟨ad, cap, rfl⟩ := ho.form
      refine ⟨ad, cap, ?_, hb⟩
      have : (Sp.Deps.sectors ⟨[], 0⟩).length = 0 := by unfold Sp.Deps.sectors atsOf; simp
      rw [this]
  have hks : ∀ W, Below w.heap.size w W → Calls Tryz.prog 70 #[pt c] W fun e w' => e = .returned (.slice none 0 0) ∧ w' = W := fun W hW => rsectors12_any (h.below hW).soft.2
  have hsi := sameInts_nil
  obtain ⟨N, hN⟩ : ∃ N, L.length = N := ⟨_, rfl⟩
  rw [hN] at hrow hl
  have HN := Lib.hid hN
  have hKP4 : ∀ W, Below w.heap.size w W → W.cell? ⟨x, 1, none⟩ = some (pt B) ∧ W.cell? ⟨x, 3, none⟩ = some (pt k) ∧ W.cell? ⟨B, 0, none⟩ = some (pt Bc) ∧ W.cell? ⟨k, 3, none⟩ = some (pt c) := fun W hW => by
    obtain ⟨a, _, b, c, d⟩ := hKP W hW
    exact ⟨a, b, c, d⟩
  unfold pt at hKP hKP4 hsr hkr hsl hkl hss hks ⊢
  have HKP := Lib.hid hKP
  have HKP4 := Lib.hid hKP4
  have HROW := Lib.hid hrow
  have HSR := Lib.hid hsr
  have HKR := Lib.hid hkr
  have HSL := Lib.hid hsl
  have HKL := Lib.hid hkl
  have HSS := Lib.hid hss
  have HKS := Lib.hid hks
  have HSI := Lib.hid hsi
  clear hKP hKP4 hrow hsr hkr hsl hkl hss hks hsi
  clear h hS hL h64 hok hN
  go_enter Tryz.func14, Tryz.ntmps14
  go_wp2
  go_loopw [3, 4, 5, 6, 7] (fun i _ _ _ _ wr => ∃ j : Nat, j ≤ N ∧ i = .int .i64 (j : Int) ∧ Hid (Below w.heap.size w wr)) (fun i _ _ _ _ _ => N - (intOf i).toNat)
  case atStart => exact ⟨0, Nat.zero_le _, rfl, Below.refl _ _⟩
  case round =>
    obtain ⟨j, hj, rfl, HB⟩ := hrel
    obtain ⟨x1, x2, x3, b0, k3⟩ := HKP.out wr HB.out
    have r0 := HROW.out wr HB.out
    by_cases hlt : j < N
    · obtain ⟨s, hs⟩ : ∃ s, L[j]? = some s := ⟨_, List.getElem?_eq_getElem (by have := HN.out; omega)⟩
      have f1 : decide ((j : Int) < (N : Int)) = true := decide_eq_true (by omega)
      have hsr := HSR.out wr HB.out j s hs
      have HSR1 := Lib.hid hsr
      clear hsr
      go_wp2_with fail
      refine HSR1.out.mono ?_
      rintro e w2 ⟨rfl, hb2⟩
      have HB2 := Lib.hid (blN HB.out hb2)
      have HKR1 := Lib.hid (HKR.out w2 HB2.out j s hs)
      clear hb2 x1 x2 x3 b0 k3 r0 hs
      obtain ⟨x1, x2, x3, b0, k3⟩ := HKP.out w2 HB2.out
      go_wp2_with fail
      refine HKR1.out.mono ?_
      rintro e w3 ⟨rfl, rfl⟩
      have hq : (s.toList != s.toList) = false := by simp
      have hq2 : (s.toList == s.toList) = true := by simp
      go_wp2
      go_roundw
      case rel => exact ⟨j + 1, by omega, by go_num, HB2⟩
      case measure => simp [intOf]; omega
    · have f1 : decide ((j : Int) < (N : Int)) = false := decide_eq_false (by omega)
      clear x1 x3 b0 k3 HSR HKR HROW
      go_wp2
      go_region_held3 (fun W => W.cell? ⟨x, 1, none⟩ = some (.pointer (some ⟨B, 0, none⟩)) ∧ W.cell? ⟨x, 3, none⟩ = some (.pointer (some ⟨k, 0, none⟩)) ∧ W.cell? ⟨B, 0, none⟩ = some (.pointer (some ⟨Bc, 0, none⟩)) ∧ W.cell? ⟨k, 3, none⟩ = some (.pointer (some ⟨c, 0, none⟩)))
        ((refine HKP4.out _ ?_; repeat' first | with_reducible exact HB.out | with_reducible exact HB7.out | with_reducible refine blD ?_ | with_reducible refine bl1 ?_ _))
        (first
          | (go_at_call 66
             refine (HSL.out _ (by repeat' first | with_reducible exact HB.out | with_reducible exact HB7.out | with_reducible refine blD ?_ | with_reducible refine bl1 ?_ _)).mono ?_
             rintro e w5 ⟨rfl, rfl⟩
             simp only)
          | (go_at_call 67
             refine (HKL.out _ (by repeat' first | with_reducible exact HB.out | with_reducible exact HB7.out | with_reducible refine blD ?_ | with_reducible refine bl1 ?_ _)).mono ?_
             rintro e w6 ⟨rfl, rfl⟩
             simp only)
          | (go_at_call 69
             refine (HSS.out _ (by repeat' first | with_reducible exact HB.out | with_reducible refine blD ?_ | with_reducible refine bl1 ?_ _)).mono ?_
             rintro e w7 ⟨ad7, cap7, rfl, hb7⟩
             have HB7 : Hid (Below w.heap.size w w7) := blN (by repeat' first | with_reducible exact HB.out | with_reducible refine blD ?_ | with_reducible refine bl1 ?_ _) hb7
             clear hb7
             simp only)
          | (go_at_call 70
             refine (HKS.out _ (by repeat' first | with_reducible exact HB7.out | with_reducible refine blD ?_ | with_reducible refine bl1 ?_ _)).mono ?_
             rintro e w8 ⟨rfl, rfl⟩
             simp only)
          | (go_at_call 68
             refine (HSI.out _ _ _ _ _).mono ?_
             rintro e w9 ⟨rfl, rfl⟩
             simp only))
      all_goals
        go_wp2
        first | exact ⟨rfl, blD HB7.out⟩ | (go_ret; exact ⟨rfl, blD HB7.out⟩) | (go_ret; exact ⟨rfl, by repeat' first | with_reducible exact HB7.out | with_reducible refine blD ?_⟩)
end
end Go.Proofs.YtgofmnhfajmbfaaGreatDoor
