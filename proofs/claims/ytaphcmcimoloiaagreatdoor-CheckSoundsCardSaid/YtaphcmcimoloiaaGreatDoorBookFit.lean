/-
  A text made a sector (cutwaterbook.Fit); two lists of defects compared.
-/
import Derived.Test.YtaphcmcimoloiaaGreatDoorDefKeys
import Derived.BigQuiet
import Derived.Deep.QuietTactic
namespace Go.Proofs.YtaphcmcimoloiaaGreatDoor
open Go Go.RowKit Txt Sp

set_option maxHeartbeats 2000000
set_option maxRecDepth 20000
theorem fit_any (w : World) (s : ByteArray) (hs : s.size ≤ 64) : Calls Tryz.prog 57 #[.string s] w fun e w' => e = .returned (.string (ofL (patchL (zeros 64) 0 s.data.toList))) ∧ Below w.heap.size w w' := by
  obtain ⟨i0, hi, hz0, hz1, hz2⟩ := info_parts infoU8
  have hmk : (Instr.makeSlice 53 (.int .i64 64) (.int .i64 64)).run Tryz.prog w = .ok (.slice (some ⟨w.heap.size, 0, none⟩) 64 64) (w.alloc (bytesO (zeros 64) 5 (0, 0))) := run_make_bytes (P := Tryz.prog) w (t := 53) Tryz.underlying53 hi hz0 hz1 hz2 64 (by decide)
  obtain ⟨W0, hW0⟩ : ∃ W, w.alloc (bytesO (zeros 64) 5 (0, 0)) = W := ⟨_, rfl⟩
  have hr0 : W0.heap[w.heap.size]? = some (bytesO (zeros 64) 5 (0, 0)) := by rw [← hW0]; exact heapNew w _
  have hb0 : Below w.heap.size w W0 := by rw [← hW0]; exact bl2 _
  rw [hW0] at hmk
  have hz : s.data.toList.length = s.size := Array.length_toList
  have hcp := run_copy_at (P := Tryz.prog) W0 (ty := 3) (sT := 9) (off := 0) (n := 64) Tryz.underlying53 (by rw [hi]; exact congrArg some hz1) hr0 (Or.inl rfl) s hs (by rw [zeros_length]; omega) 64
  have hlen : (patchL (zeros 64) 0 s.data.toList).length = 64 := by rw [patchL_length (by rw [zeros_length, hz]; omega), zeros_length]
  have hr1 := setRow_bytes hr0 (patchL (zeros 64) 0 s.data.toList)
  obtain ⟨P, hP⟩ : ∃ P, patchL (zeros 64) 0 s.data.toList = P := ⟨_, rfl⟩
  rw [hP] at hcp hlen hr1 ⊢
  have hb1 : Below w.heap.size w (W0.setRow w.heap.size (bytesV P).toArray) := below_setRow hb0 (Nat.le_refl _) _
  obtain ⟨W1, hW1⟩ : ∃ W, W0.setRow w.heap.size (bytesV P).toArray = W := ⟨_, rfl⟩
  rw [hW1] at hcp hr1 hb1
  have hcv := run_bytes_text (P := Tryz.prog) W1 (src := 53) (dst := 9) (z := []) (l := P) (n := 64) Tryz.underlying53 Tryz.underlying5 Tryz.underlying9 (by rw [List.append_nil]; exact hr1) hlen.symm 64
  have HB := Lib.hid hb1
  clear hi hz0 hz1 hz2 hW0 hr0 hb0 hs hz hlen hr1 hP hb1 hW1
  go_enter Tryz.func57, Tryz.ntmps57
  go_wp2
  go_ret
  exact ⟨rfl, HB.out⟩
theorem neq_def (w : World) (a b a' b' : Int) : (binOp .neq 107 (.agg #[.int .i64 a, .int .i64 b]) (.agg #[.int .i64 a', .int .i64 b'])).run Tryz.prog w = .ok (.bool (!decide (a = a' ∧ b = b'))) w := by
  have h := equal_def w (a, b) (a', b')
  have e : decide ((a, b) = (a', b')) = decide (a = a' ∧ b = b') := by simp
  rw [e] at h
  unfold Op.equal Op.maxDepth defV at h
  rw [run_neq_struct, h]
  rfl
theorem sameDefects_any (w : World) (v u : Value) (l : List (Int × Int)) (hv : RowAt w v 2 (l.map defC)) (hu : RowAt w u 2 (l.map defC)) : Calls Tryz.prog 14 #[v, u] w fun e w' => e = .returned (.bool true) ∧ Below w.heap.size w w' := by
  obtain ⟨ad, n, cap, rfl, HN, hn2, HF⟩ := RowAt.facts hv
  obtain ⟨ad', n', cap', rfl, HN', -, HF'⟩ := RowAt.facts hu
  obtain rfl : n' = n := HN'.out.trans HN.out.symm
  have q0 : ((n' : Int) != (n' : Int)) = false := by simp
  clear hv hu
  go_enter Tryz.func14, Tryz.ntmps14
  go_wp2
  go_loopw [5] (fun i5 wr => ∃ k : Nat, k ≤ n' ∧ i5 = .int .i64 (k : Int) ∧ Hid (Below w.heap.size w wr)) (fun i5 _ => n' - (intOf i5).toNat)
  case atStart => exact ⟨0, Nat.zero_le _, rfl, Below.refl _ _⟩
  case round =>
    obtain ⟨k, hk, rfl, HB⟩ := hrel
    by_cases hlt : k < n'
    · obtain ⟨b, o, x, rfl, hb, hx, hc⟩ := HF.out k hlt
      obtain ⟨b', o', x', rfl, hb', hx', hc'⟩ := HF'.out k hlt
      obtain rfl : x = x' := by rw [hx] at hx'; exact Option.some.inj hx'
      obtain ⟨x1, x2⟩ := x
      have y0 : wr.cell? ⟨b, o + k * 2, none⟩ = some (.int .i64 x1) := (HB.out.cell (p := ⟨b, o + k * 2, none⟩) hb).trans (hc 0 _ rfl)
      have y1 : wr.cell? ⟨b, o + k * 2 + 1, none⟩ = some (.int .i64 x2) := (HB.out.cell (p := ⟨b, o + k * 2 + 1, none⟩) hb).trans (hc 1 _ rfl)
      have z0 : wr.cell? ⟨b', o' + k * 2, none⟩ = some (.int .i64 x1) := (HB.out.cell (p := ⟨b', o' + k * 2, none⟩) hb').trans (hc' 0 _ rfl)
      have z1 : wr.cell? ⟨b', o' + k * 2 + 1, none⟩ = some (.int .i64 x2) := (HB.out.cell (p := ⟨b', o' + k * 2 + 1, none⟩) hb').trans (hc' 1 _ rfl)
      have hne := fun W : World => neq_def W x1 x2 x1 x2
      have hd : (!decide (x1 = x1 ∧ x2 = x2)) = false := by simp
      rw [hd] at hne
      clear hc hc' hx hx' hb hb' hd
      go_wp2_with fail
      go_quiet (fail)
      rename_i nq
      have HB1 : Hid (Below w.heap.size w (wr.drewN nq)) := below_drewN HB.out _
      go_wp2
      go_roundw
      case rel => exact ⟨k + 1, by omega, by go_num, HB1⟩
      case measure => simp [intOf]; omega
    · go_wp2
      go_ret
      exact ⟨rfl, HB.out⟩
end Go.Proofs.YtaphcmcimoloiaaGreatDoor
