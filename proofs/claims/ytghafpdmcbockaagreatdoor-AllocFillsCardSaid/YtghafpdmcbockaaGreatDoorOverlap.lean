/-
  Walks of layer 1: Overlap.
-/
import Derived.Test.YtghafpdmcbockaaGreatDoorDiskNew
import Derived.Test.YtghafpdmcbockaaGreatDoorTableA
namespace Go.Proofs.YtghafpdmcbockaaGreatDoor
open Go Go.RowKit Txt Sp

section
set_option maxHeartbeats 2000000
set_option maxRecDepth 20000 in
theorem foverlap_any (w : World) (o1 o2 : Int) (b1 b2 : ByteArray) (h1 : inside o1 b1.size) (h2 : inside o2 b2.size) :
    Calls Tryz.prog 265 #[.agg #[.int .i64 o1, .string b1], .agg #[.int .i64 o2, .string b2]] w fun e w' => e = .returned (.tuple #[.bool (decide (max o1 o2 < min (o1 + b1.size) (o2 + b2.size))), .int .i64 0]) ∧ Below w.heap.size w w' := by
  have hc1 := fun W : World => fcheck_any W o1 b1
  have hc2 := fun W : World => fcheck_any W o2 b2
  rw [if_pos h1] at hc1
  rw [if_pos h2] at hc2
  have e1 : IntKind.i64.wrap (o1 + (b1.size : Int)) = o1 + (b1.size : Int) := IntWalk.i64_in _ (by unfold inside at h1; omega)
  have e2 : IntKind.i64.wrap (o2 + (b2.size : Int)) = o2 + (b2.size : Int) := IntWalk.i64_in _ (by unfold inside at h2; omega)
  obtain ⟨W1, hW1⟩ : ∃ W, (w.alloc (.cells #[.int .i64 o1, .string b1] 172)).alloc (.cells #[.int .i64 o2, .string b2] 172) = W := ⟨_, rfl⟩
  have hs1 : W1.heap.size = w.heap.size + 2 := by rw [← hW1]; simp
  have HB1 : Hid (Below w.heap.size w W1) := by rw [← hW1]; exact bl1 (bl2 _) _
  have HZ0 : Hid (W1.heap[w.heap.size]? = some (.cells #[.int .i64 o1, .string b1] 172 (0, 0))) := by rw [← hW1]; exact heapOld (bl2 _) (heapNew w _)
  have HZ1 : Hid (W1.heap[w.heap.size + 1]? = some (.cells #[.int .i64 o2, .string b2] 172 (0, 0))) := by
    rw [← hW1]
    have := heapNew (w.alloc (.cells #[.int .i64 o1, .string b1] 172)) (.cells #[.int .i64 o2, .string b2] 172)
    rw [show (w.alloc (.cells #[.int .i64 o1, .string b1] 172)).heap.size = w.heap.size + 1 by simp] at this
    exact this
  have HC0 : Hid (∀ W, Below W1.heap.size W1 W → W.cell? ⟨w.heap.size, 0, none⟩ = some (.int .i64 o1) ∧ W.cell? ⟨w.heap.size, 1, none⟩ = some (.string b1) ∧ W.cell? ⟨w.heap.size + 1, 0, none⟩ = some (.int .i64 o2) ∧ W.cell? ⟨w.heap.size + 1, 1, none⟩ = some (.string b2)) := fun W hW =>
    ⟨cellOf (k := 0) (heapOld hW HZ0.out) rfl, cellOf (k := 1) (heapOld hW HZ0.out) rfl, cellOf (k := 0) (heapOld hW HZ1.out) rfl, cellOf (k := 1) (heapOld hW HZ1.out) rfl⟩
  obtain ⟨x0, x1, x2, x3⟩ := HC0.out W1 (Below.refl _ _)
  have HS1 := Lib.hid hs1
  have HC1 := Lib.hid hc1
  have HC2' := Lib.hid hc2
  clear hc1 hc2
  clear h1 h2 hs1
  obtain ⟨W2, hW2⟩ : ∃ W, W1.alloc (.cells #[.int .i64 o1, .string b1, .int .i64 o2, .string b2] 172) = W := ⟨_, rfl⟩
  have HB2 : Hid (Below W1.heap.size W1 W2) := by rw [← hW2]; exact bl2 _
  have HZ2 : Hid (W2.heap[W1.heap.size]? = some (.cells #[.int .i64 o1, .string b1, .int .i64 o2, .string b2] 172 (0, 0))) := by rw [← hW2]; exact heapNew W1 _
  have HC2 : Hid (∀ W, Below W2.heap.size W2 W → W.cell? ⟨W1.heap.size, 0, none⟩ = some (.int .i64 o1) ∧ W.cell? ⟨W1.heap.size, 1, none⟩ = some (.string b1) ∧ W.cell? ⟨W1.heap.size, 2, none⟩ = some (.int .i64 o2) ∧ W.cell? ⟨W1.heap.size, 3, none⟩ = some (.string b2)) := fun W hW =>
    ⟨cellOf (k := 0) (heapOld hW HZ2.out) rfl, cellOf (k := 1) (heapOld hW HZ2.out) rfl, cellOf (k := 2) (heapOld hW HZ2.out) rfl, cellOf (k := 3) (heapOld hW HZ2.out) rfl⟩
  go_enter Tryz.func265, Tryz.ntmps265
  go_wp2_with fail
  clear hW1 hW2 x0 x1 x2 x3
  go_loopw [13] (fun i wr => ∃ k : Nat, k ≤ 2 ∧ i = .int .i64 (k : Int) ∧ Hid (Below W2.heap.size W2 wr)) (fun i _ => 2 - (intOf i).toNat)
  case atStart => exact ⟨0, by omega, rfl, Below.refl _ _⟩
  case round =>
    obtain ⟨k, hk, rfl, HB⟩ := hrel
    obtain ⟨y0, y1, y2, y3⟩ := HC2.out wr HB.out
    have hcase : k = 0 ∨ k = 1 ∨ k = 2 := by omega
    rcases hcase with rfl | rfl | rfl
    · go_wp2_with fail
      refine (HC1.out _).mono ?_
      rintro e w3 ⟨rfl, hb3⟩
      have HB3 := Lib.hid (blN (bl1 HB.out _) hb3)
      clear hb3 y0 y1 y2 y3
      go_wp2
      go_roundw
      case rel => exact ⟨1, by omega, rfl, HB3⟩
      case measure => simp [intOf]
    · go_wp2_with fail
      refine (HC2'.out _).mono ?_
      rintro e w3 ⟨rfl, hb3⟩
      have HB3 := Lib.hid (blN (bl1 HB.out _) hb3)
      clear hb3 y0 y1 y2 y3
      go_wp2
      go_roundw
      case rel => exact ⟨2, by omega, rfl, HB3⟩
      case measure => simp [intOf]
    · clear y0 y1 y2 y3
      obtain ⟨y0, y1, y2, y3⟩ := HC0.out wr (blN HB2.out HB.out)
      go_wp2
      go_ret2
      exact ⟨rfl, blN HB1.out (blN HB2.out HB.out)⟩
end
end Go.Proofs.YtghafpdmcbockaaGreatDoor
