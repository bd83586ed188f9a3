/-
  Walks of layer 5: ask.
-/
import Derived.Test.YtghafpdmcbockaaGreatDoorMapSet
namespace Go.Proofs.YtghafpdmcbockaaGreatDoor
open Go Go.RowKit Txt Sp

section
set_option maxHeartbeats 2000000
set_option maxRecDepth 20000 in
theorem mask_any (w : World) (s : ByteArray) (n p : Int) (h : mapC s n = 0) :
    Calls Tryz.prog 148 #[.string s, .int .i64 n, .int .i64 p] w fun e w' => e = .returned (.int .i64 (manyC n p)) ∧ Below w.heap.size w w' := by
  have hc := fun W : World => mcheck_any W s n
  have hm := fun W : World => mmany_any W n p
  rw [h] at hc
  obtain ⟨c, hcc⟩ : ∃ c, manyC n p = c := ⟨_, rfl⟩
  rw [hcc] at hm ⊢
  have HC := Lib.hid hc
  have HM := Lib.hid hm
  clear hc hm
  clear h hcc
  go_enter Tryz.func148, Tryz.ntmps148
  go_wp2_with fail
  refine (HC.out _).mono ?_
  rintro e w1 ⟨rfl, hb1⟩
  have HB1 := Lib.hid (blN (Below.refl _ _) hb1)
  clear hb1
  go_wp2_with fail
  refine (HM.out _).mono ?_
  rintro e w2 ⟨rfl, hw2⟩
  subst hw2
  go_wp2
  go_ret
  exact ⟨rfl, HB1.out⟩
end
end Go.Proofs.YtghafpdmcbockaaGreatDoor
