/-
  Walks of layer 5: ask, Set, Taken.
-/
import Derived.Test.YtghafpdmcbockaaGreatDoorSoftNew
import Derived.Test.YtghafpdmcbockaaGreatDoorSpTaken
namespace Go.Proofs.YtghafpdmcbockaaGreatDoor
open Go Go.RowKit Txt Sp

section
set_option maxHeartbeats 2000000
set_option maxRecDepth 20000 in
theorem mset_any (w : World) (n p : Int) (b : Bool) (h : manyC n p = 0) :
    Calls Tryz.prog 150 #[.int .i64 n, .int .i64 p, .bool b] w fun e w' => e = .returned (.tuple #[.agg #[.int .i64 p, .string (if b then oneB else zeroB)], .int .i64 0]) ∧ Below w.heap.size w w' := by
  have hm := fun W : World => mmany_any W n p
  rw [h] at hm
  have HM := Lib.hid hm
  clear hm
  clear h
  cases b with
  | true =>
    show Calls _ _ _ _ fun e w' => e = .returned (.tuple #[.agg #[.int .i64 p, .string ⟨#[1]⟩], .int .i64 0]) ∧ Below w.heap.size w w'
    go_enter Tryz.func150, Tryz.ntmps150
    go_wp2_with fail
    refine (HM.out _).mono ?_
    rintro e w1 ⟨rfl, hw1⟩
    subst hw1
    go_wp2
    refine bodyPost_ret (v := .tuple #[.agg #[.int .i64 p, .string ⟨#[1]⟩], .int .i64 0]) (by simp [results, Tryz.results150, go_sem]) rfl ⟨rfl, bl1 (bl2 _) _⟩
  | false =>
    show Calls _ _ _ _ fun e w' => e = .returned (.tuple #[.agg #[.int .i64 p, .string ⟨#[0]⟩], .int .i64 0]) ∧ Below w.heap.size w w'
    go_enter Tryz.func150, Tryz.ntmps150
    go_wp2_with fail
    refine (HM.out _).mono ?_
    rintro e w1 ⟨rfl, hw1⟩
    subst hw1
    go_wp2
    refine bodyPost_ret (v := .tuple #[.agg #[.int .i64 p, .string ⟨#[0]⟩], .int .i64 0]) (by simp [results, Tryz.results150, go_sem]) rfl ⟨rfl, bl1 (bl2 _) _⟩
end
end Go.Proofs.YtghafpdmcbockaaGreatDoor
