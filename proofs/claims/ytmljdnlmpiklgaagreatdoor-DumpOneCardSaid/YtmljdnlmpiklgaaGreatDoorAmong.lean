/-
  Among: a number from 0 to n - 1.
-/
import Derived.Test.YtmljdnlmpiklgaaGreatDoorNamesA
namespace Go.Proofs.YtmljdnlmpiklgaaGreatDoor
open Go Go.RowKit

set_option maxHeartbeats 1000000 in
theorem among_big (w : World) (x : Int) (n : Nat) (h0 : 0 < n) (hn : n ≤ 4000000000000000000) :
    Calls Tryz.prog 12 #[.int .i64 x, .int .i64 n] w fun e w' => ∃ r : Nat, r < n ∧ e = .returned (.int .i64 r) ∧ w' = w := by
  have h1 : x.tmod (n : Int) < n := Int.tmod_lt_of_pos x (by omega)
  have h2 : -(n : Int) < x.tmod (n : Int) := Int.lt_tmod_of_pos x (by omega)
  have hw : wrap64 (x.tmod (n : Int) + n) = x.tmod (n : Int) + n := IntWalk.wrap64_in _ ⟨by omega, by omega⟩
  have h3 : (x.tmod (n : Int) + n).tmod n < n := Int.tmod_lt_of_pos _ (by omega)
  have h4 : 0 ≤ (x.tmod (n : Int) + n).tmod n := Int.tmod_nonneg _ (by omega)
  generalize hy : (x.tmod (n : Int) + n).tmod n = y at h3 h4
  have HY : Hid ((wrap64 (x.tmod (n : Int) + n)).tmod n = y) := by show (wrap64 (x.tmod (n : Int) + n)).tmod n = y; rw [hw, hy]
  clear h1 h2 hw hy
  go_enter Tryz.func12, Tryz.ntmps12
  go_wp2
  go_ret
  rw [HY.out]
  exact ⟨y.toNat, by omega, by rw [Int.toNat_of_nonneg h4]; rfl, rfl⟩
theorem among_any (w : World) (x : Int) (n : Nat) (h0 : 0 < n) (hn : n ≤ 1000000) :
    Calls Tryz.prog 12 #[.int .i64 x, .int .i64 n] w fun e w' => ∃ r : Nat, r < n ∧ e = .returned (.int .i64 r) ∧ w' = w :=
  among_big w x n h0 (by omega)
end Go.Proofs.YtmljdnlmpiklgaaGreatDoor
