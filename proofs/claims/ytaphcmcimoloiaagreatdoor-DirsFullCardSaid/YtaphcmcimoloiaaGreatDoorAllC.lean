/-
  AllC: AmongDet, AllocLaid.
-/
import Derived.Test.YtaphcmcimoloiaaGreatDoorNamesA
import Derived.Test.YtaphcmcimoloiaaGreatDoorAllB
import Derived.Test.YtaphcmcimoloiaaGreatDoorDepB
namespace Go.Proofs.YtaphcmcimoloiaaGreatDoor
open Go Go.RowKit

def amongJ (x : Int) (n : Nat) : Int := (x.tmod (n : Int) + n).tmod n
theorem amongJ_bd (x : Int) (n : Nat) (h0 : 0 < n) : 0 ≤ amongJ x n ∧ amongJ x n < n := by
  have h2 : -(n : Int) < x.tmod (n : Int) := Int.lt_tmod_of_pos x (by omega)
  exact ⟨Int.tmod_nonneg _ (by omega), Int.tmod_lt_of_pos _ (by omega)⟩
set_option maxHeartbeats 1000000 in
theorem amongJ_any (w : World) (x : Int) (n : Nat) (h0 : 0 < n) (hn : n ≤ 4000000000) :
    Calls Tryz.prog 27 #[.int .i64 x, .int .i64 n] w fun e w' => e = .returned (.int .i64 (amongJ x n)) ∧ w' = w := by
  have h1 : x.tmod (n : Int) < n := Int.tmod_lt_of_pos x (by omega)
  have h2 : -(n : Int) < x.tmod (n : Int) := Int.lt_tmod_of_pos x (by omega)
  have hw : wrap64 (x.tmod (n : Int) + n) = x.tmod (n : Int) + n := IntWalk.wrap64_in _ ⟨by omega, by omega⟩
  have HY : Hid ((wrap64 (x.tmod (n : Int) + n)).tmod n = amongJ x n) := by show (wrap64 (x.tmod (n : Int) + n)).tmod n = _; rw [hw]; rfl
  clear h1 h2 hw
  go_enter Tryz.func27, Tryz.ntmps27
  go_wp2
  go_ret
  rw [HY.out]
  exact ⟨rfl, rfl⟩
end Go.Proofs.YtaphcmcimoloiaaGreatDoor

namespace Go.Proofs.YtaphcmcimoloiaaGreatDoor
open Go Go.RowKit Txt Sp

section
set_option maxHeartbeats 4000000
end
end Go.Proofs.YtaphcmcimoloiaaGreatDoor
